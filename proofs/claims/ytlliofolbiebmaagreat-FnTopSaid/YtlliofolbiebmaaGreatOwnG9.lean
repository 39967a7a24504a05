import Derived.Test.YtlliofolbiebmaaGreatOwnG8
import Derived.Test.YtlliofolbiebmaaGreatOwnG5
import Derived.Test.YtlliofolbiebmaaGreatOwnY1
import Derived.Test.YtlliofolbiebmaaGreatOwnE1
set_option linter.unusedSimpArgs false
set_option linter.unusedVariables false
set_option maxRecDepth 20000
set_option maxHeartbeats 2000000
namespace Go.Own
open Go Go.Proofs
def cHasPart : Contract := ⟨[], false, fun
 | [.one (.sl 1 l), .one (.v (.int .i64 x))] => some (WfI l, [⟨false, [.d (.v (.bool (anyIn (unI l) x)))]⟩], [])
 | _ => none⟩
theorem anyb_drop {α : Type} {xs : List α} {i : Nat} (h : i < xs.length) (d : α) (f : α → Bool) : (xs.drop i).any f = (f (xs.getD i d) || (xs.drop (i + 1)).any f) := by rw [drop_getD h d, List.any_cons]
theorem hasPart_ok : ContractOK E0 71 cHasPart := by
 refine contract_of_wpc (E := E0) (T := mkT Tryz.prog [(48, cInside)] false (fun _ => false) true (fun _ => false)) (mkT_ok (E := E0) (.cons inside_ok .nil)) (fn := Tryz.f71) Tryz.func71 (by kernel_rfl) rfl mixedT (by kernel_rfl) rfl ?_
 intro args p rs ms hr
 unfold cHasPart at hr
 dsimp only at hr
 split at hr
 rotate_left
 ·cases hr
 rename_i l x
 simp only [Option.some.injEq, Prod.mk.injEq] at hr
 obtain ⟨rfl, rfl, rfl⟩ := hr
 refine ⟨rfl, rfl, Nat.le_of_ble_eq_true rfl, ?_⟩
 have hm : maxLen = 9223372036854775807 := rfl
 intro h1 bs
 obtain ⟨xs, rfl, hx⟩ := h1.ex
 clear h1
 rw [unI_iL]
 unfold anyIn
 (repeat' (first | (refine gate_a fun _ => ?_) | (refine fork_intro (fun hb => ?_) (fun hb => ?_) <;> (try simp only [ew] at hb)) | (simp only [go_sem, Nat.reduceLeDiff, Nat.reduceEqDiff, reduceIte, reduceCtorEq, Nat.reduceAdd, Nat.reduceMul, Nat.reduceSub, Nat.reduceLT, Int.reduceLT, Int.reduceLE, Int.reduceNeg, Int.reduceToNat, Nat.reduceBEq, Nat.reduceBNe, Int.reduceGE, Int.reduceGT, *, cHasPart, cInside, Tryz.results71])))
 refine loop_intro { ι := Nat, rs := [(4, 5), (6, 7), (10, 17)], mods := [(9, fun i => .one (.d (.v (.int .i64 i))))], boxes := [], arrs := [], ok := fun i => i ≤ xs.length ∧ (xs.drop i).any (fun y => insB y x) = xs.any (fun y => insB y x), mu := fun i => xs.length - i } rfl 0 ⟨Nat.zero_le _, rfl⟩ ?_ fun i hi => ?_
 ·(repeat' (first | (refine gate_a fun _ => ?_) | (refine fork_intro (fun hb => ?_) (fun hb => ?_) <;> (try simp only [ew] at hb)) | (simp only [go_sem, Nat.reduceLeDiff, Nat.reduceEqDiff, reduceIte, reduceCtorEq, Nat.reduceAdd, Nat.reduceMul, Nat.reduceSub, Nat.reduceLT, Int.reduceLT, Int.reduceLE, Int.reduceNeg, Int.reduceToNat, Nat.reduceBEq, Nat.reduceBNe, Int.reduceGE, Int.reduceGT, *, cHasPart, cInside, Tryz.results71])))
 ·dsimp only at i hi
  obtain ⟨hi, ht⟩ := hi
  by_cases h5 : i < xs.length
  ·rw [anyb_drop h5 0] at ht
   cases hq : insB (xs.getD i 0) x
   ·rw [hq, Bool.false_or] at ht
    rw [insB_def] at hq
    (repeat' (first | (refine gate_a fun _ => ?_) | (refine fork_intro (fun hb => ?_) (fun hb => ?_) <;> (try simp only [ew, hq] at hb)) | (simp only [go_sem, Nat.reduceLeDiff, Nat.reduceEqDiff, reduceIte, reduceCtorEq, Nat.reduceAdd, Nat.reduceMul, Nat.reduceSub, Nat.reduceLT, Int.reduceLT, Int.reduceLE, Int.reduceNeg, Int.reduceToNat, Nat.reduceBEq, Nat.reduceBNe, Int.reduceGE, Int.reduceGT, *, cHasPart, cInside, Tryz.results71, hq])))
    refine loop_next (i + 1) ⟨by omega, ht⟩ (by dsimp only; omega) ?_
    clear ht
    (repeat' (first | (refine gate_a fun _ => ?_) | (refine fork_intro (fun hb => ?_) (fun hb => ?_) <;> (try simp only [ew, hq] at hb)) | (simp only [go_sem, Nat.reduceLeDiff, Nat.reduceEqDiff, reduceIte, reduceCtorEq, Nat.reduceAdd, Nat.reduceMul, Nat.reduceSub, Nat.reduceLT, Int.reduceLT, Int.reduceLE, Int.reduceNeg, Int.reduceToNat, Nat.reduceBEq, Nat.reduceBNe, Int.reduceGE, Int.reduceGT, *, cHasPart, cInside, Tryz.results71, hq])))
   ·rw [hq, Bool.true_or] at ht
    rw [← ht]
    rw [insB_def] at hq
    clear ht
    (repeat' (first | (refine gate_a fun _ => ?_) | (refine fork_intro (fun hb => ?_) (fun hb => ?_) <;> (try simp only [ew, hq] at hb)) | (simp only [go_sem, Nat.reduceLeDiff, Nat.reduceEqDiff, reduceIte, reduceCtorEq, Nat.reduceAdd, Nat.reduceMul, Nat.reduceSub, Nat.reduceLT, Int.reduceLT, Int.reduceLE, Int.reduceNeg, Int.reduceToNat, Nat.reduceBEq, Nat.reduceBNe, Int.reduceGE, Int.reduceGT, *, cHasPart, cInside, Tryz.results71, hq])))
  ·have e5 : i = xs.length := by omega
   subst e5
   rw [List.drop_length, List.any_nil] at ht
   rw [← ht]
   clear ht
   (repeat' (first | (refine gate_a fun _ => ?_) | (refine fork_intro (fun hb => ?_) (fun hb => ?_) <;> (try simp only [ew] at hb)) | (simp only [go_sem, Nat.reduceLeDiff, Nat.reduceEqDiff, reduceIte, reduceCtorEq, Nat.reduceAdd, Nat.reduceMul, Nat.reduceSub, Nat.reduceLT, Int.reduceLT, Int.reduceLE, Int.reduceNeg, Int.reduceToNat, Nat.reduceBEq, Nat.reduceBNe, Int.reduceGE, Int.reduceGT, *, cHasPart, cInside, Tryz.results71])))
attribute [local go_sem] unD_dL dL_length dL_get dL_set dL_inj wfD_dL scal2 beq2 pair_eta
def pdI (p : Int → Int → Bool) (n : Int) (r : Nat) (i : Nat) (tk : List Int) : Prop := i ≤ (pbsI n).length ∧ (∀ y ∈ tk, 0 ≤ y ∧ y ≤ 31) ∧ tk.length ≤ i ∧ minR p r tk ((pbsI n).drop i) = minR p r [] (pbsI n)
theorem pdI_start {p : Int → Int → Bool} {n : Int} {r : Nat} : pdI p n r 0 [] := ⟨Nat.zero_le _, by simp, Nat.le_refl _, rfl⟩
theorem pdI_skip {p : Int → Int → Bool} {n : Int} {r i : Nat} {tk : List Int} (h : pdI p n r i tk) (h5 : i < (pbsI n).length) (hc : (!hasB ((pbsI n).getD i 0) r && !anyIn tk ((pbsI n).getD i 0) && p ((pbsI n).getD i 0) r) = false) : pdI p n r (i + 1) tk := by
 obtain ⟨h1, h2, h3, h4⟩ := h
 refine ⟨h5, h2, by omega, ?_⟩
 rw [minR_go h5, hc, if_neg (by decide)] at h4
 exact h4
theorem pdI_take {p : Int → Int → Bool} {n : Int} {r i : Nat} {tk : List Int} (h : pdI p n r i tk) (h5 : i < (pbsI n).length) (hc : (!hasB ((pbsI n).getD i 0) r && !anyIn tk ((pbsI n).getD i 0) && p ((pbsI n).getD i 0) r) = true) : pdI p n r (i + 1) (tk ++ [(pbsI n).getD i 0]) := by
 obtain ⟨h1, h2, h3, h4⟩ := h
 refine ⟨h5, fun y hy => ?_, by rw [List.length_append]; simp; omega, ?_⟩
 ·rcases List.mem_append.1 hy with hy | hy
  ·exact h2 y hy
  ·rw [List.mem_singleton] at hy
   subst hy
   exact (@pbsI_facts n).2.2 i h5
 ·rw [minR_go h5, hc, if_pos rfl] at h4
  exact h4
theorem pdI_end {p : Int → Int → Bool} {n : Int} {r : Nat} {tk : List Int} (h : pdI p n r (pbsI n).length tk) : tk.map (fun x => (x, (r : Int))) = minC p n r := by
 obtain ⟨h1, h2, h3, h4⟩ := h
 rw [List.drop_length, minR] at h4
 unfold minC
 rw [← h4]
theorem minT_step {p : Int → Int → Bool} {n : Int} {r : Nat} {tk : List Int} (h : pdI p n r (pbsI n).length tk) : minT p n r ++ tk.map (fun x => (x, (r : Int))) = minT p n (r + 1) := by rw [pdI_end h]; rfl
theorem acc_snoc {T : List (Int × Int)} {tk : List Int} {x r : Int} : T ++ (tk ++ [x]).map (fun x => (x, r)) = (T ++ tk.map fun x => (x, r)) ++ [(x, r)] := by simp
theorem acc_len {p : Int → Int → Bool} {n : Int} {r i : Nat} {tk : List Int} (hr : r < 5) (h : pdI p n r i tk) : (minT p n r ++ tk.map fun x => (x, (r : Int))).length ≤ 256 ∧ tk.length ≤ 32 := by
 have h1 := @minT_length p n r
 have h2 := (@pbsI_facts n).1
 have h3 := h.1
 have h4 := h.2.2.1
 rw [List.length_append, List.length_map]
 omega
end Go.Own
