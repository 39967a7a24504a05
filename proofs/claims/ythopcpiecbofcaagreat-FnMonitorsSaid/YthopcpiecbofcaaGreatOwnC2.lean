import Derived.Test.YthopcpiecbofcaaGreatOwnC1
set_option linter.unusedSimpArgs false
set_option linter.unusedVariables false
set_option maxRecDepth 20000
set_option maxHeartbeats 2000000
namespace Go.Own
open Go Go.Proofs
def cHas : Contract := ⟨[], false, fun
 | [.one (.sl 1 l), .one (.v (.int .i64 n))] => some (WfI l, [⟨false, [.d (.v (.bool ((unI l).contains n)))]⟩], [])
 | _ => none⟩
theorem contains_drop {xs : List Int} {i : Nat} (h : i < xs.length) (n : Int) : (xs.drop i).contains n = (n == xs.getD i 0 || (xs.drop (i + 1)).contains n) := by
 rw [drop_getD h 0]; rfl
theorem hasS_ok : ContractOK E0 124 cHas := by
 refine contract_of_wpc (E := E0) (T := mkT Tryz.prog [] false (fun _ => false) true (fun _ => false)) (mkT_ok (E := E0) .nil) (fn := Tryz.f124) Tryz.func124 (by kernel_rfl) rfl mixedT (by kernel_rfl) rfl ?_
 intro args p rs ms hr
 unfold cHas at hr
 dsimp only at hr
 split at hr
 rotate_left
 ·cases hr
 rename_i l n
 simp only [Option.some.injEq, Prod.mk.injEq] at hr
 obtain ⟨rfl, rfl, rfl⟩ := hr
 refine ⟨rfl, rfl, Nat.le_of_ble_eq_true rfl, ?_⟩
 have hm : maxLen = 9223372036854775807 := rfl
 intro h1 bs
 obtain ⟨xs, rfl, hx⟩ := h1.ex
 clear h1
 rw [unI_iL]
 (repeat' (first | (refine gate_a fun _ => ?_) | (refine fork_intro (fun hb => ?_) (fun hb => ?_) <;> (try simp only [ew] at hb)) | (simp only [go_sem, Nat.reduceLeDiff, Nat.reduceEqDiff, reduceIte, reduceCtorEq, Nat.reduceAdd, Nat.reduceMul, Nat.reduceSub, Nat.reduceLT, Int.reduceLT, Int.reduceLE, Int.reduceNeg, Int.reduceToNat, Nat.reduceBEq, Nat.reduceBNe, Int.reduceGE, Int.reduceGT, *, cHas, Tryz.results124])))
 refine loop_intro { ι := Nat, rs := [(4, 5), (6, 18)], mods := [(5, fun i => .one (.d (.v (.int .i64 i))))], boxes := [], arrs := [], ok := fun i => i ≤ xs.length ∧ (xs.drop i).contains n = xs.contains n, mu := fun i => xs.length - i } rfl 0 ⟨Nat.zero_le _, rfl⟩ ?_ fun i hi => ?_
 ·(repeat' (first | (refine gate_a fun _ => ?_) | (refine fork_intro (fun hb => ?_) (fun hb => ?_) <;> (try simp only [ew] at hb)) | (simp only [go_sem, Nat.reduceLeDiff, Nat.reduceEqDiff, reduceIte, reduceCtorEq, Nat.reduceAdd, Nat.reduceMul, Nat.reduceSub, Nat.reduceLT, Int.reduceLT, Int.reduceLE, Int.reduceNeg, Int.reduceToNat, Nat.reduceBEq, Nat.reduceBNe, Int.reduceGE, Int.reduceGT, *, cHas, Tryz.results124])))
 ·dsimp only at i hi
  obtain ⟨hi, ht⟩ := hi
  (repeat' (first | (refine gate_a fun _ => ?_) | (refine fork_intro (fun hb => ?_) (fun hb => ?_) <;> (try simp only [ew] at hb)) | (simp only [go_sem, Nat.reduceLeDiff, Nat.reduceEqDiff, reduceIte, reduceCtorEq, Nat.reduceAdd, Nat.reduceMul, Nat.reduceSub, Nat.reduceLT, Int.reduceLT, Int.reduceLE, Int.reduceNeg, Int.reduceToNat, Nat.reduceBEq, Nat.reduceBNe, Int.reduceGE, Int.reduceGT, *, cHas, Tryz.results124])))
  ·have e := ‹xs.getD i 0 = n›
   rw [← ht, contains_drop (by omega), e]; simp
  ·have e := ‹¬ xs.getD i 0 = n›
   refine loop_next (i + 1) ⟨by omega, ?_⟩ (by dsimp only; omega) ?_
   ·rw [← ht, contains_drop (i := i) (by omega), beq_false_of_ne (fun h => e h.symm)]; rfl
   ·(repeat' (first | (refine gate_a fun _ => ?_) | (refine fork_intro (fun hb => ?_) (fun hb => ?_) <;> (try simp only [ew] at hb)) | (simp only [go_sem, Nat.reduceLeDiff, Nat.reduceEqDiff, reduceIte, reduceCtorEq, Nat.reduceAdd, Nat.reduceMul, Nat.reduceSub, Nat.reduceLT, Int.reduceLT, Int.reduceLE, Int.reduceNeg, Int.reduceToNat, Nat.reduceBEq, Nat.reduceBNe, Int.reduceGE, Int.reduceGT, *, cHas, Tryz.results124])))
  ·rw [← ht, List.drop_of_length_le (by omega)]; rfl
theorem col_facts {c : Int} {rs : List (List Int)} {a : Int} (ht : tabOK c rs = true) (hi : inB a 0 (c - 1) = true) : ∃ a' c' : Nat, a = a' ∧ c = c' ∧ a' < c' ∧ rs.length ≤ 40 ∧ ∀ i, i < rs.length → (rs.getD i []).length = c' := by
 obtain ⟨a', b', c', h1, h2, h3, h4, h5, h6, h7⟩ := cols_facts (c := c) (rs := rs) (a := a) (b := a) (by rw [colsOK, ht, hi]; rfl)
 exact ⟨a', c', h1, h3, h4, h6, h7⟩
end Go.Own
