import Derived.Test.YtjembhkhgahhiaaGreatOwnC1
set_option linter.unusedSimpArgs false
set_option linter.unusedVariables false
set_option maxRecDepth 20000
set_option maxHeartbeats 2000000
namespace Go.Own
open Go Go.Proofs
def cHas : Contract := ⟨[], false, fun
 | [.one (.sl 1 l), .one (.v (.int .i64 n))] => some (WfI l, [⟨false, [.d (.v (.bool ((unI l).contains n)))]⟩], [])
 | _ => none⟩
theorem contains_drop {xs : List Int} {i : Nat} (h : i < xs.length) (n : Int) : (xs.drop i).contains n = (n == xs.getD i 0 || (xs.drop (i + 1)).contains n) := by
 rw [drop_getD h 0]; rfl
theorem hasI_ok : ContractOK E0 119 cHas := by
 refine cWpc (E := E0) (T := mkT Tryz.prog [] false (fun _ => false) true (fun _ => false)) (mkT_ok (E := E0) .nil) (fn := Tryz.f119) Tryz.func119 (by kernel_rfl) rfl mixedT (by kernel_rfl) rfl ?_
 intro args p rs ms hr
 unfold cHas at hr
 dsimp only at hr
 split at hr
 rotate_left
 ·cases hr
 rename_i l n
 simp only [Option.some.injEq, Prod.mk.injEq] at hr
 obtain ⟨rfl, rfl, rfl⟩ := hr
 refine ⟨rfl, rfl, Nat.le_of_ble_eq_true rfl, ?_⟩
 have hm : maxLen = 9223372036854775807 := rfl
 intro h1 bs
 obtain ⟨xs, rfl, hx⟩ := h1.ex
 clear h1
 rw [unI_iL]
 (repeat' (first | (refine gA fun _ => ?_) | (refine fkI (fun hb => ?_) (fun hb => ?_) <;> (try simp only [ew] at hb)) | (simp only [go_sem, Nat.reduceLeDiff, Nat.reduceEqDiff, reduceIte, reduceCtorEq, Nat.reduceAdd, Nat.reduceMul, Nat.reduceSub, Nat.reduceLT, Int.reduceLT, Int.reduceLE, Int.reduceNeg, Int.reduceToNat, Nat.reduceBEq, Nat.reduceBNe, Int.reduceGE, Int.reduceGT, *, cHas, Tryz.results119])))
 refine lpI { ι := Nat, rs := [(4, 5), (6, 7), (10, 17)], mods := [(9, fun i => .one (.d (.v (.int .i64 i))))], boxes := [], arrs := [], ok := fun i => i ≤ xs.length ∧ (xs.drop i).contains n = xs.contains n, mu := fun i => xs.length - i } rfl 0 ⟨Nat.zero_le _, rfl⟩ ?_ fun i hi => ?_
 ·(repeat' (first | (refine gA fun _ => ?_) | (refine fkI (fun hb => ?_) (fun hb => ?_) <;> (try simp only [ew] at hb)) | (simp only [go_sem, Nat.reduceLeDiff, Nat.reduceEqDiff, reduceIte, reduceCtorEq, Nat.reduceAdd, Nat.reduceMul, Nat.reduceSub, Nat.reduceLT, Int.reduceLT, Int.reduceLE, Int.reduceNeg, Int.reduceToNat, Nat.reduceBEq, Nat.reduceBNe, Int.reduceGE, Int.reduceGT, *, cHas, Tryz.results119])))
 ·dsimp only at i hi
  obtain ⟨hi, ht⟩ := hi
  (repeat' (first | (refine gA fun _ => ?_) | (refine fkI (fun hb => ?_) (fun hb => ?_) <;> (try simp only [ew] at hb)) | (simp only [go_sem, Nat.reduceLeDiff, Nat.reduceEqDiff, reduceIte, reduceCtorEq, Nat.reduceAdd, Nat.reduceMul, Nat.reduceSub, Nat.reduceLT, Int.reduceLT, Int.reduceLE, Int.reduceNeg, Int.reduceToNat, Nat.reduceBEq, Nat.reduceBNe, Int.reduceGE, Int.reduceGT, *, cHas, Tryz.results119])))
  ·have e := ‹xs.getD i 0 = n›
   rw [← ht, contains_drop (by omega), e]; simp
  ·have e := ‹¬ xs.getD i 0 = n›
   refine lpN (i + 1) ⟨by omega, ?_⟩ (by dsimp only; omega) ?_
   ·rw [← ht, contains_drop (i := i) (by omega), beq_false_of_ne (fun h => e h.symm)]; rfl
   ·(repeat' (first | (refine gA fun _ => ?_) | (refine fkI (fun hb => ?_) (fun hb => ?_) <;> (try simp only [ew] at hb)) | (simp only [go_sem, Nat.reduceLeDiff, Nat.reduceEqDiff, reduceIte, reduceCtorEq, Nat.reduceAdd, Nat.reduceMul, Nat.reduceSub, Nat.reduceLT, Int.reduceLT, Int.reduceLE, Int.reduceNeg, Int.reduceToNat, Nat.reduceBEq, Nat.reduceBNe, Int.reduceGE, Int.reduceGT, *, cHas, Tryz.results119])))
  ·rw [← ht, List.drop_of_length_le (by omega)]; rfl
theorem hasS_ok : ContractOK E0 123 cHas := by
 refine cWpc (E := E0) (T := mkT Tryz.prog [] false (fun _ => false) true (fun _ => false)) (mkT_ok (E := E0) .nil) (fn := Tryz.f123) Tryz.func123 (by kernel_rfl) rfl mixedT (by kernel_rfl) rfl ?_
 intro args p rs ms hr
 unfold cHas at hr
 dsimp only at hr
 split at hr
 rotate_left
 ·cases hr
 rename_i l n
 simp only [Option.some.injEq, Prod.mk.injEq] at hr
 obtain ⟨rfl, rfl, rfl⟩ := hr
 refine ⟨rfl, rfl, Nat.le_of_ble_eq_true rfl, ?_⟩
 have hm : maxLen = 9223372036854775807 := rfl
 intro h1 bs
 obtain ⟨xs, rfl, hx⟩ := h1.ex
 clear h1
 rw [unI_iL]
 (repeat' (first | (refine gA fun _ => ?_) | (refine fkI (fun hb => ?_) (fun hb => ?_) <;> (try simp only [ew] at hb)) | (simp only [go_sem, Nat.reduceLeDiff, Nat.reduceEqDiff, reduceIte, reduceCtorEq, Nat.reduceAdd, Nat.reduceMul, Nat.reduceSub, Nat.reduceLT, Int.reduceLT, Int.reduceLE, Int.reduceNeg, Int.reduceToNat, Nat.reduceBEq, Nat.reduceBNe, Int.reduceGE, Int.reduceGT, *, cHas, Tryz.results123])))
 refine lpI { ι := Nat, rs := [(4, 5), (6, 18)], mods := [(5, fun i => .one (.d (.v (.int .i64 i))))], boxes := [], arrs := [], ok := fun i => i ≤ xs.length ∧ (xs.drop i).contains n = xs.contains n, mu := fun i => xs.length - i } rfl 0 ⟨Nat.zero_le _, rfl⟩ ?_ fun i hi => ?_
 ·(repeat' (first | (refine gA fun _ => ?_) | (refine fkI (fun hb => ?_) (fun hb => ?_) <;> (try simp only [ew] at hb)) | (simp only [go_sem, Nat.reduceLeDiff, Nat.reduceEqDiff, reduceIte, reduceCtorEq, Nat.reduceAdd, Nat.reduceMul, Nat.reduceSub, Nat.reduceLT, Int.reduceLT, Int.reduceLE, Int.reduceNeg, Int.reduceToNat, Nat.reduceBEq, Nat.reduceBNe, Int.reduceGE, Int.reduceGT, *, cHas, Tryz.results123])))
 ·dsimp only at i hi
  obtain ⟨hi, ht⟩ := hi
  (repeat' (first | (refine gA fun _ => ?_) | (refine fkI (fun hb => ?_) (fun hb => ?_) <;> (try simp only [ew] at hb)) | (simp only [go_sem, Nat.reduceLeDiff, Nat.reduceEqDiff, reduceIte, reduceCtorEq, Nat.reduceAdd, Nat.reduceMul, Nat.reduceSub, Nat.reduceLT, Int.reduceLT, Int.reduceLE, Int.reduceNeg, Int.reduceToNat, Nat.reduceBEq, Nat.reduceBNe, Int.reduceGE, Int.reduceGT, *, cHas, Tryz.results123])))
  ·have e := ‹xs.getD i 0 = n›
   rw [← ht, contains_drop (by omega), e]; simp
  ·have e := ‹¬ xs.getD i 0 = n›
   refine lpN (i + 1) ⟨by omega, ?_⟩ (by dsimp only; omega) ?_
   ·rw [← ht, contains_drop (i := i) (by omega), beq_false_of_ne (fun h => e h.symm)]; rfl
   ·(repeat' (first | (refine gA fun _ => ?_) | (refine fkI (fun hb => ?_) (fun hb => ?_) <;> (try simp only [ew] at hb)) | (simp only [go_sem, Nat.reduceLeDiff, Nat.reduceEqDiff, reduceIte, reduceCtorEq, Nat.reduceAdd, Nat.reduceMul, Nat.reduceSub, Nat.reduceLT, Int.reduceLT, Int.reduceLE, Int.reduceNeg, Int.reduceToNat, Nat.reduceBEq, Nat.reduceBNe, Int.reduceGE, Int.reduceGT, *, cHas, Tryz.results123])))
  ·rw [← ht, List.drop_of_length_le (by omega)]; rfl
def colL (rs : List (List Int)) (a : Nat) : List Int := rs.map fun r => r.getD a 0
theorem col_facts {c : Int} {rs : List (List Int)} {a : Int} (ht : tabOK c rs = true) (hi : inB a 0 (c - 1) = true) : ∃ a' c' : Nat, a = a' ∧ c = c' ∧ a' < c' ∧ rs.length ≤ 40 ∧ ∀ i, i < rs.length → (rs.getD i []).length = c' := by
 obtain ⟨a', b', c', h1, h2, h3, h4, h5, h6, h7⟩ := cols_facts (c := c) (rs := rs) (a := a) (b := a) (by rw [colsOK, ht, hi]; rfl)
 exact ⟨a', c', h1, h3, h4, h6, h7⟩
end Go.Own
