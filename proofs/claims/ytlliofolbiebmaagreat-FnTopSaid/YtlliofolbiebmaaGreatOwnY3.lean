/- Own contracts. Conditions: as each theorem states them. -/
import Derived.Test.YtlliofolbiebmaaGreatOwnZ5
import Derived.Test.YtlliofolbiebmaaGreatOwnTt
set_option linter.unusedSimpArgs false
set_option linter.unusedVariables false
set_option maxRecDepth 20000
set_option maxHeartbeats 2000000
namespace Go.Own
open Go Go.Proofs
def dL (xs : List (Int × Int)) : List (List D) := xs.map fun q => [D.v (.int .i64 q.1), D.v (.int .i64 q.2)]
def unD (l : List (List D)) : List (Int × Int) := l.map fun
 | [.v (.int .i64 a), .v (.int .i64 b)] => (a, b)
 | _ => (0, 0)
theorem unD_dL (xs : List (Int × Int)) : unD (dL xs) = xs := by simp [unD, dL, Function.comp_def]
theorem dL_length (xs : List (Int × Int)) : (dL xs).length = xs.length := by simp [dL]
theorem dL_get {xs : List (Int × Int)} {i : Nat} (h : i < xs.length) : (dL xs).getD i [] = [D.v (.int .i64 (xs.getD i (0, 0)).1), D.v (.int .i64 (xs.getD i (0, 0)).2)] := by
 simp [dL, List.getD_eq_getElem?_getD, h]
theorem dL_set {xs : List (Int × Int)} {i : Nat} {a b : Int} : (dL xs).set i [D.v (.int .i64 a), D.v (.int .i64 b)] = dL (xs.set i (a, b)) := by
 simp [dL, List.map_set]
theorem dL_inj {xs ys : List (Int × Int)} : dL xs = dL ys ↔ xs = ys := by
 constructor
 ·intro h
  have := congrArg unD h
  simpa only [unD_dL] using this
 ·rintro rfl; rfl
def WfD (l : List (List D)) : Prop := l = dL (unD l) ∧ l.length ≤ maxLen
theorem wfD_dL {xs : List (Int × Int)} : WfD (dL xs) ↔ xs.length ≤ maxLen := by simp [WfD, unD_dL, dL_length]
theorem WfD.ex {l : List (List D)} (h : WfD l) : ∃ xs, l = dL xs ∧ xs.length ≤ maxLen := ⟨unD l, h.1, by have := h.2; rw [h.1, dL_length] at this; exact this⟩
theorem scal2 {a b : Value} : (∀ x ∈ [D.v a, D.v b], Scalar x) ↔ True := by
 refine ⟨fun _ => trivial, fun _ x hx => ?_⟩
 simp only [List.mem_cons, List.not_mem_nil, or_false] at hx
 rcases hx with rfl | rfl <;> trivial
theorem beq2 {a b c d : Int} : ([a, b] == [c, d]) = ((a, b) == (c, d)) := by
 rw [Bool.eq_iff_iff]; simp
theorem pair_eta {q : Int × Int} : (q.1, q.2) = q := rfl
attribute [local go_sem] unD_dL dL_length dL_get dL_set dL_inj wfD_dL scal2 beq2 pair_eta
def cEqDepS : Contract := ⟨[], false, fun
 | [.one (.sl 2 a), .one (.sl 2 b)] => some (WfD a ∧ WfD b, [⟨false, [.d (.v (.bool (unD a == unD b)))]⟩], [])
 | _ => none⟩
theorem not_lenD {xs ys : List (Int × Int)} (h : ¬ (xs.length : Int) = ys.length) : (xs == ys) = false := beq_eq_false_iff_ne.2 fun e => h (by rw [e])
theorem sameDepsS_ok : ContractOK E0 11 cEqDepS := by
 refine contract_of_wpc (E := E0) (T := mkT Tryz.prog [] false (fun _ => false) true (fun _ => false)) (mkT_ok (E := E0) .nil) (fn := Tryz.f11) Tryz.func11 (by kernel_rfl) rfl mixedT (by kernel_rfl) rfl ?_
 intro args p rs ms hr
 unfold cEqDepS at hr
 dsimp only at hr
 split at hr
 rotate_left
 ·cases hr
 rename_i a b
 simp only [Option.some.injEq, Prod.mk.injEq] at hr
 obtain ⟨rfl, rfl, rfl⟩ := hr
 refine ⟨rfl, rfl, Nat.le_of_ble_eq_true rfl, ?_⟩
 have hm : maxLen = 9223372036854775807 := rfl
 rintro ⟨h1, h2⟩ bs
 obtain ⟨xs, rfl, hx⟩ := h1.ex
 obtain ⟨ys, rfl, hy⟩ := h2.ex
 clear h1 h2
 rw [unD_dL, unD_dL]
 (repeat' (first | (refine gate_a fun _ => ?_) | (refine fork_intro (fun hb => ?_) (fun hb => ?_) <;> (try simp only [ew] at hb)) | (simp only [go_sem, Nat.reduceLeDiff, Nat.reduceEqDiff, reduceIte, reduceCtorEq, Nat.reduceAdd, Nat.reduceMul, Nat.reduceSub, Nat.reduceLT, Int.reduceLT, Int.reduceLE, Int.reduceNeg, Int.reduceToNat, Nat.reduceBEq, Nat.reduceBNe, Int.reduceGE, Int.reduceGT, *, cEqDepS, Tryz.results11])))
 ·exact (not_lenD ‹_›).symm
 ·refine loop_intro { ι := Nat, rs := [(4, 5), (11, 26)], mods := [(5, fun i => .one (.d (.v (.int .i64 i))))], boxes := [], arrs := [], ok := fun i => i ≤ xs.length ∧ xs.take i = ys.take i, mu := fun i => xs.length - i } rfl 0 ⟨Nat.zero_le _, rfl⟩ ?_ fun i hi => ?_
  ·(repeat' (first | (refine gate_a fun _ => ?_) | (refine fork_intro (fun hb => ?_) (fun hb => ?_) <;> (try simp only [ew] at hb)) | (simp only [go_sem, Nat.reduceLeDiff, Nat.reduceEqDiff, reduceIte, reduceCtorEq, Nat.reduceAdd, Nat.reduceMul, Nat.reduceSub, Nat.reduceLT, Int.reduceLT, Int.reduceLE, Int.reduceNeg, Int.reduceToNat, Nat.reduceBEq, Nat.reduceBNe, Int.reduceGE, Int.reduceGT, *, cEqDepS, Tryz.results11])))
  ·dsimp only at i hi
   obtain ⟨hi, ht⟩ := hi
   have hlen : xs.length = ys.length := by omega
   (repeat' (first | (refine gate_a fun _ => ?_) | (refine fork_intro (fun hb => ?_) (fun hb => ?_) <;> (try simp only [ew] at hb)) | (simp only [go_sem, Nat.reduceLeDiff, Nat.reduceEqDiff, reduceIte, reduceCtorEq, Nat.reduceAdd, Nat.reduceMul, Nat.reduceSub, Nat.reduceLT, Int.reduceLT, Int.reduceLE, Int.reduceNeg, Int.reduceToNat, Nat.reduceBEq, Nat.reduceBNe, Int.reduceGE, Int.reduceGT, *, cEqDepS, Tryz.results11])))
   ·exact (beq_eq_false_iff_ne.2 (ne_of_getD ‹_›)).symm
   ·have hq := ‹xs.getD i (0, 0) = ys.getD i (0, 0)›
    refine loop_next (i + 1) ⟨by omega, by rw [take_succ_getD (by omega) (0, 0), take_succ_getD (by omega) (0, 0), ht, hq]⟩ (by dsimp only; omega) ?_
    (repeat' (first | (refine gate_a fun _ => ?_) | (refine fork_intro (fun hb => ?_) (fun hb => ?_) <;> (try simp only [ew] at hb)) | (simp only [go_sem, Nat.reduceLeDiff, Nat.reduceEqDiff, reduceIte, reduceCtorEq, Nat.reduceAdd, Nat.reduceMul, Nat.reduceSub, Nat.reduceLT, Int.reduceLT, Int.reduceLE, Int.reduceNeg, Int.reduceToNat, Nat.reduceBEq, Nat.reduceBNe, Int.reduceGE, Int.reduceGT, *, cEqDepS, Tryz.results11])))
   ·have := eq_of_takes hlen (by omega) ht
    subst this; simp
theorem sameDepsI_ok : ContractOK E0 78 cEqDepS := by
 refine contract_of_wpc (E := E0) (T := mkT Tryz.prog [] false (fun _ => false) true (fun _ => false)) (mkT_ok (E := E0) .nil) (fn := Tryz.f78) Tryz.func78 (by kernel_rfl) rfl mixedT (by kernel_rfl) rfl ?_
 intro args p rs ms hr
 unfold cEqDepS at hr
 dsimp only at hr
 split at hr
 rotate_left
 ·cases hr
 rename_i a b
 simp only [Option.some.injEq, Prod.mk.injEq] at hr
 obtain ⟨rfl, rfl, rfl⟩ := hr
 refine ⟨rfl, rfl, Nat.le_of_ble_eq_true rfl, ?_⟩
 have hm : maxLen = 9223372036854775807 := rfl
 rintro ⟨h1, h2⟩ bs
 obtain ⟨xs, rfl, hx⟩ := h1.ex
 obtain ⟨ys, rfl, hy⟩ := h2.ex
 clear h1 h2
 rw [unD_dL, unD_dL]
 (repeat' (first | (refine gate_a fun _ => ?_) | (refine fork_intro (fun hb => ?_) (fun hb => ?_) <;> (try simp only [ew] at hb)) | (simp only [go_sem, Nat.reduceLeDiff, Nat.reduceEqDiff, reduceIte, reduceCtorEq, Nat.reduceAdd, Nat.reduceMul, Nat.reduceSub, Nat.reduceLT, Int.reduceLT, Int.reduceLE, Int.reduceNeg, Int.reduceToNat, Nat.reduceBEq, Nat.reduceBNe, Int.reduceGE, Int.reduceGT, *, cEqDepS, Tryz.results78])))
 ·exact (not_lenD ‹_›).symm
 ·refine loop_intro { ι := Nat, rs := [(4, 6), (14, 26)], mods := [(13, fun i => .one (.d (.v (.int .i64 i))))], boxes := [], arrs := [], ok := fun i => i ≤ xs.length ∧ xs.take i = ys.take i, mu := fun i => xs.length - i } rfl 0 ⟨Nat.zero_le _, rfl⟩ ?_ fun i hi => ?_
  ·(repeat' (first | (refine gate_a fun _ => ?_) | (refine fork_intro (fun hb => ?_) (fun hb => ?_) <;> (try simp only [ew] at hb)) | (simp only [go_sem, Nat.reduceLeDiff, Nat.reduceEqDiff, reduceIte, reduceCtorEq, Nat.reduceAdd, Nat.reduceMul, Nat.reduceSub, Nat.reduceLT, Int.reduceLT, Int.reduceLE, Int.reduceNeg, Int.reduceToNat, Nat.reduceBEq, Nat.reduceBNe, Int.reduceGE, Int.reduceGT, *, cEqDepS, Tryz.results78])))
  ·dsimp only at i hi
   obtain ⟨hi, ht⟩ := hi
   have hlen : xs.length = ys.length := by omega
   (repeat' (first | (refine gate_a fun _ => ?_) | (refine fork_intro (fun hb => ?_) (fun hb => ?_) <;> (try simp only [ew] at hb)) | (simp only [go_sem, Nat.reduceLeDiff, Nat.reduceEqDiff, reduceIte, reduceCtorEq, Nat.reduceAdd, Nat.reduceMul, Nat.reduceSub, Nat.reduceLT, Int.reduceLT, Int.reduceLE, Int.reduceNeg, Int.reduceToNat, Nat.reduceBEq, Nat.reduceBNe, Int.reduceGE, Int.reduceGT, *, cEqDepS, Tryz.results78])))
   ·exact (beq_eq_false_iff_ne.2 (ne_of_getD ‹_›)).symm
   ·have hq := ‹xs.getD i (0, 0) = ys.getD i (0, 0)›
    refine loop_next (i + 1) ⟨by omega, by rw [take_succ_getD (by omega) (0, 0), take_succ_getD (by omega) (0, 0), ht, hq]⟩ (by dsimp only; omega) ?_
    (repeat' (first | (refine gate_a fun _ => ?_) | (refine fork_intro (fun hb => ?_) (fun hb => ?_) <;> (try simp only [ew] at hb)) | (simp only [go_sem, Nat.reduceLeDiff, Nat.reduceEqDiff, reduceIte, reduceCtorEq, Nat.reduceAdd, Nat.reduceMul, Nat.reduceSub, Nat.reduceLT, Int.reduceLT, Int.reduceLE, Int.reduceNeg, Int.reduceToNat, Nat.reduceBEq, Nat.reduceBNe, Int.reduceGE, Int.reduceGT, *, cEqDepS, Tryz.results78])))
   ·have := eq_of_takes hlen (by omega) ht
    subst this; simp
end Go.Own
namespace Go.Own
open Go Go.Proofs
attribute [local go_sem] unD_dL dL_length dL_get dL_set dL_inj wfD_dL scal2 beq2 pair_eta
end Go.Own
