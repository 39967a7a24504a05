/- Own contracts. Conditions: as each theorem states them. -/
import Derived.Test.YthopcpiecbofcaaGreatOwnZ5
import Derived.Test.YthopcpiecbofcaaGreatOwnV8
set_option linter.unusedSimpArgs false
set_option linter.unusedVariables false
set_option maxRecDepth 20000
set_option maxHeartbeats 2000000
namespace Go.Own
open Go Go.Proofs
def dL (xs : List (Int × Int)) : List (List D) := xs.map fun q => [D.v (.int .i64 q.1), D.v (.int .i64 q.2)]
def unD (l : List (List D)) : List (Int × Int) := l.map fun
 | [.v (.int .i64 a), .v (.int .i64 b)] => (a, b)
 | _ => (0, 0)
theorem unD_dL (xs : List (Int × Int)) : unD (dL xs) = xs := by simp [unD, dL, Function.comp_def]
theorem dL_length (xs : List (Int × Int)) : (dL xs).length = xs.length := by simp [dL]
theorem dL_get {xs : List (Int × Int)} {i : Nat} (h : i < xs.length) : (dL xs).getD i [] = [D.v (.int .i64 (xs.getD i (0, 0)).1), D.v (.int .i64 (xs.getD i (0, 0)).2)] := by
 simp [dL, List.getD_eq_getElem?_getD, h]
theorem dL_set {xs : List (Int × Int)} {i : Nat} {a b : Int} : (dL xs).set i [D.v (.int .i64 a), D.v (.int .i64 b)] = dL (xs.set i (a, b)) := by
 simp [dL, List.map_set]
theorem dL_inj {xs ys : List (Int × Int)} : dL xs = dL ys ↔ xs = ys := by
 constructor
 ·intro h
  have := congrArg unD h
  simpa only [unD_dL] using this
 ·rintro rfl; rfl
def WfD (l : List (List D)) : Prop := l = dL (unD l) ∧ l.length ≤ maxLen
theorem wfD_dL {xs : List (Int × Int)} : WfD (dL xs) ↔ xs.length ≤ maxLen := by simp [WfD, unD_dL, dL_length]
theorem WfD.ex {l : List (List D)} (h : WfD l) : ∃ xs, l = dL xs ∧ xs.length ≤ maxLen := ⟨unD l, h.1, by have := h.2; rw [h.1, dL_length] at this; exact this⟩
theorem scal2 {a b : Value} : (∀ x ∈ [D.v a, D.v b], Scalar x) ↔ True := by
 refine ⟨fun _ => trivial, fun _ x hx => ?_⟩
 simp only [List.mem_cons, List.not_mem_nil, or_false] at hx
 rcases hx with rfl | rfl <;> trivial
theorem beq2 {a b c d : Int} : ([a, b] == [c, d]) = ((a, b) == (c, d)) := by
 rw [Bool.eq_iff_iff]; simp
theorem pair_eta {q : Int × Int} : (q.1, q.2) = q := rfl
attribute [local go_sem] unD_dL dL_length dL_get dL_set dL_inj wfD_dL scal2 beq2 pair_eta
def cEqDepS : Contract := ⟨[], false, fun
 | [.one (.sl 2 a), .one (.sl 2 b)] => some (WfD a ∧ WfD b, [⟨false, [.d (.v (.bool (unD a == unD b)))]⟩], [])
 | _ => none⟩
theorem not_lenD {xs ys : List (Int × Int)} (h : ¬ (xs.length : Int) = ys.length) : (xs == ys) = false := beq_eq_false_iff_ne.2 fun e => h (by rw [e])
theorem sameDepsS_ok : ContractOK E0 21 cEqDepS := by
 refine contract_of_wpc (E := E0) (T := mkT Tryz.prog [] false (fun _ => false) true (fun _ => false)) (mkT_ok (E := E0) .nil) (fn := Tryz.f21) Tryz.func21 (by kernel_rfl) rfl mixedT (by kernel_rfl) rfl ?_
 intro args p rs ms hr
 unfold cEqDepS at hr
 dsimp only at hr
 split at hr
 rotate_left
 ·cases hr
 rename_i a b
 simp only [Option.some.injEq, Prod.mk.injEq] at hr
 obtain ⟨rfl, rfl, rfl⟩ := hr
 refine ⟨rfl, rfl, Nat.le_of_ble_eq_true rfl, ?_⟩
 have hm : maxLen = 9223372036854775807 := rfl
 rintro ⟨h1, h2⟩ bs
 obtain ⟨xs, rfl, hx⟩ := h1.ex
 obtain ⟨ys, rfl, hy⟩ := h2.ex
 clear h1 h2
 rw [unD_dL, unD_dL]
 (repeat' (first | (refine gate_a fun _ => ?_) | (refine fork_intro (fun hb => ?_) (fun hb => ?_) <;> (try simp only [ew] at hb)) | (simp only [go_sem, Nat.reduceLeDiff, Nat.reduceEqDiff, reduceIte, reduceCtorEq, Nat.reduceAdd, Nat.reduceMul, Nat.reduceSub, Nat.reduceLT, Int.reduceLT, Int.reduceLE, Int.reduceNeg, Int.reduceToNat, Nat.reduceBEq, Nat.reduceBNe, Int.reduceGE, Int.reduceGT, *, cEqDepS, Tryz.results21])))
 ·exact (not_lenD ‹_›).symm
 ·refine loop_intro { ι := Nat, rs := [(4, 5), (11, 26)], mods := [(5, fun i => .one (.d (.v (.int .i64 i))))], boxes := [], arrs := [], ok := fun i => i ≤ xs.length ∧ xs.take i = ys.take i, mu := fun i => xs.length - i } rfl 0 ⟨Nat.zero_le _, rfl⟩ ?_ fun i hi => ?_
  ·(repeat' (first | (refine gate_a fun _ => ?_) | (refine fork_intro (fun hb => ?_) (fun hb => ?_) <;> (try simp only [ew] at hb)) | (simp only [go_sem, Nat.reduceLeDiff, Nat.reduceEqDiff, reduceIte, reduceCtorEq, Nat.reduceAdd, Nat.reduceMul, Nat.reduceSub, Nat.reduceLT, Int.reduceLT, Int.reduceLE, Int.reduceNeg, Int.reduceToNat, Nat.reduceBEq, Nat.reduceBNe, Int.reduceGE, Int.reduceGT, *, cEqDepS, Tryz.results21])))
  ·dsimp only at i hi
   obtain ⟨hi, ht⟩ := hi
   have hlen : xs.length = ys.length := by omega
   (repeat' (first | (refine gate_a fun _ => ?_) | (refine fork_intro (fun hb => ?_) (fun hb => ?_) <;> (try simp only [ew] at hb)) | (simp only [go_sem, Nat.reduceLeDiff, Nat.reduceEqDiff, reduceIte, reduceCtorEq, Nat.reduceAdd, Nat.reduceMul, Nat.reduceSub, Nat.reduceLT, Int.reduceLT, Int.reduceLE, Int.reduceNeg, Int.reduceToNat, Nat.reduceBEq, Nat.reduceBNe, Int.reduceGE, Int.reduceGT, *, cEqDepS, Tryz.results21])))
   ·exact (beq_eq_false_iff_ne.2 (ne_of_getD ‹_›)).symm
   ·have hq := ‹xs.getD i (0, 0) = ys.getD i (0, 0)›
    refine loop_next (i + 1) ⟨by omega, by rw [take_succ_getD (by omega) (0, 0), take_succ_getD (by omega) (0, 0), ht, hq]⟩ (by dsimp only; omega) ?_
    (repeat' (first | (refine gate_a fun _ => ?_) | (refine fork_intro (fun hb => ?_) (fun hb => ?_) <;> (try simp only [ew] at hb)) | (simp only [go_sem, Nat.reduceLeDiff, Nat.reduceEqDiff, reduceIte, reduceCtorEq, Nat.reduceAdd, Nat.reduceMul, Nat.reduceSub, Nat.reduceLT, Int.reduceLT, Int.reduceLE, Int.reduceNeg, Int.reduceToNat, Nat.reduceBEq, Nat.reduceBNe, Int.reduceGE, Int.reduceGT, *, cEqDepS, Tryz.results21])))
   ·have := eq_of_takes hlen (by omega) ht
    subst this; simp
theorem sameDepsI_ok : ContractOK E0 55 cEqDepS := by
 refine contract_of_wpc (E := E0) (T := mkT Tryz.prog [] false (fun _ => false) true (fun _ => false)) (mkT_ok (E := E0) .nil) (fn := Tryz.f55) Tryz.func55 (by kernel_rfl) rfl mixedT (by kernel_rfl) rfl ?_
 intro args p rs ms hr
 unfold cEqDepS at hr
 dsimp only at hr
 split at hr
 rotate_left
 ·cases hr
 rename_i a b
 simp only [Option.some.injEq, Prod.mk.injEq] at hr
 obtain ⟨rfl, rfl, rfl⟩ := hr
 refine ⟨rfl, rfl, Nat.le_of_ble_eq_true rfl, ?_⟩
 have hm : maxLen = 9223372036854775807 := rfl
 rintro ⟨h1, h2⟩ bs
 obtain ⟨xs, rfl, hx⟩ := h1.ex
 obtain ⟨ys, rfl, hy⟩ := h2.ex
 clear h1 h2
 rw [unD_dL, unD_dL]
 (repeat' (first | (refine gate_a fun _ => ?_) | (refine fork_intro (fun hb => ?_) (fun hb => ?_) <;> (try simp only [ew] at hb)) | (simp only [go_sem, Nat.reduceLeDiff, Nat.reduceEqDiff, reduceIte, reduceCtorEq, Nat.reduceAdd, Nat.reduceMul, Nat.reduceSub, Nat.reduceLT, Int.reduceLT, Int.reduceLE, Int.reduceNeg, Int.reduceToNat, Nat.reduceBEq, Nat.reduceBNe, Int.reduceGE, Int.reduceGT, *, cEqDepS, Tryz.results55])))
 ·exact (not_lenD ‹_›).symm
 ·refine loop_intro { ι := Nat, rs := [(4, 6), (14, 26)], mods := [(13, fun i => .one (.d (.v (.int .i64 i))))], boxes := [], arrs := [], ok := fun i => i ≤ xs.length ∧ xs.take i = ys.take i, mu := fun i => xs.length - i } rfl 0 ⟨Nat.zero_le _, rfl⟩ ?_ fun i hi => ?_
  ·(repeat' (first | (refine gate_a fun _ => ?_) | (refine fork_intro (fun hb => ?_) (fun hb => ?_) <;> (try simp only [ew] at hb)) | (simp only [go_sem, Nat.reduceLeDiff, Nat.reduceEqDiff, reduceIte, reduceCtorEq, Nat.reduceAdd, Nat.reduceMul, Nat.reduceSub, Nat.reduceLT, Int.reduceLT, Int.reduceLE, Int.reduceNeg, Int.reduceToNat, Nat.reduceBEq, Nat.reduceBNe, Int.reduceGE, Int.reduceGT, *, cEqDepS, Tryz.results55])))
  ·dsimp only at i hi
   obtain ⟨hi, ht⟩ := hi
   have hlen : xs.length = ys.length := by omega
   (repeat' (first | (refine gate_a fun _ => ?_) | (refine fork_intro (fun hb => ?_) (fun hb => ?_) <;> (try simp only [ew] at hb)) | (simp only [go_sem, Nat.reduceLeDiff, Nat.reduceEqDiff, reduceIte, reduceCtorEq, Nat.reduceAdd, Nat.reduceMul, Nat.reduceSub, Nat.reduceLT, Int.reduceLT, Int.reduceLE, Int.reduceNeg, Int.reduceToNat, Nat.reduceBEq, Nat.reduceBNe, Int.reduceGE, Int.reduceGT, *, cEqDepS, Tryz.results55])))
   ·exact (beq_eq_false_iff_ne.2 (ne_of_getD ‹_›)).symm
   ·have hq := ‹xs.getD i (0, 0) = ys.getD i (0, 0)›
    refine loop_next (i + 1) ⟨by omega, by rw [take_succ_getD (by omega) (0, 0), take_succ_getD (by omega) (0, 0), ht, hq]⟩ (by dsimp only; omega) ?_
    (repeat' (first | (refine gate_a fun _ => ?_) | (refine fork_intro (fun hb => ?_) (fun hb => ?_) <;> (try simp only [ew] at hb)) | (simp only [go_sem, Nat.reduceLeDiff, Nat.reduceEqDiff, reduceIte, reduceCtorEq, Nat.reduceAdd, Nat.reduceMul, Nat.reduceSub, Nat.reduceLT, Int.reduceLT, Int.reduceLE, Int.reduceNeg, Int.reduceToNat, Nat.reduceBEq, Nat.reduceBNe, Int.reduceGE, Int.reduceGT, *, cEqDepS, Tryz.results55])))
   ·have := eq_of_takes hlen (by omega) ht
    subst this; simp
theorem l2Ints_ok : ContractOK E0 104 cEqIntS := by
 refine contract_of_wpc (E := E0) (T := mkT Tryz.prog [] false (fun _ => false) true (fun _ => false)) (mkT_ok (E := E0) .nil) (fn := Tryz.f104) Tryz.func104 (by kernel_rfl) rfl mixedT (by kernel_rfl) rfl ?_
 intro args p rs ms hr
 unfold cEqIntS at hr
 dsimp only at hr
 split at hr
 rotate_left
 ·cases hr
 rename_i a b
 simp only [Option.some.injEq, Prod.mk.injEq] at hr
 obtain ⟨rfl, rfl, rfl⟩ := hr
 refine ⟨rfl, rfl, Nat.le_of_ble_eq_true rfl, ?_⟩
 have hm : maxLen = 9223372036854775807 := rfl
 rintro ⟨h1, h2⟩ bs
 obtain ⟨xs, rfl, hx⟩ := h1.ex
 obtain ⟨ys, rfl, hy⟩ := h2.ex
 clear h1 h2
 rw [unI_iL, unI_iL]
 (repeat' (first | (refine gate_a fun _ => ?_) | (refine fork_intro (fun hb => ?_) (fun hb => ?_) <;> (try simp only [ew] at hb)) | (simp only [go_sem, Nat.reduceLeDiff, Nat.reduceEqDiff, reduceIte, reduceCtorEq, Nat.reduceAdd, Nat.reduceMul, Nat.reduceSub, Nat.reduceLT, Int.reduceLT, Int.reduceLE, Int.reduceNeg, Int.reduceToNat, Nat.reduceBEq, Nat.reduceBNe, Int.reduceGE, Int.reduceGT, *, cEqIntS, Tryz.results104])))
 ·exact (not_len ‹_›).symm
 ·refine loop_intro { ι := Nat, rs := [(4, 5), (11, 26)], mods := [(5, fun i => .one (.d (.v (.int .i64 i))))], boxes := [], arrs := [], ok := fun i => i ≤ xs.length ∧ xs.take i = ys.take i, mu := fun i => xs.length - i } rfl 0 ⟨Nat.zero_le _, rfl⟩ ?_ fun i hi => ?_
  ·(repeat' (first | (refine gate_a fun _ => ?_) | (refine fork_intro (fun hb => ?_) (fun hb => ?_) <;> (try simp only [ew] at hb)) | (simp only [go_sem, Nat.reduceLeDiff, Nat.reduceEqDiff, reduceIte, reduceCtorEq, Nat.reduceAdd, Nat.reduceMul, Nat.reduceSub, Nat.reduceLT, Int.reduceLT, Int.reduceLE, Int.reduceNeg, Int.reduceToNat, Nat.reduceBEq, Nat.reduceBNe, Int.reduceGE, Int.reduceGT, *, cEqIntS, Tryz.results104])))
  ·dsimp only at i hi
   obtain ⟨hi, ht⟩ := hi
   have hlen : xs.length = ys.length := by omega
   (repeat' (first | (refine gate_a fun _ => ?_) | (refine fork_intro (fun hb => ?_) (fun hb => ?_) <;> (try simp only [ew] at hb)) | (simp only [go_sem, Nat.reduceLeDiff, Nat.reduceEqDiff, reduceIte, reduceCtorEq, Nat.reduceAdd, Nat.reduceMul, Nat.reduceSub, Nat.reduceLT, Int.reduceLT, Int.reduceLE, Int.reduceNeg, Int.reduceToNat, Nat.reduceBEq, Nat.reduceBNe, Int.reduceGE, Int.reduceGT, *, cEqIntS, Tryz.results104])))
   ·exact (beq_eq_false_iff_ne.2 (ne_of_getD ‹_›)).symm
   ·have hq := ‹xs.getD i 0 = ys.getD i 0›
    refine loop_next (i + 1) ⟨by omega, by rw [take_succ_getD (by omega) 0, take_succ_getD (by omega) 0, ht, hq]⟩ (by dsimp only; omega) ?_
    (repeat' (first | (refine gate_a fun _ => ?_) | (refine fork_intro (fun hb => ?_) (fun hb => ?_) <;> (try simp only [ew] at hb)) | (simp only [go_sem, Nat.reduceLeDiff, Nat.reduceEqDiff, reduceIte, reduceCtorEq, Nat.reduceAdd, Nat.reduceMul, Nat.reduceSub, Nat.reduceLT, Int.reduceLT, Int.reduceLE, Int.reduceNeg, Int.reduceToNat, Nat.reduceBEq, Nat.reduceBNe, Int.reduceGE, Int.reduceGT, *, cEqIntS, Tryz.results104])))
   ·have := eq_of_takes hlen (by omega) ht
    subst this; simp
def cEqTabs : Contract := ⟨[], false, fun
 | [.agg [.v (.int .i64 c), .sl 1 a], .agg [.v (.int .i64 d), .sl 1 b]] => some (WfS a ∧ WfS b, [⟨false, [.d (.v (.bool (c == d && unS a == unS b)))]⟩], [])
 | _ => none⟩
theorem eqTabsS_ok : ContractOK E0 52 cEqTabs := by
 refine contract_of_wpc (E := E0) (T := mkT Tryz.prog [(104, cEqIntS)] false (fun _ => false) true (fun _ => false)) (mkT_ok (E := E0) (.cons l2Ints_ok .nil)) (fn := Tryz.f52) Tryz.func52 (by kernel_rfl) rfl mixedT (by kernel_rfl) rfl ?_
 intro args p rs ms hr
 unfold cEqTabs at hr
 dsimp only at hr
 split at hr
 rotate_left
 ·cases hr
 rename_i c a d b
 simp only [Option.some.injEq, Prod.mk.injEq] at hr
 obtain ⟨rfl, rfl, rfl⟩ := hr
 refine ⟨rfl, rfl, Nat.le_of_ble_eq_true rfl, ?_⟩
 have hm : maxLen = 9223372036854775807 := rfl
 rintro ⟨h1, h2⟩ bs
 obtain ⟨xs, rfl, hx, hx2⟩ := h1.ex
 obtain ⟨ys, rfl, hy, hy2⟩ := h2.ex
 clear h1 h2
 rw [unS_sL, unS_sL]
 by_cases hcd : c = d ∧ (xs.length : Int) = ys.length
 ·obtain ⟨rfl, hl⟩ := hcd
  have e0 : (c != c) = false := by simp
  have e1 : ((xs.length : Int) != ys.length) = false := by rw [hl]; simp
  rw [show (c == c) = true by simp, Bool.true_and]
  (repeat' (first | (refine gate_a fun _ => ?_) | (refine fork_intro (fun hb => ?_) (fun hb => ?_) <;> (try simp only [ew, e0, e1] at hb)) | (simp only [go_sem, Nat.reduceLeDiff, Nat.reduceEqDiff, reduceIte, reduceCtorEq, Nat.reduceAdd, Nat.reduceMul, Nat.reduceSub, Nat.reduceLT, Int.reduceLT, Int.reduceLE, Int.reduceNeg, Int.reduceToNat, Nat.reduceBEq, Nat.reduceBNe, Int.reduceGE, Int.reduceGT, *, cEqTabs, cEqIntS, Tryz.results52, e0, e1])))
  clear e0 e1
  refine loop_intro { ι := Nat, rs := [(4, 5), (20, 39)], mods := [(5, fun i => .one (.d (.v (.int .i64 i))))], boxes := [(2, fun _ => [.d (.v (.int .i64 c)), .d (.sl 1 (sL xs))]), (3, fun _ => [.d (.v (.int .i64 c)), .d (.sl 1 (sL ys))])], arrs := [], ok := fun i => i ≤ xs.length ∧ xs.take i = ys.take i, mu := fun i => xs.length - i } rfl 0 ⟨Nat.zero_le _, rfl⟩ ?_ fun i hi => ?_
  ·(repeat' (first | (refine gate_a fun _ => ?_) | (refine fork_intro (fun hb => ?_) (fun hb => ?_) <;> (try simp only [ew] at hb)) | (simp only [go_sem, Nat.reduceLeDiff, Nat.reduceEqDiff, reduceIte, reduceCtorEq, Nat.reduceAdd, Nat.reduceMul, Nat.reduceSub, Nat.reduceLT, Int.reduceLT, Int.reduceLE, Int.reduceNeg, Int.reduceToNat, Nat.reduceBEq, Nat.reduceBNe, Int.reduceGE, Int.reduceGT, *, cEqTabs, cEqIntS, Tryz.results52])))
  ·dsimp only at i hi
   obtain ⟨hi, ht⟩ := hi
   have hlen : xs.length = ys.length := by omega
   have q1 := all_getD hx2 i
   have q2 := all_getD hy2 i
   (repeat' (first | (refine gate_a fun _ => ?_) | (refine fork_intro (fun hb => ?_) (fun hb => ?_) <;> (try simp only [ew] at hb)) | (simp only [go_sem, Nat.reduceLeDiff, Nat.reduceEqDiff, reduceIte, reduceCtorEq, Nat.reduceAdd, Nat.reduceMul, Nat.reduceSub, Nat.reduceLT, Int.reduceLT, Int.reduceLE, Int.reduceNeg, Int.reduceToNat, Nat.reduceBEq, Nat.reduceBNe, Int.reduceGE, Int.reduceGT, *, cEqTabs, cEqIntS, Tryz.results52])))
   ·exact (beq_eq_false_iff_ne.2 (ne_of_getD ‹_›)).symm
   ·have hq := ‹xs.getD i [] = ys.getD i []›
    clear q1 q2
    refine loop_next (i + 1) ⟨by omega, by rw [take_succ_getD (by omega) [], take_succ_getD (by omega) [], ht, hq]⟩ (by dsimp only; omega) ?_
    (repeat' (first | (refine gate_a fun _ => ?_) | (refine fork_intro (fun hb => ?_) (fun hb => ?_) <;> (try simp only [ew] at hb)) | (simp only [go_sem, Nat.reduceLeDiff, Nat.reduceEqDiff, reduceIte, reduceCtorEq, Nat.reduceAdd, Nat.reduceMul, Nat.reduceSub, Nat.reduceLT, Int.reduceLT, Int.reduceLE, Int.reduceNeg, Int.reduceToNat, Nat.reduceBEq, Nat.reduceBNe, Int.reduceGE, Int.reduceGT, *, cEqTabs, cEqIntS, Tryz.results52])))
   ·have := eq_of_takes hlen (by omega) ht
    subst this; simp
 ·have e0 : (c != d || (xs.length : Int) != ys.length) = true := by
   rw [Bool.or_eq_true, bne_iff_ne, bne_iff_ne]
   by_cases h : c = d
   ·exact .inr fun q => hcd ⟨h, q⟩
   ·exact .inl h
  have e1 : (c == d && xs == ys) = false := by
   rw [Bool.and_eq_false_iff, beq_eq_false_iff_ne, beq_eq_false_iff_ne]
   by_cases h : c = d
   ·exact .inr fun q => hcd ⟨h, by rw [q]⟩
   ·exact .inl h
  rw [e1]
  clear e1 hcd
  (repeat' (first | (refine gate_a fun _ => ?_) | (refine fork_intro (fun hb => ?_) (fun hb => ?_) <;> (try simp only [ew, e0] at hb)) | (simp only [go_sem, Nat.reduceLeDiff, Nat.reduceEqDiff, reduceIte, reduceCtorEq, Nat.reduceAdd, Nat.reduceMul, Nat.reduceSub, Nat.reduceLT, Int.reduceLT, Int.reduceLE, Int.reduceNeg, Int.reduceToNat, Nat.reduceBEq, Nat.reduceBNe, Int.reduceGE, Int.reduceGT, *, cEqTabs, cEqIntS, Tryz.results52, e0])))
end Go.Own
namespace Go.Own
open Go Go.Proofs
attribute [local go_sem] unD_dL dL_length dL_get dL_set dL_inj wfD_dL scal2 beq2 pair_eta
def cEqMon : Contract := ⟨[], false, fun
 | [.agg [.v (.int .i64 c), .sl 1 l, .v (.int .i64 m), .sl 2 q], .agg [.v (.int .i64 c2), .sl 1 l2, .v (.int .i64 m2), .sl 2 q2]] => some (WfS l ∧ WfD q ∧ WfS l2 ∧ WfD q2, [⟨false, [.d (.v (.bool ((c == c2 && unS l == unS l2) && m == m2 && unD q == unD q2)))]⟩], [])
 | _ => none⟩
theorem eqMonS_ok : ContractOK E0 9 cEqMon := by
 refine contract_of_wpc (E := E0) (T := mkT Tryz.prog [(52, cEqTabs), (21, cEqDepS)] false (fun _ => false) true (fun _ => false)) (mkT_ok (E := E0) (.cons eqTabsS_ok (.cons sameDepsS_ok .nil))) (fn := Tryz.f9) Tryz.func9 (by kernel_rfl) rfl mixedT (by kernel_rfl) rfl ?_
 intro args p rs ms hr
 unfold cEqMon at hr
 dsimp only at hr
 split at hr
 rotate_left
 ·cases hr
 rename_i c l m q c2 l2 m2 q2
 simp only [Option.some.injEq, Prod.mk.injEq] at hr
 obtain ⟨rfl, rfl, rfl⟩ := hr
 refine ⟨rfl, rfl, Nat.le_of_ble_eq_true rfl, ?_⟩
 have hm : maxLen = 9223372036854775807 := rfl
 rintro ⟨h1, h2, h3, h4⟩ bs
 obtain ⟨rs, rfl, hx, hy⟩ := h1.ex
 obtain ⟨ds, rfl, hd⟩ := h2.ex
 obtain ⟨rs2, rfl, hx2, hy2⟩ := h3.ex
 obtain ⟨ds2, rfl, hd2⟩ := h4.ex
 clear h1 h2 h3 h4
 rw [unS_sL, unS_sL, unD_dL, unD_dL]
 (repeat' (first | (refine gate_a fun _ => ?_) | (refine fork_intro (fun hb => ?_) (fun hb => ?_) <;> (try simp only [ew] at hb)) | (simp only [go_sem, Nat.reduceLeDiff, Nat.reduceEqDiff, reduceIte, reduceCtorEq, Nat.reduceAdd, Nat.reduceMul, Nat.reduceSub, Nat.reduceLT, Int.reduceLT, Int.reduceLE, Int.reduceNeg, Int.reduceToNat, Nat.reduceBEq, Nat.reduceBNe, Int.reduceGE, Int.reduceGT, *, cEqMon, cEqTabs, cEqDepS, Tryz.results9])))
end Go.Own
