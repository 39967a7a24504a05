/- Own contracts. Conditions: as each theorem states them. -/
import Derived.Test.YtlliofolbiebmaaGreatOwnZ5
set_option linter.unusedSimpArgs false
set_option linter.unusedVariables false
set_option maxRecDepth 20000
set_option maxHeartbeats 2000000
namespace Go.Own
open Go Go.Proofs
def cHasCol : Contract := ⟨[], false, fun
 | [.agg [.v (.int .i64 c), .sl 1 l], .one (.v (.int .i64 a))] => some (True, [⟨false, [.d (.v (.bool (decide (a ≥ 0) && decide (a < c))))]⟩], [])
 | _ => none⟩
theorem hasCol_ok : ContractOK E0 64 cHasCol := by
 refine contract_of_wpc (E := E0) (T := mkT Tryz.prog [] false (fun _ => false) true (fun _ => false)) (mkT_ok (E := E0) .nil) (fn := Tryz.f64) Tryz.func64 (by kernel_rfl) rfl mixedT (by kernel_rfl) rfl ?_
 intro args p rs ms hr
 unfold cHasCol at hr
 dsimp only at hr
 split at hr
 ·simp only [Option.some.injEq, Prod.mk.injEq] at hr
  obtain ⟨rfl, rfl, rfl⟩ := hr
  refine ⟨rfl, rfl, Nat.le_of_ble_eq_true rfl, ?_⟩
  intro _ bs
  (repeat' (first | (refine gate_a fun _ => ?_) | (refine fork_intro (fun hb => ?_) (fun hb => ?_) <;> (try simp only [ew, cHasCol, Tryz.results64] at hb)) | (simp only [go_sem, Nat.reduceLeDiff, Nat.reduceEqDiff, reduceIte, reduceCtorEq, Nat.reduceAdd, Nat.reduceMul, Nat.reduceSub, Nat.reduceLT, Int.reduceLT, Int.reduceLE, Int.reduceNeg, Int.reduceToNat, Nat.reduceBEq, Nat.reduceBNe, Int.reduceGE, Int.reduceGT, *, cHasCol, Tryz.results64])))
 ·cases hr
theorem isRow_ok : ContractOK E0 61 cL3Row := by
 refine contract_of_wpc (E := E0) (T := mkT Tryz.prog [] false (fun _ => false) true (fun _ => false)) (mkT_ok (E := E0) .nil) (fn := Tryz.f61) Tryz.func61 (by kernel_rfl) rfl mixedT (by kernel_rfl) rfl ?_
 intro args p rs ms hr
 unfold cL3Row at hr
 dsimp only at hr
 split at hr
 ·rename_i l c
  simp only [Option.some.injEq, Prod.mk.injEq] at hr
  obtain ⟨rfl, rfl, rfl⟩ := hr
  refine ⟨rfl, rfl, Nat.le_of_ble_eq_true rfl, ?_⟩
  intro h1 bs
  obtain ⟨xs, rfl, hx⟩ := h1.ex
  clear h1
  rw [unI_iL]
  have hm : maxLen = 9223372036854775807 := rfl
  unfold rowOK
  (repeat' (first | (refine gate_a fun _ => ?_) | (refine fork_intro (fun hb => ?_) (fun hb => ?_) <;> (try simp only [ew, cL3Row, Tryz.results61] at hb)) | (simp only [go_sem, Nat.reduceLeDiff, Nat.reduceEqDiff, reduceIte, reduceCtorEq, Nat.reduceAdd, Nat.reduceMul, Nat.reduceSub, Nat.reduceLT, Int.reduceLT, Int.reduceLE, Int.reduceNeg, Int.reduceToNat, Nat.reduceBEq, Nat.reduceBNe, Int.reduceGE, Int.reduceGT, *, cL3Row, Tryz.results61])))
  refine loop_intro { ι := Nat, rs := [(4, 5), (6, 7), (10, 20)], mods := [(9, fun i => .one (.d (.v (.int .i64 i))))], boxes := [], arrs := [], ok := fun i => i ≤ xs.length ∧ (xs.drop i).all (fun v => inB v (-1) 40) = xs.all (fun v => inB v (-1) 40), mu := fun i => xs.length - i } rfl 0 ⟨Nat.zero_le _, rfl⟩ ?_ fun i hi => ?_
  ·(repeat' (first | (refine gate_a fun _ => ?_) | (refine fork_intro (fun hb => ?_) (fun hb => ?_) <;> (try simp only [ew, cL3Row] at hb)) | (simp only [go_sem, Nat.reduceLeDiff, Nat.reduceEqDiff, reduceIte, reduceCtorEq, Nat.reduceAdd, Nat.reduceMul, Nat.reduceSub, Nat.reduceLT, Int.reduceLT, Int.reduceLE, Int.reduceNeg, Int.reduceToNat, Nat.reduceBEq, Nat.reduceBNe, Int.reduceGE, Int.reduceGT, *, cL3Row])))
  ·dsimp only at i hi
   obtain ⟨hi, ht⟩ := hi
   (repeat' (first | (refine gate_a fun _ => ?_) | (refine fork_intro (fun hb => ?_) (fun hb => ?_) <;> (try simp only [ew, cL3Row, Tryz.results61] at hb)) | (simp only [go_sem, Nat.reduceLeDiff, Nat.reduceEqDiff, reduceIte, reduceCtorEq, Nat.reduceAdd, Nat.reduceMul, Nat.reduceSub, Nat.reduceLT, Int.reduceLT, Int.reduceLE, Int.reduceNeg, Int.reduceToNat, Nat.reduceBEq, Nat.reduceBNe, Int.reduceGE, Int.reduceGT, *, cL3Row, Tryz.results61])))
   ·have hv : inB (xs.getD i 0) (-1) 40 = false := by
     simp only [inB, Bool.and_eq_false_iff, decide_eq_false_iff_not]
     have hb := ‹(decide _ || decide _) = true›
     simp only [Bool.or_eq_true, decide_eq_true_eq] at hb
     omega
    rw [← ht, all_drop (by omega) 0 _, hv]; rfl
   ·have hv : inB (xs.getD i 0) (-1) 40 = true := by
     simp only [inB, Bool.and_eq_true, decide_eq_true_eq]
     have hb := ‹(decide _ || decide _) = false›
     simp only [Bool.or_eq_false_iff, decide_eq_false_iff_not] at hb
     omega
    refine loop_next (i + 1) ⟨by omega, ?_⟩ (by dsimp only; omega) ?_
    ·rw [← ht, all_drop (i := i) (by omega) 0 _, hv]; rfl
    ·(repeat' (first | (refine gate_a fun _ => ?_) | (refine fork_intro (fun hb => ?_) (fun hb => ?_) <;> (try simp only [ew] at hb)) | (simp only [go_sem, Nat.reduceLeDiff, Nat.reduceEqDiff, reduceIte, reduceCtorEq, Nat.reduceAdd, Nat.reduceMul, Nat.reduceSub, Nat.reduceLT, Int.reduceLT, Int.reduceLE, Int.reduceNeg, Int.reduceToNat, Nat.reduceBEq, Nat.reduceBNe, Int.reduceGE, Int.reduceGT, *])))
   ·rw [← ht, List.drop_of_length_le (by omega)]; simp only [List.all_nil, Bool.true_and]; rw [Bool.eq_iff_iff]; simp
 ·cases hr
theorem isTableI_ok : ContractOK E0 29 cIsTableS := by
 refine contract_of_wpc (E := E0) (T := mkT Tryz.prog [(61, cL3Row)] false (fun _ => false) true (fun _ => false)) (mkT_ok (E := E0) (.cons isRow_ok .nil)) (fn := Tryz.f29) Tryz.func29 (by kernel_rfl) rfl mixedT (by kernel_rfl) rfl ?_
 intro args p rs ms hr
 unfold cIsTableS at hr
 dsimp only at hr
 split at hr
 ·rename_i c l
  simp only [Option.some.injEq, Prod.mk.injEq] at hr
  obtain ⟨rfl, rfl, rfl⟩ := hr
  refine ⟨rfl, rfl, Nat.le_of_ble_eq_true rfl, ?_⟩
  rintro ⟨h1, hc1, hc2⟩ bs
  obtain ⟨rs, rfl, hx, hy⟩ := h1.ex
  clear h1
  rw [unS_sL]
  have hm : maxLen = 9223372036854775807 := rfl
  have hyi := all_getD hy
  (repeat' (first | (refine gate_a fun _ => ?_) | (refine fork_intro (fun hb => ?_) (fun hb => ?_) <;> (try simp only [ew, cIsTableS, cL3Row, Tryz.results29] at hb)) | (simp only [go_sem, Nat.reduceLeDiff, Nat.reduceEqDiff, reduceIte, reduceCtorEq, Nat.reduceAdd, Nat.reduceMul, Nat.reduceSub, Nat.reduceLT, Int.reduceLT, Int.reduceLE, Int.reduceNeg, Int.reduceToNat, Nat.reduceBEq, Nat.reduceBNe, Int.reduceGE, Int.reduceGT, *, cIsTableS, cL3Row, Tryz.results29])))
  ·have hb := ‹(_ || _) = true›
   simp only [Bool.or_eq_true, decide_eq_true_eq] at hb
   have : tabOK c rs = false := by
    simp only [tabOK, inB, Bool.and_eq_false_iff, decide_eq_false_iff_not]
    omega
   rw [this]
  ·have hb := ‹(_ || _) = false›
   simp only [Bool.or_eq_false_iff, decide_eq_false_iff_not] at hb
   have hcc : (inB c 1 5 && decide ((rs.length : Int) ≤ 40)) = true := by
    simp only [inB, Bool.and_eq_true, decide_eq_true_eq]; omega
   refine loop_intro { ι := Nat, rs := [(2, 3), (4, 5), (23, 32)], mods := [(22, fun i => .one (.d (.v (.int .i64 i))))], boxes := [(1, fun _ => [.d (.v (.int .i64 c)), .d (.sl 1 (sL rs))])], arrs := [], ok := fun i => i ≤ rs.length ∧ (rs.drop i).all (fun r => rowOK r c) = rs.all (fun r => rowOK r c), mu := fun i => rs.length - i } rfl 0 ⟨Nat.zero_le _, rfl⟩ ?_ fun i hi => ?_
   ·(repeat' (first | (refine gate_a fun _ => ?_) | (refine fork_intro (fun hb => ?_) (fun hb => ?_) <;> (try simp only [ew] at hb)) | (simp only [go_sem, Nat.reduceLeDiff, Nat.reduceEqDiff, reduceIte, reduceCtorEq, Nat.reduceAdd, Nat.reduceMul, Nat.reduceSub, Nat.reduceLT, Int.reduceLT, Int.reduceLE, Int.reduceNeg, Int.reduceToNat, Nat.reduceBEq, Nat.reduceBNe, Int.reduceGE, Int.reduceGT, *])))
   ·dsimp only at i hi
    obtain ⟨hi, ht⟩ := hi
    clear hb
    (repeat' (first | (refine gate_a fun _ => ?_) | (refine fork_intro (fun hb => ?_) (fun hb => ?_) <;> (try simp only [ew, cIsTableS, cL3Row, Tryz.results29] at hb)) | (simp only [go_sem, Nat.reduceLeDiff, Nat.reduceEqDiff, reduceIte, reduceCtorEq, Nat.reduceAdd, Nat.reduceMul, Nat.reduceSub, Nat.reduceLT, Int.reduceLT, Int.reduceLE, Int.reduceNeg, Int.reduceToNat, Nat.reduceBEq, Nat.reduceBNe, Int.reduceGE, Int.reduceGT, *, cIsTableS, cL3Row, Tryz.results29])))
    ·unfold tabOK; rw [← ht, all_drop (by omega) [] _, ‹rowOK _ _ = false›]; rfl
    ·refine loop_next (i + 1) ⟨by omega, ?_⟩ (by dsimp only; omega) ?_
     ·rw [← ht, all_drop (i := i) (by omega) [] _, ‹rowOK _ _ = true›]; rfl
     ·(repeat' (first | (refine gate_a fun _ => ?_) | (refine fork_intro (fun hb => ?_) (fun hb => ?_) <;> (try simp only [ew] at hb)) | (simp only [go_sem, Nat.reduceLeDiff, Nat.reduceEqDiff, reduceIte, reduceCtorEq, Nat.reduceAdd, Nat.reduceMul, Nat.reduceSub, Nat.reduceLT, Int.reduceLT, Int.reduceLE, Int.reduceNeg, Int.reduceToNat, Nat.reduceBEq, Nat.reduceBNe, Int.reduceGE, Int.reduceGT, *])))
    ·unfold tabOK; rw [← ht, List.drop_of_length_le (by omega), hcc]; rfl
 ·cases hr
end Go.Own
namespace Go.Own
open Go Go.Proofs
theorem cols_facts {c : Int} {rs : List (List Int)} {a b : Int} (h : colsOK c rs a b = true) : ∃ a' b' c' : Nat, a = a' ∧ b = b' ∧ c = c' ∧ a' < c' ∧ b' < c' ∧ rs.length ≤ 40 ∧ ∀ i, i < rs.length → (rs.getD i []).length = c' := by
 simp only [colsOK, tabOK, inB, Bool.and_eq_true, decide_eq_true_eq, List.all_eq_true] at h
 obtain ⟨⟨⟨h1, ⟨h2, h3⟩, h4⟩, h5, h6⟩, h7, h8⟩ := h
 obtain ⟨a', rfl⟩ := Int.eq_ofNat_of_zero_le h5
 obtain ⟨b', rfl⟩ := Int.eq_ofNat_of_zero_le h7
 obtain ⟨c', rfl⟩ := Int.eq_ofNat_of_zero_le (show 0 ≤ c by omega)
 refine ⟨a', b', c', rfl, rfl, rfl, by omega, by omega, by omega, fun i hi => ?_⟩
 have := h1 (rs.getD i []) (by simp [List.getD_eq_getElem?_getD, hi])
 simp only [rowOK, Bool.and_eq_true, decide_eq_true_eq] at this
 omega
end Go.Own
namespace Go.Own
open Go Go.Proofs
end Go.Own
namespace Go.Own
open Go Go.Proofs
end Go.Own
namespace Go.Own
open Go Go.Proofs
end Go.Own
namespace Go.Own
open Go Go.Proofs
def colL (rs : List (List Int)) (a : Nat) : List Int := rs.map fun r => r.getD a 0
theorem col_facts {c : Int} {rs : List (List Int)} {a : Int} (ht : tabOK c rs = true) (hi : inB a 0 (c - 1) = true) : ∃ a' c' : Nat, a = a' ∧ c = c' ∧ a' < c' ∧ rs.length ≤ 40 ∧ ∀ i, i < rs.length → (rs.getD i []).length = c' := by
 obtain ⟨a', b', c', h1, h2, h3, h4, h5, h6, h7⟩ := cols_facts (c := c) (rs := rs) (a := a) (b := a) (by rw [colsOK, ht, hi]; rfl)
 exact ⟨a', c', h1, h3, h4, h6, h7⟩
end Go.Own
