import Derived.Test.YtnjijpgnfjghfaaGreatOwnH8
import Derived.Test.YtnjijpgnfjghfaaGreatOwnY3
namespace Go.Own
open Go Go.Proofs
set_option linter.unusedSimpArgs false
set_option linter.unusedVariables false
set_option maxRecDepth 20000
set_option maxHeartbeats 2000000

attribute [local go_sem] unD_dL dL_length dL_get dL_set dL_inj wfD_dL scal2 beq2 pair_eta dL_scal

/-! IsMonitor. -/
def isM (c : Int) (rs : List (List Int)) (m : Int) (qs : List (Int × Int)) : Bool := (tabOK c rs && modeOK m) && qs == mdL c rs m
def cIsM : Contract := ⟨[], false, fun
  | [.agg [.v (.int .i64 c), .sl 1 l, .v (.int .i64 m), .sl 2 q]] => some (WfS l ∧ WfD q ∧ -9223372036854775808 ≤ c ∧ c ≤ 9223372036854775807, [⟨false, [.d (.v (.bool (isM c (unS l) m (unD q))))]⟩], [])
  | _ => none⟩
theorem isMI_ok : ContractOK E0 34 cIsM := by
  refine contract_of_wpc (E := E0) (T := mkT Tryz.prog [(75, cIsTableS), (76, cMode), (78, cMD), (77, cEqDepS)] false (fun _ => false) true (fun _ => false)) (mkT_ok (E := E0) (.cons isTableI_ok (.cons modeI_ok (.cons mdI_ok (.cons sameDepsI_ok .nil))))) (fn := Tryz.f34) Tryz.func34 (by kernel_rfl) rfl mixedT (by kernel_rfl) rfl ?_
  intro args p rs ms hr
  unfold cIsM at hr
  dsimp only at hr
  split at hr
  rotate_left
  · cases hr
  rename_i c l m q
  simp only [Option.some.injEq, Prod.mk.injEq] at hr
  obtain ⟨rfl, rfl, rfl⟩ := hr
  refine ⟨rfl, rfl, Nat.le_of_ble_eq_true rfl, ?_⟩
  have hm : maxLen = 9223372036854775807 := rfl
  rintro ⟨h1, h2, hc1, hc2⟩ bs
  obtain ⟨rs, rfl, hx, hy⟩ := h1.ex
  obtain ⟨ds, rfl, hd⟩ := h2.ex
  clear h1 h2
  rw [unS_sL, unD_dL]
  unfold isM
  have h3 := (@mdL_facts c rs m).1
  cases h4 : tabOK c rs
  · rw [Bool.false_and, Bool.false_and]
    (repeat' (first
      | (refine gate_a fun _ => ?_)
      | (refine fork_intro (fun hb => ?_) (fun hb => ?_) <;> (try simp only [ew, h4] at hb))
      | (simp only [go_sem, Nat.reduceLeDiff, Nat.reduceEqDiff, reduceIte, reduceCtorEq, Nat.reduceAdd, Nat.reduceMul, Nat.reduceSub, Nat.reduceLT, Int.reduceLT, Int.reduceLE, Int.reduceNeg, Int.reduceToNat, Nat.reduceBEq, Nat.reduceBNe, Int.reduceGE, Int.reduceGT, *, cIsM, cIsTableS, cMode, cMD, cEqDepS, Tryz.results34, h4])))
  · cases h5 : modeOK m
    · rw [Bool.and_false, Bool.false_and]
      (repeat' (first
      | (refine gate_a fun _ => ?_)
      | (refine fork_intro (fun hb => ?_) (fun hb => ?_) <;> (try simp only [ew, h4, h5] at hb))
      | (simp only [go_sem, Nat.reduceLeDiff, Nat.reduceEqDiff, reduceIte, reduceCtorEq, Nat.reduceAdd, Nat.reduceMul, Nat.reduceSub, Nat.reduceLT, Int.reduceLT, Int.reduceLE, Int.reduceNeg, Int.reduceToNat, Nat.reduceBEq, Nat.reduceBNe, Int.reduceGE, Int.reduceGT, *, cIsM, cIsTableS, cMode, cMD, cEqDepS, Tryz.results34, h4, h5])))
    · rw [Bool.and_true, Bool.true_and]
      generalize hz : mdL c rs m = zs at h3 ⊢
      (repeat' (first
      | (refine gate_a fun _ => ?_)
      | (refine fork_intro (fun hb => ?_) (fun hb => ?_) <;> (try simp only [ew, h4, h5, hz] at hb))
      | (simp only [go_sem, Nat.reduceLeDiff, Nat.reduceEqDiff, reduceIte, reduceCtorEq, Nat.reduceAdd, Nat.reduceMul, Nat.reduceSub, Nat.reduceLT, Int.reduceLT, Int.reduceLE, Int.reduceNeg, Int.reduceToNat, Nat.reduceBEq, Nat.reduceBNe, Int.reduceGE, Int.reduceGT, *, cIsM, cIsTableS, cMode, cMD, cEqDepS, Tryz.results34, h4, h5, hz])))
theorem isMS_ok : ContractOK E0 28 cIsM := by
  refine contract_of_wpc (E := E0) (T := mkT Tryz.prog [(64, cFine), (66, cMD), (65, cEqDepS)] false (fun _ => false) true (fun _ => false)) (mkT_ok (E := E0) (.cons fine_ok (.cons mdS_ok (.cons sameDepsS_ok .nil)))) (fn := Tryz.f28) Tryz.func28 (by kernel_rfl) rfl mixedT (by kernel_rfl) rfl ?_
  intro args p rs ms hr
  unfold cIsM at hr
  dsimp only at hr
  split at hr
  rotate_left
  · cases hr
  rename_i c l m q
  simp only [Option.some.injEq, Prod.mk.injEq] at hr
  obtain ⟨rfl, rfl, rfl⟩ := hr
  refine ⟨rfl, rfl, Nat.le_of_ble_eq_true rfl, ?_⟩
  have hm : maxLen = 9223372036854775807 := rfl
  rintro ⟨h1, h2, hc1, hc2⟩ bs
  obtain ⟨rs, rfl, hx, hy⟩ := h1.ex
  obtain ⟨ds, rfl, hd⟩ := h2.ex
  clear h1 h2
  rw [unS_sL, unD_dL]
  unfold isM
  have h3 := (@mdL_facts c rs m).1
  cases h4 : (tabOK c rs && modeOK m)
  · rw [Bool.false_and]
    (repeat' (first
      | (refine gate_a fun _ => ?_)
      | (refine fork_intro (fun hb => ?_) (fun hb => ?_) <;> (try simp only [ew, h4] at hb))
      | (simp only [go_sem, Nat.reduceLeDiff, Nat.reduceEqDiff, reduceIte, reduceCtorEq, Nat.reduceAdd, Nat.reduceMul, Nat.reduceSub, Nat.reduceLT, Int.reduceLT, Int.reduceLE, Int.reduceNeg, Int.reduceToNat, Nat.reduceBEq, Nat.reduceBNe, Int.reduceGE, Int.reduceGT, *, cIsM, cFine, cMD, cEqDepS, Tryz.results28, h4])))
  · rw [Bool.true_and]
    generalize hz : mdL c rs m = zs at h3 ⊢
    (repeat' (first
      | (refine gate_a fun _ => ?_)
      | (refine fork_intro (fun hb => ?_) (fun hb => ?_) <;> (try simp only [ew, h4, hz] at hb))
      | (simp only [go_sem, Nat.reduceLeDiff, Nat.reduceEqDiff, reduceIte, reduceCtorEq, Nat.reduceAdd, Nat.reduceMul, Nat.reduceSub, Nat.reduceLT, Int.reduceLT, Int.reduceLE, Int.reduceNeg, Int.reduceToNat, Nat.reduceBEq, Nat.reduceBNe, Int.reduceGE, Int.reduceGT, *, cIsM, cFine, cMD, cEqDepS, Tryz.results28, h4, hz])))
def cLawN : Contract := ⟨[], false, fun
  | [.agg [.v (.int .i64 c), .sl 1 l, .v (.int .i64 m), .sl 2 q]] => some (WfS l ∧ WfD q ∧ -9223372036854775808 ≤ c ∧ c ≤ 9223372036854775807, [⟨false, [.d (.v (.bool true))]⟩], [])
  | _ => none⟩
end Go.Own
