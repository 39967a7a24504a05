import Derived.Test.YtgfbdbiebfhphaaOwnH8
import Derived.Test.YtgfbdbiebfhphaaOwnY3
namespace Go.Own
open Go Go.Proofs
set_option linter.unusedSimpArgs false
set_option linter.unusedVariables false
set_option maxRecDepth 20000
set_option maxHeartbeats 2000000

attribute [local go_sem] unD_dL dL_length dL_get dL_set dL_inj wfD_dL scal2 beq2 pair_eta dL_scal

/-! IsMonitor. -/
def isM (c : Int) (rs : List (List Int)) (m : Int) (qs : List (Int × Int)) : Bool := (tabOK c rs && modeOK m) && qs == mdL c rs m
def cIsM : Contract := ⟨[], false, fun
  | [.agg [.v (.int .i64 c), .sl 1 l, .v (.int .i64 m), .sl 2 q]] => some (WfS l ∧ WfD q ∧ -9223372036854775808 ≤ c ∧ c ≤ 9223372036854775807, [⟨false, [.d (.v (.bool (isM c (unS l) m (unD q))))]⟩], [])
  | _ => none⟩
theorem isMI_ok : ContractOK E0 19 cIsM := by
  refine contract_of_wpc (E := E0) (T := mkT Try.prog [(56, cIsTableS), (57, cMode), (59, cMD), (58, cEqDepS)] false (fun _ => false) true (fun _ => false)) (mkT_ok (E := E0) (.cons isTableI_ok (.cons modeI_ok (.cons mdI_ok (.cons sameDepsI_ok .nil))))) (fn := Try.f19) Try.func19 (by kernel_rfl) rfl mixedT (by kernel_rfl) rfl ?_
  intro args p rs ms hr
  unfold cIsM at hr
  dsimp only at hr
  split at hr
  rotate_left
  · cases hr
  rename_i c l m q
  simp only [Option.some.injEq, Prod.mk.injEq] at hr
  obtain ⟨rfl, rfl, rfl⟩ := hr
  refine ⟨rfl, rfl, Nat.le_of_ble_eq_true rfl, ?_⟩
  have hm : maxLen = 9223372036854775807 := rfl
  rintro ⟨h1, h2, hc1, hc2⟩ bs
  obtain ⟨rs, rfl, hx, hy⟩ := h1.ex
  obtain ⟨ds, rfl, hd⟩ := h2.ex
  clear h1 h2
  rw [unS_sL, unD_dL]
  unfold isM
  have h3 := (@mdL_facts c rs m).1
  cases h4 : tabOK c rs
  · rw [Bool.false_and, Bool.false_and]
    (repeat' (first
      | (refine gate_a fun _ => ?_)
      | (refine fork_intro (fun hb => ?_) (fun hb => ?_) <;> (try simp only [ew, h4] at hb))
      | (simp only [go_sem, Nat.reduceLeDiff, Nat.reduceEqDiff, reduceIte, reduceCtorEq, Nat.reduceAdd, Nat.reduceMul, Nat.reduceSub, Nat.reduceLT, Int.reduceLT, Int.reduceLE, Int.reduceNeg, Int.reduceToNat, Nat.reduceBEq, Nat.reduceBNe, Int.reduceGE, Int.reduceGT, *, cIsM, cIsTableS, cMode, cMD, cEqDepS, Try.results19, h4])))
  · cases h5 : modeOK m
    · rw [Bool.and_false, Bool.false_and]
      (repeat' (first
      | (refine gate_a fun _ => ?_)
      | (refine fork_intro (fun hb => ?_) (fun hb => ?_) <;> (try simp only [ew, h4, h5] at hb))
      | (simp only [go_sem, Nat.reduceLeDiff, Nat.reduceEqDiff, reduceIte, reduceCtorEq, Nat.reduceAdd, Nat.reduceMul, Nat.reduceSub, Nat.reduceLT, Int.reduceLT, Int.reduceLE, Int.reduceNeg, Int.reduceToNat, Nat.reduceBEq, Nat.reduceBNe, Int.reduceGE, Int.reduceGT, *, cIsM, cIsTableS, cMode, cMD, cEqDepS, Try.results19, h4, h5])))
    · rw [Bool.and_true, Bool.true_and]
      generalize hz : mdL c rs m = zs at h3 ⊢
      (repeat' (first
      | (refine gate_a fun _ => ?_)
      | (refine fork_intro (fun hb => ?_) (fun hb => ?_) <;> (try simp only [ew, h4, h5, hz] at hb))
      | (simp only [go_sem, Nat.reduceLeDiff, Nat.reduceEqDiff, reduceIte, reduceCtorEq, Nat.reduceAdd, Nat.reduceMul, Nat.reduceSub, Nat.reduceLT, Int.reduceLT, Int.reduceLE, Int.reduceNeg, Int.reduceToNat, Nat.reduceBEq, Nat.reduceBNe, Int.reduceGE, Int.reduceGT, *, cIsM, cIsTableS, cMode, cMD, cEqDepS, Try.results19, h4, h5, hz])))
theorem isMS_ok : ContractOK E0 17 cIsM := by
  refine contract_of_wpc (E := E0) (T := mkT Try.prog [(53, cFine), (55, cMD), (54, cEqDepS)] false (fun _ => false) true (fun _ => false)) (mkT_ok (E := E0) (.cons fine_ok (.cons mdS_ok (.cons sameDepsS_ok .nil)))) (fn := Try.f17) Try.func17 (by kernel_rfl) rfl mixedT (by kernel_rfl) rfl ?_
  intro args p rs ms hr
  unfold cIsM at hr
  dsimp only at hr
  split at hr
  rotate_left
  · cases hr
  rename_i c l m q
  simp only [Option.some.injEq, Prod.mk.injEq] at hr
  obtain ⟨rfl, rfl, rfl⟩ := hr
  refine ⟨rfl, rfl, Nat.le_of_ble_eq_true rfl, ?_⟩
  have hm : maxLen = 9223372036854775807 := rfl
  rintro ⟨h1, h2, hc1, hc2⟩ bs
  obtain ⟨rs, rfl, hx, hy⟩ := h1.ex
  obtain ⟨ds, rfl, hd⟩ := h2.ex
  clear h1 h2
  rw [unS_sL, unD_dL]
  unfold isM
  have h3 := (@mdL_facts c rs m).1
  cases h4 : (tabOK c rs && modeOK m)
  · rw [Bool.false_and]
    (repeat' (first
      | (refine gate_a fun _ => ?_)
      | (refine fork_intro (fun hb => ?_) (fun hb => ?_) <;> (try simp only [ew, h4] at hb))
      | (simp only [go_sem, Nat.reduceLeDiff, Nat.reduceEqDiff, reduceIte, reduceCtorEq, Nat.reduceAdd, Nat.reduceMul, Nat.reduceSub, Nat.reduceLT, Int.reduceLT, Int.reduceLE, Int.reduceNeg, Int.reduceToNat, Nat.reduceBEq, Nat.reduceBNe, Int.reduceGE, Int.reduceGT, *, cIsM, cFine, cMD, cEqDepS, Try.results17, h4])))
  · rw [Bool.true_and]
    generalize hz : mdL c rs m = zs at h3 ⊢
    (repeat' (first
      | (refine gate_a fun _ => ?_)
      | (refine fork_intro (fun hb => ?_) (fun hb => ?_) <;> (try simp only [ew, h4, hz] at hb))
      | (simp only [go_sem, Nat.reduceLeDiff, Nat.reduceEqDiff, reduceIte, reduceCtorEq, Nat.reduceAdd, Nat.reduceMul, Nat.reduceSub, Nat.reduceLT, Int.reduceLT, Int.reduceLE, Int.reduceNeg, Int.reduceToNat, Nat.reduceBEq, Nat.reduceBNe, Int.reduceGE, Int.reduceGT, *, cIsM, cFine, cMD, cEqDepS, Try.results17, h4, hz])))
def cLawN : Contract := ⟨[], false, fun
  | [.agg [.v (.int .i64 c), .sl 1 l, .v (.int .i64 m), .sl 2 q]] => some (WfS l ∧ WfD q ∧ -9223372036854775808 ≤ c ∧ c ≤ 9223372036854775807, [⟨false, [.d (.v (.bool true))]⟩], [])
  | _ => none⟩
theorem lawIsM_ok : ContractOK E0 4 cLawN := by
  refine contract_of_wpc (E := E0) (T := mkT Try.prog [(16, cSzMon), (18, cToMon), (17, cIsM), (19, cIsM), (20, cEqMon)] false (fun _ => false) true (fun _ => false)) (mkT_ok (E := E0) (.cons szMon_ok (.cons toMon_ok (.cons isMS_ok (.cons isMI_ok (.cons eqMonL_ok .nil)))))) (fn := Try.f4) Try.func4 (by kernel_rfl) rfl mixedT (by kernel_rfl) rfl ?_
  intro args p rs ms hr
  unfold cLawN at hr
  dsimp only at hr
  split at hr
  rotate_left
  · cases hr
  rename_i c l m q
  simp only [Option.some.injEq, Prod.mk.injEq] at hr
  obtain ⟨rfl, rfl, rfl⟩ := hr
  refine ⟨rfl, rfl, Nat.le_of_ble_eq_true rfl, ?_⟩
  have hm : maxLen = 9223372036854775807 := rfl
  rintro ⟨h1, h2, hc1, hc2⟩ bs
  obtain ⟨rs, rfl, hx, hy⟩ := h1.ex
  obtain ⟨ds, rfl, hd⟩ := h2.ex
  clear h1 h2
  by_cases hs : szM rs ds.length 1048576 < 0
  · (repeat' (first
      | (refine gate_a fun _ => ?_)
      | (refine fork_intro (fun hb => ?_) (fun hb => ?_) <;> (try simp only [ew] at hb))
      | (simp only [go_sem, Nat.reduceLeDiff, Nat.reduceEqDiff, reduceIte, reduceCtorEq, Nat.reduceAdd, Nat.reduceMul, Nat.reduceSub, Nat.reduceLT, Int.reduceLT, Int.reduceLE, Int.reduceNeg, Int.reduceToNat, Nat.reduceBEq, Nat.reduceBNe, Int.reduceGE, Int.reduceGT, *, cLawN, cSzMon, cToMon, cIsM, cEqMon, Try.results4])))
    all_goals first | contradiction | skip
  · obtain ⟨⟨f1, f2⟩, f3, f4⟩ := szM_facts (Int.le_refl _) hs
    generalize hz : isM c rs m ds = b
    (repeat' (first
      | (refine gate_a fun _ => ?_)
      | (refine fork_intro (fun hb => ?_) (fun hb => ?_) <;> (try simp only [ew, hz] at hb))
      | (simp only [go_sem, Nat.reduceLeDiff, Nat.reduceEqDiff, reduceIte, reduceCtorEq, Nat.reduceAdd, Nat.reduceMul, Nat.reduceSub, Nat.reduceLT, Int.reduceLT, Int.reduceLE, Int.reduceNeg, Int.reduceToNat, Nat.reduceBEq, Nat.reduceBNe, Int.reduceGE, Int.reduceGT, *, cLawN, cSzMon, cToMon, cIsM, cEqMon, Try.results4, hz])))
    all_goals (first | (exfalso; omega) | skip)
end Go.Own
