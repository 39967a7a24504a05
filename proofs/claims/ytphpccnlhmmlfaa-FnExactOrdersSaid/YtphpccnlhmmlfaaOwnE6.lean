import Derived.Test.YtphpccnlhmmlfaaOwnE5
import Derived.Test.YtphpccnlhmmlfaaOwnC3
import Derived.Test.YtphpccnlhmmlfaaOwnC8
namespace Go.Own
open Go Go.Proofs
set_option linter.unusedSimpArgs false
set_option linter.unusedVariables false
set_option maxRecDepth 20000
set_option maxHeartbeats 2000000



def cLawT : Contract := ⟨[], false, fun
  | [.agg [.v (.int .i64 c), .sl 1 l]] => some (WfS l ∧ -9223372036854775808 ≤ c ∧ c ≤ 9223372036854775807, [⟨false, [.d (.v (.bool true))]⟩], [])
  | _ => none⟩
theorem lawOrd_ok : ContractOK E0 5 cLawT := by
  refine contract_of_wpc (E := E0) (T := mkT Try.prog [(8, cSzTable), (10, cToTable), (21, cOrders), (22, cOrders), (23, cEqDepS), (13, cEqTable), (18, cMarkT), (24, cMarkX), (25, cHeldX)] false (fun _ => false) true (fun _ => false)) (mkT_ok (E := E0) (.cons szTable_ok (.cons toTable_ok (.cons ordersS_ok (.cons ordersI_ok (.cons eqXS_ok (.cons eqTable_ok (.cons markT_ok (.cons markX_ok (.cons heldX_ok .nil)))))))))) (fn := Try.f5) Try.func5 (by kernel_rfl) rfl mixedT (by kernel_rfl) rfl ?_
  intro args p rs ms hr
  unfold cLawT at hr
  dsimp only at hr
  split at hr
  rotate_left
  · cases hr
  rename_i c l
  simp only [Option.some.injEq, Prod.mk.injEq] at hr
  obtain ⟨rfl, rfl, rfl⟩ := hr
  refine ⟨rfl, rfl, Nat.le_of_ble_eq_true rfl, ?_⟩
  have hm : maxLen = 9223372036854775807 := rfl
  rintro ⟨h1, hc1, hc2⟩ bs
  obtain ⟨rs, rfl, hx, hy⟩ := h1.ex
  clear h1
  by_cases hs : szL rs 1048576 < 0
  · (repeat' (first
      | (refine gate_intro (by first | omega | (simp only [maxLen]; omega) | simp_all | (simp_all [maxLen]; omega)) fun _ => ?_)
      | ((refine fork_intro (fun hb => ?_) (fun hb => ?_)) <;> (try simp only [decide_eq_true_eq, decide_eq_false_iff_not, iL_length, sL_length, Int.ofNat_lt, Int.ofNat_le, Bool.not_eq_true', Bool.not_eq_false', beq_iff_eq, bne_iff_ne, beq_eq_false_iff_ne, ne_eq, bne_eq_false_iff_eq, Decidable.not_not, Bool.and_eq_true, Bool.and_eq_false_imp, cLawT, cSzTable, cToTable, cOrders, cEqDepS, cEqTable, cMarkT, cMarkX, cHeldX, Try.results5, unD_dL, dL_length, dL_get, dL_set, dL_inj, wfD_dL, scal2, beq2, pair_eta] at hb))
      | (simp only [go_sem, Nat.reduceLeDiff, Nat.reduceEqDiff, reduceIte, reduceCtorEq, Nat.reduceAdd, Nat.reduceMul, Nat.reduceSub, Nat.reduceLT, Int.reduceLT, Int.reduceLE, Int.reduceNeg, Int.reduceToNat, Nat.reduceBEq, Nat.reduceBNe, *, cLawT, cSzTable, cToTable, cOrders, cEqDepS, cEqTable, cMarkT, cMarkX, cHeldX, Try.results5, unD_dL, dL_length, dL_get, dL_set, dL_inj, wfD_dL, scal2, beq2, pair_eta])))
    all_goals first | contradiction | skip
  · obtain ⟨hl1, hl2⟩ := szL_facts hs
    obtain ⟨p1, p2⟩ := @prs_max (ohB c rs) c rs
    generalize hz : prs (ohB c rs) c rs = zs at p1 p2
    have b4 := tot_big hl1 hl2
    have t1 := @tot_nonneg rs
    (repeat' (first
      | (refine gate_intro (by first | omega | ((repeat' (first | apply And.intro | assumption | omega | intro _)); done) | (simp only [maxLen]; omega) | simp_all | (simp_all [maxLen]; omega)) fun _ => ?_)
      | ((refine fork_intro (fun hb => ?_) (fun hb => ?_)) <;> (try simp only [decide_eq_true_eq, decide_eq_false_iff_not, iL_length, sL_length, Int.ofNat_lt, Int.ofNat_le, Bool.not_eq_true', Bool.not_eq_false', beq_iff_eq, bne_iff_ne, beq_eq_false_iff_ne, ne_eq, bne_eq_false_iff_eq, Decidable.not_not, Bool.and_eq_true, Bool.and_eq_false_imp, cLawT, cSzTable, cToTable, cOrders, cEqDepS, cEqTable, cMarkT, cMarkX, cHeldX, Try.results5, unD_dL, dL_length, dL_get, dL_set, dL_inj, wfD_dL, scal2, beq2, pair_eta, hz, heldD_marks, markD_length] at hb))
      | (simp only [go_sem, Nat.reduceLeDiff, Nat.reduceEqDiff, reduceIte, reduceCtorEq, Nat.reduceAdd, Nat.reduceMul, Nat.reduceSub, Nat.reduceLT, Int.reduceLT, Int.reduceLE, Int.reduceNeg, Int.reduceToNat, Nat.reduceBEq, Nat.reduceBNe, *, cLawT, cSzTable, cToTable, cOrders, cEqDepS, cEqTable, cMarkT, cMarkX, cHeldX, Try.results5, unD_dL, dL_length, dL_get, dL_set, dL_inj, wfD_dL, scal2, beq2, pair_eta, hz, heldD_marks, markD_length])))
    all_goals (exfalso; omega)

theorem lawInc_ok : ContractOK E0 6 cLawT := by
  refine contract_of_wpc (E := E0) (T := mkT Try.prog [(8, cSzTable), (10, cToTable), (26, cIncs), (27, cIncs), (23, cEqDepS), (13, cEqTable), (18, cMarkT), (24, cMarkX), (25, cHeldX)] false (fun _ => false) true (fun _ => false)) (mkT_ok (E := E0) (.cons szTable_ok (.cons toTable_ok (.cons incsS_ok (.cons incsI_ok (.cons eqXS_ok (.cons eqTable_ok (.cons markT_ok (.cons markX_ok (.cons heldX_ok .nil)))))))))) (fn := Try.f6) Try.func6 (by kernel_rfl) rfl mixedT (by kernel_rfl) rfl ?_
  intro args p rs ms hr
  unfold cLawT at hr
  dsimp only at hr
  split at hr
  rotate_left
  · cases hr
  rename_i c l
  simp only [Option.some.injEq, Prod.mk.injEq] at hr
  obtain ⟨rfl, rfl, rfl⟩ := hr
  refine ⟨rfl, rfl, Nat.le_of_ble_eq_true rfl, ?_⟩
  have hm : maxLen = 9223372036854775807 := rfl
  rintro ⟨h1, hc1, hc2⟩ bs
  obtain ⟨rs, rfl, hx, hy⟩ := h1.ex
  clear h1
  by_cases hs : szL rs 1048576 < 0
  · (repeat' (first
      | (refine gate_intro (by first | omega | (simp only [maxLen]; omega) | simp_all | (simp_all [maxLen]; omega)) fun _ => ?_)
      | ((refine fork_intro (fun hb => ?_) (fun hb => ?_)) <;> (try simp only [decide_eq_true_eq, decide_eq_false_iff_not, iL_length, sL_length, Int.ofNat_lt, Int.ofNat_le, Bool.not_eq_true', Bool.not_eq_false', beq_iff_eq, bne_iff_ne, beq_eq_false_iff_ne, ne_eq, bne_eq_false_iff_eq, Decidable.not_not, Bool.and_eq_true, Bool.and_eq_false_imp, cLawT, cSzTable, cToTable, cIncs, cEqDepS, cEqTable, cMarkT, cMarkX, cHeldX, Try.results6, unD_dL, dL_length, dL_get, dL_set, dL_inj, wfD_dL, scal2, beq2, pair_eta] at hb))
      | (simp only [go_sem, Nat.reduceLeDiff, Nat.reduceEqDiff, reduceIte, reduceCtorEq, Nat.reduceAdd, Nat.reduceMul, Nat.reduceSub, Nat.reduceLT, Int.reduceLT, Int.reduceLE, Int.reduceNeg, Int.reduceToNat, Nat.reduceBEq, Nat.reduceBNe, *, cLawT, cSzTable, cToTable, cIncs, cEqDepS, cEqTable, cMarkT, cMarkX, cHeldX, Try.results6, unD_dL, dL_length, dL_get, dL_set, dL_inj, wfD_dL, scal2, beq2, pair_eta])))
    all_goals first | contradiction | skip
  · obtain ⟨hl1, hl2⟩ := szL_facts hs
    obtain ⟨p1, p2⟩ := @prs_max (hiB c rs) c rs
    generalize hz : prs (hiB c rs) c rs = zs at p1 p2
    have b4 := tot_big hl1 hl2
    have t1 := @tot_nonneg rs
    (repeat' (first
      | (refine gate_intro (by first | omega | ((repeat' (first | apply And.intro | assumption | omega | intro _)); done) | (simp only [maxLen]; omega) | simp_all | (simp_all [maxLen]; omega)) fun _ => ?_)
      | ((refine fork_intro (fun hb => ?_) (fun hb => ?_)) <;> (try simp only [decide_eq_true_eq, decide_eq_false_iff_not, iL_length, sL_length, Int.ofNat_lt, Int.ofNat_le, Bool.not_eq_true', Bool.not_eq_false', beq_iff_eq, bne_iff_ne, beq_eq_false_iff_ne, ne_eq, bne_eq_false_iff_eq, Decidable.not_not, Bool.and_eq_true, Bool.and_eq_false_imp, cLawT, cSzTable, cToTable, cIncs, cEqDepS, cEqTable, cMarkT, cMarkX, cHeldX, Try.results6, unD_dL, dL_length, dL_get, dL_set, dL_inj, wfD_dL, scal2, beq2, pair_eta, hz, heldD_marks, markD_length] at hb))
      | (simp only [go_sem, Nat.reduceLeDiff, Nat.reduceEqDiff, reduceIte, reduceCtorEq, Nat.reduceAdd, Nat.reduceMul, Nat.reduceSub, Nat.reduceLT, Int.reduceLT, Int.reduceLE, Int.reduceNeg, Int.reduceToNat, Nat.reduceBEq, Nat.reduceBNe, *, cLawT, cSzTable, cToTable, cIncs, cEqDepS, cEqTable, cMarkT, cMarkX, cHeldX, Try.results6, unD_dL, dL_length, dL_get, dL_set, dL_inj, wfD_dL, scal2, beq2, pair_eta, hz, heldD_marks, markD_length])))
    all_goals (exfalso; omega)

end Go.Own
