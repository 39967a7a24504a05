import Derived.Test.YtmfieiphcjenlaaOwnF4
import Derived.Test.YtmfieiphcjenlaaOwnF6
import Derived.Test.YtmfieiphcjenlaaOwnC5
namespace Go.Own
open Go Go.Proofs
set_option linter.unusedSimpArgs false
set_option linter.unusedVariables false
set_option maxRecDepth 20000
set_option maxHeartbeats 2000000

attribute [local go_sem] unD_dL dL_length dL_get dL_set dL_inj wfD_dL scal2 beq2 pair_eta

def cLawNDI : Contract := ⟨[], false, fun
  | [.one (.v (.int .i64 n)), .one (.sl 2 l), .one (.sl 1 p)] => some (WfD l ∧ WfI p ∧ -9223372036854775808 ≤ n ∧ n ≤ 9223372036854775807, [⟨false, [.d (.v (.bool true))]⟩], [])
  | _ => none⟩

theorem lawLo_ok : ContractOK E0 4 cLawNDI := by
  refine contract_of_wpc (E := E0) (T := mkT Try.prog [(9, cSzDepS), (12, cToDepS), (21, cToIntS), (20, cLo), (22, cLo), (16, cEqDepS), (23, cEqIntS)] false (fun _ => false) true (fun _ => false)) (mkT_ok (E := E0) (.cons szDepS_ok (.cons toDepS_ok (.cons toIntS_ok (.cons loS_ok (.cons loI_ok (.cons eqDepS_ok (.cons eqIntS_ok .nil)))))))) (fn := Try.f4) Try.func4 (by kernel_rfl) rfl mixedT (by kernel_rfl) rfl ?_
  intro args p rs ms hr
  unfold cLawNDI at hr
  dsimp only at hr
  split at hr
  rotate_left
  · cases hr
  rename_i n l p
  simp only [Option.some.injEq, Prod.mk.injEq] at hr
  obtain ⟨rfl, rfl, rfl⟩ := hr
  refine ⟨rfl, rfl, Nat.le_of_ble_eq_true rfl, ?_⟩
  have hm : maxLen = 9223372036854775807 := rfl
  rintro ⟨h1, h2, hn1, hn2⟩ bs
  obtain ⟨ds, rfl, hx⟩ := h1.ex
  obtain ⟨ps, rfl, hy⟩ := h2.ex
  clear h1 h2
  by_cases hp : (ps.length : Int) > 1048576
  · (repeat' (first
      | (refine gate_a fun _ => ?_)
      | (refine fork_intro (fun hb => ?_) (fun hb => ?_) <;> (try simp only [ew] at hb))
      | (simp only [go_sem, Nat.reduceLeDiff, Nat.reduceEqDiff, reduceIte, reduceCtorEq, Nat.reduceAdd, Nat.reduceMul, Nat.reduceSub, Nat.reduceLT, Int.reduceLT, Int.reduceLE, Int.reduceNeg, Int.reduceToNat, Nat.reduceBEq, Nat.reduceBNe, Int.reduceGE, Int.reduceGT, *, cLawNDI, cSzDepS, cToDepS, cToIntS, cLo, cEqDepS, cEqIntS, Try.results4])))
    all_goals first | contradiction | skip
  · have hp2 : ps.length ≤ 1048576 := by omega
    by_cases hs : szN ds.length 1048576 < 0
    · (repeat' (first
      | (refine gate_a fun _ => ?_)
      | (refine fork_intro (fun hb => ?_) (fun hb => ?_) <;> (try simp only [ew] at hb))
      | (simp only [go_sem, Nat.reduceLeDiff, Nat.reduceEqDiff, reduceIte, reduceCtorEq, Nat.reduceAdd, Nat.reduceMul, Nat.reduceSub, Nat.reduceLT, Int.reduceLT, Int.reduceLE, Int.reduceNeg, Int.reduceToNat, Nat.reduceBEq, Nat.reduceBNe, Int.reduceGE, Int.reduceGT, *, cLawNDI, cSzDepS, cToDepS, cToIntS, cLo, cEqDepS, cEqIntS, Try.results4])))
      all_goals first | contradiction | skip
    · obtain ⟨f1, f2⟩ := szN_facts (Int.le_refl _) hs
      generalize hz : loB n ds ps = b
      (repeat' (first
      | (refine gate_intro (by first | omega | ((repeat' (first | apply And.intro | assumption | omega | intro _)); done) | ((repeat' (first | apply And.intro | assumption | omega | intro _)); done) | (simp only [maxLen]; omega) | simp_all | (simp_all [maxLen]; omega)) fun _ => ?_)
      | (refine fork_intro (fun hb => ?_) (fun hb => ?_) <;> (try simp only [ew, hz] at hb))
      | (simp only [go_sem, Nat.reduceLeDiff, Nat.reduceEqDiff, reduceIte, reduceCtorEq, Nat.reduceAdd, Nat.reduceMul, Nat.reduceSub, Nat.reduceLT, Int.reduceLT, Int.reduceLE, Int.reduceNeg, Int.reduceToNat, Nat.reduceBEq, Nat.reduceBNe, Int.reduceGE, Int.reduceGT, *, cLawNDI, cSzDepS, cToDepS, cToIntS, cLo, cEqDepS, cEqIntS, Try.results4, hz])))
      all_goals (exfalso; omega)

theorem ltR_facts {n : Int} {ds : List (Int × Int)} {ps : List Int} : (ltR n ds ps).length ≤ 10 ∧ (∀ r ∈ ltR n ds ps, r.length ≤ 5) ∧ tot (ltR n ds ps) ≤ 50 := by
  unfold ltR
  split
  · exact chF_facts
  · simp [tot]

theorem lawLt_ok : ContractOK E0 5 cLawNDI := by
  refine contract_of_wpc (E := E0) (T := mkT Try.prog [(9, cSzDepS), (12, cToDepS), (21, cToIntS), (24, cLt), (25, cLt), (26, cEqTable), (16, cEqDepS), (23, cEqIntS), (17, cMarkX), (27, cMarkI), (28, cMarkT), (29, cHeldT)] false (fun _ => false) true (fun _ => false)) (mkT_ok (E := E0) (.cons szDepS_ok (.cons toDepS_ok (.cons toIntS_ok (.cons ltS_ok (.cons ltI_ok (.cons eqTable_ok (.cons eqDepS_ok (.cons eqIntS_ok (.cons markDS_ok (.cons markI_ok (.cons markT_ok (.cons heldT_ok .nil))))))))))))) (fn := Try.f5) Try.func5 (by kernel_rfl) rfl mixedT (by kernel_rfl) rfl ?_
  intro args p rs ms hr
  unfold cLawNDI at hr
  dsimp only at hr
  split at hr
  rotate_left
  · cases hr
  rename_i n l p
  simp only [Option.some.injEq, Prod.mk.injEq] at hr
  obtain ⟨rfl, rfl, rfl⟩ := hr
  refine ⟨rfl, rfl, Nat.le_of_ble_eq_true rfl, ?_⟩
  have hm : maxLen = 9223372036854775807 := rfl
  rintro ⟨h1, h2, hn1, hn2⟩ bs
  obtain ⟨ds, rfl, hx⟩ := h1.ex
  obtain ⟨ps, rfl, hy⟩ := h2.ex
  clear h1 h2
  by_cases hp : (ps.length : Int) > 1048576
  · (repeat' (first
      | (refine gate_a fun _ => ?_)
      | (refine fork_intro (fun hb => ?_) (fun hb => ?_) <;> (try simp only [ew] at hb))
      | (simp only [go_sem, Nat.reduceLeDiff, Nat.reduceEqDiff, reduceIte, reduceCtorEq, Nat.reduceAdd, Nat.reduceMul, Nat.reduceSub, Nat.reduceLT, Int.reduceLT, Int.reduceLE, Int.reduceNeg, Int.reduceToNat, Nat.reduceBEq, Nat.reduceBNe, Int.reduceGE, Int.reduceGT, *, cLawNDI, cSzDepS, cToDepS, cToIntS, cLt, cEqTable, cEqDepS, cEqIntS, cMarkX, cMarkI, cMarkT, cHeldT, Try.results5])))
    all_goals first | contradiction | skip
  · have hp2 : ps.length ≤ 1048576 := by omega
    by_cases hs : szN ds.length 1048576 < 0
    · (repeat' (first
      | (refine gate_a fun _ => ?_)
      | (refine fork_intro (fun hb => ?_) (fun hb => ?_) <;> (try simp only [ew] at hb))
      | (simp only [go_sem, Nat.reduceLeDiff, Nat.reduceEqDiff, reduceIte, reduceCtorEq, Nat.reduceAdd, Nat.reduceMul, Nat.reduceSub, Nat.reduceLT, Int.reduceLT, Int.reduceLE, Int.reduceNeg, Int.reduceToNat, Nat.reduceBEq, Nat.reduceBNe, Int.reduceGE, Int.reduceGT, *, cLawNDI, cSzDepS, cToDepS, cToIntS, cLt, cEqTable, cEqDepS, cEqIntS, cMarkX, cMarkI, cMarkT, cHeldT, Try.results5])))
      all_goals first | contradiction | skip
    · obtain ⟨f1, f2⟩ := szN_facts (Int.le_refl _) hs
      obtain ⟨r1, r2, r3⟩ := @ltR_facts n ds ps
      obtain ⟨k3, k4⟩ := small_rows r2
      have t0 := @tot_nonneg (ltR n ds ps)
      have hc : -9223372036854775808 ≤ ltC n ds ps ∧ ltC n ds ps ≤ 9223372036854775807 := by
        unfold ltC; split <;> omega
      generalize hz : ltR n ds ps = zs at r1 r2 r3 k3 k4 t0
      generalize hzb : ltB n ds ps = b
      generalize hzc : ltC n ds ps = c at hc
      have b5 : ∀ r ∈ markRows zs 1, r.length ≤ 16777216 := markRows_leB k4
      have b6 : ∀ r ∈ markRows zs 1, r.length ≤ maxLen := markRows_leB k3
      have b7 := @tot_markRowsB zs 1
      have b8 := @markRows_length zs 1
      have b9 := heldL_marks (rs := zs) (k := 1) (by omega)
      clear r2
      (repeat' (first
      | (refine gate_intro (by first | omega | ((repeat' (first | apply And.intro | assumption | omega | intro _)); done) | ((repeat' (first | apply And.intro | assumption | omega | intro _)); done) | (simp only [maxLen]; omega) | simp_all | (simp_all [maxLen]; omega)) fun _ => ?_)
      | (refine fork_intro (fun hb => ?_) (fun hb => ?_) <;> (try simp only [ew, hz, hzb, hzc] at hb))
      | (simp only [go_sem, Nat.reduceLeDiff, Nat.reduceEqDiff, reduceIte, reduceCtorEq, Nat.reduceAdd, Nat.reduceMul, Nat.reduceSub, Nat.reduceLT, Int.reduceLT, Int.reduceLE, Int.reduceNeg, Int.reduceToNat, Nat.reduceBEq, Nat.reduceBNe, Int.reduceGE, Int.reduceGT, *, cLawNDI, cSzDepS, cToDepS, cToIntS, cLt, cEqTable, cEqDepS, cEqIntS, cMarkX, cMarkI, cMarkT, cHeldT, Try.results5, hz, hzb, hzc])))
      all_goals (exfalso; omega)
end Go.Own
