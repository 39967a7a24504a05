/-
  The law of JoinParts. Conditions: as each theorem states them.
-/
import Derived.Test.YthopcpiecbofcaaOwnQ7b
import Derived.Test.YthopcpiecbofcaaOwnQ8a
import Derived.Test.YthopcpiecbofcaaOwnF4
namespace Go.Own
open Go Go.Proofs
set_option linter.unusedSimpArgs false
set_option linter.unusedVariables false
set_option maxRecDepth 20000
set_option maxHeartbeats 8000000

def cLawTIS : Contract := ⟨[], false, fun
  | [.agg [.v (.int .i64 c), .sl 1 l], .one (.sl 1 p)] => some (WfS l ∧ WfI p ∧ -9223372036854775808 ≤ c ∧ c ≤ 9223372036854775807, [⟨false, [.d (.v (.bool true))]⟩], [])
  | _ => none⟩
theorem lawJn_ok : ContractOK E0 3 cLawTIS := by
  refine contract_of_wpc (E := E0) (T := mkT Try.prog [(4, cSzTable), (6, cToTable), (7, cToIntS), (5, cJn), (8, cJnI), (9, cEqTable), (10, cEqIntS), (11, cMarkT), (12, cMarkI), (13, cHeldT)] false (fun _ => false) true (fun _ => false)) (mkT_ok (E := E0) (.cons szTable_ok (.cons toTable_ok (.cons toIntS_ok (.cons jnS_ok (.cons jnPI_ok (.cons eqTable_ok (.cons eqIntS_ok (.cons markT_ok (.cons markI_ok (.cons heldT_ok .nil))))))))))) (fn := Try.f3) Try.func3 (by kernel_rfl) rfl mixedT (by kernel_rfl) rfl ?_
  intro args p rs ms hr
  unfold cLawTIS at hr
  dsimp only at hr
  split at hr
  rotate_left
  · cases hr
  rename_i c l p
  simp only [Option.some.injEq, Prod.mk.injEq] at hr
  obtain ⟨rfl, rfl, rfl⟩ := hr
  refine ⟨rfl, rfl, Nat.le_of_ble_eq_true rfl, ?_⟩
  have hm : maxLen = 9223372036854775807 := rfl
  rintro ⟨h1, h2, hc1, hc2⟩ bs
  obtain ⟨rs, rfl, hx, hy⟩ := h1.ex
  obtain ⟨ps, rfl, hp⟩ := h2.ex
  clear h1 h2
  by_cases hpl : (ps.length : Int) > 1048576
  · (repeat' (first
      | (refine gate_a fun _ => ?_)
      | (refine fork_intro (fun hb => ?_) (fun hb => ?_) <;> (try simp only [ew] at hb))
      | (simp only [go_sem, Nat.reduceLeDiff, Nat.reduceEqDiff, reduceIte, reduceCtorEq, Nat.reduceAdd, Nat.reduceMul, Nat.reduceSub, Nat.reduceLT, Int.reduceLT, Int.reduceLE, Int.reduceNeg, Int.reduceToNat, Nat.reduceBEq, Nat.reduceBNe, Int.reduceGE, Int.reduceGT, *, cLawTIS, cSzTable, cToTable, cToIntS, cJn, cJnI, cEqTable, cEqIntS, cMarkT, cMarkI, cHeldT, Try.results3])))
    all_goals first | contradiction | skip
  · have hp2 : ps.length ≤ 1048576 := by omega
    by_cases hs : szL rs 1048576 < 0
    · (repeat' (first
      | (refine gate_a fun _ => ?_)
      | (refine fork_intro (fun hb => ?_) (fun hb => ?_) <;> (try simp only [ew] at hb))
      | (simp only [go_sem, Nat.reduceLeDiff, Nat.reduceEqDiff, reduceIte, reduceCtorEq, Nat.reduceAdd, Nat.reduceMul, Nat.reduceSub, Nat.reduceLT, Int.reduceLT, Int.reduceLE, Int.reduceNeg, Int.reduceToNat, Nat.reduceBEq, Nat.reduceBNe, Int.reduceGE, Int.reduceGT, *, cLawTIS, cSzTable, cToTable, cToIntS, cJn, cJnI, cEqTable, cEqIntS, cMarkT, cMarkI, cHeldT, Try.results3])))
      all_goals first | contradiction | skip
    · obtain ⟨hl1, hl2⟩ := szL_facts hs
      obtain ⟨r1, r2⟩ := @jnT_facts c rs ps
      obtain ⟨k3, k4⟩ : (∀ r ∈ jnT c rs ps, r.length ≤ maxLen) ∧ ∀ r ∈ jnT c rs ps, r.length ≤ 16777216 := ⟨fun r hr => Nat.le_trans (r2 r hr) (by decide), fun r hr => Nat.le_trans (r2 r hr) (by decide)⟩
      have b4 := tot_big hl1 hl2
      have b3 := tot_leB r2
      have b3' : tot (jnT c rs ps) ≤ 805255 := by
        have : ((jnT c rs ps).length : Int) * ((5 : Nat) : Int) ≤ 161051 * 5 := by omega
        omega
      have t0 := @tot_nonneg (jnT c rs ps)
      have t1 := @tot_nonneg rs
      have hc3 : -9223372036854775808 ≤ jnC c rs ps ∧ jnC c rs ps ≤ 9223372036854775807 := by unfold jnC; split <;> omega
      generalize hz : jnT c rs ps = zs at r1 r2 k3 k4 t0 b3 b3'
      generalize hzc : jnC c rs ps = d at hc3
      have b5 : ∀ r ∈ markRows zs 1, r.length ≤ 16777216 := markRows_leB k4
      have b6 : ∀ r ∈ markRows zs 1, r.length ≤ maxLen := markRows_leB k3
      have b7 := @tot_markRowsB zs 1
      have b8 := @markRows_length zs 1
      have b9 := heldL_marks (rs := zs) (k := 1) (by omega)
      clear r2 b3
      have r1' : zs.length ≤ 16777216 := by omega
      have r1'' : zs.length ≤ maxLen := Nat.le_trans r1 (by decide)
      (repeat' (first
      | (refine gate_intro (by first | omega | ((repeat' (first | apply And.intro | assumption | omega | intro _)); done) | ((repeat' (first | apply And.intro | assumption | omega | intro _)); done) | (simp only [maxLen]; omega) | simp_all | (simp_all [maxLen]; omega)) fun _ => ?_)
      | (refine fork_intro (fun hb => ?_) (fun hb => ?_) <;> (try simp only [ew, hz, hzc] at hb))
      | (simp only [go_sem, Nat.reduceLeDiff, Nat.reduceEqDiff, reduceIte, reduceCtorEq, Nat.reduceAdd, Nat.reduceMul, Nat.reduceSub, Nat.reduceLT, Int.reduceLT, Int.reduceLE, Int.reduceNeg, Int.reduceToNat, Nat.reduceBEq, Nat.reduceBNe, Int.reduceGE, Int.reduceGT, *, cLawTIS, cSzTable, cToTable, cToIntS, cJn, cJnI, cEqTable, cEqIntS, cMarkT, cMarkI, cHeldT, Try.results3, hz, hzc])))
      all_goals (exfalso; omega)
end Go.Own
