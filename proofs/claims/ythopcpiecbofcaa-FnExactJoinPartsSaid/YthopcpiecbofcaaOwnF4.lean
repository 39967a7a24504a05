import Derived.Test.YthopcpiecbofcaaOwnF5
namespace Go.Own
open Go Go.Proofs
set_option linter.unusedSimpArgs false
set_option linter.unusedVariables false
set_option maxRecDepth 20000
set_option maxHeartbeats 2000000

attribute [local go_sem] unD_dL dL_length dL_get dL_set dL_inj wfD_dL scal2 beq2 pair_eta

/-! The law. -/
theorem szN_facts {n : Nat} {k : Int} (hk : k ≤ 1048576) (h : ¬ szN n k < 0) : n ≤ 1048576 ∧ szN n k ≤ k := by
  unfold szN at *
  split at h
  · omega
  · rw [if_neg ‹_›]; omega
theorem szL_factsK {rs : List (List Int)} {k : Int} (hk : k ≤ 1048576) (h : ¬ szL rs k < 0) : rs.length ≤ 16777216 ∧ ∀ r ∈ rs, r.length ≤ 16777216 := by
  unfold szL at h
  split at h
  · omega
  · refine ⟨by omega, fun r hr => ?_⟩
    have := szGo_facts h r hr
    omega

theorem tot_48 {rs : List (List Int)} (h1 : rs.length ≤ 16777216) (h2 : ∀ r ∈ rs, r.length ≤ 16777216) : tot rs ≤ 281474976710656 := by
  have := tot_leB (B := 16777216) h2
  have h3 : (rs.length : Int) * ((16777216 : Nat) : Int) ≤ 281474976710656 := by omega
  omega

def cLawNDR : Contract := ⟨[], false, fun
  | [.one (.v (.int .i64 n)), .one (.sl 2 l), .one (.sl 1 t)] => some (WfD l ∧ WfS t ∧ -9223372036854775808 ≤ n ∧ n ≤ 9223372036854775807, [⟨false, [.d (.v (.bool true))]⟩], [])
  | _ => none⟩

end Go.Own
