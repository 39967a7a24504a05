import Derived.Test.YthopcpiecbofcaaOwnV7
namespace Go.Own
open Go Go.Proofs
set_option linter.unusedSimpArgs false
set_option linter.unusedVariables false
set_option maxRecDepth 20000
set_option maxHeartbeats 2000000






theorem szGo_facts : ∀ {rs : List (List Int)} {k : Int}, ¬ szGo rs k < 0 → ∀ r ∈ rs, (r.length : Int) ≤ k
  | [], k, _, r, hr => by cases hr
  | x :: rs, k, h, r, hr => by
    simp only [szGo] at h
    by_cases hx : szI x k < 0
    · rw [if_pos hx] at h; omega
    · rw [if_neg hx] at h
      have := szI_le hx
      rcases List.mem_cons.1 hr with rfl | hr
      · unfold szI at hx; split at hx <;> omega
      · have := szGo_facts h r hr; omega

theorem szL_facts {rs : List (List Int)} (h : ¬ szL rs 1048576 < 0) : rs.length ≤ 16777216 ∧ ∀ r ∈ rs, r.length ≤ 16777216 := by
  unfold szL at h
  split at h
  · omega
  · refine ⟨by omega, fun r hr => ?_⟩
    have := szGo_facts h r hr
    omega

def cLawOW : Contract := ⟨[], false, fun
  | [.agg [.v (.int .i64 c), .sl 1 l], .one (.v (.int .i64 a)), .one (.v (.int .i64 b))] => some (WfS l ∧ -9223372036854775808 ≤ c ∧ c ≤ 9223372036854775807, [⟨false, [.d (.v (.bool true))]⟩], [])
  | _ => none⟩

end Go.Own
