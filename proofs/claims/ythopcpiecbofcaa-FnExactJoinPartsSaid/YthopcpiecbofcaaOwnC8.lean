import Derived.Test.YthopcpiecbofcaaOwnC5
import Derived.Test.YthopcpiecbofcaaOwnY3
import Derived.Test.YthopcpiecbofcaaOwnC4
import Derived.Test.YthopcpiecbofcaaOwnV8
namespace Go.Own
open Go Go.Proofs
set_option linter.unusedSimpArgs false
set_option linter.unusedVariables false
set_option maxRecDepth 20000
set_option maxHeartbeats 2000000

theorem tot_leB : ∀ {rs : List (List Int)} {B : Nat}, (∀ r ∈ rs, r.length ≤ B) → tot rs ≤ rs.length * B
  | [], _, _ => by simp [tot]
  | r :: rs, B, h => by
    have h1 := h r (by simp)
    have h2 := tot_leB (rs := rs) fun r hr => h r (by simp [hr])
    simp only [tot, List.length_cons]
    have h3 : (((rs.length + 1 : Nat) : Int)) * B = (rs.length : Int) * B + B := by rw [Int.natCast_add, Int.add_mul]; simp
    rw [h3]; omega
theorem tot_big {rs : List (List Int)} (h1 : rs.length ≤ 16777216) (h2 : ∀ r ∈ rs, r.length ≤ 16777216) : 1 + tot rs ≤ 1125899906842624 := by
  have := tot_leB h2
  have h3 : (rs.length : Int) * ((16777216 : Nat) : Int) ≤ 16777216 * 16777216 := by
    have : (rs.length : Int) ≤ 16777216 := by omega
    omega
  omega
theorem markRows_leB {rs : List (List Int)} {k : Int} {B : Nat} (h : ∀ r ∈ rs, r.length ≤ B) : ∀ r ∈ markRows rs k, r.length ≤ B := by
  intro r hr
  have : r.length ∈ (markRows rs k).map List.length := List.mem_map.2 ⟨r, hr, rfl⟩
  rw [markRows_lens] at this
  obtain ⟨r', hr', e⟩ := List.mem_map.1 this
  rw [← e]; exact h r' hr'
theorem tot_markRowsB : ∀ {rs : List (List Int)} {k : Int}, tot (markRows rs k) = tot rs
  | [], _ => rfl
  | r :: rs, k => by simp [markRows, tot, marks_length, tot_markRowsB]
theorem selR_sub {c : Int} {rs : List (List Int)} {a v : Int} : (selR c rs a v).length ≤ rs.length ∧ ∀ r ∈ selR c rs a v, r ∈ rs := by
  unfold selR
  split
  · exact ⟨selL_len, fun r hr => (List.mem_filter.1 hr).1⟩
  · simp

/-! toDep, toPattern, SupportOf -/
def cToP : Contract := ⟨[], false, fun
  | [.agg [.v (.int .i64 a), .v (.int .i64 b), .v (.int .i64 p), .v (.int .i64 q)]] => some (True, [⟨true, [.d (.v (.int .i64 a)), .d (.v (.int .i64 b)), .d (.v (.int .i64 p)), .d (.v (.int .i64 q))]⟩], [])
  | _ => none⟩

def cSup : Contract := ⟨[], false, fun
  | [.agg [.v (.int .i64 c), .sl 1 l], .agg [.v (.int .i64 a), .v (.int .i64 v), .v (.int .i64 p), .v (.int .i64 q)]] => some (WfS l ∧ -9223372036854775808 ≤ c ∧ c ≤ 9223372036854775807,
      [⟨false, [.d (.v (.int .i64 (selR c (unS l) a v).length))]⟩], [])
  | _ => none⟩

def cLawTP : Contract := ⟨[], false, fun
  | [.agg [.v (.int .i64 c), .sl 1 l], .agg [.v (.int .i64 a), .v (.int .i64 v), .v (.int .i64 p), .v (.int .i64 q)]] => some (WfS l ∧ -9223372036854775808 ≤ c ∧ c ≤ 9223372036854775807, [⟨false, [.d (.v (.bool true))]⟩], [])
  | _ => none⟩

end Go.Own
