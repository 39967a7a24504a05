/-
  Monitors, opened as data, with the bounds of their number of columns. Conditions: none.
-/
import Derived.Test.YtnjijpgnfjghfaaGreatOwnY6
namespace Go.Own
open Go Go.Proofs Go.WideShapes
set_option linter.unusedVariables false

def ShN (ds : List D) : Prop := ∃ (c : Int) (l : List (List D)) (m : Int) (q : List (List D)), ds = [.v (.int .i64 c), .sl 1 l, .v (.int .i64 m), .sl 2 q] ∧ WfS l ∧ WfD q ∧ -9223372036854775808 ≤ c ∧ c ≤ 9223372036854775807
theorem oN (w : World) : Opens Tryz.prog w 27 ShN := (opens_three Tryz.underlying27 rfl (by kernel_rfl) (by kernel_rfl) (by kernel_rfl) (oT w) (oI w) (oDS w)).mono fun _ h => by
  obtain ⟨a, b, c, rfl, ⟨n, l, rfl, h1, h5, h6⟩, ⟨m, rfl, _⟩, q, rfl, h3⟩ := h
  exact ⟨n, l, m, q, rfl, h1, h3, h5, h6⟩
end Go.Own
