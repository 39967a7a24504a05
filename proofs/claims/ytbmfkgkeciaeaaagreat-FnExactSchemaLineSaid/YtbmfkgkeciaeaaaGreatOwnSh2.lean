/-
  Lists of dependencies and monitors, opened as data. Conditions: none.
-/
import Derived.Test.YtbmfkgkeciaeaaaGreatOwnSh
import Derived.Test.YtbmfkgkeciaeaaaGreatOwnY3
namespace Go.Own
open Go Go.Proofs Go.WideShapes
set_option linter.unusedVariables false

theorem shapeD {l : List (List D)} (h : ∀ d ∈ l, ∃ a b : Int, d = [.v (.int .i64 a), .v (.int .i64 b)]) : l = dL (unD l) := by
  induction l with
  | nil => rfl
  | cons d l ih =>
    obtain ⟨a, b, rfl⟩ := h d (by simp)
    have := ih fun d hd => h d (by simp [hd])
    simp only [dL, unD, List.map_cons] at this ⊢
    rw [← this]

def ShDS (ds : List D) : Prop := ∃ l : List (List D), ds = [.sl 2 l] ∧ WfD l
theorem oDS (w : World) : Opens Tryz.prog w 25 ShDS := (opens_slice (n := 2) Tryz.underlying25 (by kernel_rfl) (by decide) (oD w)).mono fun ds h => by
  obtain ⟨l, rfl, h1, h2⟩ := h
  refine ⟨l, rfl, shapeD fun d hd => ?_, h1⟩
  obtain ⟨_, a, b, rfl, _⟩ := h2 d hd
  exact ⟨a, b, rfl⟩
def ShM (ds : List D) : Prop := ∃ (c : Int) (l : List (List D)) (m : Int) (q : List (List D)), ds = [.v (.int .i64 c), .sl 1 l, .v (.int .i64 m), .sl 2 q] ∧ WfS l ∧ WfD q
theorem oM (w : World) : Opens Tryz.prog w 27 ShM := (opens_three Tryz.underlying27 rfl (by kernel_rfl) (by kernel_rfl) (by kernel_rfl) (oT w) (oI w) (oDS w)).mono fun _ h => by
  obtain ⟨a, b, c, rfl, ⟨n, l, rfl, h1, _⟩, ⟨m, rfl, _⟩, q, rfl, h3⟩ := h
  exact ⟨n, l, m, q, rfl, h1, h3⟩
end Go.Own
