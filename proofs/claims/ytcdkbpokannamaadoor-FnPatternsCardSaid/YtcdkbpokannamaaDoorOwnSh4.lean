/-
  Rows of bytes, opened as data. Conditions: none.
-/
import Derived.Test.YtcdkbpokannamaaDoorOwnY6
import Derived.Test.YtcdkbpokannamaaDoorOwnK1
namespace Go.Own
open Go Go.Proofs Go.WideShapes
set_option linter.unusedVariables false

theorem shapeB {l : List (List D)} (h : ∀ d ∈ l, ∃ n : Int, d = [.v (.int .u8 n)]) : l = bL (unB l) := by
  induction l with
  | nil => rfl
  | cons d l ih =>
    obtain ⟨n, rfl⟩ := h d (by simp)
    have := ih fun d hd => h d (by simp [hd])
    simp only [bL, unB, List.map_cons] at this ⊢
    rw [← this]
def ShU (ds : List D) : Prop := ∃ n : Int, ds = [.v (.int .u8 n)] ∧ 0 ≤ n ∧ n ≤ 255
def ShB (ds : List D) : Prop := ∃ l : List (List D), ds = [.sl 1 l] ∧ WfB l ∧ ∀ b ∈ unB l, 0 ≤ b ∧ b ≤ 255
theorem oU (w : World) : Opens Tryd.prog w 5 ShU := (opens_int Tryd.underlying5).mono fun ds h => h
theorem oB (w : World) : Opens Tryd.prog w 42 ShB := (opens_slice (n := 1) Tryd.underlying42 (by kernel_rfl) (by decide) (oU w)).mono fun _ h => by
  obtain ⟨l, rfl, h1, h2⟩ := h
  have e : l = bL (unB l) := shapeB fun d hd => by
    obtain ⟨_, n, rfl, _⟩ := h2 d hd
    exact ⟨n, rfl⟩
  refine ⟨l, rfl, ⟨e, h1⟩, fun b hb => ?_⟩
  have : [D.v (.int .u8 b)] ∈ l := by rw [e]; exact List.mem_map.2 ⟨b, hb, rfl⟩
  obtain ⟨_, n, hn, h3⟩ := h2 _ this
  simp only [List.cons.injEq, D.v.injEq, Value.int.injEq, true_and, and_true] at hn
  subst hn
  exact h3
end Go.Own
