import Derived.Test.YtmfieiphcjenlaaOwnTy
namespace Go.Own
open Go Go.Proofs
set_option linter.unusedSimpArgs false
set_option linter.unusedVariables false
set_option maxRecDepth 20000


noncomputable def E0 : Env := ⟨Try.prog, 0, fun _ => True, fun _ _ _ _ => trivial⟩

theorem take_succ_getD {α : Type} {xs : List α} {i : Nat} (h : i < xs.length) (d : α) : xs.take (i + 1) = xs.take i ++ [xs.getD i d] := by
  rw [List.take_add_one]; simp [List.getD_eq_getElem?_getD, h]
theorem drop_getD {α : Type} {xs : List α} {i : Nat} (h : i < xs.length) (d : α) : xs.drop i = xs.getD i d :: xs.drop (i + 1) := by
  rw [List.drop_eq_getElem_cons h]; simp [List.getD_eq_getElem?_getD, h]
theorem eq_of_takes {α : Type} {xs ys : List α} {i : Nat} (h : xs.length = ys.length) (hi : ¬ i < xs.length) (ht : xs.take i = ys.take i) : xs = ys := by
  rwa [List.take_of_length_le (by omega), List.take_of_length_le (by omega)] at ht
theorem ne_of_getD {α : Type} {xs ys : List α} {i : Nat} {d : α} (h : xs.getD i d ≠ ys.getD i d) : xs ≠ ys := fun e => h (by rw [e])

theorem not_len {xs ys : List Int} (h : ¬ (xs.length : Int) = ys.length) : (xs == ys) = false := beq_eq_false_iff_ne.2 fun e => h (by rw [e])

theorem all_getD {rs : List (List Int)} {B : Nat} (h : ∀ r ∈ rs, r.length ≤ B) (i : Nat) : (rs.getD i []).length ≤ B := by
  by_cases hi : i < rs.length
  · exact h _ (by simp [List.getD_eq_getElem?_getD, hi])
  · simp [List.getD_eq_getElem?_getD, Nat.le_of_not_lt hi]

theorem all_drop {α : Type} {xs : List α} {i : Nat} (h : i < xs.length) (d : α) (f : α → Bool) : (xs.drop i).all f = (f (xs.getD i d) && (xs.drop (i + 1)).all f) := by
  rw [drop_getD h d]; rfl

/-! The sizes. -/
def szI (r : List Int) (k : Int) : Int := if k - r.length < 0 then -1 else k - r.length
def szGo : List (List Int) → Int → Int
  | [], k => k
  | r :: rs, k => if szI r k < 0 then -1 else szGo rs (szI r k)
def szL (rs : List (List Int)) (k : Int) : Int := if k - rs.length < 0 then -1 else szGo rs (k - rs.length)
end Go.Own
