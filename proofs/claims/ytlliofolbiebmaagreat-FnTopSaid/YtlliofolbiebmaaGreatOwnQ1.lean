/-
  Plain laws: rows in order, each once; rows joined. Conditions: ax each theorem states them.
-/
import Derived.Test.YtlliofolbiebmaaGreatOwnTt
set_option linter.unusedSimpArgs false
set_option linter.unusedVariables false
namespace Go.Own
open Go
def UniL (l : List (List Int)) : Prop := ∀ r ∈ l, ∀ s ∈ l, ∀ k : Nat, r.getD k 0 = -2 ↔ s.getD k 0 = -2
structure JnOK (n : Nat) (l : List (List Int)) : Prop where
  nodup : l.Nodup
  uni : UniL l
  len : ∀ r ∈ l, r.length = n
theorem ext_getD {r s : List Int} (h : r.length = s.length) (hk : ∀ k : Nat, r.getD k 0 = s.getD k 0) : r = s := by
 apply List.ext_getElem h
 intro i h1 h2
 have := hk i
 simpa [List.getD_eq_getElem?_getD, List.getElem?_eq_getElem h1, List.getElem?_eq_getElem h2] using this
end Go.Own
