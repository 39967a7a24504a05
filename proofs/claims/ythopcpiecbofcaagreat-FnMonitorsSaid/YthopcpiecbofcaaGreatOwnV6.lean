import Derived.Test.YthopcpiecbofcaaGreatOwnV5
set_option linter.unusedSimpArgs false
set_option linter.unusedVariables false
set_option maxRecDepth 20000
set_option maxHeartbeats 2000000
namespace Go.Own
open Go Go.Proofs
theorem cols_facts {c : Int} {rs : List (List Int)} {a b : Int} (h : colsOK c rs a b = true) : ∃ a' b' c' : Nat, a = a' ∧ b = b' ∧ c = c' ∧ a' < c' ∧ b' < c' ∧ rs.length ≤ 40 ∧ ∀ i, i < rs.length → (rs.getD i []).length = c' := by
 simp only [colsOK, tabOK, inB, Bool.and_eq_true, decide_eq_true_eq, List.all_eq_true] at h
 obtain ⟨⟨⟨h1, ⟨h2, h3⟩, h4⟩, h5, h6⟩, h7, h8⟩ := h
 obtain ⟨a', rfl⟩ := Int.eq_ofNat_of_zero_le h5
 obtain ⟨b', rfl⟩ := Int.eq_ofNat_of_zero_le h7
 obtain ⟨c', rfl⟩ := Int.eq_ofNat_of_zero_le (show 0 ≤ c by omega)
 refine ⟨a', b', c', rfl, rfl, rfl, by omega, by omega, by omega, fun i hi => ?_⟩
 have := h1 (rs.getD i []) (by simp [List.getD_eq_getElem?_getD, hi])
 simp only [rowOK, Bool.and_eq_true, decide_eq_true_eq] at this
 omega
end Go.Own
