import Derived.Test.YthopcpiecbofcaaOwnV5
namespace Go.Own
open Go Go.Proofs
set_option linter.unusedSimpArgs false
set_option linter.unusedVariables false
set_option maxRecDepth 20000
set_option maxHeartbeats 2000000





def cellAt (rs : List (List Int)) (i a : Nat) : Int := (rs.getD i []).getD a 0
def owC (rs : List (List Int)) (a b i k : Nat) : Bool := decide (cellAt rs i a ≤ cellAt rs k a) && decide (cellAt rs i b > cellAt rs k b)
def owK (rs : List (List Int)) (a b i : Nat) : Nat → Nat → Option Nat
  | _, 0 => none
  | k, n + 1 => if owC rs a b i k then some k else owK rs a b i (k + 1) n
def owI (rs : List (List Int)) (a b : Nat) : Nat → Nat → Option (Nat × Nat)
  | _, 0 => none
  | i, n + 1 => match owK rs a b i 0 rs.length with
    | some k => some (i, k)
    | none => owI rs a b (i + 1) n
def owR : Option (Nat × Nat) → Int × Int × Bool
  | some (i, k) => ((i : Int), (k : Int), true)
  | none => (-1, -1, false)
def ow (c : Int) (rs : List (List Int)) (a b : Int) : Int × Int × Bool := if colsOK c rs a b then owR (owI rs a.toNat b.toNat 0 rs.length) else (-1, -1, false)

def cOW : Contract := ⟨[], false, fun
  | [.agg [.v (.int .i64 c), .sl 1 l], .one (.v (.int .i64 a)), .one (.v (.int .i64 b))] => some (WfS l ∧ -9223372036854775808 ≤ c ∧ c ≤ 9223372036854775807,
      [⟨false, [.d (.v (.int .i64 (ow c (unS l) a b).1))]⟩, ⟨false, [.d (.v (.int .i64 (ow c (unS l) a b).2.1))]⟩, ⟨false, [.d (.v (.bool (ow c (unS l) a b).2.2))]⟩], [])
  | _ => none⟩

theorem cols_facts {c : Int} {rs : List (List Int)} {a b : Int} (h : colsOK c rs a b = true) : ∃ a' b' c' : Nat, a = a' ∧ b = b' ∧ c = c' ∧ a' < c' ∧ b' < c' ∧ rs.length ≤ 40 ∧ ∀ i, i < rs.length → (rs.getD i []).length = c' := by
  simp only [colsOK, tabOK, inB, Bool.and_eq_true, decide_eq_true_eq, List.all_eq_true] at h
  obtain ⟨⟨⟨h1, ⟨h2, h3⟩, h4⟩, h5, h6⟩, h7, h8⟩ := h
  obtain ⟨a', rfl⟩ := Int.eq_ofNat_of_zero_le h5
  obtain ⟨b', rfl⟩ := Int.eq_ofNat_of_zero_le h7
  obtain ⟨c', rfl⟩ := Int.eq_ofNat_of_zero_le (show 0 ≤ c by omega)
  refine ⟨a', b', c', rfl, rfl, rfl, by omega, by omega, by omega, fun i hi => ?_⟩
  have := h1 (rs.getD i []) (by simp [List.getD_eq_getElem?_getD, hi])
  simp only [rowOK, Bool.and_eq_true, decide_eq_true_eq] at this
  omega

end Go.Own
