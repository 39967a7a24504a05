import Derived.Test.YtnjijpgnfjghfaaGreatOwnY5
namespace Go.Own
open Go Go.Proofs
set_option linter.unusedSimpArgs false
set_option linter.unusedVariables false
set_option maxRecDepth 20000
set_option maxHeartbeats 2000000

/-! Decimal digits. -/
def dgF : Nat → Int → List Int → List Int
  | 0, _, acc => acc
  | k + 1, m, acc => if m = 0 then acc else dgF k (m / 10) ((48 + m % 10) :: acc)
def mtL (k : Int) : List Int := if k ≤ 0 then [109, 48] else 109 :: dgF 20 k []
def mt (k : Int) : ByteArray := baOf (mtL k)
def fiL (k : Int) : List Int := if k = 0 then [48] else dgF 20 k []
def fi (k : Int) : ByteArray := baOf (fiL k)
theorem dgF_len : ∀ {k : Nat} {m : Int} {acc : List Int}, (dgF k m acc).length ≤ k + acc.length
  | 0, m, acc => by simp [dgF]
  | k + 1, m, acc => by
    rw [dgF]
    split
    · omega
    · have := @dgF_len k (m / 10) ((48 + m % 10) :: acc)
      simp only [List.length_cons] at this
      omega
theorem mt_size {k : Int} : (mt k).size ≤ 21 := by
  unfold mt mtL
  rw [baOf_size]
  split
  · decide
  · have := @dgF_len 20 k []
    simp only [List.length_cons, List.length_nil] at this ⊢
    omega
theorem fi_size {k : Int} : (fi k).size ≤ 20 := by
  unfold fi fiL
  rw [baOf_size]
  split
  · decide
  · have := @dgF_len 20 k []
    simp only [List.length_nil] at this ⊢
    omega
theorem dgF_zero {k : Nat} {acc : List Int} : dgF k 0 acc = acc := by cases k <;> simp [dgF]
theorem dgF_go {k : Nat} {m : Int} {acc : List Int} (h : m ≠ 0) : dgF (k + 1) m acc = dgF k (m / 10) ((48 + m % 10) :: acc) := by rw [dgF, if_neg h]
end Go.Own
