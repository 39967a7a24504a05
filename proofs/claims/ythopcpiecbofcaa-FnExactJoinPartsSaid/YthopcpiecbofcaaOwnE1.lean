import Derived.Test.YthopcpiecbofcaaOwnY3
import Derived.Test.YthopcpiecbofcaaOwnC8
namespace Go.Own
open Go Go.Proofs
set_option linter.unusedSimpArgs false
set_option linter.unusedVariables false
set_option maxRecDepth 20000
set_option maxHeartbeats 2000000

attribute [local go_sem] unD_dL dL_length dL_get dL_set dL_inj wfD_dL scal2 beq2 pair_eta

/-! Marks on pairs. -/
def markD (k : Int) (n : Nat) : List (Int × Int) := (List.range n).map fun i => (k + 2 * (i : Nat), k + 2 * (i : Nat) + 1)
theorem markD_length {k : Int} {n : Nat} : (markD k n).length = n := by simp [markD]
theorem markD_succ {k : Int} {n : Nat} : markD k (n + 1) = markD k n ++ [(k + 2 * n, k + 2 * n + 1)] := by simp [markD, List.range_succ]
theorem markD_getD {k : Int} {n i : Nat} (h : i < n) : (markD k n).getD i (0, 0) = (k + 2 * i, k + 2 * i + 1) := by
  simp [markD, List.getD_eq_getElem?_getD, h]
def heldD (xs : List (Int × Int)) (k : Int) : Int := if xs = markD k xs.length then k + 2 * xs.length else -1
theorem heldD_marks {k : Int} {n : Nat} : heldD (markD k n) k = k + 2 * n := by simp [heldD, markD_length]
theorem dL_set0 {xs : List (Int × Int)} {i : Nat} {a b c : Int} : (dL xs).set i [D.v (.int .i64 a), D.v (.int .i64 b)] = dL (xs.set i (a, b)) := dL_set

def cMarkX : Contract := ⟨[true], false, fun
  | [.arr 2 l _, .one (.v (.int .i64 k))] => some (WfD l ∧ l.length ≤ 16777216 ∧ 0 ≤ k ∧ k ≤ 1125899906842624, [⟨false, [.d (.v (.int .i64 (k + 2 * l.length)))]⟩], [.arr 2 (dL (markD k l.length)) 1])
  | _ => none⟩

def cHeldX : Contract := ⟨[], false, fun
  | [.one (.sl 2 l), .one (.v (.int .i64 k))] => some (WfD l ∧ l.length ≤ 16777216 ∧ 0 ≤ k ∧ k ≤ 1125899906842624, [⟨false, [.d (.v (.int .i64 (heldD (unD l) k)))]⟩], [])
  | _ => none⟩

/-! Pairs for which a test holds. -/
def prB (p : Int → Int → Bool) (a : Nat) : Nat → List (Int × Int)
  | 0 => []
  | b + 1 => prB p a b ++ (if (a : Int) ≠ b ∧ p a b = true then [((a : Int), (b : Int))] else [])
def prA (p : Int → Int → Bool) (n : Nat) : Nat → List (Int × Int)
  | 0 => []
  | a + 1 => prA p n a ++ prB p a n
def prs (p : Int → Int → Bool) (c : Int) (rs : List (List Int)) : List (Int × Int) := if tabOK c rs then prA p c.toNat c.toNat else []
theorem prB_length {p : Int → Int → Bool} {a : Nat} : ∀ {b : Nat}, (prB p a b).length ≤ b
  | 0 => Nat.le_refl _
  | b + 1 => by
    have := @prB_length p a b
    simp only [prB, List.length_append]
    split <;> simp <;> omega
theorem prA_length {p : Int → Int → Bool} {n : Nat} : ∀ {a : Nat}, (prA p n a).length ≤ a * n
  | 0 => Nat.zero_le _
  | a + 1 => by
    have h1 := @prA_length p n a
    have h2 := @prB_length p a n
    simp only [prA, List.length_append, Nat.succ_mul]
    omega
theorem prs_length {p : Int → Int → Bool} {c : Int} {rs : List (List Int)} : (prs p c rs).length ≤ 25 := by
  unfold prs
  split
  · have h := tab_c ‹_›
    have h1 := @prA_length p c.toNat c.toNat
    have h2 : c.toNat * c.toNat ≤ 5 * 5 := Nat.mul_le_mul (by omega) (by omega)
    omega
  · simp
theorem dL_snoc {xs : List (Int × Int)} {a b : Int} : dL xs ++ [[D.v (.int .i64 a), D.v (.int .i64 b)]] = dL (xs ++ [(a, b)]) := by simp [dL]
theorem mark_setD {xs : List (Int × Int)} {k : Int} {i : Nat} (h : i < xs.length) : (markD k i ++ xs.drop i).set i (k + 2 * i, k + 2 * i + 1) = markD k (i + 1) ++ xs.drop (i + 1) := by
  rw [List.set_append_right _ _ (by rw [markD_length]; omega), markD_length, Nat.sub_self, drop_getD h (0, 0), List.set_cons_zero, markD_succ]; simp
theorem mD_length {xs : List (Int × Int)} {k : Int} {i : Nat} (h : i ≤ xs.length) : (markD k i ++ xs.drop i).length = xs.length := by
  rw [List.length_append, markD_length, List.length_drop]; omega
theorem getD_setD {xs : List (Int × Int)} {i : Nat} {q : Int × Int} (h : i < xs.length) : (xs.set i q).getD i (0, 0) = q := by
  simp [List.getD_eq_getElem?_getD, h]

end Go.Own
