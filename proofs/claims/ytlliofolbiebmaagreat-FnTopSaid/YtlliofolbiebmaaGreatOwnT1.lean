/- Own contracts. Conditions: as each theorem states them. -/
import Derived.Test.YtlliofolbiebmaaGreatOwnTt
import Derived.Test.YtlliofolbiebmaaGreatOwnE1
import Derived.Test.YtlliofolbiebmaaGreatOwnC8
import Derived.Test.YtlliofolbiebmaaGreatOwnY1
set_option linter.unusedSimpArgs false
set_option linter.unusedVariables false
set_option maxRecDepth 20000
set_option maxHeartbeats 2000000
namespace Go.Own
open Go Go.Proofs
def mvO (xs ys : List Int) : Nat → Nat → Option Int
 | _, 0 => none
 | v, n + 1 => if xs.contains (v : Int) && !ys.contains (v : Int) then some v else mvO xs ys (v + 1) n
def mvR : Option Int → Int × Bool
 | some v => (v, true)
 | none => (0, false)
def mv (c : Int) (rs : List (List Int)) (a b : Int) : Int × Bool := if colsOK c rs a b then mvR (mvO (colL rs a.toNat) (colL rs b.toNat) 0 41) else (0, false)
end Go.Own
namespace Go.Own
open Go Go.Proofs
attribute [local go_sem] unD_dL dL_length dL_get dL_set dL_inj wfD_dL scal2 beq2 pair_eta
end Go.Own
namespace Go.Own
open Go Go.Proofs
attribute [local go_sem] unD_dL dL_length dL_get dL_set dL_inj wfD_dL scal2 beq2 pair_eta
end Go.Own
namespace Go.Own
open Go Go.Proofs
attribute [local go_sem] unD_dL dL_length dL_get dL_set dL_inj wfD_dL scal2 beq2 pair_eta
end Go.Own
/-
  Plain laws: orders and inclusions. Conditions: as each theorem states them.
-/
namespace Go.Own
open Go Go.Proofs
theorem dpK_iff {rs : List (List Int)} {c : Nat} {m l r : Int} {i : Nat} : ∀ {n k : Nat}, dpK rs c m l r i k n = none ↔ ∀ j, k ≤ j → j < k + n → dpC rs c m l r i j = false
 | 0, k => ⟨fun _ j h1 h2 => absurd h1 (by omega), fun _ => rfl⟩
 | n + 1, k => by
  rw [dpK]
  split
  ·rename_i h
   refine ⟨fun h => (nomatch h), fun q => ?_⟩
   rw [q k (Nat.le_refl _) (by omega)] at h; cases h
  ·rename_i h
   rw [@dpK_iff rs c m l r i n (k + 1)]
   constructor
   ·intro q j h1 h2
    by_cases e : j = k
    ·subst e; simpa using h
    ·exact q j (by omega) (by omega)
   ·intro q j h1 h2; exact q j (by omega) (by omega)
theorem dpI_iff {rs : List (List Int)} {c : Nat} {m l r : Int} : ∀ {n i : Nat}, i + n ≤ rs.length → (dpI rs c m l r i n = none ↔ ∀ k, i ≤ k → k < i + n → ∀ j, k < j → j < rs.length → dpC rs c m l r k j = false)
 | 0, i, _ => ⟨fun _ j h1 h2 => absurd h1 (by omega), fun _ => rfl⟩
 | n + 1, i, hn => by
  rw [dpI]
  cases hk : dpK rs c m l r i (i + 1) (rs.length - (i + 1)) with
  | some k =>
   dsimp only
   refine ⟨fun h => (nomatch h), fun q => ?_⟩
   have := dpK_iff.2 fun j (h1 : i + 1 ≤ j) (h2 : j < i + 1 + (rs.length - (i + 1))) => q i (Nat.le_refl _) (by omega) j (by omega) (by omega)
   rw [this] at hk; cases hk
  | none =>
   dsimp only
   rw [@dpI_iff rs c m l r n (i + 1) (by omega)]
   rw [dpK_iff] at hk
   constructor
   ·intro q k h1 h2 j hj hj2
    by_cases e : k = i
    ·subst e; exact hk j (by omega) (by omega)
    ·exact q k (by omega) (by omega) j hj hj2
   ·intro q k h1 h2; exact q k (by omega) (by omega)
theorem hdB_iff {c : Int} {rs : List (List Int)} {m l r : Int} : hdB c rs m l r = true ↔ askOK c rs m l r = true ∧ ∀ i j, i < j → j < rs.length → badS (agL m (rs.getD i []) (rs.getD j []) c.toNat) l r = false := by
 unfold hdB
 rw [Bool.and_eq_true]
 refine and_congr_right fun _ => ?_
 unfold wtO
 rw [Option.isNone_iff_eq_none, dpI_iff (by omega)]
 constructor
 ·intro h i j h1 h2; exact h i (by omega) (by omega) j h1 h2
 ·intro h k h1 h2 j h3 h4; exact h k j h3 h4
end Go.Own
/-
  Plain law: what an order dependency implies. Conditions: as each theorem states them.
-/
namespace Go.Own
open Go Go.Proofs
theorem hb_key : ∀ x : Fin 32, ∀ c : Fin 5, x.val < 2 ^ c.val → hasB ((x.val : Nat) : Int) ((c.val : Nat) : Int) = false ∧ bitI .or .i64 ((x.val : Nat) : Int) (1 * 2 ^ c.val) ≤ 2 ^ (c.val + 1) - 1 ∧ ∀ r : Fin 5, hasB (bitI .or .i64 ((x.val : Nat) : Int) (1 * 2 ^ c.val)) ((r.val : Nat) : Int) = (hasB ((x.val : Nat) : Int) ((r.val : Nat) : Int) || r.val == c.val) := by decide +kernel
theorem hb_zero : ∀ r : Fin 5, hasB 0 ((r.val : Nat) : Int) = false := by decide +kernel
theorem agL_all {m : Int} {a b : List Int} : ∀ {n : Nat}, n ≤ 5 → (0 ≤ agL m a b n ∧ agL m a b n ≤ 2 ^ n - 1) ∧ ∀ r : Nat, r < 5 → hasB (agL m a b n) (r : Nat) = (decide (r < n) && eqc m (a.getD r 0) (b.getD r 0))
 | 0, _ => ⟨by simp [agL], fun r hr => by
   rw [agL, decide_eq_false (by omega), Bool.false_and]
   exact hb_zero ⟨r, hr⟩⟩
 | c + 1, h => by
  obtain ⟨ih1, ih2⟩ := @agL_all m a b c (by omega)
  have e2 : ((2 ^ c : Nat) : Int) = (2 : Int) ^ c := by simp
  have e3 : (2 : Int) ^ (c + 1) = 2 ^ c * 2 := Int.pow_succ _ _
  have hp := p5 (c := c) (by omega)
  have hx := hb_key ⟨(agL m a b c).toNat, by omega⟩ ⟨c, by omega⟩ (by dsimp only; omega)
  have hor := or_key ⟨(agL m a b c).toNat, by omega⟩ ⟨c, by omega⟩
  dsimp only at hx hor
  rw [show (((agL m a b c).toNat : Nat) : Int) = agL m a b c by omega] at hx hor
  obtain ⟨x1, x2, x3⟩ := hx
  rw [agL]
  cases he : eqc m (a.getD c 0) (b.getD c 0)
  ·rw [if_neg (by decide)]
   refine ⟨by omega, fun r hr => ?_⟩
   by_cases e : r = c
   ·subst e
    rw [x1, he, Bool.and_false]
   ·rw [ih2 r hr]
    congr 1
    rw [Bool.eq_iff_iff, decide_eq_true_eq, decide_eq_true_eq]; omega
  ·rw [if_pos rfl]
   refine ⟨⟨hor.1, x2⟩, fun r hr => ?_⟩
   rw [x3 ⟨r, hr⟩, ih2 r hr]
   dsimp only
   by_cases e : r = c
   ·subst e
    have hlt : decide (r < r + 1) = true := decide_eq_true (by omega)
    rw [hlt, Bool.true_and, beq_self_eq_true, Bool.or_true]
    exact he.symm
   ·rw [beq_eq_false_iff_ne.2 e, Bool.or_false]
    congr 1
    rw [Bool.eq_iff_iff, decide_eq_true_eq, decide_eq_true_eq]; omega
end Go.Own
