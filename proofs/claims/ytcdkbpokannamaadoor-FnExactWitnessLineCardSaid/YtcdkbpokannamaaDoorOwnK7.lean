/-
  Plain law: what an order dependency implies. Conditions: as each theorem states them.
-/
import Derived.Test.YtcdkbpokannamaaDoorOwnK3
namespace Go.Own
open Go Go.Proofs
set_option linter.unusedSimpArgs false
set_option linter.unusedVariables false

theorem hb_key : ∀ x : Fin 32, ∀ c : Fin 5, x.val < 2 ^ c.val → hasB ((x.val : Nat) : Int) ((c.val : Nat) : Int) = false ∧ bitI .or .i64 ((x.val : Nat) : Int) (1 * 2 ^ c.val) ≤ 2 ^ (c.val + 1) - 1 ∧ ∀ r : Fin 5, hasB (bitI .or .i64 ((x.val : Nat) : Int) (1 * 2 ^ c.val)) ((r.val : Nat) : Int) = (hasB ((x.val : Nat) : Int) ((r.val : Nat) : Int) || r.val == c.val) := by decide +kernel
theorem hb_zero : ∀ r : Fin 5, hasB 0 ((r.val : Nat) : Int) = false := by decide +kernel
theorem agL_all {m : Int} {a b : List Int} : ∀ {n : Nat}, n ≤ 5 → (0 ≤ agL m a b n ∧ agL m a b n ≤ 2 ^ n - 1) ∧ ∀ r : Nat, r < 5 → hasB (agL m a b n) (r : Nat) = (decide (r < n) && eqc m (a.getD r 0) (b.getD r 0))
  | 0, _ => ⟨by simp [agL], fun r hr => by
      rw [agL, decide_eq_false (by omega), Bool.false_and]
      exact hb_zero ⟨r, hr⟩⟩
  | c + 1, h => by
    obtain ⟨ih1, ih2⟩ := @agL_all m a b c (by omega)
    have e2 : ((2 ^ c : Nat) : Int) = (2 : Int) ^ c := by simp
    have e3 : (2 : Int) ^ (c + 1) = 2 ^ c * 2 := Int.pow_succ _ _
    have hp := p5 (c := c) (by omega)
    have hx := hb_key ⟨(agL m a b c).toNat, by omega⟩ ⟨c, by omega⟩ (by dsimp only; omega)
    have hor := or_key ⟨(agL m a b c).toNat, by omega⟩ ⟨c, by omega⟩
    dsimp only at hx hor
    rw [show (((agL m a b c).toNat : Nat) : Int) = agL m a b c by omega] at hx hor
    obtain ⟨x1, x2, x3⟩ := hx
    rw [agL]
    cases he : eqc m (a.getD c 0) (b.getD c 0)
    · rw [if_neg (by decide)]
      refine ⟨by omega, fun r hr => ?_⟩
      by_cases e : r = c
      · subst e
        rw [x1, he, Bool.and_false]
      · rw [ih2 r hr]
        congr 1
        rw [Bool.eq_iff_iff, decide_eq_true_eq, decide_eq_true_eq]; omega
    · rw [if_pos rfl]
      refine ⟨⟨hor.1, x2⟩, fun r hr => ?_⟩
      rw [x3 ⟨r, hr⟩, ih2 r hr]
      dsimp only
      by_cases e : r = c
      · subst e
        have hlt : decide (r < r + 1) = true := decide_eq_true (by omega)
        rw [hlt, Bool.true_and, beq_self_eq_true, Bool.or_true]
        exact he.symm
      · rw [beq_eq_false_iff_ne.2 e, Bool.or_false]
        congr 1
        rw [Bool.eq_iff_iff, decide_eq_true_eq, decide_eq_true_eq]; omega
theorem bad_pow : ∀ x : Fin 32, ∀ a : Fin 5, ∀ r : Fin 5, badS ((x.val : Nat) : Int) (1 * 2 ^ a.val) ((r.val : Nat) : Int) = (hasB ((x.val : Nat) : Int) ((a.val : Nat) : Int) && !hasB ((x.val : Nat) : Int) ((r.val : Nat) : Int)) := by decide +kernel
theorem pow_attr : ∀ n : Fin 6, ∀ a : Fin 5, a.val < n.val → isAttr ((n.val : Nat) : Int) (1 * 2 ^ a.val) = true := by decide +kernel
theorem cols_c5 {c : Int} {rs : List (List Int)} {a b : Int} (h : colsOK c rs a b = true) : c ≤ 5 := by
  simp only [colsOK, tabOK, inB, Bool.and_eq_true, decide_eq_true_eq, List.all_eq_true] at h
  omega
theorem ow_none {c : Int} {rs : List (List Int)} {a b : Int} (h : colsOK c rs a b = true) (h2 : (ow c rs a b).2.2 = false) : owI rs a.toNat b.toNat 0 rs.length = none := by
  unfold ow at h2
  rw [if_pos h] at h2
  cases hm : owI rs a.toNat b.toNat 0 rs.length with
  | none => rfl
  | some p => rw [hm] at h2; cases h2
theorem ow_some {c : Int} {rs : List (List Int)} {a b : Int} (h2 : (ow c rs a b).2.2 = true) : ∃ i k : Nat, colsOK c rs a b = true ∧ (ow c rs a b).1 = i ∧ (ow c rs a b).2.1 = k ∧ i < rs.length ∧ k < rs.length ∧ owC rs a.toNat b.toNat i k = true := by
  unfold ow at *
  by_cases h : colsOK c rs a b = true
  · rw [if_pos h] at *
    cases hm : owI rs a.toNat b.toNat 0 rs.length with
    | none => rw [hm] at h2; cases h2
    | some p =>
      obtain ⟨i, k⟩ := p
      obtain ⟨q1, q2, q3⟩ := owI_some hm
      exact ⟨i, k, h, rfl, rfl, by omega, q2, q3⟩
  · rw [if_neg h] at h2; cases h2
/-- What holds as an order holds as a dependency. -/
theorem ord_dep {c : Int} {rs : List (List Int)} {a b : Int} (h : ohB c rs a b = true) : hdB c rs 0 (1 * 2 ^ a.toNat) b = true := by
  unfold ohB at h
  rw [Bool.and_eq_true, Bool.not_eq_true'] at h
  obtain ⟨hc, hw⟩ := h
  have hn := owI_iff.1 (ow_none hc hw)
  have hc5 := cols_c5 hc
  have hc0 := hc
  obtain ⟨a', b', c', rfl, rfl, rfl, ha, hb, h40, hlen⟩ := cols_facts hc
  rw [Int.toNat_natCast]
  rw [Int.toNat_natCast, Int.toNat_natCast] at hn
  rw [hdB_iff]
  constructor
  · unfold colsOK at hc0
    rw [Bool.and_eq_true, Bool.and_eq_true] at hc0
    unfold askOK depOK
    rw [hc0.1.1, pow_attr ⟨c', by omega⟩ ⟨a', by omega⟩ ha, inB_iff.2 ⟨by omega, by omega⟩, inB_iff.2 ⟨by omega, by omega⟩]
    rfl
  · intro i j hij hj
    rw [Int.toNat_natCast]
    obtain ⟨r1, r2⟩ := @agL_all 0 (rs.getD i []) (rs.getD j []) c' (by omega)
    have hr := agL_range (m := 0) (a := rs.getD i []) (b := rs.getD j []) (n := c') (by omega)
    have hbp := bad_pow ⟨(agL 0 (rs.getD i []) (rs.getD j []) c').toNat, by omega⟩ ⟨a', by omega⟩ ⟨b', by omega⟩
    dsimp only at hbp
    rw [show (((agL 0 (rs.getD i []) (rs.getD j []) c').toNat : Nat) : Int) = agL 0 (rs.getD i []) (rs.getD j []) c' by omega, r2 a' (by omega), r2 b' (by omega), decide_eq_true ha, decide_eq_true hb, Bool.true_and, Bool.true_and] at hbp
    rw [hbp]
    have n1 := hn i (by omega) (by omega) j hj
    have n2 := hn j (by omega) (by omega) i (by omega)
    unfold owC cellAt at n1 n2
    rw [Bool.and_eq_false_iff, decide_eq_false_iff_not, decide_eq_false_iff_not] at n1 n2
    cases q : eqc 0 ((rs.getD i []).getD a' 0) ((rs.getD j []).getD a' 0)
    · rfl
    · have q1 : (rs.getD i []).getD a' 0 = (rs.getD j []).getD a' 0 := by
        unfold eqc at q
        rw [Bool.and_eq_true, Bool.and_eq_true, beq_iff_eq] at q
        exact q.1.2
      have q2 : (rs.getD i []).getD b' 0 = (rs.getD j []).getD b' 0 := by omega
      have : eqc 0 ((rs.getD i []).getD b' 0) ((rs.getD j []).getD b' 0) = true := by
        unfold eqc
        rw [q2]
        simp [modeOK]
      rw [this]; rfl
end Go.Own
