/-
  Plain laws: orders and inclusions. Conditions: as each theorem states them.
-/
import Derived.Test.YtcdkbpokannamaaDoorOwnE6
import Derived.Test.YtcdkbpokannamaaDoorOwnY1
namespace Go.Own
open Go Go.Proofs
set_option linter.unusedSimpArgs false
set_option linter.unusedVariables false

/-! Inclusions: what holds composes. -/
theorem mvO_iff {xs ys : List Int} : ∀ {n v : Nat}, (mvO xs ys v n = none ↔ ∀ u : Nat, v ≤ u → u < v + n → xs.contains (u : Int) = true → ys.contains (u : Int) = true)
  | 0, v => ⟨fun _ u h1 h2 => absurd h1 (by omega), fun _ => rfl⟩
  | n + 1, v => by
    rw [mvO]
    split
    · rename_i h
      simp only [Bool.and_eq_true, Bool.not_eq_true'] at h
      refine ⟨fun h => (nomatch h), fun q => ?_⟩
      have := q v (Nat.le_refl _) (by omega) h.1
      rw [this] at h; cases h.2
    · rename_i h
      rw [@mvO_iff xs ys n (v + 1)]
      constructor
      · intro q u h1 h2 h3
        by_cases e : u = v
        · subst e
          cases hy : ys.contains (u : Int) with
          | true => rfl
          | false => rw [h3, hy] at h; exact absurd rfl h
        · exact q u (by omega) (by omega) h3
      · intro q u h1 h2 h3; exact q u (by omega) (by omega) h3
theorem hiB_facts {c : Int} {rs : List (List Int)} {a b : Int} : hiB c rs a b = true ↔ colsOK c rs a b = true ∧ ∀ u : Nat, u < 41 → (colL rs a.toNat).contains (u : Int) = true → (colL rs b.toNat).contains (u : Int) = true := by
  unfold hiB mv
  rw [Bool.and_eq_true]
  constructor
  · rintro ⟨h1, h2⟩
    rw [if_pos h1] at h2
    refine ⟨h1, ?_⟩
    cases hm : mvO (colL rs a.toNat) (colL rs b.toNat) 0 41 with
    | none => rw [mvO_iff] at hm; exact fun u hu => hm u (by omega) (by omega)
    | some v => rw [hm] at h2; simp [mvR] at h2
  · rintro ⟨h1, h2⟩
    refine ⟨h1, ?_⟩
    rw [if_pos h1, mvO_iff.2 fun u _ hu => h2 u (by omega)]
    rfl
theorem hiB_trans {c : Int} {rs : List (List Int)} {a b k : Int} (h1 : hiB c rs a b = true) (h2 : hiB c rs b k = true) : hiB c rs a k = true := by
  rw [hiB_facts] at *
  refine ⟨?_, fun u hu h => h2.2 u hu (h1.2 u hu h)⟩
  have q1 := h1.1
  have q2 := h2.1
  unfold colsOK at *
  simp only [Bool.and_eq_true] at *
  exact ⟨⟨q1.1.1, q1.1.2⟩, q2.2⟩
theorem prB_mem {p : Int → Int → Bool} {a : Nat} {d : Int × Int} : ∀ {b : Nat}, d ∈ prB p a b → p d.1 d.2 = true
  | 0, h => nomatch h
  | b + 1, h => by
    rw [prB, List.mem_append] at h
    rcases h with h | h
    · exact prB_mem h
    · split at h
      · rename_i q
        rw [List.mem_singleton] at h
        subst h
        exact q.2
      · cases h
theorem prA_mem {p : Int → Int → Bool} {n : Nat} {d : Int × Int} : ∀ {a : Nat}, d ∈ prA p n a → p d.1 d.2 = true
  | 0, h => nomatch h
  | a + 1, h => by
    rw [prA, List.mem_append] at h
    rcases h with h | h
    · exact prA_mem h
    · exact prB_mem h
theorem prs_mem {p : Int → Int → Bool} {c : Int} {rs : List (List Int)} {d : Int × Int} (h : d ∈ prs p c rs) : p d.1 d.2 = true := by
  unfold prs at h
  split at h
  · exact prA_mem h
  · cases h
theorem getD_memD {xs : List (Int × Int)} {i : Nat} (h : i < xs.length) : xs.getD i (0, 0) ∈ xs := by
  rw [List.getD_eq_getElem?_getD, List.getElem?_eq_getElem h]; exact List.getElem_mem h
theorem inc_comp {c : Int} {rs : List (List Int)} {i k : Nat} (hi : i < (prs (hiB c rs) c rs).length) (hk : k < (prs (hiB c rs) c rs).length) (h : ((prs (hiB c rs) c rs).getD i (0, 0)).2 = ((prs (hiB c rs) c rs).getD k (0, 0)).1) :
    hiB c rs ((prs (hiB c rs) c rs).getD i (0, 0)).1 ((prs (hiB c rs) c rs).getD k (0, 0)).2 = true := by
  have h1 := prs_mem (getD_memD hi)
  have h2 := prs_mem (getD_memD hk)
  rw [← h] at h2
  exact hiB_trans h1 h2
theorem mvO_in {xs ys : List Int} {t : Int} : ∀ {n v : Nat}, mvO xs ys v n = some t → xs.contains t = true ∧ ys.contains t = false
  | 0, v, h => nomatch h
  | n + 1, v, h => by
    rw [mvO] at h
    split at h
    · rename_i q
      simp only [Bool.and_eq_true, Bool.not_eq_true'] at q
      simp only [Option.some.injEq] at h
      subst h; exact q
    · exact mvO_in h
theorem mv_in {c : Int} {rs : List (List Int)} {a b : Int} (h : (mv c rs a b).2 = true) : (colF c rs a).contains (mv c rs a b).1 = true ∧ (colF c rs b).contains (mv c rs a b).1 = false := by
  unfold mv at *
  by_cases hc : colsOK c rs a b = true
  · obtain ⟨e1, e2⟩ := colF_of hc
    rw [if_pos hc] at *
    rw [e1, e2]
    cases hm : mvO (colL rs a.toNat) (colL rs b.toNat) 0 41 with
    | none => rw [hm] at h; simp [mvR] at h
    | some v => exact mvO_in hm
  · rw [if_neg hc] at h; cases h

/-! Orders: an order dependency implies the functional one. -/
theorem owK_iff {rs : List (List Int)} {a b i : Nat} : ∀ {n k : Nat}, owK rs a b i k n = none ↔ ∀ j, k ≤ j → j < k + n → owC rs a b i j = false
  | 0, k => ⟨fun _ j h1 h2 => absurd h1 (by omega), fun _ => rfl⟩
  | n + 1, k => by
    rw [owK]
    split
    · rename_i h
      refine ⟨fun h => (nomatch h), fun q => ?_⟩
      rw [q k (Nat.le_refl _) (by omega)] at h; cases h
    · rename_i h
      rw [@owK_iff rs a b i n (k + 1)]
      constructor
      · intro q j h1 h2
        by_cases e : j = k
        · subst e; simpa using h
        · exact q j (by omega) (by omega)
      · intro q j h1 h2; exact q j (by omega) (by omega)
theorem owI_iff {rs : List (List Int)} {a b : Nat} : ∀ {n i : Nat}, owI rs a b i n = none ↔ ∀ k, i ≤ k → k < i + n → ∀ j, j < rs.length → owC rs a b k j = false
  | 0, i => ⟨fun _ j h1 h2 => absurd h1 (by omega), fun _ => rfl⟩
  | n + 1, i => by
    rw [owI]
    cases hk : owK rs a b i 0 rs.length with
    | some k =>
      dsimp only
      refine ⟨fun h => (nomatch h), fun q => ?_⟩
      have := owK_iff.2 fun j (_ : 0 ≤ j) (h2 : j < 0 + rs.length) => q i (Nat.le_refl _) (by omega) j (by omega)
      rw [this] at hk; cases hk
    | none =>
      dsimp only
      rw [@owI_iff rs a b n (i + 1)]
      rw [owK_iff] at hk
      constructor
      · intro q k h1 h2 j hj
        by_cases e : k = i
        · subst e; exact hk j (by omega) (by omega)
        · exact q k (by omega) (by omega) j hj
      · intro q k h1 h2; exact q k (by omega) (by omega)
theorem owK_some {rs : List (List Int)} {a b i t : Nat} : ∀ {n k : Nat}, owK rs a b i k n = some t → t < k + n ∧ owC rs a b i t = true
  | 0, k, h => nomatch h
  | n + 1, k, h => by
    rw [owK] at h
    split at h
    · rename_i q
      simp only [Option.some.injEq] at h
      subst h; exact ⟨by omega, q⟩
    · have := owK_some h; exact ⟨by omega, this.2⟩
theorem owI_some {rs : List (List Int)} {a b t u : Nat} : ∀ {n i : Nat}, owI rs a b i n = some (t, u) → t < i + n ∧ u < rs.length ∧ owC rs a b t u = true
  | 0, i, h => nomatch h
  | n + 1, i, h => by
    rw [owI] at h
    split at h
    · rename_i k hk
      simp only [Option.some.injEq, Prod.mk.injEq] at h
      obtain ⟨rfl, rfl⟩ := h
      have := owK_some hk
      exact ⟨by omega, by omega, this.2⟩
    · have := owI_some h; exact ⟨by omega, this.2⟩
theorem dpK_iff {rs : List (List Int)} {c : Nat} {m l r : Int} {i : Nat} : ∀ {n k : Nat}, dpK rs c m l r i k n = none ↔ ∀ j, k ≤ j → j < k + n → dpC rs c m l r i j = false
  | 0, k => ⟨fun _ j h1 h2 => absurd h1 (by omega), fun _ => rfl⟩
  | n + 1, k => by
    rw [dpK]
    split
    · rename_i h
      refine ⟨fun h => (nomatch h), fun q => ?_⟩
      rw [q k (Nat.le_refl _) (by omega)] at h; cases h
    · rename_i h
      rw [@dpK_iff rs c m l r i n (k + 1)]
      constructor
      · intro q j h1 h2
        by_cases e : j = k
        · subst e; simpa using h
        · exact q j (by omega) (by omega)
      · intro q j h1 h2; exact q j (by omega) (by omega)
theorem dpI_iff {rs : List (List Int)} {c : Nat} {m l r : Int} : ∀ {n i : Nat}, i + n ≤ rs.length → (dpI rs c m l r i n = none ↔ ∀ k, i ≤ k → k < i + n → ∀ j, k < j → j < rs.length → dpC rs c m l r k j = false)
  | 0, i, _ => ⟨fun _ j h1 h2 => absurd h1 (by omega), fun _ => rfl⟩
  | n + 1, i, hn => by
    rw [dpI]
    cases hk : dpK rs c m l r i (i + 1) (rs.length - (i + 1)) with
    | some k =>
      dsimp only
      refine ⟨fun h => (nomatch h), fun q => ?_⟩
      have := dpK_iff.2 fun j (h1 : i + 1 ≤ j) (h2 : j < i + 1 + (rs.length - (i + 1))) => q i (Nat.le_refl _) (by omega) j (by omega) (by omega)
      rw [this] at hk; cases hk
    | none =>
      dsimp only
      rw [@dpI_iff rs c m l r n (i + 1) (by omega)]
      rw [dpK_iff] at hk
      constructor
      · intro q k h1 h2 j hj hj2
        by_cases e : k = i
        · subst e; exact hk j (by omega) (by omega)
        · exact q k (by omega) (by omega) j hj hj2
      · intro q k h1 h2; exact q k (by omega) (by omega)
/-- A dependency holds: no two rows that agree on the left differ on the right. -/
theorem hdB_iff {c : Int} {rs : List (List Int)} {m l r : Int} : hdB c rs m l r = true ↔ askOK c rs m l r = true ∧ ∀ i j, i < j → j < rs.length → badS (agL m (rs.getD i []) (rs.getD j []) c.toNat) l r = false := by
  unfold hdB
  rw [Bool.and_eq_true]
  refine and_congr_right fun _ => ?_
  unfold wtO
  rw [Option.isNone_iff_eq_none, dpI_iff (by omega)]
  constructor
  · intro h i j h1 h2; exact h i (by omega) (by omega) j h1 h2
  · intro h k h1 h2 j h3 h4; exact h k j h3 h4
end Go.Own
