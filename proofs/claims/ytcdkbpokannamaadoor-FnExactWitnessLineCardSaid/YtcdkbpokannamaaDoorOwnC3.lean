import Derived.Test.YtcdkbpokannamaaDoorOwnC2
namespace Go.Own
open Go Go.Proofs
set_option linter.unusedSimpArgs false
set_option linter.unusedVariables false
set_option maxRecDepth 20000
set_option maxHeartbeats 2000000

/-! toInclusion -/
def cToX : Contract := ⟨[], false, fun
  | [.agg [.v (.int .i64 a), .v (.int .i64 b)]] => some (True, [⟨true, [.d (.v (.int .i64 a)), .d (.v (.int .i64 b))]⟩], [])
  | _ => none⟩

/-! MissingValue -/
def mvO (xs ys : List Int) : Nat → Nat → Option Int
  | _, 0 => none
  | v, n + 1 => if xs.contains (v : Int) && !ys.contains (v : Int) then some v else mvO xs ys (v + 1) n
def mvR : Option Int → Int × Bool
  | some v => (v, true)
  | none => (0, false)
def mv (c : Int) (rs : List (List Int)) (a b : Int) : Int × Bool := if colsOK c rs a b then mvR (mvO (colL rs a.toNat) (colL rs b.toNat) 0 41) else (0, false)

def cMV : Contract := ⟨[], false, fun
  | [.agg [.v (.int .i64 c), .sl 1 l], .agg [.v (.int .i64 a), .v (.int .i64 b)]] => some (WfS l ∧ -9223372036854775808 ≤ c ∧ c ≤ 9223372036854775807,
      [⟨false, [.d (.v (.int .i64 (mv c (unS l) a b).1))]⟩, ⟨false, [.d (.v (.bool (mv c (unS l) a b).2))]⟩], [])
  | _ => none⟩

theorem colF_of {c : Int} {rs : List (List Int)} {a b : Int} (h : colsOK c rs a b = true) : colF c rs a = colL rs a.toNat ∧ colF c rs b = colL rs b.toNat := by
  simp only [colsOK, Bool.and_eq_true] at h
  obtain ⟨⟨h1, h2⟩, h3⟩ := h
  constructor
  · unfold colF; rw [h1, h2]; rfl
  · unfold colF; rw [h1, h3]; rfl

/-- Where the least stands. -/
def mvP (xs ys : List Int) (i : Nat) (t : Int) : Prop :=
  (t = -1 ∧ ∀ v ∈ xs.take i, v ≠ -1 → ys.contains v = true) ∨ (0 ≤ t ∧ t ∈ xs.take i ∧ ys.contains t = false ∧ ∀ v ∈ xs.take i, v ≠ -1 → ys.contains v = false → t ≤ v)

theorem mvP_step {xs ys : List Int} {i : Nat} {t : Int} (hi : i < xs.length) (h40 : -1 ≤ xs.getD i 0) (h : mvP xs ys i t) :
    mvP xs ys (i + 1) (if xs.getD i 0 ≠ -1 ∧ ys.contains (xs.getD i 0) = false ∧ (t < 0 ∨ xs.getD i 0 < t) then xs.getD i 0 else t) := by
  unfold mvP at *
  rw [take_succ_getD hi 0]
  simp only [List.mem_append, List.mem_singleton]
  generalize xs.getD i 0 = v at *
  split
  · rename_i hc
    obtain ⟨c1, c2, c3⟩ := hc
    refine .inr ⟨by omega, .inr rfl, c2, ?_⟩
    rintro u (hu | rfl) h1 h2
    · rcases h with ⟨_, h⟩ | ⟨h3, _, _, h⟩
      · have := h u hu h1; rw [h2] at this; cases this
      · have := h u hu h1 h2; omega
    · omega
  · rename_i hc
    rcases h with ⟨rfl, h⟩ | ⟨h3, h4, h5, h⟩
    · refine .inl ⟨rfl, ?_⟩
      rintro u (hu | rfl) h1
      · exact h u hu h1
      · cases hy : ys.contains u with
        | true => rfl
        | false => exact absurd ⟨h1, hy, .inl (by omega)⟩ hc
    · refine .inr ⟨h3, .inl h4, h5, ?_⟩
      rintro u (hu | rfl) h1 h2
      · exact h u hu h1 h2
      · have : ¬ (t < 0 ∨ u < t) := fun q => hc ⟨h1, h2, q⟩
        omega

theorem mvO_none {xs ys : List Int} : ∀ {n v : Nat}, (∀ u, v ≤ u → u < v + n → xs.contains (u : Int) = true → ys.contains (u : Int) = true) → mvO xs ys v n = none
  | 0, v, _ => rfl
  | n + 1, v, h => by
    rw [mvO, if_neg, mvO_none fun u h1 h2 => h u (by omega) (by omega)]
    rw [Bool.and_eq_true]
    rintro ⟨q1, q2⟩
    rw [h v (Nat.le_refl _) (by omega) q1] at q2
    cases q2
theorem mvO_some {xs ys : List Int} {t : Nat} (h1 : xs.contains (t : Int) = true) (h2 : ys.contains (t : Int) = false) : ∀ {n v : Nat}, v ≤ t → t < v + n → (∀ u, v ≤ u → u < t → xs.contains (u : Int) = true → ys.contains (u : Int) = true) → mvO xs ys v n = some (t : Int)
  | 0, v, h3, h4, _ => by omega
  | n + 1, v, h3, h4, h => by
    rw [mvO]
    by_cases e : v = t
    · subst e
      rw [if_pos (by rw [h1, h2]; rfl)]
    · rw [if_neg, mvO_some h1 h2 (by omega) (by omega) fun u q1 q2 => h u (by omega) q2]
      rw [Bool.and_eq_true]
      rintro ⟨q1, q2⟩
      rw [h v (Nat.le_refl _) (by omega) q1] at q2
      cases q2

theorem mvP_end {xs ys : List Int} {t : Int} (hx : ∀ v ∈ xs, v ≤ 40) (h : mvP xs ys xs.length t) : mvR (mvO xs ys 0 41) = (max t 0, decide (t ≥ 0)) := by
  unfold mvP at h
  rw [List.take_length] at h
  rcases h with ⟨rfl, h⟩ | ⟨h3, h4, h5, h⟩
  · rw [mvO_none]
    · rfl
    · intro u _ _ hu
      exact h u (by simpa using hu) (by omega)
  · obtain ⟨n, rfl⟩ := Int.eq_ofNat_of_zero_le h3
    rw [mvO_some (t := n) (by simpa using h4) h5 (by omega) (by have := hx _ h4; omega)]
    · simp only [mvR]
      rw [decide_eq_true (by omega)]
      congr 1
      omega
    · intro u _ q1 q2
      cases hy : ys.contains (u : Int) with
      | true => rfl
      | false => have := h u (by simpa using q2) (by omega) hy; omega

theorem getD_memI {xs : List Int} {j : Nat} (h : j < xs.length) : xs.getD j 0 ∈ xs := by
  simp [List.getD_eq_getElem?_getD, h]

theorem cols_cells {c : Int} {rs : List (List Int)} {a b : Int} (h : colsOK c rs a b = true) : ∀ i, i < rs.length → ∀ j : Nat, (j : Int) < c → -1 ≤ (rs.getD i []).getD j 0 ∧ (rs.getD i []).getD j 0 ≤ 40 := by
  intro i hi j hj
  obtain ⟨a', b', c', rfl, rfl, rfl, _, _, _, hlen⟩ := cols_facts h
  have hl := hlen i hi
  simp only [colsOK, tabOK, Bool.and_eq_true, List.all_eq_true] at h
  have := h.1.1.1 (rs.getD i []) (by simp [List.getD_eq_getElem?_getD, hi])
  simp only [rowOK, Bool.and_eq_true, List.all_eq_true, inB, decide_eq_true_eq] at this
  exact this.1 ((rs.getD i []).getD j 0) (getD_memI (by omega))

theorem colL_getD {rs : List (List Int)} {a i : Nat} (h : i < rs.length) : (colL rs a).getD i 0 = (rs.getD i []).getD a 0 := by
  simp [colL, List.getD_eq_getElem?_getD, h]

/-! HoldsInclusion -/
def hiB (c : Int) (rs : List (List Int)) (a b : Int) : Bool := colsOK c rs a b && !(mv c rs a b).2

def cHI : Contract := ⟨[], false, fun
  | [.agg [.v (.int .i64 c), .sl 1 l], .agg [.v (.int .i64 a), .v (.int .i64 b)]] => some (WfS l ∧ -9223372036854775808 ≤ c ∧ c ≤ 9223372036854775807,
      [⟨false, [.d (.v (.bool (hiB c (unS l) a b)))]⟩], [])
  | _ => none⟩

def cLawTX : Contract := ⟨[], false, fun
  | [.agg [.v (.int .i64 c), .sl 1 l], .agg [.v (.int .i64 a), .v (.int .i64 b)]] => some (WfS l ∧ -9223372036854775808 ≤ c ∧ c ≤ 9223372036854775807, [⟨false, [.d (.v (.bool true))]⟩], [])
  | _ => none⟩

end Go.Own
