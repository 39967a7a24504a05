import Derived.Test.YthopcpiecbofcaaOwnY1
namespace Go.Own
open Go Go.Proofs
set_option linter.unusedSimpArgs false
set_option linter.unusedVariables false
set_option maxRecDepth 20000
set_option maxHeartbeats 2000000

attribute [local go_sem] unD_dL dL_length dL_get dL_set dL_inj wfD_dL scal2 beq2 pair_eta

def csOut (n : Int) (ds : List (Int × Int)) (rs : List (List Int)) : List (List Int) := (csStep n ds rs).getD rs
def cStep : Contract := ⟨[], false, fun
  | [.one (.v (.int .i64 n)), .one (.sl 2 l), .one (.sl 1 t)] => some (WfD l ∧ WfS t ∧ (t.length ≤ 16777216 ∧ ∀ r ∈ unS t, r.length ≤ 16777216) ∧ -9223372036854775808 ≤ n ∧ n ≤ 9223372036854775807,
      [⟨false, [.own 1 (sL (csOut n (unD l) (unS t))) 1]⟩, ⟨false, [.d (.v (.bool (csStep n (unD l) (unS t)).isSome))]⟩], [])
  | _ => none⟩

theorem rows_facts {n : Int} {ds : List (Int × Int)} {rs : List (List Int)} (h : (depsOK n ds && rowsOK n rs) = true) : ∃ c : Nat, n = c ∧ 1 ≤ c ∧ c ≤ 5 ∧ rs.length ≤ 40 ∧ ds.length ≤ 20 ∧ (∀ r ∈ rs, r.length = c) ∧
    (∀ i, i < rs.length → (rs.getD i []).length = c) ∧ (∀ i, i < ds.length → askOK n rs 0 (ds.getD i (0, 0)).1 (ds.getD i (0, 0)).2 = true ∧ 0 ≤ (ds.getD i (0, 0)).2 ∧ (ds.getD i (0, 0)).2 < n) := by
  simp only [Bool.and_eq_true] at h
  obtain ⟨h1, h2⟩ := h
  simp only [depsOK, rowsOK, Bool.and_eq_true, inB_iff, decide_eq_true_eq, List.all_eq_true] at h1 h2
  obtain ⟨h1, ⟨h3, h4⟩, h5⟩ := h1
  obtain ⟨h6, h7⟩ := h2
  obtain ⟨c, rfl⟩ := Int.eq_ofNat_of_zero_le (show 0 ≤ n by omega)
  have hr : ∀ r ∈ rs, rowOK r c = true := fun r hr => by
    have := h6 r hr
    simp only [rowG, Bool.and_eq_true] at this
    exact this.1
  have ht : tabOK c rs = true := by
    simp only [tabOK, Bool.and_eq_true, inB_iff, decide_eq_true_eq, List.all_eq_true]
    exact ⟨hr, ⟨h3, h4⟩, h7⟩
  have hl : ∀ r ∈ rs, r.length = c := fun r h => by
    have := hr r h
    simp only [rowOK, Bool.and_eq_true, decide_eq_true_eq] at this
    omega
  refine ⟨c, rfl, by omega, by omega, by omega, by omega, hl, fun i hi => hl _ (getD_mem hi []), fun i hi => ?_⟩
  have hd := h1 _ (getD_mem hi (0, 0))
  refine ⟨?_, ?_⟩
  · simp only [askOK, Bool.and_eq_true]
    exact ⟨⟨ht, rfl⟩, hd⟩
  · simp only [depOK, Bool.and_eq_true, inB_iff] at hd
    omega

/-- What a witness is. -/
theorem dpK_lt {rs : List (List Int)} {c : Nat} {m l r : Int} {i : Nat} : ∀ {n k q : Nat}, dpK rs c m l r i k n = some q → k ≤ q ∧ q < k + n
  | 0, k, q, h => by simp [dpK] at h
  | n + 1, k, q, h => by
    rw [dpK] at h
    split at h
    · simp at h; omega
    · have := dpK_lt h; omega
theorem dpI_lt {rs : List (List Int)} {c : Nat} {m l r : Int} : ∀ {n i a b : Nat}, dpI rs c m l r i n = some (a, b) → a < i + n ∧ b < rs.length
  | 0, i, a, b, h => by simp [dpI] at h
  | n + 1, i, a, b, h => by
    rw [dpI] at h
    split at h
    · rename_i k hk
      have := dpK_lt hk
      simp at h; omega
    · have := dpI_lt h; omega
theorem wtO_lt {n : Int} {rs : List (List Int)} {m l r : Int} {a b : Nat} (h : wtO n rs m l r = some (a, b)) : a < rs.length ∧ b < rs.length := by
  have := dpI_lt h; omega

end Go.Own
