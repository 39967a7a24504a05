/-
  Plain law: classes of equal rows. Conditions: as each theorem states them.
-/
import Derived.Test.YtaigpolfbonjgaaGreatDoorOwnTk
import Derived.Test.YtaigpolfbonjgaaGreatDoorOwnG4
set_option linter.unusedSimpArgs false
set_option linter.unusedVariables false
namespace Go.Own
open Go Go.Proofs
def sam (c : Nat) (rs : List (List Int)) (m set : Int) (i j : Nat) : Bool := insB set (agL m (rs.getD i []) (rs.getD j []) c)
theorem sam_iff {c : Nat} {rs : List (List Int)} {m set : Int} {i j : Nat} (hc : c ≤ 5) (hs : R5 set) : sam c rs m set i j = true ↔ ∀ b : Nat, b < 5 → hasB set (b : Nat) = true → b < c ∧ eqc m ((rs.getD i []).getD b 0) ((rs.getD j []).getD b 0) = true := by
 unfold sam
 obtain ⟨h1, h2⟩ := @agL_all m (rs.getD i []) (rs.getD j []) c hc
 have hr := agL_range (m := m) (a := rs.getD i []) (b := rs.getD j []) hc
 rw [insB_iff hs hr]
 constructor
 ·intro h b hb hset
  have := h ⟨b, hb⟩ hset
  dsimp only at this
  rw [h2 b hb, Bool.and_eq_true, decide_eq_true_eq] at this
  exact this
 ·intro h b hset
  rw [h2 b.val b.isLt, Bool.and_eq_true, decide_eq_true_eq]
  exact h b.val b.isLt hset
theorem eqc_tri {m a b c : Int} (h1 : eqc m a b = true) (h2 : eqc m a c = true) : eqc m b c = true := by
 unfold eqc at *
 simp only [Bool.and_eq_true, beq_iff_eq] at *
 obtain ⟨⟨h3, h4⟩, h5⟩ := h1
 obtain ⟨⟨h6, h7⟩, h8⟩ := h2
 exact ⟨⟨h3, by omega⟩, by rw [← h4]; exact h5⟩
theorem eqc_sy {m a b : Int} (h1 : eqc m a b = true) : eqc m b a = true := by
 unfold eqc at *
 simp only [Bool.and_eq_true, beq_iff_eq] at *
 obtain ⟨⟨h3, h4⟩, h5⟩ := h1
 exact ⟨⟨h3, by omega⟩, by rw [← h4]; exact h5⟩
structure PEq (S : Nat → Nat → Bool) : Prop where
  sy : ∀ i j, S i j = true → S j i = true
  tri : ∀ i j k, S i j = true → S i k = true → S j k = true
theorem sam_peq {c : Nat} {rs : List (List Int)} {m set : Int} (hc : c ≤ 5) (hs : R5 set) : PEq (sam c rs m set) where
 sy := fun i j h => by
  rw [sam_iff hc hs] at *
  exact fun b hb hset => ⟨(h b hb hset).1, eqc_sy (h b hb hset).2⟩
 tri := fun i j k h1 h2 => by
  rw [sam_iff hc hs] at *
  exact fun b hb hset => ⟨(h1 b hb hset).1, eqc_tri (h1 b hb hset).2 (h2 b hb hset).2⟩
def clK (S : Nat → Nat → Bool) (i : Nat) : Nat → List Int
 | 0 => [((i : Nat) : Int)]
 | t + 1 => clK S i t ++ (if S i (i + 1 + t) then [((i + 1 + t : Nat) : Int)] else [])
def cl (S : Nat → Nat → Bool) (N i : Nat) : List Int := clK S i (N - (i + 1))
def ouK (S : Nat → Nat → Bool) (N : Nat) : Nat → List (List Int) × List Int
 | 0 => ([], [])
 | i + 1 => if (ouK S N i).2.contains ((i : Nat) : Int) then ouK S N i else if 1 < (cl S N i).length then ((ouK S N i).1 ++ [cl S N i], (ouK S N i).2 ++ cl S N i) else ouK S N i
theorem clK_len {S : Nat → Nat → Bool} {i : Nat} : ∀ {t : Nat}, (clK S i t).length ≤ t + 1
 | 0 => Nat.le_refl _
 | t + 1 => by
  have := @clK_len S i t
  rw [clK, List.length_append]
  split <;> simp <;> omega
theorem clK_mem {S : Nat → Nat → Bool} {i : Nat} {x : Int} : ∀ {t : Nat}, x ∈ clK S i t ↔ x = (i : Nat) ∨ ∃ k : Nat, i < k ∧ k < i + 1 + t ∧ S i k = true ∧ x = (k : Nat)
 | 0 => by
  rw [clK, List.mem_singleton]
  constructor
  ·exact .inl
  ·rintro (h | ⟨k, h1, h2, _⟩)
   ·exact h
   ·omega
 | t + 1 => by
  rw [clK, List.mem_append, @clK_mem S i x t]
  constructor
  ·rintro ((h | ⟨k, h1, h2, h3, h4⟩) | h)
   ·exact .inl h
   ·exact .inr ⟨k, h1, by omega, h3, h4⟩
   ·split at h
    ·rename_i hs
     rw [List.mem_singleton] at h
     exact .inr ⟨i + 1 + t, by omega, by omega, hs, h⟩
    ·cases h
  ·rintro (h | ⟨k, h1, h2, h3, h4⟩)
   ·exact .inl (.inl h)
   ·by_cases e : k = i + 1 + t
    ·subst e
     right; rw [if_pos h3, List.mem_singleton]; exact h4
    ·exact .inl (.inr ⟨k, h1, by omega, h3, h4⟩)
theorem clK_nodup {S : Nat → Nat → Bool} {i : Nat} : ∀ {t : Nat}, (clK S i t).Nodup
 | 0 => by simp [clK]
 | t + 1 => by
  rw [clK, List.nodup_append]
  refine ⟨@clK_nodup S i t, by split <;> simp, fun a ha b hb => ?_⟩
  split at hb
  ·rw [List.mem_singleton] at hb
   subst hb
   rw [clK_mem] at ha
   rcases ha with h | ⟨k, h1, h2, h3, h4⟩
   ·omega
   ·omega
  ·cases hb
theorem ouK_mem {S : Nat → Nat → Bool} {N : Nat} {x : Int} : ∀ {n : Nat}, x ∈ (ouK S N n).2 → ∃ i, i < n ∧ 1 < (cl S N i).length ∧ x ∈ cl S N i
 | 0, h => nomatch h
 | n + 1, h => by
  rw [ouK] at h
  have ih := @ouK_mem S N x n
  split at h
  ·obtain ⟨i, h1, h2⟩ := ih h; exact ⟨i, by omega, h2⟩
  ·split at h
   ·rename_i hl
    rw [List.mem_append] at h
    rcases h with h | h
    ·obtain ⟨i, h1, h2⟩ := ih h; exact ⟨i, by omega, h2⟩
    ·exact ⟨n, by omega, hl, h⟩
   ·obtain ⟨i, h1, h2⟩ := ih h; exact ⟨i, by omega, h2⟩
theorem ouK_sub {S : Nat → Nat → Bool} {N n : Nat} {x : Int} (h : x ∈ (ouK S N n).2) : x ∈ (ouK S N (n + 1)).2 := by
 rw [ouK]
 split
 ·exact h
 ·split
  ·exact List.mem_append_left _ h
  ·exact h
theorem ouK_mono {S : Nat → Nat → Bool} {N : Nat} {x : Int} {n : Nat} : ∀ {d : Nat}, x ∈ (ouK S N n).2 → x ∈ (ouK S N (n + d)).2
 | 0, h => h
 | d + 1, h => ouK_sub (ouK_mono (d := d) h)
theorem ouK_has {S : Nat → Nat → Bool} {N i n : Nat} (hi : i < n) (hl : 1 < (cl S N i).length) (hd : ((i : Nat) : Int) ∉ (ouK S N i).2) {x : Int} (hx : x ∈ cl S N i) : x ∈ (ouK S N n).2 := by
 have h1 : x ∈ (ouK S N (i + 1)).2 := by
  rw [ouK, if_neg (by rw [List.contains_iff_mem]; exact hd), if_pos hl]
  exact List.mem_append_right _ hx
 have := @ouK_mono S N x (i + 1) (n - (i + 1)) h1
 rwa [show i + 1 + (n - (i + 1)) = n by omega] at this
theorem ouK_mem2 {S : Nat → Nat → Bool} {N : Nat} {x : Int} : ∀ {n : Nat}, x ∈ (ouK S N n).2 → ∃ i, i < n ∧ ((i : Nat) : Int) ∉ (ouK S N i).2 ∧ 1 < (cl S N i).length ∧ x ∈ cl S N i
 | 0, h => nomatch h
 | n + 1, h => by
  rw [ouK] at h
  have ih := @ouK_mem2 S N x n
  split at h
  ·obtain ⟨i, h1, h2⟩ := ih h; exact ⟨i, by omega, h2⟩
  ·rename_i hc
   split at h
   ·rename_i hl
    rw [List.mem_append] at h
    rcases h with h | h
    ·obtain ⟨i, h1, h2⟩ := ih h; exact ⟨i, by omega, h2⟩
    ·exact ⟨n, by omega, by rwa [List.contains_iff_mem] at hc, hl, h⟩
   ·obtain ⟨i, h1, h2⟩ := ih h; exact ⟨i, by omega, h2⟩
theorem cl_mem {S : Nat → Nat → Bool} {N i : Nat} (hi : i < N) {x : Int} : x ∈ cl S N i ↔ x = (i : Nat) ∨ ∃ k : Nat, i < k ∧ k < N ∧ S i k = true ∧ x = (k : Nat) := by
 unfold cl
 rw [clK_mem]
 constructor
 ·rintro (h | ⟨k, h1, h2, h3⟩)
  ·exact .inl h
  ·exact .inr ⟨k, h1, by omega, h3⟩
 ·rintro (h | ⟨k, h1, h2, h3⟩)
  ·exact .inl h
  ·exact .inr ⟨k, h1, by omega, h3⟩
theorem ouK_key {S : Nat → Nat → Bool} {N i k : Nat} (hS : PEq S) (hk : k < N) (hik : i < k) (hd : ((i : Nat) : Int) ∉ (ouK S N i).2) (hs : S i k = true) : ((k : Nat) : Int) ∉ (ouK S N i).2 := by
 intro hm
 obtain ⟨j, h1, h2, h3, h4⟩ := ouK_mem2 hm
 rw [cl_mem (by omega)] at h4
 rcases h4 with h4 | ⟨k', h5, h6, h7, h8⟩
 ·omega
 ·have e : k' = k := by omega
  subst e
  have hji : S j i = true := hS.sy _ _ (hS.tri k' i j (hS.sy _ _ hs) (hS.sy _ _ h7))
  exact hd (ouK_has h1 h3 h2 ((cl_mem (by omega)).2 (.inr ⟨i, h1, by omega, hji, rfl⟩)))
theorem ouK_nodup {S : Nat → Nat → Bool} {N : Nat} (hS : PEq S) : ∀ {n : Nat}, n ≤ N → (ouK S N n).2.Nodup
 | 0, _ => by simp [ouK]
 | n + 1, hn => by
  have ih := @ouK_nodup S N hS n (by omega)
  rw [ouK]
  split
  ·exact ih
  ·rename_i hc
   rw [List.contains_iff_mem] at hc
   split
   ·rw [List.nodup_append]
    refine ⟨ih, clK_nodup, fun a ha b hb e => ?_⟩
    subst e
    rw [cl_mem (by omega)] at hb
    rcases hb with h | ⟨k, h1, h2, h3, h4⟩
    ·rw [h] at ha; exact hc ha
    ·rw [h4] at ha; exact ouK_key hS h2 h1 hc h3 ha
   ·exact ih
theorem ouK_len {S : Nat → Nat → Bool} {N n : Nat} (hS : PEq S) (hn : n ≤ N) : (ouK S N n).2.length ≤ N := by
 have h := List.Nodup.length_le_of_subset (ouK_nodup hS hn) (l₂ := (List.range N).map fun k => ((k : Nat) : Int)) fun x hx => by
  obtain ⟨i, h1, _, h3⟩ := ouK_mem hx
  rw [cl_mem (by omega)] at h3
  rw [List.mem_map]
  rcases h3 with h | ⟨k, h4, h5, _, h6⟩
  ·exact ⟨i, by rw [List.mem_range]; omega, h.symm⟩
  ·exact ⟨k, by rw [List.mem_range]; omega, h6.symm⟩
 simpa using h
theorem ouK_out {S : Nat → Nat → Bool} {N : Nat} {l : List Int} : ∀ {n : Nat}, l ∈ (ouK S N n).1 → ∃ i, i < n ∧ l = cl S N i
 | 0, h => nomatch h
 | n + 1, h => by
  rw [ouK] at h
  have ih := @ouK_out S N l n
  split at h
  ·obtain ⟨i, h1, h2⟩ := ih h; exact ⟨i, by omega, h2⟩
  ·split at h
   ·rw [List.mem_append, List.mem_singleton] at h
    rcases h with h | h
    ·obtain ⟨i, h1, h2⟩ := ih h; exact ⟨i, by omega, h2⟩
    ·exact ⟨n, by omega, h⟩
   ·obtain ⟨i, h1, h2⟩ := ih h; exact ⟨i, by omega, h2⟩
theorem ouK_outlen {S : Nat → Nat → Bool} {N : Nat} : ∀ {n : Nat}, (ouK S N n).1.length ≤ n
 | 0 => Nat.le_refl _
 | n + 1 => by
  have ih := @ouK_outlen S N n
  rw [ouK]
  split
  ·omega
  ·split
   ·rw [List.length_append, List.length_singleton]; omega
   ·omega
def tots : List (List Int) → Nat
 | [] => 0
 | l :: ls => l.length + tots ls
theorem tots_snoc {l : List Int} : ∀ {ls : List (List Int)}, tots (ls ++ [l]) = tots ls + l.length
 | [] => by simp [tots]
 | x :: ls => by rw [List.cons_append, tots, @tots_snoc l ls, tots]; omega
theorem ouK_tots {S : Nat → Nat → Bool} {N : Nat} : ∀ {n : Nat}, tots (ouK S N n).1 = (ouK S N n).2.length
 | 0 => rfl
 | n + 1 => by
  have ih := @ouK_tots S N n
  rw [ouK]
  split
  ·exact ih
  ·split
   ·rw [tots_snoc, List.length_append, ih]
   ·exact ih
def cnt1 (E : Int → Int → Bool) (l : List Int) (p : Nat) : Nat → Int
 | 0 => 1
 | q + 1 => cnt1 E l p q + (if (q != p && E (l.getD p 0) (l.getD q 0)) then 1 else 0)
def most1 (E : Int → Int → Bool) (l : List Int) : Nat → Int
 | 0 => 0
 | p + 1 => max (most1 E l p) (cnt1 E l p l.length)
def rem1 (E : Int → Int → Bool) (ls : List (List Int)) : Nat → Int
 | 0 => 0
 | k + 1 => rem1 E ls k + ((ls.getD k []).length - most1 E (ls.getD k []) (ls.getD k []).length)
theorem cnt1_le {E : Int → Int → Bool} {l : List Int} {p : Nat} : ∀ {q : Nat}, 1 ≤ cnt1 E l p q ∧ cnt1 E l p q ≤ q + 1
 | 0 => ⟨Int.le_refl _, Int.le_refl _⟩
 | q + 1 => by
  have := @cnt1_le E l p q
  rw [cnt1]
  split <;> omega
theorem cnt1_le2 {E : Int → Int → Bool} {l : List Int} {p : Nat} : ∀ {q : Nat}, cnt1 E l p q ≤ q + (if p < q then 0 else 1)
 | 0 => by simp [cnt1]
 | q + 1 => by
  have := @cnt1_le2 E l p q
  rw [cnt1]
  by_cases e : q = p
  ·subst e
   rw [bne_self_eq_false, Bool.false_and, if_neg (by decide), if_pos (by omega)]
   rw [if_neg (by omega)] at this
   omega
  ·by_cases h : p < q
   ·have hc : p < q + 1 := by omega
    rw [if_pos h] at this
    rw [if_pos hc]
    split <;> omega
   ·have hc : ¬ p < q + 1 := by omega
    rw [if_neg h] at this
    rw [if_neg hc]
    split <;> omega
theorem most1_le {E : Int → Int → Bool} {l : List Int} : ∀ {p : Nat}, p ≤ l.length → 0 ≤ most1 E l p ∧ most1 E l p ≤ l.length
 | 0, _ => ⟨Int.le_refl _, by simp [most1]⟩
 | p + 1, hp => by
  have ih := @most1_le E l p (by omega)
  have h1 := @cnt1_le2 E l p l.length
  have h2 := @cnt1_le E l p l.length
  rw [if_pos (by omega)] at h1
  rw [most1]
  omega
theorem tots_take {ls : List (List Int)} {k : Nat} (h : k < ls.length) : tots (ls.take (k + 1)) = tots (ls.take k) + (ls.getD k []).length := by
 rw [take_succ_getD h [], tots_snoc]
theorem rem1_le {E : Int → Int → Bool} {ls : List (List Int)} : ∀ {k : Nat}, k ≤ ls.length → 0 ≤ rem1 E ls k ∧ rem1 E ls k ≤ tots (ls.take k)
 | 0, _ => ⟨Int.le_refl _, by simp [rem1]⟩
 | k + 1, hk => by
  have ih := @rem1_le E ls k (by omega)
  have h1 := @most1_le E (ls.getD k []) (ls.getD k []).length (Nat.le_refl _)
  rw [rem1, tots_take (by omega)]
  omega
end Go.Own
