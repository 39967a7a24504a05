/-
  Plain law: members of a set, parts. Conditions: as each theorem states them.
-/
import Derived.Test.YtjembhkhgahhiaaGreatOwnQ1
import Derived.Test.YtjembhkhgahhiaaGreatOwnC7
import Derived.Test.YtjembhkhgahhiaaGreatOwnY5
import Derived.Test.YtjembhkhgahhiaaGreatOwnT1
import Derived.Test.YtjembhkhgahhiaaGreatOwnY2
import Derived.Test.YtjembhkhgahhiaaGreatOwnT6
set_option linter.unusedSimpArgs false
set_option linter.unusedVariables false
namespace Go.Own
open Go Go.Proofs
theorem memN_iff {x : Int} : ∀ {n k : Nat}, (((k : Nat) : Int) ∈ memN x n ↔ k < n ∧ hasB x (k : Nat) = true)
 | 0, k => by simp [memN]
 | n + 1, k => by
  rw [memN, List.mem_append, memN_iff]
  constructor
  ·rintro (⟨h1, h2⟩ | h)
   ·exact ⟨by omega, h2⟩
   ·split at h
    ·rename_i hb
     simp only [List.mem_singleton] at h
     have : k = n := by omega
     subst this
     exact ⟨by omega, hb⟩
    ·cases h
  ·rintro ⟨h1, h2⟩
   by_cases e : k = n
   ·subst e; right; rw [if_pos h2]; simp
   ·left; exact ⟨by omega, h2⟩
theorem mem_R {x : Int} (hx : R5 x) : mem x = memN x 5 := by
 unfold mem
 rw [if_pos]
 have h1 := hx.1
 have h2 := hx.2
 simp only [isAttr, Bool.and_eq_true, inB_iff, all2]
 exact ⟨by omega, h1, by show x ≤ 1 * 2 ^ 5 - 1; omega⟩
theorem mem_iff {x : Int} (hx : R5 x) {k : Nat} : ((k : Nat) : Int) ∈ mem x ↔ k < 5 ∧ hasB x (k : Nat) = true := by rw [mem_R hx, memN_iff]
theorem mem_nat {x : Int} {c : Int} (h : c ∈ mem x) : ∃ k : Nat, c = k ∧ k < 5 := by
 unfold mem at h
 split at h
 ·have := memN_range c h
  exact ⟨c.toNat, by omega, by omega⟩
 ·cases h
theorem lim_key : ∀ x : Fin 32, ∀ c : Fin 6, x.val < 2 ^ c.val → ∀ k : Fin 5, hasB ((x.val : Nat) : Int) ((k.val : Nat) : Int) = true → k.val < c.val := by decide +kernel
theorem att_bit {n : Nat} {x : Int} (hn : n ≤ 5) (h : isAttr (n : Nat) x = true) {k : Nat} (hk : k < 5) (hb : hasB x (k : Nat) = true) : k < n := by
 have h1 := isAttr_le h
 obtain ⟨_, _, x0, x31⟩ := h1
 simp only [isAttr, Bool.and_eq_true, inB_iff, all2, Int.toNat_natCast] at h
 have e2 : ((2 ^ n : Nat) : Int) = (2 : Int) ^ n := by simp
 have := lim_key ⟨x.toNat, by omega⟩ ⟨n, by omega⟩ (by dsimp only; omega) ⟨k, hk⟩
 dsimp only at this
 rw [show ((x.toNat : Nat) : Int) = x by omega] at this
 exact this hb
def fitsOn (rs : List (List Int)) (z : List Int) (q : Int) : Prop := ∃ r ∈ rs, ∀ k : Nat, (k : Int) ∈ mem q → z.getD k 0 = r.getD k 0
theorem orAll_has {k : Nat} (hk : k < 5) : ∀ {ps : List Int} {a : Int}, R5 a → (∀ p ∈ ps, R5 p) → R5 (orAll a ps) ∧ (hasB (orAll a ps) (k : Nat) = true ↔ hasB a (k : Nat) = true ∨ ∃ p ∈ ps, hasB p (k : Nat) = true)
 | [], a, ha, _ => ⟨ha, by simp [orAll]⟩
 | x :: ps, a, ha, hp => by
  have hx := hp x (by simp)
  have hor : R5 (bitI .or .i64 a x) ∧ hasB (bitI .or .i64 a x) (k : Nat) = (hasB a (k : Nat) || hasB x (k : Nat)) := by
   obtain ⟨a, rfl⟩ := ha.fin; obtain ⟨x, rfl⟩ := hx.fin
   exact ⟨orR_key a x, orh_key a x ⟨k, hk⟩⟩
  have := orAll_has hk (ps := ps) (a := bitI .or .i64 a x) hor.1 fun p hp' => hp p (by simp [hp'])
  refine ⟨this.1, ?_⟩
  rw [orAll, this.2, hor.2, Bool.or_eq_true]
  constructor
  ·rintro ((h | h) | ⟨p, hp', h⟩)
   ·exact .inl h
   ·exact .inr ⟨x, by simp, h⟩
   ·exact .inr ⟨p, by simp [hp'], h⟩
  ·rintro (h | ⟨p, hp', h⟩)
   ·exact .inl (.inl h)
   ·rcases List.mem_cons.1 hp' with rfl | hp'
    ·exact .inl (.inr h)
    ·exact .inr ⟨p, hp', h⟩
where
 orR_key : ∀ x y : Fin 32, R5 (bitI .or .i64 ((x.val : Nat) : Int) ((y.val : Nat) : Int)) := by unfold R5; decide +kernel
 orh_key : ∀ x y : Fin 32, ∀ c : Fin 5, hasB (bitI .or .i64 ((x.val : Nat) : Int) ((y.val : Nat) : Int)) ((c.val : Nat) : Int) = (hasB ((x.val : Nat) : Int) ((c.val : Nat) : Int) || hasB ((y.val : Nat) : Int) ((c.val : Nat) : Int)) := by decide +kernel
theorem all2_pow {n : Nat} : all2 n = ((2 ^ n : Nat) : Int) - 1 := by
 unfold all2
 rw [Int.toNat_natCast]
 have e2 : ((2 ^ n : Nat) : Int) = (2 : Int) ^ n := by simp
 omega
theorem all2_has : ∀ n : Fin 6, ∀ k : Fin 5, (0 ≤ all2 ((n.val : Nat) : Int) ∧ all2 ((n.val : Nat) : Int) ≤ 31) ∧ hasB (all2 ((n.val : Nat) : Int)) ((k.val : Nat) : Int) = decide (k.val < n.val) := by decide +kernel
structure PtP (n : Nat) (ps : List Int) : Prop where
  n5 : 1 ≤ n ∧ n ≤ 5
  len : 1 ≤ ps.length ∧ ps.length ≤ 10
  R : ∀ p ∈ ps, R5 p
  lim : ∀ p ∈ ps, ∀ k : Nat, k < 5 → hasB p (k : Nat) = true → k < n
  all : ∀ k : Nat, k < n → ∃ p ∈ ps, hasB p (k : Nat) = true
theorem ptP_of {c : Int} {ps : List Int} (h : partsOK c ps = true) : ∃ n : Nat, c = n ∧ PtP n ps := by
 have h0 := parts_facts h
 obtain ⟨n, rfl⟩ := Int.eq_ofNat_of_zero_le (show 0 ≤ c by omega)
 simp only [partsOK, Bool.and_eq_true, List.all_eq_true, beq_iff_eq] at h
 obtain ⟨h1, _, h3⟩ := h
 have hat : ∀ p ∈ ps, isAttr (n : Nat) p = true := fun p hp => by
  have := h1 p hp
  unfold partF at this
  rw [Bool.and_eq_true] at this
  exact this.1
 have hR : ∀ p ∈ ps, R5 p := fun p hp => by
  have := isAttr_le (hat p hp)
  exact ⟨this.2.2.1, this.2.2.2⟩
 refine ⟨n, rfl, ⟨by omega, by omega⟩, by omega, hR, fun p hp k hk hb => ?_, fun k hk => ?_⟩
 ·exact att_bit (by omega) (hat p hp) hk hb
 ·have h4 := (orAll_has (k := k) (by omega) (ps := ps) (a := 0) (by unfold R5; decide) hR).2
  rw [h3] at h4
  have h5 := (all2_has ⟨n, by omega⟩ ⟨k, by omega⟩).2
  dsimp only at h5
  rw [h5, decide_eq_true hk] at h4
  rcases h4.1 rfl with h6 | h6
  ·have := hb_zero ⟨k, by omega⟩
   dsimp only at this
   rw [this] at h6; cases h6
  ·exact h6
end Go.Own
/-
  Plain law: what the chase ends with. Conditions: as each theorem states them.
-/
namespace Go.Own
open Go Go.Proofs
def agOn (n : Nat) (x y : List Int) (l : Int) : Prop := ∀ k : Nat, k < 5 → hasB l (k : Nat) = true → k < n ∧ x.getD k 0 = y.getD k 0
theorem agOn.symm {n : Nat} {x y : List Int} {l : Int} (h : agOn n x y l) : agOn n y x l := fun k hk hb => ⟨(h k hk hb).1, (h k hk hb).2.symm⟩
theorem eqc0 {a b : Int} : eqc 0 a b = (a == b) := by simp [eqc, modeOK]
theorem ins_ag {n : Nat} (hn : n ≤ 5) {a b : List Int} {l : Int} (hl : R5 l) : insB l (agL 0 a b n) = true ↔ agOn n a b l := by
 have h := (@agL_all 0 a b n hn).2
 have hR : R5 (agL 0 a b n) := agL_range hn
 rw [insB_iff hl hR]
 constructor
 ·intro h1 k hk hb
  have := h1 ⟨k, hk⟩ hb
  dsimp only at this
  rw [h k hk, Bool.and_eq_true, decide_eq_true_eq, eqc0, beq_iff_eq] at this
  exact this
 ·intro h1 c hb
  have := h1 c.val c.isLt hb
  rw [h c.val c.isLt, Bool.and_eq_true, decide_eq_true_eq, eqc0, beq_iff_eq]
  exact this
theorem bad_iff {n : Nat} (hn : n ≤ 5) {a b : List Int} {l r : Int} (hl : R5 l) (hr : 0 ≤ r ∧ r < n) : badS (agL 0 a b n) l r = true ↔ agOn n a b l ∧ a.getD r.toNat 0 ≠ b.getD r.toNat 0 := by
 have hR : R5 (agL 0 a b n) := agL_range hn
 have h := (@agL_all 0 a b n hn).2 r.toNat (by omega)
 rw [show ((r.toNat : Nat) : Int) = r by omega, decide_eq_true (by omega), Bool.true_and, eqc0] at h
 rw [← bad_eq hR hl ⟨by omega, by omega⟩]
 unfold badI
 rw [Bool.and_eq_true, h, ← ins_ag hn hl]
 simp [insB]
def satD (n : Nat) (rs : List (List Int)) (d : Int × Int) : Prop := ∀ x ∈ rs, ∀ y ∈ rs, agOn n x y d.1 → x.getD d.2.toNat 0 = y.getD d.2.toNat 0
theorem csFind_some {n : Int} {rs y : List (List Int)} : ∀ {ds : List (Int × Int)}, csFind n rs ds = some y → ∃ d ∈ ds, ∃ a b, wtO n rs 0 d.1 d.2 = some (a, b) ∧ y = rs.map (mergeC d.2.toNat ((rs.getD a []).getD d.2.toNat 0) ((rs.getD b []).getD d.2.toNat 0))
 | [], h => by simp [csFind] at h
 | d :: ds, h => by
  rw [csFind] at h
  split at h
  ·rename_i a b hw
   simp only [Option.some.injEq] at h
   exact ⟨d, by simp, a, b, hw, h.symm⟩
  ·obtain ⟨e, he, q⟩ := csFind_some h
   exact ⟨e, by simp [he], q⟩
theorem csFind_no {n : Int} {rs : List (List Int)} : ∀ {ds : List (Int × Int)}, csFind n rs ds = none → ∀ d ∈ ds, wtO n rs 0 d.1 d.2 = none
 | [], _, d, hd => by cases hd
 | e :: ds, h, d, hd => by
  rw [csFind] at h
  split at h
  ·cases h
  ·rename_i hw
   rcases List.mem_cons.1 hd with rfl | hd
   ·exact hw
   ·exact csFind_no h d hd
theorem csStep_some {n : Int} {ds : List (Int × Int)} {rs y : List (List Int)} (h : csStep n ds rs = some y) : ∃ c : Nat, n = c ∧ c ≤ 5 ∧ ∃ d ∈ ds, (R5 d.1 ∧ 0 ≤ d.2 ∧ d.2 < c) ∧ ∃ u ∈ rs, ∃ w ∈ rs, agOn c u w d.1 ∧ y = rs.map (mergeC d.2.toNat (u.getD d.2.toNat 0) (w.getD d.2.toNat 0)) := by
 unfold csStep at h
 split at h
 ·rename_i hg
  obtain ⟨c, rfl, c1, c5, r40, d20, hl, hl2, hd⟩ := rows_facts hg
  obtain ⟨d, hd', a, b, hw, rfl⟩ := csFind_some h
  obtain ⟨q1, q2⟩ := wtO_lt hw
  have hb := dpI_bad hw
  obtain ⟨i, hi, ei⟩ := List.mem_iff_getElem.1 hd'
  have gi : ds.getD i (0, 0) = d := by rw [List.getD_eq_getElem?_getD, List.getElem?_eq_getElem hi]; exact ei
  have hk := hd i hi
  rw [gi] at hk
  obtain ⟨k1, k2, k3⟩ := hk
  have hR : R5 d.1 := by
   simp only [askOK, depOK, Bool.and_eq_true] at k1
   have := isAttr_le k1.2.1.2
   exact ⟨this.2.2.1, this.2.2.2⟩
  refine ⟨c, rfl, c5, d, hd', ⟨hR, k2, k3⟩, _, getD_mem q1 [], _, getD_mem q2 [], ?_, rfl⟩
  rw [Int.toNat_natCast] at hb
  exact ((bad_iff c5 hR ⟨k2, k3⟩).1 hb).1
 ·cases h
theorem mergeC_get {c : Nat} {a b : Int} {r : List Int} {k : Nat} : (mergeC c a b r).getD k 0 = r.getD k 0 ∨ (k = c ∧ r.getD c 0 = max a b ∧ (mergeC c a b r).getD k 0 = min a b) := by
 unfold mergeC
 split
 ·rename_i h
  rw [getD_setI]
  split
  ·rename_i h2
   exact .inr ⟨h2.1.symm, h, rfl⟩
  ·exact .inl rfl
 ·exact .inl rfl
theorem chN_end {n : Int} {ds : List (Int × Int)} : ∀ {k : Nat} {rs : List (List Int)}, muC rs ≤ k → csStep n ds (chN n ds k rs) = none
 | 0, rs, h => by
  rw [chN]
  cases e : csStep n ds rs with
  | none => rfl
  | some y => have := csStep_mu e; omega
 | k + 1, rs, h => by
  rw [chN]
  cases e : csStep n ds rs with
  | none => exact e
  | some y => have := csStep_mu e; exact chN_end (by omega)
theorem chN_keep {n : Int} {ds : List (Int × Int)} {P : List (List Int) → Prop} (hs : ∀ rs y, P rs → csStep n ds rs = some y → P y) : ∀ {k : Nat} {rs : List (List Int)}, P rs → P (chN n ds k rs)
 | 0, rs, h => h
 | k + 1, rs, h => by
  rw [chN]
  cases e : csStep n ds rs with
  | none => exact h
  | some y => exact chN_keep hs (hs rs y h e)
def rowsP (n : Nat) (rs : List (List Int)) : Prop := rs.length ≤ 10 ∧ ∀ r ∈ rs, r.length = n ∧ ∀ k : Nat, 0 ≤ r.getD k 0 ∧ r.getD k 0 ≤ 10
theorem chF_rowsP {n : Nat} {ds : List (Int × Int)} {ps : List Int} (hp : partsOK n ps = true) : rowsP n (chF n ds ps) := by
 have h0 := parts_facts hp
 unfold chF
 refine chN_keep (P := rowsP n) (fun rs y ⟨h1, h2⟩ hs => ?_) ?_
 ·obtain ⟨c, _, _, d, hd, _, u, hu, w, hw, _, rfl⟩ := csStep_some hs
  refine ⟨by simpa using h1, fun r hr => ?_⟩
  obtain ⟨q, hq, rfl⟩ := List.mem_map.1 hr
  refine ⟨by rw [mergeC_length]; exact (h2 q hq).1, fun k => ?_⟩
  have g1 := (h2 q hq).2 k
  have g2 := (h2 u hu).2 d.2.toNat
  have g3 := (h2 w hw).2 d.2.toNat
  rcases @mergeC_get d.2.toNat (u.getD d.2.toNat 0) (w.getD d.2.toNat 0) q k with e | ⟨_, _, e⟩
  ·rw [e]; exact g1
  ·rw [e]; omega
 ·unfold csF
  rw [if_pos hp, Int.toNat_natCast]
  refine ⟨by rw [csGo_length]; omega, fun r hr => ⟨csGo_lens r hr, fun k => ?_⟩⟩
  have := csF_vals (Int.le_refl 0) r hr k
  omega
theorem rowsP_ok {n : Nat} {rs : List (List Int)} (h : rowsP n rs) : rowsOK n rs = true := by
 obtain ⟨h1, h2⟩ := h
 have hv : ∀ r ∈ rs, ∀ v ∈ r, 0 ≤ v ∧ v ≤ 10 := fun r hr v hv => by
  obtain ⟨i, hi, e⟩ := List.mem_iff_getElem.1 hv
  have := (h2 r hr).2 i
  rw [List.getD_eq_getElem?_getD, List.getElem?_eq_getElem hi, Option.getD_some, e] at this
  exact this
 simp only [rowsOK, rowG, rowOK, Bool.and_eq_true, List.all_eq_true, decide_eq_true_eq, inB_iff, Bool.not_eq_true', List.contains_eq_mem, decide_eq_false_iff_not]
 refine ⟨fun r hr => ⟨⟨fun v hv' => by have := hv r hr v hv'; omega, by have := (h2 r hr).1; omega⟩, fun hm => by have := hv r hr _ hm; omega⟩, by omega⟩
theorem rowsP_tab {n : Nat} {rs : List (List Int)} (hn : 1 ≤ n ∧ n ≤ 5) (h : rowsP n rs) : tabOK n rs = true := by
 obtain ⟨h1, h2⟩ := h
 simp only [tabOK, rowOK, Bool.and_eq_true, List.all_eq_true, decide_eq_true_eq, inB_iff]
 refine ⟨fun r hr => ⟨fun v hv => ?_, by have := (h2 r hr).1; omega⟩, by omega, by omega⟩
 obtain ⟨i, hi, e⟩ := List.mem_iff_getElem.1 hv
 have := (h2 r hr).2 i
 rw [List.getD_eq_getElem?_getD, List.getElem?_eq_getElem hi, Option.getD_some, e] at this
 omega
structure DpP (n : Nat) (ds : List (Int × Int)) : Prop where
  n5 : 1 ≤ n ∧ n ≤ 5
  few : ds.length ≤ 20
  R : ∀ d ∈ ds, R5 d.1 ∧ 0 ≤ d.2 ∧ d.2 < n
  lim : ∀ d ∈ ds, ∀ k : Nat, k < 5 → hasB d.1 (k : Nat) = true → k < n
  ok : ∀ d ∈ ds, depOK n d.1 d.2 = true
theorem dpP_of {c : Int} {ds : List (Int × Int)} (h : depsOK c ds = true) : ∃ n : Nat, c = n ∧ DpP n ds := by
 simp only [depsOK, Bool.and_eq_true, inB_iff, decide_eq_true_eq, List.all_eq_true] at h
 obtain ⟨h1, ⟨h2, h3⟩, h4⟩ := h
 obtain ⟨n, rfl⟩ := Int.eq_ofNat_of_zero_le (show 0 ≤ c by omega)
 have hat : ∀ d ∈ ds, isAttr (n : Nat) d.1 = true ∧ 0 ≤ d.2 ∧ d.2 < n := fun d hd => by
  have := h1 d hd
  simp only [depOK, Bool.and_eq_true, inB_iff] at this
  exact ⟨this.1.2, by omega⟩
 have hR : ∀ d ∈ ds, R5 d.1 := fun d hd => by
  have := isAttr_le (hat d hd).1
  exact ⟨this.2.2.1, this.2.2.2⟩
 refine ⟨n, rfl, ⟨by omega, by omega⟩, by omega, fun d hd => ⟨hR d hd, (hat d hd).2⟩, fun d hd k hk hb => ?_, h1⟩
 exact att_bit (by omega) (hat d hd).1 hk hb
theorem chF_hd {n : Nat} {ds : List (Int × Int)} {ps : List Int} (hd : depsOK n ds = true) (hp : partsOK n ps = true) : ∀ d ∈ ds, hdB n (chF n ds ps) 0 d.1 d.2 = true := by
 have h1 : csStep n ds (chF n ds ps) = none := chN_end (by have := @muC_start n ps; omega)
 have h2 := rowsP_ok (chF_rowsP (ds := ds) hp)
 have ht := rowsP_tab (n := n) (by have := parts_facts hp; omega) (chF_rowsP (ds := ds) hp)
 unfold csStep at h1
 rw [hd, h2, Bool.and_self, if_pos rfl] at h1
 intro d hd'
 have h3 := csFind_no h1 d hd'
 have h4 : depOK n d.1 d.2 = true := by
  simp only [depsOK, Bool.and_eq_true, List.all_eq_true] at hd
  exact hd.1 d hd'
 unfold hdB askOK
 rw [h3, ht, h4]
 rfl
theorem csGo_mem {n : Nat} {y : List Int} : ∀ {ps : List Int} {i : Int}, y ∈ csGo n ps i ↔ ∃ j, j < ps.length ∧ y = csRow n (ps.getD j 0) (i + j + 1)
 | [], i => by simp [csGo]
 | p :: ps, i => by
  rw [csGo, List.mem_cons, csGo_mem]
  constructor
  ·rintro (rfl | ⟨j, hj, rfl⟩)
   ·exact ⟨0, by simp, by simp⟩
   ·exact ⟨j + 1, by simpa using hj, by rw [show i + 1 + (j : Int) + 1 = i + ((j + 1 : Nat) : Int) + 1 by omega]; rfl⟩
  ·rintro ⟨j, hj, rfl⟩
   cases j with
   | zero => left; simp
   | succ j => right; exact ⟨j, by simpa using hj, by rw [show i + 1 + (j : Int) + 1 = i + ((j + 1 : Nat) : Int) + 1 by omega]; rfl⟩
theorem csRow_get {n k : Nat} {x v : Int} (hk : k < n) : (csRow n x v).getD k 0 = if hasB x (k : Nat) then 0 else v := by
 simp [csRow, List.getD_eq_getElem?_getD, hk]
def zeroOn (r : List Int) (p : Int) : Prop := ∀ k : Nat, k < 5 → hasB p (k : Nat) = true → r.getD k 0 = 0
theorem chF_zero {n : Nat} {ds : List (Int × Int)} {ps : List Int} (hp : partsOK n ps = true) : ∀ p ∈ ps, ∃ r ∈ chF n ds ps, zeroOn r p := by
 obtain ⟨n', e, hP⟩ := ptP_of hp
 have e : n = n' := by omega
 subst e
 have key : rowsP n (chF n ds ps) ∧ ∀ p ∈ ps, ∃ r ∈ chF n ds ps, zeroOn r p := by
  refine ⟨chF_rowsP hp, ?_⟩
  unfold chF
  have hv0 : ∀ r ∈ csF n ps, ∀ k : Nat, 0 ≤ r.getD k 0 := fun r hr k => by
   unfold csF at hr
   rw [if_pos hp] at hr
   exact (csF_vals (Int.le_refl 0) r hr k).1
  have := chN_keep (n := n) (ds := ds) (P := fun rs => (∀ r ∈ rs, ∀ k : Nat, 0 ≤ r.getD k 0) ∧ ∀ p ∈ ps, ∃ r ∈ rs, zeroOn r p) (fun rs y ⟨h1, h2⟩ hs => ?_) (k := 200) (rs := csF n ps) ⟨hv0, fun p hp' => ?_⟩
  ·exact this.2
  ·obtain ⟨c, _, _, d, hd, _, u, hu, w, hw, _, rfl⟩ := csStep_some hs
   have g2 := h1 u hu d.2.toNat
   have g3 := h1 w hw d.2.toNat
   refine ⟨fun r hr k => ?_, fun p hp' => ?_⟩
   ·obtain ⟨q, hq, rfl⟩ := List.mem_map.1 hr
    have g1 := h1 q hq k
    rcases @mergeC_get d.2.toNat (u.getD d.2.toNat 0) (w.getD d.2.toNat 0) q k with e | ⟨_, _, e⟩
    ·rw [e]; exact g1
    ·rw [e]; omega
   ·obtain ⟨r, hr, hz⟩ := h2 p hp'
    refine ⟨_, List.mem_map.2 ⟨r, hr, rfl⟩, fun k hk hb => ?_⟩
    have g1 := hz k hk hb
    rcases @mergeC_get d.2.toNat (u.getD d.2.toNat 0) (w.getD d.2.toNat 0) r k with e | ⟨ek, e1, e⟩
    ·rw [e]; exact g1
    ·rw [e]; rw [ek] at g1; omega
  ·obtain ⟨j, hj, ej⟩ := List.mem_iff_getElem.1 hp'
   have gj : ps.getD j 0 = p := by rw [List.getD_eq_getElem?_getD, List.getElem?_eq_getElem hj]; exact ej
   refine ⟨csRow n p (0 + j + 1), ?_, fun k hk hb => ?_⟩
   ·unfold csF
    rw [if_pos hp, Int.toNat_natCast]
    exact csGo_mem.2 ⟨j, hj, by rw [gj]⟩
   ·have hkn := hP.lim p hp' k hk hb
    rw [csRow_get hkn, if_pos hb]
 exact key.2
theorem chase_hom {n : Nat} {ds : List (Int × Int)} {ps : List Int} {T : List (List Int)} {z : List Int} (hd : depsOK n ds = true) (hp : partsOK n ps = true) (hsat : ∀ d ∈ ds, satD n T d) (hT : ∀ t ∈ T, t.length = n) (hz : z.length = n) (hfit : ∀ q ∈ ps, fitsOn T z q) (h0 : zeroR n ∈ chF n ds ps) : z ∈ T := by
 obtain ⟨n', e, hP⟩ := ptP_of hp
 have e : n = n' := by omega
 subst e
 let f : Nat → List Int := fun i => if h : i < ps.length then Classical.choose (hfit _ (getD_mem h 0)) else []
 have hf : ∀ i, i < ps.length → f i ∈ T ∧ ∀ k : Nat, (k : Int) ∈ mem (ps.getD i 0) → z.getD k 0 = (f i).getD k 0 := fun i hi => by
  have := Classical.choose_spec (hfit _ (getD_mem hi 0))
  simp only [f, dif_pos hi]
  exact this
 let H : Nat → Int → Int := fun k v => if v = 0 then z.getD k 0 else (f (v - 1).toNat).getD k 0
 have key : ∀ y ∈ chF n ds ps, ∃ t ∈ T, ∀ k, k < n → H k (y.getD k 0) = t.getD k 0 := by
  unfold chF
  refine chN_keep (P := fun rs => ∀ y ∈ rs, ∃ t ∈ T, ∀ k, k < n → H k (y.getD k 0) = t.getD k 0) (fun rs y h hs => ?_) ?_
  ·obtain ⟨c, ec, c5, d, hd', ⟨dR, d0, dn⟩, u, hu, w, hw, hag, rfl⟩ := csStep_some hs
   have ec : n = c := by omega
   subst ec
   obtain ⟨tu, htu, fu⟩ := h u hu
   obtain ⟨tw, htw, fw⟩ := h w hw
   have hcn : d.2.toNat < n := by omega
   have heq : H d.2.toNat (u.getD d.2.toNat 0) = H d.2.toNat (w.getD d.2.toNat 0) := by
    rw [fu _ hcn, fw _ hcn]
    refine hsat d hd' tu htu tw htw fun k hk hb => ?_
    obtain ⟨a1, a2⟩ := hag k hk hb
    exact ⟨a1, by rw [← fu k a1, ← fw k a1, a2]⟩
   intro r hr
   obtain ⟨q, hq, rfl⟩ := List.mem_map.1 hr
   obtain ⟨t, ht, ft⟩ := h q hq
   refine ⟨t, ht, fun k hk => ?_⟩
   rcases @mergeC_get d.2.toNat (u.getD d.2.toNat 0) (w.getD d.2.toNat 0) q k with e | ⟨ek, e1, e⟩
   ·rw [e]; exact ft k hk
   ·rw [e, ← ft k hk, ek, e1]
    rcases Int.le_total (u.getD d.2.toNat 0) (w.getD d.2.toNat 0) with hle | hle
    ·rw [Int.min_eq_left hle, Int.max_eq_right hle]; exact heq
    ·rw [Int.min_eq_right hle, Int.max_eq_left hle]; exact heq.symm
  ·intro y hy
   unfold csF at hy
   rw [if_pos hp, Int.toNat_natCast, csGo_mem] at hy
   obtain ⟨j, hj, rfl⟩ := hy
   obtain ⟨f1, f2⟩ := hf j hj
   refine ⟨f j, f1, fun k hk => ?_⟩
   rw [csRow_get hk]
   have hR := hP.R _ (getD_mem hj 0)
   cases hb : hasB (ps.getD j 0) (k : Nat)
   ·rw [if_neg (by decide)]
    simp only [H]
    rw [if_neg (by omega), show ((0 : Int) + j + 1 - 1).toNat = j by omega]
   ·rw [if_pos rfl]
    simp only [H, if_pos]
    exact f2 k ((mem_iff hR).2 ⟨by have := hP.n5; omega, hb⟩)
 obtain ⟨t, ht, ft⟩ := key _ h0
 have e : z = t := ext_getD (by rw [hz, hT t ht]) fun k => by
  by_cases hk : k < n
  ·have := ft k hk
   have e0 : (zeroR n).getD k 0 = 0 := by simp [zeroR, List.getD_eq_getElem?_getD, hk]
   rw [e0] at this
   simpa [H] using this
  ·have := hT t ht
   simp only [List.getD_eq_getElem?_getD]
   rw [List.getElem?_eq_none (by omega), List.getElem?_eq_none (by omega)]
 rw [e]; exact ht
theorem loB_iff {n : Nat} {ds : List (Int × Int)} {ps : List Int} (hd : depsOK n ds = true) (hp : partsOK n ps = true) : loB n ds ps = true ↔ zeroR n ∈ chF n ds ps := by
 unfold loB
 rw [hd, hp, Int.toNat_natCast]
 simp only [Bool.true_and, List.any_eq_true, beq_iff_eq]
 constructor
 ·rintro ⟨r, hr, rfl⟩; exact hr
 ·intro h; exact ⟨_, h, rfl⟩
end Go.Own
