/-
  Plain law: what a cover is. Conditions: as each theorem states them.
-/
import Derived.Test.YtjembhkhgahhiaaGreatOwnT2
import Derived.Test.YtjembhkhgahhiaaGreatOwnT5
import Derived.Test.YtjembhkhgahhiaaGreatOwnT4
import Derived.Test.YtjembhkhgahhiaaGreatOwnTb
import Derived.Test.YtjembhkhgahhiaaGreatOwnG4
import Derived.Test.YtjembhkhgahhiaaGreatOwnT6
set_option linter.unusedSimpArgs false
set_option linter.unusedVariables false
namespace Go.Own
open Go Go.Proofs
theorem clo_same {A B : List (Int × Int)} {x : Int} (hA : ∀ d ∈ A, depR d) (hB : ∀ d ∈ B, depR d) (h : ∀ y, R5 y → (closedB A y ↔ closedB B y)) (hx : R5 x) : clo A x = clo B x :=
 leB_antisymm (clo_R hA hx) (clo_R hB hx) (clo_under hA hx (clo_R hB hx) (clo_le hB hx) ((h _ (clo_R hB hx)).2 (clo_closed hB hx))) (clo_under hB hx (clo_R hA hx) (clo_le hA hx) ((h _ (clo_R hA hx)).1 (clo_closed hA hx)))
theorem clo_mono {A B : List (Int × Int)} {x : Int} (hA : ∀ d ∈ A, depR d) (hB : ∀ d ∈ B, depR d) (h : ∀ d ∈ A, d ∈ B) (hx : R5 x) : leB (clo A x) (clo B x) :=
 clo_under hA hx (clo_R hB hx) (clo_le hB hx) fun d hd hi => clo_closed hB hx d (h d hd) hi
theorem clo_left {A : List (Int × Int)} {x y : Int} (hA : ∀ d ∈ A, depR d) (hx : R5 x) (hy : R5 y) (h : leB x y) : leB (clo A x) (clo A y) :=
 clo_under hA hx (clo_R hA hy) (h.trans (clo_le hA hy)) (clo_closed hA hy)
theorem del_leB {x c : Int} (hx : R5 x) (hc : 0 ≤ c ∧ c ≤ 4) : leB (delB x c) x := fun k h => by
 rw [del_has hx hc ⟨by omega, by omega⟩, Bool.and_eq_true] at h
 exact h.1
theorem del_mono {x y c : Int} (hx : R5 x) (hy : R5 y) (hc : 0 ≤ c ∧ c ≤ 4) (h : leB x y) : leB (delB x c) (delB y c) := fun k hk => by
 rw [del_has hx hc ⟨by omega, by omega⟩, Bool.and_eq_true] at hk
 rw [del_has hy hc ⟨by omega, by omega⟩, h k hk.1, hk.2]; rfl
theorem redN_low {ds : List (Int × Int)} {r x : Int} (hd : ∀ d ∈ ds, depR d) (hr : 0 ≤ r ∧ r ≤ 4) (hx : R5 x) (hi : hasB (clo ds x) r = true) : ∀ {k : Nat}, k ≤ 5 → leB (redN ds r x k) x ∧ hasB (clo ds (redN ds r x k)) r = true ∧ ∀ i : Nat, i < k → hasB (redN ds r x k) (i : Nat) = true → hasB (clo ds (delB (redN ds r x k) (i : Nat))) r = false
 | 0, _ => ⟨leB.refl _, hi, fun i h => by omega⟩
 | k + 1, h => by
  obtain ⟨h1, h2, h3⟩ := redN_low hd hr hx hi (k := k) (by omega)
  have hR := (redN_facts (ds := ds) (r := r) hx (k := k) (by omega)).1
  have hk : 0 ≤ ((k : Nat) : Int) ∧ ((k : Nat) : Int) ≤ 4 := ⟨by omega, by omega⟩
  rw [redN]
  unfold red1
  generalize redN ds r x k = y at h1 h2 h3 hR ⊢
  split
  ·rename_i hc
   rw [Bool.and_eq_true] at hc
   have hyR := del_R hR hk
   refine ⟨(del_leB hR hk).trans h1, hc.2, fun i hi hb => ?_⟩
   rw [del_has hR hk ⟨by omega, by omega⟩, Bool.and_eq_true] at hb
   have hne : i ≠ k := fun e => by rw [e] at hb; simp at hb
   have hi4 : 0 ≤ ((i : Nat) : Int) ∧ ((i : Nat) : Int) ≤ 4 := ⟨by omega, by omega⟩
   have q := h3 i (by omega) hb.1
   rw [← Bool.not_eq_true] at q ⊢
   exact fun hh => q (has_le hr (clo_left hd (del_R hyR hi4) (del_R hR hi4) (del_mono hyR hR hi4 (del_leB hR hk))) hh)
  ·rename_i hc
   refine ⟨h1, h2, fun i hi hb => ?_⟩
   by_cases e : i = k
   ·subst e
    rw [hb, Bool.true_and] at hc
    simpa using hc
   ·exact h3 i (by omega) hb
theorem wo_get {C : List (Int × Int)} {i k : Nat} (h : i < C.length) : (wo C i).getD k (0, 0) = if k < i then C.getD k (0, 0) else C.getD (k + 1) (0, 0) := by
 unfold wo
 simp only [List.getD_eq_getElem?_getD]
 have hl : (C.take i).length = i := by rw [List.length_take]; omega
 split
 ·rw [List.getElem?_append_left (by omega), List.getElem?_take_of_lt (by assumption)]
 ·rw [List.getElem?_append_right (by omega), hl, List.getElem?_drop]
  congr 2; omega
theorem wo_iff {C : List (Int × Int)} {i : Nat} (h : i < C.length) {d : Int × Int} : d ∈ wo C i ↔ ∃ k, k < C.length ∧ k ≠ i ∧ C.getD k (0, 0) = d := by
 have hw := wo_length h
 constructor
 ·intro hd
  obtain ⟨k, hk, e⟩ := List.mem_iff_getElem.1 hd
  have g : (wo C i).getD k (0, 0) = d := by rw [List.getD_eq_getElem?_getD, List.getElem?_eq_getElem hk]; exact e
  rw [wo_get h] at g
  split at g
  ·exact ⟨k, by omega, by omega, g⟩
  ·exact ⟨k + 1, by omega, by omega, g⟩
 ·rintro ⟨k, hk, hne, rfl⟩
  by_cases hki : k < i
  ·have g := wo_get (k := k) h
   rw [if_pos hki] at g
   rw [← g]; exact getD_mem (by omega) _
  ·have g := wo_get (k := k - 1) h
   rw [if_neg (by omega), show k - 1 + 1 = k by omega] at g
   rw [← g]; exact getD_mem (by omega) _
theorem wo_other {C : List (Int × Int)} {i : Nat} (h : i < C.length) {d : Int × Int} (hd : d ∈ C) (hne : d ≠ C.getD i (0, 0)) : d ∈ wo C i := by
 obtain ⟨k, hk, e⟩ := List.mem_iff_getElem.1 hd
 have g : C.getD k (0, 0) = d := by rw [List.getD_eq_getElem?_getD, List.getElem?_eq_getElem hk]; exact e
 exact (wo_iff h).2 ⟨k, hk, fun e => hne (by rw [← g, e]), g⟩
def nonR (C : List (Int × Int)) (j : Nat) : Prop := hasB (clo (wo C j) (C.getD j (0, 0)).1) (C.getD j (0, 0)).2 = false
theorem covN_non : ∀ {f : Nat} {C : List (Int × Int)} {i : Nat}, (∀ d ∈ C, depR d) → i + f = C.length → (∀ j, j < i → nonR C j) → (∀ y, R5 y → (closedB (covN f C i) y ↔ closedB C y)) ∧ ∀ j, j < (covN f C i).length → nonR (covN f C i) j
 | 0, C, i, _, h, hn => ⟨fun _ _ => Iff.rfl, fun j hj => hn j (by rw [covN] at hj; omega)⟩
 | f + 1, C, i, hR, h, hn => by
  have hi : i < C.length := by omega
  have hm := hR _ (getD_mem hi (0, 0))
  have hRw : ∀ d ∈ wo C i, depR d := fun d hd => hR d (wo_mem d hd)
  have hwl := wo_length hi
  rw [covN]
  split
  ·rename_i hred
   obtain ⟨q1, q2⟩ := covN_non (f := f) (C := wo C i) (i := i) hRw (by omega) fun j hj => by
    have hjw : j < (wo C i).length := by omega
    have g := wo_get (k := j) hi
    rw [if_pos hj] at g
    have hjR := hR _ (getD_mem (show j < C.length by omega) (0, 0))
    unfold nonR
    rw [g, ← Bool.not_eq_true]
    intro hh
    have := hn j hj
    unfold nonR at this
    rw [← Bool.not_eq_true] at this
    refine this (has_le hjR.2 (clo_mono (fun d hd => hRw d (wo_mem d hd)) (fun d hd => hR d (wo_mem d hd)) (fun d hd => ?_) hjR.1) hh)
    obtain ⟨k, hk, hne, e⟩ := (wo_iff hjw).1 hd
    rw [wo_get hi] at e
    split at e
    ·exact (wo_iff (by omega)).2 ⟨k, by omega, hne, e⟩
    ·exact (wo_iff (by omega)).2 ⟨k + 1, by omega, by omega, e⟩
   refine ⟨fun y hy => (q1 y hy).trans ⟨fun hc d hd hdi => ?_, fun hc d hd hdi => hc d (wo_mem d hd) hdi⟩, q2⟩
   by_cases e : d = C.getD i (0, 0)
   ·subst e
    refine has_le hm.2 (clo_under hRw hm.1 hy ((insB_iff hm.1 hy).1 hdi) hc) hred
   ·exact hc d (wo_other hi hd e) hdi
  ·rename_i hred
   refine covN_non (f := f) (C := C) (i := i + 1) hR (by omega) fun j hj => ?_
   by_cases e : j = i
   ·subst e; unfold nonR; simpa using hred
   ·exact hn j (by omega)
theorem covA_mem {n : Int} {ds : List (Int × Int)} {d : Int × Int} : ∀ {l acc : List (Int × Int)}, d ∈ l.foldl (covS n ds) acc ↔ d ∈ acc ∨ ∃ e ∈ l, d = redD n ds e
 | [], acc => by simp
 | x :: l, acc => by
  rw [List.foldl_cons, covA_mem]
  have hs : d ∈ covS n ds acc x ↔ d ∈ acc ∨ d = redD n ds x := by
   unfold covS
   split
   ·rename_i h
    rw [List.any_eq_true] at h
    obtain ⟨e, he, hb⟩ := h
    rw [beq_iff_eq] at hb
    constructor
    ·exact .inl
    ·rintro (h | h)
     ·exact h
     ·rw [h, ← hb]; exact he
   ·rw [List.mem_append, List.mem_singleton]
  rw [hs]
  constructor
  ·rintro ((h | h) | ⟨e, he, h⟩)
   ·exact .inl h
   ·exact .inr ⟨x, by simp, h⟩
   ·exact .inr ⟨e, by simp [he], h⟩
  ·rintro (h | ⟨e, he, h⟩)
   ·exact .inl (.inl h)
   ·rcases List.mem_cons.1 he with rfl | he
    ·exact .inl (.inr h)
    ·exact .inr ⟨e, he, h⟩
structure CovP (n : Nat) (ds C : List (Int × Int)) : Prop where
  R : ∀ d ∈ C, depR d
  ok : ∀ d ∈ C, depOK n d.1 d.2 = true
  same : ∀ y, R5 y → (closedB C y ↔ closedB ds y)
  low : ∀ d ∈ C, ∀ i : Nat, i < 5 → hasB d.1 (i : Nat) = true → hasB (clo ds (delB d.1 (i : Nat))) d.2 = false
  non : ∀ j, j < C.length → nonR C j
theorem CovP.clo {n : Nat} {ds C : List (Int × Int)} (h : CovP n ds C) (hd : ∀ d ∈ ds, depR d) {x : Int} (hx : R5 x) : clo C x = clo ds x := clo_same h.R hd h.same hx
theorem covP_of {n : Nat} {ds : List (Int × Int)} (h : depsOK n ds = true) : CovP n ds (covF n ds) := by
 have hd := depsOK_R h
 have hok := (@covF_facts n ds).1
 have hR : ∀ d ∈ covF n ds, depR d := fun d hd' => depOK_R (hok d hd')
 have e : covF n ds = covN (covA n ds ds).length (covA n ds ds) 0 := by unfold covF; rw [h, if_pos rfl]
 have hd0 : ∀ d ∈ ds, depOK n d.1 d.2 = true := by
  simp only [depsOK, Bool.and_eq_true, List.all_eq_true] at h
  exact h.1
 have himp : ∀ d ∈ ds, hasB (Go.Own.clo ds d.1) d.2 = true := fun d hd' => clo_closed hd (hd d hd').1 d hd' ((insB_iff (hd d hd').1 (clo_R hd (hd d hd').1)).2 (clo_le hd (hd d hd').1))
 have hred : ∀ d ∈ ds, redD n ds d = (redN ds d.2 d.1 5, d.2) := fun d hd' => by
  unfold redD
  rw [if_pos]
  unfold impB
  rw [h, hd0 d hd', himp d hd']; rfl
 have hA : ∀ x, x ∈ covA n ds ds ↔ ∃ d ∈ ds, x = (redN ds d.2 d.1 5, d.2) := fun x => by
  unfold covA
  rw [covA_mem]
  constructor
  ·rintro (h | ⟨d, hd', h⟩)
   ·cases h
   ·exact ⟨d, hd', by rw [h, hred d hd']⟩
  ·rintro ⟨d, hd', h⟩
   exact .inr ⟨d, hd', by rw [h, hred d hd']⟩
 have hAR : ∀ x ∈ covA n ds ds, depR x := fun x hx => by
  obtain ⟨d, hd', rfl⟩ := (hA x).1 hx
  exact ⟨(redN_facts (hd d hd').1 (k := 5) (by omega)).1, (hd d hd').2⟩
 obtain ⟨q1, q2⟩ := covN_non (f := (covA n ds ds).length) (C := covA n ds ds) (i := 0) hAR (by omega) fun j hj => by omega
 have hsub := (@covN_facts (covA n ds ds).length (covA n ds ds) 0).1
 rw [← e] at q1 q2 hsub
 refine ⟨hR, hok, fun y hy => (q1 y hy).trans ⟨fun hc d hd' hdi => ?_, fun hc x hx hxi => ?_⟩, fun x hx i hi hb => ?_, q2⟩
 ·obtain ⟨l1, l2, l3⟩ := redN_low hd (hd d hd').2 (hd d hd').1 (himp d hd') (k := 5) (by omega)
  refine hc (redN ds d.2 d.1 5, d.2) ((hA _).2 ⟨d, hd', rfl⟩) ?_
  exact (insB_iff (redN_facts (hd d hd').1 (k := 5) (by omega)).1 hy).2 (l1.trans ((insB_iff (hd d hd').1 hy).1 hdi))
 ·obtain ⟨d, hd', rfl⟩ := (hA x).1 hx
  obtain ⟨l1, l2, l3⟩ := redN_low hd (hd d hd').2 (hd d hd').1 (himp d hd') (k := 5) (by omega)
  have hRR := (redN_facts (ds := ds) (r := d.2) (hd d hd').1 (k := 5) (by omega)).1
  exact has_le (hd d hd').2 (clo_under hd hRR hy ((insB_iff hRR hy).1 hxi) hc) l2
 ·obtain ⟨d, hd', rfl⟩ := (hA x).1 (hsub x hx)
  obtain ⟨l1, l2, l3⟩ := redN_low hd (hd d hd').2 (hd d hd').1 (himp d hd') (k := 5) (by omega)
  exact l3 i hi hb
end Go.Own
/-
  Plain law: what greatest sets are; parts; when parts are lossless. Conditions: as each theorem states them.
-/
namespace Go.Own
open Go Go.Proofs
def chL : List Nat := [0, 0, 1, 0, 2, 2, 1, 0, 3, 3, 4, 3, 5, 2, 1, 0, 6, 6, 7, 6, 8, 8, 7, 6, 9, 9, 4, 3, 5, 2, 1, 0]
theorem ch_key : ∀ x y : Fin 32, chL.getD x.val 0 = chL.getD y.val 0 → insB ((x.val : Nat) : Int) ((y.val : Nat) : Int) = true ∨ insB ((y.val : Nat) : Int) ((x.val : Nat) : Int) = true := by decide +kernel
theorem ch_lt : ∀ x : Fin 32, chL.getD x.val 0 < 10 := by decide +kernel
theorem nodup_leN {α : Type} [DecidableEq α] : ∀ {l m : List α}, l.Nodup → (∀ x ∈ l, x ∈ m) → l.length ≤ m.length
 | [], m, _, _ => by simp
 | a :: l, m, h, hm => by
  have h' := List.nodup_cons.1 h
  have ha := hm a (by simp)
  have := nodup_leN (m := m.erase a) h'.2 fun x hx => (List.mem_erase_of_ne (by rintro rfl; exact h'.1 hx)).2 (hm x (by simp [hx]))
  rw [List.length_erase_of_mem ha] at this
  have : 0 < m.length := List.length_pos_of_mem ha
  rw [List.length_cons]; omega
theorem anti_len {l : List Int} (hR : ∀ x ∈ l, R5 x) (hn : l.Nodup) (ha : ∀ x ∈ l, ∀ y ∈ l, insB x y = true → x = y) : l.length ≤ 10 := by
 have h1 : (l.map fun x => chL.getD x.toNat 0).Nodup := by
  rw [List.nodup_iff_pairwise_ne, List.pairwise_map]
  rw [List.nodup_iff_pairwise_ne] at hn
  refine hn.imp_of_mem fun {x y} hx hy hne he => ?_
  have rx := hR x hx
  have ry := hR y hy
  obtain ⟨x0, x1⟩ := rx
  obtain ⟨y0, y1⟩ := ry
  have := ch_key ⟨x.toNat, by omega⟩ ⟨y.toNat, by omega⟩ he
  dsimp only at this
  rw [show ((x.toNat : Nat) : Int) = x by omega, show ((y.toNat : Nat) : Int) = y by omega] at this
  rcases this with h | h
  ·exact hne (ha x hx y hy h)
  ·exact hne (ha y hy x hx h).symm
 have h2 := nodup_leN (m := List.range 10) h1 fun c hc => by
  obtain ⟨x, hx, rfl⟩ := List.mem_map.1 hc
  obtain ⟨x0, x1⟩ := hR x hx
  exact List.mem_range.2 (ch_lt ⟨x.toNat, by omega⟩)
 simpa using h2
theorem selM_mem {l : List Int} (h : setsOK l = true) {x : Int} : x ∈ selS maxT1 l ↔ x ∈ l ∧ ∀ y ∈ l, x = y ∨ insB x y = false := by
 unfold selS
 rw [h, if_pos rfl, dstI_mem, List.mem_filter, List.all_eq_true]
 unfold maxT1
 simp only [Bool.or_eq_true, beq_iff_eq, Bool.not_eq_true']
theorem selS_sorted {t : Int → Int → Bool} {l : List Int} : (selS t l).Pairwise (· < ·) := by
 unfold selS
 split
 ·exact dstI_sorted
 ·exact .nil
theorem sorted_nodup {l : List Int} (h : l.Pairwise (· < ·)) : l.Nodup := by
 rw [List.nodup_iff_pairwise_ne]
 exact h.imp fun {x y} hxy => by omega
theorem sets_R {l : List Int} (h : setsOK l = true) : ∀ x ∈ l, R5 x := fun x hx => by
 simp only [setsOK, Bool.and_eq_true, List.all_eq_true] at h
 have := isAttr_le (h.1 x hx)
 exact ⟨this.2.2.1, this.2.2.2⟩
theorem max_above {l : List Int} (h : setsOK l = true) : ∀ {k : Nat} {x : Int}, x ∈ l → (31 - x).toNat ≤ k → ∃ y ∈ selS maxT1 l, leB x y := by
 have hR := sets_R h
 intro k
 induction k with
 | zero =>
  intro x hx hk
  refine ⟨x, (selM_mem h).2 ⟨hx, fun y hy => ?_⟩, leB.refl _⟩
  cases e : insB x y with
  | false => exact .inr rfl
  | true =>
   have q := ins_le (hR x hx) (hR y hy) e
   have q2 := (hR y hy).2
   exact .inl (by omega)
 | succ k ih =>
  intro x hx hk
  by_cases hm : ∀ y ∈ l, x = y ∨ insB x y = false
  ·exact ⟨x, (selM_mem h).2 ⟨hx, hm⟩, leB.refl _⟩
  ·have : ∃ y ∈ l, x ≠ y ∧ insB x y = true := Classical.byContradiction fun hc => hm fun y hy => by
    by_cases e : x = y
    ·exact .inl e
    ·right
     rw [← Bool.not_eq_true]
     exact fun hi => hc ⟨y, hy, e, hi⟩
   obtain ⟨y, hy, hne, hi⟩ := this
   have q := ins_le (hR x hx) (hR y hy) hi
   have q2 := (hR y hy).2
   obtain ⟨z, hz, hle⟩ := ih hy (by omega)
   exact ⟨z, hz, ((insB_iff (hR x hx) (hR y hy)).1 hi).trans hle⟩
theorem attr5 {n : Nat} {x : Int} (h : isAttr (n : Nat) x = true) : isAttr 5 x = true := by
 have h1 := isAttr_le h
 simp only [isAttr, Bool.and_eq_true, inB_iff, all2] at h ⊢
 refine ⟨by omega, h.2.1, ?_⟩
 show x ≤ 31
 omega
theorem has0 {k : Nat} (hk : k < 5) : hasB 0 (k : Nat) = false := hb_zero ⟨k, hk⟩
theorem parts_of {n : Nat} {l : List Int} (hn : 1 ≤ n ∧ n ≤ 5) (hl : l.length ≤ 100) (att : ∀ x ∈ l, isAttr (n : Nat) x = true) (ne : ∀ x ∈ l, x ≠ 0) (cov : ∀ k : Nat, k < n → ∃ x ∈ l, hasB x (k : Nat) = true) : partsOK n (selS maxT1 l) = true := by
 have hs : setsOK l = true := by
  simp only [setsOK, Bool.and_eq_true, List.all_eq_true, decide_eq_true_eq]
  exact ⟨fun x hx => attr5 (att x hx), by omega⟩
 have hR := sets_R hs
 have hm : ∀ x ∈ selS maxT1 l, x ∈ l := fun x hx => ((selM_mem hs).1 hx).1
 have hR' : ∀ x ∈ selS maxT1 l, R5 x := fun x hx => hR x (hm x hx)
 have h10 : (selS maxT1 l).length ≤ 10 := anti_len hR' (sorted_nodup selS_sorted) fun x hx y hy hi => by
  rcases ((selM_mem hs).1 hx).2 y (hm y hy) with e | e
  ·exact e
  ·rw [hi] at e; cases e
 have h1 : 1 ≤ (selS maxT1 l).length := by
  obtain ⟨x, hx, _⟩ := cov 0 (by omega)
  obtain ⟨y, hy, _⟩ := max_above hs hx (Nat.le_refl _)
  exact List.length_pos_of_mem hy
 simp only [partsOK, Bool.and_eq_true, List.all_eq_true, inB_iff, beq_iff_eq]
 refine ⟨fun x hx => ?_, ⟨by omega, by omega⟩, ?_⟩
 ·unfold partF
  rw [att x (hm x hx), beq_eq_false_iff_ne.2 (ne x (hm x hx))]; rfl
 ·have ha : R5 (orAll 0 (selS maxT1 l)) := (orAll_has (k := 0) (by omega) (by unfold R5; decide) hR').1
  have hb := (all2_has ⟨n, by omega⟩ ⟨0, by omega⟩).1
  refine leB_antisymm ha hb (fun c hc => ?_) fun c hc => ?_
  ·have h2 := (orAll_has (k := c.val) c.isLt (ps := selS maxT1 l) (a := 0) (by unfold R5; decide) hR').2.1 hc
   have h3 := (all2_has ⟨n, by omega⟩ c).2
   dsimp only at h3
   rw [h3, decide_eq_true_eq]
   rcases h2 with h2 | ⟨p, hp, h2⟩
   ·rw [has0 c.isLt] at h2; cases h2
   ·exact att_bit hn.2 (att p (hm p hp)) c.isLt h2
  ·have h3 := (all2_has ⟨n, by omega⟩ c).2
   dsimp only at h3
   rw [h3, decide_eq_true_eq] at hc
   obtain ⟨x, hx, hxb⟩ := cov c.val hc
   obtain ⟨y, hy, hle⟩ := max_above hs hx (Nat.le_refl _)
   exact (orAll_has (k := c.val) c.isLt (by unfold R5; decide) hR').2.2 (.inr ⟨y, hy, hle c hxb⟩)
theorem agree_clo {n : Nat} {ds : List (Int × Int)} {X : List (List Int)} (hD : DpP n ds) (hd : ∀ d ∈ ds, depR d) (hsat : ∀ d ∈ ds, satD n X d) {r s : List Int} (hr : r ∈ X) (hs : s ∈ X) {x : Int} (hx : R5 x) (hag : agOn n r s x) : agOn n r s (clo ds x) := by
 have hn := hD.n5.2
 have hA : R5 (agL 0 r s n) := agL_range hn
 rw [← ins_ag hn (clo_R hd hx), insB_iff (clo_R hd hx) hA]
 refine clo_under hd hx hA ((insB_iff hx hA).1 ((ins_ag hn hx).2 hag)) fun d hd' hi => ?_
 obtain ⟨dR, d0, dn⟩ := hD.R d hd'
 have h1 := hsat d hd' r hr s hs ((ins_ag hn dR).1 hi)
 have h2 := (@agL_all 0 r s n hn).2 d.2.toNat (by omega)
 rw [show ((d.2.toNat : Nat) : Int) = d.2 by omega] at h2
 rw [h2, decide_eq_true (by omega), eqc0, h1, Bool.true_and, beq_self_eq_true]
theorem lossless_of {n : Nat} {ds : List (Int × Int)} {ps : List Int} (hd : depsOK n ds = true) (hp : partsOK n ps = true) (h : ∀ X : List (List Int), (∀ d ∈ ds, satD n X d) → (∀ p ∈ ps, ∃ r ∈ X, zeroOn r p) → ∃ r ∈ X, zeroOn r (all2 n)) : loB n ds ps = true := by
 rw [loB_iff hd hp]
 obtain ⟨r, hr, hz⟩ := h _ (chF_sat hd hp) (chF_zero hp)
 have hl := ((chF_rowsP (ds := ds) hp).2 r hr).1
 have hn := parts_facts hp
 have e : zeroR n = r := ext_getD (by rw [hl]; simp [zeroR]) fun k => by
  have e0 : (zeroR n).getD k 0 = 0 := by
   by_cases h : k < n
   ·simp [zeroR, List.getD_eq_getElem?_getD, h]
   ·simp [zeroR, List.getD_eq_getElem?_getD, h]
  rw [e0]
  by_cases hk : k < n
  ·have h3 := (all2_has ⟨n, by omega⟩ ⟨k, by omega⟩).2
   dsimp only at h3
   exact (hz k (by omega) (by rw [h3, decide_eq_true hk])).symm
  ·rw [List.getD_eq_getElem?_getD, List.getElem?_eq_none (by omega)]; rfl
 rw [e]; exact hr
end Go.Own
/-
  Plain law: the decomposed parts. Conditions: as each theorem states them.
-/
namespace Go.Own
open Go Go.Proofs
theorem boy_third {n : Int} {ds : List (Int × Int)} {set : Int} (h : boyB n ds set = true) : thB n ds set = true := by
 unfold boyB at h
 unfold thB
 rw [Bool.and_eq_true, Bool.not_eq_true'] at h ⊢
 refine ⟨h.1, ?_⟩
 have h0 : brk n ds set 0 = none := by
  cases e : brk n ds set 0 with
  | none => rfl
  | some d => rw [e] at h; cases h.2
 have h1 : brk n ds set (primeL n ds set) = none := by
  unfold brk at h0 ⊢
  rw [List.find?_eq_none] at h0 ⊢
  intro d hd hb
  refine h0 d hd ?_
  unfold brB at hb ⊢
  rw [Bool.and_eq_true] at hb ⊢
  have hR := (@pdL_facts n ds set).2.1 d hd
  exact ⟨hb.1, by rw [hasB_zero hR.2]; rfl⟩
 rw [h1]; rfl
theorem lvF_ind {n : Int} {ds : List (Int × Int)} {P : Int → Prop} (h0 : ∀ s, isAttr n s = true → brk n ds s 0 = none → P s) (h1 : ∀ s d, isAttr n s = true → brk n ds s 0 = some d → P (sc1 ds s d) → P (sc2 ds s d) → P s) : ∀ {k : Nat} {s : Int}, s.toNat ≤ k → isAttr n s = true → P s := by
 intro k
 induction k with
 | zero =>
  intro s hs ha
  exact h0 s ha (brk_zero (by omega))
 | succ k ih =>
  intro s hs ha
  cases hb : brk n ds s 0 with
  | none => exact h0 s ha hb
  | some d =>
   have hf := sc_facts hb
   have hA := sc_attr hb
   exact h1 s d ha hb (ih (by omega) hA.1) (ih (by omega) hA.2)
theorem and_has_key : ∀ x y : Fin 32, ∀ c : Fin 5, hasB (bitI .and .i64 ((x.val : Nat) : Int) ((y.val : Nat) : Int)) ((c.val : Nat) : Int) = (hasB ((x.val : Nat) : Int) ((c.val : Nat) : Int) && hasB ((y.val : Nat) : Int) ((c.val : Nat) : Int)) := by decide +kernel
theorem sc_has {ds : List (Int × Int)} {s : Int} {d : Int × Int} (hd : ∀ e ∈ ds, depR e) (hs : R5 s) (hl : R5 d.1) {k : Nat} (hk : k < 5) : hasB (sc1 ds s d) (k : Nat) = (hasB s (k : Nat) && hasB (clo ds d.1) (k : Nat)) ∧ hasB (sc2 ds s d) (k : Nat) = (hasB d.1 (k : Nat) || (hasB s (k : Nat) && !hasB (clo ds d.1) (k : Nat))) := by
 have hz := clo_R hd hl
 have hN := andNot_R hs hz
 unfold sc1 sc2
 generalize clo ds d.1 = z at hz hN ⊢
 have e2 : hasB (bitI .andNot .i64 s z) (k : Nat) = (hasB s (k : Nat) && !hasB z (k : Nat)) := by
  obtain ⟨x, rfl⟩ := hs.fin; obtain ⟨y, rfl⟩ := hz.fin
  exact (andNot_key x y).2 ⟨k, hk⟩
 constructor
 ·obtain ⟨x, rfl⟩ := hs.fin; obtain ⟨y, rfl⟩ := hz.fin
  exact and_has_key x y ⟨k, hk⟩
 ·rw [← e2]
  generalize bitI .andNot .i64 s z = q at hN ⊢
  obtain ⟨w, hw⟩ := hl.fin; obtain ⟨q, rfl⟩ := hN.fin
  rw [hw]
  exact or_has_key w q ⟨k, hk⟩
theorem ins_not {x y : Int} (hx : R5 x) (hy : R5 y) (h : insB x y = false) : ∃ k : Nat, k < 5 ∧ hasB x (k : Nat) = true ∧ hasB y (k : Nat) = false := Classical.byContradiction fun q => by
 have : insB x y = true := (insB_iff hx hy).2 fun c hc => by
  cases hb : hasB y (c.val : Nat) with
  | true => rfl
  | false => exact absurd ⟨c.val, c.isLt, hc, hb⟩ q
 rw [this] at h; cases h
theorem lvF_facts {n : Int} {ds : List (Int × Int)} (hv : depsOK n ds = true) {s : Int} (ha : isAttr n s = true) : (∀ x ∈ lvF n ds s, isAttr n x = true ∧ brk n ds x 0 = none ∧ (s ≠ 0 → x ≠ 0)) ∧ (∀ k : Nat, k < 5 → hasB s (k : Nat) = true → ∃ x ∈ lvF n ds s, hasB x (k : Nat) = true) := by
 have hd := depsOK_R hv
 refine lvF_ind (n := n) (ds := ds) (P := fun s => (∀ x ∈ lvF n ds s, isAttr n x = true ∧ brk n ds x 0 = none ∧ (s ≠ 0 → x ≠ 0)) ∧ (∀ k : Nat, k < 5 → hasB s (k : Nat) = true → ∃ x ∈ lvF n ds s, hasB x (k : Nat) = true)) (fun s ha hb => ?_) (fun s d ha hb p1 p2 => ?_) (Nat.le_refl _) ha
 ·rw [lvF_none hb]
  refine ⟨fun x hx => ?_, fun k hk h => ⟨s, by simp, h⟩⟩
  rw [List.mem_singleton] at hx
  subst hx
  exact ⟨ha, hb, id⟩
 ·rw [lvF_some hb]
  obtain ⟨_, dR, b1, b2, b3, b4, b5⟩ := brk_facts hb
  obtain ⟨_, _, s0, s31⟩ := isAttr_le ha
  have hs : R5 s := ⟨s0, s31⟩
  have hh := fun k hk => @sc_has ds s d hd hs dR.1 k hk
  have hr := dR.2
  refine ⟨fun x hx => ?_, fun k hk h => ?_⟩
  ·rcases List.mem_append.1 hx with hx | hx
   ·obtain ⟨q1, q2, q3⟩ := p1.1 x hx
    refine ⟨q1, q2, fun _ => q3 fun e => ?_⟩
    have := (hh d.2.toNat (by omega)).1
    rw [show ((d.2.toNat : Nat) : Int) = d.2 by omega, e, hasB_zero hr, b3, b4] at this
    cases this
   ·obtain ⟨q1, q2, q3⟩ := p2.1 x hx
    refine ⟨q1, q2, fun _ => q3 fun e => ?_⟩
    obtain ⟨k, hk, h1, h2⟩ := ins_not hs (clo_R hd dR.1) b1
    have := (hh k hk).2
    rw [e, has0 hk, h1, h2] at this
    simp at this
  ·cases hz : hasB (clo ds d.1) (k : Nat)
   ·obtain ⟨x, hx, hb⟩ := p2.2 k hk (by rw [(hh k hk).2, h, hz]; simp)
    exact ⟨x, List.mem_append.2 (.inr hx), hb⟩
   ·obtain ⟨x, hx, hb⟩ := p1.2 k hk (by rw [(hh k hk).1, h, hz]; rfl)
    exact ⟨x, List.mem_append.2 (.inl hx), hb⟩
theorem lvF_zero {n : Nat} {ds : List (Int × Int)} {X : List (List Int)} (hv : depsOK n ds = true) (hsat : ∀ d ∈ ds, satD n X d) {s : Int} (ha : isAttr (n : Nat) s = true) (h : ∀ x ∈ lvF n ds s, ∃ r ∈ X, zeroOn r x) : ∃ r ∈ X, zeroOn r s := by
 have hd := depsOK_R hv
 obtain ⟨n', e, hD⟩ := dpP_of hv
 have e : n = n' := by omega
 subst e
 revert h
 refine lvF_ind (n := (n : Nat)) (ds := ds) (P := fun s => (∀ x ∈ lvF n ds s, ∃ r ∈ X, zeroOn r x) → ∃ r ∈ X, zeroOn r s) (fun s ha hb h => ?_) (fun s d ha hb p1 p2 h => ?_) (Nat.le_refl _) ha
 ·rw [lvF_none hb] at h
  exact h s (by simp)
 ·rw [lvF_some hb] at h
  obtain ⟨_, dR, b1, b2, b3, b4, b5⟩ := brk_facts hb
  obtain ⟨_, _, s0, s31⟩ := isAttr_le ha
  have hs : R5 s := ⟨s0, s31⟩
  have hh := fun k hk => @sc_has ds s d hd hs dR.1 k hk
  obtain ⟨r1, hr1, z1⟩ := p1 fun x hx => h x (List.mem_append.2 (.inl hx))
  obtain ⟨r2, hr2, z2⟩ := p2 fun x hx => h x (List.mem_append.2 (.inr hx))
  have hins := (insB_iff dR.1 hs).1 b2
  have hle := clo_le hd dR.1
  have hag : agOn n r1 r2 d.1 := fun k hk hb' => by
   have q1 := hins ⟨k, hk⟩ hb'
   have q2 := hle ⟨k, hk⟩ hb'
   dsimp only at q1 q2
   refine ⟨att_bit hD.n5.2 ha hk q1, ?_⟩
   rw [z1 k hk (by rw [(hh k hk).1, q1, q2]; rfl), z2 k hk (by rw [(hh k hk).2, hb']; rfl)]
  have hcl := agree_clo hD hd hsat hr1 hr2 dR.1 hag
  refine ⟨r2, hr2, fun k hk hb' => ?_⟩
  cases hz : hasB (clo ds d.1) (k : Nat)
  ·exact z2 k hk (by rw [(hh k hk).2, hb', hz]; simp)
  ·rw [← (hcl k hk hz).2]
   exact z1 k hk (by rw [(hh k hk).1, hb', hz]; rfl)
theorem dec_law {n : Nat} {ds : List (Int × Int)} (hv : depsOK n ds = true) : partsOK n (decF n ds) = true ∧ loB n ds (decF n ds) = true ∧ ∀ p ∈ decF n ds, boyB n ds p = true ∧ thB n ds p = true := by
 obtain ⟨n', e, hD⟩ := dpP_of hv
 have e : n = n' := by omega
 subst e
 have hn := hD.n5
 have hat : isAttr (n : Nat) (all2 n) = true := all2_attr (n := (n : Nat)) ⟨by omega, by omega⟩
 obtain ⟨_, _, s0, s31⟩ := isAttr_le hat
 have ha0 : all2 n ≠ 0 := fun e => by
  have h3 := (all2_has ⟨n, by omega⟩ ⟨0, by omega⟩).2
  dsimp only at h3
  rw [e, has0 (k := 0) (by omega), decide_eq_true (by omega)] at h3
  cases h3
 obtain ⟨f1, f2⟩ := lvF_facts (s := all2 n) hv hat
 have e : decF n ds = selS maxT1 (dstI (lvF n ds (all2 n))) := by unfold decF; rw [hv]; rfl
 have hl : (dstI (lvF n ds (all2 n))).length ≤ 32 := srt5_len (srt5_foldl ⟨.nil, by simp⟩ (lvs_R ⟨s0, s31⟩))
 have hs : setsOK (dstI (lvF n ds (all2 n))) = true := by
  simp only [setsOK, Bool.and_eq_true, List.all_eq_true, decide_eq_true_eq]
  exact ⟨fun x hx => attr5 (f1 x (dstI_mem.1 hx)).1, by omega⟩
 have hp : partsOK n (decF n ds) = true := by
  rw [e]
  refine parts_of hn (by omega) (fun x hx => (f1 x (dstI_mem.1 hx)).1) (fun x hx => (f1 x (dstI_mem.1 hx)).2.2 ha0) fun k hk => ?_
  have h3 := (all2_has ⟨n, by omega⟩ ⟨k, by omega⟩).2
  dsimp only at h3
  obtain ⟨x, hx, hb⟩ := f2 k (by omega) (by rw [h3, decide_eq_true hk])
  exact ⟨x, dstI_mem.2 hx, hb⟩
 refine ⟨hp, lossless_of hv hp fun X hsat hz => lvF_zero hv hsat hat fun x hx => ?_, fun p hp' => ?_⟩
 ·obtain ⟨y, hy, hle⟩ := max_above hs (dstI_mem.2 hx) (Nat.le_refl _)
  rw [← e] at hy
  obtain ⟨r, hr, hzr⟩ := hz y hy
  exact ⟨r, hr, fun k hk hb => hzr k hk (hle ⟨k, hk⟩ hb)⟩
 ·rw [e] at hp'
  obtain ⟨q1, q2, _⟩ := f1 p (dstI_mem.1 ((selM_mem hs).1 hp').1)
  have hb : boyB n ds p = true := by unfold boyB; rw [hv, q1, q2]; rfl
  exact ⟨hb, boy_third hb⟩
end Go.Own
/-
  Plain law: the synthesized parts. Conditions: as each theorem states them.
-/
namespace Go.Own
open Go Go.Proofs
theorem syn_fold {a k : Int} (hk : 0 ≤ k ∧ k ≤ 4) : ∀ {C : List (Int × Int)} {x : Int}, R5 x → (∀ d ∈ C, depR d) → (hasB (C.foldl (synS a) x) k = true ↔ hasB x k = true ∨ ∃ f ∈ C, f.1 = a ∧ f.2 = k)
 | [], x, _, _ => by simp
 | d :: C, x, hx, hC => by
  have hd := hC d (by simp)
  rw [List.foldl_cons, syn_fold hk (synS_R hx hd.2) fun e he => hC e (by simp [he])]
  have hs : hasB (synS a x d) k = true ↔ hasB x k = true ∨ d.1 = a ∧ d.2 = k := by
   unfold synS
   split
   ·rename_i h
    rw [beq_iff_eq] at h
    obtain ⟨c, e⟩ := c5 hk
    obtain ⟨r, e2⟩ := c5 hd.2
    rw [e, e2, addB_has hx, Bool.or_eq_true, beq_iff_eq]
    constructor
    ·rintro (q | q)
     ·exact .inl q
     ·exact .inr ⟨h, by rw [q]⟩
    ·rintro (q | ⟨_, q⟩)
     ·exact .inl q
     ·right
      apply Fin.ext
      omega
   ·rename_i h
    rw [beq_iff_eq] at h
    exact ⟨.inl, fun q => q.resolve_right fun q2 => h q2.1⟩
  rw [hs]
  constructor
  ·rintro ((h | h) | ⟨f, hf, h⟩)
   ·exact .inl h
   ·exact .inr ⟨d, by simp, h⟩
   ·exact .inr ⟨f, by simp [hf], h⟩
  ·rintro (h | ⟨f, hf, h⟩)
   ·exact .inl (.inl h)
   ·rcases List.mem_cons.1 hf with rfl | hf
    ·exact .inl (.inr h)
    ·exact .inr ⟨f, hf, h⟩
theorem synX_has {C : List (Int × Int)} {a k : Int} (ha : R5 a) (hC : ∀ d ∈ C, depR d) (hk : 0 ≤ k ∧ k ≤ 4) : hasB (synX C a) k = true ↔ hasB a k = true ∨ ∃ f ∈ C, f.1 = a ∧ f.2 = k := syn_fold hk ha hC
theorem attr_of {n : Nat} {x : Int} (hn : n ≤ 5) (hx : R5 x) (h : ∀ k : Nat, k < 5 → hasB x (k : Nat) = true → k < n) : isAttr (n : Nat) x = true := by
 have hk : ∀ n : Fin 6, ∀ x : Fin 32, (∀ k : Fin 5, hasB ((x.val : Nat) : Int) ((k.val : Nat) : Int) = true → k.val < n.val) → isAttr ((n.val : Nat) : Int) ((x.val : Nat) : Int) = true := by decide +kernel
 obtain ⟨x, rfl⟩ := hx.fin
 exact hk ⟨n, by omega⟩ x fun k hb => h k.val k.isLt hb
theorem orL_all : ∀ {l : List Int} {a : Int}, l.foldl (fun a x => bitI .or .i64 a x) a = orAll a l
 | [], a => rfl
 | x :: l, a => by rw [List.foldl_cons, orAll, orL_all]
theorem prime_of {n : Nat} {ds : List (Int × Int)} {s κ : Int} (hn : n ≤ 5) (ha : isAttr (n : Nat) s = true) (hκ : R5 κ) (h1 : insB κ s = true) (h2 : insB s (clo ds κ) = true) (h3 : ∀ y, R5 y → insB y s = true → insB s (clo ds y) = true → insB y κ = true → y = κ) {k : Nat} (hk : k < 5) (hb : hasB κ (k : Nat) = true) : hasB (primeL n ds s) (k : Nat) = true := by
 obtain ⟨_, _, s0, s31⟩ := isAttr_le ha
 have hs : R5 s := ⟨s0, s31⟩
 have hlt := attr_pow ha
 have h32 : (2 : Nat) ^ n ≤ 32 := by
  have : (2 : Nat) ^ n ≤ 2 ^ 5 := Nat.pow_le_pow_right (by omega) hn
  simpa using this
 have hR : ∀ x ∈ prmL (2 ^ n) ds s, R5 x ∧ pqB ds s x = true := fun x hx => by
  unfold prmL rng at hx
  rw [List.mem_filter] at hx
  obtain ⟨i, hi, rfl⟩ := List.mem_map.1 hx.1
  rw [List.mem_range] at hi
  exact ⟨⟨by omega, by omega⟩, hx.2⟩
 have hm : κ ∈ prmL (2 ^ n) ds s := by
  unfold prmL
  rw [List.mem_filter]
  refine ⟨?_, by unfold pqB; rw [h1, h2]; rfl⟩
  have hle := ins_le hκ hs h1
  have hκ0 := hκ.1
  unfold rng
  exact List.mem_map.2 ⟨κ.toNat, List.mem_range.2 (by omega), by omega⟩
 have hl := @prmL_len (2 ^ n) ds s
 have hS : setsOK (prmL (2 ^ n) ds s) = true := by
  simp only [setsOK, Bool.and_eq_true, List.all_eq_true, decide_eq_true_eq]
  refine ⟨fun x hx => ?_, by omega⟩
  obtain ⟨x0, x1⟩ := (hR x hx).1
  simp only [isAttr, Bool.and_eq_true, inB_iff, all2]
  exact ⟨by decide, x0, by show x ≤ 31; omega⟩
 have hsel : κ ∈ selS minT1 (prmL (2 ^ n) ds s) := by
  unfold selS
  rw [hS, if_pos rfl, dstI_mem, List.mem_filter, List.all_eq_true]
  refine ⟨hm, fun y hy => ?_⟩
  obtain ⟨yR, yq⟩ := hR y hy
  unfold pqB at yq
  rw [Bool.and_eq_true] at yq
  unfold minT1
  rw [Bool.or_eq_true, beq_iff_eq, Bool.not_eq_true']
  cases e : insB y κ with
  | false => exact .inr rfl
  | true => exact .inl (h3 y yR yq.1 yq.2 e).symm
 have hRs : ∀ x ∈ selS minT1 (prmL (2 ^ n) ds s), R5 x := fun x hx => (hR x (selS_mem hx).1).1
 unfold primeL orL
 rw [Int.toNat_natCast, orL_all, (orAll_has hk (by unfold R5; decide) hRs).2]
 exact .inr ⟨κ, hsel, hb⟩
theorem third_of {n : Nat} {ds : List (Int × Int)} {s : Int} (hv : depsOK n ds = true) (ha : isAttr (n : Nat) s = true) (h : ∀ y b : Int, R5 y → (0 ≤ b ∧ b ≤ 4) → insB y s = true → hasB s b = true → hasB (clo ds y) b = true → hasB y b = false → insB s (clo ds y) = false → hasB (primeL n ds s) b = true) : thB n ds s = true := by
 unfold thB
 rw [hv, ha]
 have h1 : brk n ds s (primeL n ds s) = none := by
  unfold brk
  rw [List.find?_eq_none]
  intro d hd hb
  have hR := (@pdL_facts n ds s).2.1 d hd
  unfold pdL at hd
  rw [hv, ha] at hd
  obtain ⟨_, _, m3, m4⟩ := minT_mem (show d ∈ minT (pjB ds s) n ((n : Nat) : Int).toNat from hd)
  unfold pjB at m4
  simp only [Bool.and_eq_true] at m4
  unfold brB at hb
  rw [Bool.and_eq_true, Bool.not_eq_true', Bool.not_eq_true'] at hb
  have := h d.1 d.2 hR.1 hR.2 m4.1.1 m4.1.2 m4.2 m3 hb.1
  rw [this] at hb
  cases hb.2
 rw [h1]; rfl
theorem minR_sub {p : Int → Int → Bool} {r : Int} : ∀ {xs tk : List Int} {y : Int}, y ∈ tk → y ∈ minR p r tk xs
 | [], tk, y, h => h
 | x :: xs, tk, y, h => by
  rw [minR]
  refine minR_sub ?_
  split
  ·exact List.mem_append.2 (.inl h)
  ·exact h
theorem minR_some {p : Int → Int → Bool} {r z : Int} (hz : R5 z) (hb : hasB z r = false) (hp : p z r = true) : ∀ {xs tk : List Int}, z ∈ xs → ∃ y ∈ minR p r tk xs, insB y z = true
 | [], tk, h => by cases h
 | x :: xs, tk, h => by
  rw [minR]
  rcases List.mem_cons.1 h with rfl | h
  ·rw [hb, hp, Bool.not_false, Bool.true_and, Bool.and_true]
   cases e : anyIn tk z
   ·exact ⟨z, minR_sub (by simp), (insB_iff hz hz).2 (leB.refl _)⟩
   ·unfold anyIn at e
    rw [List.any_eq_true] at e
    obtain ⟨y, hy, hi⟩ := e
    exact ⟨y, minR_sub (by simpa using hy), hi⟩
  ·exact minR_some hz hb hp h
theorem minT_some {p : Int → Int → Bool} {n r : Int} {y : Int} (hy : y ∈ minR p r [] (pbsI n)) : ∀ {k : Nat}, 0 ≤ r ∧ r < k → (y, r) ∈ minT p n k
 | 0, h => by omega
 | k + 1, h => by
  rw [minT, List.mem_append]
  by_cases e : r = k
  ·right
   unfold minC
   rw [← e]
   exact List.mem_map.2 ⟨y, hy, rfl⟩
  ·left
   exact minT_some hy ⟨h.1, by omega⟩
theorem pbs_all : ∀ n : Fin 6, ∀ x : Fin 32, isAttr ((n.val : Nat) : Int) ((x.val : Nat) : Int) = true → ((x.val : Nat) : Int) ∈ pbs n.val := by decide +kernel
theorem minDs_some {p : Int → Int → Bool} {n : Nat} {z r : Int} (hn : 1 ≤ n ∧ n ≤ 5) (hz : isAttr (n : Nat) z = true) (hr : 0 ≤ r ∧ r < n) (hb : hasB z r = false) (hp : p z r = true) : ∃ y, (y, r) ∈ minDs p n ∧ insB y z = true := by
 obtain ⟨_, _, z0, z31⟩ := isAttr_le hz
 have hm : z ∈ pbsI (n : Nat) := by
  unfold pbsI
  rw [if_pos (inB_iff.2 ⟨by omega, by omega⟩), Int.toNat_natCast]
  have := pbs_all ⟨n, by omega⟩ ⟨z.toNat, by omega⟩
  dsimp only at this
  rw [show ((z.toNat : Nat) : Int) = z by omega] at this
  exact this hz
 obtain ⟨y, hy, hi⟩ := minR_some (p := p) (r := r) ⟨z0, z31⟩ hb hp (tk := []) hm
 refine ⟨y, ?_, hi⟩
 unfold minDs
 rw [Int.toNat_natCast]
 exact minT_some hy hr
structure SynP (n : Nat) (ds C : List (Int × Int)) (s : Int) : Prop where
  att : isAttr (n : Nat) s = true
  ne : s ≠ 0
  third : thB n ds s = true
theorem syn_part {n : Nat} {ds C : List (Int × Int)} (hv : depsOK n ds = true) (hC : CovP n ds C) {e : Int × Int} (he : e ∈ C) : SynP n ds C (synX C e.1) := by
 have hd := depsOK_R hv
 obtain ⟨n', e0, hD⟩ := dpP_of hv
 have e0 : n = n' := by omega
 subst e0
 have heR := hC.R e he
 have hsR : R5 (synX C e.1) := synX_R heR.1 hC.R
 have hh := fun k hk => @synX_has C e.1 k heR.1 hC.R hk
 have hat : isAttr (n : Nat) (synX C e.1) = true := attr_of hD.n5.2 hsR fun k hk hb => by
  rcases (hh (k : Nat) ⟨by omega, by omega⟩).1 hb with h | ⟨f, hf, h1, h2⟩
  ·have := hC.ok e he
   simp only [depOK, Bool.and_eq_true] at this
   exact att_bit hD.n5.2 this.1.2 hk h
  ·have := hC.ok f hf
   simp only [depOK, Bool.and_eq_true, inB_iff] at this
   omega
 have he2 : hasB (synX C e.1) e.2 = true := (hh e.2 heR.2).2 (.inr ⟨e, he, rfl, rfl⟩)
 have hcl : insB (synX C e.1) (clo ds e.1) = true := by
  rw [insB_iff hsR (clo_R hd heR.1)]
  intro c hc
  rcases (hh (c.val : Nat) ⟨by omega, by omega⟩).1 hc with h | ⟨f, hf, h1, h2⟩
  ·exact clo_le hd heR.1 c h
  ·rw [← hC.clo hd heR.1]
   have hfR := hC.R f hf
   have := clo_closed hC.R heR.1 f hf ((insB_iff hfR.1 (clo_R hC.R heR.1)).2 (by rw [h1]; exact clo_le hC.R heR.1))
   rw [h2] at this
   exact this
 have hsub : insB e.1 (synX C e.1) = true := (insB_iff heR.1 hsR).2 fun c hc => (hh (c.val : Nat) ⟨by omega, by omega⟩).2 (.inl hc)
 refine ⟨hat, fun e0 => ?_, third_of hv hat fun y b hy hb hys hsb hyb hny hns => ?_⟩
 ·rw [e0, hasB_zero heR.2] at he2; cases he2
 ·by_cases hab : hasB e.1 b = true
  ·-- the left side is a key of the part
   have hbn : b = ((b.toNat : Nat) : Int) := by omega
   rw [hbn] at hab ⊢
   refine prime_of hD.n5.2 hat heR.1 hsub hcl (fun z hz hzs hsz hze => ?_) (by omega) hab
   refine Decidable.byContradiction fun hne => ?_
   have hze' := (insB_iff hz heR.1).1 hze
   have : insB e.1 z = false := by
    rw [← Bool.not_eq_true]
    exact fun hi => hne (leB_antisymm hz heR.1 hze' ((insB_iff heR.1 hz).1 hi))
   obtain ⟨k, hk, h1, h2⟩ := ins_not heR.1 hz this
   have hk4 : 0 ≤ ((k : Nat) : Int) ∧ ((k : Nat) : Int) ≤ 4 := ⟨by omega, by omega⟩
   have hlow := hC.low e he k hk h1
   rw [← Bool.not_eq_true] at hlow
   refine hlow (has_le heR.2 (clo_left hd hz (del_R heR.1 hk4) fun c hc => ?_) (has_le heR.2 ((insB_iff hsR (clo_R hd hz)).1 hsz) he2))
   rw [del_has heR.1 hk4 ⟨by omega, by omega⟩, hze' c hc, Bool.true_and, Bool.not_eq_true', beq_eq_false_iff_ne]
   intro ec
   rw [ec, h2] at hc
   cases hc
  ·-- else the dependency that brings the column could be spared
   exfalso
   rcases (hh b hb).1 hsb with h | ⟨f, hf, h1, h2⟩
   ·exact hab h
   ·obtain ⟨i, hi, ei⟩ := List.mem_iff_getElem.1 hf
    have gi : C.getD i (0, 0) = f := by rw [List.getD_eq_getElem?_getD, List.getElem?_eq_getElem hi]; exact ei
    have hnon := hC.non i hi
    unfold nonR at hnon
    rw [gi, h1, h2, ← Bool.not_eq_true] at hnon
    have hWR : ∀ d ∈ wo C i, depR d := fun d hd => hC.R d (wo_mem d hd)
    refine hnon ?_
    have hcW := clo_R hWR heR.1
    have hyW : leB y (clo (wo C i) e.1) := fun c hc => by
     rcases (hh (c.val : Nat) ⟨by omega, by omega⟩).1 ((insB_iff hy hsR).1 hys c hc) with h | ⟨g, hg, g1, g2⟩
     ·exact clo_le hWR heR.1 c h
     ·have hne : g ≠ C.getD i (0, 0) := fun eg => by
       rw [gi] at eg
       rw [eg] at g2
       rw [h2] at g2
       rw [← g2, hny] at hc
       cases hc
      have hgW := wo_other hi hg hne
      have := clo_closed hWR heR.1 g hgW ((insB_iff (hC.R g hg).1 hcW).2 (by rw [g1]; exact clo_le hWR heR.1))
      rw [g2] at this
      exact this
    have hyWR := clo_R hWR hy
    have hnf : insB e.1 (clo (wo C i) y) = false := by
     rw [← Bool.not_eq_true]
     intro hi'
     rw [← Bool.not_eq_true] at hns
     refine hns ((insB_iff hsR (clo_R hd hy)).2 (((insB_iff hsR (clo_R hd heR.1)).1 hcl).trans ?_))
     refine clo_under hd heR.1 (clo_R hd hy) (((insB_iff heR.1 hyWR).1 hi').trans ?_) (clo_closed hd hy)
     rw [← hC.clo hd hy]
     exact clo_mono hWR hC.R (fun d hd => wo_mem d hd) hy
    have hyc : leB (clo C y) (clo (wo C i) y) := clo_under hC.R hy hyWR (clo_le hWR hy) fun d hd' hdi => by
     by_cases ed : d = C.getD i (0, 0)
     ·rw [ed, gi, h1, hnf] at hdi; cases hdi
     ·exact clo_closed hWR hy d (wo_other hi hd' ed) hdi
    refine has_le hb (clo_under hWR hy hcW hyW (clo_closed hWR heR.1)) (has_le hb hyc ?_)
    rw [hC.clo hd hy]
    exact hyb
structure KeyP (n : Nat) (ds : List (Int × Int)) (κ : Int) : Prop where
  R : R5 κ
  att : isAttr (n : Nat) κ = true
  full : clo ds κ = all2 n
  min : ∀ y, R5 y → insB y κ = true → clo ds y = all2 n → y = κ
theorem keyP_of {n : Nat} {ds : List (Int × Int)} (hv : depsOK n ds = true) : ∀ κ ∈ keysF n ds, KeyP n ds κ := by
 intro κ hκ
 obtain ⟨n', e0, hD⟩ := dpP_of hv
 have e0 : n = n' := by omega
 subst e0
 have hR := (@keysF_facts n ds).2.1 κ hκ
 unfold keysF at hκ
 rw [hv, if_pos rfl, Int.toNat_natCast] at hκ
 have hm := (selS_mem hκ).1
 unfold selS at hκ
 split at hκ
 ·rename_i hS
  rw [dstI_mem, List.mem_filter, List.all_eq_true] at hκ
  have hlt := keyL_mem hm
  have hf : clo ds κ = all2 n := by
   unfold keyL at hm
   rw [List.mem_filter] at hm
   unfold kqB at hm
   rw [beq_iff_eq] at hm
   rw [hm.2, all2_pow]
  refine ⟨hR, ?_, hf, fun y hy hi hfy => ?_⟩
  ·simp only [isAttr, Bool.and_eq_true, inB_iff, all2_pow]
   have := hD.n5
   exact ⟨by omega, by omega, by omega⟩
  ·have hle := ins_le hy hR hi
   have hym : y ∈ keyL (2 ^ n) ds := by
    unfold keyL
    rw [List.mem_filter]
    have hy0 := hy.1
    refine ⟨?_, by unfold kqB; rw [beq_iff_eq, hfy, all2_pow]⟩
    unfold rng
    exact List.mem_map.2 ⟨y.toNat, List.mem_range.2 (by omega), by omega⟩
   have := hκ.2 y hym
   unfold minT1 at this
   rw [Bool.or_eq_true, beq_iff_eq, Bool.not_eq_true'] at this
   rcases this with h | h
   ·exact h.symm
   ·rw [hi] at h; cases h
 ·cases hκ
theorem key_third {n : Nat} {ds : List (Int × Int)} (hv : depsOK n ds = true) {κ : Int} (h : KeyP n ds κ) : thB n ds κ = true := by
 obtain ⟨n', e0, hD⟩ := dpP_of hv
 have e0 : n = n' := by omega
 subst e0
 have hd := depsOK_R hv
 have hn := hD.n5
 have hall := fun k : Nat => fun hk : k < 5 => (all2_has ⟨n, by omega⟩ ⟨k, hk⟩).2
 dsimp only at hall
 have hRa : R5 (all2 n) := by rw [← h.full]; exact clo_R hd h.R
 refine third_of hv h.att fun y b hy hb hys hsb hyb hny hns => ?_
 have hbn : b = ((b.toNat : Nat) : Int) := by omega
 rw [hbn] at hsb ⊢
 refine prime_of hn.2 h.att h.R ((insB_iff h.R h.R).2 (leB.refl _)) ?_ (fun z hz hzs hsz hzk => h.min z hz hzk ?_) (by omega) hsb
 ·rw [insB_iff h.R (clo_R hd h.R)]; exact clo_le hd h.R
 ·refine leB_antisymm (clo_R hd hz) hRa (fun c hc => ?_) ?_
  ·rw [hall c.val c.isLt, decide_eq_true_eq]
   have hz' : leB (clo ds z) (clo ds κ) := clo_left hd hz h.R ((insB_iff hz h.R).1 hzk)
   have := hz' c hc
   rw [h.full, hall c.val c.isLt, decide_eq_true_eq] at this
   exact this
  ·rw [← h.full]
   exact clo_under hd h.R (clo_R hd hz) ((insB_iff h.R (clo_R hd hz)).1 hsz) (clo_closed hd hz)
theorem syn_law {n : Nat} {ds : List (Int × Int)} (hv : depsOK n ds = true) : partsOK n (synF n ds) = true ∧ loB n ds (synF n ds) = true ∧ prsB n ds (synF n ds) = true ∧ ∀ p ∈ synF n ds, thB n ds p = true := by
 obtain ⟨n', e0, hD⟩ := dpP_of hv
 have e0 : n = n' := by omega
 subst e0
 have hd := depsOK_R hv
 have hn := hD.n5
 have hC := covP_of hv
 have hKf := @keysF_facts n ds
 have hK := keyP_of hv
 have hC20 := (@covF_facts n ds).2
 have e : synF n ds = selS maxT1 (synA (keysF n ds) (synL (covF n ds) (covF n ds))) := by unfold synF; rw [hv]; rfl
 have hall := fun k : Nat => fun hk : k < 5 => (all2_has ⟨n, by omega⟩ ⟨k, hk⟩).2
 dsimp only at hall
 have hRa : R5 (all2 n) := (all2_has ⟨n, by omega⟩ ⟨0, by omega⟩).1
 generalize hKe : keysF n ds = K at hKf hK e
 generalize hCe : covF n ds = C at hC hC20 e
 have hS : ∀ s, s ∈ synL C C ↔ ∃ d ∈ C, s = synX C d.1 := fun s => by
  unfold synL
  rw [List.mem_map]
  exact ⟨fun ⟨d, h1, h2⟩ => ⟨d, h1, h2.symm⟩, fun ⟨d, h1, h2⟩ => ⟨d, h1, h2.symm⟩⟩
 have hkey : ∃ s ∈ synA K (synL C C), ∃ κ, KeyP n ds κ ∧ leB κ s := by
  unfold synA
  by_cases ha : (synL C C).any (anyIn K) = true
  ·rw [List.any_eq_true] at ha
   obtain ⟨s, hs, hb⟩ := ha
   unfold anyIn at hb
   rw [List.any_eq_true] at hb
   obtain ⟨κ, hκ, hi⟩ := hb
   obtain ⟨d, hd', rfl⟩ := (hS s).1 hs
   exact ⟨_, List.mem_append.2 (.inl hs), κ, hK κ hκ, (insB_iff (hK κ hκ).R (synX_R (hC.R d hd').1 hC.R)).1 hi⟩
  ·rw [if_neg ha]
   have h0 := getD_mem (hKf.2.2 hv) 0
   exact ⟨_, List.mem_append.2 (.inr (by simp)), _, hK _ h0, leB.refl _⟩
 have hparts : ∀ s ∈ synA K (synL C C), SynP n ds C s := fun s hs => by
  unfold synA at hs
  rcases List.mem_append.1 hs with hs | hs
  ·obtain ⟨d, hd', rfl⟩ := (hS s).1 hs
   exact syn_part hv hC hd'
  ·split at hs
   ·cases hs
   ·rename_i hno
    rw [List.mem_singleton] at hs
    have h0 := hK _ (getD_mem (hKf.2.2 hv) 0)
    rw [← hs] at h0
    refine ⟨h0.att, fun ez => ?_, key_third hv h0⟩
    have hne : C ≠ [] := fun eC => by
     have q := hC.clo hd h0.R
     rw [eC, h0.full, ez] at q
     have q1 : clo [] 0 = 0 := rfl
     rw [q1] at q
     have q2 := hall 0 (by omega)
     rw [← q, has0 (k := 0) (by omega), decide_eq_true (by omega)] at q2
     cases q2
    obtain ⟨d, hd'⟩ := List.exists_mem_of_ne_nil _ hne
    refine hno ?_
    rw [List.any_eq_true]
    refine ⟨_, (hS _).2 ⟨d, hd', rfl⟩, ?_⟩
    unfold anyIn
    rw [List.any_eq_true]
    have hk0 := getD_mem (hKf.2.2 hv) 0
    rw [← hs, ez] at hk0
    exact ⟨0, hk0, (insB_iff (by unfold R5; decide) (synX_R (hC.R d hd').1 hC.R)).2 fun c hc => by rw [has0 c.isLt] at hc; cases hc⟩
 have hlen : (synA K (synL C C)).length ≤ 21 := by
  unfold synA
  rw [List.length_append, synL_length]
  split <;> simp <;> omega
 have hin : ∀ d ∈ C, synX C d.1 ∈ synA K (synL C C) := fun d hd' => List.mem_append.2 (.inl ((hS _).2 ⟨d, hd', rfl⟩))
 generalize synA K (synL C C) = l at e hkey hparts hlen hin
 clear hS
 have hs : setsOK l = true := by
  simp only [setsOK, Bool.and_eq_true, List.all_eq_true, decide_eq_true_eq]
  exact ⟨fun x hx => attr5 (hparts x hx).att, by omega⟩
 have hR := sets_R hs
 have hsx : ∀ d ∈ C, R5 (synX C d.1) ∧ leB d.1 (synX C d.1) ∧ hasB (synX C d.1) d.2 = true := fun d hd' => by
  have hh := fun k hk => @synX_has C d.1 k (hC.R d hd').1 hC.R hk
  exact ⟨synX_R (hC.R d hd').1 hC.R, fun c hc => (hh (c.val : Nat) ⟨by omega, by omega⟩).2 (.inl hc), (hh d.2 (hC.R d hd').2).2 (.inr ⟨d, hd', rfl, rfl⟩)⟩
 obtain ⟨s0, hs0, κ, hκ, hκs⟩ := hkey
 have hfull : clo C κ = all2 n := by rw [hC.clo hd hκ.R, hκ.full]
 have hcov : ∀ k : Nat, k < n → ∃ x ∈ l, hasB x (k : Nat) = true := fun k hk => by
  have hU := fun k hk => @orAll_has k hk l 0 (by unfold R5; decide) hR
  have hUR := (hU 0 (by omega)).1
  have h1 : leB (clo C κ) (orAll 0 l) := clo_under hC.R hκ.R hUR (fun c hc => (hU c.val c.isLt).2.2 (.inr ⟨s0, hs0, hκs c hc⟩)) fun d hd' _ => by
   have hr := (hC.R d hd').2
   have := (hU d.2.toNat (by omega)).2
   rw [show ((d.2.toNat : Nat) : Int) = d.2 by omega] at this
   exact this.2 (.inr ⟨_, hin d hd', (hsx d hd').2.2⟩)
  rw [hfull] at h1
  have h2 := h1 ⟨k, by omega⟩ (by rw [hall k (by omega), decide_eq_true hk])
  rcases (hU k (by omega)).2.1 h2 with h3 | h3
  ·rw [has0 (by omega)] at h3; cases h3
  ·exact h3
 have hp : partsOK n (synF n ds) = true := by
  rw [e]
  exact parts_of hn (by omega) (fun x hx => (hparts x hx).att) (fun x hx => (hparts x hx).ne) hcov
 have hmem : ∀ p ∈ synF n ds, p ∈ l := fun p hp' => by
  rw [e] at hp'
  exact ((selM_mem hs).1 hp').1
 have hab : ∀ x ∈ l, ∃ y ∈ synF n ds, leB x y := fun x hx => by
  rw [e]
  exact max_above hs hx (Nat.le_refl _)
 refine ⟨hp, lossless_of hv hp fun X hsat hz => ?_, ?_, fun p hp' => (hparts p (hmem p hp')).third⟩
 ·obtain ⟨p0, hp0, hle0⟩ := hab s0 hs0
  obtain ⟨r, hr, hz0⟩ := hz p0 hp0
  refine ⟨r, hr, ?_⟩
  have zg : ∀ k : Nat, (zeroR n).getD k 0 = 0 := fun k => by
   by_cases h : k < n
   ·simp [zeroR, List.getD_eq_getElem?_getD, h]
   ·simp [zeroR, List.getD_eq_getElem?_getD, h]
  have hAR : R5 (agL 0 r (zeroR n) n) := agL_range hn.2
  have hAk := fun k hk => (@agL_all 0 r (zeroR n) n hn.2).2 k hk
  have hAz : ∀ k : Nat, k < 5 → hasB (agL 0 r (zeroR n) n) (k : Nat) = true → k < n ∧ r.getD k 0 = 0 := fun k hk hb => by
   rw [hAk k hk, Bool.and_eq_true, decide_eq_true_eq, eqc0, beq_iff_eq, zg] at hb
   exact hb
  have hAi : ∀ k : Nat, k < 5 → k < n → r.getD k 0 = 0 → hasB (agL 0 r (zeroR n) n) (k : Nat) = true := fun k hk h1 h2 => by
   rw [hAk k hk, decide_eq_true h1, eqc0, zg, h2]; rfl
  have h1 : leB (clo C κ) (agL 0 r (zeroR n) n) := clo_under hC.R hκ.R hAR (fun c hc => hAi c.val c.isLt (att_bit hn.2 hκ.att c.isLt hc) (hz0 c.val c.isLt (hle0 c (hκs c hc)))) fun d hd' hdi => by
   have hdR := hC.R d hd'
   have hdi' := (insB_iff hdR.1 hAR).1 hdi
   obtain ⟨p1, hp1, hle1⟩ := hab _ (hin d hd')
   obtain ⟨r1, hr1, hz1⟩ := hz p1 hp1
   obtain ⟨q1, q2, q3⟩ := hsx d hd'
   have hag : agOn n r r1 d.1 := fun k hk hb => by
    obtain ⟨a1, a2⟩ := hAz k hk (hdi' ⟨k, hk⟩ hb)
    exact ⟨a1, by rw [a2, hz1 k hk (hle1 ⟨k, hk⟩ (q2 ⟨k, hk⟩ hb))]⟩
   have hcl := agree_clo hD hd hsat hr hr1 hdR.1 hag
   have hd2 : hasB (clo ds d.1) d.2 = true := by
    rw [← hC.clo hd hdR.1]
    exact clo_closed hC.R hdR.1 d hd' ((insB_iff hdR.1 (clo_R hC.R hdR.1)).2 (clo_le hC.R hdR.1))
   have hdn : d.2 = ((d.2.toNat : Nat) : Int) := by have := hdR.2; omega
   have hd5 : d.2.toNat < 5 := by have := hdR.2; omega
   rw [hdn] at hd2 q3 ⊢
   obtain ⟨c1, c2⟩ := hcl _ hd5 hd2
   refine hAi _ hd5 c1 ?_
   rw [c2]
   exact hz1 _ hd5 (hle1 ⟨_, hd5⟩ q3)
  intro k hk hb
  rw [← hfull] at hb
  exact (hAz k hk (h1 ⟨k, hk⟩ hb)).2
 ·unfold prsB
  rw [hv, Bool.true_and, Bool.and_eq_true, List.all_eq_true, List.all_eq_true]
  refine ⟨fun p hp' => (hparts p (hmem p hp')).att, fun d hd' => ?_⟩
  have hkR := @kpL_R n ds (synF n ds)
  have hdR := hd d hd'
  have hYR := clo_R hkR hdR.1
  have hYc : closedB C (clo (kpL n ds (synF n ds)) d.1) := fun e1 he1 hi => by
   have heR := hC.R e1 he1
   obtain ⟨p1, hp1, hle1⟩ := hab _ (hin e1 he1)
   have hp1R := hR p1 (hmem p1 hp1)
   obtain ⟨q1, q2, q3⟩ := hsx e1 he1
   have hcl : hasB (clo ds e1.1) e1.2 = true := by
    rw [← hC.clo hd heR.1]
    exact clo_closed hC.R heR.1 e1 he1 ((insB_iff heR.1 (clo_R hC.R heR.1)).2 (clo_le hC.R heR.1))
   have hnt : hasB e1.1 e1.2 = false := by
    obtain ⟨i, hi', ei⟩ := List.mem_iff_getElem.1 he1
    have gi : C.getD i (0, 0) = e1 := by rw [List.getD_eq_getElem?_getD, List.getElem?_eq_getElem hi']; exact ei
    have hnon := hC.non i hi'
    unfold nonR at hnon
    rw [gi, ← Bool.not_eq_true] at hnon
    rw [← Bool.not_eq_true]
    exact fun hb => hnon (has_le heR.2 (clo_le (fun d hd => hC.R d (wo_mem d hd)) heR.1) hb)
   have hpj : pjB ds p1 e1.1 e1.2 = true := by
    unfold pjB
    rw [(insB_iff heR.1 hp1R).2 (q2.trans hle1), has_le heR.2 hle1 q3, hcl]; rfl
   have heA : isAttr (n : Nat) e1.1 = true := by
    have := hC.ok e1 he1
    simp only [depOK, Bool.and_eq_true] at this
    exact this.1.2
   have hen : 0 ≤ e1.2 ∧ e1.2 < n := by
    have := hC.ok e1 he1
    simp only [depOK, Bool.and_eq_true, inB_iff] at this
    omega
   obtain ⟨y, hy, hye⟩ := minDs_some hn heA hen hnt hpj
   have hyk : (y, e1.2) ∈ kpL n ds (synF n ds) := by
    unfold kpL
    rw [List.mem_flatMap]
    refine ⟨p1, hp1, ?_⟩
    unfold pdL
    rw [hv, (hparts p1 (hmem p1 hp1)).att]
    exact hy
   have hyR := hkR _ hyk
   exact clo_closed hkR hdR.1 (y, e1.2) hyk ((insB_iff hyR.1 hYR).2 (((insB_iff hyR.1 heR.1).1 hye).trans ((insB_iff heR.1 hYR).1 hi)))
  exact (hC.same _ hYR).1 hYc d hd' ((insB_iff hdR.1 hYR).2 (clo_le hkR hdR.1))
end Go.Own
