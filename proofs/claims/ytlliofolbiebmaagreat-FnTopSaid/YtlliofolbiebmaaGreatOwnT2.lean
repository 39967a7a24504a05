/-
  Plain law: members of a set, parts. Conditions: as each theorem states them.
-/
import Derived.Test.YtlliofolbiebmaaGreatOwnQ1
import Derived.Test.YtlliofolbiebmaaGreatOwnC7
import Derived.Test.YtlliofolbiebmaaGreatOwnY5
import Derived.Test.YtlliofolbiebmaaGreatOwnT1
import Derived.Test.YtlliofolbiebmaaGreatOwnY2
import Derived.Test.YtlliofolbiebmaaGreatOwnF6
set_option linter.unusedSimpArgs false
set_option linter.unusedVariables false
namespace Go.Own
open Go Go.Proofs
theorem memN_iff {x : Int} : ∀ {n k : Nat}, (((k : Nat) : Int) ∈ memN x n ↔ k < n ∧ hasB x (k : Nat) = true)
 | 0, k => by simp [memN]
 | n + 1, k => by
  rw [memN, List.mem_append, memN_iff]
  constructor
  ·rintro (⟨h1, h2⟩ | h)
   ·exact ⟨by omega, h2⟩
   ·split at h
    ·rename_i hb
     simp only [List.mem_singleton] at h
     have : k = n := by omega
     subst this
     exact ⟨by omega, hb⟩
    ·cases h
  ·rintro ⟨h1, h2⟩
   by_cases e : k = n
   ·subst e; right; rw [if_pos h2]; simp
   ·left; exact ⟨by omega, h2⟩
theorem mem_R {x : Int} (hx : R5 x) : mem x = memN x 5 := by
 unfold mem
 rw [if_pos]
 have h1 := hx.1
 have h2 := hx.2
 simp only [isAttr, Bool.and_eq_true, inB_iff, all2]
 exact ⟨by omega, h1, by show x ≤ 1 * 2 ^ 5 - 1; omega⟩
theorem mem_iff {x : Int} (hx : R5 x) {k : Nat} : ((k : Nat) : Int) ∈ mem x ↔ k < 5 ∧ hasB x (k : Nat) = true := by rw [mem_R hx, memN_iff]
theorem lim_key : ∀ x : Fin 32, ∀ c : Fin 6, x.val < 2 ^ c.val → ∀ k : Fin 5, hasB ((x.val : Nat) : Int) ((k.val : Nat) : Int) = true → k.val < c.val := by decide +kernel
theorem att_bit {n : Nat} {x : Int} (hn : n ≤ 5) (h : isAttr (n : Nat) x = true) {k : Nat} (hk : k < 5) (hb : hasB x (k : Nat) = true) : k < n := by
 have h1 := isAttr_le h
 obtain ⟨_, _, x0, x31⟩ := h1
 simp only [isAttr, Bool.and_eq_true, inB_iff, all2, Int.toNat_natCast] at h
 have e2 : ((2 ^ n : Nat) : Int) = (2 : Int) ^ n := by simp
 have := lim_key ⟨x.toNat, by omega⟩ ⟨n, by omega⟩ (by dsimp only; omega) ⟨k, hk⟩
 dsimp only at this
 rw [show ((x.toNat : Nat) : Int) = x by omega] at this
 exact this hb
theorem all2_two {n : Nat} : all2 n = ((2 ^ n : Nat) : Int) - 1 := by
 unfold all2
 rw [Int.toNat_natCast]
 have e2 : ((2 ^ n : Nat) : Int) = (2 : Int) ^ n := by simp
 omega
theorem all2_has : ∀ n : Fin 6, ∀ k : Fin 5, (0 ≤ all2 ((n.val : Nat) : Int) ∧ all2 ((n.val : Nat) : Int) ≤ 31) ∧ hasB (all2 ((n.val : Nat) : Int)) ((k.val : Nat) : Int) = decide (k.val < n.val) := by decide +kernel
structure PtP (n : Nat) (ps : List Int) : Prop where
  n5 : 1 ≤ n ∧ n ≤ 5
  len : 1 ≤ ps.length ∧ ps.length ≤ 10
  R : ∀ p ∈ ps, R5 p
  lim : ∀ p ∈ ps, ∀ k : Nat, k < 5 → hasB p (k : Nat) = true → k < n
  all : ∀ k : Nat, k < n → ∃ p ∈ ps, hasB p (k : Nat) = true
end Go.Own
/-
  Plain law: what the chase ends with. Conditions: as each theorem states them.
-/
namespace Go.Own
open Go Go.Proofs
def agOn (n : Nat) (x y : List Int) (l : Int) : Prop := ∀ k : Nat, k < 5 → hasB l (k : Nat) = true → k < n ∧ x.getD k 0 = y.getD k 0
theorem agOn.symm {n : Nat} {x y : List Int} {l : Int} (h : agOn n x y l) : agOn n y x l := fun k hk hb => ⟨(h k hk hb).1, (h k hk hb).2.symm⟩
theorem eqc0 {a b : Int} : eqc 0 a b = (a == b) := by simp [eqc, modeOK]
theorem ins_ag {n : Nat} (hn : n ≤ 5) {a b : List Int} {l : Int} (hl : R5 l) : insB l (agL 0 a b n) = true ↔ agOn n a b l := by
 have h := (@agL_all 0 a b n hn).2
 have hR : R5 (agL 0 a b n) := agL_range hn
 rw [insB_iff hl hR]
 constructor
 ·intro h1 k hk hb
  have := h1 ⟨k, hk⟩ hb
  dsimp only at this
  rw [h k hk, Bool.and_eq_true, decide_eq_true_eq, eqc0, beq_iff_eq] at this
  exact this
 ·intro h1 c hb
  have := h1 c.val c.isLt hb
  rw [h c.val c.isLt, Bool.and_eq_true, decide_eq_true_eq, eqc0, beq_iff_eq]
  exact this
theorem bad_iff {n : Nat} (hn : n ≤ 5) {a b : List Int} {l r : Int} (hl : R5 l) (hr : 0 ≤ r ∧ r < n) : badS (agL 0 a b n) l r = true ↔ agOn n a b l ∧ a.getD r.toNat 0 ≠ b.getD r.toNat 0 := by
 have hR : R5 (agL 0 a b n) := agL_range hn
 have h := (@agL_all 0 a b n hn).2 r.toNat (by omega)
 rw [show ((r.toNat : Nat) : Int) = r by omega, decide_eq_true (by omega), Bool.true_and, eqc0] at h
 rw [← bad_eq hR hl ⟨by omega, by omega⟩]
 unfold badI
 rw [Bool.and_eq_true, h, ← ins_ag hn hl]
 simp [insB]
def satD (n : Nat) (rs : List (List Int)) (d : Int × Int) : Prop := ∀ x ∈ rs, ∀ y ∈ rs, agOn n x y d.1 → x.getD d.2.toNat 0 = y.getD d.2.toNat 0
theorem hd_sat {n : Nat} {rs : List (List Int)} {d : Int × Int} (hn : n ≤ 5) (hl : R5 d.1) (hr : 0 ≤ d.2 ∧ d.2 < n) (ha : askOK n rs 0 d.1 d.2 = true) : hdB n rs 0 d.1 d.2 = true ↔ satD n rs d := by
 rw [hdB_iff, Int.toNat_natCast]
 constructor
 ·rintro ⟨_, h⟩ x hx y hy hag
  obtain ⟨i, hi, ei⟩ := List.mem_iff_getElem.1 hx
  obtain ⟨j, hj, ej⟩ := List.mem_iff_getElem.1 hy
  have gi : rs.getD i [] = x := by rw [List.getD_eq_getElem?_getD, List.getElem?_eq_getElem hi]; exact ei
  have gj : rs.getD j [] = y := by rw [List.getD_eq_getElem?_getD, List.getElem?_eq_getElem hj]; exact ej
  refine Decidable.byContradiction fun hne => ?_
  rcases Nat.lt_trichotomy i j with hij | hij | hij
  ·have := h i j hij hj
   rw [gi, gj, (bad_iff hn hl hr).2 ⟨hag, hne⟩] at this
   cases this
  ·subst hij
   rw [gi] at gj
   exact hne (by rw [gj])
  ·have := h j i hij hi
   rw [gi, gj, (bad_iff hn hl hr).2 ⟨hag.symm, fun e => hne e.symm⟩] at this
   cases this
 ·intro h
  refine ⟨ha, fun i j hij hj => ?_⟩
  rw [← Bool.not_eq_true, bad_iff hn hl hr]
  rintro ⟨h1, h2⟩
  exact h2 (h _ (getD_mem (by omega) []) _ (getD_mem hj []) h1)
structure DpP (n : Nat) (ds : List (Int × Int)) : Prop where
  n5 : 1 ≤ n ∧ n ≤ 5
  few : ds.length ≤ 20
  R : ∀ d ∈ ds, R5 d.1 ∧ 0 ≤ d.2 ∧ d.2 < n
  lim : ∀ d ∈ ds, ∀ k : Nat, k < 5 → hasB d.1 (k : Nat) = true → k < n
  ok : ∀ d ∈ ds, depOK n d.1 d.2 = true
theorem dpP_of {c : Int} {ds : List (Int × Int)} (h : depsOK c ds = true) : ∃ n : Nat, c = n ∧ DpP n ds := by
 simp only [depsOK, Bool.and_eq_true, inB_iff, decide_eq_true_eq, List.all_eq_true] at h
 obtain ⟨h1, ⟨h2, h3⟩, h4⟩ := h
 obtain ⟨n, rfl⟩ := Int.eq_ofNat_of_zero_le (show 0 ≤ c by omega)
 have hat : ∀ d ∈ ds, isAttr (n : Nat) d.1 = true ∧ 0 ≤ d.2 ∧ d.2 < n := fun d hd => by
  have := h1 d hd
  simp only [depOK, Bool.and_eq_true, inB_iff] at this
  exact ⟨this.1.2, by omega⟩
 have hR : ∀ d ∈ ds, R5 d.1 := fun d hd => by
  have := isAttr_le (hat d hd).1
  exact ⟨this.2.2.1, this.2.2.2⟩
 refine ⟨n, rfl, ⟨by omega, by omega⟩, by omega, fun d hd => ⟨hR d hd, (hat d hd).2⟩, fun d hd k hk hb => ?_, h1⟩
 exact att_bit (by omega) (hat d hd).1 hk hb
theorem csRow_get {n k : Nat} {x v : Int} (hk : k < n) : (csRow n x v).getD k 0 = if hasB x (k : Nat) then 0 else v := by
 simp [csRow, List.getD_eq_getElem?_getD, hk]
end Go.Own
