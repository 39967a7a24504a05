/- Own contracts. Conditions: as each theorem states them. -/
import Derived.Test.YtaigpolfbonjgaaGreatDoorOwnE2
import Derived.Test.YtaigpolfbonjgaaGreatDoorOwnY1
set_option linter.unusedSimpArgs false
set_option linter.unusedVariables false
set_option maxRecDepth 20000
set_option maxHeartbeats 2000000
namespace Go.Own
open Go Go.Proofs
def R5 (x : Int) : Prop := 0 ≤ x ∧ x ≤ 31
def insB (l x : Int) : Bool := bitI .andNot .i64 l x == 0
def addB (x r : Int) : Int := bitI .or .i64 x (1 * 2 ^ r.toNat)
def leB (x y : Int) : Prop := ∀ c : Fin 5, hasB x (c.val : Nat) = true → hasB y (c.val : Nat) = true
theorem add_key : ∀ x : Fin 32, ∀ r : Fin 5, (0 ≤ addB ((x.val : Nat) : Int) ((r.val : Nat) : Int) ∧ addB ((x.val : Nat) : Int) ((r.val : Nat) : Int) ≤ 31) ∧ ∀ c : Fin 5, hasB (addB ((x.val : Nat) : Int) ((r.val : Nat) : Int)) ((c.val : Nat) : Int) = (hasB ((x.val : Nat) : Int) ((c.val : Nat) : Int) || c == r) := by decide +kernel
theorem R5.fin {x : Int} (h : R5 x) : ∃ q : Fin 32, x = ((q.val : Nat) : Int) := by
 have h1 : 0 ≤ x := h.1
 have h2 : x ≤ 31 := h.2
 exact ⟨⟨x.toNat, by omega⟩, by show x = ((x.toNat : Nat) : Int); omega⟩
theorem c5 {r : Int} (h : 0 ≤ r ∧ r ≤ 4) : ∃ q : Fin 5, r = ((q.val : Nat) : Int) := ⟨⟨r.toNat, by omega⟩, by show r = ((r.toNat : Nat) : Int); omega⟩
theorem addB_R {x r : Int} (hx : R5 x) (hr : 0 ≤ r ∧ r ≤ 4) : R5 (addB x r) := by
 obtain ⟨x, rfl⟩ := hx.fin; obtain ⟨r, rfl⟩ := c5 hr
 exact (add_key x r).1
theorem addB_has {x : Int} {r : Fin 5} (hx : R5 x) (c : Fin 5) : hasB (addB x (r.val : Nat)) (c.val : Nat) = (hasB x (c.val : Nat) || c == r) := by
 obtain ⟨x, rfl⟩ := hx.fin
 exact (add_key x r).2 c
theorem ins_key : ∀ l x : Fin 32, insB ((l.val : Nat) : Int) ((x.val : Nat) : Int) = decide (∀ c : Fin 5, hasB ((l.val : Nat) : Int) (c.val : Nat) = true → hasB ((x.val : Nat) : Int) (c.val : Nat) = true) := by decide +kernel
theorem insB_iff {l x : Int} (hl : R5 l) (hx : R5 x) : insB l x = true ↔ leB l x := by
 obtain ⟨l, rfl⟩ := hl.fin; obtain ⟨x, rfl⟩ := hx.fin
 rw [ins_key, decide_eq_true_eq]; rfl
theorem ext_key : ∀ x y : Fin 32, (∀ c : Fin 5, hasB ((x.val : Nat) : Int) (c.val : Nat) = hasB ((y.val : Nat) : Int) (c.val : Nat)) → x = y := by decide +kernel
theorem leB_antisymm {x y : Int} (hx : R5 x) (hy : R5 y) (h1 : leB x y) (h2 : leB y x) : x = y := by
 obtain ⟨x, rfl⟩ := hx.fin; obtain ⟨y, rfl⟩ := hy.fin
 rw [ext_key x y fun c => by
  cases e : hasB ((x.val : Nat) : Int) (c.val : Nat) with
  | true => rw [h1 c e]
  | false => cases e2 : hasB ((y.val : Nat) : Int) (c.val : Nat) with
   | true => rw [h2 c e2] at e; cases e
   | false => rfl]
theorem leB.refl (x : Int) : leB x x := fun _ h => h
theorem leB.trans {x y z : Int} (h1 : leB x y) (h2 : leB y z) : leB x z := fun c h => h2 c (h1 c h)
theorem leB_add {x r : Int} (hx : R5 x) (hr : 0 ≤ r ∧ r ≤ 4) : leB x (addB x r) := fun c h => by
 obtain ⟨r, rfl⟩ := c5 hr
 rw [addB_has hx, h]; rfl
theorem leB_addr {x r z : Int} (hx : R5 x) (hr : 0 ≤ r ∧ r ≤ 4) (h1 : leB x z) (h2 : hasB z r = true) : leB (addB x r) z := fun c h => by
 obtain ⟨r, rfl⟩ := c5 hr
 rw [addB_has hx] at h
 rcases Bool.or_eq_true_iff.1 h with h | h
 ·exact h1 c h
 ·rw [eq_of_beq h]; exact h2
theorem has_le {x z r : Int} (hr : 0 ≤ r ∧ r ≤ 4) (h : leB x z) (h2 : hasB x r = true) : hasB z r = true := by
 obtain ⟨r, rfl⟩ := c5 hr
 exact h r h2
def cntB (x : Int) : Nat := (List.range 5).countP fun c => hasB x (c : Nat)
theorem cnt_add {x r : Int} (hx : R5 x) (hr : 0 ≤ r ∧ r ≤ 4) (hn : hasB x r = false) : cntB x < cntB (addB x r) := by
 obtain ⟨r, rfl⟩ := c5 hr
 obtain ⟨x, rfl⟩ := hx.fin
 have : ∀ x : Fin 32, ∀ r : Fin 5, hasB ((x.val : Nat) : Int) (r.val : Nat) = false → cntB ((x.val : Nat) : Int) < cntB (addB ((x.val : Nat) : Int) ((r.val : Nat) : Int)) := by decide +kernel
 exact this x r hn
theorem cnt_le (x : Int) : cntB x ≤ 5 := by
 have := List.countP_le_length (p := fun c : Nat => hasB x (c : Nat)) (l := List.range 5)
 rwa [List.length_range] at this
theorem add_same {x r : Int} (hx : R5 x) (hr : 0 ≤ r ∧ r ≤ 4) (h : hasB x r = true) : addB x r = x := leB_antisymm (addB_R hx hr) hx (leB_addr hx hr (leB.refl _) h) (leB_add hx hr)
theorem and_key : ∀ l x : Fin 32, (bitI .and .i64 ((l.val : Nat) : Int) ((x.val : Nat) : Int) == ((l.val : Nat) : Int)) = insB ((l.val : Nat) : Int) ((x.val : Nat) : Int) := by decide +kernel
theorem and_ins {l x : Int} (hl : R5 l) (hx : R5 x) : (bitI .and .i64 l x == l) = insB l x := by
 obtain ⟨l, rfl⟩ := hl.fin; obtain ⟨x, rfl⟩ := hx.fin
 exact and_key l x
def depR (d : Int × Int) : Prop := R5 d.1 ∧ 0 ≤ d.2 ∧ d.2 ≤ 4
def step1 (x : Int) (d : Int × Int) : Int := if insB d.1 x then addB x d.2 else x
def pass1 (ds : List (Int × Int)) (x : Int) : Int := ds.foldl step1 x
def passN (ds : List (Int × Int)) : Nat → Int → Int
 | 0, x => x
 | n + 1, x => passN ds n (pass1 ds x)
def clo (ds : List (Int × Int)) (x : Int) : Int := passN ds 6 x
def closedB (ds : List (Int × Int)) (y : Int) : Prop := ∀ d ∈ ds, insB d.1 y = true → hasB y d.2 = true
theorem step1_R {x : Int} {d : Int × Int} (hx : R5 x) (hd : depR d) : R5 (step1 x d) := by
 unfold step1; split
 ·exact addB_R hx hd.2
 ·exact hx
theorem step1_le {x : Int} {d : Int × Int} (hx : R5 x) (hd : depR d) : leB x (step1 x d) := by
 unfold step1; split
 ·exact leB_add hx hd.2
 ·exact leB.refl _
theorem step1_under {x z : Int} {d : Int × Int} (hx : R5 x) (hz : R5 z) (hd : depR d) (h : leB x z) (hc : insB d.1 z = true → hasB z d.2 = true) : leB (step1 x d) z := by
 unfold step1; split
 ·rename_i h1
  exact leB_addr hx hd.2 h (hc ((insB_iff hd.1 hz).2 (((insB_iff hd.1 hx).1 h1).trans h)))
 ·exact h
theorem pass1_R : ∀ {ds : List (Int × Int)} {x : Int}, (∀ d ∈ ds, depR d) → R5 x → R5 (pass1 ds x)
 | [], x, _, h => h
 | d :: ds, x, hd, h => pass1_R (ds := ds) (fun d h => hd d (List.mem_cons_of_mem _ h)) (step1_R h (hd d (by simp)))
theorem pass1_le : ∀ {ds : List (Int × Int)} {x : Int}, (∀ d ∈ ds, depR d) → R5 x → leB x (pass1 ds x)
 | [], x, _, h => leB.refl _
 | d :: ds, x, hd, h => (step1_le h (hd d (by simp))).trans (pass1_le (ds := ds) (fun d h => hd d (List.mem_cons_of_mem _ h)) (step1_R h (hd d (by simp))))
theorem pass1_under : ∀ {ds : List (Int × Int)} {x z : Int}, (∀ d ∈ ds, depR d) → R5 x → R5 z → leB x z → closedB ds z → leB (pass1 ds x) z
 | [], x, z, _, _, _, h, _ => h
 | d :: ds, x, z, hd, hx, hz, h, hc => pass1_under (ds := ds) (fun d h => hd d (List.mem_cons_of_mem _ h)) (step1_R hx (hd d (by simp))) hz (step1_under hx hz (hd d (by simp)) h (hc d (by simp))) fun d h => hc d (List.mem_cons_of_mem _ h)
theorem pass1_fix : ∀ {ds : List (Int × Int)} {x : Int}, (∀ d ∈ ds, depR d) → R5 x → (pass1 ds x = x → closedB ds x) ∧ (pass1 ds x ≠ x → cntB x < cntB (pass1 ds x)) ∧ cntB x ≤ cntB (pass1 ds x)
 | [], x, _, h => ⟨(fun _ d h => nomatch h), fun h => absurd rfl h, Nat.le_refl _⟩
 | d :: ds, x, hd, hx => by
  have hd0 := hd d (by simp)
  have hds : ∀ d ∈ ds, depR d := fun d h => hd d (List.mem_cons_of_mem _ h)
  have ih := pass1_fix hds (step1_R hx hd0)
  have e : pass1 (d :: ds) x = pass1 ds (step1 x d) := rfl
  rw [e]
  by_cases hs : insB d.1 x = true ∧ hasB x d.2 = false
  ·have h1 : step1 x d = addB x d.2 := by unfold step1; rw [if_pos hs.1]
   have h2 := cnt_add hx hd0.2 hs.2
   rw [h1] at ih ⊢
   refine ⟨fun h => ?_, fun _ => by omega, by omega⟩
   rw [h] at ih; omega
  ·have h1 : step1 x d = x := by
    unfold step1
    split
    ·rename_i hi
     refine add_same hx hd0.2 ?_
     cases q : hasB x d.2 with
     | true => rfl
     | false => exact absurd ⟨hi, q⟩ hs
    ·rfl
   rw [h1] at ih ⊢
   refine ⟨fun h d' hd' hi => ?_, ih.2⟩
   rcases List.mem_cons.1 hd' with rfl | hd'
   ·cases q : hasB x d'.2 with
    | true => rfl
    | false => exact absurd ⟨hi, q⟩ hs
   ·exact ih.1 h d' hd' hi
theorem passN_stay {ds : List (Int × Int)} {x : Int} (h : pass1 ds x = x) : ∀ n, passN ds n x = x
 | 0 => rfl
 | n + 1 => by rw [passN, h, passN_stay h n]
theorem passN_R {ds : List (Int × Int)} (hd : ∀ d ∈ ds, depR d) : ∀ {n : Nat} {x : Int}, R5 x → R5 (passN ds n x)
 | 0, x, h => h
 | n + 1, x, h => passN_R hd (n := n) (pass1_R hd h)
theorem passN_le {ds : List (Int × Int)} (hd : ∀ d ∈ ds, depR d) : ∀ {n : Nat} {x : Int}, R5 x → leB x (passN ds n x)
 | 0, x, h => leB.refl _
 | n + 1, x, h => (pass1_le hd h).trans (passN_le hd (n := n) (pass1_R hd h))
theorem passN_under {ds : List (Int × Int)} (hd : ∀ d ∈ ds, depR d) {z : Int} (hz : R5 z) (hc : closedB ds z) : ∀ {n : Nat} {x : Int}, R5 x → leB x z → leB (passN ds n x) z
 | 0, x, _, h => h
 | n + 1, x, hx, h => passN_under hd hz hc (n := n) (pass1_R hd hx) (pass1_under hd hx hz h hc)
theorem passN_closed {ds : List (Int × Int)} (hd : ∀ d ∈ ds, depR d) : ∀ {n : Nat} {x : Int}, R5 x → 5 < cntB x + n → closedB ds (passN ds n x)
 | 0, x, _, h => by have := cnt_le x; omega
 | n + 1, x, hx, h => by
  have hf := pass1_fix hd hx
  by_cases e : pass1 ds x = x
  ·rw [passN, e, passN_stay e]
   exact hf.1 e
  ·have := hf.2.1 e
   exact passN_closed hd (n := n) (pass1_R hd hx) (by omega)
theorem clo_R {ds : List (Int × Int)} {x : Int} (hd : ∀ d ∈ ds, depR d) (hx : R5 x) : R5 (clo ds x) := passN_R hd hx
theorem clo_closed {ds : List (Int × Int)} {x : Int} (hd : ∀ d ∈ ds, depR d) (hx : R5 x) : closedB ds (clo ds x) := passN_closed hd hx (by omega)
theorem clo_le {ds : List (Int × Int)} {x : Int} (hd : ∀ d ∈ ds, depR d) (hx : R5 x) : leB x (clo ds x) := passN_le hd hx
theorem clo_under {ds : List (Int × Int)} {x z : Int} (hd : ∀ d ∈ ds, depR d) (hx : R5 x) (hz : R5 z) (h : leB x z) (hc : closedB ds z) : leB (clo ds x) z := passN_under hd hz hc hx h
theorem clo_eq {ds : List (Int × Int)} {x y : Int} (hd : ∀ d ∈ ds, depR d) (hx : R5 x) (hy : R5 y) (h1 : leB x y) (h2 : leB y (clo ds x)) (hc : closedB ds y) : y = clo ds x :=
 leB_antisymm hy (clo_R hd hx) h2 (clo_under hd hx hy h1 hc)
theorem deps_R {n : Int} {ds : List (Int × Int)} (h : ds.all (fun d => depOK n d.1 d.2) = true) : ∀ d ∈ ds, depR d := by
 intro d hd
 have := List.all_eq_true.1 h d hd
 simp only [depOK, Bool.and_eq_true, inB_iff] at this
 have h2 := isAttr_le this.1.2
 exact ⟨⟨h2.2.2.1, h2.2.2.2⟩, by omega, by omega⟩
end Go.Own
namespace Go.Own
open Go Go.Proofs
def appB (x : Int) (d : Int × Int) : Bool := insB d.1 x && !hasB x d.2
def fstA (ds : List (Int × Int)) (x : Int) : Option Nat := ds.findIdx? (appB x)
def derF (ds : List (Int × Int)) (r : Int) : Nat → Int → List (Int × Int × Int)
 | 0, _ => []
 | k + 1, x => if hasB x r then [] else match fstA ds x with
  | none => []
  | some i => ((i : Int), x, addB x (ds.getD i (0, 0)).2) :: derF ds r k (addB x (ds.getD i (0, 0)).2)
def der (ds : List (Int × Int)) (r x : Int) : List (Int × Int × Int) := derF ds r 6 x
theorem fstA_some {ds : List (Int × Int)} {x : Int} {i : Nat} (h : i < ds.length) (ha : appB x (ds.getD i (0, 0)) = true) (hn : ∀ j, j < i → appB x (ds.getD j (0, 0)) = false) : fstA ds x = some i := by
 unfold fstA
 rw [List.findIdx?_eq_some_iff_getElem]
 refine ⟨h, ?_, fun j hj => ?_⟩
 ·simpa [List.getD_eq_getElem?_getD, h] using ha
 ·have := hn j hj
  have hj2 : j < ds.length := by omega
  simpa [List.getD_eq_getElem?_getD, hj2] using this
theorem fstA_none {ds : List (Int × Int)} {x : Int} (hn : ∀ j, j < ds.length → appB x (ds.getD j (0, 0)) = false) : fstA ds x = none := by
 unfold fstA
 rw [List.findIdx?_eq_none_iff]
 intro d hd
 obtain ⟨j, hj, e⟩ := List.getElem_of_mem hd
 have := hn j hj
 simp only [List.getD_eq_getElem?_getD, hj, List.getElem?_eq_getElem, Option.getD_some, e] at this
 exact this
theorem fstA_spec {ds : List (Int × Int)} {x : Int} {i : Nat} (h : fstA ds x = some i) : i < ds.length ∧ appB x (ds.getD i (0, 0)) = true := by
 unfold fstA at h
 rw [List.findIdx?_eq_some_iff_getElem] at h
 obtain ⟨h1, h2, _⟩ := h
 exact ⟨h1, by simpa [List.getD_eq_getElem?_getD, h1] using h2⟩
theorem appB_cnt {ds : List (Int × Int)} {x : Int} {i : Nat} (hd : ∀ d ∈ ds, depR d) (hx : R5 x) (hi : i < ds.length) (h : appB x (ds.getD i (0, 0)) = true) : cntB x < cntB (addB x (ds.getD i (0, 0)).2) ∧ R5 (addB x (ds.getD i (0, 0)).2) := by
 have hm := hd _ (getD_mem hi (0, 0))
 simp only [appB, Bool.and_eq_true, Bool.not_eq_true'] at h
 exact ⟨cnt_add hx hm.2 h.2, addB_R hx hm.2⟩
theorem derF_two {ds : List (Int × Int)} {r : Int} (hd : ∀ d ∈ ds, depR d) : ∀ {k k' : Nat} {x : Int}, R5 x → 5 < cntB x + k → 5 < cntB x + k' → derF ds r k x = derF ds r k' x
 | 0, _, x, _, h, _ => by have := cnt_le x; omega
 | _ + 1, 0, x, _, _, h => by have := cnt_le x; omega
 | k + 1, k' + 1, x, hx, h, h' => by
  rw [derF, derF]
  split
  ·rfl
  ·cases e : fstA ds x with
   | none => rfl
   | some i =>
    obtain ⟨h1, h2⟩ := fstA_spec e
    obtain ⟨h3, h4⟩ := appB_cnt hd hx h1 h2
    dsimp only
    rw [derF_two hd (k := k) (k' := k') h4 (by omega) (by omega)]
theorem der_has {ds : List (Int × Int)} {r x : Int} (h : hasB x r = true) : der ds r x = [] := by
 unfold der; rw [derF, if_pos h]
theorem der_none {ds : List (Int × Int)} {r x : Int} (h : fstA ds x = none) : der ds r x = [] := by
 unfold der; rw [derF, h]; split <;> rfl
theorem der_some {ds : List (Int × Int)} {r x : Int} {i : Nat} (hd : ∀ d ∈ ds, depR d) (hx : R5 x) (h0 : hasB x r = false) (h : fstA ds x = some i) :
  der ds r x = ((i : Int), x, addB x (ds.getD i (0, 0)).2) :: der ds r (addB x (ds.getD i (0, 0)).2) := by
 obtain ⟨h1, h2⟩ := fstA_spec h
 obtain ⟨h3, h4⟩ := appB_cnt hd hx h1 h2
 unfold der
 rw [derF, if_neg (by rw [h0]; decide), h]
 dsimp only
 rw [derF_two hd (k := 5) (k' := 6) h4 (by omega) (by omega)]
theorem app_ex {ds : List (Int × Int)} {x0 x r : Int} (hd : ∀ d ∈ ds, depR d) (h0 : R5 x0) (hx : R5 x) (hr : 0 ≤ r ∧ r ≤ 4) (hl : leB x0 x) (hc : hasB (clo ds x0) r = true) (hn : ∀ j, j < ds.length → appB x (ds.getD j (0, 0)) = false) : hasB x r = true := by
 refine has_le hr (clo_under hd h0 hx hl fun d hdm hi => ?_) hc
 obtain ⟨j, hj, e⟩ := List.getElem_of_mem hdm
 have := hn j hj
 simp only [List.getD_eq_getElem?_getD, hj, List.getElem?_eq_getElem, Option.getD_some, e, appB, hi, Bool.true_and, Bool.not_eq_false'] at this
 exact this
theorem derF_all {ds : List (Int × Int)} {r : Int} (hd : ∀ d ∈ ds, depR d) : ∀ {k : Nat} {x : Int}, R5 x → (derF ds r k x).length ≤ k ∧ ∀ s ∈ derF ds r k x, (0 ≤ s.1 ∧ s.1 < ds.length) ∧ R5 s.2.1 ∧ R5 s.2.2
 | 0, x, _ => by simp [derF]
 | k + 1, x, hx => by
  rw [derF]
  split
  ·simp
  ·cases e : fstA ds x with
   | none => simp
   | some i =>
    obtain ⟨h1, h2⟩ := fstA_spec e
    obtain ⟨h3, h4⟩ := appB_cnt hd hx h1 h2
    obtain ⟨i1, i2⟩ := derF_all hd (k := k) (r := r) h4
    dsimp only
    refine ⟨by simpa using i1, fun s hs => ?_⟩
    rcases List.mem_cons.1 hs with rfl | hs
    ·exact ⟨⟨by dsimp only; omega, by dsimp only; omega⟩, hx, h4⟩
    ·exact i2 s hs
def d3L (xs : List (Int × Int × Int)) : List (List D) := xs.map fun q => [D.v (.int .i64 q.1), D.v (.int .i64 q.2.1), D.v (.int .i64 q.2.2)]
def un3 (l : List (List D)) : List (Int × Int × Int) := l.map fun
 | [.v (.int .i64 a), .v (.int .i64 b), .v (.int .i64 c)] => (a, b, c)
 | _ => (0, 0, 0)
theorem un3_d3L (xs : List (Int × Int × Int)) : un3 (d3L xs) = xs := by simp [un3, d3L, Function.comp_def]
theorem d3L_length (xs : List (Int × Int × Int)) : (d3L xs).length = xs.length := by simp [d3L]
theorem d3L_get {xs : List (Int × Int × Int)} {i : Nat} (h : i < xs.length) : (d3L xs).getD i [] = [D.v (.int .i64 (xs.getD i (0, 0, 0)).1), D.v (.int .i64 (xs.getD i (0, 0, 0)).2.1), D.v (.int .i64 (xs.getD i (0, 0, 0)).2.2)] := by
 simp [d3L, List.getD_eq_getElem?_getD, h]
theorem d3L_snoc {xs : List (Int × Int × Int)} {a b c : Int} : d3L xs ++ [[D.v (.int .i64 a), D.v (.int .i64 b), D.v (.int .i64 c)]] = d3L (xs ++ [(a, b, c)]) := by simp [d3L]
theorem scal3 {a b c : Value} : (∀ x ∈ [D.v a, D.v b, D.v c], Scalar x) ↔ True := by
 refine ⟨fun _ => trivial, fun _ x hx => ?_⟩
 simp only [List.mem_cons, List.not_mem_nil, or_false] at hx
 rcases hx with rfl | rfl | rfl <;> trivial
end Go.Own
