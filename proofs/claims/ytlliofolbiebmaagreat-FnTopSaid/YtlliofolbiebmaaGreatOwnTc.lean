/-
  Plain law: example tables keep their dependencies. Conditions: as each theorem states them.
-/
import Derived.Test.YtlliofolbiebmaaGreatOwnT2
import Derived.Test.YtlliofolbiebmaaGreatOwnG4
import Derived.Test.YtlliofolbiebmaaGreatOwnT4
import Derived.Test.YtlliofolbiebmaaGreatOwnTb
import Derived.Test.YtlliofolbiebmaaGreatOwnY1
set_option linter.unusedSimpArgs false
set_option linter.unusedVariables false
set_option maxRecDepth 20000
set_option maxHeartbeats 4000000
namespace Go.Own
open Go Go.Proofs
def clsL (ds : List (Int × Int)) : Nat → List Int
 | 0 => []
 | k + 1 => clsL ds k ++ (if clo ds (k : Nat) == ((k : Nat) : Int) then [((k : Nat) : Int)] else [])
theorem clsL_mem {ds : List (Int × Int)} {y : Int} : ∀ {k : Nat}, y ∈ clsL ds k ↔ ∃ x : Nat, x < k ∧ y = x ∧ clo ds y = y
 | 0 => by simp [clsL]
 | k + 1 => by
  rw [clsL, List.mem_append, clsL_mem]
  constructor
  ·rintro (⟨x, hx, rfl, h⟩ | h)
   ·exact ⟨x, by omega, rfl, h⟩
   ·split at h
    ·rename_i hb
     simp only [List.mem_singleton] at h
     exact ⟨k, by omega, h, by rw [h]; exact eq_of_beq hb⟩
    ·cases h
  ·rintro ⟨x, hx, rfl, h⟩
   by_cases e : x = k
   ·subst e; right; rw [if_pos (by rw [beq_iff_eq]; exact h)]; simp
   ·left; exact ⟨x, by omega, rfl, h⟩
theorem clsL_length {ds : List (Int × Int)} : ∀ {k : Nat}, (clsL ds k).length ≤ k
 | 0 => Nat.le_refl _
 | k + 1 => by
  have := @clsL_length ds k
  rw [clsL, List.length_append]
  split <;> simp <;> omega
def clsF (n : Int) (ds : List (Int × Int)) : List Int := if depsOK n ds then clsL ds (2 ^ n.toNat) else []
theorem pow32n {n : Nat} (h : n ≤ 5) : 2 ^ n ≤ 32 := by
 have : (2 : Nat) ^ n ≤ 2 ^ 5 := Nat.pow_le_pow_right (by omega) h
 simpa using this
theorem clsF_facts {n : Int} {ds : List (Int × Int)} : (clsF n ds).length ≤ 32 := by
 unfold clsF
 split
 ·rename_i h
  obtain ⟨m, rfl, hD⟩ := dpP_of h
  have := @clsL_length ds (2 ^ m)
  have := pow32n hD.n5.2
  rw [Int.toNat_natCast]; omega
 ·simp
def amN (al : Int) (cs : List Int) : Nat → List (Int × Int)
 | 0 => []
 | k + 1 => amN al cs k ++ (if cs.getD k 0 == al then [] else [(cs.getD k 0, (k : Int) + 1)])
theorem amN_mem {al : Int} {cs : List Int} {p : Int × Int} : ∀ {k : Nat}, p ∈ amN al cs k → ∃ j, j < k ∧ p = (cs.getD j 0, (j : Int) + 1)
 | 0, h => by cases h
 | k + 1, h => by
  rw [amN, List.mem_append] at h
  rcases h with h | h
  ·obtain ⟨j, hj, e⟩ := amN_mem h
   exact ⟨j, by omega, e⟩
  ·split at h
   ·cases h
   ·rw [List.mem_singleton] at h
    exact ⟨k, by omega, h⟩
theorem amN_length {al : Int} {cs : List Int} : ∀ {k : Nat}, (amN al cs k).length ≤ k
 | 0 => Nat.le_refl _
 | k + 1 => by
  have := @amN_length al cs k
  rw [amN, List.length_append]
  split <;> simp <;> omega
def amRow (n : Nat) (p : Int × Int) : List Int := csRow n p.1 p.2
def amR (n : Nat) (cs : List Int) (k : Nat) : List (List Int) := zeroR n :: (amN (all2 n) cs k).map (amRow n)
def arR (n : Int) (ds : List (Int × Int)) : List (List Int) := if depsOK n ds then amR n.toNat (clsF n ds) (clsF n ds).length else []
def arC (n : Int) (ds : List (Int × Int)) : Int := if depsOK n ds then n else 0
theorem amR_length {n : Nat} {cs : List Int} {k : Nat} : (amR n cs k).length ≤ k + 1 := by
 have := @amN_length (all2 n) cs k
 unfold amR
 rw [List.length_cons, List.length_map]; omega
theorem amR_lens {n : Nat} {cs : List Int} {k : Nat} : ∀ r ∈ amR n cs k, r.length = n := by
 intro r hr
 unfold amR at hr
 rcases List.mem_cons.1 hr with rfl | hr
 ·exact zeroR_length
 ·obtain ⟨p, _, rfl⟩ := List.mem_map.1 hr
  exact csRow_length
theorem arR_facts {n : Int} {ds : List (Int × Int)} : (arR n ds).length ≤ 33 ∧ ∀ r ∈ arR n ds, r.length ≤ 5 := by
 unfold arR
 split
 ·rename_i h
  obtain ⟨m, rfl, hD⟩ := dpP_of h
  have h1 := @amR_length (((m : Nat) : Int).toNat) (clsF m ds) (clsF m ds).length
  have h2 := @clsF_facts m ds
  refine ⟨by omega, fun r hr => ?_⟩
  rw [amR_lens r hr, Int.toNat_natCast]
  exact hD.n5.2
 ·simp
theorem zeroR_get {n k : Nat} : (zeroR n).getD k 0 = 0 := by
 by_cases h : k < n
 ·simp [zeroR, List.getD_eq_getElem?_getD, h]
 ·simp [zeroR, List.getD_eq_getElem?_getD, h]
theorem arR_row {n : Nat} {ds : List (Int × Int)} (h : depsOK n ds = true) {r : List Int} (hr : r ∈ arR n ds) : ∃ x v, R5 x ∧ closedB ds x ∧ (0 ≤ v ∧ v ≤ 32) ∧ (v = 0 → x = all2 n) ∧ (0 < v → x = (clsF n ds).getD (v - 1).toNat 0) ∧ r = csRow n x v := by
 obtain ⟨m, e, hD⟩ := dpP_of h
 have e : n = m := by omega
 subst e
 have hR : ∀ d ∈ ds, depR d := fun d hd => ⟨(hD.R d hd).1, by have := (hD.R d hd).2; have := hD.n5; omega⟩
 unfold arR at hr
 rw [if_pos h, Int.toNat_natCast] at hr
 unfold amR at hr
 rcases List.mem_cons.1 hr with rfl | hr
 ·have ha : ∀ k : Nat, k < 5 → hasB (all2 n) (k : Nat) = decide (k < n) := fun k hk => (all2_has ⟨n, by have := hD.n5; omega⟩ ⟨k, hk⟩).2
  refine ⟨all2 n, 0, (all2_has ⟨n, by have := hD.n5; omega⟩ ⟨0, by omega⟩).1, fun d hd _ => ?_, by omega, fun _ => rfl, fun h => by omega, ?_⟩
  ·have := (hD.R d hd).2
   have := ha d.2.toNat (by have := hD.n5; omega)
   rw [show ((d.2.toNat : Nat) : Int) = d.2 by omega] at this
   rw [this, decide_eq_true (by omega)]
  ·refine ext_getD (by rw [zeroR_length, csRow_length]) fun k => ?_
   by_cases hk : k < n
   ·rw [zeroR_get, csRow_get hk]; split <;> rfl
   ·simp only [List.getD_eq_getElem?_getD]
    rw [List.getElem?_eq_none (by rw [zeroR_length]; omega), List.getElem?_eq_none (by rw [csRow_length]; omega)]
 ·obtain ⟨p, hp, rfl⟩ := List.mem_map.1 hr
  obtain ⟨j, hj, rfl⟩ := amN_mem hp
  have hl := @clsF_facts n ds
  have hE : clsF n ds = clsL ds (2 ^ n) := by unfold clsF; rw [if_pos h, Int.toNat_natCast]
  have hm : List.getD (clsF n ds) j 0 ∈ clsL ds (2 ^ n) := by rw [← hE]; exact getD_mem hj 0
  obtain ⟨x, hx, e1, e2⟩ := clsL_mem.1 hm
  have h32 := pow32n hD.n5.2
  have hx5 : R5 (List.getD (clsF n ds) j 0) := by
   rw [e1]
   exact ⟨by omega, by omega⟩
  have hcl : closedB ds (List.getD (clsF n ds) j 0) := by
   have := clo_closed hR hx5
   rwa [e2] at this
  exact ⟨_, (j : Int) + 1, hx5, hcl, by omega, fun h => by omega, fun _ => by rw [show ((j : Int) + 1 - 1).toNat = j by omega], rfl⟩
theorem arR_sat {n : Nat} {ds : List (Int × Int)} (h : depsOK n ds = true) {T : List (List Int)} (hT : ∀ t ∈ T, t ∈ arR n ds) : ∀ d ∈ ds, satD n T d := by
 obtain ⟨m, e, hD⟩ := dpP_of h
 have e : n = m := by omega
 subst e
 intro d hd s hs t ht hag
 obtain ⟨x, v, hx, cx, hv, x0, x1, rfl⟩ := arR_row h (hT s hs)
 obtain ⟨y, w, hy, cy, hw, y0, y1, rfl⟩ := arR_row h (hT t ht)
 obtain ⟨dR, d0, dn⟩ := hD.R d hd
 by_cases e : v = w
 ·subst e
  have : x = y := by
   by_cases hv0 : v = 0
   ·rw [x0 hv0, y0 hv0]
   ·rw [x1 (by omega), y1 (by omega)]
  rw [this]
 ·have hboth : ∀ k : Nat, k < 5 → hasB d.1 (k : Nat) = true → hasB x (k : Nat) = true ∧ hasB y (k : Nat) = true := fun k hk hb => by
   obtain ⟨kn, he⟩ := hag k hk hb
   rw [csRow_get kn, csRow_get kn] at he
   have ax : v = 0 → hasB x (k : Nat) = true := fun h => by
    rw [x0 h]
    have := (all2_has ⟨n, by have := hD.n5; omega⟩ ⟨k, hk⟩).2
    dsimp only at this
    rw [this, decide_eq_true kn]
   have ay : w = 0 → hasB y (k : Nat) = true := fun h => by
    rw [y0 h]
    have := (all2_has ⟨n, by have := hD.n5; omega⟩ ⟨k, hk⟩).2
    dsimp only at this
    rw [this, decide_eq_true kn]
   cases q1 : hasB x (k : Nat) <;> cases q2 : hasB y (k : Nat) <;> simp only [q1, q2, if_true, Bool.false_eq_true, if_false] at he ax ay ⊢
   ·exact absurd he e
   ·exact absurd (ax he) (by simp)
   ·exact absurd (ay he.symm) (by simp)
   ·exact ⟨trivial, trivial⟩
  have ix : insB d.1 x = true := (insB_iff dR hx).2 fun c hb => (hboth c.val c.isLt hb).1
  have iy : insB d.1 y = true := (insB_iff dR hy).2 fun c hb => (hboth c.val c.isLt hb).2
  have bx := cx d hd ix
  have bY := cy d hd iy
  rw [show d.2 = ((d.2.toNat : Nat) : Int) by omega] at bx bY
  rw [csRow_get (by omega), csRow_get (by omega), if_pos bx, if_pos bY]
theorem arR_tab {n : Nat} {ds : List (Int × Int)} (h : depsOK n ds = true) {T : List (List Int)} (hT : ∀ t ∈ T, t ∈ arR n ds) (hl : T.length ≤ 40) : tabOK n T = true := by
 obtain ⟨m, e, hD⟩ := dpP_of h
 have e : n = m := by omega
 subst e
 have hn := hD.n5
 simp only [tabOK, rowOK, Bool.and_eq_true, List.all_eq_true, decide_eq_true_eq, inB_iff]
 refine ⟨fun r hr => ?_, by omega, by omega⟩
 obtain ⟨x, v, _, _, hv, _, _, rfl⟩ := arR_row h (hT r hr)
 refine ⟨fun y hy => ?_, by rw [csRow_length]⟩
 unfold csRow at hy
 obtain ⟨k, _, rfl⟩ := List.mem_map.1 hy
 split <;> omega
end Go.Own
/-
  Plain law: what greatest sets are; parts; when parts are lossless. Conditions: as each theorem states them.
-/
namespace Go.Own
open Go Go.Proofs
theorem nodup_leN {α : Type} [DecidableEq α] : ∀ {l m : List α}, l.Nodup → (∀ x ∈ l, x ∈ m) → l.length ≤ m.length
 | [], m, _, _ => by simp
 | a :: l, m, h, hm => by
  have h' := List.nodup_cons.1 h
  have ha := hm a (by simp)
  have := nodup_leN (m := m.erase a) h'.2 fun x hx => (List.mem_erase_of_ne (by rintro rfl; exact h'.1 hx)).2 (hm x (by simp [hx]))
  rw [List.length_erase_of_mem ha] at this
  have : 0 < m.length := List.length_pos_of_mem ha
  rw [List.length_cons]; omega
theorem selS_sorted {t : Int → Int → Bool} {l : List Int} : (selS t l).Pairwise (· < ·) := by
 unfold selS
 split
 ·exact dstI_sorted
 ·exact .nil
theorem sorted_nodup {l : List Int} (h : l.Pairwise (· < ·)) : l.Nodup := by
 rw [List.nodup_iff_pairwise_ne]
 exact h.imp fun {x y} hxy => by omega
theorem attr5 {n : Nat} {x : Int} (h : isAttr (n : Nat) x = true) : isAttr 5 x = true := by
 have h1 := isAttr_le h
 simp only [isAttr, Bool.and_eq_true, inB_iff, all2] at h ⊢
 refine ⟨by omega, h.2.1, ?_⟩
 show x ≤ 31
 omega
theorem agree_clo {n : Nat} {ds : List (Int × Int)} {X : List (List Int)} (hD : DpP n ds) (hd : ∀ d ∈ ds, depR d) (hsat : ∀ d ∈ ds, satD n X d) {r s : List Int} (hr : r ∈ X) (hs : s ∈ X) {x : Int} (hx : R5 x) (hag : agOn n r s x) : agOn n r s (clo ds x) := by
 have hn := hD.n5.2
 have hA : R5 (agL 0 r s n) := agL_range hn
 rw [← ins_ag hn (clo_R hd hx), insB_iff (clo_R hd hx) hA]
 refine clo_under hd hx hA ((insB_iff hx hA).1 ((ins_ag hn hx).2 hag)) fun d hd' hi => ?_
 obtain ⟨dR, d0, dn⟩ := hD.R d hd'
 have h1 := hsat d hd' r hr s hs ((ins_ag hn dR).1 hi)
 have h2 := (@agL_all 0 r s n hn).2 d.2.toNat (by omega)
 rw [show ((d.2.toNat : Nat) : Int) = d.2 by omega] at h2
 rw [h2, decide_eq_true (by omega), eqc0, h1, Bool.true_and, beq_self_eq_true]
end Go.Own
/-
  Closed sets, the reference's example tables, all dependencies kept. Conditions: as each theorem states them.
-/
namespace Go.Own
open Go Go.Proofs
attribute [local go_sem] unD_dL dL_length dL_get dL_set dL_inj wfD_dL scal2 beq2 pair_eta
def cCls : Contract := ⟨[], false, fun
 | [.one (.v (.int .i64 n)), .one (.sl 2 l)] => some (WfD l ∧ -9223372036854775808 ≤ n ∧ n ≤ 9223372036854775807, [⟨false, [.own 1 (iL (clsF n (unD l))) 1]⟩], [])
 | _ => none⟩
def cArm : Contract := ⟨[], false, fun
 | [.one (.v (.int .i64 n)), .one (.sl 2 l)] => some (WfD l ∧ -9223372036854775808 ≤ n ∧ n ≤ 9223372036854775807,
   [⟨true, [.d (.v (.int .i64 (arC n (unD l)))), .own 1 (sL (arR n (unD l))) 1]⟩, ⟨false, [.d (.v (.bool (depsOK n (unD l))))]⟩], [])
 | _ => none⟩
theorem repZ {n : Nat} : List.replicate n [D.v (.int .i64 0)] = iL (zeroR n) := by simp [iL, zeroR]
end Go.Own
