/- Own contracts. Conditions: as each theorem states them. -/
import Derived.Test.YtaigpolfbonjgaaGreatDoorOwnTa
import Derived.Test.YtaigpolfbonjgaaGreatDoorOwnTd
import Derived.Test.YtaigpolfbonjgaaGreatDoorOwnTb
import Derived.Test.YtaigpolfbonjgaaGreatDoorOwnY1
import Derived.Test.YtaigpolfbonjgaaGreatDoorOwnTg
import Derived.Test.YtaigpolfbonjgaaGreatDoorOwnTh
import Derived.Test.YtaigpolfbonjgaaGreatDoorOwnH7
import Derived.Test.YtaigpolfbonjgaaGreatDoorOwnH11
import Derived.Test.YtaigpolfbonjgaaGreatDoorOwnTf
set_option linter.unusedSimpArgs false
set_option linter.unusedVariables false
set_option maxRecDepth 20000
set_option maxHeartbeats 4000000
namespace Go.Own
open Go Go.Proofs
def mvO (xs ys : List Int) : Nat → Nat → Option Int
 | _, 0 => none
 | v, n + 1 => if xs.contains (v : Int) && !ys.contains (v : Int) then some v else mvO xs ys (v + 1) n
def mvR : Option Int → Int × Bool
 | some v => (v, true)
 | none => (0, false)
def mv (c : Int) (rs : List (List Int)) (a b : Int) : Int × Bool := if colsOK c rs a b then mvR (mvO (colL rs a.toNat) (colL rs b.toNat) 0 41) else (0, false)
end Go.Own
namespace Go.Own
open Go Go.Proofs
attribute [local go_sem] unD_dL dL_length dL_get dL_set dL_inj wfD_dL scal2 beq2 pair_eta
end Go.Own
namespace Go.Own
open Go Go.Proofs
attribute [local go_sem] unD_dL dL_length dL_get dL_set dL_inj wfD_dL scal2 beq2 pair_eta
end Go.Own
namespace Go.Own
open Go Go.Proofs
attribute [local go_sem] unD_dL dL_length dL_get dL_set dL_inj wfD_dL scal2 beq2 pair_eta
end Go.Own
/-
  Plain laws: orders and inclusions. Conditions: as each theorem states them.
-/
namespace Go.Own
open Go Go.Proofs
end Go.Own
/-
  Plain law: what an order dependency implies. Conditions: as each theorem states them.
-/
namespace Go.Own
open Go Go.Proofs
theorem hb_key : ∀ x : Fin 32, ∀ c : Fin 5, x.val < 2 ^ c.val → hasB ((x.val : Nat) : Int) ((c.val : Nat) : Int) = false ∧ bitI .or .i64 ((x.val : Nat) : Int) (1 * 2 ^ c.val) ≤ 2 ^ (c.val + 1) - 1 ∧ ∀ r : Fin 5, hasB (bitI .or .i64 ((x.val : Nat) : Int) (1 * 2 ^ c.val)) ((r.val : Nat) : Int) = (hasB ((x.val : Nat) : Int) ((r.val : Nat) : Int) || r.val == c.val) := by decide +kernel
theorem hb_zero : ∀ r : Fin 5, hasB 0 ((r.val : Nat) : Int) = false := by decide +kernel
theorem agL_all {m : Int} {a b : List Int} : ∀ {n : Nat}, n ≤ 5 → (0 ≤ agL m a b n ∧ agL m a b n ≤ 2 ^ n - 1) ∧ ∀ r : Nat, r < 5 → hasB (agL m a b n) (r : Nat) = (decide (r < n) && eqc m (a.getD r 0) (b.getD r 0))
 | 0, _ => ⟨by simp [agL], fun r hr => by
   rw [agL, decide_eq_false (by omega), Bool.false_and]
   exact hb_zero ⟨r, hr⟩⟩
 | c + 1, h => by
  obtain ⟨ih1, ih2⟩ := @agL_all m a b c (by omega)
  have e2 : ((2 ^ c : Nat) : Int) = (2 : Int) ^ c := by simp
  have e3 : (2 : Int) ^ (c + 1) = 2 ^ c * 2 := Int.pow_succ _ _
  have hp := p5 (c := c) (by omega)
  have hx := hb_key ⟨(agL m a b c).toNat, by omega⟩ ⟨c, by omega⟩ (by dsimp only; omega)
  have hor := or_key ⟨(agL m a b c).toNat, by omega⟩ ⟨c, by omega⟩
  dsimp only at hx hor
  rw [show (((agL m a b c).toNat : Nat) : Int) = agL m a b c by omega] at hx hor
  obtain ⟨x1, x2, x3⟩ := hx
  rw [agL]
  cases he : eqc m (a.getD c 0) (b.getD c 0)
  ·rw [if_neg (by decide)]
   refine ⟨by omega, fun r hr => ?_⟩
   by_cases e : r = c
   ·subst e
    rw [x1, he, Bool.and_false]
   ·rw [ih2 r hr]
    congr 1
    rw [Bool.eq_iff_iff, decide_eq_true_eq, decide_eq_true_eq]; omega
  ·rw [if_pos rfl]
   refine ⟨⟨hor.1, x2⟩, fun r hr => ?_⟩
   rw [x3 ⟨r, hr⟩, ih2 r hr]
   dsimp only
   by_cases e : r = c
   ·subst e
    have hlt : decide (r < r + 1) = true := decide_eq_true (by omega)
    rw [hlt, Bool.true_and, beq_self_eq_true, Bool.or_true]
    exact he.symm
   ·rw [beq_eq_false_iff_ne.2 e, Bool.or_false]
    congr 1
    rw [Bool.eq_iff_iff, decide_eq_true_eq, decide_eq_true_eq]; omega
end Go.Own
/-
  The laws of orders and of inclusions. Conditions: as each theorem states them.
-/
namespace Go.Own
open Go Go.Proofs
theorem tf1 : (true == false) = false := rfl
theorem ft1 : (false == true) = false := rfl
attribute [local go_sem] tf1 ft1 unB_bL bL_length wfB_bL unD_dL dL_length dL_get dL_set dL_inj wfD_dL scal2 beq2 pair_eta
def cBig : Contract := ⟨[], false, fun
 | [.one (.sl 1 l)] => some (WfB l, [⟨false, [.d (.v (.bool (decide (l.length > 1048576))))]⟩], [])
 | _ => none⟩
theorem big_ok : ContractOK E0 4 cBig := by
 refine cWpc (E := E0) (T := mkT Tryz.prog [] false (fun _ => false) true (fun _ => false)) (mkT_ok (E := E0) .nil) (fn := Tryz.f4) Tryz.func4 (by kernel_rfl) rfl mixedT (by kernel_rfl) rfl ?_
 intro args p rs ms hr
 unfold cBig at hr
 dsimp only at hr
 split at hr
 rotate_left
 ·cases hr
 rename_i l
 simp only [Option.some.injEq, Prod.mk.injEq] at hr
 obtain ⟨rfl, rfl, rfl⟩ := hr
 refine ⟨rfl, rfl, Nat.le_of_ble_eq_true rfl, ?_⟩
 have hm : maxLen = 9223372036854775807 := rfl
 rintro h1 bs0
 obtain ⟨bs, rfl, hx⟩ := h1.ex
 clear h1
 (repeat' first | refine gA fun _ => ?_ | refine fkI ?_ ?_ <;> intro hb <;> try simp only [ew] at hb | simp only [go_sem, simprocAttr, *, cBig, Tryz.results4])
 all_goals first | rfl | (rw [decide_eq_decide]; omega)
end Go.Own
/-
  The draws of the law of lossless parts; lists of rows compared. Conditions: as each theorem states them.
-/
namespace Go.Own
open Go Go.Proofs
attribute [local go_sem] tf1b ft1b cuO rI rB cuP unB_bL bL_length wfB_bL unD_dL dL_length dL_get dL_set dL_inj wfD_dL scal2 beq2 pair_eta
end Go.Own
/-
  The draws of the law of normal forms. Conditions: as each theorem states them.
-/
namespace Go.Own
open Go Go.Proofs
attribute [local go_sem] tf1b ft1b cuO rI rB cuP unB_bL bL_length wfB_bL unD_dL dL_length dL_get dL_set dL_inj wfD_dL scal2 beq2 pair_eta
def d10 (bs : List Int) : (Int × List (Int × Int)) × Cu := l10M bs (newS bs)
theorem d10_facts {bs : List Int} : (0 ≤ (d10 bs).1.1 ∧ (d10 bs).1.1 ≤ 6) ∧ (d10 bs).1.2.length ≤ 5 := l10M_facts
def cD10 : Contract := ⟨[], false, fun
 | [.one (.sl 1 l)] => some (WfB l ∧ l.length ≤ 1048576 ∧ ∀ b ∈ unB l, 0 ≤ b ∧ b ≤ 255, [⟨false, [.d (.v (.int .i64 (d10 (unB l)).1.1))]⟩, ⟨false, [.own 2 (dL (d10 (unB l)).1.2) 1]⟩], [])
 | _ => none⟩
theorem dScl_ok : ContractOK E0 12 cD10 := by
 refine cWpc (E := E0) (T := mkT Tryz.prog [(23, cNewC), (37, cL10)] false (fun _ => false) true (fun _ => false)) (mkT_ok (E := E0) (.cons newC_ok (.cons l10_ok .nil))) (fn := Tryz.f12) Tryz.func12 (by kernel_rfl) rfl mixedT (by kernel_rfl) rfl ?_
 intro args p rs ms hr
 unfold cD10 at hr
 dsimp only at hr
 split at hr
 rotate_left
 ·cases hr
 rename_i l
 simp only [Option.some.injEq, Prod.mk.injEq] at hr
 obtain ⟨rfl, rfl, rfl⟩ := hr
 refine ⟨rfl, rfl, Nat.le_of_ble_eq_true rfl, ?_⟩
 have hm : maxLen = 9223372036854775807 := rfl
 rintro ⟨h1, h2, h3⟩ bs0
 obtain ⟨bs, rfl, hx⟩ := h1.ex
 clear h1
 rw [bL_length] at h2
 rw [unB_bL] at h3 ⊢
 obtain ⟨k1, k2⟩ := @d10_facts bs
 have eM : l10M bs (0, newH bs) = d10 bs := rfl
 generalize hM : d10 bs = M at *
 have m1 : M.1.2.length ≤ maxLen := Nat.le_trans k2 (by decide)
 (repeat' first | refine gA fun _ => ?_ | refine fkI ?_ ?_ <;> intro hb <;> try simp only [ew, eM, hM] at hb | simp only [go_sem, simprocAttr, *, cD10, cNewC, cL10, Tryz.results12, eM, hM])
 all_goals first | rfl | skip
end Go.Own
/-
  The draws of monitors. Conditions: as each theorem states them.
-/
namespace Go.Own
open Go Go.Proofs
attribute [local go_sem] tf1b ft1b cuO rI rB cuP unB_bL bL_length wfB_bL unD_dL dL_length dL_get dL_set dL_inj wfD_dL scal2 beq2 pair_eta
theorem tblM_tab {bs : List Int} {s : Cu} : tabOK (tblM bs s).1.1 (tblM bs s).1.2 = true := by
 obtain ⟨h1, h2, h3⟩ := @tblM_facts bs s
 unfold tabOK
 simp only [Bool.and_eq_true, decide_eq_true_eq, List.all_eq_true, inB_iff]
 refine ⟨fun r hr => ?_, by omega⟩
 obtain ⟨q1, q2⟩ := h3 r hr
 unfold rowOK
 simp only [Bool.and_eq_true, decide_eq_true_eq, List.all_eq_true, inB_iff]
 refine ⟨fun v hv => ?_, by omega⟩
 have := q2 v hv
 omega
end Go.Own
