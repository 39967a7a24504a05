/- Own contracts. Conditions: as each theorem states them. -/
import Derived.Test.YtjembhkhgahhiaaGreatOwnC2
import Derived.Test.YtjembhkhgahhiaaGreatOwnE1
import Derived.Test.YtjembhkhgahhiaaGreatOwnC8
import Derived.Test.YtjembhkhgahhiaaGreatOwnY1
import Derived.Test.YtjembhkhgahhiaaGreatOwnTa
set_option linter.unusedSimpArgs false
set_option linter.unusedVariables false
set_option maxRecDepth 20000
set_option maxHeartbeats 4000000
namespace Go.Own
open Go Go.Proofs
def mvO (xs ys : List Int) : Nat → Nat → Option Int
 | _, 0 => none
 | v, n + 1 => if xs.contains (v : Int) && !ys.contains (v : Int) then some v else mvO xs ys (v + 1) n
def mvR : Option Int → Int × Bool
 | some v => (v, true)
 | none => (0, false)
def mv (c : Int) (rs : List (List Int)) (a b : Int) : Int × Bool := if colsOK c rs a b then mvR (mvO (colL rs a.toNat) (colL rs b.toNat) 0 41) else (0, false)
end Go.Own
namespace Go.Own
open Go Go.Proofs
attribute [local go_sem] unD_dL dL_length dL_get dL_set dL_inj wfD_dL scal2 beq2 pair_eta
end Go.Own
namespace Go.Own
open Go Go.Proofs
attribute [local go_sem] unD_dL dL_length dL_get dL_set dL_inj wfD_dL scal2 beq2 pair_eta
end Go.Own
namespace Go.Own
open Go Go.Proofs
attribute [local go_sem] unD_dL dL_length dL_get dL_set dL_inj wfD_dL scal2 beq2 pair_eta
end Go.Own
/-
  Plain laws: orders and inclusions. Conditions: as each theorem states them.
-/
namespace Go.Own
open Go Go.Proofs
end Go.Own
/-
  Plain law: what an order dependency implies. Conditions: as each theorem states them.
-/
namespace Go.Own
open Go Go.Proofs
theorem hb_key : ∀ x : Fin 32, ∀ c : Fin 5, x.val < 2 ^ c.val → hasB ((x.val : Nat) : Int) ((c.val : Nat) : Int) = false ∧ bitI .or .i64 ((x.val : Nat) : Int) (1 * 2 ^ c.val) ≤ 2 ^ (c.val + 1) - 1 ∧ ∀ r : Fin 5, hasB (bitI .or .i64 ((x.val : Nat) : Int) (1 * 2 ^ c.val)) ((r.val : Nat) : Int) = (hasB ((x.val : Nat) : Int) ((r.val : Nat) : Int) || r.val == c.val) := by decide +kernel
theorem hb_zero : ∀ r : Fin 5, hasB 0 ((r.val : Nat) : Int) = false := by decide +kernel
theorem agL_all {m : Int} {a b : List Int} : ∀ {n : Nat}, n ≤ 5 → (0 ≤ agL m a b n ∧ agL m a b n ≤ 2 ^ n - 1) ∧ ∀ r : Nat, r < 5 → hasB (agL m a b n) (r : Nat) = (decide (r < n) && eqc m (a.getD r 0) (b.getD r 0))
 | 0, _ => ⟨by simp [agL], fun r hr => by
   rw [agL, decide_eq_false (by omega), Bool.false_and]
   exact hb_zero ⟨r, hr⟩⟩
 | c + 1, h => by
  obtain ⟨ih1, ih2⟩ := @agL_all m a b c (by omega)
  have e2 : ((2 ^ c : Nat) : Int) = (2 : Int) ^ c := by simp
  have e3 : (2 : Int) ^ (c + 1) = 2 ^ c * 2 := Int.pow_succ _ _
  have hp := p5 (c := c) (by omega)
  have hx := hb_key ⟨(agL m a b c).toNat, by omega⟩ ⟨c, by omega⟩ (by dsimp only; omega)
  have hor := or_key ⟨(agL m a b c).toNat, by omega⟩ ⟨c, by omega⟩
  dsimp only at hx hor
  rw [show (((agL m a b c).toNat : Nat) : Int) = agL m a b c by omega] at hx hor
  obtain ⟨x1, x2, x3⟩ := hx
  rw [agL]
  cases he : eqc m (a.getD c 0) (b.getD c 0)
  ·rw [if_neg (by decide)]
   refine ⟨by omega, fun r hr => ?_⟩
   by_cases e : r = c
   ·subst e
    rw [x1, he, Bool.and_false]
   ·rw [ih2 r hr]
    congr 1
    rw [Bool.eq_iff_iff, decide_eq_true_eq, decide_eq_true_eq]; omega
  ·rw [if_pos rfl]
   refine ⟨⟨hor.1, x2⟩, fun r hr => ?_⟩
   rw [x3 ⟨r, hr⟩, ih2 r hr]
   dsimp only
   by_cases e : r = c
   ·subst e
    have hlt : decide (r < r + 1) = true := decide_eq_true (by omega)
    rw [hlt, Bool.true_and, beq_self_eq_true, Bool.or_true]
    exact he.symm
   ·rw [beq_eq_false_iff_ne.2 e, Bool.or_false]
    congr 1
    rw [Bool.eq_iff_iff, decide_eq_true_eq, decide_eq_true_eq]; omega
end Go.Own
/-
  The laws of orders and of inclusions. Conditions: as each theorem states them.
-/
namespace Go.Own
open Go Go.Proofs
theorem tf1 : (true == false) = false := rfl
theorem ft1 : (false == true) = false := rfl
attribute [local go_sem] tf1 ft1 unB_bL bL_length wfB_bL unD_dL dL_length dL_get dL_set dL_inj wfD_dL scal2 beq2 pair_eta
def cBig : Contract := ⟨[], false, fun
 | [.one (.sl 1 l)] => some (WfB l, [⟨false, [.d (.v (.bool (decide (l.length > 1048576))))]⟩], [])
 | _ => none⟩
theorem big_ok : ContractOK E0 5 cBig := by
 refine cWpc (E := E0) (T := mkT Tryz.prog [] false (fun _ => false) true (fun _ => false)) (mkT_ok (E := E0) .nil) (fn := Tryz.f5) Tryz.func5 (by kernel_rfl) rfl mixedT (by kernel_rfl) rfl ?_
 intro args p rs ms hr
 unfold cBig at hr
 dsimp only at hr
 split at hr
 rotate_left
 ·cases hr
 rename_i l
 simp only [Option.some.injEq, Prod.mk.injEq] at hr
 obtain ⟨rfl, rfl, rfl⟩ := hr
 refine ⟨rfl, rfl, Nat.le_of_ble_eq_true rfl, ?_⟩
 have hm : maxLen = 9223372036854775807 := rfl
 rintro h1 bs0
 obtain ⟨bs, rfl, hx⟩ := h1.ex
 clear h1
 (repeat' (first | (refine gA fun _ => ?_) | (refine fkI (fun hb => ?_) (fun hb => ?_) <;> (try simp only [ew] at hb)) | (simp only [go_sem, Nat.reduceLeDiff, Nat.reduceEqDiff, reduceIte, reduceCtorEq, Nat.reduceAdd, Nat.reduceMul, Nat.reduceSub, Nat.reduceLT, Int.reduceLT, Int.reduceLE, Int.reduceNeg, Int.reduceToNat, Nat.reduceBEq, Nat.reduceBNe, Int.reduceGE, Int.reduceGT, *, cBig, Tryz.results5])))
 all_goals first | rfl | (rw [decide_eq_decide]; omega)
def cLawC : Contract := ⟨[], false, fun
 | [.one (.sl 1 l)] => some (WfB l ∧ ∀ b ∈ unB l, 0 ≤ b ∧ b ≤ 255, [⟨false, [.d (.v (.bool true))]⟩], [])
 | _ => none⟩
end Go.Own
