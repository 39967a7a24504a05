/-
  The laws of orders and of inclusions. Conditions: as each theorem states them.
-/
import Derived.Test.YtcdkbpokannamaaDoorOwnK7
import Derived.Test.YtcdkbpokannamaaDoorOwnK6
namespace Go.Own
open Go Go.Proofs
set_option linter.unusedSimpArgs false
set_option linter.unusedVariables false
set_option maxRecDepth 20000
set_option maxHeartbeats 4000000

theorem tf1 : (true == false) = false := rfl
theorem ft1 : (false == true) = false := rfl
attribute [local go_sem] tf1 ft1 unB_bL bL_length wfB_bL unD_dL dL_length dL_get dL_set dL_inj wfD_dL scal2 beq2 pair_eta

def cBig : Contract := ⟨[], false, fun
  | [.one (.sl 1 l)] => some (WfB l, [⟨false, [.d (.v (.bool (decide (l.length > 1048576))))]⟩], [])
  | _ => none⟩
theorem big_ok : ContractOK E0 15 cBig := by
  refine contract_of_wpc (E := E0) (T := mkT Tryd.prog [] false (fun _ => false) true (fun _ => false)) (mkT_ok (E := E0) .nil) (fn := Tryd.f15) Tryd.func15 (by kernel_rfl) rfl mixedT (by kernel_rfl) rfl ?_
  intro args p rs ms hr
  unfold cBig at hr
  dsimp only at hr
  split at hr
  rotate_left
  · cases hr
  rename_i l
  simp only [Option.some.injEq, Prod.mk.injEq] at hr
  obtain ⟨rfl, rfl, rfl⟩ := hr
  refine ⟨rfl, rfl, Nat.le_of_ble_eq_true rfl, ?_⟩
  have hm : maxLen = 9223372036854775807 := rfl
  rintro h1 bs0
  obtain ⟨bs, rfl, hx⟩ := h1.ex
  clear h1
  (repeat' (first
      | (refine gate_a fun _ => ?_)
      | (refine fork_intro (fun hb => ?_) (fun hb => ?_) <;> (try simp only [ew] at hb))
      | (simp only [go_sem, Nat.reduceLeDiff, Nat.reduceEqDiff, reduceIte, reduceCtorEq, Nat.reduceAdd, Nat.reduceMul, Nat.reduceSub, Nat.reduceLT, Int.reduceLT, Int.reduceLE, Int.reduceNeg, Int.reduceToNat, Nat.reduceBEq, Nat.reduceBNe, Int.reduceGE, Int.reduceGT, *, cBig, Tryd.results15])))
  all_goals first | rfl | (rw [decide_eq_decide]; omega)
def cLawC : Contract := ⟨[], false, fun
  | [.one (.sl 1 l)] => some (WfB l ∧ ∀ b ∈ unB l, 0 ≤ b ∧ b ≤ 255, [⟨false, [.d (.v (.bool true))]⟩], [])
  | _ => none⟩
end Go.Own
