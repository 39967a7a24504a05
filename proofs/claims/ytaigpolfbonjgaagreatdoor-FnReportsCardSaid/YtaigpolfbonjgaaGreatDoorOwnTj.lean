/- Own contracts. Conditions: as each theorem states them. -/
import Derived.Test.YtaigpolfbonjgaaGreatDoorOwnTe
import Derived.Test.YtaigpolfbonjgaaGreatDoorOwnTa
import Derived.Test.YtaigpolfbonjgaaGreatDoorOwnG12
set_option linter.unusedSimpArgs false
set_option linter.unusedVariables false
set_option maxRecDepth 20000
set_option maxHeartbeats 2000000
namespace Go.Own
open Go Go.Proofs
attribute [local go_sem] unD_dL dL_length dL_get dL_set dL_inj wfD_dL scal2 beq2 pair_eta
end Go.Own
namespace Go.Own
open Go Go.Proofs
attribute [local go_sem] unD_dL dL_length dL_get dL_set dL_inj wfD_dL scal2 beq2 pair_eta
end Go.Own
namespace Go.Own
open Go Go.Proofs
attribute [local go_sem] unD_dL dL_length dL_get dL_set dL_inj wfD_dL scal2 beq2 pair_eta dL_scal
def cHasD : Contract := ⟨[], false, fun
 | [.one (.sl 2 l), .agg [.v (.int .i64 a), .v (.int .i64 b)]] => some (WfD l, [⟨false, [.d (.v (.bool ((unD l).any fun e => e == (a, b))))]⟩], [])
 | _ => none⟩
theorem hasD_ok : ContractOK E0 140 cHasD := by
 refine cWpc (E := E0) (T := mkT Tryz.prog [] false (fun _ => false) true (fun _ => false)) (mkT_ok (E := E0) .nil) (fn := Tryz.f140) Tryz.func140 (by kernel_rfl) rfl mixedT (by kernel_rfl) rfl ?_
 intro args p rs ms hr
 unfold cHasD at hr
 dsimp only at hr
 split at hr
 rotate_left
 ·cases hr
 rename_i l a b
 simp only [Option.some.injEq, Prod.mk.injEq] at hr
 obtain ⟨rfl, rfl, rfl⟩ := hr
 refine ⟨rfl, rfl, Nat.le_of_ble_eq_true rfl, ?_⟩
 have hm : maxLen = 9223372036854775807 := rfl
 intro h1 bs
 obtain ⟨ds, rfl, hx⟩ := h1.ex
 clear h1
 rw [unD_dL]
 (repeat' first | refine gA fun _ => ?_ | refine fkI ?_ ?_ <;> intro hb <;> try simp only [ew] at hb | simp only [go_sem, simprocAttr, *, cHasD, Tryz.results140])
 refine lpI { ι := Nat, rs := [(4, 5), (6, 7), (10, 17)], mods := [(9, fun i => .one (.d (.v (.int .i64 i))))], boxes := [(3, fun _ => [.d (.v (.int .i64 a)), .d (.v (.int .i64 b))])], arrs := [], ok := fun i => i ≤ ds.length ∧ (ds.drop i).any (fun e => e == (a, b)) = ds.any (fun e => e == (a, b)), mu := fun i => ds.length - i } rfl 0 ⟨Nat.zero_le _, rfl⟩ ?_ fun i hi => ?_
 ·(repeat' first | refine gA fun _ => ?_ | refine fkI ?_ ?_ <;> intro hb <;> try simp only [ew] at hb | simp only [go_sem, simprocAttr, *, cHasD, Tryz.results140])
 ·dsimp only at i hi
  obtain ⟨hi, ht⟩ := hi
  by_cases h5 : i < ds.length
  ·rw [anyb_drop h5 (0, 0)] at ht
   cases hq : (ds.getD i (0, 0) == (a, b))
   ·rw [hq, Bool.false_or] at ht
    (repeat' first | refine gA fun _ => ?_ | refine fkI ?_ ?_ <;> intro hb <;> try simp only [ew, hq] at hb | simp only [go_sem, simprocAttr, *, cHasD, Tryz.results140, hq])
    refine lpN (i + 1) ⟨by omega, ht⟩ (by dsimp only; omega) ?_
    clear ht
    (repeat' first | refine gA fun _ => ?_ | refine fkI ?_ ?_ <;> intro hb <;> try simp only [ew, hq] at hb | simp only [go_sem, simprocAttr, *, cHasD, Tryz.results140, hq])
   ·rw [hq, Bool.true_or] at ht
    rw [← ht]
    clear ht
    (repeat' first | refine gA fun _ => ?_ | refine fkI ?_ ?_ <;> intro hb <;> try simp only [ew, hq] at hb | simp only [go_sem, simprocAttr, *, cHasD, Tryz.results140, hq])
  ·have e5 : i = ds.length := by omega
   subst e5
   rw [List.drop_length, List.any_nil] at ht
   rw [← ht]
   clear ht
   (repeat' first | refine gA fun _ => ?_ | refine fkI ?_ ?_ <;> intro hb <;> try simp only [ew] at hb | simp only [go_sem, simprocAttr, *, cHasD, Tryz.results140])
end Go.Own
