import Derived.Test.YtohioponiobalaaOwnV8
namespace Go.Own
open Go Go.Proofs
set_option linter.unusedSimpArgs false
set_option linter.unusedVariables false
set_option maxRecDepth 20000
set_option maxHeartbeats 2000000

/-! OrderHolds -/
def ohB (c : Int) (rs : List (List Int)) (a b : Int) : Bool := colsOK c rs a b && !(ow c rs a b).2.2

def cOH : Contract := ⟨[], false, fun
  | [.agg [.v (.int .i64 c), .sl 1 l], .one (.v (.int .i64 a)), .one (.v (.int .i64 b))] => some (WfS l ∧ -9223372036854775808 ≤ c ∧ c ≤ 9223372036854775807, [⟨false, [.d (.v (.bool (ohB c (unS l) a b)))]⟩], [])
  | _ => none⟩

theorem ohS_ok : ContractOK E0 10 cOH := by
  refine contract_of_wpc (E := E0) (T := mkT Try.prog [(9, cOW), (27, cL15)] false (fun _ => false) true (fun _ => false)) (mkT_ok (E := E0) (.cons owS_ok (.cons l15_ok .nil))) (fn := Try.f10) Try.func10 (by kernel_rfl) rfl mixedT (by kernel_rfl) rfl ?_
  intro args p rs ms hr
  unfold cOH at hr
  dsimp only at hr
  split at hr
  rotate_left
  · cases hr
  rename_i c l a b
  simp only [Option.some.injEq, Prod.mk.injEq] at hr
  obtain ⟨rfl, rfl, rfl⟩ := hr
  refine ⟨rfl, rfl, Nat.le_of_ble_eq_true rfl, ?_⟩
  have hm : maxLen = 9223372036854775807 := rfl
  rintro ⟨h1, hc1, hc2⟩ bs
  obtain ⟨rs, rfl, hx, hy⟩ := h1.ex
  clear h1
  rw [unS_sL]
  unfold ohB
  (repeat' (first
      | (refine gate_a fun _ => ?_)
      | (refine fork_intro (fun hb => ?_) (fun hb => ?_) <;> (try simp only [ew] at hb))
      | (simp only [go_sem, Nat.reduceLeDiff, Nat.reduceEqDiff, reduceIte, reduceCtorEq, Nat.reduceAdd, Nat.reduceMul, Nat.reduceSub, Nat.reduceLT, Int.reduceLT, Int.reduceLE, Int.reduceNeg, Int.reduceToNat, Nat.reduceBEq, Nat.reduceBNe, Int.reduceGE, Int.reduceGT, *, cOH, cOW, cL15, Try.results10])))

theorem ohI_ok : ContractOK E0 7 cOH := by
  refine contract_of_wpc (E := E0) (T := mkT Try.prog [(8, cOW), (26, cL15)] false (fun _ => false) true (fun _ => false)) (mkT_ok (E := E0) (.cons owI_ok (.cons hasBoth_ok .nil))) (fn := Try.f7) Try.func7 (by kernel_rfl) rfl mixedT (by kernel_rfl) rfl ?_
  intro args p rs ms hr
  unfold cOH at hr
  dsimp only at hr
  split at hr
  rotate_left
  · cases hr
  rename_i c l a b
  simp only [Option.some.injEq, Prod.mk.injEq] at hr
  obtain ⟨rfl, rfl, rfl⟩ := hr
  refine ⟨rfl, rfl, Nat.le_of_ble_eq_true rfl, ?_⟩
  have hm : maxLen = 9223372036854775807 := rfl
  rintro ⟨h1, hc1, hc2⟩ bs
  obtain ⟨rs, rfl, hx, hy⟩ := h1.ex
  clear h1
  rw [unS_sL]
  unfold ohB
  (repeat' (first
      | (refine gate_a fun _ => ?_)
      | (refine fork_intro (fun hb => ?_) (fun hb => ?_) <;> (try simp only [ew] at hb))
      | (simp only [go_sem, Nat.reduceLeDiff, Nat.reduceEqDiff, reduceIte, reduceCtorEq, Nat.reduceAdd, Nat.reduceMul, Nat.reduceSub, Nat.reduceLT, Int.reduceLT, Int.reduceLE, Int.reduceNeg, Int.reduceToNat, Nat.reduceBEq, Nat.reduceBNe, Int.reduceGE, Int.reduceGT, *, cOH, cOW, cL15, Try.results7])))

end Go.Own
