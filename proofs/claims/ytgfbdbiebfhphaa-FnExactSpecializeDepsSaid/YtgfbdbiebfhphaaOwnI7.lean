import Derived.Test.YtgfbdbiebfhphaaOwnI6
import Derived.Test.YtgfbdbiebfhphaaOwnF4
namespace Go.Own
open Go Go.Proofs
set_option linter.unusedSimpArgs false
set_option linter.unusedVariables false
set_option maxRecDepth 20000
set_option maxHeartbeats 2000000

attribute [local go_sem] unD_dL dL_length dL_get dL_set dL_inj wfD_dL scal2 beq2 pair_eta dL_scal

/-! The law of SpecializeDeps. -/
def cLawSpc : Contract := ⟨[], false, fun
  | [.one (.sl 2 l), .one (.v (.int .i64 n)), .one (.v (.int .i64 ag))] => some (WfD l ∧ (-9223372036854775808 ≤ n ∧ n ≤ 9223372036854775807) ∧ (-9223372036854775808 ≤ ag ∧ ag ≤ 9223372036854775807), [⟨false, [.d (.v (.bool true))]⟩], [])
  | _ => none⟩
theorem spcF_len {n ag : Int} {ds : List (Int × Int)} : (spcF n ag ds).length ≤ 5 * ds.length := by
  unfold spcF
  cases hv : spcV n ag
  · rw [if_neg (by decide)]; omega
  · rw [if_pos rfl]
    unfold spcV at hv
    rw [Bool.and_eq_true] at hv
    have h1 := (@spcL_facts n ag (isAttr_le hv.2).2.1 ds).1
    have h2 := List.length_filter_le (fun d => (Lib.compact (srtD (spcL n ag ds))).all (lowT d)) (Lib.compact (srtD (spcL n ag ds)))
    have h3 := Lib.compact_length_le (srtD (spcL n ag ds))
    have h4 := @srtD_length (spcL n ag ds)
    unfold spcM
    omega
theorem lawSpc_ok : ContractOK E0 3 cLawSpc := by
  refine contract_of_wpc (E := E0) (T := mkT Try.prog [(9, cSzDepS), (11, cToDepS), (10, cSpcS), (12, cSpc), (13, cEqDepS), (14, cMarkX), (15, cHeldX)] false (fun _ => false) true (fun _ => false)) (mkT_ok (E := E0) (.cons szDepS_ok (.cons toDepS_ok (.cons spcS_ok (.cons spcI_ok (.cons eqDepS_ok (.cons markDS_ok (.cons heldDS_ok .nil)))))))) (fn := Try.f3) Try.func3 (by kernel_rfl) rfl mixedT (by kernel_rfl) rfl ?_
  intro args p rs ms hr
  unfold cLawSpc at hr
  dsimp only at hr
  split at hr
  rotate_left
  · cases hr
  rename_i l n ag
  simp only [Option.some.injEq, Prod.mk.injEq] at hr
  obtain ⟨rfl, rfl, rfl⟩ := hr
  refine ⟨rfl, rfl, Nat.le_of_ble_eq_true rfl, ?_⟩
  have hm : maxLen = 9223372036854775807 := rfl
  rintro ⟨h1, ⟨hn1, hn2⟩, ha1, ha2⟩ bs
  obtain ⟨ds, rfl, hx⟩ := h1.ex
  clear h1
  by_cases hs : szN ds.length 1048576 < 0
  · (repeat' (first
      | (refine gate_a fun _ => ?_)
      | (refine fork_intro (fun hb => ?_) (fun hb => ?_) <;> (try simp only [ew] at hb))
      | (simp only [go_sem, Nat.reduceLeDiff, Nat.reduceEqDiff, reduceIte, reduceCtorEq, Nat.reduceAdd, Nat.reduceMul, Nat.reduceSub, Nat.reduceLT, Int.reduceLT, Int.reduceLE, Int.reduceNeg, Int.reduceToNat, Nat.reduceBEq, Nat.reduceBNe, Int.reduceGE, Int.reduceGT, *, cLawSpc, cSzDepS, cToDepS, cSpcS, cSpc, cEqDepS, cMarkX, cHeldX, Try.results3])))
    all_goals first | contradiction | skip
  · obtain ⟨f1, f2⟩ := szN_facts (Int.le_refl _) hs
    have z6 := @spcF_len n ag ds
    have f1' : ds.length ≤ 1048576 := by unfold szN at hs; split at hs <;> omega
    have ez := @spc_eq n ag ds
    generalize hz : spcF n ag ds = zs at z6 ez
    replace ez := ez.symm
    have z7 : zs.length ≤ 16777216 := by omega
    have zm : zs.length ≤ maxLen := Nat.le_trans z7 (by decide)
    (repeat' (first
      | (refine gate_intro (by first | omega | ((repeat' (first | apply And.intro | assumption | omega | intro _)); done) | ((repeat' (first | apply And.intro | assumption | omega | intro _)); done) | (simp only [maxLen]; omega) | simp_all | (simp_all [maxLen]; omega)) fun _ => ?_)
      | (refine fork_intro (fun hb => ?_) (fun hb => ?_) <;> (try simp only [ew, hz, ez, heldD_marks, markD_length] at hb))
      | (simp only [go_sem, Nat.reduceLeDiff, Nat.reduceEqDiff, reduceIte, reduceCtorEq, Nat.reduceAdd, Nat.reduceMul, Nat.reduceSub, Nat.reduceLT, Int.reduceLT, Int.reduceLE, Int.reduceNeg, Int.reduceToNat, Nat.reduceBEq, Nat.reduceBNe, Int.reduceGE, Int.reduceGT, *, cLawSpc, cSzDepS, cToDepS, cSpcS, cSpc, cEqDepS, cMarkX, cHeldX, Try.results3, hz, ez, heldD_marks, markD_length])))
    all_goals (exfalso; omega)
end Go.Own
