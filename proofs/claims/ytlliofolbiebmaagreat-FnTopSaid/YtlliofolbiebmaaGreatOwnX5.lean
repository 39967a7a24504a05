/- Own contracts. Conditions: as each theorem states them. -/
import Derived.Test.YtlliofolbiebmaaGreatOwnH8
import Derived.Test.YtlliofolbiebmaaGreatOwnY3
import Derived.Test.YtlliofolbiebmaaGreatOwnT7
set_option linter.unusedSimpArgs false
set_option linter.unusedVariables false
set_option maxRecDepth 20000
set_option maxHeartbeats 2000000
namespace Go.Own
open Go Go.Proofs
attribute [local go_sem] unD_dL dL_length dL_get dL_set dL_inj wfD_dL scal2 beq2 pair_eta dL_scal
def isM (c : Int) (rs : List (List Int)) (m : Int) (qs : List (Int × Int)) : Bool := (tabOK c rs && modeOK m) && qs == mdL c rs m
def cIsM : Contract := ⟨[], false, fun
 | [.agg [.v (.int .i64 c), .sl 1 l, .v (.int .i64 m), .sl 2 q]] => some (WfS l ∧ WfD q ∧ -9223372036854775808 ≤ c ∧ c ≤ 9223372036854775807, [⟨false, [.d (.v (.bool (isM c (unS l) m (unD q))))]⟩], [])
 | _ => none⟩
theorem isMI_ok : ContractOK E0 60 cIsM := by
 refine contract_of_wpc (E := E0) (T := mkT Tryz.prog [(29, cIsTableS), (30, cMode), (7, cMD), (78, cEqDepS)] false (fun _ => false) true (fun _ => false)) (mkT_ok (E := E0) (.cons isTableI_ok (.cons modeI_ok (.cons mdI_ok (.cons sameDepsI_ok .nil))))) (fn := Tryz.f60) Tryz.func60 (by kernel_rfl) rfl mixedT (by kernel_rfl) rfl ?_
 intro args p rs ms hr
 unfold cIsM at hr
 dsimp only at hr
 split at hr
 rotate_left
 ·cases hr
 rename_i c l m q
 simp only [Option.some.injEq, Prod.mk.injEq] at hr
 obtain ⟨rfl, rfl, rfl⟩ := hr
 refine ⟨rfl, rfl, Nat.le_of_ble_eq_true rfl, ?_⟩
 have hm : maxLen = 9223372036854775807 := rfl
 rintro ⟨h1, h2, hc1, hc2⟩ bs
 obtain ⟨rs, rfl, hx, hy⟩ := h1.ex
 obtain ⟨ds, rfl, hd⟩ := h2.ex
 clear h1 h2
 rw [unS_sL, unD_dL]
 unfold isM
 have h3 := (@mdL_facts c rs m).1
 cases h4 : tabOK c rs
 ·rw [Bool.false_and, Bool.false_and]
  (repeat' (first | (refine gate_a fun _ => ?_) | (refine fork_intro (fun hb => ?_) (fun hb => ?_) <;> (try simp only [ew, h4] at hb)) | (simp only [go_sem, Nat.reduceLeDiff, Nat.reduceEqDiff, reduceIte, reduceCtorEq, Nat.reduceAdd, Nat.reduceMul, Nat.reduceSub, Nat.reduceLT, Int.reduceLT, Int.reduceLE, Int.reduceNeg, Int.reduceToNat, Nat.reduceBEq, Nat.reduceBNe, Int.reduceGE, Int.reduceGT, *, cIsM, cIsTableS, cMode, cMD, cEqDepS, Tryz.results60, h4])))
 ·cases h5 : modeOK m
  ·rw [Bool.and_false, Bool.false_and]
   (repeat' (first | (refine gate_a fun _ => ?_) | (refine fork_intro (fun hb => ?_) (fun hb => ?_) <;> (try simp only [ew, h4, h5] at hb)) | (simp only [go_sem, Nat.reduceLeDiff, Nat.reduceEqDiff, reduceIte, reduceCtorEq, Nat.reduceAdd, Nat.reduceMul, Nat.reduceSub, Nat.reduceLT, Int.reduceLT, Int.reduceLE, Int.reduceNeg, Int.reduceToNat, Nat.reduceBEq, Nat.reduceBNe, Int.reduceGE, Int.reduceGT, *, cIsM, cIsTableS, cMode, cMD, cEqDepS, Tryz.results60, h4, h5])))
  ·rw [Bool.and_true, Bool.true_and]
   generalize hz : mdL c rs m = zs at h3 ⊢
   (repeat' (first | (refine gate_a fun _ => ?_) | (refine fork_intro (fun hb => ?_) (fun hb => ?_) <;> (try simp only [ew, h4, h5, hz] at hb)) | (simp only [go_sem, Nat.reduceLeDiff, Nat.reduceEqDiff, reduceIte, reduceCtorEq, Nat.reduceAdd, Nat.reduceMul, Nat.reduceSub, Nat.reduceLT, Int.reduceLT, Int.reduceLE, Int.reduceNeg, Int.reduceToNat, Nat.reduceBEq, Nat.reduceBNe, Int.reduceGE, Int.reduceGT, *, cIsM, cIsTableS, cMode, cMD, cEqDepS, Tryz.results60, h4, h5, hz])))
end Go.Own
namespace Go.Own
open Go Go.Proofs
attribute [local go_sem] unD_dL dL_length dL_get dL_set dL_inj wfD_dL scal2 beq2 pair_eta dL_scal
def cCopyT : Contract := ⟨[], false, fun
 | [.agg [.v (.int .i64 c), .sl 1 l]] => some (WfS l ∧ l.length ≤ 16777216 ∧ ∀ r ∈ unS l, r.length ≤ 16777216, [⟨true, [.d (.v (.int .i64 c)), .own 1 l 1]⟩], [])
 | _ => none⟩
theorem copyTI_ok : ContractOK E0 37 cCopyT := by
 refine contract_of_wpc (E := E0) (T := mkT Tryz.prog [(76, cCopyR)] false (fun _ => false) true (fun _ => false)) (mkT_ok (E := E0) (.cons copyR_ok .nil)) (fn := Tryz.f37) Tryz.func37 (by kernel_rfl) rfl mixedT (by kernel_rfl) rfl ?_
 intro args p rs ms hr
 unfold cCopyT at hr
 dsimp only at hr
 split at hr
 rotate_left
 ·cases hr
 rename_i c l
 simp only [Option.some.injEq, Prod.mk.injEq] at hr
 obtain ⟨rfl, rfl, rfl⟩ := hr
 refine ⟨rfl, rfl, Nat.le_of_ble_eq_true rfl, ?_⟩
 have hm : maxLen = 9223372036854775807 := rfl
 rintro ⟨h1, h2, h3⟩ bs
 obtain ⟨rs, rfl, hx, hy⟩ := h1.ex
 clear h1
 rw [unS_sL] at h3
 rw [sL_length] at h2
 (repeat' (first | (refine gate_a fun _ => ?_) | (refine fork_intro (fun hb => ?_) (fun hb => ?_) <;> (try simp only [ew] at hb)) | (simp only [go_sem, Nat.reduceLeDiff, Nat.reduceEqDiff, reduceIte, reduceCtorEq, Nat.reduceAdd, Nat.reduceMul, Nat.reduceSub, Nat.reduceLT, Int.reduceLT, Int.reduceLE, Int.reduceNeg, Int.reduceToNat, Nat.reduceBEq, Nat.reduceBNe, Int.reduceGE, Int.reduceGT, *, cCopyT, cCopyR, Tryz.results37])))
def nmB (c : Int) (rs : List (List Int)) (m : Int) : Bool := tabOK c rs && modeOK m
def nmC (c : Int) (rs : List (List Int)) (m : Int) : Int := if nmB c rs m then c else 0
def nmR (c : Int) (rs : List (List Int)) (m : Int) : List (List Int) := if nmB c rs m then rs else []
def nmM (c : Int) (rs : List (List Int)) (m : Int) : Int := if nmB c rs m then m else 0
theorem tab_small {c : Int} {rs : List (List Int)} (h : tabOK c rs = true) : rs.length ≤ 40 ∧ ∀ r ∈ rs, r.length ≤ 5 := by
 obtain ⟨n, rfl, n1, n5, h40, hl⟩ := tab_rows h
 refine ⟨h40, fun r hr => ?_⟩
 obtain ⟨i, hi, rfl⟩ := List.getElem_of_mem hr
 have := hl i hi
 simp only [List.getD_eq_getElem?_getD, List.getElem?_eq_getElem hi, Option.getD_some] at this
 omega
def cNewM : Contract := ⟨[], false, fun
 | [.agg [.v (.int .i64 c), .sl 1 l], .one (.v (.int .i64 m))] => some (WfS l ∧ -9223372036854775808 ≤ c ∧ c ≤ 9223372036854775807,
   [⟨true, [.d (.v (.int .i64 (nmC c (unS l) m))), .own 1 (sL (nmR c (unS l) m)) 1, .d (.v (.int .i64 (nmM c (unS l) m))), .own 2 (dL (mdL c (unS l) m)) 1]⟩, ⟨false, [.d (.v (.bool (nmB c (unS l) m)))]⟩], [])
 | _ => none⟩
theorem newMI_ok : ContractOK E0 20 cNewM := by
 refine contract_of_wpc (E := E0) (T := mkT Tryz.prog [(29, cIsTableS), (30, cMode), (37, cCopyT), (7, cMD)] false (fun _ => false) true (fun _ => false)) (mkT_ok (E := E0) (.cons isTableI_ok (.cons modeI_ok (.cons copyTI_ok (.cons mdI_ok .nil))))) (fn := Tryz.f20) Tryz.func20 (by kernel_rfl) rfl mixedT (by kernel_rfl) rfl ?_
 intro args p rs ms hr
 unfold cNewM at hr
 dsimp only at hr
 split at hr
 rotate_left
 ·cases hr
 rename_i c l m
 simp only [Option.some.injEq, Prod.mk.injEq] at hr
 obtain ⟨rfl, rfl, rfl⟩ := hr
 refine ⟨rfl, rfl, Nat.le_of_ble_eq_true rfl, ?_⟩
 have hm : maxLen = 9223372036854775807 := rfl
 rintro ⟨h1, hc1, hc2⟩ bs
 obtain ⟨rs, rfl, hx, hy⟩ := h1.ex
 clear h1
 rw [unS_sL]
 cases hv : (tabOK c rs && modeOK m)
 ·have e1 : nmC c rs m = 0 := by unfold nmC nmB; rw [hv]; rfl
  have e2 : nmR c rs m = [] := by unfold nmR nmB; rw [hv]; rfl
  have e3 : nmM c rs m = 0 := by unfold nmM nmB; rw [hv]; rfl
  have e4 : nmB c rs m = false := hv
  have e5 : mdL c rs m = [] := by unfold mdL; rw [hv]; rfl
  have e6 : (!tabOK c rs || !modeOK m) = true := by rw [← Bool.not_and, hv]; rfl
  have e0 : dL [] = [] := rfl
  have e7 : sL [] = [] := rfl
  rw [e1, e2, e3, e4, e5]
  clear e1 e2 e3 e4 e5 hv
  (repeat' (first | (refine gate_a fun _ => ?_) | (refine fork_intro (fun hb => ?_) (fun hb => ?_) <;> (try simp only [ew, e6, e0, e7] at hb)) | (simp only [go_sem, Nat.reduceLeDiff, Nat.reduceEqDiff, reduceIte, reduceCtorEq, Nat.reduceAdd, Nat.reduceMul, Nat.reduceSub, Nat.reduceLT, Int.reduceLT, Int.reduceLE, Int.reduceNeg, Int.reduceToNat, Nat.reduceBEq, Nat.reduceBNe, Int.reduceGE, Int.reduceGT, *, cNewM, cIsTableS, cMode, cCopyT, cMD, Tryz.results20, e6, e0, e7])))
  all_goals first | rfl | skip
 ·have e1 : nmC c rs m = c := by unfold nmC nmB; rw [hv]; rfl
  have e2 : nmR c rs m = rs := by unfold nmR nmB; rw [hv]; rfl
  have e3 : nmM c rs m = m := by unfold nmM nmB; rw [hv]; rfl
  have e4 : nmB c rs m = true := hv
  have e6 : (!tabOK c rs || !modeOK m) = false := by rw [← Bool.not_and, hv]; rfl
  rw [e1, e2, e3, e4]
  clear e1 e2 e3 e4
  rw [Bool.and_eq_true] at hv
  obtain ⟨t1, t2⟩ := tab_small hv.1
  have t3 : ∀ r ∈ rs, r.length ≤ 16777216 := fun r hr => Nat.le_trans (t2 r hr) (by decide)
  clear hv t2
  have h3 := (@mdL_facts c rs m).1
  generalize hz : mdL c rs m = zs at h3 ⊢
  (repeat' (first | (refine gate_a fun _ => ?_) | (refine fork_intro (fun hb => ?_) (fun hb => ?_) <;> (try simp only [ew, e6, hz] at hb)) | (simp only [go_sem, Nat.reduceLeDiff, Nat.reduceEqDiff, reduceIte, reduceCtorEq, Nat.reduceAdd, Nat.reduceMul, Nat.reduceSub, Nat.reduceLT, Int.reduceLT, Int.reduceLE, Int.reduceNeg, Int.reduceToNat, Nat.reduceBEq, Nat.reduceBNe, Int.reduceGE, Int.reduceGT, *, cNewM, cIsTableS, cMode, cCopyT, cMD, Tryz.results20, e6, hz])))
  all_goals first | rfl | skip
end Go.Own
