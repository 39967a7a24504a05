import Derived.Test.YtmfieiphcjenlaaOwnE3
import Derived.Test.YtmfieiphcjenlaaOwnC10
namespace Go.Own
open Go Go.Proofs
set_option linter.unusedSimpArgs false
set_option linter.unusedVariables false
set_option maxRecDepth 20000
set_option maxHeartbeats 2000000



/-! Valid dependencies, valid rows. -/
def depsOK (n : Int) (ds : List (Int × Int)) : Bool := ds.all (fun d => depOK n d.1 d.2) && (inB n 1 5 && decide ((ds.length : Int) ≤ 20))
def cAreDeps : Contract := ⟨[], false, fun
  | [.one (.v (.int .i64 n)), .one (.sl 2 l)] => some (WfD l ∧ -9223372036854775808 ≤ n ∧ n ≤ 9223372036854775807, [⟨false, [.d (.v (.bool (depsOK n (unD l))))]⟩], [])
  | _ => none⟩
theorem areDepsI_ok : ContractOK E0 46 cAreDeps := by
  refine contract_of_wpc (E := E0) (T := mkT Try.prog [(80, cDep)] false (fun _ => false) true (fun _ => false)) (mkT_ok (E := E0) (.cons depI_ok .nil)) (fn := Try.f46) Try.func46 (by kernel_rfl) rfl mixedT (by kernel_rfl) rfl ?_
  intro args p rs ms hr
  unfold cAreDeps at hr
  dsimp only at hr
  split at hr
  rotate_left
  · cases hr
  rename_i n l
  simp only [Option.some.injEq, Prod.mk.injEq] at hr
  obtain ⟨rfl, rfl, rfl⟩ := hr
  refine ⟨rfl, rfl, Nat.le_of_ble_eq_true rfl, ?_⟩
  have hm : maxLen = 9223372036854775807 := rfl
  rintro ⟨h1, hn1, hn2⟩ bs
  obtain ⟨ds, rfl, hx⟩ := h1.ex
  clear h1
  rw [unD_dL]
  (repeat' (first
      | (refine gate_intro (by first | omega | ((repeat' (first | apply And.intro | assumption | omega | intro _)); done) | (simp only [maxLen]; omega) | simp_all | (simp_all [maxLen]; omega)) fun _ => ?_)
      | ((refine fork_intro (fun hb => ?_) (fun hb => ?_)) <;> (try simp only [decide_eq_true_eq, decide_eq_false_iff_not, iL_length, sL_length, Int.ofNat_lt, Int.ofNat_le, Bool.not_eq_true', Bool.not_eq_false', beq_iff_eq, bne_iff_ne, beq_eq_false_iff_ne, ne_eq, bne_eq_false_iff_eq, Decidable.not_not, Bool.and_eq_true, Bool.and_eq_false_imp, cAreDeps, cDep, Try.results46, unD_dL, dL_length, dL_get, dL_set, dL_inj, wfD_dL, scal2, beq2, pair_eta] at hb))
      | (simp only [go_sem, Nat.reduceLeDiff, Nat.reduceEqDiff, reduceIte, reduceCtorEq, Nat.reduceAdd, Nat.reduceMul, Nat.reduceSub, Nat.reduceLT, Int.reduceLT, Int.reduceLE, Int.reduceNeg, Int.reduceToNat, Nat.reduceBEq, Nat.reduceBNe, Int.reduceGE, Int.reduceGT, *, cAreDeps, cDep, Try.results46, unD_dL, dL_length, dL_get, dL_set, dL_inj, wfD_dL, scal2, beq2, pair_eta])))
  refine loop_intro { ι := Nat, rs := [(4, 5), (6, 7), (10, 18)], mods := [(9, fun i => .one (.d (.v (.int .i64 i))))], boxes := [], arrs := [], ok := fun i => i ≤ ds.length ∧ (ds.drop i).all (fun d => depOK n d.1 d.2) = ds.all (fun d => depOK n d.1 d.2), mu := fun i => ds.length - i } rfl 0 ⟨Nat.zero_le _, rfl⟩ ?_ fun i hi => ?_
  · (repeat' (first
      | (refine gate_intro (by first | omega | ((repeat' (first | apply And.intro | assumption | omega | intro _)); done) | (simp only [maxLen]; omega) | simp_all | (simp_all [maxLen]; omega)) fun _ => ?_)
      | ((refine fork_intro (fun hb => ?_) (fun hb => ?_)) <;> (try simp only [decide_eq_true_eq, decide_eq_false_iff_not, iL_length, sL_length, Int.ofNat_lt, Int.ofNat_le, Bool.not_eq_true', Bool.not_eq_false', beq_iff_eq, bne_iff_ne, beq_eq_false_iff_ne, ne_eq, bne_eq_false_iff_eq, Decidable.not_not, Bool.and_eq_true, Bool.and_eq_false_imp, cAreDeps, cDep, Try.results46, unD_dL, dL_length, dL_get, dL_set, dL_inj, wfD_dL, scal2, beq2, pair_eta] at hb))
      | (simp only [go_sem, Nat.reduceLeDiff, Nat.reduceEqDiff, reduceIte, reduceCtorEq, Nat.reduceAdd, Nat.reduceMul, Nat.reduceSub, Nat.reduceLT, Int.reduceLT, Int.reduceLE, Int.reduceNeg, Int.reduceToNat, Nat.reduceBEq, Nat.reduceBNe, Int.reduceGE, Int.reduceGT, *, cAreDeps, cDep, Try.results46, unD_dL, dL_length, dL_get, dL_set, dL_inj, wfD_dL, scal2, beq2, pair_eta])))
  · dsimp only at i hi
    obtain ⟨hi, ht⟩ := hi
    by_cases h5 : i < ds.length
    · rw [all_drop h5 (0, 0) _] at ht
      cases hq : depOK n (ds.getD i (0, 0)).1 (ds.getD i (0, 0)).2
      · have e : depsOK n ds = false := by unfold depsOK; rw [← ht, hq]; rfl
        rw [e]
        clear e ht
        (repeat' (first
      | (refine gate_intro (by first | omega | ((repeat' (first | apply And.intro | assumption | omega | intro _)); done) | (simp only [maxLen]; omega) | simp_all | (simp_all [maxLen]; omega)) fun _ => ?_)
      | ((refine fork_intro (fun hb => ?_) (fun hb => ?_)) <;> (try simp only [decide_eq_true_eq, decide_eq_false_iff_not, iL_length, sL_length, Int.ofNat_lt, Int.ofNat_le, Bool.not_eq_true', Bool.not_eq_false', beq_iff_eq, bne_iff_ne, beq_eq_false_iff_ne, ne_eq, bne_eq_false_iff_eq, Decidable.not_not, Bool.and_eq_true, Bool.and_eq_false_imp, cAreDeps, cDep, Try.results46, unD_dL, dL_length, dL_get, dL_set, dL_inj, wfD_dL, scal2, beq2, pair_eta, hq] at hb))
      | (simp only [go_sem, Nat.reduceLeDiff, Nat.reduceEqDiff, reduceIte, reduceCtorEq, Nat.reduceAdd, Nat.reduceMul, Nat.reduceSub, Nat.reduceLT, Int.reduceLT, Int.reduceLE, Int.reduceNeg, Int.reduceToNat, Nat.reduceBEq, Nat.reduceBNe, Int.reduceGE, Int.reduceGT, *, cAreDeps, cDep, Try.results46, unD_dL, dL_length, dL_get, dL_set, dL_inj, wfD_dL, scal2, beq2, pair_eta, hq])))
      · rw [hq, Bool.true_and] at ht
        (repeat' (first
      | (refine gate_intro (by first | omega | ((repeat' (first | apply And.intro | assumption | omega | intro _)); done) | (simp only [maxLen]; omega) | simp_all | (simp_all [maxLen]; omega)) fun _ => ?_)
      | ((refine fork_intro (fun hb => ?_) (fun hb => ?_)) <;> (try simp only [decide_eq_true_eq, decide_eq_false_iff_not, iL_length, sL_length, Int.ofNat_lt, Int.ofNat_le, Bool.not_eq_true', Bool.not_eq_false', beq_iff_eq, bne_iff_ne, beq_eq_false_iff_ne, ne_eq, bne_eq_false_iff_eq, Decidable.not_not, Bool.and_eq_true, Bool.and_eq_false_imp, cAreDeps, cDep, Try.results46, unD_dL, dL_length, dL_get, dL_set, dL_inj, wfD_dL, scal2, beq2, pair_eta, hq] at hb))
      | (simp only [go_sem, Nat.reduceLeDiff, Nat.reduceEqDiff, reduceIte, reduceCtorEq, Nat.reduceAdd, Nat.reduceMul, Nat.reduceSub, Nat.reduceLT, Int.reduceLT, Int.reduceLE, Int.reduceNeg, Int.reduceToNat, Nat.reduceBEq, Nat.reduceBNe, Int.reduceGE, Int.reduceGT, *, cAreDeps, cDep, Try.results46, unD_dL, dL_length, dL_get, dL_set, dL_inj, wfD_dL, scal2, beq2, pair_eta, hq])))
        refine loop_next (i + 1) ⟨by omega, ht⟩ (by dsimp only; omega) ?_
        clear ht
        (repeat' (first
      | (refine gate_intro (by first | omega | ((repeat' (first | apply And.intro | assumption | omega | intro _)); done) | (simp only [maxLen]; omega) | simp_all | (simp_all [maxLen]; omega)) fun _ => ?_)
      | ((refine fork_intro (fun hb => ?_) (fun hb => ?_)) <;> (try simp only [decide_eq_true_eq, decide_eq_false_iff_not, iL_length, sL_length, Int.ofNat_lt, Int.ofNat_le, Bool.not_eq_true', Bool.not_eq_false', beq_iff_eq, bne_iff_ne, beq_eq_false_iff_ne, ne_eq, bne_eq_false_iff_eq, Decidable.not_not, Bool.and_eq_true, Bool.and_eq_false_imp, cAreDeps, cDep, Try.results46, unD_dL, dL_length, dL_get, dL_set, dL_inj, wfD_dL, scal2, beq2, pair_eta] at hb))
      | (simp only [go_sem, Nat.reduceLeDiff, Nat.reduceEqDiff, reduceIte, reduceCtorEq, Nat.reduceAdd, Nat.reduceMul, Nat.reduceSub, Nat.reduceLT, Int.reduceLT, Int.reduceLE, Int.reduceNeg, Int.reduceToNat, Nat.reduceBEq, Nat.reduceBNe, Int.reduceGE, Int.reduceGT, *, cAreDeps, cDep, Try.results46, unD_dL, dL_length, dL_get, dL_set, dL_inj, wfD_dL, scal2, beq2, pair_eta])))
    · have e5 : i = ds.length := by omega
      subst e5
      rw [List.drop_length, List.all_nil] at ht
      have e : depsOK n ds = (decide (n ≥ 1) && decide (n ≤ 5) && decide ((ds.length : Int) ≤ 20)) := by unfold depsOK; rw [← ht]; rfl
      rw [e]
      clear e ht
      (repeat' (first
      | (refine gate_intro (by first | omega | ((repeat' (first | apply And.intro | assumption | omega | intro _)); done) | (simp only [maxLen]; omega) | simp_all | (simp_all [maxLen]; omega)) fun _ => ?_)
      | ((refine fork_intro (fun hb => ?_) (fun hb => ?_)) <;> (try simp only [decide_eq_true_eq, decide_eq_false_iff_not, iL_length, sL_length, Int.ofNat_lt, Int.ofNat_le, Bool.not_eq_true', Bool.not_eq_false', beq_iff_eq, bne_iff_ne, beq_eq_false_iff_ne, ne_eq, bne_eq_false_iff_eq, Decidable.not_not, Bool.and_eq_true, Bool.and_eq_false_imp, cAreDeps, cDep, Try.results46, unD_dL, dL_length, dL_get, dL_set, dL_inj, wfD_dL, scal2, beq2, pair_eta] at hb))
      | (simp only [go_sem, Nat.reduceLeDiff, Nat.reduceEqDiff, reduceIte, reduceCtorEq, Nat.reduceAdd, Nat.reduceMul, Nat.reduceSub, Nat.reduceLT, Int.reduceLT, Int.reduceLE, Int.reduceNeg, Int.reduceToNat, Nat.reduceBEq, Nat.reduceBNe, Int.reduceGE, Int.reduceGT, *, cAreDeps, cDep, Try.results46, unD_dL, dL_length, dL_get, dL_set, dL_inj, wfD_dL, scal2, beq2, pair_eta])))

theorem areDepsS_ok : ContractOK E0 41 cAreDeps := by
  refine contract_of_wpc (E := E0) (T := mkT Try.prog [(74, cDep), (75, cL1In)] false (fun _ => false) true (fun _ => false)) (mkT_ok (E := E0) (.cons depS_ok (.cons l1In_ok .nil))) (fn := Try.f41) Try.func41 (by kernel_rfl) rfl mixedT (by kernel_rfl) rfl ?_
  intro args p rs ms hr
  unfold cAreDeps at hr
  dsimp only at hr
  split at hr
  rotate_left
  · cases hr
  rename_i n l
  simp only [Option.some.injEq, Prod.mk.injEq] at hr
  obtain ⟨rfl, rfl, rfl⟩ := hr
  refine ⟨rfl, rfl, Nat.le_of_ble_eq_true rfl, ?_⟩
  have hm : maxLen = 9223372036854775807 := rfl
  rintro ⟨h1, hn1, hn2⟩ bs
  obtain ⟨ds, rfl, hx⟩ := h1.ex
  clear h1
  rw [unD_dL]
  (repeat' (first
      | (refine gate_intro (by first | omega | ((repeat' (first | apply And.intro | assumption | omega | intro _)); done) | (simp only [maxLen]; omega) | simp_all | (simp_all [maxLen]; omega)) fun _ => ?_)
      | ((refine fork_intro (fun hb => ?_) (fun hb => ?_)) <;> (try simp only [decide_eq_true_eq, decide_eq_false_iff_not, iL_length, sL_length, Int.ofNat_lt, Int.ofNat_le, Bool.not_eq_true', Bool.not_eq_false', beq_iff_eq, bne_iff_ne, beq_eq_false_iff_ne, ne_eq, bne_eq_false_iff_eq, Decidable.not_not, Bool.and_eq_true, Bool.and_eq_false_imp, cAreDeps, cDep, cL1In, Try.results41, unD_dL, dL_length, dL_get, dL_set, dL_inj, wfD_dL, scal2, beq2, pair_eta] at hb))
      | (simp only [go_sem, Nat.reduceLeDiff, Nat.reduceEqDiff, reduceIte, reduceCtorEq, Nat.reduceAdd, Nat.reduceMul, Nat.reduceSub, Nat.reduceLT, Int.reduceLT, Int.reduceLE, Int.reduceNeg, Int.reduceToNat, Nat.reduceBEq, Nat.reduceBNe, Int.reduceGE, Int.reduceGT, *, cAreDeps, cDep, cL1In, Try.results41, unD_dL, dL_length, dL_get, dL_set, dL_inj, wfD_dL, scal2, beq2, pair_eta])))
  refine loop_intro { ι := Nat, rs := [(4, 5), (6, 19)], mods := [(5, fun i => .one (.d (.v (.int .i64 i))))], boxes := [], arrs := [], ok := fun i => i ≤ ds.length ∧ (ds.drop i).all (fun d => depOK n d.1 d.2) = ds.all (fun d => depOK n d.1 d.2), mu := fun i => ds.length - i } rfl 0 ⟨Nat.zero_le _, rfl⟩ ?_ fun i hi => ?_
  · (repeat' (first
      | (refine gate_intro (by first | omega | ((repeat' (first | apply And.intro | assumption | omega | intro _)); done) | (simp only [maxLen]; omega) | simp_all | (simp_all [maxLen]; omega)) fun _ => ?_)
      | ((refine fork_intro (fun hb => ?_) (fun hb => ?_)) <;> (try simp only [decide_eq_true_eq, decide_eq_false_iff_not, iL_length, sL_length, Int.ofNat_lt, Int.ofNat_le, Bool.not_eq_true', Bool.not_eq_false', beq_iff_eq, bne_iff_ne, beq_eq_false_iff_ne, ne_eq, bne_eq_false_iff_eq, Decidable.not_not, Bool.and_eq_true, Bool.and_eq_false_imp, cAreDeps, cDep, cL1In, Try.results41, unD_dL, dL_length, dL_get, dL_set, dL_inj, wfD_dL, scal2, beq2, pair_eta] at hb))
      | (simp only [go_sem, Nat.reduceLeDiff, Nat.reduceEqDiff, reduceIte, reduceCtorEq, Nat.reduceAdd, Nat.reduceMul, Nat.reduceSub, Nat.reduceLT, Int.reduceLT, Int.reduceLE, Int.reduceNeg, Int.reduceToNat, Nat.reduceBEq, Nat.reduceBNe, Int.reduceGE, Int.reduceGT, *, cAreDeps, cDep, cL1In, Try.results41, unD_dL, dL_length, dL_get, dL_set, dL_inj, wfD_dL, scal2, beq2, pair_eta])))
  · dsimp only at i hi
    obtain ⟨hi, ht⟩ := hi
    by_cases h5 : i < ds.length
    · rw [all_drop h5 (0, 0) _] at ht
      cases hq : depOK n (ds.getD i (0, 0)).1 (ds.getD i (0, 0)).2
      · have e : depsOK n ds = false := by unfold depsOK; rw [← ht, hq]; rfl
        rw [e]
        clear e ht
        (repeat' (first
      | (refine gate_intro (by first | omega | ((repeat' (first | apply And.intro | assumption | omega | intro _)); done) | (simp only [maxLen]; omega) | simp_all | (simp_all [maxLen]; omega)) fun _ => ?_)
      | ((refine fork_intro (fun hb => ?_) (fun hb => ?_)) <;> (try simp only [decide_eq_true_eq, decide_eq_false_iff_not, iL_length, sL_length, Int.ofNat_lt, Int.ofNat_le, Bool.not_eq_true', Bool.not_eq_false', beq_iff_eq, bne_iff_ne, beq_eq_false_iff_ne, ne_eq, bne_eq_false_iff_eq, Decidable.not_not, Bool.and_eq_true, Bool.and_eq_false_imp, cAreDeps, cDep, cL1In, Try.results41, unD_dL, dL_length, dL_get, dL_set, dL_inj, wfD_dL, scal2, beq2, pair_eta, hq] at hb))
      | (simp only [go_sem, Nat.reduceLeDiff, Nat.reduceEqDiff, reduceIte, reduceCtorEq, Nat.reduceAdd, Nat.reduceMul, Nat.reduceSub, Nat.reduceLT, Int.reduceLT, Int.reduceLE, Int.reduceNeg, Int.reduceToNat, Nat.reduceBEq, Nat.reduceBNe, Int.reduceGE, Int.reduceGT, *, cAreDeps, cDep, cL1In, Try.results41, unD_dL, dL_length, dL_get, dL_set, dL_inj, wfD_dL, scal2, beq2, pair_eta, hq])))
      · rw [hq, Bool.true_and] at ht
        (repeat' (first
      | (refine gate_intro (by first | omega | ((repeat' (first | apply And.intro | assumption | omega | intro _)); done) | (simp only [maxLen]; omega) | simp_all | (simp_all [maxLen]; omega)) fun _ => ?_)
      | ((refine fork_intro (fun hb => ?_) (fun hb => ?_)) <;> (try simp only [decide_eq_true_eq, decide_eq_false_iff_not, iL_length, sL_length, Int.ofNat_lt, Int.ofNat_le, Bool.not_eq_true', Bool.not_eq_false', beq_iff_eq, bne_iff_ne, beq_eq_false_iff_ne, ne_eq, bne_eq_false_iff_eq, Decidable.not_not, Bool.and_eq_true, Bool.and_eq_false_imp, cAreDeps, cDep, cL1In, Try.results41, unD_dL, dL_length, dL_get, dL_set, dL_inj, wfD_dL, scal2, beq2, pair_eta, hq] at hb))
      | (simp only [go_sem, Nat.reduceLeDiff, Nat.reduceEqDiff, reduceIte, reduceCtorEq, Nat.reduceAdd, Nat.reduceMul, Nat.reduceSub, Nat.reduceLT, Int.reduceLT, Int.reduceLE, Int.reduceNeg, Int.reduceToNat, Nat.reduceBEq, Nat.reduceBNe, Int.reduceGE, Int.reduceGT, *, cAreDeps, cDep, cL1In, Try.results41, unD_dL, dL_length, dL_get, dL_set, dL_inj, wfD_dL, scal2, beq2, pair_eta, hq])))
        refine loop_next (i + 1) ⟨by omega, ht⟩ (by dsimp only; omega) ?_
        clear ht
        (repeat' (first
      | (refine gate_intro (by first | omega | ((repeat' (first | apply And.intro | assumption | omega | intro _)); done) | (simp only [maxLen]; omega) | simp_all | (simp_all [maxLen]; omega)) fun _ => ?_)
      | ((refine fork_intro (fun hb => ?_) (fun hb => ?_)) <;> (try simp only [decide_eq_true_eq, decide_eq_false_iff_not, iL_length, sL_length, Int.ofNat_lt, Int.ofNat_le, Bool.not_eq_true', Bool.not_eq_false', beq_iff_eq, bne_iff_ne, beq_eq_false_iff_ne, ne_eq, bne_eq_false_iff_eq, Decidable.not_not, Bool.and_eq_true, Bool.and_eq_false_imp, cAreDeps, cDep, cL1In, Try.results41, unD_dL, dL_length, dL_get, dL_set, dL_inj, wfD_dL, scal2, beq2, pair_eta] at hb))
      | (simp only [go_sem, Nat.reduceLeDiff, Nat.reduceEqDiff, reduceIte, reduceCtorEq, Nat.reduceAdd, Nat.reduceMul, Nat.reduceSub, Nat.reduceLT, Int.reduceLT, Int.reduceLE, Int.reduceNeg, Int.reduceToNat, Nat.reduceBEq, Nat.reduceBNe, Int.reduceGE, Int.reduceGT, *, cAreDeps, cDep, cL1In, Try.results41, unD_dL, dL_length, dL_get, dL_set, dL_inj, wfD_dL, scal2, beq2, pair_eta])))
    · have e5 : i = ds.length := by omega
      subst e5
      rw [List.drop_length, List.all_nil] at ht
      have e : depsOK n ds = (inB n 1 5 && decide ((ds.length : Int) ≤ 20)) := by unfold depsOK; rw [← ht]; rfl
      rw [e]
      clear e ht
      (repeat' (first
      | (refine gate_intro (by first | omega | ((repeat' (first | apply And.intro | assumption | omega | intro _)); done) | (simp only [maxLen]; omega) | simp_all | (simp_all [maxLen]; omega)) fun _ => ?_)
      | ((refine fork_intro (fun hb => ?_) (fun hb => ?_)) <;> (try simp only [decide_eq_true_eq, decide_eq_false_iff_not, iL_length, sL_length, Int.ofNat_lt, Int.ofNat_le, Bool.not_eq_true', Bool.not_eq_false', beq_iff_eq, bne_iff_ne, beq_eq_false_iff_ne, ne_eq, bne_eq_false_iff_eq, Decidable.not_not, Bool.and_eq_true, Bool.and_eq_false_imp, cAreDeps, cDep, cL1In, Try.results41, unD_dL, dL_length, dL_get, dL_set, dL_inj, wfD_dL, scal2, beq2, pair_eta] at hb))
      | (simp only [go_sem, Nat.reduceLeDiff, Nat.reduceEqDiff, reduceIte, reduceCtorEq, Nat.reduceAdd, Nat.reduceMul, Nat.reduceSub, Nat.reduceLT, Int.reduceLT, Int.reduceLE, Int.reduceNeg, Int.reduceToNat, Nat.reduceBEq, Nat.reduceBNe, Int.reduceGE, Int.reduceGT, *, cAreDeps, cDep, cL1In, Try.results41, unD_dL, dL_length, dL_get, dL_set, dL_inj, wfD_dL, scal2, beq2, pair_eta])))

def rowG (n : Int) (r : List Int) : Bool := rowOK r n && !r.contains (-1)
def rowsOK (n : Int) (rs : List (List Int)) : Bool := rs.all (rowG n) && decide ((rs.length : Int) ≤ 40)
theorem rowG_eq {n : Int} {r : List Int} : (!rowOK r n || r.contains (-1)) = !rowG n r := by unfold rowG; cases rowOK r n <;> simp
def cAreRows : Contract := ⟨[], false, fun
  | [.one (.v (.int .i64 n)), .one (.sl 1 t)] => some (WfS t ∧ -9223372036854775808 ≤ n ∧ n ≤ 9223372036854775807, [⟨false, [.d (.v (.bool (rowsOK n (unS t))))]⟩], [])
  | _ => none⟩
theorem areRowsI_ok : ContractOK E0 47 cAreRows := by
  refine contract_of_wpc (E := E0) (T := mkT Try.prog [(81, cL3Row), (82, cHas)] false (fun _ => false) true (fun _ => false)) (mkT_ok (E := E0) (.cons isRow_ok (.cons hasI_ok .nil))) (fn := Try.f47) Try.func47 (by kernel_rfl) rfl mixedT (by kernel_rfl) rfl ?_
  intro args p rs ms hr
  unfold cAreRows at hr
  dsimp only at hr
  split at hr
  rotate_left
  · cases hr
  rename_i n t
  simp only [Option.some.injEq, Prod.mk.injEq] at hr
  obtain ⟨rfl, rfl, rfl⟩ := hr
  refine ⟨rfl, rfl, Nat.le_of_ble_eq_true rfl, ?_⟩
  have hm : maxLen = 9223372036854775807 := rfl
  rintro ⟨h1, hn1, hn2⟩ bs
  obtain ⟨rs, rfl, hx, hy⟩ := h1.ex
  clear h1
  rw [unS_sL]
  (repeat' (first
      | (refine gate_intro (by first | omega | ((repeat' (first | apply And.intro | assumption | omega | intro _)); done) | (simp only [maxLen]; omega) | simp_all | (simp_all [maxLen]; omega)) fun _ => ?_)
      | ((refine fork_intro (fun hb => ?_) (fun hb => ?_)) <;> (try simp only [decide_eq_true_eq, decide_eq_false_iff_not, iL_length, sL_length, Int.ofNat_lt, Int.ofNat_le, Bool.not_eq_true', Bool.not_eq_false', beq_iff_eq, bne_iff_ne, beq_eq_false_iff_ne, ne_eq, bne_eq_false_iff_eq, Decidable.not_not, Bool.and_eq_true, Bool.and_eq_false_imp, cAreRows, cL3Row, cHas, Try.results47, unD_dL, dL_length, dL_get, dL_set, dL_inj, wfD_dL, scal2, beq2, pair_eta] at hb))
      | (simp only [go_sem, Nat.reduceLeDiff, Nat.reduceEqDiff, reduceIte, reduceCtorEq, Nat.reduceAdd, Nat.reduceMul, Nat.reduceSub, Nat.reduceLT, Int.reduceLT, Int.reduceLE, Int.reduceNeg, Int.reduceToNat, Nat.reduceBEq, Nat.reduceBNe, Int.reduceGE, Int.reduceGT, *, cAreRows, cL3Row, cHas, Try.results47, unD_dL, dL_length, dL_get, dL_set, dL_inj, wfD_dL, scal2, beq2, pair_eta])))
  refine loop_intro { ι := Nat, rs := [(4, 5), (6, 7), (10, 22)], mods := [(9, fun i => .one (.d (.v (.int .i64 i))))], boxes := [], arrs := [], ok := fun i => i ≤ rs.length ∧ (rs.drop i).all (rowG n) = rs.all (rowG n), mu := fun i => rs.length - i } rfl 0 ⟨Nat.zero_le _, rfl⟩ ?_ fun i hi => ?_
  · (repeat' (first
      | (refine gate_intro (by first | omega | ((repeat' (first | apply And.intro | assumption | omega | intro _)); done) | (simp only [maxLen]; omega) | simp_all | (simp_all [maxLen]; omega)) fun _ => ?_)
      | ((refine fork_intro (fun hb => ?_) (fun hb => ?_)) <;> (try simp only [decide_eq_true_eq, decide_eq_false_iff_not, iL_length, sL_length, Int.ofNat_lt, Int.ofNat_le, Bool.not_eq_true', Bool.not_eq_false', beq_iff_eq, bne_iff_ne, beq_eq_false_iff_ne, ne_eq, bne_eq_false_iff_eq, Decidable.not_not, Bool.and_eq_true, Bool.and_eq_false_imp, cAreRows, cL3Row, cHas, Try.results47, unD_dL, dL_length, dL_get, dL_set, dL_inj, wfD_dL, scal2, beq2, pair_eta] at hb))
      | (simp only [go_sem, Nat.reduceLeDiff, Nat.reduceEqDiff, reduceIte, reduceCtorEq, Nat.reduceAdd, Nat.reduceMul, Nat.reduceSub, Nat.reduceLT, Int.reduceLT, Int.reduceLE, Int.reduceNeg, Int.reduceToNat, Nat.reduceBEq, Nat.reduceBNe, Int.reduceGE, Int.reduceGT, *, cAreRows, cL3Row, cHas, Try.results47, unD_dL, dL_length, dL_get, dL_set, dL_inj, wfD_dL, scal2, beq2, pair_eta])))
  · dsimp only at i hi
    obtain ⟨hi, ht⟩ := hi
    have hri := all_getD hy i
    by_cases h5 : i < rs.length
    · rw [all_drop h5 [] _] at ht
      have hg := @rowG_eq n (rs.getD i [])
      cases hq : rowG n (rs.getD i [])
      · have e : rowsOK n rs = false := by unfold rowsOK; rw [← ht, hq]; rfl
        rw [hq] at hg
        rw [e]
        clear e ht
        (repeat' (first
      | (refine gate_intro (by first | omega | ((repeat' (first | apply And.intro | assumption | omega | intro _)); done) | (simp only [maxLen]; omega) | simp_all | (simp_all [maxLen]; omega)) fun _ => ?_)
      | ((refine fork_intro (fun hb => ?_) (fun hb => ?_)) <;> (try simp only [decide_eq_true_eq, decide_eq_false_iff_not, iL_length, sL_length, Int.ofNat_lt, Int.ofNat_le, Bool.not_eq_true', Bool.not_eq_false', beq_iff_eq, bne_iff_ne, beq_eq_false_iff_ne, ne_eq, bne_eq_false_iff_eq, Decidable.not_not, Bool.and_eq_true, Bool.and_eq_false_imp, cAreRows, cL3Row, cHas, Try.results47, unD_dL, dL_length, dL_get, dL_set, dL_inj, wfD_dL, scal2, beq2, pair_eta, hg] at hb))
      | (simp only [go_sem, Nat.reduceLeDiff, Nat.reduceEqDiff, reduceIte, reduceCtorEq, Nat.reduceAdd, Nat.reduceMul, Nat.reduceSub, Nat.reduceLT, Int.reduceLT, Int.reduceLE, Int.reduceNeg, Int.reduceToNat, Nat.reduceBEq, Nat.reduceBNe, Int.reduceGE, Int.reduceGT, *, cAreRows, cL3Row, cHas, Try.results47, unD_dL, dL_length, dL_get, dL_set, dL_inj, wfD_dL, scal2, beq2, pair_eta, hg])))
      · rw [hq, Bool.true_and] at ht
        rw [hq] at hg
        (repeat' (first
      | (refine gate_intro (by first | omega | ((repeat' (first | apply And.intro | assumption | omega | intro _)); done) | (simp only [maxLen]; omega) | simp_all | (simp_all [maxLen]; omega)) fun _ => ?_)
      | ((refine fork_intro (fun hb => ?_) (fun hb => ?_)) <;> (try simp only [decide_eq_true_eq, decide_eq_false_iff_not, iL_length, sL_length, Int.ofNat_lt, Int.ofNat_le, Bool.not_eq_true', Bool.not_eq_false', beq_iff_eq, bne_iff_ne, beq_eq_false_iff_ne, ne_eq, bne_eq_false_iff_eq, Decidable.not_not, Bool.and_eq_true, Bool.and_eq_false_imp, cAreRows, cL3Row, cHas, Try.results47, unD_dL, dL_length, dL_get, dL_set, dL_inj, wfD_dL, scal2, beq2, pair_eta, hg] at hb))
      | (simp only [go_sem, Nat.reduceLeDiff, Nat.reduceEqDiff, reduceIte, reduceCtorEq, Nat.reduceAdd, Nat.reduceMul, Nat.reduceSub, Nat.reduceLT, Int.reduceLT, Int.reduceLE, Int.reduceNeg, Int.reduceToNat, Nat.reduceBEq, Nat.reduceBNe, Int.reduceGE, Int.reduceGT, *, cAreRows, cL3Row, cHas, Try.results47, unD_dL, dL_length, dL_get, dL_set, dL_inj, wfD_dL, scal2, beq2, pair_eta, hg])))
        refine loop_next (i + 1) ⟨by omega, ht⟩ (by dsimp only; omega) ?_
        clear ht hg
        (repeat' (first
      | (refine gate_intro (by first | omega | ((repeat' (first | apply And.intro | assumption | omega | intro _)); done) | (simp only [maxLen]; omega) | simp_all | (simp_all [maxLen]; omega)) fun _ => ?_)
      | ((refine fork_intro (fun hb => ?_) (fun hb => ?_)) <;> (try simp only [decide_eq_true_eq, decide_eq_false_iff_not, iL_length, sL_length, Int.ofNat_lt, Int.ofNat_le, Bool.not_eq_true', Bool.not_eq_false', beq_iff_eq, bne_iff_ne, beq_eq_false_iff_ne, ne_eq, bne_eq_false_iff_eq, Decidable.not_not, Bool.and_eq_true, Bool.and_eq_false_imp, cAreRows, cL3Row, cHas, Try.results47, unD_dL, dL_length, dL_get, dL_set, dL_inj, wfD_dL, scal2, beq2, pair_eta] at hb))
      | (simp only [go_sem, Nat.reduceLeDiff, Nat.reduceEqDiff, reduceIte, reduceCtorEq, Nat.reduceAdd, Nat.reduceMul, Nat.reduceSub, Nat.reduceLT, Int.reduceLT, Int.reduceLE, Int.reduceNeg, Int.reduceToNat, Nat.reduceBEq, Nat.reduceBNe, Int.reduceGE, Int.reduceGT, *, cAreRows, cL3Row, cHas, Try.results47, unD_dL, dL_length, dL_get, dL_set, dL_inj, wfD_dL, scal2, beq2, pair_eta])))
    · have e5 : i = rs.length := by omega
      subst e5
      rw [List.drop_length, List.all_nil] at ht
      have e : rowsOK n rs = decide ((rs.length : Int) ≤ 40) := by unfold rowsOK; rw [← ht]; rfl
      rw [e]
      clear e ht
      (repeat' (first
      | (refine gate_intro (by first | omega | ((repeat' (first | apply And.intro | assumption | omega | intro _)); done) | (simp only [maxLen]; omega) | simp_all | (simp_all [maxLen]; omega)) fun _ => ?_)
      | ((refine fork_intro (fun hb => ?_) (fun hb => ?_)) <;> (try simp only [decide_eq_true_eq, decide_eq_false_iff_not, iL_length, sL_length, Int.ofNat_lt, Int.ofNat_le, Bool.not_eq_true', Bool.not_eq_false', beq_iff_eq, bne_iff_ne, beq_eq_false_iff_ne, ne_eq, bne_eq_false_iff_eq, Decidable.not_not, Bool.and_eq_true, Bool.and_eq_false_imp, cAreRows, cL3Row, cHas, Try.results47, unD_dL, dL_length, dL_get, dL_set, dL_inj, wfD_dL, scal2, beq2, pair_eta] at hb))
      | (simp only [go_sem, Nat.reduceLeDiff, Nat.reduceEqDiff, reduceIte, reduceCtorEq, Nat.reduceAdd, Nat.reduceMul, Nat.reduceSub, Nat.reduceLT, Int.reduceLT, Int.reduceLE, Int.reduceNeg, Int.reduceToNat, Nat.reduceBEq, Nat.reduceBNe, Int.reduceGE, Int.reduceGT, *, cAreRows, cL3Row, cHas, Try.results47, unD_dL, dL_length, dL_get, dL_set, dL_inj, wfD_dL, scal2, beq2, pair_eta])))

theorem areRowsS_ok : ContractOK E0 42 cAreRows := by
  refine contract_of_wpc (E := E0) (T := mkT Try.prog [(76, cL3Row), (77, cHas)] false (fun _ => false) true (fun _ => false)) (mkT_ok (E := E0) (.cons l3Row_ok (.cons hasS_ok .nil))) (fn := Try.f42) Try.func42 (by kernel_rfl) rfl mixedT (by kernel_rfl) rfl ?_
  intro args p rs ms hr
  unfold cAreRows at hr
  dsimp only at hr
  split at hr
  rotate_left
  · cases hr
  rename_i n t
  simp only [Option.some.injEq, Prod.mk.injEq] at hr
  obtain ⟨rfl, rfl, rfl⟩ := hr
  refine ⟨rfl, rfl, Nat.le_of_ble_eq_true rfl, ?_⟩
  have hm : maxLen = 9223372036854775807 := rfl
  rintro ⟨h1, hn1, hn2⟩ bs
  obtain ⟨rs, rfl, hx, hy⟩ := h1.ex
  clear h1
  rw [unS_sL]
  (repeat' (first
      | (refine gate_intro (by first | omega | ((repeat' (first | apply And.intro | assumption | omega | intro _)); done) | (simp only [maxLen]; omega) | simp_all | (simp_all [maxLen]; omega)) fun _ => ?_)
      | ((refine fork_intro (fun hb => ?_) (fun hb => ?_)) <;> (try simp only [decide_eq_true_eq, decide_eq_false_iff_not, iL_length, sL_length, Int.ofNat_lt, Int.ofNat_le, Bool.not_eq_true', Bool.not_eq_false', beq_iff_eq, bne_iff_ne, beq_eq_false_iff_ne, ne_eq, bne_eq_false_iff_eq, Decidable.not_not, Bool.and_eq_true, Bool.and_eq_false_imp, cAreRows, cL3Row, cHas, Try.results42, unD_dL, dL_length, dL_get, dL_set, dL_inj, wfD_dL, scal2, beq2, pair_eta] at hb))
      | (simp only [go_sem, Nat.reduceLeDiff, Nat.reduceEqDiff, reduceIte, reduceCtorEq, Nat.reduceAdd, Nat.reduceMul, Nat.reduceSub, Nat.reduceLT, Int.reduceLT, Int.reduceLE, Int.reduceNeg, Int.reduceToNat, Nat.reduceBEq, Nat.reduceBNe, Int.reduceGE, Int.reduceGT, *, cAreRows, cL3Row, cHas, Try.results42, unD_dL, dL_length, dL_get, dL_set, dL_inj, wfD_dL, scal2, beq2, pair_eta])))
  refine loop_intro { ι := Nat, rs := [(4, 5), (6, 26)], mods := [(5, fun i => .one (.d (.v (.int .i64 i))))], boxes := [], arrs := [], ok := fun i => i ≤ rs.length ∧ (rs.drop i).all (rowG n) = rs.all (rowG n), mu := fun i => rs.length - i } rfl 0 ⟨Nat.zero_le _, rfl⟩ ?_ fun i hi => ?_
  · (repeat' (first
      | (refine gate_intro (by first | omega | ((repeat' (first | apply And.intro | assumption | omega | intro _)); done) | (simp only [maxLen]; omega) | simp_all | (simp_all [maxLen]; omega)) fun _ => ?_)
      | ((refine fork_intro (fun hb => ?_) (fun hb => ?_)) <;> (try simp only [decide_eq_true_eq, decide_eq_false_iff_not, iL_length, sL_length, Int.ofNat_lt, Int.ofNat_le, Bool.not_eq_true', Bool.not_eq_false', beq_iff_eq, bne_iff_ne, beq_eq_false_iff_ne, ne_eq, bne_eq_false_iff_eq, Decidable.not_not, Bool.and_eq_true, Bool.and_eq_false_imp, cAreRows, cL3Row, cHas, Try.results42, unD_dL, dL_length, dL_get, dL_set, dL_inj, wfD_dL, scal2, beq2, pair_eta] at hb))
      | (simp only [go_sem, Nat.reduceLeDiff, Nat.reduceEqDiff, reduceIte, reduceCtorEq, Nat.reduceAdd, Nat.reduceMul, Nat.reduceSub, Nat.reduceLT, Int.reduceLT, Int.reduceLE, Int.reduceNeg, Int.reduceToNat, Nat.reduceBEq, Nat.reduceBNe, Int.reduceGE, Int.reduceGT, *, cAreRows, cL3Row, cHas, Try.results42, unD_dL, dL_length, dL_get, dL_set, dL_inj, wfD_dL, scal2, beq2, pair_eta])))
  · dsimp only at i hi
    obtain ⟨hi, ht⟩ := hi
    have hri := all_getD hy i
    by_cases h5 : i < rs.length
    · rw [all_drop h5 [] _] at ht
      have hg := @rowG_eq n (rs.getD i [])
      cases hq : rowG n (rs.getD i [])
      · have e : rowsOK n rs = false := by unfold rowsOK; rw [← ht, hq]; rfl
        rw [hq] at hg
        rw [e]
        clear e ht
        (repeat' (first
      | (refine gate_intro (by first | omega | ((repeat' (first | apply And.intro | assumption | omega | intro _)); done) | (simp only [maxLen]; omega) | simp_all | (simp_all [maxLen]; omega)) fun _ => ?_)
      | ((refine fork_intro (fun hb => ?_) (fun hb => ?_)) <;> (try simp only [decide_eq_true_eq, decide_eq_false_iff_not, iL_length, sL_length, Int.ofNat_lt, Int.ofNat_le, Bool.not_eq_true', Bool.not_eq_false', beq_iff_eq, bne_iff_ne, beq_eq_false_iff_ne, ne_eq, bne_eq_false_iff_eq, Decidable.not_not, Bool.and_eq_true, Bool.and_eq_false_imp, cAreRows, cL3Row, cHas, Try.results42, unD_dL, dL_length, dL_get, dL_set, dL_inj, wfD_dL, scal2, beq2, pair_eta, hg] at hb))
      | (simp only [go_sem, Nat.reduceLeDiff, Nat.reduceEqDiff, reduceIte, reduceCtorEq, Nat.reduceAdd, Nat.reduceMul, Nat.reduceSub, Nat.reduceLT, Int.reduceLT, Int.reduceLE, Int.reduceNeg, Int.reduceToNat, Nat.reduceBEq, Nat.reduceBNe, Int.reduceGE, Int.reduceGT, *, cAreRows, cL3Row, cHas, Try.results42, unD_dL, dL_length, dL_get, dL_set, dL_inj, wfD_dL, scal2, beq2, pair_eta, hg])))
      · rw [hq, Bool.true_and] at ht
        rw [hq] at hg
        (repeat' (first
      | (refine gate_intro (by first | omega | ((repeat' (first | apply And.intro | assumption | omega | intro _)); done) | (simp only [maxLen]; omega) | simp_all | (simp_all [maxLen]; omega)) fun _ => ?_)
      | ((refine fork_intro (fun hb => ?_) (fun hb => ?_)) <;> (try simp only [decide_eq_true_eq, decide_eq_false_iff_not, iL_length, sL_length, Int.ofNat_lt, Int.ofNat_le, Bool.not_eq_true', Bool.not_eq_false', beq_iff_eq, bne_iff_ne, beq_eq_false_iff_ne, ne_eq, bne_eq_false_iff_eq, Decidable.not_not, Bool.and_eq_true, Bool.and_eq_false_imp, cAreRows, cL3Row, cHas, Try.results42, unD_dL, dL_length, dL_get, dL_set, dL_inj, wfD_dL, scal2, beq2, pair_eta, hg] at hb))
      | (simp only [go_sem, Nat.reduceLeDiff, Nat.reduceEqDiff, reduceIte, reduceCtorEq, Nat.reduceAdd, Nat.reduceMul, Nat.reduceSub, Nat.reduceLT, Int.reduceLT, Int.reduceLE, Int.reduceNeg, Int.reduceToNat, Nat.reduceBEq, Nat.reduceBNe, Int.reduceGE, Int.reduceGT, *, cAreRows, cL3Row, cHas, Try.results42, unD_dL, dL_length, dL_get, dL_set, dL_inj, wfD_dL, scal2, beq2, pair_eta, hg])))
        refine loop_next (i + 1) ⟨by omega, ht⟩ (by dsimp only; omega) ?_
        clear ht hg
        (repeat' (first
      | (refine gate_intro (by first | omega | ((repeat' (first | apply And.intro | assumption | omega | intro _)); done) | (simp only [maxLen]; omega) | simp_all | (simp_all [maxLen]; omega)) fun _ => ?_)
      | ((refine fork_intro (fun hb => ?_) (fun hb => ?_)) <;> (try simp only [decide_eq_true_eq, decide_eq_false_iff_not, iL_length, sL_length, Int.ofNat_lt, Int.ofNat_le, Bool.not_eq_true', Bool.not_eq_false', beq_iff_eq, bne_iff_ne, beq_eq_false_iff_ne, ne_eq, bne_eq_false_iff_eq, Decidable.not_not, Bool.and_eq_true, Bool.and_eq_false_imp, cAreRows, cL3Row, cHas, Try.results42, unD_dL, dL_length, dL_get, dL_set, dL_inj, wfD_dL, scal2, beq2, pair_eta] at hb))
      | (simp only [go_sem, Nat.reduceLeDiff, Nat.reduceEqDiff, reduceIte, reduceCtorEq, Nat.reduceAdd, Nat.reduceMul, Nat.reduceSub, Nat.reduceLT, Int.reduceLT, Int.reduceLE, Int.reduceNeg, Int.reduceToNat, Nat.reduceBEq, Nat.reduceBNe, Int.reduceGE, Int.reduceGT, *, cAreRows, cL3Row, cHas, Try.results42, unD_dL, dL_length, dL_get, dL_set, dL_inj, wfD_dL, scal2, beq2, pair_eta])))
    · have e5 : i = rs.length := by omega
      subst e5
      rw [List.drop_length, List.all_nil] at ht
      have e : rowsOK n rs = decide ((rs.length : Int) ≤ 40) := by unfold rowsOK; rw [← ht]; rfl
      rw [e]
      clear e ht
      (repeat' (first
      | (refine gate_intro (by first | omega | ((repeat' (first | apply And.intro | assumption | omega | intro _)); done) | (simp only [maxLen]; omega) | simp_all | (simp_all [maxLen]; omega)) fun _ => ?_)
      | ((refine fork_intro (fun hb => ?_) (fun hb => ?_)) <;> (try simp only [decide_eq_true_eq, decide_eq_false_iff_not, iL_length, sL_length, Int.ofNat_lt, Int.ofNat_le, Bool.not_eq_true', Bool.not_eq_false', beq_iff_eq, bne_iff_ne, beq_eq_false_iff_ne, ne_eq, bne_eq_false_iff_eq, Decidable.not_not, Bool.and_eq_true, Bool.and_eq_false_imp, cAreRows, cL3Row, cHas, Try.results42, unD_dL, dL_length, dL_get, dL_set, dL_inj, wfD_dL, scal2, beq2, pair_eta] at hb))
      | (simp only [go_sem, Nat.reduceLeDiff, Nat.reduceEqDiff, reduceIte, reduceCtorEq, Nat.reduceAdd, Nat.reduceMul, Nat.reduceSub, Nat.reduceLT, Int.reduceLT, Int.reduceLE, Int.reduceNeg, Int.reduceToNat, Nat.reduceBEq, Nat.reduceBNe, Int.reduceGE, Int.reduceGT, *, cAreRows, cL3Row, cHas, Try.results42, unD_dL, dL_length, dL_get, dL_set, dL_inj, wfD_dL, scal2, beq2, pair_eta])))

/-! Copies of rows. -/
def cCopyR : Contract := ⟨[], false, fun
  | [.one (.sl 1 t)] => some (WfS t ∧ t.length ≤ 16777216 ∧ ∀ r ∈ unS t, r.length ≤ 16777216, [⟨false, [.own 1 t 1]⟩], [])
  | _ => none⟩
theorem copyR_ok : ContractOK E0 45 cCopyR := by
  refine contract_of_wpc (E := E0) (T := mkT Try.prog [(79, cCopyI)] false (fun _ => false) true (fun _ => false)) (mkT_ok (E := E0) (.cons copyI_ok .nil)) (fn := Try.f45) Try.func45 (by kernel_rfl) rfl mixedT (by kernel_rfl) rfl ?_
  intro args p rs ms hr
  unfold cCopyR at hr
  dsimp only at hr
  split at hr
  rotate_left
  · cases hr
  rename_i t
  simp only [Option.some.injEq, Prod.mk.injEq] at hr
  obtain ⟨rfl, rfl, rfl⟩ := hr
  refine ⟨rfl, rfl, Nat.le_of_ble_eq_true rfl, ?_⟩
  have hm : maxLen = 9223372036854775807 := rfl
  rintro ⟨h1, h2, h2'⟩ bs
  obtain ⟨rs, rfl, hx, hy⟩ := h1.ex
  clear h1
  rw [unS_sL] at h2'
  rw [sL_length] at h2
  (repeat' (first
      | (refine gate_intro (by first | omega | ((repeat' (first | apply And.intro | assumption | omega | intro _)); done) | (simp only [maxLen]; omega) | simp_all | (simp_all [maxLen]; omega)) fun _ => ?_)
      | ((refine fork_intro (fun hb => ?_) (fun hb => ?_)) <;> (try simp only [decide_eq_true_eq, decide_eq_false_iff_not, iL_length, sL_length, Int.ofNat_lt, Int.ofNat_le, Bool.not_eq_true', Bool.not_eq_false', beq_iff_eq, bne_iff_ne, beq_eq_false_iff_ne, ne_eq, bne_eq_false_iff_eq, Decidable.not_not, Bool.and_eq_true, Bool.and_eq_false_imp, cCopyR, cCopyI, Try.results45, unD_dL, dL_length, dL_get, dL_set, dL_inj, wfD_dL, scal2, beq2, pair_eta] at hb))
      | (simp only [go_sem, Nat.reduceLeDiff, Nat.reduceEqDiff, reduceIte, reduceCtorEq, Nat.reduceAdd, Nat.reduceMul, Nat.reduceSub, Nat.reduceLT, Int.reduceLT, Int.reduceLE, Int.reduceNeg, Int.reduceToNat, Nat.reduceBEq, Nat.reduceBNe, Int.reduceGE, Int.reduceGT, *, cCopyR, cCopyI, Try.results45, unD_dL, dL_length, dL_get, dL_set, dL_inj, wfD_dL, scal2, beq2, pair_eta])))
  refine loop_intro { ι := Nat, rs := [(5, 6), (10, 19)], mods := [(9, fun i => .one (.d (.v (.int .i64 i)))), (3, fun i => .one (.own 1 (sL (rs.take i)) 1))], boxes := [], arrs := [], ok := fun i => i ≤ rs.length, mu := fun i => rs.length - i } rfl 0 (Nat.zero_le _) ?_ fun i hi => ?_
  · (repeat' (first
      | (refine gate_intro (by first | omega | ((repeat' (first | apply And.intro | assumption | omega | intro _)); done) | (simp only [maxLen]; omega) | simp_all | (simp_all [maxLen]; omega)) fun _ => ?_)
      | ((refine fork_intro (fun hb => ?_) (fun hb => ?_)) <;> (try simp only [decide_eq_true_eq, decide_eq_false_iff_not, iL_length, sL_length, Int.ofNat_lt, Int.ofNat_le, Bool.not_eq_true', Bool.not_eq_false', beq_iff_eq, bne_iff_ne, beq_eq_false_iff_ne, ne_eq, bne_eq_false_iff_eq, Decidable.not_not, Bool.and_eq_true, Bool.and_eq_false_imp, cCopyR, cCopyI, Try.results45, unD_dL, dL_length, dL_get, dL_set, dL_inj, wfD_dL, scal2, beq2, pair_eta] at hb))
      | (simp only [go_sem, Nat.reduceLeDiff, Nat.reduceEqDiff, reduceIte, reduceCtorEq, Nat.reduceAdd, Nat.reduceMul, Nat.reduceSub, Nat.reduceLT, Int.reduceLT, Int.reduceLE, Int.reduceNeg, Int.reduceToNat, Nat.reduceBEq, Nat.reduceBNe, Int.reduceGE, Int.reduceGT, *, cCopyR, cCopyI, Try.results45, unD_dL, dL_length, dL_get, dL_set, dL_inj, wfD_dL, scal2, beq2, pair_eta])))
    all_goals first | rfl | skip
  · dsimp only at i hi
    have q1 := all_getD hy i
    have q2 := all_getD h2' i
    by_cases h5 : i < rs.length
    · have e := take_succ_getD h5 []
      (repeat' (first
      | (refine gate_intro (by first | omega | ((repeat' (first | apply And.intro | assumption | omega | intro _)); done) | (simp only [maxLen]; omega) | simp_all | (simp_all [maxLen]; omega)) fun _ => ?_)
      | ((refine fork_intro (fun hb => ?_) (fun hb => ?_)) <;> (try simp only [decide_eq_true_eq, decide_eq_false_iff_not, iL_length, sL_length, Int.ofNat_lt, Int.ofNat_le, Bool.not_eq_true', Bool.not_eq_false', beq_iff_eq, bne_iff_ne, beq_eq_false_iff_ne, ne_eq, bne_eq_false_iff_eq, Decidable.not_not, Bool.and_eq_true, Bool.and_eq_false_imp, cCopyR, cCopyI, Try.results45, unD_dL, dL_length, dL_get, dL_set, dL_inj, wfD_dL, scal2, beq2, pair_eta, sL_snoc] at hb))
      | (simp only [go_sem, Nat.reduceLeDiff, Nat.reduceEqDiff, reduceIte, reduceCtorEq, Nat.reduceAdd, Nat.reduceMul, Nat.reduceSub, Nat.reduceLT, Int.reduceLT, Int.reduceLE, Int.reduceNeg, Int.reduceToNat, Nat.reduceBEq, Nat.reduceBNe, Int.reduceGE, Int.reduceGT, *, cCopyR, cCopyI, Try.results45, unD_dL, dL_length, dL_get, dL_set, dL_inj, wfD_dL, scal2, beq2, pair_eta, sL_snoc])))
      refine loop_next (i + 1) (by dsimp only; omega) (by dsimp only; omega) ?_
      (repeat' (first
      | (refine gate_intro (by first | omega | ((repeat' (first | apply And.intro | assumption | omega | intro _)); done) | (simp only [maxLen]; omega) | simp_all | (simp_all [maxLen]; omega)) fun _ => ?_)
      | ((refine fork_intro (fun hb => ?_) (fun hb => ?_)) <;> (try simp only [decide_eq_true_eq, decide_eq_false_iff_not, iL_length, sL_length, Int.ofNat_lt, Int.ofNat_le, Bool.not_eq_true', Bool.not_eq_false', beq_iff_eq, bne_iff_ne, beq_eq_false_iff_ne, ne_eq, bne_eq_false_iff_eq, Decidable.not_not, Bool.and_eq_true, Bool.and_eq_false_imp, cCopyR, cCopyI, Try.results45, unD_dL, dL_length, dL_get, dL_set, dL_inj, wfD_dL, scal2, beq2, pair_eta, sL_snoc, e] at hb))
      | (simp only [go_sem, Nat.reduceLeDiff, Nat.reduceEqDiff, reduceIte, reduceCtorEq, Nat.reduceAdd, Nat.reduceMul, Nat.reduceSub, Nat.reduceLT, Int.reduceLT, Int.reduceLE, Int.reduceNeg, Int.reduceToNat, Nat.reduceBEq, Nat.reduceBNe, Int.reduceGE, Int.reduceGT, *, cCopyR, cCopyI, Try.results45, unD_dL, dL_length, dL_get, dL_set, dL_inj, wfD_dL, scal2, beq2, pair_eta, sL_snoc, e])))
    · have e5 : i = rs.length := by omega
      subst e5
      (repeat' (first
      | (refine gate_intro (by first | omega | ((repeat' (first | apply And.intro | assumption | omega | intro _)); done) | (simp only [maxLen]; omega) | simp_all | (simp_all [maxLen]; omega)) fun _ => ?_)
      | ((refine fork_intro (fun hb => ?_) (fun hb => ?_)) <;> (try simp only [decide_eq_true_eq, decide_eq_false_iff_not, iL_length, sL_length, Int.ofNat_lt, Int.ofNat_le, Bool.not_eq_true', Bool.not_eq_false', beq_iff_eq, bne_iff_ne, beq_eq_false_iff_ne, ne_eq, bne_eq_false_iff_eq, Decidable.not_not, Bool.and_eq_true, Bool.and_eq_false_imp, cCopyR, cCopyI, Try.results45, unD_dL, dL_length, dL_get, dL_set, dL_inj, wfD_dL, scal2, beq2, pair_eta] at hb))
      | (simp only [go_sem, Nat.reduceLeDiff, Nat.reduceEqDiff, reduceIte, reduceCtorEq, Nat.reduceAdd, Nat.reduceMul, Nat.reduceSub, Nat.reduceLT, Int.reduceLT, Int.reduceLE, Int.reduceNeg, Int.reduceToNat, Nat.reduceBEq, Nat.reduceBNe, Int.reduceGE, Int.reduceGT, *, cCopyR, cCopyI, Try.results45, unD_dL, dL_length, dL_get, dL_set, dL_inj, wfD_dL, scal2, beq2, pair_eta])))
      all_goals first | (rw [List.take_length]; done) | skip

/-! One step of the chase. -/
def mergeC (c : Nat) (a b : Int) (r : List Int) : List Int := if r.getD c 0 = max a b then r.set c (min a b) else r
def csFind (n : Int) (rs : List (List Int)) : List (Int × Int) → Option (List (List Int))
  | [] => none
  | d :: r => match wtO n rs 0 d.1 d.2 with
    | some (i, k) => some (rs.map (mergeC d.2.toNat ((rs.getD i []).getD d.2.toNat 0) ((rs.getD k []).getD d.2.toNat 0)))
    | none => csFind n rs r
def csStep (n : Int) (ds : List (Int × Int)) (rs : List (List Int)) : Option (List (List Int)) := if depsOK n ds && rowsOK n rs then csFind n rs ds else none
theorem mergeC_length {c : Nat} {a b : Int} {r : List Int} : (mergeC c a b r).length = r.length := by unfold mergeC; split <;> simp
def eqtR (rs : List (List Int)) (c : Nat) (a b : Int) : List (List Int) := rs.map (mergeC c a b)
def cEquate : Contract := ⟨[], false, fun
  | [.one (.sl 1 t), .one (.v (.int .i64 c)), .one (.v (.int .i64 a)), .one (.v (.int .i64 b))] => some (WfS t ∧ (t.length ≤ 16777216 ∧ ∀ r ∈ unS t, r.length ≤ 16777216) ∧ 0 ≤ c ∧ ∀ r ∈ unS t, c < r.length, [⟨false, [.own 1 (sL (eqtR (unS t) c.toNat a b)) 1]⟩], [])
  | _ => none⟩
theorem eqt_take {rs : List (List Int)} {c : Nat} {a b : Int} {i : Nat} (h : i < rs.length) : eqtR (rs.take (i + 1)) c a b = eqtR (rs.take i) c a b ++ [mergeC c a b (rs.getD i [])] := by
  rw [take_succ_getD h []]; simp [eqtR]
theorem getD_mem {α : Type} {l : List α} {i : Nat} (h : i < l.length) (d : α) : l.getD i d ∈ l := by simp [List.getD_eq_getElem?_getD, h]
theorem equate_ok : ContractOK E0 44 cEquate := by
  refine contract_of_wpc (E := E0) (T := mkT Try.prog [] false (fun _ => false) true (fun _ => false)) (mkT_ok (E := E0) .nil) (fn := Try.f44) Try.func44 (by kernel_rfl) rfl mixedT (by kernel_rfl) rfl ?_
  intro args p rs ms hr
  unfold cEquate at hr
  dsimp only at hr
  split at hr
  rotate_left
  · cases hr
  rename_i t c a b
  simp only [Option.some.injEq, Prod.mk.injEq] at hr
  obtain ⟨rfl, rfl, rfl⟩ := hr
  refine ⟨rfl, rfl, Nat.le_of_ble_eq_true rfl, ?_⟩
  have hm : maxLen = 9223372036854775807 := rfl
  rintro ⟨h1, ⟨h2, h2'⟩, h3, h4⟩ bs
  obtain ⟨rs, rfl, hx, hy⟩ := h1.ex
  clear h1
  rw [unS_sL] at h2' h4 ⊢
  rw [sL_length] at h2
  obtain ⟨c, rfl⟩ := Int.eq_ofNat_of_zero_le h3
  rw [Int.toNat_natCast]
  (repeat' (first
      | (refine gate_intro (by first | omega | ((repeat' (first | apply And.intro | assumption | omega | intro _)); done) | (simp only [maxLen]; omega) | simp_all | (simp_all [maxLen]; omega)) fun _ => ?_)
      | ((refine fork_intro (fun hb => ?_) (fun hb => ?_)) <;> (try simp only [decide_eq_true_eq, decide_eq_false_iff_not, iL_length, sL_length, Int.ofNat_lt, Int.ofNat_le, Bool.not_eq_true', Bool.not_eq_false', beq_iff_eq, bne_iff_ne, beq_eq_false_iff_ne, ne_eq, bne_eq_false_iff_eq, Decidable.not_not, Bool.and_eq_true, Bool.and_eq_false_imp, cEquate, Try.results44, unD_dL, dL_length, dL_get, dL_set, dL_inj, wfD_dL, scal2, beq2, pair_eta] at hb))
      | (simp only [go_sem, Nat.reduceLeDiff, Nat.reduceEqDiff, reduceIte, reduceCtorEq, Nat.reduceAdd, Nat.reduceMul, Nat.reduceSub, Nat.reduceLT, Int.reduceLT, Int.reduceLE, Int.reduceNeg, Int.reduceToNat, Nat.reduceBEq, Nat.reduceBNe, Int.reduceGE, Int.reduceGT, *, cEquate, Try.results44, unD_dL, dL_length, dL_get, dL_set, dL_inj, wfD_dL, scal2, beq2, pair_eta])))
  refine loop_intro { ι := Nat, rs := [(11, 12), (13, 43)], mods := [(10, fun i => .one (.d (.v (.int .i64 i)))), (9, fun i => .one (.own 1 (sL (eqtR (rs.take i) c a b)) 1))], boxes := [], arrs := [], ok := fun i => i ≤ rs.length, mu := fun i => rs.length - i } rfl 0 (Nat.zero_le _) ?_ fun i hi => ?_
  · (repeat' (first
      | (refine gate_intro (by first | omega | ((repeat' (first | apply And.intro | assumption | omega | intro _)); done) | (simp only [maxLen]; omega) | simp_all | (simp_all [maxLen]; omega)) fun _ => ?_)
      | ((refine fork_intro (fun hb => ?_) (fun hb => ?_)) <;> (try simp only [decide_eq_true_eq, decide_eq_false_iff_not, iL_length, sL_length, Int.ofNat_lt, Int.ofNat_le, Bool.not_eq_true', Bool.not_eq_false', beq_iff_eq, bne_iff_ne, beq_eq_false_iff_ne, ne_eq, bne_eq_false_iff_eq, Decidable.not_not, Bool.and_eq_true, Bool.and_eq_false_imp, cEquate, Try.results44, unD_dL, dL_length, dL_get, dL_set, dL_inj, wfD_dL, scal2, beq2, pair_eta] at hb))
      | (simp only [go_sem, Nat.reduceLeDiff, Nat.reduceEqDiff, reduceIte, reduceCtorEq, Nat.reduceAdd, Nat.reduceMul, Nat.reduceSub, Nat.reduceLT, Int.reduceLT, Int.reduceLE, Int.reduceNeg, Int.reduceToNat, Nat.reduceBEq, Nat.reduceBNe, Int.reduceGE, Int.reduceGT, *, cEquate, Try.results44, unD_dL, dL_length, dL_get, dL_set, dL_inj, wfD_dL, scal2, beq2, pair_eta])))
    all_goals first | rfl | skip
  · dsimp only at i hi
    have q1 := all_getD hy i
    have q2 := all_getD h2' i
    by_cases h5 : i < rs.length
    · have e := eqt_take (c := c) (a := a) (b := b) h5
      have q3 : c < (rs.getD i []).length := by have := h4 _ (getD_mem h5 []); omega
      have ez : (eqtR (rs.take i) c a b).length = i := by simp [eqtR]; omega
      by_cases hq : (rs.getD i []).getD c 0 = max a b
      · have e1 : ((rs.getD i []).getD c 0 == max a b) = true := by rw [hq]; simp
        have e2 : (rs.getD i []).set c (min a b) = mergeC c a b (rs.getD i []) := by rw [mergeC, if_pos hq]
        have e3 := @mergeC_length c a b (rs.getD i [])
        clear hq
        generalize hz : mergeC c a b (rs.getD i []) = z at e e2 e3
        (repeat' (first
      | (refine gate_intro (by first | omega | ((repeat' (first | apply And.intro | assumption | omega | intro _)); done) | (simp only [maxLen]; omega) | simp_all | (simp_all [maxLen]; omega)) fun _ => ?_)
      | ((refine fork_intro (fun hb => ?_) (fun hb => ?_)) <;> (try simp only [decide_eq_true_eq, decide_eq_false_iff_not, iL_length, sL_length, Int.ofNat_lt, Int.ofNat_le, Bool.not_eq_true', Bool.not_eq_false', beq_iff_eq, bne_iff_ne, beq_eq_false_iff_ne, ne_eq, bne_eq_false_iff_eq, Decidable.not_not, Bool.and_eq_true, Bool.and_eq_false_imp, cEquate, Try.results44, unD_dL, dL_length, dL_get, dL_set, dL_inj, wfD_dL, scal2, beq2, pair_eta, sL_snoc, iL_allscal, e1, e2] at hb))
      | (simp only [go_sem, Nat.reduceLeDiff, Nat.reduceEqDiff, reduceIte, reduceCtorEq, Nat.reduceAdd, Nat.reduceMul, Nat.reduceSub, Nat.reduceLT, Int.reduceLT, Int.reduceLE, Int.reduceNeg, Int.reduceToNat, Nat.reduceBEq, Nat.reduceBNe, Int.reduceGE, Int.reduceGT, *, cEquate, Try.results44, unD_dL, dL_length, dL_get, dL_set, dL_inj, wfD_dL, scal2, beq2, pair_eta, sL_snoc, iL_allscal, e1, e2])))
        refine loop_next (i + 1) (by dsimp only; omega) (by dsimp only; omega) ?_
        (repeat' (first
      | (refine gate_intro (by first | omega | ((repeat' (first | apply And.intro | assumption | omega | intro _)); done) | (simp only [maxLen]; omega) | simp_all | (simp_all [maxLen]; omega)) fun _ => ?_)
      | ((refine fork_intro (fun hb => ?_) (fun hb => ?_)) <;> (try simp only [decide_eq_true_eq, decide_eq_false_iff_not, iL_length, sL_length, Int.ofNat_lt, Int.ofNat_le, Bool.not_eq_true', Bool.not_eq_false', beq_iff_eq, bne_iff_ne, beq_eq_false_iff_ne, ne_eq, bne_eq_false_iff_eq, Decidable.not_not, Bool.and_eq_true, Bool.and_eq_false_imp, cEquate, Try.results44, unD_dL, dL_length, dL_get, dL_set, dL_inj, wfD_dL, scal2, beq2, pair_eta, sL_snoc, e] at hb))
      | (simp only [go_sem, Nat.reduceLeDiff, Nat.reduceEqDiff, reduceIte, reduceCtorEq, Nat.reduceAdd, Nat.reduceMul, Nat.reduceSub, Nat.reduceLT, Int.reduceLT, Int.reduceLE, Int.reduceNeg, Int.reduceToNat, Nat.reduceBEq, Nat.reduceBNe, Int.reduceGE, Int.reduceGT, *, cEquate, Try.results44, unD_dL, dL_length, dL_get, dL_set, dL_inj, wfD_dL, scal2, beq2, pair_eta, sL_snoc, e])))
      · have e1 : ((rs.getD i []).getD c 0 == max a b) = false := by rw [beq_eq_false_iff_ne]; exact hq
        have e2 : mergeC c a b (rs.getD i []) = rs.getD i [] := by rw [mergeC, if_neg hq]
        rw [e2] at e
        clear hq e2
        (repeat' (first
      | (refine gate_intro (by first | omega | ((repeat' (first | apply And.intro | assumption | omega | intro _)); done) | (simp only [maxLen]; omega) | simp_all | (simp_all [maxLen]; omega)) fun _ => ?_)
      | ((refine fork_intro (fun hb => ?_) (fun hb => ?_)) <;> (try simp only [decide_eq_true_eq, decide_eq_false_iff_not, iL_length, sL_length, Int.ofNat_lt, Int.ofNat_le, Bool.not_eq_true', Bool.not_eq_false', beq_iff_eq, bne_iff_ne, beq_eq_false_iff_ne, ne_eq, bne_eq_false_iff_eq, Decidable.not_not, Bool.and_eq_true, Bool.and_eq_false_imp, cEquate, Try.results44, unD_dL, dL_length, dL_get, dL_set, dL_inj, wfD_dL, scal2, beq2, pair_eta, sL_snoc, iL_allscal, e1] at hb))
      | (simp only [go_sem, Nat.reduceLeDiff, Nat.reduceEqDiff, reduceIte, reduceCtorEq, Nat.reduceAdd, Nat.reduceMul, Nat.reduceSub, Nat.reduceLT, Int.reduceLT, Int.reduceLE, Int.reduceNeg, Int.reduceToNat, Nat.reduceBEq, Nat.reduceBNe, Int.reduceGE, Int.reduceGT, *, cEquate, Try.results44, unD_dL, dL_length, dL_get, dL_set, dL_inj, wfD_dL, scal2, beq2, pair_eta, sL_snoc, iL_allscal, e1])))
        refine loop_next (i + 1) (by dsimp only; omega) (by dsimp only; omega) ?_
        (repeat' (first
      | (refine gate_intro (by first | omega | ((repeat' (first | apply And.intro | assumption | omega | intro _)); done) | (simp only [maxLen]; omega) | simp_all | (simp_all [maxLen]; omega)) fun _ => ?_)
      | ((refine fork_intro (fun hb => ?_) (fun hb => ?_)) <;> (try simp only [decide_eq_true_eq, decide_eq_false_iff_not, iL_length, sL_length, Int.ofNat_lt, Int.ofNat_le, Bool.not_eq_true', Bool.not_eq_false', beq_iff_eq, bne_iff_ne, beq_eq_false_iff_ne, ne_eq, bne_eq_false_iff_eq, Decidable.not_not, Bool.and_eq_true, Bool.and_eq_false_imp, cEquate, Try.results44, unD_dL, dL_length, dL_get, dL_set, dL_inj, wfD_dL, scal2, beq2, pair_eta, sL_snoc, e] at hb))
      | (simp only [go_sem, Nat.reduceLeDiff, Nat.reduceEqDiff, reduceIte, reduceCtorEq, Nat.reduceAdd, Nat.reduceMul, Nat.reduceSub, Nat.reduceLT, Int.reduceLT, Int.reduceLE, Int.reduceNeg, Int.reduceToNat, Nat.reduceBEq, Nat.reduceBNe, Int.reduceGE, Int.reduceGT, *, cEquate, Try.results44, unD_dL, dL_length, dL_get, dL_set, dL_inj, wfD_dL, scal2, beq2, pair_eta, sL_snoc, e])))
    · have e5 : i = rs.length := by omega
      subst e5
      (repeat' (first
      | (refine gate_intro (by first | omega | ((repeat' (first | apply And.intro | assumption | omega | intro _)); done) | (simp only [maxLen]; omega) | simp_all | (simp_all [maxLen]; omega)) fun _ => ?_)
      | ((refine fork_intro (fun hb => ?_) (fun hb => ?_)) <;> (try simp only [decide_eq_true_eq, decide_eq_false_iff_not, iL_length, sL_length, Int.ofNat_lt, Int.ofNat_le, Bool.not_eq_true', Bool.not_eq_false', beq_iff_eq, bne_iff_ne, beq_eq_false_iff_ne, ne_eq, bne_eq_false_iff_eq, Decidable.not_not, Bool.and_eq_true, Bool.and_eq_false_imp, cEquate, Try.results44, unD_dL, dL_length, dL_get, dL_set, dL_inj, wfD_dL, scal2, beq2, pair_eta] at hb))
      | (simp only [go_sem, Nat.reduceLeDiff, Nat.reduceEqDiff, reduceIte, reduceCtorEq, Nat.reduceAdd, Nat.reduceMul, Nat.reduceSub, Nat.reduceLT, Int.reduceLT, Int.reduceLE, Int.reduceNeg, Int.reduceToNat, Nat.reduceBEq, Nat.reduceBNe, Int.reduceGE, Int.reduceGT, *, cEquate, Try.results44, unD_dL, dL_length, dL_get, dL_set, dL_inj, wfD_dL, scal2, beq2, pair_eta])))
      all_goals first | (rw [List.take_length]; done) | skip
end Go.Own
