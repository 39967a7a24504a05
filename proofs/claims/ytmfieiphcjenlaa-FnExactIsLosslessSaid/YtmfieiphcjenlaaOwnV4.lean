import Derived.Test.YtmfieiphcjenlaaOwnV3
namespace Go.Own
open Go Go.Proofs
set_option linter.unusedSimpArgs false
set_option linter.unusedVariables false
set_option maxRecDepth 20000
set_option maxHeartbeats 2000000



def inB (x lo hi : Int) : Bool := decide (x ≥ lo) && decide (x ≤ hi)
def rowOK (r : List Int) (c : Int) : Bool := r.all (fun v => inB v (-1) 40) && decide ((r.length : Int) = c)
def tabOK (c : Int) (rs : List (List Int)) : Bool := rs.all (fun r => rowOK r c) && (inB c 1 5 && decide ((rs.length : Int) ≤ 40))

/-! spec.l1In -/
def cL1In : Contract := ⟨[], false, fun
  | [.one (.v (.int .i64 x)), .one (.v (.int .i64 lo)), .one (.v (.int .i64 hi))] => some (True, [⟨false, [.d (.v (.bool (inB x lo hi)))]⟩], [])
  | _ => none⟩

theorem l1In_ok : ContractOK E0 75 cL1In := by
  refine contract_of_wpc (E := E0) (T := mkT Try.prog [] false (fun _ => false) true (fun _ => false)) (mkT_ok (E := E0) .nil) (fn := Try.f75) Try.func75 (by kernel_rfl) rfl mixedT (by kernel_rfl) rfl ?_
  intro args p rs ms hr
  unfold cL1In at hr
  dsimp only at hr
  split at hr
  · simp only [Option.some.injEq, Prod.mk.injEq] at hr
    obtain ⟨rfl, rfl, rfl⟩ := hr
    refine ⟨rfl, rfl, Nat.le_of_ble_eq_true rfl, ?_⟩
    intro _ bs
    unfold inB
    (repeat' (first
      | (refine gate_intro (by first | omega | ((repeat' (first | apply And.intro | assumption | omega | intro _)); done) | (simp only [maxLen]; omega) | simp_all | (simp_all [maxLen]; omega)) fun _ => ?_)
      | ((refine fork_intro (fun hb => ?_) (fun hb => ?_)) <;> (try simp only [decide_eq_true_eq, decide_eq_false_iff_not, iL_length, sL_length, Int.ofNat_lt, Int.ofNat_le, Bool.not_eq_true', Bool.not_eq_false', beq_iff_eq, bne_iff_ne, beq_eq_false_iff_ne, ne_eq, bne_eq_false_iff_eq, Decidable.not_not, Bool.and_eq_true, Bool.and_eq_false_imp, cL1In, Try.results75] at hb))
      | (simp only [go_sem, Nat.reduceLeDiff, Nat.reduceEqDiff, reduceIte, reduceCtorEq, Nat.reduceAdd, Nat.reduceMul, Nat.reduceSub, Nat.reduceLT, Int.reduceLT, Int.reduceLE, Int.reduceNeg, Int.reduceToNat, Nat.reduceBEq, Nat.reduceBNe, Int.reduceGE, Int.reduceGT, *, cL1In, Try.results75])))
  · cases hr

/-! spec.l3Row -/
def cL3Row : Contract := ⟨[], false, fun
  | [.one (.sl 1 a), .one (.v (.int .i64 c))] => some (WfI a, [⟨false, [.d (.v (.bool (rowOK (unI a) c)))]⟩], [])
  | _ => none⟩

theorem l3Row_ok : ContractOK E0 76 cL3Row := by
  refine contract_of_wpc (E := E0) (T := mkT Try.prog [(75, cL1In)] false (fun _ => false) true (fun _ => false)) (mkT_ok (E := E0) (.cons l1In_ok .nil)) (fn := Try.f76) Try.func76 (by kernel_rfl) rfl mixedT (by kernel_rfl) rfl ?_
  intro args p rs ms hr
  unfold cL3Row at hr
  dsimp only at hr
  split at hr
  · rename_i l c
    simp only [Option.some.injEq, Prod.mk.injEq] at hr
    obtain ⟨rfl, rfl, rfl⟩ := hr
    refine ⟨rfl, rfl, Nat.le_of_ble_eq_true rfl, ?_⟩
    intro h1 bs
    obtain ⟨xs, rfl, hx⟩ := h1.ex
    clear h1
    rw [unI_iL]
    have hm : maxLen = 9223372036854775807 := rfl
    unfold rowOK
    (repeat' (first
      | (refine gate_intro (by first | omega | ((repeat' (first | apply And.intro | assumption | omega | intro _)); done) | (simp only [maxLen]; omega) | simp_all | (simp_all [maxLen]; omega)) fun _ => ?_)
      | ((refine fork_intro (fun hb => ?_) (fun hb => ?_)) <;> (try simp only [decide_eq_true_eq, decide_eq_false_iff_not, iL_length, sL_length, Int.ofNat_lt, Int.ofNat_le, Bool.not_eq_true', Bool.not_eq_false', beq_iff_eq, bne_iff_ne, beq_eq_false_iff_ne, ne_eq, bne_eq_false_iff_eq, Decidable.not_not, Bool.and_eq_true, Bool.and_eq_false_imp, cL3Row, cL1In, Try.results76] at hb))
      | (simp only [go_sem, Nat.reduceLeDiff, Nat.reduceEqDiff, reduceIte, reduceCtorEq, Nat.reduceAdd, Nat.reduceMul, Nat.reduceSub, Nat.reduceLT, Int.reduceLT, Int.reduceLE, Int.reduceNeg, Int.reduceToNat, Nat.reduceBEq, Nat.reduceBNe, Int.reduceGE, Int.reduceGT, *, cL3Row, cL1In, Try.results76])))
    refine loop_intro { ι := Nat, rs := [(4, 5), (6, 18)], mods := [(5, fun i => .one (.d (.v (.int .i64 i))))], boxes := [], arrs := [], ok := fun i => i ≤ xs.length ∧ (xs.drop i).all (fun v => inB v (-1) 40) = xs.all (fun v => inB v (-1) 40), mu := fun i => xs.length - i } rfl 0 ⟨Nat.zero_le _, rfl⟩ ?_ fun i hi => ?_
    · (repeat' (first
      | (refine gate_intro (by first | omega | ((repeat' (first | apply And.intro | assumption | omega | intro _)); done) | (simp only [maxLen]; omega) | simp_all | (simp_all [maxLen]; omega)) fun _ => ?_)
      | ((refine fork_intro (fun hb => ?_) (fun hb => ?_)) <;> (try simp only [decide_eq_true_eq, decide_eq_false_iff_not, iL_length, sL_length, Int.ofNat_lt, Int.ofNat_le, Bool.not_eq_true', Bool.not_eq_false', beq_iff_eq, bne_iff_ne, beq_eq_false_iff_ne, ne_eq, bne_eq_false_iff_eq, Decidable.not_not, Bool.and_eq_true, Bool.and_eq_false_imp, cL3Row] at hb))
      | (simp only [go_sem, Nat.reduceLeDiff, Nat.reduceEqDiff, reduceIte, reduceCtorEq, Nat.reduceAdd, Nat.reduceMul, Nat.reduceSub, Nat.reduceLT, Int.reduceLT, Int.reduceLE, Int.reduceNeg, Int.reduceToNat, Nat.reduceBEq, Nat.reduceBNe, Int.reduceGE, Int.reduceGT, *, cL3Row])))
    · dsimp only at i hi
      obtain ⟨hi, ht⟩ := hi
      (repeat' (first
      | (refine gate_intro (by first | omega | ((repeat' (first | apply And.intro | assumption | omega | intro _)); done) | (simp only [maxLen]; omega) | simp_all | (simp_all [maxLen]; omega)) fun _ => ?_)
      | ((refine fork_intro (fun hb => ?_) (fun hb => ?_)) <;> (try simp only [decide_eq_true_eq, decide_eq_false_iff_not, iL_length, sL_length, Int.ofNat_lt, Int.ofNat_le, Bool.not_eq_true', Bool.not_eq_false', beq_iff_eq, bne_iff_ne, beq_eq_false_iff_ne, ne_eq, bne_eq_false_iff_eq, Decidable.not_not, Bool.and_eq_true, Bool.and_eq_false_imp, cL3Row, cL1In, Try.results76] at hb))
      | (simp only [go_sem, Nat.reduceLeDiff, Nat.reduceEqDiff, reduceIte, reduceCtorEq, Nat.reduceAdd, Nat.reduceMul, Nat.reduceSub, Nat.reduceLT, Int.reduceLT, Int.reduceLE, Int.reduceNeg, Int.reduceToNat, Nat.reduceBEq, Nat.reduceBNe, Int.reduceGE, Int.reduceGT, *, cL3Row, cL1In, Try.results76])))
      · rw [← ht, all_drop (by omega) 0 _, ‹inB _ _ _ = false›]; rfl
      · refine loop_next (i + 1) ⟨by omega, ?_⟩ (by dsimp only; omega) ?_
        · rw [← ht, all_drop (i := i) (by omega) 0 _, ‹inB _ _ _ = true›]; rfl
        · (repeat' (first
      | (refine gate_intro (by first | omega | ((repeat' (first | apply And.intro | assumption | omega | intro _)); done) | (simp only [maxLen]; omega) | simp_all | (simp_all [maxLen]; omega)) fun _ => ?_)
      | ((refine fork_intro (fun hb => ?_) (fun hb => ?_)) <;> (try simp only [decide_eq_true_eq, decide_eq_false_iff_not, iL_length, sL_length, Int.ofNat_lt, Int.ofNat_le, Bool.not_eq_true', Bool.not_eq_false', beq_iff_eq, bne_iff_ne, beq_eq_false_iff_ne, ne_eq, bne_eq_false_iff_eq, Decidable.not_not, Bool.and_eq_true, Bool.and_eq_false_imp] at hb))
      | (simp only [go_sem, Nat.reduceLeDiff, Nat.reduceEqDiff, reduceIte, reduceCtorEq, Nat.reduceAdd, Nat.reduceMul, Nat.reduceSub, Nat.reduceLT, Int.reduceLT, Int.reduceLE, Int.reduceNeg, Int.reduceToNat, Nat.reduceBEq, Nat.reduceBNe, Int.reduceGE, Int.reduceGT, *])))
      · rw [← ht, List.drop_of_length_le (by omega)]; rw [Bool.eq_iff_iff]; simp
  · cases hr

/-! spec.IsTable -/
def cIsTableS : Contract := ⟨[], false, fun
  | [.agg [.v (.int .i64 c), .sl 1 a]] => some (WfS a ∧ -9223372036854775808 ≤ c ∧ c ≤ 9223372036854775807, [⟨false, [.d (.v (.bool (tabOK c (unS a))))]⟩], [])
  | _ => none⟩

/-! spec.l15Columns -/
def colsOK (c : Int) (rs : List (List Int)) (a b : Int) : Bool := tabOK c rs && inB a 0 (c - 1) && inB b 0 (c - 1)

def cL15 : Contract := ⟨[], false, fun
  | [.agg [.v (.int .i64 c), .sl 1 l], .one (.v (.int .i64 a)), .one (.v (.int .i64 b))] => some (WfS l ∧ -9223372036854775808 ≤ c ∧ c ≤ 9223372036854775807, [⟨false, [.d (.v (.bool (colsOK c (unS l) a b)))]⟩], [])
  | _ => none⟩

theorem tab_c {c : Int} {rs : List (List Int)} (h : tabOK c rs = true) : 1 ≤ c ∧ c ≤ 5 := by
  simp [tabOK, inB] at h; omega

end Go.Own
