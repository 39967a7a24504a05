import Derived.Test.YtmfieiphcjenlaaOwnV0
namespace Go.Own
open Go Go.Proofs
set_option linter.unusedSimpArgs false
set_option linter.unusedVariables false
set_option maxRecDepth 20000

/-! laws.eqIntS -/
def cEqIntS : Contract := ⟨[], false, fun
  | [.one (.sl 1 a), .one (.sl 1 b)] => some (WfI a ∧ WfI b, [⟨false, [.d (.v (.bool (unI a == unI b)))]⟩], [])
  | _ => none⟩

theorem eqIntS_ok : ContractOK E0 23 cEqIntS := by
  refine contract_of_wpc (E := E0) (T := mkT Try.prog [] false (fun _ => false) true (fun _ => false)) (mkT_ok (E := E0) .nil) (fn := Try.f23) Try.func23 (by kernel_rfl) rfl mixedT (by kernel_rfl) rfl ?_
  intro args p rs ms hr
  unfold cEqIntS at hr
  dsimp only at hr
  split at hr
  · simp only [Option.some.injEq, Prod.mk.injEq] at hr
    obtain ⟨rfl, rfl, rfl⟩ := hr
    refine ⟨rfl, rfl, Nat.le_of_ble_eq_true rfl, ?_⟩
    rintro ⟨h1, h2⟩ bs
    obtain ⟨xs, rfl, hx⟩ := h1.ex
    obtain ⟨ys, rfl, hy⟩ := h2.ex
    clear h1 h2
    rw [unI_iL, unI_iL]
    have hm : maxLen = 9223372036854775807 := rfl
    (repeat' (first
      | (refine gate_intro (by first | omega | ((repeat' (first | apply And.intro | assumption | omega | intro _)); done) | (simp only [maxLen]; omega) | simp_all | (simp_all [maxLen]; omega)) fun _ => ?_)
      | ((refine fork_intro (fun hb => ?_) (fun hb => ?_)) <;> (try simp only [decide_eq_true_eq, decide_eq_false_iff_not, iL_length, sL_length, Int.ofNat_lt, Int.ofNat_le, Bool.not_eq_true', Bool.not_eq_false', beq_iff_eq, bne_iff_ne, beq_eq_false_iff_ne, ne_eq, bne_eq_false_iff_eq, Decidable.not_not, Bool.and_eq_true, Bool.and_eq_false_imp, cEqIntS, Try.results23] at hb))
      | (simp only [go_sem, Nat.reduceLeDiff, Nat.reduceEqDiff, reduceIte, reduceCtorEq, Nat.reduceAdd, Nat.reduceMul, Nat.reduceSub, Nat.reduceLT, Int.reduceLT, Int.reduceLE, Int.reduceNeg, Int.reduceToNat, Nat.reduceBEq, Nat.reduceBNe, Int.reduceGE, Int.reduceGT, *, cEqIntS, Try.results23])))
    · exact (not_len ‹_›).symm
    · refine loop_intro { ι := Nat, rs := [(4, 5), (11, 26)], mods := [(5, fun i => .one (.d (.v (.int .i64 i))))], boxes := [], arrs := [], ok := fun i => i ≤ xs.length ∧ xs.take i = ys.take i, mu := fun i => xs.length - i } rfl 0 ⟨Nat.zero_le _, rfl⟩ ?_ fun i hi => ?_
      · (repeat' (first
      | (refine gate_intro (by first | omega | ((repeat' (first | apply And.intro | assumption | omega | intro _)); done) | (simp only [maxLen]; omega) | simp_all | (simp_all [maxLen]; omega)) fun _ => ?_)
      | ((refine fork_intro (fun hb => ?_) (fun hb => ?_)) <;> (try simp only [decide_eq_true_eq, decide_eq_false_iff_not, iL_length, sL_length, Int.ofNat_lt, Int.ofNat_le, Bool.not_eq_true', Bool.not_eq_false', beq_iff_eq, bne_iff_ne, beq_eq_false_iff_ne, ne_eq, bne_eq_false_iff_eq, Decidable.not_not, Bool.and_eq_true, Bool.and_eq_false_imp, cEqIntS] at hb))
      | (simp only [go_sem, Nat.reduceLeDiff, Nat.reduceEqDiff, reduceIte, reduceCtorEq, Nat.reduceAdd, Nat.reduceMul, Nat.reduceSub, Nat.reduceLT, Int.reduceLT, Int.reduceLE, Int.reduceNeg, Int.reduceToNat, Nat.reduceBEq, Nat.reduceBNe, Int.reduceGE, Int.reduceGT, *, cEqIntS])))
      · dsimp only at i hi
        obtain ⟨hi, ht⟩ := hi
        have hlen : xs.length = ys.length := by omega
        (repeat' (first
      | (refine gate_intro (by first | omega | ((repeat' (first | apply And.intro | assumption | omega | intro _)); done) | (simp only [maxLen]; omega) | simp_all | (simp_all [maxLen]; omega)) fun _ => ?_)
      | ((refine fork_intro (fun hb => ?_) (fun hb => ?_)) <;> (try simp only [decide_eq_true_eq, decide_eq_false_iff_not, iL_length, sL_length, Int.ofNat_lt, Int.ofNat_le, Bool.not_eq_true', Bool.not_eq_false', beq_iff_eq, bne_iff_ne, beq_eq_false_iff_ne, ne_eq, bne_eq_false_iff_eq, Decidable.not_not, Bool.and_eq_true, Bool.and_eq_false_imp, cEqIntS, Try.results23] at hb))
      | (simp only [go_sem, Nat.reduceLeDiff, Nat.reduceEqDiff, reduceIte, reduceCtorEq, Nat.reduceAdd, Nat.reduceMul, Nat.reduceSub, Nat.reduceLT, Int.reduceLT, Int.reduceLE, Int.reduceNeg, Int.reduceToNat, Nat.reduceBEq, Nat.reduceBNe, Int.reduceGE, Int.reduceGT, *, cEqIntS, Try.results23])))
        · exact (beq_eq_false_iff_ne.2 (ne_of_getD ‹_›)).symm
        · refine loop_next (i + 1) ⟨by omega, ?_⟩ (by dsimp only; omega) ?_
          · rw [take_succ_getD (by omega) 0, take_succ_getD (by omega) 0, ht]; simp_all
          · (repeat' (first
      | (refine gate_intro (by first | omega | ((repeat' (first | apply And.intro | assumption | omega | intro _)); done) | (simp only [maxLen]; omega) | simp_all | (simp_all [maxLen]; omega)) fun _ => ?_)
      | ((refine fork_intro (fun hb => ?_) (fun hb => ?_)) <;> (try simp only [decide_eq_true_eq, decide_eq_false_iff_not, iL_length, sL_length, Int.ofNat_lt, Int.ofNat_le, Bool.not_eq_true', Bool.not_eq_false', beq_iff_eq, bne_iff_ne, beq_eq_false_iff_ne, ne_eq, bne_eq_false_iff_eq, Decidable.not_not, Bool.and_eq_true, Bool.and_eq_false_imp] at hb))
      | (simp only [go_sem, Nat.reduceLeDiff, Nat.reduceEqDiff, reduceIte, reduceCtorEq, Nat.reduceAdd, Nat.reduceMul, Nat.reduceSub, Nat.reduceLT, Int.reduceLT, Int.reduceLE, Int.reduceNeg, Int.reduceToNat, Nat.reduceBEq, Nat.reduceBNe, Int.reduceGE, Int.reduceGT, *])))
        · have := eq_of_takes hlen (by omega) ht
          subst this; simp
  · cases hr

/-! laws.szIntS -/
def cSzIntS : Contract := ⟨[], false, fun
  | [.one (.sl 1 a), .one (.v (.int .i64 k))] => some (WfI a ∧ 0 ≤ k ∧ k ≤ 1048576, [⟨false, [.d (.v (.int .i64 (szI (unI a) k)))]⟩], [])
  | _ => none⟩

theorem szIntS_ok : ContractOK E0 40 cSzIntS := by
  refine contract_of_wpc (E := E0) (T := mkT Try.prog [] false (fun _ => false) true (fun _ => false)) (mkT_ok (E := E0) .nil) (fn := Try.f40) Try.func40 (by kernel_rfl) rfl mixedT (by kernel_rfl) rfl ?_
  intro args p rs ms hr
  unfold cSzIntS at hr
  dsimp only at hr
  split at hr
  · simp only [Option.some.injEq, Prod.mk.injEq] at hr
    obtain ⟨rfl, rfl, rfl⟩ := hr
    refine ⟨rfl, rfl, Nat.le_of_ble_eq_true rfl, ?_⟩
    rintro ⟨h1, h2, h3⟩ bs
    obtain ⟨xs, rfl, hx⟩ := h1.ex
    clear h1
    rw [unI_iL]
    have hm : maxLen = 9223372036854775807 := rfl
    (repeat' (first
      | (refine gate_intro (by first | omega | ((repeat' (first | apply And.intro | assumption | omega | intro _)); done) | (simp only [maxLen]; omega) | simp_all | (simp_all [maxLen]; omega)) fun _ => ?_)
      | ((refine fork_intro (fun hb => ?_) (fun hb => ?_)) <;> (try simp only [decide_eq_true_eq, decide_eq_false_iff_not, iL_length, sL_length, Int.ofNat_lt, Int.ofNat_le, Bool.not_eq_true', Bool.not_eq_false', beq_iff_eq, bne_iff_ne, beq_eq_false_iff_ne, ne_eq, bne_eq_false_iff_eq, Decidable.not_not, Bool.and_eq_true, Bool.and_eq_false_imp, cSzIntS, Try.results40, szI] at hb))
      | (simp only [go_sem, Nat.reduceLeDiff, Nat.reduceEqDiff, reduceIte, reduceCtorEq, Nat.reduceAdd, Nat.reduceMul, Nat.reduceSub, Nat.reduceLT, Int.reduceLT, Int.reduceLE, Int.reduceNeg, Int.reduceToNat, Nat.reduceBEq, Nat.reduceBNe, Int.reduceGE, Int.reduceGT, *, cSzIntS, Try.results40, szI])))
  · cases hr

/-! laws.szIntSS -/
def cSzIntSS : Contract := ⟨[], false, fun
  | [.one (.sl 1 a), .one (.v (.int .i64 k))] => some (WfS a ∧ 0 ≤ k ∧ k ≤ 1048576, [⟨false, [.d (.v (.int .i64 (szL (unS a) k)))]⟩], [])
  | _ => none⟩

theorem szI_le {r : List Int} {k : Int} (h : ¬ szI r k < 0) : szI r k ≤ k := by unfold szI at *; split <;> omega

theorem szIntSS_ok : ContractOK E0 10 cSzIntSS := by
  refine contract_of_wpc (E := E0) (T := mkT Try.prog [(40, cSzIntS)] false (fun _ => false) true (fun _ => false)) (mkT_ok (E := E0) (.cons szIntS_ok .nil)) (fn := Try.f10) Try.func10 (by kernel_rfl) rfl mixedT (by kernel_rfl) rfl ?_
  intro args p rs ms hr
  unfold cSzIntSS at hr
  dsimp only at hr
  split at hr
  · rename_i l k
    simp only [Option.some.injEq, Prod.mk.injEq] at hr
    obtain ⟨rfl, rfl, rfl⟩ := hr
    refine ⟨rfl, rfl, Nat.le_of_ble_eq_true rfl, ?_⟩
    rintro ⟨h1, h2, h3⟩ bs
    obtain ⟨rs, rfl, hx, hy⟩ := h1.ex
    clear h1
    rw [unS_sL]
    have hm : maxLen = 9223372036854775807 := rfl
    unfold szL
    (repeat' (first
      | (refine gate_intro (by first | omega | ((repeat' (first | apply And.intro | assumption | omega | intro _)); done) | (simp only [maxLen]; omega) | simp_all | (simp_all [maxLen]; omega)) fun _ => ?_)
      | ((refine fork_intro (fun hb => ?_) (fun hb => ?_)) <;> (try simp only [decide_eq_true_eq, decide_eq_false_iff_not, iL_length, sL_length, Int.ofNat_lt, Int.ofNat_le, Bool.not_eq_true', Bool.not_eq_false', beq_iff_eq, bne_iff_ne, beq_eq_false_iff_ne, ne_eq, bne_eq_false_iff_eq, Decidable.not_not, Bool.and_eq_true, Bool.and_eq_false_imp, cSzIntSS, Try.results10, cSzIntS] at hb))
      | (simp only [go_sem, Nat.reduceLeDiff, Nat.reduceEqDiff, reduceIte, reduceCtorEq, Nat.reduceAdd, Nat.reduceMul, Nat.reduceSub, Nat.reduceLT, Int.reduceLT, Int.reduceLE, Int.reduceNeg, Int.reduceToNat, Nat.reduceBEq, Nat.reduceBNe, Int.reduceGE, Int.reduceGT, *, cSzIntSS, Try.results10, cSzIntS])))
    refine loop_intro { ι := Nat × Int, rs := [(4, 5), (12, 26)], mods := [(5, fun i => .one (.d (.v (.int .i64 i.1)))), (1, fun i => .one (.d (.v (.int .i64 i.2))))], boxes := [], arrs := [], ok := fun i => i.1 ≤ rs.length ∧ 0 ≤ i.2 ∧ i.2 ≤ 1048576 ∧ szGo (rs.drop i.1) i.2 = szGo rs (k - rs.length), mu := fun i => rs.length - i.1 } rfl (0, k - rs.length) ⟨Nat.zero_le _, by dsimp only; omega, by dsimp only; omega, rfl⟩ ?_ ?_
    · (repeat' (first
      | (refine gate_intro (by first | omega | ((repeat' (first | apply And.intro | assumption | omega | intro _)); done) | (simp only [maxLen]; omega) | simp_all | (simp_all [maxLen]; omega)) fun _ => ?_)
      | ((refine fork_intro (fun hb => ?_) (fun hb => ?_)) <;> (try simp only [decide_eq_true_eq, decide_eq_false_iff_not, iL_length, sL_length, Int.ofNat_lt, Int.ofNat_le, Bool.not_eq_true', Bool.not_eq_false', beq_iff_eq, bne_iff_ne, beq_eq_false_iff_ne, ne_eq, bne_eq_false_iff_eq, Decidable.not_not, Bool.and_eq_true, Bool.and_eq_false_imp] at hb))
      | (simp only [go_sem, Nat.reduceLeDiff, Nat.reduceEqDiff, reduceIte, reduceCtorEq, Nat.reduceAdd, Nat.reduceMul, Nat.reduceSub, Nat.reduceLT, Int.reduceLT, Int.reduceLE, Int.reduceNeg, Int.reduceToNat, Nat.reduceBEq, Nat.reduceBNe, Int.reduceGE, Int.reduceGT, *])))
    · rintro ⟨i, kk⟩ hi
      dsimp only at hi
      obtain ⟨hi, hk0, hk1, ht⟩ := hi
      (repeat' (first
      | (refine gate_intro (by first | omega | ((repeat' (first | apply And.intro | assumption | omega | intro _)); done) | (simp only [maxLen]; omega) | simp_all | (simp_all [maxLen]; omega)) fun _ => ?_)
      | ((refine fork_intro (fun hb => ?_) (fun hb => ?_)) <;> (try simp only [decide_eq_true_eq, decide_eq_false_iff_not, iL_length, sL_length, Int.ofNat_lt, Int.ofNat_le, Bool.not_eq_true', Bool.not_eq_false', beq_iff_eq, bne_iff_ne, beq_eq_false_iff_ne, ne_eq, bne_eq_false_iff_eq, Decidable.not_not, Bool.and_eq_true, Bool.and_eq_false_imp, cSzIntSS, Try.results10, cSzIntS] at hb))
      | (simp only [go_sem, Nat.reduceLeDiff, Nat.reduceEqDiff, reduceIte, reduceCtorEq, Nat.reduceAdd, Nat.reduceMul, Nat.reduceSub, Nat.reduceLT, Int.reduceLT, Int.reduceLE, Int.reduceNeg, Int.reduceToNat, Nat.reduceBEq, Nat.reduceBNe, Int.reduceGE, Int.reduceGT, *, cSzIntSS, Try.results10, cSzIntS])))
      · rw [← ht, drop_getD (by omega) [], szGo, if_pos ‹_›]
      · have := szI_le ‹_›
        refine loop_next (i + 1, szI (rs.getD i []) kk) ⟨by dsimp only; omega, by dsimp only; omega, by dsimp only; omega, ?_⟩ (by dsimp only; omega) ?_
        · dsimp only
          rw [← ht, drop_getD (xs := rs) (i := i) (by omega) [], szGo, if_neg ‹_›]
        · (repeat' (first
      | (refine gate_intro (by first | omega | ((repeat' (first | apply And.intro | assumption | omega | intro _)); done) | (simp only [maxLen]; omega) | simp_all | (simp_all [maxLen]; omega)) fun _ => ?_)
      | ((refine fork_intro (fun hb => ?_) (fun hb => ?_)) <;> (try simp only [decide_eq_true_eq, decide_eq_false_iff_not, iL_length, sL_length, Int.ofNat_lt, Int.ofNat_le, Bool.not_eq_true', Bool.not_eq_false', beq_iff_eq, bne_iff_ne, beq_eq_false_iff_ne, ne_eq, bne_eq_false_iff_eq, Decidable.not_not, Bool.and_eq_true, Bool.and_eq_false_imp] at hb))
      | (simp only [go_sem, Nat.reduceLeDiff, Nat.reduceEqDiff, reduceIte, reduceCtorEq, Nat.reduceAdd, Nat.reduceMul, Nat.reduceSub, Nat.reduceLT, Int.reduceLT, Int.reduceLE, Int.reduceNeg, Int.reduceToNat, Nat.reduceBEq, Nat.reduceBNe, Int.reduceGE, Int.reduceGT, *])))
      · rw [← ht, List.drop_of_length_le (by omega)]; rfl
  · cases hr

/-! laws.szTable -/
def WfT (c : Int) (l : List (List D)) : Prop := WfS l ∧ -9223372036854775808 ≤ c ∧ c ≤ 9223372036854775807

def cSzTable : Contract := ⟨[], false, fun
  | [.agg [.v (.int .i64 c), .sl 1 a], .one (.v (.int .i64 k))] => some (WfS a ∧ 0 ≤ k ∧ k ≤ 1048576, [⟨false, [.d (.v (.int .i64 (szL (unS a) k)))]⟩], [])
  | _ => none⟩

theorem szGo_neg : ∀ {rs : List (List Int)} {k : Int}, 0 ≤ k → szGo rs k < 0 → szGo rs k = -1
  | [], k, h, h1 => by simp [szGo] at h1; omega
  | r :: rs, k, h, h1 => by
    simp only [szGo] at h1 ⊢
    split
    · rfl
    · rw [if_neg ‹_›] at h1
      exact szGo_neg (by omega) h1
theorem szL_neg {rs : List (List Int)} {k : Int} (h : szL rs k < 0) : szL rs k = -1 := by
  unfold szL at *
  split
  · rfl
  · rw [if_neg ‹_›] at h
    exact szGo_neg (by omega) h

end Go.Own
