import Derived.Test.YtmfieiphcjenlaaOwnV2
namespace Go.Own
open Go Go.Proofs
set_option linter.unusedSimpArgs false
set_option linter.unusedVariables false
set_option maxRecDepth 20000


/-! laws.toIntS -/
def cToIntS : Contract := ⟨[], false, fun
  | [.one (.sl 1 l)] => some (WfI l ∧ l.length ≤ 16777216, [⟨false, [.own 1 l 1]⟩], [])
  | _ => none⟩

theorem toIntS_ok : ContractOK E0 21 cToIntS := by
  refine contract_of_wpc (E := E0) (T := mkT Try.prog [] false (fun _ => false) true (fun _ => false)) (mkT_ok (E := E0) .nil) (fn := Try.f21) Try.func21 (by kernel_rfl) rfl mixedT (by kernel_rfl) rfl ?_
  intro args p rs ms hr
  unfold cToIntS at hr
  dsimp only at hr
  split at hr
  · simp only [Option.some.injEq, Prod.mk.injEq] at hr
    obtain ⟨rfl, rfl, rfl⟩ := hr
    refine ⟨rfl, rfl, Nat.le_of_ble_eq_true rfl, ?_⟩
    rintro ⟨h1, hx⟩ bs
    obtain ⟨xs, rfl, -⟩ := h1.ex
    clear h1
    rw [iL_length] at hx
    (repeat' (first
      | (refine gate_intro (by first | omega | ((repeat' (first | apply And.intro | assumption | omega | intro _)); done) | (simp only [maxLen]; omega) | simp_all | (simp_all [maxLen]; omega)) fun _ => ?_)
      | ((refine fork_intro (fun hb => ?_) (fun hb => ?_)) <;> (try simp only [decide_eq_true_eq, decide_eq_false_iff_not, iL_length, sL_length, Int.ofNat_lt, Int.ofNat_le, Bool.not_eq_true', Bool.not_eq_false', beq_iff_eq, bne_iff_ne, beq_eq_false_iff_ne, ne_eq, bne_eq_false_iff_eq, Decidable.not_not, Bool.and_eq_true, Bool.and_eq_false_imp, cToIntS] at hb))
      | (simp only [go_sem, Nat.reduceLeDiff, Nat.reduceEqDiff, reduceIte, reduceCtorEq, Nat.reduceAdd, Nat.reduceMul, Nat.reduceSub, Nat.reduceLT, Int.reduceLT, Int.reduceLE, Int.reduceNeg, Int.reduceToNat, Nat.reduceBEq, Nat.reduceBNe, Int.reduceGE, Int.reduceGT, *, cToIntS])))
    refine loop_intro { ι := Nat, rs := [(8, 21)], mods := [(4, fun i => .one (.d (.v (.int .i64 i))))], boxes := [], arrs := [(3, fun i => (1, iL (xs.take i ++ List.replicate (xs.length - i) 0), 1))], ok := fun i => i ≤ xs.length, mu := fun i => xs.length - i } rfl 0 (Nat.zero_le _) ?_ fun i hi => ?_
    · (repeat' (first
      | (refine gate_intro (by first | omega | ((repeat' (first | apply And.intro | assumption | omega | intro _)); done) | (simp only [maxLen]; omega) | simp_all | (simp_all [maxLen]; omega)) fun _ => ?_)
      | ((refine fork_intro (fun hb => ?_) (fun hb => ?_)) <;> (try simp only [decide_eq_true_eq, decide_eq_false_iff_not, iL_length, sL_length, Int.ofNat_lt, Int.ofNat_le, Bool.not_eq_true', Bool.not_eq_false', beq_iff_eq, bne_iff_ne, beq_eq_false_iff_ne, ne_eq, bne_eq_false_iff_eq, Decidable.not_not, Bool.and_eq_true, Bool.and_eq_false_imp, cToIntS] at hb))
      | (simp only [go_sem, Nat.reduceLeDiff, Nat.reduceEqDiff, reduceIte, reduceCtorEq, Nat.reduceAdd, Nat.reduceMul, Nat.reduceSub, Nat.reduceLT, Int.reduceLT, Int.reduceLE, Int.reduceNeg, Int.reduceToNat, Nat.reduceBEq, Nat.reduceBNe, Int.reduceGE, Int.reduceGT, *, cToIntS])))
      simp [iL]
    · dsimp only at i hi
      (repeat' (first
      | (refine gate_intro (by first | omega | ((repeat' (first | apply And.intro | assumption | omega | intro _)); done) | (simp only [maxLen]; omega) | simp_all | (simp_all [maxLen]; omega)) fun _ => ?_)
      | ((refine fork_intro (fun hb => ?_) (fun hb => ?_)) <;> (try simp only [decide_eq_true_eq, decide_eq_false_iff_not, iL_length, sL_length, Int.ofNat_lt, Int.ofNat_le, Bool.not_eq_true', Bool.not_eq_false', beq_iff_eq, bne_iff_ne, beq_eq_false_iff_ne, ne_eq, bne_eq_false_iff_eq, Decidable.not_not, Bool.and_eq_true, Bool.and_eq_false_imp, cToIntS, Try.results21] at hb))
      | (simp only [go_sem, Nat.reduceLeDiff, Nat.reduceEqDiff, reduceIte, reduceCtorEq, Nat.reduceAdd, Nat.reduceMul, Nat.reduceSub, Nat.reduceLT, Int.reduceLT, Int.reduceLE, Int.reduceNeg, Int.reduceToNat, Nat.reduceBEq, Nat.reduceBNe, Int.reduceGE, Int.reduceGT, *, cToIntS, Try.results21])))
      · refine loop_next (i + 1) (by dsimp only; omega) (by dsimp only; omega) ?_
        (repeat' (first
      | (refine gate_intro (by first | omega | ((repeat' (first | apply And.intro | assumption | omega | intro _)); done) | (simp only [maxLen]; omega) | simp_all | (simp_all [maxLen]; omega)) fun _ => ?_)
      | ((refine fork_intro (fun hb => ?_) (fun hb => ?_)) <;> (try simp only [decide_eq_true_eq, decide_eq_false_iff_not, iL_length, sL_length, Int.ofNat_lt, Int.ofNat_le, Bool.not_eq_true', Bool.not_eq_false', beq_iff_eq, bne_iff_ne, beq_eq_false_iff_ne, ne_eq, bne_eq_false_iff_eq, Decidable.not_not, Bool.and_eq_true, Bool.and_eq_false_imp, take_set] at hb))
      | (simp only [go_sem, Nat.reduceLeDiff, Nat.reduceEqDiff, reduceIte, reduceCtorEq, Nat.reduceAdd, Nat.reduceMul, Nat.reduceSub, Nat.reduceLT, Int.reduceLT, Int.reduceLE, Int.reduceNeg, Int.reduceToNat, Nat.reduceBEq, Nat.reduceBNe, Int.reduceGE, Int.reduceGT, *, take_set])))
      · rw [take_all ‹_›]
  · cases hr

/-! laws.toIntSS -/
def cToIntSS : Contract := ⟨[], false, fun
  | [.one (.sl 1 l)] => some (WfS l ∧ l.length ≤ 16777216 ∧ ∀ r ∈ unS l, r.length ≤ 16777216, [⟨false, [.own 1 l 1]⟩], [])
  | _ => none⟩

theorem sL_set {rs : List (List Int)} {z : List D} {i : Nat} (h : i < rs.length) : (sL (rs.take i) ++ List.replicate (rs.length - i) z).set i [D.sl 1 (iL (rs.getD i []))] = sL (rs.take (i + 1)) ++ List.replicate (rs.length - (i + 1)) z := by
  have e : rs.length - i = rs.length - (i + 1) + 1 := by omega
  have e2 : (sL (rs.take i)).length = i := by rw [sL_length]; simp; omega
  rw [List.set_append_right _ _ (by omega), e2, Nat.sub_self, e, List.replicate_succ, List.set_cons_zero, take_succ_getD h []]
  simp [sL]
theorem sL_set' {rs : List (List Int)} {z : D} {i : Nat} (h : i < rs.length) : (sL (rs.take i) ++ List.replicate (rs.length - i) [z]).set i (((sL (rs.take i) ++ List.replicate (rs.length - i) [z]).getD i []).set 0 (D.sl 1 (iL (rs.getD i [])))) = sL (rs.take (i + 1)) ++ List.replicate (rs.length - (i + 1)) [z] := by
  have e : (sL (rs.take i) ++ List.replicate (rs.length - i) [z]).getD i [] = [z] := by
    have e2 : (sL (rs.take i)).length = i := by rw [sL_length]; simp; omega
    rw [List.getD_eq_getElem?_getD, List.getElem?_append_right (by omega), e2, Nat.sub_self]
    have : 0 < rs.length - i := by omega
    simp [this]
  rw [e, List.set_cons_zero, sL_set h]
theorem sL_all {rs : List (List Int)} {z : List D} {i : Nat} (h : ¬ i < rs.length) : sL (rs.take i) ++ List.replicate (rs.length - i) z = sL rs := by
  have : rs.length - i = 0 := by omega
  rw [this, List.take_of_length_le (by omega)]; simp

theorem toIntSS_ok : ContractOK E0 13 cToIntSS := by
  refine contract_of_wpc (E := E0) (T := mkT Try.prog [(21, cToIntS)] false (fun _ => false) true (fun _ => false)) (mkT_ok (E := E0) (.cons toIntS_ok .nil)) (fn := Try.f13) Try.func13 (by kernel_rfl) rfl mixedT (by kernel_rfl) rfl ?_
  intro args p rs ms hr
  unfold cToIntSS at hr
  dsimp only at hr
  split at hr
  · simp only [Option.some.injEq, Prod.mk.injEq] at hr
    obtain ⟨rfl, rfl, rfl⟩ := hr
    refine ⟨rfl, rfl, Nat.le_of_ble_eq_true rfl, ?_⟩
    rintro ⟨h1, hx, hy⟩ bs
    obtain ⟨rs, rfl, -⟩ := h1.ex
    clear h1
    rw [sL_length] at hx
    rw [unS_sL] at hy
    (repeat' (first
      | (refine gate_intro (by first | omega | ((repeat' (first | apply And.intro | assumption | omega | intro _)); done) | (simp only [maxLen]; omega) | simp_all | (simp_all [maxLen]; omega)) fun _ => ?_)
      | ((refine fork_intro (fun hb => ?_) (fun hb => ?_)) <;> (try simp only [decide_eq_true_eq, decide_eq_false_iff_not, iL_length, sL_length, Int.ofNat_lt, Int.ofNat_le, Bool.not_eq_true', Bool.not_eq_false', beq_iff_eq, bne_iff_ne, beq_eq_false_iff_ne, ne_eq, bne_eq_false_iff_eq, Decidable.not_not, Bool.and_eq_true, Bool.and_eq_false_imp, cToIntSS] at hb))
      | (simp only [go_sem, Nat.reduceLeDiff, Nat.reduceEqDiff, reduceIte, reduceCtorEq, Nat.reduceAdd, Nat.reduceMul, Nat.reduceSub, Nat.reduceLT, Int.reduceLT, Int.reduceLE, Int.reduceNeg, Int.reduceToNat, Nat.reduceBEq, Nat.reduceBNe, Int.reduceGE, Int.reduceGT, *, cToIntSS])))
    refine loop_intro { ι := Nat, rs := [(8, 22)], mods := [(4, fun i => .one (.d (.v (.int .i64 i))))], boxes := [], arrs := [(3, fun i => (1, sL (rs.take i) ++ List.replicate (rs.length - i) [D.v (.slice none 0 0)], 1))], ok := fun i => i ≤ rs.length, mu := fun i => rs.length - i } rfl 0 (Nat.zero_le _) ?_ fun i hi => ?_
    · (repeat' (first
      | (refine gate_intro (by first | omega | ((repeat' (first | apply And.intro | assumption | omega | intro _)); done) | (simp only [maxLen]; omega) | simp_all | (simp_all [maxLen]; omega)) fun _ => ?_)
      | ((refine fork_intro (fun hb => ?_) (fun hb => ?_)) <;> (try simp only [decide_eq_true_eq, decide_eq_false_iff_not, iL_length, sL_length, Int.ofNat_lt, Int.ofNat_le, Bool.not_eq_true', Bool.not_eq_false', beq_iff_eq, bne_iff_ne, beq_eq_false_iff_ne, ne_eq, bne_eq_false_iff_eq, Decidable.not_not, Bool.and_eq_true, Bool.and_eq_false_imp, cToIntSS] at hb))
      | (simp only [go_sem, Nat.reduceLeDiff, Nat.reduceEqDiff, reduceIte, reduceCtorEq, Nat.reduceAdd, Nat.reduceMul, Nat.reduceSub, Nat.reduceLT, Int.reduceLT, Int.reduceLE, Int.reduceNeg, Int.reduceToNat, Nat.reduceBEq, Nat.reduceBNe, Int.reduceGE, Int.reduceGT, *, cToIntSS])))
      simp [sL]
    · dsimp only at i hi
      have hyi := all_getD hy
      have hyj : ∀ i, (rs.getD i []).length ≤ maxLen := fun i => Nat.le_trans (hyi i) (by decide)
      (repeat' (first
      | (refine gate_intro (by first | omega | ((repeat' (first | apply And.intro | assumption | omega | intro _)); done) | (simp only [maxLen]; omega) | simp_all | (simp_all [maxLen]; omega)) fun _ => ?_)
      | ((refine fork_intro (fun hb => ?_) (fun hb => ?_)) <;> (try simp only [decide_eq_true_eq, decide_eq_false_iff_not, iL_length, sL_length, Int.ofNat_lt, Int.ofNat_le, Bool.not_eq_true', Bool.not_eq_false', beq_iff_eq, bne_iff_ne, beq_eq_false_iff_ne, ne_eq, bne_eq_false_iff_eq, Decidable.not_not, Bool.and_eq_true, Bool.and_eq_false_imp, cToIntSS, cToIntS, Try.results13] at hb))
      | (simp only [go_sem, Nat.reduceLeDiff, Nat.reduceEqDiff, reduceIte, reduceCtorEq, Nat.reduceAdd, Nat.reduceMul, Nat.reduceSub, Nat.reduceLT, Int.reduceLT, Int.reduceLE, Int.reduceNeg, Int.reduceToNat, Nat.reduceBEq, Nat.reduceBNe, Int.reduceGE, Int.reduceGT, *, cToIntSS, cToIntS, Try.results13])))
      · refine loop_next (i + 1) (by dsimp only; omega) (by dsimp only; omega) ?_
        (repeat' (first
      | (refine gate_intro (by first | omega | ((repeat' (first | apply And.intro | assumption | omega | intro _)); done) | (simp only [maxLen]; omega) | simp_all | (simp_all [maxLen]; omega)) fun _ => ?_)
      | ((refine fork_intro (fun hb => ?_) (fun hb => ?_)) <;> (try simp only [decide_eq_true_eq, decide_eq_false_iff_not, iL_length, sL_length, Int.ofNat_lt, Int.ofNat_le, Bool.not_eq_true', Bool.not_eq_false', beq_iff_eq, bne_iff_ne, beq_eq_false_iff_ne, ne_eq, bne_eq_false_iff_eq, Decidable.not_not, Bool.and_eq_true, Bool.and_eq_false_imp, sL_set'] at hb))
      | (simp only [go_sem, Nat.reduceLeDiff, Nat.reduceEqDiff, reduceIte, reduceCtorEq, Nat.reduceAdd, Nat.reduceMul, Nat.reduceSub, Nat.reduceLT, Int.reduceLT, Int.reduceLE, Int.reduceNeg, Int.reduceToNat, Nat.reduceBEq, Nat.reduceBNe, Int.reduceGE, Int.reduceGT, *, sL_set'])))
      · rw [sL_all ‹_›]
  · cases hr

/-! laws.toTable -/
def cToTable : Contract := ⟨[], false, fun
  | [.agg [.v (.int .i64 c), .sl 1 l]] => some (WfS l ∧ l.length ≤ 16777216 ∧ ∀ r ∈ unS l, r.length ≤ 16777216, [⟨true, [.d (.v (.int .i64 c)), .own 1 l 1]⟩], [])
  | _ => none⟩

/-! laws.eqIntSS -/
def cEqIntSS : Contract := ⟨[], false, fun
  | [.one (.sl 1 a), .one (.sl 1 b)] => some (WfS a ∧ WfS b, [⟨false, [.d (.v (.bool (unS a == unS b)))]⟩], [])
  | _ => none⟩

theorem not_len' {xs ys : List (List Int)} (h : ¬ (xs.length : Int) = ys.length) : (xs == ys) = false := beq_eq_false_iff_ne.2 fun e => h (by rw [e])

theorem eqIntSS_ok : ContractOK E0 15 cEqIntSS := by
  refine contract_of_wpc (E := E0) (T := mkT Try.prog [(23, cEqIntS)] false (fun _ => false) true (fun _ => false)) (mkT_ok (E := E0) (.cons eqIntS_ok .nil)) (fn := Try.f15) Try.func15 (by kernel_rfl) rfl mixedT (by kernel_rfl) rfl ?_
  intro args p rs ms hr
  unfold cEqIntSS at hr
  dsimp only at hr
  split at hr
  · simp only [Option.some.injEq, Prod.mk.injEq] at hr
    obtain ⟨rfl, rfl, rfl⟩ := hr
    refine ⟨rfl, rfl, Nat.le_of_ble_eq_true rfl, ?_⟩
    rintro ⟨h1, h2⟩ bs
    obtain ⟨xs, rfl, hx, hx'⟩ := h1.ex
    obtain ⟨ys, rfl, hy, hy'⟩ := h2.ex
    clear h1 h2
    rw [unS_sL, unS_sL]
    have hm : maxLen = 9223372036854775807 := rfl
    (repeat' (first
      | (refine gate_intro (by first | omega | ((repeat' (first | apply And.intro | assumption | omega | intro _)); done) | (simp only [maxLen]; omega) | simp_all | (simp_all [maxLen]; omega)) fun _ => ?_)
      | ((refine fork_intro (fun hb => ?_) (fun hb => ?_)) <;> (try simp only [decide_eq_true_eq, decide_eq_false_iff_not, iL_length, sL_length, Int.ofNat_lt, Int.ofNat_le, Bool.not_eq_true', Bool.not_eq_false', beq_iff_eq, bne_iff_ne, beq_eq_false_iff_ne, ne_eq, bne_eq_false_iff_eq, Decidable.not_not, Bool.and_eq_true, Bool.and_eq_false_imp, cEqIntSS, cEqIntS, Try.results15] at hb))
      | (simp only [go_sem, Nat.reduceLeDiff, Nat.reduceEqDiff, reduceIte, reduceCtorEq, Nat.reduceAdd, Nat.reduceMul, Nat.reduceSub, Nat.reduceLT, Int.reduceLT, Int.reduceLE, Int.reduceNeg, Int.reduceToNat, Nat.reduceBEq, Nat.reduceBNe, Int.reduceGE, Int.reduceGT, *, cEqIntSS, cEqIntS, Try.results15])))
    · exact (not_len' ‹_›).symm
    · refine loop_intro { ι := Nat, rs := [(4, 5), (11, 27)], mods := [(5, fun i => .one (.d (.v (.int .i64 i))))], boxes := [], arrs := [], ok := fun i => i ≤ xs.length ∧ xs.take i = ys.take i, mu := fun i => xs.length - i } rfl 0 ⟨Nat.zero_le _, rfl⟩ ?_ fun i hi => ?_
      · (repeat' (first
      | (refine gate_intro (by first | omega | ((repeat' (first | apply And.intro | assumption | omega | intro _)); done) | (simp only [maxLen]; omega) | simp_all | (simp_all [maxLen]; omega)) fun _ => ?_)
      | ((refine fork_intro (fun hb => ?_) (fun hb => ?_)) <;> (try simp only [decide_eq_true_eq, decide_eq_false_iff_not, iL_length, sL_length, Int.ofNat_lt, Int.ofNat_le, Bool.not_eq_true', Bool.not_eq_false', beq_iff_eq, bne_iff_ne, beq_eq_false_iff_ne, ne_eq, bne_eq_false_iff_eq, Decidable.not_not, Bool.and_eq_true, Bool.and_eq_false_imp, cEqIntSS] at hb))
      | (simp only [go_sem, Nat.reduceLeDiff, Nat.reduceEqDiff, reduceIte, reduceCtorEq, Nat.reduceAdd, Nat.reduceMul, Nat.reduceSub, Nat.reduceLT, Int.reduceLT, Int.reduceLE, Int.reduceNeg, Int.reduceToNat, Nat.reduceBEq, Nat.reduceBNe, Int.reduceGE, Int.reduceGT, *, cEqIntSS])))
      · dsimp only at i hi
        obtain ⟨hi, ht⟩ := hi
        have hlen : xs.length = ys.length := by omega
        have hxi := all_getD hx'
        have hyi := all_getD hy'
        (repeat' (first
      | (refine gate_intro (by first | omega | ((repeat' (first | apply And.intro | assumption | omega | intro _)); done) | (simp only [maxLen]; omega) | simp_all | (simp_all [maxLen]; omega)) fun _ => ?_)
      | ((refine fork_intro (fun hb => ?_) (fun hb => ?_)) <;> (try simp only [decide_eq_true_eq, decide_eq_false_iff_not, iL_length, sL_length, Int.ofNat_lt, Int.ofNat_le, Bool.not_eq_true', Bool.not_eq_false', beq_iff_eq, bne_iff_ne, beq_eq_false_iff_ne, ne_eq, bne_eq_false_iff_eq, Decidable.not_not, Bool.and_eq_true, Bool.and_eq_false_imp, cEqIntSS, cEqIntS, Try.results15] at hb))
      | (simp only [go_sem, Nat.reduceLeDiff, Nat.reduceEqDiff, reduceIte, reduceCtorEq, Nat.reduceAdd, Nat.reduceMul, Nat.reduceSub, Nat.reduceLT, Int.reduceLT, Int.reduceLE, Int.reduceNeg, Int.reduceToNat, Nat.reduceBEq, Nat.reduceBNe, Int.reduceGE, Int.reduceGT, *, cEqIntSS, cEqIntS, Try.results15])))
        · exact (beq_eq_false_iff_ne.2 (ne_of_getD ‹_›)).symm
        · refine loop_next (i + 1) ⟨by omega, ?_⟩ (by dsimp only; omega) ?_
          · rw [take_succ_getD (by omega) [], take_succ_getD (by omega) [], ht]; simp_all
          · (repeat' (first
      | (refine gate_intro (by first | omega | ((repeat' (first | apply And.intro | assumption | omega | intro _)); done) | (simp only [maxLen]; omega) | simp_all | (simp_all [maxLen]; omega)) fun _ => ?_)
      | ((refine fork_intro (fun hb => ?_) (fun hb => ?_)) <;> (try simp only [decide_eq_true_eq, decide_eq_false_iff_not, iL_length, sL_length, Int.ofNat_lt, Int.ofNat_le, Bool.not_eq_true', Bool.not_eq_false', beq_iff_eq, bne_iff_ne, beq_eq_false_iff_ne, ne_eq, bne_eq_false_iff_eq, Decidable.not_not, Bool.and_eq_true, Bool.and_eq_false_imp] at hb))
      | (simp only [go_sem, Nat.reduceLeDiff, Nat.reduceEqDiff, reduceIte, reduceCtorEq, Nat.reduceAdd, Nat.reduceMul, Nat.reduceSub, Nat.reduceLT, Int.reduceLT, Int.reduceLE, Int.reduceNeg, Int.reduceToNat, Nat.reduceBEq, Nat.reduceBNe, Int.reduceGE, Int.reduceGT, *])))
        · have := eq_of_takes hlen (by omega) ht
          subst this; simp
  · cases hr

/-! laws.eqTable -/
def cEqTable : Contract := ⟨[], false, fun
  | [.agg [.v (.int .i64 c), .sl 1 a], .agg [.v (.int .i64 d), .sl 1 b]] => some (WfS a ∧ WfS b, [⟨false, [.d (.v (.bool (c == d && unS a == unS b)))]⟩], [])
  | _ => none⟩

theorem eqTable_ok : ContractOK E0 26 cEqTable := by
  refine contract_of_wpc (E := E0) (T := mkT Try.prog [(15, cEqIntSS)] false (fun _ => false) true (fun _ => false)) (mkT_ok (E := E0) (.cons eqIntSS_ok .nil)) (fn := Try.f26) Try.func26 (by kernel_rfl) rfl mixedT (by kernel_rfl) rfl ?_
  intro args p rs ms hr
  unfold cEqTable at hr
  dsimp only at hr
  split at hr
  · simp only [Option.some.injEq, Prod.mk.injEq] at hr
    obtain ⟨rfl, rfl, rfl⟩ := hr
    refine ⟨rfl, rfl, Nat.le_of_ble_eq_true rfl, ?_⟩
    rintro ⟨h1, h2⟩ bs
    obtain ⟨xs, rfl, hx, hx'⟩ := h1.ex
    obtain ⟨ys, rfl, hy, hy'⟩ := h2.ex
    clear h1 h2
    rw [unS_sL, unS_sL]
    (repeat' (first
      | (refine gate_intro (by first | omega | ((repeat' (first | apply And.intro | assumption | omega | intro _)); done) | (simp only [maxLen]; omega) | simp_all | (simp_all [maxLen]; omega)) fun _ => ?_)
      | ((refine fork_intro (fun hb => ?_) (fun hb => ?_)) <;> (try simp only [decide_eq_true_eq, decide_eq_false_iff_not, iL_length, sL_length, Int.ofNat_lt, Int.ofNat_le, Bool.not_eq_true', Bool.not_eq_false', beq_iff_eq, bne_iff_ne, beq_eq_false_iff_ne, ne_eq, bne_eq_false_iff_eq, Decidable.not_not, Bool.and_eq_true, Bool.and_eq_false_imp, cEqTable, cEqIntSS, Try.results26] at hb))
      | (simp only [go_sem, Nat.reduceLeDiff, Nat.reduceEqDiff, reduceIte, reduceCtorEq, Nat.reduceAdd, Nat.reduceMul, Nat.reduceSub, Nat.reduceLT, Int.reduceLT, Int.reduceLE, Int.reduceNeg, Int.reduceToNat, Nat.reduceBEq, Nat.reduceBNe, Int.reduceGE, Int.reduceGT, *, cEqTable, cEqIntSS, Try.results26])))
    all_goals simp_all
  · cases hr
end Go.Own
