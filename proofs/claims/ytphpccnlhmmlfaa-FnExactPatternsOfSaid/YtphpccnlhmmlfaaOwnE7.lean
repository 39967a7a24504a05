import Derived.Test.YtphpccnlhmmlfaaOwnC9
import Derived.Test.YtphpccnlhmmlfaaOwnC8
namespace Go.Own
open Go Go.Proofs
set_option linter.unusedSimpArgs false
set_option linter.unusedVariables false
set_option maxRecDepth 20000
set_option maxHeartbeats 2000000

/-! Lists of quadruples as data. -/
def qL (xs : List (Int × Int × Int × Int)) : List (List D) := xs.map fun q => [D.v (.int .i64 q.1), D.v (.int .i64 q.2.1), D.v (.int .i64 q.2.2.1), D.v (.int .i64 q.2.2.2)]
def unQ (l : List (List D)) : List (Int × Int × Int × Int) := l.map fun
  | [.v (.int .i64 a), .v (.int .i64 b), .v (.int .i64 c), .v (.int .i64 d)] => (a, b, c, d)
  | _ => (0, 0, 0, 0)
theorem unQ_qL (xs : List (Int × Int × Int × Int)) : unQ (qL xs) = xs := by simp [unQ, qL, Function.comp_def]
theorem qL_length (xs : List (Int × Int × Int × Int)) : (qL xs).length = xs.length := by simp [qL]
theorem qL_get {xs : List (Int × Int × Int × Int)} {i : Nat} (h : i < xs.length) : (qL xs).getD i [] = [D.v (.int .i64 (xs.getD i (0, 0, 0, 0)).1), D.v (.int .i64 (xs.getD i (0, 0, 0, 0)).2.1), D.v (.int .i64 (xs.getD i (0, 0, 0, 0)).2.2.1), D.v (.int .i64 (xs.getD i (0, 0, 0, 0)).2.2.2)] := by
  simp [qL, List.getD_eq_getElem?_getD, h]
theorem qL_set {xs : List (Int × Int × Int × Int)} {i : Nat} {a b c d : Int} : (qL xs).set i [D.v (.int .i64 a), D.v (.int .i64 b), D.v (.int .i64 c), D.v (.int .i64 d)] = qL (xs.set i (a, b, c, d)) := by
  simp [qL, List.map_set]
theorem qL_inj {xs ys : List (Int × Int × Int × Int)} : qL xs = qL ys ↔ xs = ys := by
  constructor
  · intro h
    have := congrArg unQ h
    simpa only [unQ_qL] using this
  · rintro rfl; rfl
def WfQ (l : List (List D)) : Prop := l = qL (unQ l) ∧ l.length ≤ maxLen
theorem wfQ_qL {xs : List (Int × Int × Int × Int)} : WfQ (qL xs) ↔ xs.length ≤ maxLen := by simp [WfQ, unQ_qL, qL_length]
theorem WfQ.ex {l : List (List D)} (h : WfQ l) : ∃ xs, l = qL xs ∧ xs.length ≤ maxLen := ⟨unQ l, h.1, by have := h.2; rw [h.1, qL_length] at this; exact this⟩
theorem scal4 {a b c d : Value} : (∀ x ∈ [D.v a, D.v b, D.v c, D.v d], Scalar x) ↔ True := by
  refine ⟨fun _ => trivial, fun _ x hx => ?_⟩
  simp only [List.mem_cons, List.not_mem_nil, or_false] at hx
  rcases hx with rfl | rfl | rfl | rfl <;> trivial
theorem beq4 {a b c d a' b' c' d' : Int} : ([a, b, c, d] == [a', b', c', d']) = ((a, b, c, d) == (a', b', c', d')) := by
  rw [Bool.eq_iff_iff]; simp
theorem quad_eta {q : (Int × Int × Int × Int)} : (q.1, q.2.1, q.2.2.1, q.2.2.2) = q := rfl
theorem not_lenQ {xs ys : List (Int × Int × Int × Int)} (h : ¬ (xs.length : Int) = ys.length) : (xs == ys) = false := beq_eq_false_iff_ne.2 fun e => h (by rw [e])
theorem qL_snoc {xs : List (Int × Int × Int × Int)} {a b c d : Int} : qL xs ++ [[D.v (.int .i64 a), D.v (.int .i64 b), D.v (.int .i64 c), D.v (.int .i64 d)]] = qL (xs ++ [(a, b, c, d)]) := by simp [qL]



/-! Marks on quadruples. -/
def quad (k : Int) : (Int × Int × Int × Int) := (k, k + 1, k + 1 + 1, k + 1 + 1 + 1)
def markQ (k : Int) (n : Nat) : List (Int × Int × Int × Int) := (List.range n).map fun i => quad (k + 4 * (i : Nat))
theorem markQ_length {k : Int} {n : Nat} : (markQ k n).length = n := by simp [markQ]
theorem markQ_succ {k : Int} {n : Nat} : markQ k (n + 1) = markQ k n ++ [quad (k + 4 * n)] := by simp [markQ, List.range_succ]
theorem markQ_getD {k : Int} {n i : Nat} (h : i < n) : (markQ k n).getD i (0, 0, 0, 0) = quad (k + 4 * i) := by
  simp [markQ, List.getD_eq_getElem?_getD, h]
def heldQ (xs : List (Int × Int × Int × Int)) (k : Int) : Int := if xs = markQ k xs.length then k + 4 * xs.length else -1
theorem heldQ_marks {k : Int} {n : Nat} : heldQ (markQ k n) k = k + 4 * n := by simp [heldQ, markQ_length]
theorem mark_setQ {xs : List (Int × Int × Int × Int)} {k : Int} {i : Nat} (h : i < xs.length) : (markQ k i ++ xs.drop i).set i (k + 4 * i, k + 4 * i + 1, k + 4 * i + 1 + 1, k + 4 * i + 1 + 1 + 1) = markQ k (i + 1) ++ xs.drop (i + 1) := by
  rw [List.set_append_right _ _ (by rw [markQ_length]; omega), markQ_length, Nat.sub_self, drop_getD h (0, 0, 0, 0), List.set_cons_zero, markQ_succ]; simp [quad]
theorem mQ_length {xs : List (Int × Int × Int × Int)} {k : Int} {i : Nat} (h : i ≤ xs.length) : (markQ k i ++ xs.drop i).length = xs.length := by
  rw [List.length_append, markQ_length, List.length_drop]; omega
theorem getD_setQ {xs : List (Int × Int × Int × Int)} {i : Nat} {q : (Int × Int × Int × Int)} (h : i < xs.length) : (xs.set i q).getD i (0, 0, 0, 0) = q := by
  simp [List.getD_eq_getElem?_getD, h]

def cMarkQ : Contract := ⟨[true], false, fun
  | [.arr 4 l _, .one (.v (.int .i64 k))] => some (WfQ l ∧ l.length ≤ 16777216 ∧ 0 ≤ k ∧ k ≤ 1125899906842624, [⟨false, [.d (.v (.int .i64 (k + 4 * l.length)))]⟩], [.arr 4 (qL (markQ k l.length)) 1])
  | _ => none⟩
def cHeldQ : Contract := ⟨[], false, fun
  | [.one (.sl 4 l), .one (.v (.int .i64 k))] => some (WfQ l ∧ l.length ≤ 16777216 ∧ 0 ≤ k ∧ k ≤ 1125899906842624, [⟨false, [.d (.v (.int .i64 (heldQ (unQ l) k)))]⟩], [])
  | _ => none⟩

theorem markQ_ok : ContractOK E0 19 cMarkQ := by
  refine contract_of_wpcM (E := E0) (T := mkT Try.prog [] false (fun _ => false) false (fun _ => false)) (mkT_ok (E := E0) .nil) rfl (fn := Try.f19) Try.func19 (by kernel_rfl) rfl mixedT (by kernel_rfl) rfl rfl (Nat.le_of_ble_eq_true rfl) ?_
  intro args p rs ms hr
  unfold cMarkQ at hr
  dsimp only at hr
  split at hr
  rotate_left
  · cases hr
  rename_i l dp k
  simp only [Option.some.injEq, Prod.mk.injEq] at hr
  obtain ⟨rfl, rfl, rfl⟩ := hr
  refine ⟨_, _, _, rfl, rfl, rfl, rfl, rfl, Nat.le_of_ble_eq_true rfl, ?_⟩
  have hm : maxLen = 9223372036854775807 := rfl
  rintro ⟨h1, h2, h3, h4⟩ bs
  obtain ⟨xs, rfl, hx⟩ := h1.ex
  clear h1
  rw [qL_length] at h2
  (repeat' (first
      | (refine gate_intro (by first | omega | (simp only [maxLen]; omega) | simp_all | (simp_all [maxLen]; omega)) fun _ => ?_)
      | ((refine fork_intro (fun hb => ?_) (fun hb => ?_)) <;> (try simp only [decide_eq_true_eq, decide_eq_false_iff_not, iL_length, sL_length, Int.ofNat_lt, Int.ofNat_le, Bool.not_eq_true', Bool.not_eq_false', beq_iff_eq, bne_iff_ne, beq_eq_false_iff_ne, ne_eq, bne_eq_false_iff_eq, Decidable.not_not, Bool.and_eq_true, Bool.and_eq_false_imp, cMarkQ, Try.results19, unQ_qL, qL_length, qL_get, qL_set, qL_inj, wfQ_qL, scal4, beq4, quad_eta] at hb))
      | (simp only [go_sem, Nat.reduceLeDiff, Nat.reduceEqDiff, reduceIte, reduceCtorEq, Nat.reduceAdd, Nat.reduceMul, Nat.reduceSub, Nat.reduceLT, Int.reduceLT, Int.reduceLE, Int.reduceNeg, Int.reduceToNat, Nat.reduceBEq, Nat.reduceBNe, *, cMarkQ, Try.results19, unQ_qL, qL_length, qL_get, qL_set, qL_inj, wfQ_qL, scal4, beq4, quad_eta])))
  refine loop_intro { ι := Nat, rs := [(6, 42)], mods := [(5, fun i => .one (.d (.v (.int .i64 i)))), (1, fun i => .one (.d (.v (.int .i64 (k + 4 * (i : Nat))))))], boxes := [], arrs := [(0, fun i => (4, qL (markQ k i ++ xs.drop i), 1))], ok := fun i => i ≤ xs.length, mu := fun i => xs.length - i } rfl 0 (Nat.zero_le _) ?_ fun i hi => ?_
  · (repeat' (first
      | (refine gate_intro (by first | omega | (simp only [maxLen]; omega) | simp_all | (simp_all [maxLen]; omega)) fun _ => ?_)
      | ((refine fork_intro (fun hb => ?_) (fun hb => ?_)) <;> (try simp only [decide_eq_true_eq, decide_eq_false_iff_not, iL_length, sL_length, Int.ofNat_lt, Int.ofNat_le, Bool.not_eq_true', Bool.not_eq_false', beq_iff_eq, bne_iff_ne, beq_eq_false_iff_ne, ne_eq, bne_eq_false_iff_eq, Decidable.not_not, Bool.and_eq_true, Bool.and_eq_false_imp, cMarkQ, Try.results19, unQ_qL, qL_length, qL_get, qL_set, qL_inj, wfQ_qL, scal4, beq4, quad_eta] at hb))
      | (simp only [go_sem, Nat.reduceLeDiff, Nat.reduceEqDiff, reduceIte, reduceCtorEq, Nat.reduceAdd, Nat.reduceMul, Nat.reduceSub, Nat.reduceLT, Int.reduceLT, Int.reduceLE, Int.reduceNeg, Int.reduceToNat, Nat.reduceBEq, Nat.reduceBNe, *, cMarkQ, Try.results19, unQ_qL, qL_length, qL_get, qL_set, qL_inj, wfQ_qL, scal4, beq4, quad_eta])))
    all_goals first | exact ⟨by omega, by simp [markQ]⟩ | skip
  · dsimp only at i hi
    have hL := mQ_length (k := k) hi
    by_cases h5 : i < xs.length
    · have hm := mark_setQ (k := k) h5
      generalize hz : markQ k i ++ xs.drop i = zs at hL hm
      have h6 : i < zs.length := by omega
      have g1 := fun q => getD_setQ (q := q) h6
      (repeat' (first
      | (refine gate_intro (by first | omega | (simp only [maxLen]; omega) | simp_all | (simp_all [maxLen]; omega)) fun _ => ?_)
      | ((refine fork_intro (fun hb => ?_) (fun hb => ?_)) <;> (try simp only [decide_eq_true_eq, decide_eq_false_iff_not, iL_length, sL_length, Int.ofNat_lt, Int.ofNat_le, Bool.not_eq_true', Bool.not_eq_false', beq_iff_eq, bne_iff_ne, beq_eq_false_iff_ne, ne_eq, bne_eq_false_iff_eq, Decidable.not_not, Bool.and_eq_true, Bool.and_eq_false_imp, cMarkQ, Try.results19, unQ_qL, qL_length, qL_get, qL_set, qL_inj, wfQ_qL, scal4, beq4, quad_eta, hz, g1, List.set_set] at hb))
      | (simp only [go_sem, Nat.reduceLeDiff, Nat.reduceEqDiff, reduceIte, reduceCtorEq, Nat.reduceAdd, Nat.reduceMul, Nat.reduceSub, Nat.reduceLT, Int.reduceLT, Int.reduceLE, Int.reduceNeg, Int.reduceToNat, Nat.reduceBEq, Nat.reduceBNe, *, cMarkQ, Try.results19, unQ_qL, qL_length, qL_get, qL_set, qL_inj, wfQ_qL, scal4, beq4, quad_eta, hz, g1, List.set_set])))
      refine loop_next (i + 1) (by dsimp only; omega) (by dsimp only; omega) ?_
      have e : k + 4 * (i : Int) + 1 + 1 + 1 + 1 = k + 4 * ((i + 1 : Nat) : Int) := by omega
      (repeat' (first
      | (refine gate_intro (by first | omega | (simp only [maxLen]; omega) | simp_all | (simp_all [maxLen]; omega)) fun _ => ?_)
      | ((refine fork_intro (fun hb => ?_) (fun hb => ?_)) <;> (try simp only [decide_eq_true_eq, decide_eq_false_iff_not, iL_length, sL_length, Int.ofNat_lt, Int.ofNat_le, Bool.not_eq_true', Bool.not_eq_false', beq_iff_eq, bne_iff_ne, beq_eq_false_iff_ne, ne_eq, bne_eq_false_iff_eq, Decidable.not_not, Bool.and_eq_true, Bool.and_eq_false_imp, cMarkQ, Try.results19, unQ_qL, qL_length, qL_get, qL_set, qL_inj, wfQ_qL, scal4, beq4, quad_eta, hz, g1, List.set_set, e, hm] at hb))
      | (simp only [go_sem, Nat.reduceLeDiff, Nat.reduceEqDiff, reduceIte, reduceCtorEq, Nat.reduceAdd, Nat.reduceMul, Nat.reduceSub, Nat.reduceLT, Int.reduceLT, Int.reduceLE, Int.reduceNeg, Int.reduceToNat, Nat.reduceBEq, Nat.reduceBNe, *, cMarkQ, Try.results19, unQ_qL, qL_length, qL_get, qL_set, qL_inj, wfQ_qL, scal4, beq4, quad_eta, hz, g1, List.set_set, e, hm])))
    · have e5 : i = xs.length := by omega
      subst e5
      have e6 : markQ k xs.length ++ xs.drop xs.length = markQ k xs.length := by simp
      (repeat' (first
      | (refine gate_intro (by first | omega | (simp only [maxLen]; omega) | simp_all | (simp_all [maxLen]; omega)) fun _ => ?_)
      | ((refine fork_intro (fun hb => ?_) (fun hb => ?_)) <;> (try simp only [decide_eq_true_eq, decide_eq_false_iff_not, iL_length, sL_length, Int.ofNat_lt, Int.ofNat_le, Bool.not_eq_true', Bool.not_eq_false', beq_iff_eq, bne_iff_ne, beq_eq_false_iff_ne, ne_eq, bne_eq_false_iff_eq, Decidable.not_not, Bool.and_eq_true, Bool.and_eq_false_imp, cMarkQ, Try.results19, unQ_qL, qL_length, qL_get, qL_set, qL_inj, wfQ_qL, scal4, beq4, quad_eta, e6, markQ_length] at hb))
      | (simp only [go_sem, Nat.reduceLeDiff, Nat.reduceEqDiff, reduceIte, reduceCtorEq, Nat.reduceAdd, Nat.reduceMul, Nat.reduceSub, Nat.reduceLT, Int.reduceLT, Int.reduceLE, Int.reduceNeg, Int.reduceToNat, Nat.reduceBEq, Nat.reduceBNe, *, cMarkQ, Try.results19, unQ_qL, qL_length, qL_get, qL_set, qL_inj, wfQ_qL, scal4, beq4, quad_eta, e6, markQ_length])))
      all_goals first | rfl | skip

theorem heldQ_ok : ContractOK E0 20 cHeldQ := by
  refine contract_of_wpc (E := E0) (T := mkT Try.prog [] false (fun _ => false) true (fun _ => false)) (mkT_ok (E := E0) .nil) (fn := Try.f20) Try.func20 (by kernel_rfl) rfl mixedT (by kernel_rfl) rfl ?_
  intro args p rs ms hr
  unfold cHeldQ at hr
  dsimp only at hr
  split at hr
  rotate_left
  · cases hr
  rename_i l k
  simp only [Option.some.injEq, Prod.mk.injEq] at hr
  obtain ⟨rfl, rfl, rfl⟩ := hr
  refine ⟨rfl, rfl, Nat.le_of_ble_eq_true rfl, ?_⟩
  have hm : maxLen = 9223372036854775807 := rfl
  rintro ⟨h1, h2, h3, h4⟩ bs
  obtain ⟨xs, rfl, hx⟩ := h1.ex
  clear h1
  rw [unQ_qL]
  rw [qL_length] at h2
  (repeat' (first
      | (refine gate_intro (by first | omega | (simp only [maxLen]; omega) | simp_all | (simp_all [maxLen]; omega)) fun _ => ?_)
      | ((refine fork_intro (fun hb => ?_) (fun hb => ?_)) <;> (try simp only [decide_eq_true_eq, decide_eq_false_iff_not, iL_length, sL_length, Int.ofNat_lt, Int.ofNat_le, Bool.not_eq_true', Bool.not_eq_false', beq_iff_eq, bne_iff_ne, beq_eq_false_iff_ne, ne_eq, bne_eq_false_iff_eq, Decidable.not_not, Bool.and_eq_true, Bool.and_eq_false_imp, cHeldQ, Try.results20, unQ_qL, qL_length, qL_get, qL_set, qL_inj, wfQ_qL, scal4, beq4, quad_eta] at hb))
      | (simp only [go_sem, Nat.reduceLeDiff, Nat.reduceEqDiff, reduceIte, reduceCtorEq, Nat.reduceAdd, Nat.reduceMul, Nat.reduceSub, Nat.reduceLT, Int.reduceLT, Int.reduceLE, Int.reduceNeg, Int.reduceToNat, Nat.reduceBEq, Nat.reduceBNe, *, cHeldQ, Try.results20, unQ_qL, qL_length, qL_get, qL_set, qL_inj, wfQ_qL, scal4, beq4, quad_eta])))
  refine loop_intro { ι := Nat, rs := [(4, 5), (6, 50)], mods := [(5, fun i => .one (.d (.v (.int .i64 i)))), (1, fun i => .one (.d (.v (.int .i64 (k + 4 * (i : Nat))))))], boxes := [], arrs := [], ok := fun i => i ≤ xs.length ∧ xs.take i = markQ k i, mu := fun i => xs.length - i } rfl 0 ⟨Nat.zero_le _, rfl⟩ ?_ fun i hi => ?_
  · (repeat' (first
      | (refine gate_intro (by first | omega | (simp only [maxLen]; omega) | simp_all | (simp_all [maxLen]; omega)) fun _ => ?_)
      | ((refine fork_intro (fun hb => ?_) (fun hb => ?_)) <;> (try simp only [decide_eq_true_eq, decide_eq_false_iff_not, iL_length, sL_length, Int.ofNat_lt, Int.ofNat_le, Bool.not_eq_true', Bool.not_eq_false', beq_iff_eq, bne_iff_ne, beq_eq_false_iff_ne, ne_eq, bne_eq_false_iff_eq, Decidable.not_not, Bool.and_eq_true, Bool.and_eq_false_imp, cHeldQ, Try.results20, unQ_qL, qL_length, qL_get, qL_set, qL_inj, wfQ_qL, scal4, beq4, quad_eta] at hb))
      | (simp only [go_sem, Nat.reduceLeDiff, Nat.reduceEqDiff, reduceIte, reduceCtorEq, Nat.reduceAdd, Nat.reduceMul, Nat.reduceSub, Nat.reduceLT, Int.reduceLT, Int.reduceLE, Int.reduceNeg, Int.reduceToNat, Nat.reduceBEq, Nat.reduceBNe, *, cHeldQ, Try.results20, unQ_qL, qL_length, qL_get, qL_set, qL_inj, wfQ_qL, scal4, beq4, quad_eta])))
    all_goals first | omega | skip
  · dsimp only at i hi
    obtain ⟨hi, ht⟩ := hi
    have bad : ∀ h : i < xs.length, ¬ xs.getD i (0, 0, 0, 0) = quad (k + 4 * (i : Int)) → heldQ xs k = -1 := fun h hb => by
      rw [heldQ, if_neg]
      intro e
      refine hb ?_
      rw [e, markQ_getD h]
    by_cases h5 : i < xs.length
    · have bad := bad h5
      cases hq : xs.getD i (0, 0, 0, 0) with
      | mk q1 q =>
      cases q with
      | mk q2 q =>
      cases q with
      | mk q3 q4 =>
        rw [hq] at bad
        by_cases b1 : q1 = k + 4 * (i : Int)
        · by_cases b2 : q2 = k + 4 * (i : Int) + 1
          · by_cases b3 : q3 = k + 4 * (i : Int) + 1 + 1
            · by_cases b4 : q4 = k + 4 * (i : Int) + 1 + 1 + 1
              · have e1 : (q1 != k + 4 * (i : Int)) = false := by rw [b1]; simp
                have e2 : (q2 != k + 4 * (i : Int) + 1) = false := by rw [b2]; simp
                have e3 : (q3 != k + 4 * (i : Int) + 1 + 1) = false := by rw [b3]; simp
                have e4 : (q4 != k + 4 * (i : Int) + 1 + 1 + 1) = false := by rw [b4]; simp
                have hn : xs.take (i + 1) = markQ k (i + 1) := by rw [take_succ_getD h5 (0, 0, 0, 0), ht, hq, b1, b2, b3, b4, markQ_succ]; rfl
                clear b1 b2 b3 b4 bad
                (repeat' (first
      | (refine gate_intro (by first | omega | (simp only [maxLen]; omega) | simp_all | (simp_all [maxLen]; omega)) fun _ => ?_)
      | ((refine fork_intro (fun hb => ?_) (fun hb => ?_)) <;> (try simp only [decide_eq_true_eq, decide_eq_false_iff_not, iL_length, sL_length, Int.ofNat_lt, Int.ofNat_le, Bool.not_eq_true', Bool.not_eq_false', beq_iff_eq, bne_iff_ne, beq_eq_false_iff_ne, ne_eq, bne_eq_false_iff_eq, Decidable.not_not, Bool.and_eq_true, Bool.and_eq_false_imp, cHeldQ, Try.results20, unQ_qL, qL_length, qL_get, qL_set, qL_inj, wfQ_qL, scal4, beq4, quad_eta, hq, e1, e2, e3, e4] at hb))
      | (simp only [go_sem, Nat.reduceLeDiff, Nat.reduceEqDiff, reduceIte, reduceCtorEq, Nat.reduceAdd, Nat.reduceMul, Nat.reduceSub, Nat.reduceLT, Int.reduceLT, Int.reduceLE, Int.reduceNeg, Int.reduceToNat, Nat.reduceBEq, Nat.reduceBNe, *, cHeldQ, Try.results20, unQ_qL, qL_length, qL_get, qL_set, qL_inj, wfQ_qL, scal4, beq4, quad_eta, hq, e1, e2, e3, e4])))
                refine loop_next (i + 1) ⟨by omega, hn⟩ (by dsimp only; omega) ?_
                have e : k + 4 * (i : Int) + 1 + 1 + 1 + 1 = k + 4 * ((i + 1 : Nat) : Int) := by omega
                clear hn ht
                (repeat' (first
      | (refine gate_intro (by first | omega | (simp only [maxLen]; omega) | simp_all | (simp_all [maxLen]; omega)) fun _ => ?_)
      | ((refine fork_intro (fun hb => ?_) (fun hb => ?_)) <;> (try simp only [decide_eq_true_eq, decide_eq_false_iff_not, iL_length, sL_length, Int.ofNat_lt, Int.ofNat_le, Bool.not_eq_true', Bool.not_eq_false', beq_iff_eq, bne_iff_ne, beq_eq_false_iff_ne, ne_eq, bne_eq_false_iff_eq, Decidable.not_not, Bool.and_eq_true, Bool.and_eq_false_imp, cHeldQ, Try.results20, unQ_qL, qL_length, qL_get, qL_set, qL_inj, wfQ_qL, scal4, beq4, quad_eta, hq, e1, e2, e3, e4, e] at hb))
      | (simp only [go_sem, Nat.reduceLeDiff, Nat.reduceEqDiff, reduceIte, reduceCtorEq, Nat.reduceAdd, Nat.reduceMul, Nat.reduceSub, Nat.reduceLT, Int.reduceLT, Int.reduceLE, Int.reduceNeg, Int.reduceToNat, Nat.reduceBEq, Nat.reduceBNe, *, cHeldQ, Try.results20, unQ_qL, qL_length, qL_get, qL_set, qL_inj, wfQ_qL, scal4, beq4, quad_eta, hq, e1, e2, e3, e4, e])))
              · have e1 : (q1 != k + 4 * (i : Int)) = false := by rw [b1]; simp
                have e2 : (q2 != k + 4 * (i : Int) + 1) = false := by rw [b2]; simp
                have e3 : (q3 != k + 4 * (i : Int) + 1 + 1) = false := by rw [b3]; simp
                have e4 : (q4 != k + 4 * (i : Int) + 1 + 1 + 1) = true := by rw [bne_iff_ne]; exact b4
                rw [bad (fun e => b4 (congrArg (fun q => q.2.2.2) e))]
                clear b1 b2 b3 b4 bad ht
                (repeat' (first
      | (refine gate_intro (by first | omega | (simp only [maxLen]; omega) | simp_all | (simp_all [maxLen]; omega)) fun _ => ?_)
      | ((refine fork_intro (fun hb => ?_) (fun hb => ?_)) <;> (try simp only [decide_eq_true_eq, decide_eq_false_iff_not, iL_length, sL_length, Int.ofNat_lt, Int.ofNat_le, Bool.not_eq_true', Bool.not_eq_false', beq_iff_eq, bne_iff_ne, beq_eq_false_iff_ne, ne_eq, bne_eq_false_iff_eq, Decidable.not_not, Bool.and_eq_true, Bool.and_eq_false_imp, cHeldQ, Try.results20, unQ_qL, qL_length, qL_get, qL_set, qL_inj, wfQ_qL, scal4, beq4, quad_eta, hq, e1, e2, e3, e4] at hb))
      | (simp only [go_sem, Nat.reduceLeDiff, Nat.reduceEqDiff, reduceIte, reduceCtorEq, Nat.reduceAdd, Nat.reduceMul, Nat.reduceSub, Nat.reduceLT, Int.reduceLT, Int.reduceLE, Int.reduceNeg, Int.reduceToNat, Nat.reduceBEq, Nat.reduceBNe, *, cHeldQ, Try.results20, unQ_qL, qL_length, qL_get, qL_set, qL_inj, wfQ_qL, scal4, beq4, quad_eta, hq, e1, e2, e3, e4])))
            · have e1 : (q1 != k + 4 * (i : Int)) = false := by rw [b1]; simp
              have e2 : (q2 != k + 4 * (i : Int) + 1) = false := by rw [b2]; simp
              have e3 : (q3 != k + 4 * (i : Int) + 1 + 1) = true := by rw [bne_iff_ne]; exact b3
              rw [bad (fun e => b3 (congrArg (fun q => q.2.2.1) e))]
              clear b1 b2 b3 bad ht
              (repeat' (first
      | (refine gate_intro (by first | omega | (simp only [maxLen]; omega) | simp_all | (simp_all [maxLen]; omega)) fun _ => ?_)
      | ((refine fork_intro (fun hb => ?_) (fun hb => ?_)) <;> (try simp only [decide_eq_true_eq, decide_eq_false_iff_not, iL_length, sL_length, Int.ofNat_lt, Int.ofNat_le, Bool.not_eq_true', Bool.not_eq_false', beq_iff_eq, bne_iff_ne, beq_eq_false_iff_ne, ne_eq, bne_eq_false_iff_eq, Decidable.not_not, Bool.and_eq_true, Bool.and_eq_false_imp, cHeldQ, Try.results20, unQ_qL, qL_length, qL_get, qL_set, qL_inj, wfQ_qL, scal4, beq4, quad_eta, hq, e1, e2, e3] at hb))
      | (simp only [go_sem, Nat.reduceLeDiff, Nat.reduceEqDiff, reduceIte, reduceCtorEq, Nat.reduceAdd, Nat.reduceMul, Nat.reduceSub, Nat.reduceLT, Int.reduceLT, Int.reduceLE, Int.reduceNeg, Int.reduceToNat, Nat.reduceBEq, Nat.reduceBNe, *, cHeldQ, Try.results20, unQ_qL, qL_length, qL_get, qL_set, qL_inj, wfQ_qL, scal4, beq4, quad_eta, hq, e1, e2, e3])))
          · have e1 : (q1 != k + 4 * (i : Int)) = false := by rw [b1]; simp
            have e2 : (q2 != k + 4 * (i : Int) + 1) = true := by rw [bne_iff_ne]; exact b2
            rw [bad (fun e => b2 (congrArg (fun q => q.2.1) e))]
            clear b1 b2 bad ht
            (repeat' (first
      | (refine gate_intro (by first | omega | (simp only [maxLen]; omega) | simp_all | (simp_all [maxLen]; omega)) fun _ => ?_)
      | ((refine fork_intro (fun hb => ?_) (fun hb => ?_)) <;> (try simp only [decide_eq_true_eq, decide_eq_false_iff_not, iL_length, sL_length, Int.ofNat_lt, Int.ofNat_le, Bool.not_eq_true', Bool.not_eq_false', beq_iff_eq, bne_iff_ne, beq_eq_false_iff_ne, ne_eq, bne_eq_false_iff_eq, Decidable.not_not, Bool.and_eq_true, Bool.and_eq_false_imp, cHeldQ, Try.results20, unQ_qL, qL_length, qL_get, qL_set, qL_inj, wfQ_qL, scal4, beq4, quad_eta, hq, e1, e2] at hb))
      | (simp only [go_sem, Nat.reduceLeDiff, Nat.reduceEqDiff, reduceIte, reduceCtorEq, Nat.reduceAdd, Nat.reduceMul, Nat.reduceSub, Nat.reduceLT, Int.reduceLT, Int.reduceLE, Int.reduceNeg, Int.reduceToNat, Nat.reduceBEq, Nat.reduceBNe, *, cHeldQ, Try.results20, unQ_qL, qL_length, qL_get, qL_set, qL_inj, wfQ_qL, scal4, beq4, quad_eta, hq, e1, e2])))
        · have e1 : (q1 != k + 4 * (i : Int)) = true := by rw [bne_iff_ne]; exact b1
          rw [bad (fun e => b1 (congrArg (fun q => q.1) e))]
          clear b1 bad ht
          (repeat' (first
      | (refine gate_intro (by first | omega | (simp only [maxLen]; omega) | simp_all | (simp_all [maxLen]; omega)) fun _ => ?_)
      | ((refine fork_intro (fun hb => ?_) (fun hb => ?_)) <;> (try simp only [decide_eq_true_eq, decide_eq_false_iff_not, iL_length, sL_length, Int.ofNat_lt, Int.ofNat_le, Bool.not_eq_true', Bool.not_eq_false', beq_iff_eq, bne_iff_ne, beq_eq_false_iff_ne, ne_eq, bne_eq_false_iff_eq, Decidable.not_not, Bool.and_eq_true, Bool.and_eq_false_imp, cHeldQ, Try.results20, unQ_qL, qL_length, qL_get, qL_set, qL_inj, wfQ_qL, scal4, beq4, quad_eta, hq, e1] at hb))
      | (simp only [go_sem, Nat.reduceLeDiff, Nat.reduceEqDiff, reduceIte, reduceCtorEq, Nat.reduceAdd, Nat.reduceMul, Nat.reduceSub, Nat.reduceLT, Int.reduceLT, Int.reduceLE, Int.reduceNeg, Int.reduceToNat, Nat.reduceBEq, Nat.reduceBNe, *, cHeldQ, Try.results20, unQ_qL, qL_length, qL_get, qL_set, qL_inj, wfQ_qL, scal4, beq4, quad_eta, hq, e1])))
    · have e5 : i = xs.length := by omega
      subst e5
      rw [List.take_length] at ht
      have e : heldQ xs k = k + 4 * (xs.length : Nat) := by rw [heldQ, if_pos ht]
      rw [e]
      clear e ht bad
      (repeat' (first
      | (refine gate_intro (by first | omega | (simp only [maxLen]; omega) | simp_all | (simp_all [maxLen]; omega)) fun _ => ?_)
      | ((refine fork_intro (fun hb => ?_) (fun hb => ?_)) <;> (try simp only [decide_eq_true_eq, decide_eq_false_iff_not, iL_length, sL_length, Int.ofNat_lt, Int.ofNat_le, Bool.not_eq_true', Bool.not_eq_false', beq_iff_eq, bne_iff_ne, beq_eq_false_iff_ne, ne_eq, bne_eq_false_iff_eq, Decidable.not_not, Bool.and_eq_true, Bool.and_eq_false_imp, cHeldQ, Try.results20, unQ_qL, qL_length, qL_get, qL_set, qL_inj, wfQ_qL, scal4, beq4, quad_eta] at hb))
      | (simp only [go_sem, Nat.reduceLeDiff, Nat.reduceEqDiff, reduceIte, reduceCtorEq, Nat.reduceAdd, Nat.reduceMul, Nat.reduceSub, Nat.reduceLT, Int.reduceLT, Int.reduceLE, Int.reduceNeg, Int.reduceToNat, Nat.reduceBEq, Nat.reduceBNe, *, cHeldQ, Try.results20, unQ_qL, qL_length, qL_get, qL_set, qL_inj, wfQ_qL, scal4, beq4, quad_eta])))

def cEqQ : Contract := ⟨[], false, fun
  | [.agg [.v (.int .i64 a), .v (.int .i64 b), .v (.int .i64 c), .v (.int .i64 d)], .agg [.v (.int .i64 a'), .v (.int .i64 b'), .v (.int .i64 c'), .v (.int .i64 d')]] => some (True, [⟨false, [.d (.v (.bool ((a, b, c, d) == (a', b', c', d'))))]⟩], [])
  | _ => none⟩
theorem eqQ_ok : ContractOK E0 52 cEqQ := by
  refine contract_of_wpc (E := E0) (T := mkT Try.prog [(73, cEqDep)] false (fun _ => false) true (fun _ => false)) (mkT_ok (E := E0) (.cons eqDep_ok .nil)) (fn := Try.f52) Try.func52 (by kernel_rfl) rfl mixedT (by kernel_rfl) rfl ?_
  intro args p rs ms hr
  unfold cEqQ at hr
  dsimp only at hr
  split at hr
  rotate_left
  · cases hr
  rename_i a b c d a' b' c' d'
  simp only [Option.some.injEq, Prod.mk.injEq] at hr
  obtain ⟨rfl, rfl, rfl⟩ := hr
  refine ⟨rfl, rfl, Nat.le_of_ble_eq_true rfl, ?_⟩
  have hm : maxLen = 9223372036854775807 := rfl
  intro _ bs
  have e : ((a, b, c, d) == (a', b', c', d')) = (a == a' && b == b' && ((c, d) == (c', d'))) := by
    rw [Bool.eq_iff_iff]; simp [and_assoc]
  rw [e]
  clear e
  by_cases h1 : a = a'
  · subst h1
    by_cases h2 : b = b'
    · subst h2
      (repeat' (first
      | (refine gate_intro (by first | omega | (simp only [maxLen]; omega) | simp_all | (simp_all [maxLen]; omega)) fun _ => ?_)
      | ((refine fork_intro (fun hb => ?_) (fun hb => ?_)) <;> (try simp only [decide_eq_true_eq, decide_eq_false_iff_not, iL_length, sL_length, Int.ofNat_lt, Int.ofNat_le, Bool.not_eq_true', Bool.not_eq_false', beq_iff_eq, bne_iff_ne, beq_eq_false_iff_ne, ne_eq, bne_eq_false_iff_eq, Decidable.not_not, Bool.and_eq_true, Bool.and_eq_false_imp, cEqQ, cEqDep, Try.results52, unQ_qL, qL_length, qL_get, qL_set, qL_inj, wfQ_qL, scal4, beq4, quad_eta] at hb))
      | (simp only [go_sem, Nat.reduceLeDiff, Nat.reduceEqDiff, reduceIte, reduceCtorEq, Nat.reduceAdd, Nat.reduceMul, Nat.reduceSub, Nat.reduceLT, Int.reduceLT, Int.reduceLE, Int.reduceNeg, Int.reduceToNat, Nat.reduceBEq, Nat.reduceBNe, *, cEqQ, cEqDep, Try.results52, unQ_qL, qL_length, qL_get, qL_set, qL_inj, wfQ_qL, scal4, beq4, quad_eta])))
      all_goals first | (simp_all; done) | skip
    · have e1 : (b != b') = true := by rw [bne_iff_ne]; exact h2
      have e2 : (b == b') = false := by rw [beq_eq_false_iff_ne]; exact h2
      clear h2
      (repeat' (first
      | (refine gate_intro (by first | omega | (simp only [maxLen]; omega) | simp_all | (simp_all [maxLen]; omega)) fun _ => ?_)
      | ((refine fork_intro (fun hb => ?_) (fun hb => ?_)) <;> (try simp only [decide_eq_true_eq, decide_eq_false_iff_not, iL_length, sL_length, Int.ofNat_lt, Int.ofNat_le, Bool.not_eq_true', Bool.not_eq_false', beq_iff_eq, bne_iff_ne, beq_eq_false_iff_ne, ne_eq, bne_eq_false_iff_eq, Decidable.not_not, Bool.and_eq_true, Bool.and_eq_false_imp, cEqQ, cEqDep, Try.results52, unQ_qL, qL_length, qL_get, qL_set, qL_inj, wfQ_qL, scal4, beq4, quad_eta, e1, e2] at hb))
      | (simp only [go_sem, Nat.reduceLeDiff, Nat.reduceEqDiff, reduceIte, reduceCtorEq, Nat.reduceAdd, Nat.reduceMul, Nat.reduceSub, Nat.reduceLT, Int.reduceLT, Int.reduceLE, Int.reduceNeg, Int.reduceToNat, Nat.reduceBEq, Nat.reduceBNe, *, cEqQ, cEqDep, Try.results52, unQ_qL, qL_length, qL_get, qL_set, qL_inj, wfQ_qL, scal4, beq4, quad_eta, e1, e2])))
  · have e1 : (a != a') = true := by rw [bne_iff_ne]; exact h1
    have e2 : (a == a') = false := by rw [beq_eq_false_iff_ne]; exact h1
    clear h1
    (repeat' (first
      | (refine gate_intro (by first | omega | (simp only [maxLen]; omega) | simp_all | (simp_all [maxLen]; omega)) fun _ => ?_)
      | ((refine fork_intro (fun hb => ?_) (fun hb => ?_)) <;> (try simp only [decide_eq_true_eq, decide_eq_false_iff_not, iL_length, sL_length, Int.ofNat_lt, Int.ofNat_le, Bool.not_eq_true', Bool.not_eq_false', beq_iff_eq, bne_iff_ne, beq_eq_false_iff_ne, ne_eq, bne_eq_false_iff_eq, Decidable.not_not, Bool.and_eq_true, Bool.and_eq_false_imp, cEqQ, cEqDep, Try.results52, unQ_qL, qL_length, qL_get, qL_set, qL_inj, wfQ_qL, scal4, beq4, quad_eta, e1, e2] at hb))
      | (simp only [go_sem, Nat.reduceLeDiff, Nat.reduceEqDiff, reduceIte, reduceCtorEq, Nat.reduceAdd, Nat.reduceMul, Nat.reduceSub, Nat.reduceLT, Int.reduceLT, Int.reduceLE, Int.reduceNeg, Int.reduceToNat, Nat.reduceBEq, Nat.reduceBNe, *, cEqQ, cEqDep, Try.results52, unQ_qL, qL_length, qL_get, qL_set, qL_inj, wfQ_qL, scal4, beq4, quad_eta, e1, e2])))

def cEqQS : Contract := ⟨[], false, fun
  | [.one (.sl 4 a), .one (.sl 4 b)] => some (WfQ a ∧ WfQ b, [⟨false, [.d (.v (.bool (unQ a == unQ b)))]⟩], [])
  | _ => none⟩
theorem eqQS_ok : ContractOK E0 17 cEqQS := by
  refine contract_of_wpc (E := E0) (T := mkT Try.prog [(52, cEqQ)] false (fun _ => false) true (fun _ => false)) (mkT_ok (E := E0) (.cons eqQ_ok .nil)) (fn := Try.f17) Try.func17 (by kernel_rfl) rfl mixedT (by kernel_rfl) rfl ?_
  intro args p rs ms hr
  unfold cEqQS at hr
  dsimp only at hr
  split at hr
  rotate_left
  · cases hr
  rename_i a b
  simp only [Option.some.injEq, Prod.mk.injEq] at hr
  obtain ⟨rfl, rfl, rfl⟩ := hr
  refine ⟨rfl, rfl, Nat.le_of_ble_eq_true rfl, ?_⟩
  have hm : maxLen = 9223372036854775807 := rfl
  rintro ⟨h1, h2⟩ bs
  obtain ⟨xs, rfl, hx⟩ := h1.ex
  obtain ⟨ys, rfl, hy⟩ := h2.ex
  clear h1 h2
  rw [unQ_qL, unQ_qL]
  (repeat' (first
      | (refine gate_intro (by first | omega | (simp only [maxLen]; omega) | simp_all | (simp_all [maxLen]; omega)) fun _ => ?_)
      | ((refine fork_intro (fun hb => ?_) (fun hb => ?_)) <;> (try simp only [decide_eq_true_eq, decide_eq_false_iff_not, iL_length, sL_length, Int.ofNat_lt, Int.ofNat_le, Bool.not_eq_true', Bool.not_eq_false', beq_iff_eq, bne_iff_ne, beq_eq_false_iff_ne, ne_eq, bne_eq_false_iff_eq, Decidable.not_not, Bool.and_eq_true, Bool.and_eq_false_imp, cEqQS, cEqQ, Try.results17, unQ_qL, qL_length, qL_get, qL_set, qL_inj, wfQ_qL, scal4, beq4, quad_eta] at hb))
      | (simp only [go_sem, Nat.reduceLeDiff, Nat.reduceEqDiff, reduceIte, reduceCtorEq, Nat.reduceAdd, Nat.reduceMul, Nat.reduceSub, Nat.reduceLT, Int.reduceLT, Int.reduceLE, Int.reduceNeg, Int.reduceToNat, Nat.reduceBEq, Nat.reduceBNe, *, cEqQS, cEqQ, Try.results17, unQ_qL, qL_length, qL_get, qL_set, qL_inj, wfQ_qL, scal4, beq4, quad_eta])))
  · exact (not_lenQ ‹_›).symm
  · refine loop_intro { ι := Nat, rs := [(4, 5), (11, 27)], mods := [(5, fun i => .one (.d (.v (.int .i64 i))))], boxes := [], arrs := [], ok := fun i => i ≤ xs.length ∧ xs.take i = ys.take i, mu := fun i => xs.length - i } rfl 0 ⟨Nat.zero_le _, rfl⟩ ?_ fun i hi => ?_
    · (repeat' (first
      | (refine gate_intro (by first | omega | (simp only [maxLen]; omega) | simp_all | (simp_all [maxLen]; omega)) fun _ => ?_)
      | ((refine fork_intro (fun hb => ?_) (fun hb => ?_)) <;> (try simp only [decide_eq_true_eq, decide_eq_false_iff_not, iL_length, sL_length, Int.ofNat_lt, Int.ofNat_le, Bool.not_eq_true', Bool.not_eq_false', beq_iff_eq, bne_iff_ne, beq_eq_false_iff_ne, ne_eq, bne_eq_false_iff_eq, Decidable.not_not, Bool.and_eq_true, Bool.and_eq_false_imp, cEqQS, cEqQ, Try.results17, unQ_qL, qL_length, qL_get, qL_set, qL_inj, wfQ_qL, scal4, beq4, quad_eta] at hb))
      | (simp only [go_sem, Nat.reduceLeDiff, Nat.reduceEqDiff, reduceIte, reduceCtorEq, Nat.reduceAdd, Nat.reduceMul, Nat.reduceSub, Nat.reduceLT, Int.reduceLT, Int.reduceLE, Int.reduceNeg, Int.reduceToNat, Nat.reduceBEq, Nat.reduceBNe, *, cEqQS, cEqQ, Try.results17, unQ_qL, qL_length, qL_get, qL_set, qL_inj, wfQ_qL, scal4, beq4, quad_eta])))
    · dsimp only at i hi
      obtain ⟨hi, ht⟩ := hi
      have hlen : xs.length = ys.length := by omega
      (repeat' (first
      | (refine gate_intro (by first | omega | (simp only [maxLen]; omega) | simp_all | (simp_all [maxLen]; omega)) fun _ => ?_)
      | ((refine fork_intro (fun hb => ?_) (fun hb => ?_)) <;> (try simp only [decide_eq_true_eq, decide_eq_false_iff_not, iL_length, sL_length, Int.ofNat_lt, Int.ofNat_le, Bool.not_eq_true', Bool.not_eq_false', beq_iff_eq, bne_iff_ne, beq_eq_false_iff_ne, ne_eq, bne_eq_false_iff_eq, Decidable.not_not, Bool.and_eq_true, Bool.and_eq_false_imp, cEqQS, cEqQ, Try.results17, unQ_qL, qL_length, qL_get, qL_set, qL_inj, wfQ_qL, scal4, beq4, quad_eta] at hb))
      | (simp only [go_sem, Nat.reduceLeDiff, Nat.reduceEqDiff, reduceIte, reduceCtorEq, Nat.reduceAdd, Nat.reduceMul, Nat.reduceSub, Nat.reduceLT, Int.reduceLT, Int.reduceLE, Int.reduceNeg, Int.reduceToNat, Nat.reduceBEq, Nat.reduceBNe, *, cEqQS, cEqQ, Try.results17, unQ_qL, qL_length, qL_get, qL_set, qL_inj, wfQ_qL, scal4, beq4, quad_eta])))
      · exact (beq_eq_false_iff_ne.2 (ne_of_getD ‹_›)).symm
      · have hq := ‹xs.getD i (0, 0, 0, 0) = ys.getD i (0, 0, 0, 0)›
        refine loop_next (i + 1) ⟨by omega, by rw [take_succ_getD (by omega) (0, 0, 0, 0), take_succ_getD (by omega) (0, 0, 0, 0), ht, hq]⟩ (by dsimp only; omega) ?_
        (repeat' (first
      | (refine gate_intro (by first | omega | (simp only [maxLen]; omega) | simp_all | (simp_all [maxLen]; omega)) fun _ => ?_)
      | ((refine fork_intro (fun hb => ?_) (fun hb => ?_)) <;> (try simp only [decide_eq_true_eq, decide_eq_false_iff_not, iL_length, sL_length, Int.ofNat_lt, Int.ofNat_le, Bool.not_eq_true', Bool.not_eq_false', beq_iff_eq, bne_iff_ne, beq_eq_false_iff_ne, ne_eq, bne_eq_false_iff_eq, Decidable.not_not, Bool.and_eq_true, Bool.and_eq_false_imp, cEqQS, cEqQ, Try.results17, unQ_qL, qL_length, qL_get, qL_set, qL_inj, wfQ_qL, scal4, beq4, quad_eta] at hb))
      | (simp only [go_sem, Nat.reduceLeDiff, Nat.reduceEqDiff, reduceIte, reduceCtorEq, Nat.reduceAdd, Nat.reduceMul, Nat.reduceSub, Nat.reduceLT, Int.reduceLT, Int.reduceLE, Int.reduceNeg, Int.reduceToNat, Nat.reduceBEq, Nat.reduceBNe, *, cEqQS, cEqQ, Try.results17, unQ_qL, qL_length, qL_get, qL_set, qL_inj, wfQ_qL, scal4, beq4, quad_eta])))
      · have := eq_of_takes hlen (by omega) ht
        subst this; simp
end Go.Own
