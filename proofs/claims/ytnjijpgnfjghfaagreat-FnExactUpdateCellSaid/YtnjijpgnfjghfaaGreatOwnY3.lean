/- Own calculus and contracts, OwnY3: OwnC9, OwnC10. Conditions: as each theorem states them. -/
import Derived.Test.YtnjijpgnfjghfaaGreatOwnZ5
import Derived.Test.YtnjijpgnfjghfaaGreatOwnV8
namespace Go.Own
open Go Go.Proofs
set_option linter.unusedSimpArgs false
set_option linter.unusedVariables false
set_option maxRecDepth 20000
set_option maxHeartbeats 2000000

/-! Lists of pairs as data. -/
def dL (xs : List (Int × Int)) : List (List D) := xs.map fun q => [D.v (.int .i64 q.1), D.v (.int .i64 q.2)]
def unD (l : List (List D)) : List (Int × Int) := l.map fun
  | [.v (.int .i64 a), .v (.int .i64 b)] => (a, b)
  | _ => (0, 0)
theorem unD_dL (xs : List (Int × Int)) : unD (dL xs) = xs := by simp [unD, dL, Function.comp_def]
theorem dL_length (xs : List (Int × Int)) : (dL xs).length = xs.length := by simp [dL]
theorem dL_get {xs : List (Int × Int)} {i : Nat} (h : i < xs.length) : (dL xs).getD i [] = [D.v (.int .i64 (xs.getD i (0, 0)).1), D.v (.int .i64 (xs.getD i (0, 0)).2)] := by
  simp [dL, List.getD_eq_getElem?_getD, h]
theorem dL_set {xs : List (Int × Int)} {i : Nat} {a b : Int} : (dL xs).set i [D.v (.int .i64 a), D.v (.int .i64 b)] = dL (xs.set i (a, b)) := by
  simp [dL, List.map_set]
theorem dL_inj {xs ys : List (Int × Int)} : dL xs = dL ys ↔ xs = ys := by
  constructor
  · intro h
    have := congrArg unD h
    simpa only [unD_dL] using this
  · rintro rfl; rfl
def WfD (l : List (List D)) : Prop := l = dL (unD l) ∧ l.length ≤ maxLen
theorem wfD_dL {xs : List (Int × Int)} : WfD (dL xs) ↔ xs.length ≤ maxLen := by simp [WfD, unD_dL, dL_length]
theorem WfD.ex {l : List (List D)} (h : WfD l) : ∃ xs, l = dL xs ∧ xs.length ≤ maxLen := ⟨unD l, h.1, by have := h.2; rw [h.1, dL_length] at this; exact this⟩
theorem scal2 {a b : Value} : (∀ x ∈ [D.v a, D.v b], Scalar x) ↔ True := by
  refine ⟨fun _ => trivial, fun _ x hx => ?_⟩
  simp only [List.mem_cons, List.not_mem_nil, or_false] at hx
  rcases hx with rfl | rfl <;> trivial
theorem beq2 {a b c d : Int} : ([a, b] == [c, d]) = ((a, b) == (c, d)) := by
  rw [Bool.eq_iff_iff]; simp
theorem pair_eta {q : Int × Int} : (q.1, q.2) = q := rfl

attribute [local go_sem] unD_dL dL_length dL_get dL_set dL_inj wfD_dL scal2 beq2 pair_eta

/-! toDep, toDepS -/
def cTwo : Contract := ⟨[], false, fun
  | [.agg [.v (.int .i64 a), .v (.int .i64 b)]] => some (True, [⟨true, [.d (.v (.int .i64 a)), .d (.v (.int .i64 b))]⟩], [])
  | _ => none⟩

theorem toDep_ok : ContractOK E0 54 cTwo := by
  refine contract_of_wpc (E := E0) (T := mkT Tryz.prog [] false (fun _ => false) true (fun _ => false)) (mkT_ok (E := E0) .nil) (fn := Tryz.f54) Tryz.func54 (by kernel_rfl) rfl mixedT (by kernel_rfl) rfl ?_
  intro args p rs ms hr
  unfold cTwo at hr
  dsimp only at hr
  split at hr
  rotate_left
  · cases hr
  rename_i a b
  simp only [Option.some.injEq, Prod.mk.injEq] at hr
  obtain ⟨rfl, rfl, rfl⟩ := hr
  refine ⟨rfl, rfl, Nat.le_of_ble_eq_true rfl, ?_⟩
  have hm : maxLen = 9223372036854775807 := rfl
  intro _ bs
  (repeat' (first
      | (refine gate_a fun _ => ?_)
      | (refine fork_intro (fun hb => ?_) (fun hb => ?_) <;> (try simp only [ew] at hb))
      | (simp only [go_sem, Nat.reduceLeDiff, Nat.reduceEqDiff, reduceIte, reduceCtorEq, Nat.reduceAdd, Nat.reduceMul, Nat.reduceSub, Nat.reduceLT, Int.reduceLT, Int.reduceLE, Int.reduceNeg, Int.reduceToNat, Nat.reduceBEq, Nat.reduceBNe, Int.reduceGE, Int.reduceGT, *, cTwo, Tryz.results54])))

def cToDepS : Contract := ⟨[], false, fun
  | [.one (.sl 2 l)] => some (WfD l ∧ l.length ≤ 16777216, [⟨false, [.own 2 l 1]⟩], [])
  | _ => none⟩

theorem toDepS_ok : ContractOK E0 21 cToDepS := by
  refine contract_of_wpc (E := E0) (T := mkT Tryz.prog [(54, cTwo)] false (fun _ => false) true (fun _ => false)) (mkT_ok (E := E0) (.cons toDep_ok .nil)) (fn := Tryz.f21) Tryz.func21 (by kernel_rfl) rfl mixedT (by kernel_rfl) rfl ?_
  intro args p rs ms hr
  unfold cToDepS at hr
  dsimp only at hr
  split at hr
  rotate_left
  · cases hr
  rename_i l
  simp only [Option.some.injEq, Prod.mk.injEq] at hr
  obtain ⟨rfl, rfl, rfl⟩ := hr
  refine ⟨rfl, rfl, Nat.le_of_ble_eq_true rfl, ?_⟩
  have hm : maxLen = 9223372036854775807 := rfl
  rintro ⟨h1, hx⟩ bs
  obtain ⟨xs, rfl, -⟩ := h1.ex
  clear h1
  rw [dL_length] at hx
  (repeat' (first
      | (refine gate_a fun _ => ?_)
      | (refine fork_intro (fun hb => ?_) (fun hb => ?_) <;> (try simp only [ew] at hb))
      | (simp only [go_sem, Nat.reduceLeDiff, Nat.reduceEqDiff, reduceIte, reduceCtorEq, Nat.reduceAdd, Nat.reduceMul, Nat.reduceSub, Nat.reduceLT, Int.reduceLT, Int.reduceLE, Int.reduceNeg, Int.reduceToNat, Nat.reduceBEq, Nat.reduceBNe, Int.reduceGE, Int.reduceGT, *, cToDepS, cTwo, Tryz.results21])))
  refine loop_intro { ι := Nat, rs := [(8, 22)], mods := [(4, fun i => .one (.d (.v (.int .i64 i))))], boxes := [], arrs := [(3, fun i => (2, dL (xs.take i ++ List.replicate (xs.length - i) (0, 0)), 1))], ok := fun i => i ≤ xs.length, mu := fun i => xs.length - i } rfl 0 (Nat.zero_le _) ?_ fun i hi => ?_
  · (repeat' (first
      | (refine gate_a fun _ => ?_)
      | (refine fork_intro (fun hb => ?_) (fun hb => ?_) <;> (try simp only [ew] at hb))
      | (simp only [go_sem, Nat.reduceLeDiff, Nat.reduceEqDiff, reduceIte, reduceCtorEq, Nat.reduceAdd, Nat.reduceMul, Nat.reduceSub, Nat.reduceLT, Int.reduceLT, Int.reduceLE, Int.reduceNeg, Int.reduceToNat, Nat.reduceBEq, Nat.reduceBNe, Int.reduceGE, Int.reduceGT, *, cToDepS, cTwo, Tryz.results21])))
    simp [dL]
  · dsimp only at i hi
    (repeat' (first
      | (refine gate_a fun _ => ?_)
      | (refine fork_intro (fun hb => ?_) (fun hb => ?_) <;> (try simp only [ew] at hb))
      | (simp only [go_sem, Nat.reduceLeDiff, Nat.reduceEqDiff, reduceIte, reduceCtorEq, Nat.reduceAdd, Nat.reduceMul, Nat.reduceSub, Nat.reduceLT, Int.reduceLT, Int.reduceLE, Int.reduceNeg, Int.reduceToNat, Nat.reduceBEq, Nat.reduceBNe, Int.reduceGE, Int.reduceGT, *, cToDepS, cTwo, Tryz.results21])))
    · refine loop_next (i + 1) (by dsimp only; omega) (by dsimp only; omega) ?_
      have e := take_set (z := ((0 : Int), (0 : Int))) (show i < xs.length by omega) (0, 0)
      (repeat' (first
      | (refine gate_a fun _ => ?_)
      | (refine fork_intro (fun hb => ?_) (fun hb => ?_) <;> (try simp only [ew, e] at hb))
      | (simp only [go_sem, Nat.reduceLeDiff, Nat.reduceEqDiff, reduceIte, reduceCtorEq, Nat.reduceAdd, Nat.reduceMul, Nat.reduceSub, Nat.reduceLT, Int.reduceLT, Int.reduceLE, Int.reduceNeg, Int.reduceToNat, Nat.reduceBEq, Nat.reduceBNe, Int.reduceGE, Int.reduceGT, *, cToDepS, cTwo, Tryz.results21, e])))
    · rw [take_all ‹_›]

/-! eqDep, eqDepS -/
def cEqDep : Contract := ⟨[], false, fun
  | [.agg [.v (.int .i64 a), .v (.int .i64 b)], .agg [.v (.int .i64 c), .v (.int .i64 d)]] => some (True, [⟨false, [.d (.v (.bool ((a, b) == (c, d))))]⟩], [])
  | _ => none⟩

theorem eqDep_ok : ContractOK E0 60 cEqDep := by
  refine contract_of_wpc (E := E0) (T := mkT Tryz.prog [] false (fun _ => false) true (fun _ => false)) (mkT_ok (E := E0) .nil) (fn := Tryz.f60) Tryz.func60 (by kernel_rfl) rfl mixedT (by kernel_rfl) rfl ?_
  intro args p rs ms hr
  unfold cEqDep at hr
  dsimp only at hr
  split at hr
  rotate_left
  · cases hr
  rename_i a b c d
  simp only [Option.some.injEq, Prod.mk.injEq] at hr
  obtain ⟨rfl, rfl, rfl⟩ := hr
  refine ⟨rfl, rfl, Nat.le_of_ble_eq_true rfl, ?_⟩
  have hm : maxLen = 9223372036854775807 := rfl
  intro _ bs
  (repeat' (first
      | (refine gate_a fun _ => ?_)
      | (refine fork_intro (fun hb => ?_) (fun hb => ?_) <;> (try simp only [ew] at hb))
      | (simp only [go_sem, Nat.reduceLeDiff, Nat.reduceEqDiff, reduceIte, reduceCtorEq, Nat.reduceAdd, Nat.reduceMul, Nat.reduceSub, Nat.reduceLT, Int.reduceLT, Int.reduceLE, Int.reduceNeg, Int.reduceToNat, Nat.reduceBEq, Nat.reduceBNe, Int.reduceGE, Int.reduceGT, *, cEqDep, Tryz.results60])))
  all_goals first | (simp_all; done) | skip

def cEqDepS : Contract := ⟨[], false, fun
  | [.one (.sl 2 a), .one (.sl 2 b)] => some (WfD a ∧ WfD b, [⟨false, [.d (.v (.bool (unD a == unD b)))]⟩], [])
  | _ => none⟩

theorem not_lenD {xs ys : List (Int × Int)} (h : ¬ (xs.length : Int) = ys.length) : (xs == ys) = false := beq_eq_false_iff_ne.2 fun e => h (by rw [e])

theorem eqDepS_ok : ContractOK E0 23 cEqDepS := by
  refine contract_of_wpc (E := E0) (T := mkT Tryz.prog [(60, cEqDep)] false (fun _ => false) true (fun _ => false)) (mkT_ok (E := E0) (.cons eqDep_ok .nil)) (fn := Tryz.f23) Tryz.func23 (by kernel_rfl) rfl mixedT (by kernel_rfl) rfl ?_
  intro args p rs ms hr
  unfold cEqDepS at hr
  dsimp only at hr
  split at hr
  rotate_left
  · cases hr
  rename_i a b
  simp only [Option.some.injEq, Prod.mk.injEq] at hr
  obtain ⟨rfl, rfl, rfl⟩ := hr
  refine ⟨rfl, rfl, Nat.le_of_ble_eq_true rfl, ?_⟩
  have hm : maxLen = 9223372036854775807 := rfl
  rintro ⟨h1, h2⟩ bs
  obtain ⟨xs, rfl, hx⟩ := h1.ex
  obtain ⟨ys, rfl, hy⟩ := h2.ex
  clear h1 h2
  rw [unD_dL, unD_dL]
  (repeat' (first
      | (refine gate_a fun _ => ?_)
      | (refine fork_intro (fun hb => ?_) (fun hb => ?_) <;> (try simp only [ew] at hb))
      | (simp only [go_sem, Nat.reduceLeDiff, Nat.reduceEqDiff, reduceIte, reduceCtorEq, Nat.reduceAdd, Nat.reduceMul, Nat.reduceSub, Nat.reduceLT, Int.reduceLT, Int.reduceLE, Int.reduceNeg, Int.reduceToNat, Nat.reduceBEq, Nat.reduceBNe, Int.reduceGE, Int.reduceGT, *, cEqDepS, cEqDep, Tryz.results23])))
  · exact (not_lenD ‹_›).symm
  · refine loop_intro { ι := Nat, rs := [(4, 5), (11, 27)], mods := [(5, fun i => .one (.d (.v (.int .i64 i))))], boxes := [], arrs := [], ok := fun i => i ≤ xs.length ∧ xs.take i = ys.take i, mu := fun i => xs.length - i } rfl 0 ⟨Nat.zero_le _, rfl⟩ ?_ fun i hi => ?_
    · (repeat' (first
      | (refine gate_a fun _ => ?_)
      | (refine fork_intro (fun hb => ?_) (fun hb => ?_) <;> (try simp only [ew] at hb))
      | (simp only [go_sem, Nat.reduceLeDiff, Nat.reduceEqDiff, reduceIte, reduceCtorEq, Nat.reduceAdd, Nat.reduceMul, Nat.reduceSub, Nat.reduceLT, Int.reduceLT, Int.reduceLE, Int.reduceNeg, Int.reduceToNat, Nat.reduceBEq, Nat.reduceBNe, Int.reduceGE, Int.reduceGT, *, cEqDepS, cEqDep, Tryz.results23])))
    · dsimp only at i hi
      obtain ⟨hi, ht⟩ := hi
      have hlen : xs.length = ys.length := by omega
      (repeat' (first
      | (refine gate_a fun _ => ?_)
      | (refine fork_intro (fun hb => ?_) (fun hb => ?_) <;> (try simp only [ew] at hb))
      | (simp only [go_sem, Nat.reduceLeDiff, Nat.reduceEqDiff, reduceIte, reduceCtorEq, Nat.reduceAdd, Nat.reduceMul, Nat.reduceSub, Nat.reduceLT, Int.reduceLT, Int.reduceLE, Int.reduceNeg, Int.reduceToNat, Nat.reduceBEq, Nat.reduceBNe, Int.reduceGE, Int.reduceGT, *, cEqDepS, cEqDep, Tryz.results23])))
      · exact (beq_eq_false_iff_ne.2 (ne_of_getD ‹_›)).symm
      · have hq := ‹xs.getD i (0, 0) = ys.getD i (0, 0)›
        refine loop_next (i + 1) ⟨by omega, by rw [take_succ_getD (by omega) (0, 0), take_succ_getD (by omega) (0, 0), ht, hq]⟩ (by dsimp only; omega) ?_
        (repeat' (first
      | (refine gate_a fun _ => ?_)
      | (refine fork_intro (fun hb => ?_) (fun hb => ?_) <;> (try simp only [ew] at hb))
      | (simp only [go_sem, Nat.reduceLeDiff, Nat.reduceEqDiff, reduceIte, reduceCtorEq, Nat.reduceAdd, Nat.reduceMul, Nat.reduceSub, Nat.reduceLT, Int.reduceLT, Int.reduceLE, Int.reduceNeg, Int.reduceToNat, Nat.reduceBEq, Nat.reduceBNe, Int.reduceGE, Int.reduceGT, *, cEqDepS, cEqDep, Tryz.results23])))
      · have := eq_of_takes hlen (by omega) ht
        subst this; simp

theorem sameDepsS_ok : ContractOK E0 65 cEqDepS := by
  refine contract_of_wpc (E := E0) (T := mkT Tryz.prog [] false (fun _ => false) true (fun _ => false)) (mkT_ok (E := E0) .nil) (fn := Tryz.f65) Tryz.func65 (by kernel_rfl) rfl mixedT (by kernel_rfl) rfl ?_
  intro args p rs ms hr
  unfold cEqDepS at hr
  dsimp only at hr
  split at hr
  rotate_left
  · cases hr
  rename_i a b
  simp only [Option.some.injEq, Prod.mk.injEq] at hr
  obtain ⟨rfl, rfl, rfl⟩ := hr
  refine ⟨rfl, rfl, Nat.le_of_ble_eq_true rfl, ?_⟩
  have hm : maxLen = 9223372036854775807 := rfl
  rintro ⟨h1, h2⟩ bs
  obtain ⟨xs, rfl, hx⟩ := h1.ex
  obtain ⟨ys, rfl, hy⟩ := h2.ex
  clear h1 h2
  rw [unD_dL, unD_dL]
  (repeat' (first
      | (refine gate_a fun _ => ?_)
      | (refine fork_intro (fun hb => ?_) (fun hb => ?_) <;> (try simp only [ew] at hb))
      | (simp only [go_sem, Nat.reduceLeDiff, Nat.reduceEqDiff, reduceIte, reduceCtorEq, Nat.reduceAdd, Nat.reduceMul, Nat.reduceSub, Nat.reduceLT, Int.reduceLT, Int.reduceLE, Int.reduceNeg, Int.reduceToNat, Nat.reduceBEq, Nat.reduceBNe, Int.reduceGE, Int.reduceGT, *, cEqDepS, Tryz.results65])))
  · exact (not_lenD ‹_›).symm
  · refine loop_intro { ι := Nat, rs := [(4, 5), (11, 26)], mods := [(5, fun i => .one (.d (.v (.int .i64 i))))], boxes := [], arrs := [], ok := fun i => i ≤ xs.length ∧ xs.take i = ys.take i, mu := fun i => xs.length - i } rfl 0 ⟨Nat.zero_le _, rfl⟩ ?_ fun i hi => ?_
    · (repeat' (first
      | (refine gate_a fun _ => ?_)
      | (refine fork_intro (fun hb => ?_) (fun hb => ?_) <;> (try simp only [ew] at hb))
      | (simp only [go_sem, Nat.reduceLeDiff, Nat.reduceEqDiff, reduceIte, reduceCtorEq, Nat.reduceAdd, Nat.reduceMul, Nat.reduceSub, Nat.reduceLT, Int.reduceLT, Int.reduceLE, Int.reduceNeg, Int.reduceToNat, Nat.reduceBEq, Nat.reduceBNe, Int.reduceGE, Int.reduceGT, *, cEqDepS, Tryz.results65])))
    · dsimp only at i hi
      obtain ⟨hi, ht⟩ := hi
      have hlen : xs.length = ys.length := by omega
      (repeat' (first
      | (refine gate_a fun _ => ?_)
      | (refine fork_intro (fun hb => ?_) (fun hb => ?_) <;> (try simp only [ew] at hb))
      | (simp only [go_sem, Nat.reduceLeDiff, Nat.reduceEqDiff, reduceIte, reduceCtorEq, Nat.reduceAdd, Nat.reduceMul, Nat.reduceSub, Nat.reduceLT, Int.reduceLT, Int.reduceLE, Int.reduceNeg, Int.reduceToNat, Nat.reduceBEq, Nat.reduceBNe, Int.reduceGE, Int.reduceGT, *, cEqDepS, Tryz.results65])))
      · exact (beq_eq_false_iff_ne.2 (ne_of_getD ‹_›)).symm
      · have hq := ‹xs.getD i (0, 0) = ys.getD i (0, 0)›
        refine loop_next (i + 1) ⟨by omega, by rw [take_succ_getD (by omega) (0, 0), take_succ_getD (by omega) (0, 0), ht, hq]⟩ (by dsimp only; omega) ?_
        (repeat' (first
      | (refine gate_a fun _ => ?_)
      | (refine fork_intro (fun hb => ?_) (fun hb => ?_) <;> (try simp only [ew] at hb))
      | (simp only [go_sem, Nat.reduceLeDiff, Nat.reduceEqDiff, reduceIte, reduceCtorEq, Nat.reduceAdd, Nat.reduceMul, Nat.reduceSub, Nat.reduceLT, Int.reduceLT, Int.reduceLE, Int.reduceNeg, Int.reduceToNat, Nat.reduceBEq, Nat.reduceBNe, Int.reduceGE, Int.reduceGT, *, cEqDepS, Tryz.results65])))
      · have := eq_of_takes hlen (by omega) ht
        subst this; simp

theorem sameDepsI_ok : ContractOK E0 77 cEqDepS := by
  refine contract_of_wpc (E := E0) (T := mkT Tryz.prog [] false (fun _ => false) true (fun _ => false)) (mkT_ok (E := E0) .nil) (fn := Tryz.f77) Tryz.func77 (by kernel_rfl) rfl mixedT (by kernel_rfl) rfl ?_
  intro args p rs ms hr
  unfold cEqDepS at hr
  dsimp only at hr
  split at hr
  rotate_left
  · cases hr
  rename_i a b
  simp only [Option.some.injEq, Prod.mk.injEq] at hr
  obtain ⟨rfl, rfl, rfl⟩ := hr
  refine ⟨rfl, rfl, Nat.le_of_ble_eq_true rfl, ?_⟩
  have hm : maxLen = 9223372036854775807 := rfl
  rintro ⟨h1, h2⟩ bs
  obtain ⟨xs, rfl, hx⟩ := h1.ex
  obtain ⟨ys, rfl, hy⟩ := h2.ex
  clear h1 h2
  rw [unD_dL, unD_dL]
  (repeat' (first
      | (refine gate_a fun _ => ?_)
      | (refine fork_intro (fun hb => ?_) (fun hb => ?_) <;> (try simp only [ew] at hb))
      | (simp only [go_sem, Nat.reduceLeDiff, Nat.reduceEqDiff, reduceIte, reduceCtorEq, Nat.reduceAdd, Nat.reduceMul, Nat.reduceSub, Nat.reduceLT, Int.reduceLT, Int.reduceLE, Int.reduceNeg, Int.reduceToNat, Nat.reduceBEq, Nat.reduceBNe, Int.reduceGE, Int.reduceGT, *, cEqDepS, Tryz.results77])))
  · exact (not_lenD ‹_›).symm
  · refine loop_intro { ι := Nat, rs := [(4, 6), (14, 26)], mods := [(13, fun i => .one (.d (.v (.int .i64 i))))], boxes := [], arrs := [], ok := fun i => i ≤ xs.length ∧ xs.take i = ys.take i, mu := fun i => xs.length - i } rfl 0 ⟨Nat.zero_le _, rfl⟩ ?_ fun i hi => ?_
    · (repeat' (first
      | (refine gate_a fun _ => ?_)
      | (refine fork_intro (fun hb => ?_) (fun hb => ?_) <;> (try simp only [ew] at hb))
      | (simp only [go_sem, Nat.reduceLeDiff, Nat.reduceEqDiff, reduceIte, reduceCtorEq, Nat.reduceAdd, Nat.reduceMul, Nat.reduceSub, Nat.reduceLT, Int.reduceLT, Int.reduceLE, Int.reduceNeg, Int.reduceToNat, Nat.reduceBEq, Nat.reduceBNe, Int.reduceGE, Int.reduceGT, *, cEqDepS, Tryz.results77])))
    · dsimp only at i hi
      obtain ⟨hi, ht⟩ := hi
      have hlen : xs.length = ys.length := by omega
      (repeat' (first
      | (refine gate_a fun _ => ?_)
      | (refine fork_intro (fun hb => ?_) (fun hb => ?_) <;> (try simp only [ew] at hb))
      | (simp only [go_sem, Nat.reduceLeDiff, Nat.reduceEqDiff, reduceIte, reduceCtorEq, Nat.reduceAdd, Nat.reduceMul, Nat.reduceSub, Nat.reduceLT, Int.reduceLT, Int.reduceLE, Int.reduceNeg, Int.reduceToNat, Nat.reduceBEq, Nat.reduceBNe, Int.reduceGE, Int.reduceGT, *, cEqDepS, Tryz.results77])))
      · exact (beq_eq_false_iff_ne.2 (ne_of_getD ‹_›)).symm
      · have hq := ‹xs.getD i (0, 0) = ys.getD i (0, 0)›
        refine loop_next (i + 1) ⟨by omega, by rw [take_succ_getD (by omega) (0, 0), take_succ_getD (by omega) (0, 0), ht, hq]⟩ (by dsimp only; omega) ?_
        (repeat' (first
      | (refine gate_a fun _ => ?_)
      | (refine fork_intro (fun hb => ?_) (fun hb => ?_) <;> (try simp only [ew] at hb))
      | (simp only [go_sem, Nat.reduceLeDiff, Nat.reduceEqDiff, reduceIte, reduceCtorEq, Nat.reduceAdd, Nat.reduceMul, Nat.reduceSub, Nat.reduceLT, Int.reduceLT, Int.reduceLE, Int.reduceNeg, Int.reduceToNat, Nat.reduceBEq, Nat.reduceBNe, Int.reduceGE, Int.reduceGT, *, cEqDepS, Tryz.results77])))
      · have := eq_of_takes hlen (by omega) ht
        subst this; simp

/-! Rows -/
theorem not_lenS {xs ys : List (List Int)} (h : ¬ (xs.length : Int) = ys.length) : (xs == ys) = false := beq_eq_false_iff_ne.2 fun e => h (by rw [e])

def cEqTabs : Contract := ⟨[], false, fun
  | [.agg [.v (.int .i64 c), .sl 1 a], .agg [.v (.int .i64 d), .sl 1 b]] => some (WfS a ∧ WfS b, [⟨false, [.d (.v (.bool (c == d && unS a == unS b)))]⟩], [])
  | _ => none⟩

end Go.Own

namespace Go.Own
open Go Go.Proofs
set_option linter.unusedSimpArgs false
set_option linter.unusedVariables false
set_option maxRecDepth 20000
set_option maxHeartbeats 2000000

attribute [local go_sem] unD_dL dL_length dL_get dL_set dL_inj wfD_dL scal2 beq2 pair_eta

/-! Monitors -/
def szN (n : Nat) (k : Int) : Int := if k - n < 0 then -1 else k - n
def cSzDepS : Contract := ⟨[], false, fun
  | [.one (.sl 2 a), .one (.v (.int .i64 k))] => some (WfD a ∧ 0 ≤ k ∧ k ≤ 1048576, [⟨false, [.d (.v (.int .i64 (szN a.length k)))]⟩], [])
  | _ => none⟩

theorem szDepS_ok : ContractOK E0 19 cSzDepS := by
  refine contract_of_wpc (E := E0) (T := mkT Tryz.prog [] false (fun _ => false) true (fun _ => false)) (mkT_ok (E := E0) .nil) (fn := Tryz.f19) Tryz.func19 (by kernel_rfl) rfl mixedT (by kernel_rfl) rfl ?_
  intro args p rs ms hr
  unfold cSzDepS at hr
  dsimp only at hr
  split at hr
  rotate_left
  · cases hr
  rename_i a k
  simp only [Option.some.injEq, Prod.mk.injEq] at hr
  obtain ⟨rfl, rfl, rfl⟩ := hr
  refine ⟨rfl, rfl, Nat.le_of_ble_eq_true rfl, ?_⟩
  have hm : maxLen = 9223372036854775807 := rfl
  rintro ⟨h1, h2, h3⟩ bs
  obtain ⟨xs, rfl, hx⟩ := h1.ex
  clear h1
  unfold szN
  (repeat' (first
      | (refine gate_a fun _ => ?_)
      | (refine fork_intro (fun hb => ?_) (fun hb => ?_) <;> (try simp only [ew] at hb))
      | (simp only [go_sem, Nat.reduceLeDiff, Nat.reduceEqDiff, reduceIte, reduceCtorEq, Nat.reduceAdd, Nat.reduceMul, Nat.reduceSub, Nat.reduceLT, Int.reduceLT, Int.reduceLE, Int.reduceNeg, Int.reduceToNat, Nat.reduceBEq, Nat.reduceBNe, Int.reduceGE, Int.reduceGT, *, cSzDepS, Tryz.results19])))

def szM (rs : List (List Int)) (n : Nat) (k : Int) : Int := if szL rs k < 0 then -1 else szN n (szL rs k)
def cSzMon : Contract := ⟨[], false, fun
  | [.agg [.v (.int .i64 c), .sl 1 l, .v (.int .i64 m), .sl 2 q], .one (.v (.int .i64 k))] => some (WfS l ∧ WfD q ∧ 0 ≤ k ∧ k ≤ 1048576, [⟨false, [.d (.v (.int .i64 (szM (unS l) q.length k)))]⟩], [])
  | _ => none⟩

theorem szGo_le : ∀ {rs : List (List Int)} {k : Int}, ¬ szGo rs k < 0 → szGo rs k ≤ k
  | [], k, h => by simp [szGo]
  | r :: rs, k, h => by
    simp only [szGo] at h ⊢
    by_cases hx : szI r k < 0
    · rw [if_pos hx] at h; omega
    · rw [if_neg hx] at h ⊢
      have := szGo_le h
      have := szI_le hx
      omega
theorem szL_le {rs : List (List Int)} {k : Int} (h : ¬ szL rs k < 0) : szL rs k ≤ k := by
  unfold szL at *
  split at h
  · omega
  · rw [if_neg ‹_›]
    have := szGo_le h
    omega
theorem szN_neg {n : Nat} {k : Int} (h : szN n k < 0) : szN n k = -1 := by
  unfold szN at *; split at h <;> simp_all

theorem szMon_ok : ContractOK E0 7 cSzMon := by
  refine contract_of_wpc (E := E0) (T := mkT Tryz.prog [(26, cSzTable), (19, cSzDepS)] false (fun _ => false) true (fun _ => false)) (mkT_ok (E := E0) (.cons szTable_ok (.cons szDepS_ok .nil))) (fn := Tryz.f7) Tryz.func7 (by kernel_rfl) rfl mixedT (by kernel_rfl) rfl ?_
  intro args p rs ms hr
  unfold cSzMon at hr
  dsimp only at hr
  split at hr
  rotate_left
  · cases hr
  rename_i c l m q k
  simp only [Option.some.injEq, Prod.mk.injEq] at hr
  obtain ⟨rfl, rfl, rfl⟩ := hr
  refine ⟨rfl, rfl, Nat.le_of_ble_eq_true rfl, ?_⟩
  have hm : maxLen = 9223372036854775807 := rfl
  rintro ⟨h1, h2, h3, h4⟩ bs
  obtain ⟨rs, rfl, hx, hy⟩ := h1.ex
  obtain ⟨ds, rfl, hd⟩ := h2.ex
  clear h1 h2
  rw [unS_sL, dL_length]
  have hle := @szL_le rs k
  by_cases hs : szL rs k < 0
  · have e : szM rs ds.length k = -1 := by unfold szM; rw [if_pos hs]
    rw [e]
    clear e
    (repeat' (first
      | (refine gate_a fun _ => ?_)
      | (refine fork_intro (fun hb => ?_) (fun hb => ?_) <;> (try simp only [ew] at hb))
      | (simp only [go_sem, Nat.reduceLeDiff, Nat.reduceEqDiff, reduceIte, reduceCtorEq, Nat.reduceAdd, Nat.reduceMul, Nat.reduceSub, Nat.reduceLT, Int.reduceLT, Int.reduceLE, Int.reduceNeg, Int.reduceToNat, Nat.reduceBEq, Nat.reduceBNe, Int.reduceGE, Int.reduceGT, *, cSzMon, cSzTable, cSzDepS, Tryz.results7])))
    all_goals first | contradiction | skip
  · have hle := hle hs
    have e : szM rs ds.length k = szN ds.length (szL rs k) := by unfold szM; rw [if_neg hs]
    rw [e]
    clear e
    (repeat' (first
      | (refine gate_a fun _ => ?_)
      | (refine fork_intro (fun hb => ?_) (fun hb => ?_) <;> (try simp only [ew] at hb))
      | (simp only [go_sem, Nat.reduceLeDiff, Nat.reduceEqDiff, reduceIte, reduceCtorEq, Nat.reduceAdd, Nat.reduceMul, Nat.reduceSub, Nat.reduceLT, Int.reduceLT, Int.reduceLE, Int.reduceNeg, Int.reduceToNat, Nat.reduceBEq, Nat.reduceBNe, Int.reduceGE, Int.reduceGT, *, cSzMon, cSzTable, cSzDepS, Tryz.results7])))
    all_goals first | contradiction | exact (szN_neg ‹_›).symm | skip

def cToMon : Contract := ⟨[], false, fun
  | [.agg [.v (.int .i64 c), .sl 1 l, .v (.int .i64 m), .sl 2 q]] => some (WfS l ∧ (l.length ≤ 16777216 ∧ ∀ r ∈ unS l, r.length ≤ 16777216) ∧ WfD q ∧ q.length ≤ 16777216, [⟨true, [.d (.v (.int .i64 c)), .own 1 l 1, .d (.v (.int .i64 m)), .own 2 q 1]⟩], [])
  | _ => none⟩

theorem toMon_ok : ContractOK E0 9 cToMon := by
  refine contract_of_wpc (E := E0) (T := mkT Tryz.prog [(32, cToTable), (21, cToDepS)] false (fun _ => false) true (fun _ => false)) (mkT_ok (E := E0) (.cons toTable_ok (.cons toDepS_ok .nil))) (fn := Tryz.f9) Tryz.func9 (by kernel_rfl) rfl mixedT (by kernel_rfl) rfl ?_
  intro args p rs ms hr
  unfold cToMon at hr
  dsimp only at hr
  split at hr
  rotate_left
  · cases hr
  rename_i c l m q
  simp only [Option.some.injEq, Prod.mk.injEq] at hr
  obtain ⟨rfl, rfl, rfl⟩ := hr
  refine ⟨rfl, rfl, Nat.le_of_ble_eq_true rfl, ?_⟩
  have hm : maxLen = 9223372036854775807 := rfl
  rintro ⟨h1, ⟨h2, h3⟩, h4, h5⟩ bs
  obtain ⟨rs, rfl, hx, hy⟩ := h1.ex
  obtain ⟨ds, rfl, hd⟩ := h4.ex
  clear h1 h4
  rw [unS_sL] at h3
  rw [sL_length] at h2
  rw [dL_length] at h5
  (repeat' (first
      | (refine gate_a fun _ => ?_)
      | (refine fork_intro (fun hb => ?_) (fun hb => ?_) <;> (try simp only [ew] at hb))
      | (simp only [go_sem, Nat.reduceLeDiff, Nat.reduceEqDiff, reduceIte, reduceCtorEq, Nat.reduceAdd, Nat.reduceMul, Nat.reduceSub, Nat.reduceLT, Int.reduceLT, Int.reduceLE, Int.reduceNeg, Int.reduceToNat, Nat.reduceBEq, Nat.reduceBNe, Int.reduceGE, Int.reduceGT, *, cToMon, cToTable, cToDepS, Tryz.results9])))

def cEqMon : Contract := ⟨[], false, fun
  | [.agg [.v (.int .i64 c), .sl 1 l, .v (.int .i64 m), .sl 2 q], .agg [.v (.int .i64 c2), .sl 1 l2, .v (.int .i64 m2), .sl 2 q2]] => some (WfS l ∧ WfD q ∧ WfS l2 ∧ WfD q2, [⟨false, [.d (.v (.bool ((c == c2 && unS l == unS l2) && m == m2 && unD q == unD q2)))]⟩], [])
  | _ => none⟩

theorem eqMonL_ok : ContractOK E0 12 cEqMon := by
  refine contract_of_wpc (E := E0) (T := mkT Tryz.prog [(39, cEqTable), (23, cEqDepS)] false (fun _ => false) true (fun _ => false)) (mkT_ok (E := E0) (.cons eqTable_ok (.cons eqDepS_ok .nil))) (fn := Tryz.f12) Tryz.func12 (by kernel_rfl) rfl mixedT (by kernel_rfl) rfl ?_
  intro args p rs ms hr
  unfold cEqMon at hr
  dsimp only at hr
  split at hr
  rotate_left
  · cases hr
  rename_i c l m q c2 l2 m2 q2
  simp only [Option.some.injEq, Prod.mk.injEq] at hr
  obtain ⟨rfl, rfl, rfl⟩ := hr
  refine ⟨rfl, rfl, Nat.le_of_ble_eq_true rfl, ?_⟩
  have hm : maxLen = 9223372036854775807 := rfl
  rintro ⟨h1, h2, h3, h4⟩ bs
  obtain ⟨rs, rfl, hx, hy⟩ := h1.ex
  obtain ⟨ds, rfl, hd⟩ := h2.ex
  obtain ⟨rs2, rfl, hx2, hy2⟩ := h3.ex
  obtain ⟨ds2, rfl, hd2⟩ := h4.ex
  clear h1 h2 h3 h4
  rw [unS_sL, unS_sL, unD_dL, unD_dL]
  (repeat' (first
      | (refine gate_a fun _ => ?_)
      | (refine fork_intro (fun hb => ?_) (fun hb => ?_) <;> (try simp only [ew] at hb))
      | (simp only [go_sem, Nat.reduceLeDiff, Nat.reduceEqDiff, reduceIte, reduceCtorEq, Nat.reduceAdd, Nat.reduceMul, Nat.reduceSub, Nat.reduceLT, Int.reduceLT, Int.reduceLE, Int.reduceNeg, Int.reduceToNat, Nat.reduceBEq, Nat.reduceBNe, Int.reduceGE, Int.reduceGT, *, cEqMon, cEqTable, cEqDepS, Tryz.results12])))
  all_goals
    symm
    rw [Bool.eq_false_iff]
    intro h
    simp only [Bool.and_eq_true, beq_iff_eq] at h
    simp_all

def cLawMM : Contract := ⟨[], false, fun
  | [.agg [.v (.int .i64 c), .sl 1 l, .v (.int .i64 m), .sl 2 q], .agg [.v (.int .i64 c2), .sl 1 l2, .v (.int .i64 m2), .sl 2 q2]] => some (WfS l ∧ WfD q ∧ WfS l2 ∧ WfD q2, [⟨false, [.d (.v (.bool true))]⟩], [])
  | _ => none⟩

theorem szM_facts {rs : List (List Int)} {n : Nat} {k : Int} (hk : k ≤ 1048576) (h : ¬ szM rs n k < 0) : (rs.length ≤ 16777216 ∧ ∀ r ∈ rs, r.length ≤ 16777216) ∧ n ≤ 16777216 ∧ szM rs n k ≤ k := by
  unfold szM at *
  split at h
  · omega
  · rename_i hs
    have h1 := szL_le hs
    rw [if_neg hs]
    unfold szN at h ⊢
    split at h
    · omega
    · rename_i h2
      rw [if_neg h2]
      unfold szL at hs
      split at hs
      · omega
      · refine ⟨⟨by omega, fun r hr => ?_⟩, by omega, by omega⟩
        have := szGo_facts hs r hr
        omega

end Go.Own
