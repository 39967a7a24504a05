import Derived.Test.YtcdkbpokannamaaDoorOwnY3
import Derived.Test.YtcdkbpokannamaaDoorOwnC8
namespace Go.Own
open Go Go.Proofs
set_option linter.unusedSimpArgs false
set_option linter.unusedVariables false
set_option maxRecDepth 20000
set_option maxHeartbeats 2000000

/-! Lists of quadruples as data. -/
def qL (xs : List (Int × Int × Int × Int)) : List (List D) := xs.map fun q => [D.v (.int .i64 q.1), D.v (.int .i64 q.2.1), D.v (.int .i64 q.2.2.1), D.v (.int .i64 q.2.2.2)]
def unQ (l : List (List D)) : List (Int × Int × Int × Int) := l.map fun
  | [.v (.int .i64 a), .v (.int .i64 b), .v (.int .i64 c), .v (.int .i64 d)] => (a, b, c, d)
  | _ => (0, 0, 0, 0)
theorem unQ_qL (xs : List (Int × Int × Int × Int)) : unQ (qL xs) = xs := by simp [unQ, qL, Function.comp_def]
theorem qL_length (xs : List (Int × Int × Int × Int)) : (qL xs).length = xs.length := by simp [qL]
theorem qL_get {xs : List (Int × Int × Int × Int)} {i : Nat} (h : i < xs.length) : (qL xs).getD i [] = [D.v (.int .i64 (xs.getD i (0, 0, 0, 0)).1), D.v (.int .i64 (xs.getD i (0, 0, 0, 0)).2.1), D.v (.int .i64 (xs.getD i (0, 0, 0, 0)).2.2.1), D.v (.int .i64 (xs.getD i (0, 0, 0, 0)).2.2.2)] := by
  simp [qL, List.getD_eq_getElem?_getD, h]
theorem qL_set {xs : List (Int × Int × Int × Int)} {i : Nat} {a b c d : Int} : (qL xs).set i [D.v (.int .i64 a), D.v (.int .i64 b), D.v (.int .i64 c), D.v (.int .i64 d)] = qL (xs.set i (a, b, c, d)) := by
  simp [qL, List.map_set]
theorem qL_inj {xs ys : List (Int × Int × Int × Int)} : qL xs = qL ys ↔ xs = ys := by
  constructor
  · intro h
    have := congrArg unQ h
    simpa only [unQ_qL] using this
  · rintro rfl; rfl
def WfQ (l : List (List D)) : Prop := l = qL (unQ l) ∧ l.length ≤ maxLen
theorem wfQ_qL {xs : List (Int × Int × Int × Int)} : WfQ (qL xs) ↔ xs.length ≤ maxLen := by simp [WfQ, unQ_qL, qL_length]
theorem WfQ.ex {l : List (List D)} (h : WfQ l) : ∃ xs, l = qL xs ∧ xs.length ≤ maxLen := ⟨unQ l, h.1, by have := h.2; rw [h.1, qL_length] at this; exact this⟩
theorem scal4 {a b c d : Value} : (∀ x ∈ [D.v a, D.v b, D.v c, D.v d], Scalar x) ↔ True := by
  refine ⟨fun _ => trivial, fun _ x hx => ?_⟩
  simp only [List.mem_cons, List.not_mem_nil, or_false] at hx
  rcases hx with rfl | rfl | rfl | rfl <;> trivial
theorem beq4 {a b c d a' b' c' d' : Int} : ([a, b, c, d] == [a', b', c', d']) = ((a, b, c, d) == (a', b', c', d')) := by
  rw [Bool.eq_iff_iff]; simp
theorem quad_eta {q : (Int × Int × Int × Int)} : (q.1, q.2.1, q.2.2.1, q.2.2.2) = q := rfl
theorem not_lenQ {xs ys : List (Int × Int × Int × Int)} (h : ¬ (xs.length : Int) = ys.length) : (xs == ys) = false := beq_eq_false_iff_ne.2 fun e => h (by rw [e])
theorem qL_snoc {xs : List (Int × Int × Int × Int)} {a b c d : Int} : qL xs ++ [[D.v (.int .i64 a), D.v (.int .i64 b), D.v (.int .i64 c), D.v (.int .i64 d)]] = qL (xs ++ [(a, b, c, d)]) := by simp [qL]

attribute [local go_sem] unQ_qL qL_length qL_get qL_set qL_inj wfQ_qL scal4 beq4 quad_eta

/-! Marks on quadruples. -/
def quad (k : Int) : (Int × Int × Int × Int) := (k, k + 1, k + 1 + 1, k + 1 + 1 + 1)
def markQ (k : Int) (n : Nat) : List (Int × Int × Int × Int) := (List.range n).map fun i => quad (k + 4 * (i : Nat))
theorem markQ_length {k : Int} {n : Nat} : (markQ k n).length = n := by simp [markQ]
theorem markQ_succ {k : Int} {n : Nat} : markQ k (n + 1) = markQ k n ++ [quad (k + 4 * n)] := by simp [markQ, List.range_succ]
theorem markQ_getD {k : Int} {n i : Nat} (h : i < n) : (markQ k n).getD i (0, 0, 0, 0) = quad (k + 4 * i) := by
  simp [markQ, List.getD_eq_getElem?_getD, h]
def heldQ (xs : List (Int × Int × Int × Int)) (k : Int) : Int := if xs = markQ k xs.length then k + 4 * xs.length else -1
theorem heldQ_marks {k : Int} {n : Nat} : heldQ (markQ k n) k = k + 4 * n := by simp [heldQ, markQ_length]
theorem mark_setQ {xs : List (Int × Int × Int × Int)} {k : Int} {i : Nat} (h : i < xs.length) : (markQ k i ++ xs.drop i).set i (k + 4 * i, k + 4 * i + 1, k + 4 * i + 1 + 1, k + 4 * i + 1 + 1 + 1) = markQ k (i + 1) ++ xs.drop (i + 1) := by
  rw [List.set_append_right _ _ (by rw [markQ_length]; omega), markQ_length, Nat.sub_self, drop_getD h (0, 0, 0, 0), List.set_cons_zero, markQ_succ]; simp [quad]
theorem mQ_length {xs : List (Int × Int × Int × Int)} {k : Int} {i : Nat} (h : i ≤ xs.length) : (markQ k i ++ xs.drop i).length = xs.length := by
  rw [List.length_append, markQ_length, List.length_drop]; omega
theorem getD_setQ {xs : List (Int × Int × Int × Int)} {i : Nat} {q : (Int × Int × Int × Int)} (h : i < xs.length) : (xs.set i q).getD i (0, 0, 0, 0) = q := by
  simp [List.getD_eq_getElem?_getD, h]

def cMarkQ : Contract := ⟨[true], false, fun
  | [.arr 4 l _, .one (.v (.int .i64 k))] => some (WfQ l ∧ l.length ≤ 16777216 ∧ 0 ≤ k ∧ k ≤ 1125899906842624, [⟨false, [.d (.v (.int .i64 (k + 4 * l.length)))]⟩], [.arr 4 (qL (markQ k l.length)) 1])
  | _ => none⟩
def cHeldQ : Contract := ⟨[], false, fun
  | [.one (.sl 4 l), .one (.v (.int .i64 k))] => some (WfQ l ∧ l.length ≤ 16777216 ∧ 0 ≤ k ∧ k ≤ 1125899906842624, [⟨false, [.d (.v (.int .i64 (heldQ (unQ l) k)))]⟩], [])
  | _ => none⟩

def cEqQ : Contract := ⟨[], false, fun
  | [.agg [.v (.int .i64 a), .v (.int .i64 b), .v (.int .i64 c), .v (.int .i64 d)], .agg [.v (.int .i64 a'), .v (.int .i64 b'), .v (.int .i64 c'), .v (.int .i64 d')]] => some (True, [⟨false, [.d (.v (.bool ((a, b, c, d) == (a', b', c', d'))))]⟩], [])
  | _ => none⟩
def cEqQS : Contract := ⟨[], false, fun
  | [.one (.sl 4 a), .one (.sl 4 b)] => some (WfQ a ∧ WfQ b, [⟨false, [.d (.v (.bool (unQ a == unQ b)))]⟩], [])
  | _ => none⟩
end Go.Own
