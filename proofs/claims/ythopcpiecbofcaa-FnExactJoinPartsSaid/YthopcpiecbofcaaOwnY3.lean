/- Own calculus and contracts, OwnY3: OwnC9, OwnC10. Conditions: as each theorem states them. -/
import Derived.Test.YthopcpiecbofcaaOwnZ5
import Derived.Test.YthopcpiecbofcaaOwnV8
namespace Go.Own
open Go Go.Proofs
set_option linter.unusedSimpArgs false
set_option linter.unusedVariables false
set_option maxRecDepth 20000
set_option maxHeartbeats 2000000

/-! Lists of pairs as data. -/
def dL (xs : List (Int × Int)) : List (List D) := xs.map fun q => [D.v (.int .i64 q.1), D.v (.int .i64 q.2)]
def unD (l : List (List D)) : List (Int × Int) := l.map fun
  | [.v (.int .i64 a), .v (.int .i64 b)] => (a, b)
  | _ => (0, 0)
theorem unD_dL (xs : List (Int × Int)) : unD (dL xs) = xs := by simp [unD, dL, Function.comp_def]
theorem dL_length (xs : List (Int × Int)) : (dL xs).length = xs.length := by simp [dL]
theorem dL_get {xs : List (Int × Int)} {i : Nat} (h : i < xs.length) : (dL xs).getD i [] = [D.v (.int .i64 (xs.getD i (0, 0)).1), D.v (.int .i64 (xs.getD i (0, 0)).2)] := by
  simp [dL, List.getD_eq_getElem?_getD, h]
theorem dL_set {xs : List (Int × Int)} {i : Nat} {a b : Int} : (dL xs).set i [D.v (.int .i64 a), D.v (.int .i64 b)] = dL (xs.set i (a, b)) := by
  simp [dL, List.map_set]
theorem dL_inj {xs ys : List (Int × Int)} : dL xs = dL ys ↔ xs = ys := by
  constructor
  · intro h
    have := congrArg unD h
    simpa only [unD_dL] using this
  · rintro rfl; rfl
def WfD (l : List (List D)) : Prop := l = dL (unD l) ∧ l.length ≤ maxLen
theorem wfD_dL {xs : List (Int × Int)} : WfD (dL xs) ↔ xs.length ≤ maxLen := by simp [WfD, unD_dL, dL_length]
theorem WfD.ex {l : List (List D)} (h : WfD l) : ∃ xs, l = dL xs ∧ xs.length ≤ maxLen := ⟨unD l, h.1, by have := h.2; rw [h.1, dL_length] at this; exact this⟩
theorem scal2 {a b : Value} : (∀ x ∈ [D.v a, D.v b], Scalar x) ↔ True := by
  refine ⟨fun _ => trivial, fun _ x hx => ?_⟩
  simp only [List.mem_cons, List.not_mem_nil, or_false] at hx
  rcases hx with rfl | rfl <;> trivial
theorem beq2 {a b c d : Int} : ([a, b] == [c, d]) = ((a, b) == (c, d)) := by
  rw [Bool.eq_iff_iff]; simp
theorem pair_eta {q : Int × Int} : (q.1, q.2) = q := rfl

attribute [local go_sem] unD_dL dL_length dL_get dL_set dL_inj wfD_dL scal2 beq2 pair_eta

/-! toDep, toDepS -/
def cTwo : Contract := ⟨[], false, fun
  | [.agg [.v (.int .i64 a), .v (.int .i64 b)]] => some (True, [⟨true, [.d (.v (.int .i64 a)), .d (.v (.int .i64 b))]⟩], [])
  | _ => none⟩

def cToDepS : Contract := ⟨[], false, fun
  | [.one (.sl 2 l)] => some (WfD l ∧ l.length ≤ 16777216, [⟨false, [.own 2 l 1]⟩], [])
  | _ => none⟩

/-! eqDep, eqDepS -/
def cEqDep : Contract := ⟨[], false, fun
  | [.agg [.v (.int .i64 a), .v (.int .i64 b)], .agg [.v (.int .i64 c), .v (.int .i64 d)]] => some (True, [⟨false, [.d (.v (.bool ((a, b) == (c, d))))]⟩], [])
  | _ => none⟩

def cEqDepS : Contract := ⟨[], false, fun
  | [.one (.sl 2 a), .one (.sl 2 b)] => some (WfD a ∧ WfD b, [⟨false, [.d (.v (.bool (unD a == unD b)))]⟩], [])
  | _ => none⟩

theorem not_lenD {xs ys : List (Int × Int)} (h : ¬ (xs.length : Int) = ys.length) : (xs == ys) = false := beq_eq_false_iff_ne.2 fun e => h (by rw [e])

theorem sameInts_ok : ContractOK E0 43 cEqIntS := by
  refine contract_of_wpc (E := E0) (T := mkT Try.prog [] false (fun _ => false) true (fun _ => false)) (mkT_ok (E := E0) .nil) (fn := Try.f43) Try.func43 (by kernel_rfl) rfl mixedT (by kernel_rfl) rfl ?_
  intro args p rs ms hr
  unfold cEqIntS at hr
  dsimp only at hr
  split at hr
  rotate_left
  · cases hr
  rename_i a b
  simp only [Option.some.injEq, Prod.mk.injEq] at hr
  obtain ⟨rfl, rfl, rfl⟩ := hr
  refine ⟨rfl, rfl, Nat.le_of_ble_eq_true rfl, ?_⟩
  have hm : maxLen = 9223372036854775807 := rfl
  rintro ⟨h1, h2⟩ bs
  obtain ⟨xs, rfl, hx⟩ := h1.ex
  obtain ⟨ys, rfl, hy⟩ := h2.ex
  clear h1 h2
  rw [unI_iL, unI_iL]
  (repeat' (first
      | (refine gate_a fun _ => ?_)
      | (refine fork_intro (fun hb => ?_) (fun hb => ?_) <;> (try simp only [ew] at hb))
      | (simp only [go_sem, Nat.reduceLeDiff, Nat.reduceEqDiff, reduceIte, reduceCtorEq, Nat.reduceAdd, Nat.reduceMul, Nat.reduceSub, Nat.reduceLT, Int.reduceLT, Int.reduceLE, Int.reduceNeg, Int.reduceToNat, Nat.reduceBEq, Nat.reduceBNe, Int.reduceGE, Int.reduceGT, *, cEqIntS, Try.results43])))
  · exact (not_len ‹_›).symm
  · refine loop_intro { ι := Nat, rs := [(4, 6), (14, 26)], mods := [(13, fun i => .one (.d (.v (.int .i64 i))))], boxes := [], arrs := [], ok := fun i => i ≤ xs.length ∧ xs.take i = ys.take i, mu := fun i => xs.length - i } rfl 0 ⟨Nat.zero_le _, rfl⟩ ?_ fun i hi => ?_
    · (repeat' (first
      | (refine gate_a fun _ => ?_)
      | (refine fork_intro (fun hb => ?_) (fun hb => ?_) <;> (try simp only [ew] at hb))
      | (simp only [go_sem, Nat.reduceLeDiff, Nat.reduceEqDiff, reduceIte, reduceCtorEq, Nat.reduceAdd, Nat.reduceMul, Nat.reduceSub, Nat.reduceLT, Int.reduceLT, Int.reduceLE, Int.reduceNeg, Int.reduceToNat, Nat.reduceBEq, Nat.reduceBNe, Int.reduceGE, Int.reduceGT, *, cEqIntS, Try.results43])))
    · dsimp only at i hi
      obtain ⟨hi, ht⟩ := hi
      have hlen : xs.length = ys.length := by omega
      (repeat' (first
      | (refine gate_a fun _ => ?_)
      | (refine fork_intro (fun hb => ?_) (fun hb => ?_) <;> (try simp only [ew] at hb))
      | (simp only [go_sem, Nat.reduceLeDiff, Nat.reduceEqDiff, reduceIte, reduceCtorEq, Nat.reduceAdd, Nat.reduceMul, Nat.reduceSub, Nat.reduceLT, Int.reduceLT, Int.reduceLE, Int.reduceNeg, Int.reduceToNat, Nat.reduceBEq, Nat.reduceBNe, Int.reduceGE, Int.reduceGT, *, cEqIntS, Try.results43])))
      · exact (beq_eq_false_iff_ne.2 (ne_of_getD ‹_›)).symm
      · have hq := ‹xs.getD i 0 = ys.getD i 0›
        refine loop_next (i + 1) ⟨by omega, by rw [take_succ_getD (by omega) 0, take_succ_getD (by omega) 0, ht, hq]⟩ (by dsimp only; omega) ?_
        (repeat' (first
      | (refine gate_a fun _ => ?_)
      | (refine fork_intro (fun hb => ?_) (fun hb => ?_) <;> (try simp only [ew] at hb))
      | (simp only [go_sem, Nat.reduceLeDiff, Nat.reduceEqDiff, reduceIte, reduceCtorEq, Nat.reduceAdd, Nat.reduceMul, Nat.reduceSub, Nat.reduceLT, Int.reduceLT, Int.reduceLE, Int.reduceNeg, Int.reduceToNat, Nat.reduceBEq, Nat.reduceBNe, Int.reduceGE, Int.reduceGT, *, cEqIntS, Try.results43])))
      · have := eq_of_takes hlen (by omega) ht
        subst this; simp

/-! Rows -/
def cEqRowsF : Contract := ⟨[], false, fun
  | [.one (.sl 1 a), .one (.sl 1 b), .fnc 43 []] => some (WfS a ∧ WfS b, [⟨false, [.d (.v (.bool (unS a == unS b)))]⟩], [])
  | _ => none⟩

theorem not_lenS {xs ys : List (List Int)} (h : ¬ (xs.length : Int) = ys.length) : (xs == ys) = false := beq_eq_false_iff_ne.2 fun e => h (by rw [e])

def cEqTabs : Contract := ⟨[], false, fun
  | [.agg [.v (.int .i64 c), .sl 1 a], .agg [.v (.int .i64 d), .sl 1 b]] => some (WfS a ∧ WfS b, [⟨false, [.d (.v (.bool (c == d && unS a == unS b)))]⟩], [])
  | _ => none⟩

end Go.Own

namespace Go.Own
open Go Go.Proofs
set_option linter.unusedSimpArgs false
set_option linter.unusedVariables false
set_option maxRecDepth 20000
set_option maxHeartbeats 2000000

attribute [local go_sem] unD_dL dL_length dL_get dL_set dL_inj wfD_dL scal2 beq2 pair_eta

/-! Monitors -/
def szN (n : Nat) (k : Int) : Int := if k - n < 0 then -1 else k - n
def cSzDepS : Contract := ⟨[], false, fun
  | [.one (.sl 2 a), .one (.v (.int .i64 k))] => some (WfD a ∧ 0 ≤ k ∧ k ≤ 1048576, [⟨false, [.d (.v (.int .i64 (szN a.length k)))]⟩], [])
  | _ => none⟩

def szM (rs : List (List Int)) (n : Nat) (k : Int) : Int := if szL rs k < 0 then -1 else szN n (szL rs k)
def cSzMon : Contract := ⟨[], false, fun
  | [.agg [.v (.int .i64 c), .sl 1 l, .v (.int .i64 m), .sl 2 q], .one (.v (.int .i64 k))] => some (WfS l ∧ WfD q ∧ 0 ≤ k ∧ k ≤ 1048576, [⟨false, [.d (.v (.int .i64 (szM (unS l) q.length k)))]⟩], [])
  | _ => none⟩

theorem szGo_le : ∀ {rs : List (List Int)} {k : Int}, ¬ szGo rs k < 0 → szGo rs k ≤ k
  | [], k, h => by simp [szGo]
  | r :: rs, k, h => by
    simp only [szGo] at h ⊢
    by_cases hx : szI r k < 0
    · rw [if_pos hx] at h; omega
    · rw [if_neg hx] at h ⊢
      have := szGo_le h
      have := szI_le hx
      omega
theorem szL_le {rs : List (List Int)} {k : Int} (h : ¬ szL rs k < 0) : szL rs k ≤ k := by
  unfold szL at *
  split at h
  · omega
  · rw [if_neg ‹_›]
    have := szGo_le h
    omega
theorem szN_neg {n : Nat} {k : Int} (h : szN n k < 0) : szN n k = -1 := by
  unfold szN at *; split at h <;> simp_all

def cToMon : Contract := ⟨[], false, fun
  | [.agg [.v (.int .i64 c), .sl 1 l, .v (.int .i64 m), .sl 2 q]] => some (WfS l ∧ (l.length ≤ 16777216 ∧ ∀ r ∈ unS l, r.length ≤ 16777216) ∧ WfD q ∧ q.length ≤ 16777216, [⟨true, [.d (.v (.int .i64 c)), .own 1 l 1, .d (.v (.int .i64 m)), .own 2 q 1]⟩], [])
  | _ => none⟩

def cEqMon : Contract := ⟨[], false, fun
  | [.agg [.v (.int .i64 c), .sl 1 l, .v (.int .i64 m), .sl 2 q], .agg [.v (.int .i64 c2), .sl 1 l2, .v (.int .i64 m2), .sl 2 q2]] => some (WfS l ∧ WfD q ∧ WfS l2 ∧ WfD q2, [⟨false, [.d (.v (.bool ((c == c2 && unS l == unS l2) && m == m2 && unD q == unD q2)))]⟩], [])
  | _ => none⟩

def cLawMM : Contract := ⟨[], false, fun
  | [.agg [.v (.int .i64 c), .sl 1 l, .v (.int .i64 m), .sl 2 q], .agg [.v (.int .i64 c2), .sl 1 l2, .v (.int .i64 m2), .sl 2 q2]] => some (WfS l ∧ WfD q ∧ WfS l2 ∧ WfD q2, [⟨false, [.d (.v (.bool true))]⟩], [])
  | _ => none⟩

theorem szM_facts {rs : List (List Int)} {n : Nat} {k : Int} (hk : k ≤ 1048576) (h : ¬ szM rs n k < 0) : (rs.length ≤ 16777216 ∧ ∀ r ∈ rs, r.length ≤ 16777216) ∧ n ≤ 16777216 ∧ szM rs n k ≤ k := by
  unfold szM at *
  split at h
  · omega
  · rename_i hs
    have h1 := szL_le hs
    rw [if_neg hs]
    unfold szN at h ⊢
    split at h
    · omega
    · rename_i h2
      rw [if_neg h2]
      unfold szL at hs
      split at hs
      · omega
      · refine ⟨⟨by omega, fun r hr => ?_⟩, by omega, by omega⟩
        have := szGo_facts hs r hr
        omega

end Go.Own
