/-
  Patterns as text. Conditions: as each theorem states them.
-/
import Derived.Test.YtcdkbpokannamaaDoorOwnN1
import Derived.Test.YtcdkbpokannamaaDoorOwnY5
import Derived.Test.YtcdkbpokannamaaDoorOwnN3
import Derived.Test.YtcdkbpokannamaaDoorOwnC8
namespace Go.Own
open Go Go.Proofs
set_option linter.unusedSimpArgs false
set_option linter.unusedVariables false
set_option maxRecDepth 20000
set_option maxHeartbeats 2000000

attribute [local go_sem] unB_bL bL_length bL_snoc

theorem num_size {n : Int} : (numB n).size ≤ 20 := by
  unfold numB
  rw [baOf_size]
  unfold numL
  split
  · simp
  · have := @dgF_len 20 n []
    simpa using this
theorem fd_size {q : Int × Int} : (fd q).size ≤ 11 := by
  unfold fd
  have h1 := @fa_size q.1
  have h2 := @fa_size (1 * 2 ^ q.2.toNat)
  split
  · rw [size_app, size_app, gt_size]; omega
  · exact (by decide : ByteArray.size ⟨#[]⟩ ≤ 11)
theorem fd_nil {q : Int × Int} : ((fd q).toList == ByteArray.toList ⟨#[]⟩) = !fdOK q := by
  unfold fd
  cases h : fdOK q
  · rw [if_neg (by decide)]; simp
  · rw [if_pos rfl, Bool.not_true, beq_eq_false_iff_ne]
    intro e
    rw [ByteArray.toList_eq, ByteArray.toList_eq] at e
    have := congrArg List.length e
    have hs : (fa q.1 ++ ⟨#[62]⟩ ++ fa (1 * 2 ^ q.2.toNat)).size = (fa q.1).size + 1 + (fa (1 * 2 ^ q.2.toNat)).size := by rw [size_app, size_app, gt_size]
    have h0 : (fa q.1 ++ ⟨#[62]⟩ ++ fa (1 * 2 ^ q.2.toNat)).data.toList.length = (fa q.1 ++ ⟨#[62]⟩ ++ fa (1 * 2 ^ q.2.toNat)).size := by rw [Array.length_toList]; rfl
    rw [h0, hs] at this
    simp at this
def fpV (a v l r : Int) : Bool := fdOK (l, r) && inB a 0 4 && inB v 0 40
def fpB (a v l r : Int) : ByteArray := if fpV a v l r then (((fa (1 * 2 ^ a.toNat) ++ ⟨#[61]⟩) ++ numB v) ++ ⟨#[32]⟩) ++ fd (l, r) else ⟨#[]⟩
theorem eq_size : ByteArray.size ⟨#[61]⟩ = 1 := rfl
def cFP : Contract := ⟨[], false, fun
  | [.agg [.v (.int .i64 a), .v (.int .i64 v), .v (.int .i64 l), .v (.int .i64 r)]] => some (True, [⟨false, [.d (.v (.string (fpB a v l r)))]⟩], [])
  | _ => none⟩
theorem fpI_ok : ContractOK E0 8 cFP := by
  refine contract_of_wpc (E := E0) (T := mkT Tryd.prog [(33, cFD), (34, cFA), (35, cNum)] false (fun _ => false) true (fun _ => false)) (mkT_ok (E := E0) (.cons fdI_ok (.cons faI_ok (.cons numI_ok .nil)))) (fn := Tryd.f8) Tryd.func8 (by kernel_rfl) rfl mixedT (by kernel_rfl) rfl ?_
  intro args p rs ms hr
  unfold cFP at hr
  dsimp only at hr
  split at hr
  rotate_left
  · cases hr
  rename_i a v l r
  simp only [Option.some.injEq, Prod.mk.injEq] at hr
  obtain ⟨rfl, rfl, rfl⟩ := hr
  refine ⟨rfl, rfl, Nat.le_of_ble_eq_true rfl, ?_⟩
  have hm : maxLen = 9223372036854775807 := rfl
  rintro _ bs
  have s1 := @fa_size (1 * 2 ^ a.toNat)
  have s2 := @num_size v
  have s3 := @fd_size (l, r)
  cases hv : fpV a v l r
  · have e : fpB a v l r = ⟨#[]⟩ := by unfold fpB; rw [hv, if_neg (by decide)]
    have e0 : (!fdOK (l, r) || decide (a < 0) || decide (a ≥ 5) || decide (v < 0) || decide (v > 40)) = true := by
      cases q : (!fdOK (l, r) || decide (a < 0) || decide (a ≥ 5) || decide (v < 0) || decide (v > 40)) with
      | true => rfl
      | false =>
        simp only [Bool.or_eq_false_iff, Bool.not_eq_false', decide_eq_false_iff_not] at q
        unfold fpV at hv
        rw [q.1.1.1.1, inB_iff.2 ⟨by omega, by omega⟩, inB_iff.2 ⟨by omega, by omega⟩] at hv
        cases hv
    rw [e]
    clear e s1 s2 s3 hv
    (repeat' (first
      | (refine gate_a fun _ => ?_)
      | (refine fork_intro (fun hb => ?_) (fun hb => ?_) <;> (try simp only [ew, fd_nil, e0] at hb))
      | (simp only [go_sem, Nat.reduceLeDiff, Nat.reduceEqDiff, reduceIte, reduceCtorEq, Nat.reduceAdd, Nat.reduceMul, Nat.reduceSub, Nat.reduceLT, Int.reduceLT, Int.reduceLE, Int.reduceNeg, Int.reduceToNat, Nat.reduceBEq, Nat.reduceBNe, Int.reduceGE, Int.reduceGT, *, cFP, cFD, cFA, cNum, Tryd.results8, fd_nil, e0])))
    all_goals first | rfl | skip
  · have e : fpB a v l r = (((fa (1 * 2 ^ a.toNat) ++ ⟨#[61]⟩) ++ numB v) ++ ⟨#[32]⟩) ++ fd (l, r) := by unfold fpB; rw [hv, if_pos rfl]
    rw [e]
    clear e
    unfold fpV at hv
    rw [Bool.and_eq_true, Bool.and_eq_true, inB_iff, inB_iff] at hv
    obtain ⟨⟨h1, h2, h3⟩, h4, h5⟩ := hv
    have h6 := pow5 (n := a) h2 (by omega)
    have e1 : decide (a < 0) = false := decide_eq_false (by omega)
    have e2 : decide (a ≥ 5) = false := decide_eq_false (by omega)
    have e3 : decide (v < 0) = false := decide_eq_false (by omega)
    have e4 : decide (v > 40) = false := decide_eq_false (by omega)
    (repeat' (first
      | (refine gate_a fun _ => ?_)
      | (refine fork_intro (fun hb => ?_) (fun hb => ?_) <;> (try simp only [ew, fd_nil, h1, e1, e2, e3, e4, bits64, eq_size, sp_size, size_app] at hb))
      | (simp only [go_sem, Nat.reduceLeDiff, Nat.reduceEqDiff, reduceIte, reduceCtorEq, Nat.reduceAdd, Nat.reduceMul, Nat.reduceSub, Nat.reduceLT, Int.reduceLT, Int.reduceLE, Int.reduceNeg, Int.reduceToNat, Nat.reduceBEq, Nat.reduceBNe, Int.reduceGE, Int.reduceGT, *, cFP, cFD, cFA, cNum, Tryd.results8, fd_nil, h1, e1, e2, e3, e4, bits64, eq_size, sp_size, size_app])))
    all_goals first | rfl | skip
theorem fpS_ok : ContractOK E0 6 cFP := by
  refine contract_of_wpc (E := E0) (T := mkT Tryd.prog [(29, cFD), (30, cL1In), (31, cFA), (32, cNum)] false (fun _ => false) true (fun _ => false)) (mkT_ok (E := E0) (.cons fdS_ok (.cons l1In_ok (.cons faS_ok (.cons numS_ok .nil))))) (fn := Tryd.f6) Tryd.func6 (by kernel_rfl) rfl mixedT (by kernel_rfl) rfl ?_
  intro args p rs ms hr
  unfold cFP at hr
  dsimp only at hr
  split at hr
  rotate_left
  · cases hr
  rename_i a v l r
  simp only [Option.some.injEq, Prod.mk.injEq] at hr
  obtain ⟨rfl, rfl, rfl⟩ := hr
  refine ⟨rfl, rfl, Nat.le_of_ble_eq_true rfl, ?_⟩
  have hm : maxLen = 9223372036854775807 := rfl
  rintro _ bs
  have s1 := @fa_size (1 * 2 ^ a.toNat)
  have s2 := @num_size v
  have s3 := @fd_size (l, r)
  cases hv : fpV a v l r
  · have e : fpB a v l r = ⟨#[]⟩ := by unfold fpB; rw [hv, if_neg (by decide)]
    have e0 : (!fdOK (l, r) || !inB a 0 4 || !inB v 0 40) = true := by
      unfold fpV at hv
      rw [← Bool.not_and, ← Bool.not_and, hv]; rfl
    rw [e]
    clear e s1 s2 s3 hv
    (repeat' (first
      | (refine gate_a fun _ => ?_)
      | (refine fork_intro (fun hb => ?_) (fun hb => ?_) <;> (try simp only [ew, fd_nil, e0] at hb))
      | (simp only [go_sem, Nat.reduceLeDiff, Nat.reduceEqDiff, reduceIte, reduceCtorEq, Nat.reduceAdd, Nat.reduceMul, Nat.reduceSub, Nat.reduceLT, Int.reduceLT, Int.reduceLE, Int.reduceNeg, Int.reduceToNat, Nat.reduceBEq, Nat.reduceBNe, Int.reduceGE, Int.reduceGT, *, cFP, cFD, cL1In, cFA, cNum, Tryd.results6, fd_nil, e0])))
    all_goals first | rfl | skip
  · have e : fpB a v l r = (((fa (1 * 2 ^ a.toNat) ++ ⟨#[61]⟩) ++ numB v) ++ ⟨#[32]⟩) ++ fd (l, r) := by unfold fpB; rw [hv, if_pos rfl]
    rw [e]
    clear e
    unfold fpV at hv
    rw [Bool.and_eq_true, Bool.and_eq_true] at hv
    obtain ⟨⟨h1, h2⟩, h3⟩ := hv
    have g2 := inB_iff.1 h2
    have g3 := inB_iff.1 h3
    have h6 := pow5 (n := a) g2.1 (by omega)
    (repeat' (first
      | (refine gate_a fun _ => ?_)
      | (refine fork_intro (fun hb => ?_) (fun hb => ?_) <;> (try simp only [ew, fd_nil, h1, h2, h3, bits64, eq_size, sp_size, size_app] at hb))
      | (simp only [go_sem, Nat.reduceLeDiff, Nat.reduceEqDiff, reduceIte, reduceCtorEq, Nat.reduceAdd, Nat.reduceMul, Nat.reduceSub, Nat.reduceLT, Int.reduceLT, Int.reduceLE, Int.reduceNeg, Int.reduceToNat, Nat.reduceBEq, Nat.reduceBNe, Int.reduceGE, Int.reduceGT, *, cFP, cFD, cL1In, cFA, cNum, Tryd.results6, fd_nil, h1, h2, h3, bits64, eq_size, sp_size, size_app])))
    all_goals first | rfl | skip

/-! The law of FormatPattern. -/
def cLawP : Contract := ⟨[], false, fun
  | [.agg [.v (.int .i64 a), .v (.int .i64 v), .v (.int .i64 l), .v (.int .i64 r)]] => some (True, [⟨false, [.d (.v (.bool true))]⟩], [])
  | _ => none⟩
theorem lawFP_ok : ContractOK E0 3 cLawP := by
  refine contract_of_wpc (E := E0) (T := mkT Tryd.prog [(7, cToP), (6, cFP), (8, cFP)] false (fun _ => false) true (fun _ => false)) (mkT_ok (E := E0) (.cons toP_ok (.cons fpS_ok (.cons fpI_ok .nil)))) (fn := Tryd.f3) Tryd.func3 (by kernel_rfl) rfl mixedT (by kernel_rfl) rfl ?_
  intro args p rs ms hr
  unfold cLawP at hr
  dsimp only at hr
  split at hr
  rotate_left
  · cases hr
  rename_i a v l r
  simp only [Option.some.injEq, Prod.mk.injEq] at hr
  obtain ⟨rfl, rfl, rfl⟩ := hr
  refine ⟨rfl, rfl, Nat.le_of_ble_eq_true rfl, ?_⟩
  have hm : maxLen = 9223372036854775807 := rfl
  rintro _ bs
  generalize hz : fpB a v l r = z
  (repeat' (first
      | (refine gate_a fun _ => ?_)
      | (refine fork_intro (fun hb => ?_) (fun hb => ?_) <;> (try simp only [ew, hz, beq2] at hb))
      | (simp only [go_sem, Nat.reduceLeDiff, Nat.reduceEqDiff, reduceIte, reduceCtorEq, Nat.reduceAdd, Nat.reduceMul, Nat.reduceSub, Nat.reduceLT, Int.reduceLT, Int.reduceLE, Int.reduceNeg, Int.reduceToNat, Nat.reduceBEq, Nat.reduceBNe, Int.reduceGE, Int.reduceGT, *, cLawP, cToP, cFP, Tryd.results3, hz, beq2])))
  all_goals first | rfl | simp | skip
end Go.Own
