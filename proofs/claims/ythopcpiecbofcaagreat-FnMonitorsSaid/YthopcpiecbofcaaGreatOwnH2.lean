import Derived.Test.YthopcpiecbofcaaGreatOwnH1
import Derived.Test.YthopcpiecbofcaaGreatOwnTb
import Derived.Test.YthopcpiecbofcaaGreatOwnG12
set_option linter.unusedSimpArgs false
set_option linter.unusedVariables false
set_option maxRecDepth 20000
set_option maxHeartbeats 2000000
namespace Go.Own
open Go Go.Proofs
def cPut : Contract := ⟨[true], true, fun
 | [.arr 1 l _, .one (.v (.int .i64 x))] => some (WfI l ∧ l.length ≤ 16777216, [⟨false, [.own 1 (iL (putS (unI l) x)) 1]⟩], [.gone])
 | _ => none⟩
def putI (l : List Int) (x : Int) (i : Nat) (pl : Bool) (out : List Int) : Prop := i ≤ l.length ∧ out.length ≤ i + 1 ∧ out ++ (if pl then l.drop i else insS (l.drop i) x) = insS l x
theorem putI_start {l : List Int} {x : Int} : putI l x 0 false [] := ⟨Nat.zero_le _, by simp, by simp⟩
theorem putI_place {l : List Int} {x : Int} {i : Nat} {out : List Int} (h : putI l x i false out) (h5 : i < l.length) (hg : l.getD i 0 > x) (ho : out.length ≤ i) : putI l x (i + 1) true ((out ++ [x]) ++ [l.getD i 0]) := by
 obtain ⟨h1, h2, h3⟩ := h
 refine ⟨h5, by simp; omega, ?_⟩
 rw [if_neg (by decide), drop_getD h5 0, insS, if_pos (by omega)] at h3
 rw [if_pos rfl, ← h3]
 simp
theorem putI_go {l : List Int} {x : Int} {i : Nat} {out : List Int} (h : putI l x i false out) (h5 : i < l.length) (hg : ¬ l.getD i 0 > x) (ho : out.length ≤ i) : putI l x (i + 1) false (out ++ [l.getD i 0]) := by
 obtain ⟨h1, h2, h3⟩ := h
 refine ⟨h5, by simp; omega, ?_⟩
 rw [if_neg (by decide), drop_getD h5 0, insS, if_neg (by omega)] at h3
 rw [if_neg (by decide), ← h3]
 simp
theorem putI_on {l : List Int} {x : Int} {i : Nat} {out : List Int} (h : putI l x i true out) (h5 : i < l.length) : putI l x (i + 1) true (out ++ [l.getD i 0]) := by
 obtain ⟨h1, h2, h3⟩ := h
 refine ⟨h5, by simp; omega, ?_⟩
 rw [if_pos rfl, drop_getD h5 0] at h3
 rw [if_pos rfl, ← h3]
 simp
theorem putI_len {l : List Int} {x : Int} {i : Nat} {out : List Int} (h : putI l x i false out) : out.length ≤ i := by
 obtain ⟨h1, h2, h3⟩ := h
 have := congrArg List.length h3
 rw [if_neg (by decide), List.length_append, insS_length, insS_length, List.length_drop] at this
 omega
theorem putI_end0 {l : List Int} {x : Int} {out : List Int} (h : putI l x l.length false out) : out ++ [x] = insS l x := by
 have := h.2.2
 rw [if_neg (by decide), List.drop_length] at this
 exact this
theorem putI_end1 {l : List Int} {x : Int} {out : List Int} (h : putI l x l.length true out) : out = insS l x := by
 have := h.2.2
 rw [if_pos rfl, List.drop_length, List.append_nil] at this
 exact this
theorem put_ok : ContractOK E0 105 cPut := by
 refine contract_of_wpcC (E := E0) (T := mkT Tryz.prog [(124, cHas)] false (fun _ => false) false (fun _ => false)) (mkT_ok (E := E0) (.cons hasS_ok .nil)) rfl (fn := Tryz.f105) Tryz.func105 (by kernel_rfl) rfl mixedT (by kernel_rfl) rfl rfl (Nat.le_of_ble_eq_true rfl) ?_
 intro args p rs ms hr
 unfold cPut at hr
 dsimp only at hr
 split at hr
 rotate_left
 ·cases hr
 rename_i l dp x
 simp only [Option.some.injEq, Prod.mk.injEq] at hr
 obtain ⟨rfl, rfl, rfl⟩ := hr
 refine ⟨_, _, rfl, rfl, rfl, rfl, Nat.le_of_ble_eq_true rfl, ?_⟩
 have hm : maxLen = 9223372036854775807 := rfl
 rintro ⟨h1, h2⟩ bs
 obtain ⟨xs, rfl, hx⟩ := h1.ex
 clear h1
 rw [iL_length] at h2
 rw [unI_iL]
 cases hv : xs.contains x
 ·have e : putS xs x = insS xs x := by unfold putS; rw [hv]; rfl
  rw [e]
  clear e
  (repeat' (first | (refine gate_a fun _ => ?_) | (refine fork_intro (fun hb => ?_) (fun hb => ?_) <;> (try simp only [ew, hv] at hb)) | (simp only [go_sem, Nat.reduceLeDiff, Nat.reduceEqDiff, reduceIte, reduceCtorEq, Nat.reduceAdd, Nat.reduceMul, Nat.reduceSub, Nat.reduceLT, Int.reduceLT, Int.reduceLE, Int.reduceNeg, Int.reduceToNat, Nat.reduceBEq, Nat.reduceBNe, Int.reduceGE, Int.reduceGT, *, cPut, cHas, Tryz.results105, hv])))
  refine loop_intro { ι := Nat × Bool × List Int, rs := [(13, 40)], mods := [(7, fun i => .one (.d (.v (.int .i64 i.1)))), (6, fun i => .one (.d (.v (.bool i.2.1)))), (5, fun i => .one (.own 1 (iL i.2.2) 1))], boxes := [], arrs := [(0, fun _ => (1, iL xs, 1))], ok := fun i => putI xs x i.1 i.2.1 i.2.2, mu := fun i => xs.length - i.1 } rfl (0, false, []) putI_start ?_ ?_
  ·(repeat' (first | (refine gate_a fun _ => ?_) | (refine fork_intro (fun hb => ?_) (fun hb => ?_) <;> (try simp only [ew, hv] at hb)) | (simp only [go_sem, Nat.reduceLeDiff, Nat.reduceEqDiff, reduceIte, reduceCtorEq, Nat.reduceAdd, Nat.reduceMul, Nat.reduceSub, Nat.reduceLT, Int.reduceLT, Int.reduceLE, Int.reduceNeg, Int.reduceToNat, Nat.reduceBEq, Nat.reduceBNe, Int.reduceGE, Int.reduceGT, *, cPut, cHas, Tryz.results105, hv])))
   all_goals first | rfl | skip
  ·rintro ⟨i, pl, out⟩ hi
   dsimp only at hi
   have hi1 := hi.1
   have hi2 := hi.2.1
   by_cases h5 : i < xs.length
   ·cases pl
    ·have ho := putI_len hi
     by_cases hg : xs.getD i 0 > x
     ·have hn := putI_place hi h5 hg ho
      have hg' : decide (xs.getD i 0 > x) = true := decide_eq_true hg
      clear hi hg
      (repeat' (first | (refine gate_a fun _ => ?_) | (refine fork_intro (fun hb => ?_) (fun hb => ?_) <;> (try simp only [ew, hg', iL_snoc] at hb)) | (simp only [go_sem, Nat.reduceLeDiff, Nat.reduceEqDiff, reduceIte, reduceCtorEq, Nat.reduceAdd, Nat.reduceMul, Nat.reduceSub, Nat.reduceLT, Int.reduceLT, Int.reduceLE, Int.reduceNeg, Int.reduceToNat, Nat.reduceBEq, Nat.reduceBNe, Int.reduceGE, Int.reduceGT, *, cPut, cHas, Tryz.results105, hg', iL_snoc])))
      refine loop_next (i + 1, true, (out ++ [x]) ++ [xs.getD i 0]) hn (by dsimp only; omega) ?_
      clear hn
      (repeat' (first | (refine gate_a fun _ => ?_) | (refine fork_intro (fun hb => ?_) (fun hb => ?_) <;> (try simp only [ew, iL_snoc] at hb)) | (simp only [go_sem, Nat.reduceLeDiff, Nat.reduceEqDiff, reduceIte, reduceCtorEq, Nat.reduceAdd, Nat.reduceMul, Nat.reduceSub, Nat.reduceLT, Int.reduceLT, Int.reduceLE, Int.reduceNeg, Int.reduceToNat, Nat.reduceBEq, Nat.reduceBNe, Int.reduceGE, Int.reduceGT, *, cPut, cHas, Tryz.results105, iL_snoc])))
      all_goals first | rfl | skip
     ·have hn := putI_go hi h5 hg ho
      have hg' : decide (xs.getD i 0 > x) = false := decide_eq_false hg
      clear hi hg
      (repeat' (first | (refine gate_a fun _ => ?_) | (refine fork_intro (fun hb => ?_) (fun hb => ?_) <;> (try simp only [ew, hg', iL_snoc] at hb)) | (simp only [go_sem, Nat.reduceLeDiff, Nat.reduceEqDiff, reduceIte, reduceCtorEq, Nat.reduceAdd, Nat.reduceMul, Nat.reduceSub, Nat.reduceLT, Int.reduceLT, Int.reduceLE, Int.reduceNeg, Int.reduceToNat, Nat.reduceBEq, Nat.reduceBNe, Int.reduceGE, Int.reduceGT, *, cPut, cHas, Tryz.results105, hg', iL_snoc])))
      refine loop_next (i + 1, false, out ++ [xs.getD i 0]) hn (by dsimp only; omega) ?_
      clear hn
      (repeat' (first | (refine gate_a fun _ => ?_) | (refine fork_intro (fun hb => ?_) (fun hb => ?_) <;> (try simp only [ew, iL_snoc] at hb)) | (simp only [go_sem, Nat.reduceLeDiff, Nat.reduceEqDiff, reduceIte, reduceCtorEq, Nat.reduceAdd, Nat.reduceMul, Nat.reduceSub, Nat.reduceLT, Int.reduceLT, Int.reduceLE, Int.reduceNeg, Int.reduceToNat, Nat.reduceBEq, Nat.reduceBNe, Int.reduceGE, Int.reduceGT, *, cPut, cHas, Tryz.results105, iL_snoc])))
      all_goals first | rfl | skip
    ·have hn := putI_on hi h5
     clear hi
     (repeat' (first | (refine gate_a fun _ => ?_) | (refine fork_intro (fun hb => ?_) (fun hb => ?_) <;> (try simp only [ew, iL_snoc] at hb)) | (simp only [go_sem, Nat.reduceLeDiff, Nat.reduceEqDiff, reduceIte, reduceCtorEq, Nat.reduceAdd, Nat.reduceMul, Nat.reduceSub, Nat.reduceLT, Int.reduceLT, Int.reduceLE, Int.reduceNeg, Int.reduceToNat, Nat.reduceBEq, Nat.reduceBNe, Int.reduceGE, Int.reduceGT, *, cPut, cHas, Tryz.results105, iL_snoc])))
     refine loop_next (i + 1, true, out ++ [xs.getD i 0]) hn (by dsimp only; omega) ?_
     clear hn
     (repeat' (first | (refine gate_a fun _ => ?_) | (refine fork_intro (fun hb => ?_) (fun hb => ?_) <;> (try simp only [ew, iL_snoc] at hb)) | (simp only [go_sem, Nat.reduceLeDiff, Nat.reduceEqDiff, reduceIte, reduceCtorEq, Nat.reduceAdd, Nat.reduceMul, Nat.reduceSub, Nat.reduceLT, Int.reduceLT, Int.reduceLE, Int.reduceNeg, Int.reduceToNat, Nat.reduceBEq, Nat.reduceBNe, Int.reduceGE, Int.reduceGT, *, cPut, cHas, Tryz.results105, iL_snoc])))
     all_goals first | rfl | skip
   ·have e5 : i = xs.length := by omega
    subst e5
    cases pl
    ·have e := putI_end0 hi
     clear hi
     (repeat' (first | (refine gate_a fun _ => ?_) | (refine fork_intro (fun hb => ?_) (fun hb => ?_) <;> (try simp only [ew, iL_snoc] at hb)) | (simp only [go_sem, Nat.reduceLeDiff, Nat.reduceEqDiff, reduceIte, reduceCtorEq, Nat.reduceAdd, Nat.reduceMul, Nat.reduceSub, Nat.reduceLT, Int.reduceLT, Int.reduceLE, Int.reduceNeg, Int.reduceToNat, Nat.reduceBEq, Nat.reduceBNe, Int.reduceGE, Int.reduceGT, *, cPut, cHas, Tryz.results105, iL_snoc])))
     all_goals first | exact e | (rw [e]; done) | skip
    ·have e := putI_end1 hi
     clear hi
     subst e
     (repeat' (first | (refine gate_a fun _ => ?_) | (refine fork_intro (fun hb => ?_) (fun hb => ?_) <;> (try simp only [ew] at hb)) | (simp only [go_sem, Nat.reduceLeDiff, Nat.reduceEqDiff, reduceIte, reduceCtorEq, Nat.reduceAdd, Nat.reduceMul, Nat.reduceSub, Nat.reduceLT, Int.reduceLT, Int.reduceLE, Int.reduceNeg, Int.reduceToNat, Nat.reduceBEq, Nat.reduceBNe, Int.reduceGE, Int.reduceGT, *, cPut, cHas, Tryz.results105])))
     all_goals first | rfl | skip
 ·have e : putS xs x = xs := by unfold putS; rw [hv]; rfl
  rw [e]
  clear e
  (repeat' (first | (refine gate_a fun _ => ?_) | (refine fork_intro (fun hb => ?_) (fun hb => ?_) <;> (try simp only [ew, hv] at hb)) | (simp only [go_sem, Nat.reduceLeDiff, Nat.reduceEqDiff, reduceIte, reduceCtorEq, Nat.reduceAdd, Nat.reduceMul, Nat.reduceSub, Nat.reduceLT, Int.reduceLT, Int.reduceLE, Int.reduceNeg, Int.reduceToNat, Nat.reduceBEq, Nat.reduceBNe, Int.reduceGE, Int.reduceGT, *, cPut, cHas, Tryz.results105, hv])))
  all_goals first | rfl | skip
theorem dstI_snoc {xs : List Int} {x : Int} : dstI (xs ++ [x]) = putS (dstI xs) x := by unfold dstI; rw [List.foldl_append]; rfl
end Go.Own
