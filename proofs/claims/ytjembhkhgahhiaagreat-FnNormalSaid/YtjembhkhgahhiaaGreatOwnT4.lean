/- Own contracts. Conditions: as each theorem states them. -/
import Derived.Test.YtjembhkhgahhiaaGreatOwnH1
import Derived.Test.YtjembhkhgahhiaaGreatOwnTb
import Derived.Test.YtjembhkhgahhiaaGreatOwnG12
set_option linter.unusedSimpArgs false
set_option linter.unusedVariables false
set_option maxRecDepth 20000
set_option maxHeartbeats 2000000
namespace Go.Own
open Go Go.Proofs
def cPut : Contract := ⟨[true], true, fun
 | [.arr 1 l _, .one (.v (.int .i64 x))] => some (WfI l ∧ l.length ≤ 16777216, [⟨false, [.own 1 (iL (putS (unI l) x)) 1]⟩], [.gone])
 | _ => none⟩
def putI (l : List Int) (x : Int) (i : Nat) (pl : Bool) (out : List Int) : Prop := i ≤ l.length ∧ out.length ≤ i + 1 ∧ out ++ (if pl then l.drop i else insS (l.drop i) x) = insS l x
theorem putI_start {l : List Int} {x : Int} : putI l x 0 false [] := ⟨Nat.zero_le _, by simp, by simp⟩
theorem putI_place {l : List Int} {x : Int} {i : Nat} {out : List Int} (h : putI l x i false out) (h5 : i < l.length) (hg : l.getD i 0 > x) (ho : out.length ≤ i) : putI l x (i + 1) true ((out ++ [x]) ++ [l.getD i 0]) := by
 obtain ⟨h1, h2, h3⟩ := h
 refine ⟨h5, by simp; omega, ?_⟩
 rw [if_neg (by decide), drop_getD h5 0, insS, if_pos (by omega)] at h3
 rw [if_pos rfl, ← h3]
 simp
theorem putI_go {l : List Int} {x : Int} {i : Nat} {out : List Int} (h : putI l x i false out) (h5 : i < l.length) (hg : ¬ l.getD i 0 > x) (ho : out.length ≤ i) : putI l x (i + 1) false (out ++ [l.getD i 0]) := by
 obtain ⟨h1, h2, h3⟩ := h
 refine ⟨h5, by simp; omega, ?_⟩
 rw [if_neg (by decide), drop_getD h5 0, insS, if_neg (by omega)] at h3
 rw [if_neg (by decide), ← h3]
 simp
theorem putI_on {l : List Int} {x : Int} {i : Nat} {out : List Int} (h : putI l x i true out) (h5 : i < l.length) : putI l x (i + 1) true (out ++ [l.getD i 0]) := by
 obtain ⟨h1, h2, h3⟩ := h
 refine ⟨h5, by simp; omega, ?_⟩
 rw [if_pos rfl, drop_getD h5 0] at h3
 rw [if_pos rfl, ← h3]
 simp
theorem putI_len {l : List Int} {x : Int} {i : Nat} {out : List Int} (h : putI l x i false out) : out.length ≤ i := by
 obtain ⟨h1, h2, h3⟩ := h
 have := congrArg List.length h3
 rw [if_neg (by decide), List.length_append, insS_length, insS_length, List.length_drop] at this
 omega
theorem putI_end0 {l : List Int} {x : Int} {out : List Int} (h : putI l x l.length false out) : out ++ [x] = insS l x := by
 have := h.2.2
 rw [if_neg (by decide), List.drop_length] at this
 exact this
theorem putI_end1 {l : List Int} {x : Int} {out : List Int} (h : putI l x l.length true out) : out = insS l x := by
 have := h.2.2
 rw [if_pos rfl, List.drop_length, List.append_nil] at this
 exact this
theorem put_ok : ContractOK E0 86 cPut := by
 refine contract_of_wpcC (E := E0) (T := mkT Tryz.prog [(123, cHas)] false (fun _ => false) false (fun _ => false)) (mkT_ok (E := E0) (.cons hasS_ok .nil)) rfl (fn := Tryz.f86) Tryz.func86 (by kernel_rfl) rfl mixedT (by kernel_rfl) rfl rfl (Nat.le_of_ble_eq_true rfl) ?_
 intro args p rs ms hr
 unfold cPut at hr
 dsimp only at hr
 split at hr
 rotate_left
 ·cases hr
 rename_i l dp x
 simp only [Option.some.injEq, Prod.mk.injEq] at hr
 obtain ⟨rfl, rfl, rfl⟩ := hr
 refine ⟨_, _, rfl, rfl, rfl, rfl, Nat.le_of_ble_eq_true rfl, ?_⟩
 have hm : maxLen = 9223372036854775807 := rfl
 rintro ⟨h1, h2⟩ bs
 obtain ⟨xs, rfl, hx⟩ := h1.ex
 clear h1
 rw [iL_length] at h2
 rw [unI_iL]
 cases hv : xs.contains x
 ·have e : putS xs x = insS xs x := by unfold putS; rw [hv]; rfl
  rw [e]
  clear e
  (repeat' (first | (refine gate_a fun _ => ?_) | (refine fork_intro (fun hb => ?_) (fun hb => ?_) <;> (try simp only [ew, hv] at hb)) | (simp only [go_sem, Nat.reduceLeDiff, Nat.reduceEqDiff, reduceIte, reduceCtorEq, Nat.reduceAdd, Nat.reduceMul, Nat.reduceSub, Nat.reduceLT, Int.reduceLT, Int.reduceLE, Int.reduceNeg, Int.reduceToNat, Nat.reduceBEq, Nat.reduceBNe, Int.reduceGE, Int.reduceGT, *, cPut, cHas, Tryz.results86, hv])))
  refine loop_intro { ι := Nat × Bool × List Int, rs := [(13, 40)], mods := [(7, fun i => .one (.d (.v (.int .i64 i.1)))), (6, fun i => .one (.d (.v (.bool i.2.1)))), (5, fun i => .one (.own 1 (iL i.2.2) 1))], boxes := [], arrs := [(0, fun _ => (1, iL xs, 1))], ok := fun i => putI xs x i.1 i.2.1 i.2.2, mu := fun i => xs.length - i.1 } rfl (0, false, []) putI_start ?_ ?_
  ·(repeat' (first | (refine gate_a fun _ => ?_) | (refine fork_intro (fun hb => ?_) (fun hb => ?_) <;> (try simp only [ew, hv] at hb)) | (simp only [go_sem, Nat.reduceLeDiff, Nat.reduceEqDiff, reduceIte, reduceCtorEq, Nat.reduceAdd, Nat.reduceMul, Nat.reduceSub, Nat.reduceLT, Int.reduceLT, Int.reduceLE, Int.reduceNeg, Int.reduceToNat, Nat.reduceBEq, Nat.reduceBNe, Int.reduceGE, Int.reduceGT, *, cPut, cHas, Tryz.results86, hv])))
   all_goals first | rfl | skip
  ·rintro ⟨i, pl, out⟩ hi
   dsimp only at hi
   have hi1 := hi.1
   have hi2 := hi.2.1
   by_cases h5 : i < xs.length
   ·cases pl
    ·have ho := putI_len hi
     by_cases hg : xs.getD i 0 > x
     ·have hn := putI_place hi h5 hg ho
      have hg' : decide (xs.getD i 0 > x) = true := decide_eq_true hg
      clear hi hg
      (repeat' (first | (refine gate_a fun _ => ?_) | (refine fork_intro (fun hb => ?_) (fun hb => ?_) <;> (try simp only [ew, hg', iL_snoc] at hb)) | (simp only [go_sem, Nat.reduceLeDiff, Nat.reduceEqDiff, reduceIte, reduceCtorEq, Nat.reduceAdd, Nat.reduceMul, Nat.reduceSub, Nat.reduceLT, Int.reduceLT, Int.reduceLE, Int.reduceNeg, Int.reduceToNat, Nat.reduceBEq, Nat.reduceBNe, Int.reduceGE, Int.reduceGT, *, cPut, cHas, Tryz.results86, hg', iL_snoc])))
      refine loop_next (i + 1, true, (out ++ [x]) ++ [xs.getD i 0]) hn (by dsimp only; omega) ?_
      clear hn
      (repeat' (first | (refine gate_a fun _ => ?_) | (refine fork_intro (fun hb => ?_) (fun hb => ?_) <;> (try simp only [ew, iL_snoc] at hb)) | (simp only [go_sem, Nat.reduceLeDiff, Nat.reduceEqDiff, reduceIte, reduceCtorEq, Nat.reduceAdd, Nat.reduceMul, Nat.reduceSub, Nat.reduceLT, Int.reduceLT, Int.reduceLE, Int.reduceNeg, Int.reduceToNat, Nat.reduceBEq, Nat.reduceBNe, Int.reduceGE, Int.reduceGT, *, cPut, cHas, Tryz.results86, iL_snoc])))
      all_goals first | rfl | skip
     ·have hn := putI_go hi h5 hg ho
      have hg' : decide (xs.getD i 0 > x) = false := decide_eq_false hg
      clear hi hg
      (repeat' (first | (refine gate_a fun _ => ?_) | (refine fork_intro (fun hb => ?_) (fun hb => ?_) <;> (try simp only [ew, hg', iL_snoc] at hb)) | (simp only [go_sem, Nat.reduceLeDiff, Nat.reduceEqDiff, reduceIte, reduceCtorEq, Nat.reduceAdd, Nat.reduceMul, Nat.reduceSub, Nat.reduceLT, Int.reduceLT, Int.reduceLE, Int.reduceNeg, Int.reduceToNat, Nat.reduceBEq, Nat.reduceBNe, Int.reduceGE, Int.reduceGT, *, cPut, cHas, Tryz.results86, hg', iL_snoc])))
      refine loop_next (i + 1, false, out ++ [xs.getD i 0]) hn (by dsimp only; omega) ?_
      clear hn
      (repeat' (first | (refine gate_a fun _ => ?_) | (refine fork_intro (fun hb => ?_) (fun hb => ?_) <;> (try simp only [ew, iL_snoc] at hb)) | (simp only [go_sem, Nat.reduceLeDiff, Nat.reduceEqDiff, reduceIte, reduceCtorEq, Nat.reduceAdd, Nat.reduceMul, Nat.reduceSub, Nat.reduceLT, Int.reduceLT, Int.reduceLE, Int.reduceNeg, Int.reduceToNat, Nat.reduceBEq, Nat.reduceBNe, Int.reduceGE, Int.reduceGT, *, cPut, cHas, Tryz.results86, iL_snoc])))
      all_goals first | rfl | skip
    ·have hn := putI_on hi h5
     clear hi
     (repeat' (first | (refine gate_a fun _ => ?_) | (refine fork_intro (fun hb => ?_) (fun hb => ?_) <;> (try simp only [ew, iL_snoc] at hb)) | (simp only [go_sem, Nat.reduceLeDiff, Nat.reduceEqDiff, reduceIte, reduceCtorEq, Nat.reduceAdd, Nat.reduceMul, Nat.reduceSub, Nat.reduceLT, Int.reduceLT, Int.reduceLE, Int.reduceNeg, Int.reduceToNat, Nat.reduceBEq, Nat.reduceBNe, Int.reduceGE, Int.reduceGT, *, cPut, cHas, Tryz.results86, iL_snoc])))
     refine loop_next (i + 1, true, out ++ [xs.getD i 0]) hn (by dsimp only; omega) ?_
     clear hn
     (repeat' (first | (refine gate_a fun _ => ?_) | (refine fork_intro (fun hb => ?_) (fun hb => ?_) <;> (try simp only [ew, iL_snoc] at hb)) | (simp only [go_sem, Nat.reduceLeDiff, Nat.reduceEqDiff, reduceIte, reduceCtorEq, Nat.reduceAdd, Nat.reduceMul, Nat.reduceSub, Nat.reduceLT, Int.reduceLT, Int.reduceLE, Int.reduceNeg, Int.reduceToNat, Nat.reduceBEq, Nat.reduceBNe, Int.reduceGE, Int.reduceGT, *, cPut, cHas, Tryz.results86, iL_snoc])))
     all_goals first | rfl | skip
   ·have e5 : i = xs.length := by omega
    subst e5
    cases pl
    ·have e := putI_end0 hi
     clear hi
     (repeat' (first | (refine gate_a fun _ => ?_) | (refine fork_intro (fun hb => ?_) (fun hb => ?_) <;> (try simp only [ew, iL_snoc] at hb)) | (simp only [go_sem, Nat.reduceLeDiff, Nat.reduceEqDiff, reduceIte, reduceCtorEq, Nat.reduceAdd, Nat.reduceMul, Nat.reduceSub, Nat.reduceLT, Int.reduceLT, Int.reduceLE, Int.reduceNeg, Int.reduceToNat, Nat.reduceBEq, Nat.reduceBNe, Int.reduceGE, Int.reduceGT, *, cPut, cHas, Tryz.results86, iL_snoc])))
     all_goals first | exact e | (rw [e]; done) | skip
    ·have e := putI_end1 hi
     clear hi
     subst e
     (repeat' (first | (refine gate_a fun _ => ?_) | (refine fork_intro (fun hb => ?_) (fun hb => ?_) <;> (try simp only [ew] at hb)) | (simp only [go_sem, Nat.reduceLeDiff, Nat.reduceEqDiff, reduceIte, reduceCtorEq, Nat.reduceAdd, Nat.reduceMul, Nat.reduceSub, Nat.reduceLT, Int.reduceLT, Int.reduceLE, Int.reduceNeg, Int.reduceToNat, Nat.reduceBEq, Nat.reduceBNe, Int.reduceGE, Int.reduceGT, *, cPut, cHas, Tryz.results86])))
     all_goals first | rfl | skip
 ·have e : putS xs x = xs := by unfold putS; rw [hv]; rfl
  rw [e]
  clear e
  (repeat' (first | (refine gate_a fun _ => ?_) | (refine fork_intro (fun hb => ?_) (fun hb => ?_) <;> (try simp only [ew, hv] at hb)) | (simp only [go_sem, Nat.reduceLeDiff, Nat.reduceEqDiff, reduceIte, reduceCtorEq, Nat.reduceAdd, Nat.reduceMul, Nat.reduceSub, Nat.reduceLT, Int.reduceLT, Int.reduceLE, Int.reduceNeg, Int.reduceToNat, Nat.reduceBEq, Nat.reduceBNe, Int.reduceGE, Int.reduceGT, *, cPut, cHas, Tryz.results86, hv])))
  all_goals first | rfl | skip
def setsOK (l : List Int) : Bool := l.all (isAttr 5) && decide ((l.length : Int) ≤ 100)
def cSets : Contract := ⟨[], false, fun
 | [.one (.sl 1 l)] => some (WfI l, [⟨false, [.d (.v (.bool (setsOK (unI l))))]⟩], [])
 | _ => none⟩
theorem setsS_ok : ContractOK E0 137 cSets := by
 refine contract_of_wpc (E := E0) (T := mkT Tryz.prog [(115, cValid)] false (fun _ => false) true (fun _ => false)) (mkT_ok (E := E0) (.cons validS_ok .nil)) (fn := Tryz.f137) Tryz.func137 (by kernel_rfl) rfl mixedT (by kernel_rfl) rfl ?_
 intro args p rs ms hr
 unfold cSets at hr
 dsimp only at hr
 split at hr
 rotate_left
 ·cases hr
 rename_i l
 simp only [Option.some.injEq, Prod.mk.injEq] at hr
 obtain ⟨rfl, rfl, rfl⟩ := hr
 refine ⟨rfl, rfl, Nat.le_of_ble_eq_true rfl, ?_⟩
 have hm : maxLen = 9223372036854775807 := rfl
 intro h1 bs
 obtain ⟨xs, rfl, hx⟩ := h1.ex
 clear h1
 rw [unI_iL]
 (repeat' (first | (refine gate_a fun _ => ?_) | (refine fork_intro (fun hb => ?_) (fun hb => ?_) <;> (try simp only [ew] at hb)) | (simp only [go_sem, Nat.reduceLeDiff, Nat.reduceEqDiff, reduceIte, reduceCtorEq, Nat.reduceAdd, Nat.reduceMul, Nat.reduceSub, Nat.reduceLT, Int.reduceLT, Int.reduceLE, Int.reduceNeg, Int.reduceToNat, Nat.reduceBEq, Nat.reduceBNe, Int.reduceGE, Int.reduceGT, *, cSets, cValid, Tryz.results137])))
 refine loop_intro { ι := Nat, rs := [(2, 3), (4, 16)], mods := [(3, fun i => .one (.d (.v (.int .i64 i))))], boxes := [], arrs := [], ok := fun i => i ≤ xs.length ∧ (xs.drop i).all (isAttr 5) = xs.all (isAttr 5), mu := fun i => xs.length - i } rfl 0 ⟨Nat.zero_le _, rfl⟩ ?_ fun i hi => ?_
 ·(repeat' (first | (refine gate_a fun _ => ?_) | (refine fork_intro (fun hb => ?_) (fun hb => ?_) <;> (try simp only [ew] at hb)) | (simp only [go_sem, Nat.reduceLeDiff, Nat.reduceEqDiff, reduceIte, reduceCtorEq, Nat.reduceAdd, Nat.reduceMul, Nat.reduceSub, Nat.reduceLT, Int.reduceLT, Int.reduceLE, Int.reduceNeg, Int.reduceToNat, Nat.reduceBEq, Nat.reduceBNe, Int.reduceGE, Int.reduceGT, *, cSets, cValid, Tryz.results137])))
 ·dsimp only at i hi
  obtain ⟨hi, ht⟩ := hi
  by_cases h5 : i < xs.length
  ·rw [all_drop h5 0] at ht
   cases hq : isAttr 5 (xs.getD i 0)
   ·rw [hq, Bool.false_and] at ht
    have e : setsOK xs = false := by unfold setsOK; rw [← ht]; rfl
    rw [e]
    clear e ht
    (repeat' (first | (refine gate_a fun _ => ?_) | (refine fork_intro (fun hb => ?_) (fun hb => ?_) <;> (try simp only [ew, hq] at hb)) | (simp only [go_sem, Nat.reduceLeDiff, Nat.reduceEqDiff, reduceIte, reduceCtorEq, Nat.reduceAdd, Nat.reduceMul, Nat.reduceSub, Nat.reduceLT, Int.reduceLT, Int.reduceLE, Int.reduceNeg, Int.reduceToNat, Nat.reduceBEq, Nat.reduceBNe, Int.reduceGE, Int.reduceGT, *, cSets, cValid, Tryz.results137, hq])))
   ·rw [hq, Bool.true_and] at ht
    (repeat' (first | (refine gate_a fun _ => ?_) | (refine fork_intro (fun hb => ?_) (fun hb => ?_) <;> (try simp only [ew, hq] at hb)) | (simp only [go_sem, Nat.reduceLeDiff, Nat.reduceEqDiff, reduceIte, reduceCtorEq, Nat.reduceAdd, Nat.reduceMul, Nat.reduceSub, Nat.reduceLT, Int.reduceLT, Int.reduceLE, Int.reduceNeg, Int.reduceToNat, Nat.reduceBEq, Nat.reduceBNe, Int.reduceGE, Int.reduceGT, *, cSets, cValid, Tryz.results137, hq])))
    refine loop_next (i + 1) ⟨by omega, ht⟩ (by dsimp only; omega) ?_
    clear ht
    (repeat' (first | (refine gate_a fun _ => ?_) | (refine fork_intro (fun hb => ?_) (fun hb => ?_) <;> (try simp only [ew] at hb)) | (simp only [go_sem, Nat.reduceLeDiff, Nat.reduceEqDiff, reduceIte, reduceCtorEq, Nat.reduceAdd, Nat.reduceMul, Nat.reduceSub, Nat.reduceLT, Int.reduceLT, Int.reduceLE, Int.reduceNeg, Int.reduceToNat, Nat.reduceBEq, Nat.reduceBNe, Int.reduceGE, Int.reduceGT, *, cSets, cValid, Tryz.results137])))
  ·have e5 : i = xs.length := by omega
   subst e5
   rw [List.drop_length, List.all_nil] at ht
   have e : setsOK xs = decide ((xs.length : Int) ≤ 100) := by unfold setsOK; rw [← ht]; rfl
   rw [e]
   clear e ht
   (repeat' (first | (refine gate_a fun _ => ?_) | (refine fork_intro (fun hb => ?_) (fun hb => ?_) <;> (try simp only [ew] at hb)) | (simp only [go_sem, Nat.reduceLeDiff, Nat.reduceEqDiff, reduceIte, reduceCtorEq, Nat.reduceAdd, Nat.reduceMul, Nat.reduceSub, Nat.reduceLT, Int.reduceLT, Int.reduceLE, Int.reduceNeg, Int.reduceToNat, Nat.reduceBEq, Nat.reduceBNe, Int.reduceGE, Int.reduceGT, *, cSets, cValid, Tryz.results137])))
theorem setsI_ok : ContractOK E0 130 cSets := by
 refine contract_of_wpc (E := E0) (T := mkT Tryz.prog [(106, cValid)] false (fun _ => false) true (fun _ => false)) (mkT_ok (E := E0) (.cons validI_ok .nil)) (fn := Tryz.f130) Tryz.func130 (by kernel_rfl) rfl mixedT (by kernel_rfl) rfl ?_
 intro args p rs ms hr
 unfold cSets at hr
 dsimp only at hr
 split at hr
 rotate_left
 ·cases hr
 rename_i l
 simp only [Option.some.injEq, Prod.mk.injEq] at hr
 obtain ⟨rfl, rfl, rfl⟩ := hr
 refine ⟨rfl, rfl, Nat.le_of_ble_eq_true rfl, ?_⟩
 have hm : maxLen = 9223372036854775807 := rfl
 intro h1 bs
 obtain ⟨xs, rfl, hx⟩ := h1.ex
 clear h1
 rw [unI_iL]
 (repeat' (first | (refine gate_a fun _ => ?_) | (refine fork_intro (fun hb => ?_) (fun hb => ?_) <;> (try simp only [ew] at hb)) | (simp only [go_sem, Nat.reduceLeDiff, Nat.reduceEqDiff, reduceIte, reduceCtorEq, Nat.reduceAdd, Nat.reduceMul, Nat.reduceSub, Nat.reduceLT, Int.reduceLT, Int.reduceLE, Int.reduceNeg, Int.reduceToNat, Nat.reduceBEq, Nat.reduceBNe, Int.reduceGE, Int.reduceGT, *, cSets, cValid, Tryz.results130])))
 refine loop_intro { ι := Nat, rs := [(2, 3), (4, 5), (8, 15)], mods := [(7, fun i => .one (.d (.v (.int .i64 i))))], boxes := [], arrs := [], ok := fun i => i ≤ xs.length ∧ (xs.drop i).all (isAttr 5) = xs.all (isAttr 5), mu := fun i => xs.length - i } rfl 0 ⟨Nat.zero_le _, rfl⟩ ?_ fun i hi => ?_
 ·(repeat' (first | (refine gate_a fun _ => ?_) | (refine fork_intro (fun hb => ?_) (fun hb => ?_) <;> (try simp only [ew] at hb)) | (simp only [go_sem, Nat.reduceLeDiff, Nat.reduceEqDiff, reduceIte, reduceCtorEq, Nat.reduceAdd, Nat.reduceMul, Nat.reduceSub, Nat.reduceLT, Int.reduceLT, Int.reduceLE, Int.reduceNeg, Int.reduceToNat, Nat.reduceBEq, Nat.reduceBNe, Int.reduceGE, Int.reduceGT, *, cSets, cValid, Tryz.results130])))
 ·dsimp only at i hi
  obtain ⟨hi, ht⟩ := hi
  by_cases h5 : i < xs.length
  ·rw [all_drop h5 0] at ht
   cases hq : isAttr 5 (xs.getD i 0)
   ·rw [hq, Bool.false_and] at ht
    have e : setsOK xs = false := by unfold setsOK; rw [← ht]; rfl
    rw [e]
    clear e ht
    (repeat' (first | (refine gate_a fun _ => ?_) | (refine fork_intro (fun hb => ?_) (fun hb => ?_) <;> (try simp only [ew, hq] at hb)) | (simp only [go_sem, Nat.reduceLeDiff, Nat.reduceEqDiff, reduceIte, reduceCtorEq, Nat.reduceAdd, Nat.reduceMul, Nat.reduceSub, Nat.reduceLT, Int.reduceLT, Int.reduceLE, Int.reduceNeg, Int.reduceToNat, Nat.reduceBEq, Nat.reduceBNe, Int.reduceGE, Int.reduceGT, *, cSets, cValid, Tryz.results130, hq])))
   ·rw [hq, Bool.true_and] at ht
    (repeat' (first | (refine gate_a fun _ => ?_) | (refine fork_intro (fun hb => ?_) (fun hb => ?_) <;> (try simp only [ew, hq] at hb)) | (simp only [go_sem, Nat.reduceLeDiff, Nat.reduceEqDiff, reduceIte, reduceCtorEq, Nat.reduceAdd, Nat.reduceMul, Nat.reduceSub, Nat.reduceLT, Int.reduceLT, Int.reduceLE, Int.reduceNeg, Int.reduceToNat, Nat.reduceBEq, Nat.reduceBNe, Int.reduceGE, Int.reduceGT, *, cSets, cValid, Tryz.results130, hq])))
    refine loop_next (i + 1) ⟨by omega, ht⟩ (by dsimp only; omega) ?_
    clear ht
    (repeat' (first | (refine gate_a fun _ => ?_) | (refine fork_intro (fun hb => ?_) (fun hb => ?_) <;> (try simp only [ew] at hb)) | (simp only [go_sem, Nat.reduceLeDiff, Nat.reduceEqDiff, reduceIte, reduceCtorEq, Nat.reduceAdd, Nat.reduceMul, Nat.reduceSub, Nat.reduceLT, Int.reduceLT, Int.reduceLE, Int.reduceNeg, Int.reduceToNat, Nat.reduceBEq, Nat.reduceBNe, Int.reduceGE, Int.reduceGT, *, cSets, cValid, Tryz.results130])))
  ·have e5 : i = xs.length := by omega
   subst e5
   rw [List.drop_length, List.all_nil] at ht
   have e : setsOK xs = decide ((xs.length : Int) ≤ 100) := by unfold setsOK; rw [← ht]; rfl
   rw [e]
   clear e ht
   (repeat' (first | (refine gate_a fun _ => ?_) | (refine fork_intro (fun hb => ?_) (fun hb => ?_) <;> (try simp only [ew] at hb)) | (simp only [go_sem, Nat.reduceLeDiff, Nat.reduceEqDiff, reduceIte, reduceCtorEq, Nat.reduceAdd, Nat.reduceMul, Nat.reduceSub, Nat.reduceLT, Int.reduceLT, Int.reduceLE, Int.reduceNeg, Int.reduceToNat, Nat.reduceBEq, Nat.reduceBNe, Int.reduceGE, Int.reduceGT, *, cSets, cValid, Tryz.results130])))
def minT1 (x y : Int) : Bool := x == y || !insB y x
def maxT1 (x y : Int) : Bool := x == y || !insB x y
def selS (t : Int → Int → Bool) (l : List Int) : List Int := if setsOK l then dstI (l.filter fun x => l.all (t x)) else []
theorem dst_filter {p : Int → Bool} {xs : List Int} : (dstI xs).filter p = dstI (xs.filter p) := by
 refine sorted_ext (dstI_sorted.filter _) dstI_sorted fun z => ?_
 rw [List.mem_filter, dstI_mem, dstI_mem, List.mem_filter]
theorem selS_length {t : Int → Int → Bool} {l : List Int} : (selS t l).length ≤ 100 := by
 unfold selS
 split
 ·rename_i h
  simp only [setsOK, Bool.and_eq_true, decide_eq_true_eq] at h
  have h1 := @dstI_length (l.filter fun x => l.all (t x))
  have h2 := List.length_filter_le (fun x => l.all (t x)) l
  omega
 ·simp
theorem selS_mem {t : Int → Int → Bool} {l : List Int} {x : Int} (h : x ∈ selS t l) : x ∈ l ∧ isAttr 5 x = true := by
 unfold selS at h
 split at h
 ·rename_i hs
  rw [dstI_mem, List.mem_filter] at h
  simp only [setsOK, Bool.and_eq_true, List.all_eq_true] at hs
  exact ⟨h.1, hs.1 x h.1⟩
 ·cases h
theorem sets_at {l : List Int} (h : setsOK l = true) {i : Nat} (hi : i < l.length) : 0 ≤ l.getD i 0 ∧ l.getD i 0 ≤ 31 := by
 simp only [setsOK, Bool.and_eq_true, List.all_eq_true] at h
 have := isAttr_le (h.1 _ (getD_mem hi 0))
 exact this.2.2
theorem dstI_snoc {xs : List Int} {x : Int} : dstI (xs ++ [x]) = putS (dstI xs) x := by unfold dstI; rw [List.foldl_append]; rfl
def cMinS : Contract := ⟨[], false, fun
 | [.one (.sl 1 l)] => some (WfI l, [⟨false, [.own 1 (iL (selS minT1 (unI l))) 1]⟩], [])
 | _ => none⟩
def cMaxS : Contract := ⟨[], false, fun
 | [.one (.sl 1 l)] => some (WfI l, [⟨false, [.own 1 (iL (selS maxT1 (unI l))) 1]⟩], [])
 | _ => none⟩
theorem and_ins3 {l x : Int} (hl : R5 l) (hx : R5 x) : (bitI .and .i64 l x != l) = !insB l x := by
 rw [bne, and_ins hl hx]
theorem minS_ok : ContractOK E0 136 cMinS := by
 refine contract_of_wpc (E := E0) (T := mkT Tryz.prog [(137, cSets), (86, cPut)] false (fun _ => false) true (fun _ => false)) (mkT_ok (E := E0) (.cons setsS_ok (.cons put_ok .nil))) (fn := Tryz.f136) Tryz.func136 (by kernel_rfl) rfl mixedT (by kernel_rfl) rfl ?_
 intro args p rs ms hr
 unfold cMinS at hr
 dsimp only at hr
 split at hr
 rotate_left
 ·cases hr
 rename_i l
 simp only [Option.some.injEq, Prod.mk.injEq] at hr
 obtain ⟨rfl, rfl, rfl⟩ := hr
 refine ⟨rfl, rfl, Nat.le_of_ble_eq_true rfl, ?_⟩
 have hm : maxLen = 9223372036854775807 := rfl
 intro h1 bs
 obtain ⟨xs, rfl, hx⟩ := h1.ex
 clear h1
 rw [unI_iL]
 cases hv : setsOK xs
 ·have e : selS minT1 xs = [] := by unfold selS; rw [hv]; rfl
  rw [e]
  clear e
  (repeat' (first | (refine gate_a fun _ => ?_) | (refine fork_intro (fun hb => ?_) (fun hb => ?_) <;> (try simp only [ew, hv] at hb)) | (simp only [go_sem, Nat.reduceLeDiff, Nat.reduceEqDiff, reduceIte, reduceCtorEq, Nat.reduceAdd, Nat.reduceMul, Nat.reduceSub, Nat.reduceLT, Int.reduceLT, Int.reduceLE, Int.reduceNeg, Int.reduceToNat, Nat.reduceBEq, Nat.reduceBNe, Int.reduceGE, Int.reduceGT, *, cMinS, cSets, cPut, Tryz.results136, hv])))
  refine loop_intro { ι := Unit, rs := [(5, 7), (8, 59)], mods := [(4, fun _ => .one (.d (.v (.int .i64 0)))), (3, fun _ => .one (.own 1 [] 1))], boxes := [], arrs := [], ok := fun _ => True, mu := fun _ => 0 } rfl () trivial ?_ fun _ _ => ?_
  ·(repeat' (first | (refine gate_a fun _ => ?_) | (refine fork_intro (fun hb => ?_) (fun hb => ?_) <;> (try simp only [ew, hv] at hb)) | (simp only [go_sem, Nat.reduceLeDiff, Nat.reduceEqDiff, reduceIte, reduceCtorEq, Nat.reduceAdd, Nat.reduceMul, Nat.reduceSub, Nat.reduceLT, Int.reduceLT, Int.reduceLE, Int.reduceNeg, Int.reduceToNat, Nat.reduceBEq, Nat.reduceBNe, Int.reduceGE, Int.reduceGT, *, cMinS, cSets, cPut, Tryz.results136, hv])))
  ·(repeat' (first | (refine gate_a fun _ => ?_) | (refine fork_intro (fun hb => ?_) (fun hb => ?_) <;> (try simp only [ew, hv] at hb)) | (simp only [go_sem, Nat.reduceLeDiff, Nat.reduceEqDiff, reduceIte, reduceCtorEq, Nat.reduceAdd, Nat.reduceMul, Nat.reduceSub, Nat.reduceLT, Int.reduceLT, Int.reduceLE, Int.reduceNeg, Int.reduceToNat, Nat.reduceBEq, Nat.reduceBNe, Int.reduceGE, Int.reduceGT, *, cMinS, cSets, cPut, Tryz.results136, hv])))
   all_goals first | rfl | skip
 ·have e : selS minT1 xs = dstI (xs.filter fun x => xs.all (minT1 x)) := by unfold selS; rw [hv]; rfl
  have hat := fun i => @sets_at xs hv i
  have h100 : xs.length ≤ 100 := by
   have := hv
   simp only [setsOK, Bool.and_eq_true, decide_eq_true_eq] at this
   omega
  rw [e]
  clear e
  (repeat' (first | (refine gate_a fun _ => ?_) | (refine fork_intro (fun hb => ?_) (fun hb => ?_) <;> (try simp only [ew, hv] at hb)) | (simp only [go_sem, Nat.reduceLeDiff, Nat.reduceEqDiff, reduceIte, reduceCtorEq, Nat.reduceAdd, Nat.reduceMul, Nat.reduceSub, Nat.reduceLT, Int.reduceLT, Int.reduceLE, Int.reduceNeg, Int.reduceToNat, Nat.reduceBEq, Nat.reduceBNe, Int.reduceGE, Int.reduceGT, *, cMinS, cSets, cPut, Tryz.results136, hv])))
  refine loop_intro { ι := Nat, rs := [(5, 7), (8, 59)], mods := [(4, fun i => .one (.d (.v (.int .i64 i)))), (3, fun i => .one (.own 1 (iL (dstI ((xs.take i).filter fun x => xs.all (minT1 x)))) 1))], boxes := [], arrs := [], ok := fun i => i ≤ xs.length, mu := fun i => xs.length - i } rfl 0 (Nat.zero_le _) ?_ fun i hi => ?_
  ·(repeat' (first | (refine gate_a fun _ => ?_) | (refine fork_intro (fun hb => ?_) (fun hb => ?_) <;> (try simp only [ew, hv] at hb)) | (simp only [go_sem, Nat.reduceLeDiff, Nat.reduceEqDiff, reduceIte, reduceCtorEq, Nat.reduceAdd, Nat.reduceMul, Nat.reduceSub, Nat.reduceLT, Int.reduceLT, Int.reduceLE, Int.reduceNeg, Int.reduceToNat, Nat.reduceBEq, Nat.reduceBNe, Int.reduceGE, Int.reduceGT, *, cMinS, cSets, cPut, Tryz.results136, hv])))
   all_goals first | rfl | skip
  ·dsimp only at i hi
   have l1 := @dstI_length ((xs.take i).filter fun x => xs.all (minT1 x))
   have l2 := List.length_filter_le (fun x => xs.all (minT1 x)) (xs.take i)
   rw [List.length_take] at l2
   have l3 : (dstI ((xs.take i).filter fun x => xs.all (minT1 x))).length ≤ 100 := by omega
   have l4 : (dstI ((xs.take i).filter fun x => xs.all (minT1 x))).length ≤ maxLen := Nat.le_trans l3 (by decide)
   clear l1 l2
   by_cases h5 : i < xs.length
   ·obtain ⟨x0, x31⟩ := hat i h5
    have hft := filter_take h5 (fun x => xs.all (minT1 x))
    have hsn := fun x => @dstI_snoc ((xs.take i).filter fun x => xs.all (minT1 x)) x
    generalize hZ : dstI ((xs.take i).filter fun x => xs.all (minT1 x)) = Z at l3 l4 hsn
    generalize hX : xs.getD i 0 = x at x0 x31 hft
    (repeat' (first | (refine gate_a fun _ => ?_) | (refine fork_intro (fun hb => ?_) (fun hb => ?_) <;> (try simp only [ew, hv, hZ] at hb)) | (simp only [go_sem, Nat.reduceLeDiff, Nat.reduceEqDiff, reduceIte, reduceCtorEq, Nat.reduceAdd, Nat.reduceMul, Nat.reduceSub, Nat.reduceLT, Int.reduceLT, Int.reduceLE, Int.reduceNeg, Int.reduceToNat, Nat.reduceBEq, Nat.reduceBNe, Int.reduceGE, Int.reduceGT, *, cMinS, cSets, cPut, Tryz.results136, hv, hZ])))
    generalize hF : xs.all (minT1 x) = F at hft
    refine loop_intro { ι := Nat, rs := [(18, 52)], mods := [(6, fun k => .one (.d (.v (.int .i64 k)))), (5, fun k => .one (.d (.v (.bool ((xs.take k).all (minT1 x))))))], boxes := [], arrs := [(3, fun _ => (1, iL Z, 1))], ok := fun k => k ≤ xs.length, mu := fun k => xs.length - k } rfl 0 (Nat.zero_le _) ?_ fun k hk => ?_
    ·(repeat' (first | (refine gate_a fun _ => ?_) | (refine fork_intro (fun hb => ?_) (fun hb => ?_) <;> (try simp only [ew, hZ] at hb)) | (simp only [go_sem, Nat.reduceLeDiff, Nat.reduceEqDiff, reduceIte, reduceCtorEq, Nat.reduceAdd, Nat.reduceMul, Nat.reduceSub, Nat.reduceLT, Int.reduceLT, Int.reduceLE, Int.reduceNeg, Int.reduceToNat, Nat.reduceBEq, Nat.reduceBNe, Int.reduceGE, Int.reduceGT, *, cMinS, cSets, cPut, Tryz.results136, hZ])))
     all_goals first | rfl | skip
    ·dsimp only at k hk
     by_cases h6 : k < xs.length
     ·obtain ⟨y0, y31⟩ := hat k h6
      have ea := and_ins2 (l := xs.getD k 0) (x := x) ⟨y0, y31⟩ ⟨x0, x31⟩
      have et := all_take h6 0 (minT1 x)
      have em : minT1 x (xs.getD k 0) = (xs.getD k 0 == x || !insB (xs.getD k 0) x) := by
       unfold minT1; rw [Bool.beq_comm]
      rw [em] at et
      clear em
      (repeat' (first | (refine gate_a fun _ => ?_) | (refine fork_intro (fun hb => ?_) (fun hb => ?_) <;> (try simp only [ew, hX, ea] at hb)) | (simp only [go_sem, Nat.reduceLeDiff, Nat.reduceEqDiff, reduceIte, reduceCtorEq, Nat.reduceAdd, Nat.reduceMul, Nat.reduceSub, Nat.reduceLT, Int.reduceLT, Int.reduceLE, Int.reduceNeg, Int.reduceToNat, Nat.reduceBEq, Nat.reduceBNe, Int.reduceGE, Int.reduceGT, *, cMinS, cSets, cPut, Tryz.results136, hX, ea])))
      refine loop_next (k + 1) (by dsimp only; omega) (by dsimp only; omega) ?_
      (repeat' (first | (refine gate_a fun _ => ?_) | (refine fork_intro (fun hb => ?_) (fun hb => ?_) <;> (try simp only [ew, et, hX, ea] at hb)) | (simp only [go_sem, Nat.reduceLeDiff, Nat.reduceEqDiff, reduceIte, reduceCtorEq, Nat.reduceAdd, Nat.reduceMul, Nat.reduceSub, Nat.reduceLT, Int.reduceLT, Int.reduceLE, Int.reduceNeg, Int.reduceToNat, Nat.reduceBEq, Nat.reduceBNe, Int.reduceGE, Int.reduceGT, *, cMinS, cSets, cPut, Tryz.results136, et, hX, ea])))
     ·have e6 : k = xs.length := by omega
      subst e6
      have et : (xs.take xs.length).all (minT1 x) = F := by rw [List.take_length, hF]
      cases hq : F
      ·rw [hq] at et hft
       rw [if_neg (by decide), List.append_nil] at hft
       clear hsn
       (repeat' (first | (refine gate_a fun _ => ?_) | (refine fork_intro (fun hb => ?_) (fun hb => ?_) <;> (try simp only [ew, et, hX] at hb)) | (simp only [go_sem, Nat.reduceLeDiff, Nat.reduceEqDiff, reduceIte, reduceCtorEq, Nat.reduceAdd, Nat.reduceMul, Nat.reduceSub, Nat.reduceLT, Int.reduceLT, Int.reduceLE, Int.reduceNeg, Int.reduceToNat, Nat.reduceBEq, Nat.reduceBNe, Int.reduceGE, Int.reduceGT, *, cMinS, cSets, cPut, Tryz.results136, et, hX])))
       refine loop_next (i + 1) (by dsimp only; omega) (by dsimp only; omega) ?_
       (repeat' (first | (refine gate_a fun _ => ?_) | (refine fork_intro (fun hb => ?_) (fun hb => ?_) <;> (try simp only [ew, hft, hZ] at hb)) | (simp only [go_sem, Nat.reduceLeDiff, Nat.reduceEqDiff, reduceIte, reduceCtorEq, Nat.reduceAdd, Nat.reduceMul, Nat.reduceSub, Nat.reduceLT, Int.reduceLT, Int.reduceLE, Int.reduceNeg, Int.reduceToNat, Nat.reduceBEq, Nat.reduceBNe, Int.reduceGE, Int.reduceGT, *, cMinS, cSets, cPut, Tryz.results136, hft, hZ])))
      ·rw [hq] at et hft
       rw [if_pos rfl] at hft
       have hs := hsn x
       clear hsn
       (repeat' (first | (refine gate_a fun _ => ?_) | (refine fork_intro (fun hb => ?_) (fun hb => ?_) <;> (try simp only [ew, et, hX] at hb)) | (simp only [go_sem, Nat.reduceLeDiff, Nat.reduceEqDiff, reduceIte, reduceCtorEq, Nat.reduceAdd, Nat.reduceMul, Nat.reduceSub, Nat.reduceLT, Int.reduceLT, Int.reduceLE, Int.reduceNeg, Int.reduceToNat, Nat.reduceBEq, Nat.reduceBNe, Int.reduceGE, Int.reduceGT, *, cMinS, cSets, cPut, Tryz.results136, et, hX])))
       refine loop_next (i + 1) (by dsimp only; omega) (by dsimp only; omega) ?_
       (repeat' (first | (refine gate_a fun _ => ?_) | (refine fork_intro (fun hb => ?_) (fun hb => ?_) <;> (try simp only [ew, hft, hs, hZ] at hb)) | (simp only [go_sem, Nat.reduceLeDiff, Nat.reduceEqDiff, reduceIte, reduceCtorEq, Nat.reduceAdd, Nat.reduceMul, Nat.reduceSub, Nat.reduceLT, Int.reduceLT, Int.reduceLE, Int.reduceNeg, Int.reduceToNat, Nat.reduceBEq, Nat.reduceBNe, Int.reduceGE, Int.reduceGT, *, cMinS, cSets, cPut, Tryz.results136, hft, hs, hZ])))
   ·have e5 : i = xs.length := by omega
    subst e5
    have et : xs.take xs.length = xs := List.take_length
    (repeat' (first | (refine gate_a fun _ => ?_) | (refine fork_intro (fun hb => ?_) (fun hb => ?_) <;> (try simp only [ew, et, hv] at hb)) | (simp only [go_sem, Nat.reduceLeDiff, Nat.reduceEqDiff, reduceIte, reduceCtorEq, Nat.reduceAdd, Nat.reduceMul, Nat.reduceSub, Nat.reduceLT, Int.reduceLT, Int.reduceLE, Int.reduceNeg, Int.reduceToNat, Nat.reduceBEq, Nat.reduceBNe, Int.reduceGE, Int.reduceGT, *, cMinS, cSets, cPut, Tryz.results136, et, hv])))
    all_goals first | rfl | skip
end Go.Own
namespace Go.Own
open Go Go.Proofs
theorem maxS_ok : ContractOK E0 88 cMaxS := by
 refine contract_of_wpc (E := E0) (T := mkT Tryz.prog [(137, cSets), (86, cPut)] false (fun _ => false) true (fun _ => false)) (mkT_ok (E := E0) (.cons setsS_ok (.cons put_ok .nil))) (fn := Tryz.f88) Tryz.func88 (by kernel_rfl) rfl mixedT (by kernel_rfl) rfl ?_
 intro args p rs ms hr
 unfold cMaxS at hr
 dsimp only at hr
 split at hr
 rotate_left
 ·cases hr
 rename_i l
 simp only [Option.some.injEq, Prod.mk.injEq] at hr
 obtain ⟨rfl, rfl, rfl⟩ := hr
 refine ⟨rfl, rfl, Nat.le_of_ble_eq_true rfl, ?_⟩
 have hm : maxLen = 9223372036854775807 := rfl
 intro h1 bs
 obtain ⟨xs, rfl, hx⟩ := h1.ex
 clear h1
 rw [unI_iL]
 cases hv : setsOK xs
 ·have e : selS maxT1 xs = [] := by unfold selS; rw [hv]; rfl
  rw [e]
  clear e
  (repeat' (first | (refine gate_a fun _ => ?_) | (refine fork_intro (fun hb => ?_) (fun hb => ?_) <;> (try simp only [ew, hv] at hb)) | (simp only [go_sem, Nat.reduceLeDiff, Nat.reduceEqDiff, reduceIte, reduceCtorEq, Nat.reduceAdd, Nat.reduceMul, Nat.reduceSub, Nat.reduceLT, Int.reduceLT, Int.reduceLE, Int.reduceNeg, Int.reduceToNat, Nat.reduceBEq, Nat.reduceBNe, Int.reduceGE, Int.reduceGT, *, cMaxS, cSets, cPut, Tryz.results88, hv])))
  refine loop_intro { ι := Unit, rs := [(5, 7), (8, 59)], mods := [(4, fun _ => .one (.d (.v (.int .i64 0)))), (3, fun _ => .one (.own 1 [] 1))], boxes := [], arrs := [], ok := fun _ => True, mu := fun _ => 0 } rfl () trivial ?_ fun _ _ => ?_
  ·(repeat' (first | (refine gate_a fun _ => ?_) | (refine fork_intro (fun hb => ?_) (fun hb => ?_) <;> (try simp only [ew, hv] at hb)) | (simp only [go_sem, Nat.reduceLeDiff, Nat.reduceEqDiff, reduceIte, reduceCtorEq, Nat.reduceAdd, Nat.reduceMul, Nat.reduceSub, Nat.reduceLT, Int.reduceLT, Int.reduceLE, Int.reduceNeg, Int.reduceToNat, Nat.reduceBEq, Nat.reduceBNe, Int.reduceGE, Int.reduceGT, *, cMaxS, cSets, cPut, Tryz.results88, hv])))
  ·(repeat' (first | (refine gate_a fun _ => ?_) | (refine fork_intro (fun hb => ?_) (fun hb => ?_) <;> (try simp only [ew, hv] at hb)) | (simp only [go_sem, Nat.reduceLeDiff, Nat.reduceEqDiff, reduceIte, reduceCtorEq, Nat.reduceAdd, Nat.reduceMul, Nat.reduceSub, Nat.reduceLT, Int.reduceLT, Int.reduceLE, Int.reduceNeg, Int.reduceToNat, Nat.reduceBEq, Nat.reduceBNe, Int.reduceGE, Int.reduceGT, *, cMaxS, cSets, cPut, Tryz.results88, hv])))
   all_goals first | rfl | skip
 ·have e : selS maxT1 xs = dstI (xs.filter fun x => xs.all (maxT1 x)) := by unfold selS; rw [hv]; rfl
  have hat := fun i => @sets_at xs hv i
  have h100 : xs.length ≤ 100 := by
   have := hv
   simp only [setsOK, Bool.and_eq_true, decide_eq_true_eq] at this
   omega
  rw [e]
  clear e
  (repeat' (first | (refine gate_a fun _ => ?_) | (refine fork_intro (fun hb => ?_) (fun hb => ?_) <;> (try simp only [ew, hv] at hb)) | (simp only [go_sem, Nat.reduceLeDiff, Nat.reduceEqDiff, reduceIte, reduceCtorEq, Nat.reduceAdd, Nat.reduceMul, Nat.reduceSub, Nat.reduceLT, Int.reduceLT, Int.reduceLE, Int.reduceNeg, Int.reduceToNat, Nat.reduceBEq, Nat.reduceBNe, Int.reduceGE, Int.reduceGT, *, cMaxS, cSets, cPut, Tryz.results88, hv])))
  refine loop_intro { ι := Nat, rs := [(5, 7), (8, 59)], mods := [(4, fun i => .one (.d (.v (.int .i64 i)))), (3, fun i => .one (.own 1 (iL (dstI ((xs.take i).filter fun x => xs.all (maxT1 x)))) 1))], boxes := [], arrs := [], ok := fun i => i ≤ xs.length, mu := fun i => xs.length - i } rfl 0 (Nat.zero_le _) ?_ fun i hi => ?_
  ·(repeat' (first | (refine gate_a fun _ => ?_) | (refine fork_intro (fun hb => ?_) (fun hb => ?_) <;> (try simp only [ew, hv] at hb)) | (simp only [go_sem, Nat.reduceLeDiff, Nat.reduceEqDiff, reduceIte, reduceCtorEq, Nat.reduceAdd, Nat.reduceMul, Nat.reduceSub, Nat.reduceLT, Int.reduceLT, Int.reduceLE, Int.reduceNeg, Int.reduceToNat, Nat.reduceBEq, Nat.reduceBNe, Int.reduceGE, Int.reduceGT, *, cMaxS, cSets, cPut, Tryz.results88, hv])))
   all_goals first | rfl | skip
  ·dsimp only at i hi
   have l1 := @dstI_length ((xs.take i).filter fun x => xs.all (maxT1 x))
   have l2 := List.length_filter_le (fun x => xs.all (maxT1 x)) (xs.take i)
   rw [List.length_take] at l2
   have l3 : (dstI ((xs.take i).filter fun x => xs.all (maxT1 x))).length ≤ 100 := by omega
   have l4 : (dstI ((xs.take i).filter fun x => xs.all (maxT1 x))).length ≤ maxLen := Nat.le_trans l3 (by decide)
   clear l1 l2
   by_cases h5 : i < xs.length
   ·obtain ⟨x0, x31⟩ := hat i h5
    have hft := filter_take h5 (fun x => xs.all (maxT1 x))
    have hsn := fun x => @dstI_snoc ((xs.take i).filter fun x => xs.all (maxT1 x)) x
    generalize hZ : dstI ((xs.take i).filter fun x => xs.all (maxT1 x)) = Z at l3 l4 hsn
    generalize hX : xs.getD i 0 = x at x0 x31 hft
    (repeat' (first | (refine gate_a fun _ => ?_) | (refine fork_intro (fun hb => ?_) (fun hb => ?_) <;> (try simp only [ew, hv, hZ] at hb)) | (simp only [go_sem, Nat.reduceLeDiff, Nat.reduceEqDiff, reduceIte, reduceCtorEq, Nat.reduceAdd, Nat.reduceMul, Nat.reduceSub, Nat.reduceLT, Int.reduceLT, Int.reduceLE, Int.reduceNeg, Int.reduceToNat, Nat.reduceBEq, Nat.reduceBNe, Int.reduceGE, Int.reduceGT, *, cMaxS, cSets, cPut, Tryz.results88, hv, hZ])))
    generalize hF : xs.all (maxT1 x) = F at hft
    refine loop_intro { ι := Nat, rs := [(18, 52)], mods := [(6, fun k => .one (.d (.v (.int .i64 k)))), (5, fun k => .one (.d (.v (.bool ((xs.take k).all (maxT1 x))))))], boxes := [], arrs := [(3, fun _ => (1, iL Z, 1))], ok := fun k => k ≤ xs.length, mu := fun k => xs.length - k } rfl 0 (Nat.zero_le _) ?_ fun k hk => ?_
    ·(repeat' (first | (refine gate_a fun _ => ?_) | (refine fork_intro (fun hb => ?_) (fun hb => ?_) <;> (try simp only [ew, hZ] at hb)) | (simp only [go_sem, Nat.reduceLeDiff, Nat.reduceEqDiff, reduceIte, reduceCtorEq, Nat.reduceAdd, Nat.reduceMul, Nat.reduceSub, Nat.reduceLT, Int.reduceLT, Int.reduceLE, Int.reduceNeg, Int.reduceToNat, Nat.reduceBEq, Nat.reduceBNe, Int.reduceGE, Int.reduceGT, *, cMaxS, cSets, cPut, Tryz.results88, hZ])))
     all_goals first | rfl | skip
    ·dsimp only at k hk
     by_cases h6 : k < xs.length
     ·obtain ⟨y0, y31⟩ := hat k h6
      have ea := and_ins3 (l := x) (x := xs.getD k 0) ⟨x0, x31⟩ ⟨y0, y31⟩
      have et := all_take h6 0 (maxT1 x)
      have em : maxT1 x (xs.getD k 0) = (xs.getD k 0 == x || !insB x (xs.getD k 0)) := by
       unfold maxT1; rw [Bool.beq_comm]
      rw [em] at et
      clear em
      (repeat' (first | (refine gate_a fun _ => ?_) | (refine fork_intro (fun hb => ?_) (fun hb => ?_) <;> (try simp only [ew, hX, ea] at hb)) | (simp only [go_sem, Nat.reduceLeDiff, Nat.reduceEqDiff, reduceIte, reduceCtorEq, Nat.reduceAdd, Nat.reduceMul, Nat.reduceSub, Nat.reduceLT, Int.reduceLT, Int.reduceLE, Int.reduceNeg, Int.reduceToNat, Nat.reduceBEq, Nat.reduceBNe, Int.reduceGE, Int.reduceGT, *, cMaxS, cSets, cPut, Tryz.results88, hX, ea])))
      refine loop_next (k + 1) (by dsimp only; omega) (by dsimp only; omega) ?_
      (repeat' (first | (refine gate_a fun _ => ?_) | (refine fork_intro (fun hb => ?_) (fun hb => ?_) <;> (try simp only [ew, et, hX, ea] at hb)) | (simp only [go_sem, Nat.reduceLeDiff, Nat.reduceEqDiff, reduceIte, reduceCtorEq, Nat.reduceAdd, Nat.reduceMul, Nat.reduceSub, Nat.reduceLT, Int.reduceLT, Int.reduceLE, Int.reduceNeg, Int.reduceToNat, Nat.reduceBEq, Nat.reduceBNe, Int.reduceGE, Int.reduceGT, *, cMaxS, cSets, cPut, Tryz.results88, et, hX, ea])))
     ·have e6 : k = xs.length := by omega
      subst e6
      have et : (xs.take xs.length).all (maxT1 x) = F := by rw [List.take_length, hF]
      cases hq : F
      ·rw [hq] at et hft
       rw [if_neg (by decide), List.append_nil] at hft
       clear hsn
       (repeat' (first | (refine gate_a fun _ => ?_) | (refine fork_intro (fun hb => ?_) (fun hb => ?_) <;> (try simp only [ew, et, hX] at hb)) | (simp only [go_sem, Nat.reduceLeDiff, Nat.reduceEqDiff, reduceIte, reduceCtorEq, Nat.reduceAdd, Nat.reduceMul, Nat.reduceSub, Nat.reduceLT, Int.reduceLT, Int.reduceLE, Int.reduceNeg, Int.reduceToNat, Nat.reduceBEq, Nat.reduceBNe, Int.reduceGE, Int.reduceGT, *, cMaxS, cSets, cPut, Tryz.results88, et, hX])))
       refine loop_next (i + 1) (by dsimp only; omega) (by dsimp only; omega) ?_
       (repeat' (first | (refine gate_a fun _ => ?_) | (refine fork_intro (fun hb => ?_) (fun hb => ?_) <;> (try simp only [ew, hft, hZ] at hb)) | (simp only [go_sem, Nat.reduceLeDiff, Nat.reduceEqDiff, reduceIte, reduceCtorEq, Nat.reduceAdd, Nat.reduceMul, Nat.reduceSub, Nat.reduceLT, Int.reduceLT, Int.reduceLE, Int.reduceNeg, Int.reduceToNat, Nat.reduceBEq, Nat.reduceBNe, Int.reduceGE, Int.reduceGT, *, cMaxS, cSets, cPut, Tryz.results88, hft, hZ])))
      ·rw [hq] at et hft
       rw [if_pos rfl] at hft
       have hs := hsn x
       clear hsn
       (repeat' (first | (refine gate_a fun _ => ?_) | (refine fork_intro (fun hb => ?_) (fun hb => ?_) <;> (try simp only [ew, et, hX] at hb)) | (simp only [go_sem, Nat.reduceLeDiff, Nat.reduceEqDiff, reduceIte, reduceCtorEq, Nat.reduceAdd, Nat.reduceMul, Nat.reduceSub, Nat.reduceLT, Int.reduceLT, Int.reduceLE, Int.reduceNeg, Int.reduceToNat, Nat.reduceBEq, Nat.reduceBNe, Int.reduceGE, Int.reduceGT, *, cMaxS, cSets, cPut, Tryz.results88, et, hX])))
       refine loop_next (i + 1) (by dsimp only; omega) (by dsimp only; omega) ?_
       (repeat' (first | (refine gate_a fun _ => ?_) | (refine fork_intro (fun hb => ?_) (fun hb => ?_) <;> (try simp only [ew, hft, hs, hZ] at hb)) | (simp only [go_sem, Nat.reduceLeDiff, Nat.reduceEqDiff, reduceIte, reduceCtorEq, Nat.reduceAdd, Nat.reduceMul, Nat.reduceSub, Nat.reduceLT, Int.reduceLT, Int.reduceLE, Int.reduceNeg, Int.reduceToNat, Nat.reduceBEq, Nat.reduceBNe, Int.reduceGE, Int.reduceGT, *, cMaxS, cSets, cPut, Tryz.results88, hft, hs, hZ])))
   ·have e5 : i = xs.length := by omega
    subst e5
    have et : xs.take xs.length = xs := List.take_length
    (repeat' (first | (refine gate_a fun _ => ?_) | (refine fork_intro (fun hb => ?_) (fun hb => ?_) <;> (try simp only [ew, et, hv] at hb)) | (simp only [go_sem, Nat.reduceLeDiff, Nat.reduceEqDiff, reduceIte, reduceCtorEq, Nat.reduceAdd, Nat.reduceMul, Nat.reduceSub, Nat.reduceLT, Int.reduceLT, Int.reduceLE, Int.reduceNeg, Int.reduceToNat, Nat.reduceBEq, Nat.reduceBNe, Int.reduceGE, Int.reduceGT, *, cMaxS, cSets, cPut, Tryz.results88, et, hv])))
    all_goals first | rfl | skip
theorem minSI_ok : ContractOK E0 129 cMinS := by
 refine contract_of_wpc (E := E0) (T := mkT Tryz.prog [(130, cSets), (84, cDst), (122, cInside)] false (fun _ => false) true (fun _ => false)) (mkT_ok (E := E0) (.cons setsI_ok (.cons dst_ok (.cons inside_ok .nil)))) (fn := Tryz.f129) Tryz.func129 (by kernel_rfl) rfl mixedT (by kernel_rfl) rfl ?_
 intro args p rs ms hr
 unfold cMinS at hr
 dsimp only at hr
 split at hr
 rotate_left
 ·cases hr
 rename_i l
 simp only [Option.some.injEq, Prod.mk.injEq] at hr
 obtain ⟨rfl, rfl, rfl⟩ := hr
 refine ⟨rfl, rfl, Nat.le_of_ble_eq_true rfl, ?_⟩
 have hm : maxLen = 9223372036854775807 := rfl
 intro h1 bs
 obtain ⟨xs, rfl, hx⟩ := h1.ex
 clear h1
 rw [unI_iL]
 cases hv : setsOK xs
 ·have e : selS minT1 xs = [] := by unfold selS; rw [hv]; rfl
  rw [e]
  clear e
  (repeat' (first | (refine gate_a fun _ => ?_) | (refine fork_intro (fun hb => ?_) (fun hb => ?_) <;> (try simp only [ew, hv] at hb)) | (simp only [go_sem, Nat.reduceLeDiff, Nat.reduceEqDiff, reduceIte, reduceCtorEq, Nat.reduceAdd, Nat.reduceMul, Nat.reduceSub, Nat.reduceLT, Int.reduceLT, Int.reduceLE, Int.reduceNeg, Int.reduceToNat, Nat.reduceBEq, Nat.reduceBNe, Int.reduceGE, Int.reduceGT, *, cMinS, cSets, cDst, cInside, Tryz.results129, hv])))
  all_goals first | rfl | skip
 ·have e : selS minT1 xs = (dstI xs).filter fun x => xs.all (minT1 x) := by unfold selS; rw [hv, dst_filter]; rfl
  have h100 : xs.length ≤ 100 := by
   have := hv
   simp only [setsOK, Bool.and_eq_true, decide_eq_true_eq] at this
   omega
  have d100 : (dstI xs).length ≤ 100 := Nat.le_trans dstI_length h100
  have dmx : (dstI xs).length ≤ maxLen := Nat.le_trans d100 (by decide)
  rw [e]
  clear e
  (repeat' (first | (refine gate_a fun _ => ?_) | (refine fork_intro (fun hb => ?_) (fun hb => ?_) <;> (try simp only [ew, hv] at hb)) | (simp only [go_sem, Nat.reduceLeDiff, Nat.reduceEqDiff, reduceIte, reduceCtorEq, Nat.reduceAdd, Nat.reduceMul, Nat.reduceSub, Nat.reduceLT, Int.reduceLT, Int.reduceLE, Int.reduceNeg, Int.reduceToNat, Nat.reduceBEq, Nat.reduceBNe, Int.reduceGE, Int.reduceGT, *, cMinS, cSets, cDst, cInside, Tryz.results129, hv])))
  generalize hD : dstI xs = D at d100 dmx
  refine loop_intro { ι := Nat, rs := [(5, 7), (8, 9), (18, 46)], mods := [(17, fun i => .one (.d (.v (.int .i64 i)))), (3, fun i => .one (.own 1 (iL ((D.take i).filter fun x => xs.all (minT1 x))) 1))], boxes := [], arrs := [(15, fun _ => (1, iL D, 1))], ok := fun i => i ≤ D.length, mu := fun i => D.length - i } rfl 0 (Nat.zero_le _) ?_ fun i hi => ?_
  ·(repeat' (first | (refine gate_a fun _ => ?_) | (refine fork_intro (fun hb => ?_) (fun hb => ?_) <;> (try simp only [ew, hD] at hb)) | (simp only [go_sem, Nat.reduceLeDiff, Nat.reduceEqDiff, reduceIte, reduceCtorEq, Nat.reduceAdd, Nat.reduceMul, Nat.reduceSub, Nat.reduceLT, Int.reduceLT, Int.reduceLE, Int.reduceNeg, Int.reduceToNat, Nat.reduceBEq, Nat.reduceBNe, Int.reduceGE, Int.reduceGT, *, cMinS, cSets, cDst, cInside, Tryz.results129, hD])))
   all_goals first | rfl | skip
  ·dsimp only at i hi
   have l2 := List.length_filter_le (fun x => xs.all (minT1 x)) (D.take i)
   rw [List.length_take] at l2
   have l3 : ((D.take i).filter fun x => xs.all (minT1 x)).length ≤ 100 := by omega
   clear l2
   by_cases h5 : i < D.length
   ·have hft := filter_take h5 (fun x => xs.all (minT1 x))
    generalize hZ : (D.take i).filter (fun x => xs.all (minT1 x)) = Z at l3 hft
    generalize hX : D.getD i 0 = x at hft
    (repeat' (first | (refine gate_a fun _ => ?_) | (refine fork_intro (fun hb => ?_) (fun hb => ?_) <;> (try simp only [ew, hZ, hX] at hb)) | (simp only [go_sem, Nat.reduceLeDiff, Nat.reduceEqDiff, reduceIte, reduceCtorEq, Nat.reduceAdd, Nat.reduceMul, Nat.reduceSub, Nat.reduceLT, Int.reduceLT, Int.reduceLE, Int.reduceNeg, Int.reduceToNat, Nat.reduceBEq, Nat.reduceBNe, Int.reduceGE, Int.reduceGT, *, cMinS, cSets, cDst, cInside, Tryz.results129, hZ, hX])))
    generalize hF : xs.all (minT1 x) = F at hft
    refine loop_intro { ι := Nat, rs := [(8, 9), (24, 40)], mods := [(23, fun k => .one (.d (.v (.int .i64 k)))), (6, fun k => .one (.d (.v (.bool ((xs.take k).all (minT1 x))))))], boxes := [], arrs := [(3, fun _ => (1, iL Z, 1)), (15, fun _ => (1, iL D, 1))], ok := fun k => k ≤ xs.length, mu := fun k => xs.length - k } rfl 0 (Nat.zero_le _) ?_ fun k hk => ?_
    ·(repeat' (first | (refine gate_a fun _ => ?_) | (refine fork_intro (fun hb => ?_) (fun hb => ?_) <;> (try simp only [ew, hZ] at hb)) | (simp only [go_sem, Nat.reduceLeDiff, Nat.reduceEqDiff, reduceIte, reduceCtorEq, Nat.reduceAdd, Nat.reduceMul, Nat.reduceSub, Nat.reduceLT, Int.reduceLT, Int.reduceLE, Int.reduceNeg, Int.reduceToNat, Nat.reduceBEq, Nat.reduceBNe, Int.reduceGE, Int.reduceGT, *, cMinS, cSets, cDst, cInside, Tryz.results129, hZ])))
     all_goals first | rfl | skip
    ·dsimp only at k hk
     by_cases h6 : k < xs.length
     ·have et := all_take h6 0 (minT1 x)
      have em : minT1 x (xs.getD k 0) = (x == xs.getD k 0 || !(bitI .andNot .i64 (xs.getD k 0) x == 0)) := rfl
      rw [em] at et
      clear em
      (repeat' (first | (refine gate_a fun _ => ?_) | (refine fork_intro (fun hb => ?_) (fun hb => ?_) <;> (try simp only [ew] at hb)) | (simp only [go_sem, Nat.reduceLeDiff, Nat.reduceEqDiff, reduceIte, reduceCtorEq, Nat.reduceAdd, Nat.reduceMul, Nat.reduceSub, Nat.reduceLT, Int.reduceLT, Int.reduceLE, Int.reduceNeg, Int.reduceToNat, Nat.reduceBEq, Nat.reduceBNe, Int.reduceGE, Int.reduceGT, *, cMinS, cSets, cDst, cInside, Tryz.results129])))
      refine loop_next (k + 1) (by dsimp only; omega) (by dsimp only; omega) ?_
      (repeat' (first | (refine gate_a fun _ => ?_) | (refine fork_intro (fun hb => ?_) (fun hb => ?_) <;> (try simp only [ew, et] at hb)) | (simp only [go_sem, Nat.reduceLeDiff, Nat.reduceEqDiff, reduceIte, reduceCtorEq, Nat.reduceAdd, Nat.reduceMul, Nat.reduceSub, Nat.reduceLT, Int.reduceLT, Int.reduceLE, Int.reduceNeg, Int.reduceToNat, Nat.reduceBEq, Nat.reduceBNe, Int.reduceGE, Int.reduceGT, *, cMinS, cSets, cDst, cInside, Tryz.results129, et])))
     ·have e6 : k = xs.length := by omega
      subst e6
      have et : (xs.take xs.length).all (minT1 x) = F := by rw [List.take_length, hF]
      cases hq : F
      ·rw [hq] at et hft
       rw [if_neg (by decide), List.append_nil] at hft
       (repeat' (first | (refine gate_a fun _ => ?_) | (refine fork_intro (fun hb => ?_) (fun hb => ?_) <;> (try simp only [ew, et] at hb)) | (simp only [go_sem, Nat.reduceLeDiff, Nat.reduceEqDiff, reduceIte, reduceCtorEq, Nat.reduceAdd, Nat.reduceMul, Nat.reduceSub, Nat.reduceLT, Int.reduceLT, Int.reduceLE, Int.reduceNeg, Int.reduceToNat, Nat.reduceBEq, Nat.reduceBNe, Int.reduceGE, Int.reduceGT, *, cMinS, cSets, cDst, cInside, Tryz.results129, et])))
       refine loop_next (i + 1) (by dsimp only; omega) (by dsimp only; omega) ?_
       (repeat' (first | (refine gate_a fun _ => ?_) | (refine fork_intro (fun hb => ?_) (fun hb => ?_) <;> (try simp only [ew, hft, hZ] at hb)) | (simp only [go_sem, Nat.reduceLeDiff, Nat.reduceEqDiff, reduceIte, reduceCtorEq, Nat.reduceAdd, Nat.reduceMul, Nat.reduceSub, Nat.reduceLT, Int.reduceLT, Int.reduceLE, Int.reduceNeg, Int.reduceToNat, Nat.reduceBEq, Nat.reduceBNe, Int.reduceGE, Int.reduceGT, *, cMinS, cSets, cDst, cInside, Tryz.results129, hft, hZ])))
      ·rw [hq] at et hft
       rw [if_pos rfl] at hft
       (repeat' (first | (refine gate_a fun _ => ?_) | (refine fork_intro (fun hb => ?_) (fun hb => ?_) <;> (try simp only [ew, et, iL_snoc] at hb)) | (simp only [go_sem, Nat.reduceLeDiff, Nat.reduceEqDiff, reduceIte, reduceCtorEq, Nat.reduceAdd, Nat.reduceMul, Nat.reduceSub, Nat.reduceLT, Int.reduceLT, Int.reduceLE, Int.reduceNeg, Int.reduceToNat, Nat.reduceBEq, Nat.reduceBNe, Int.reduceGE, Int.reduceGT, *, cMinS, cSets, cDst, cInside, Tryz.results129, et, iL_snoc])))
       refine loop_next (i + 1) (by dsimp only; omega) (by dsimp only; omega) ?_
       (repeat' (first | (refine gate_a fun _ => ?_) | (refine fork_intro (fun hb => ?_) (fun hb => ?_) <;> (try simp only [ew, hft, hZ, iL_snoc] at hb)) | (simp only [go_sem, Nat.reduceLeDiff, Nat.reduceEqDiff, reduceIte, reduceCtorEq, Nat.reduceAdd, Nat.reduceMul, Nat.reduceSub, Nat.reduceLT, Int.reduceLT, Int.reduceLE, Int.reduceNeg, Int.reduceToNat, Nat.reduceBEq, Nat.reduceBNe, Int.reduceGE, Int.reduceGT, *, cMinS, cSets, cDst, cInside, Tryz.results129, hft, hZ, iL_snoc])))
   ·have e5 : i = D.length := by omega
    subst e5
    have et : D.take D.length = D := List.take_length
    (repeat' (first | (refine gate_a fun _ => ?_) | (refine fork_intro (fun hb => ?_) (fun hb => ?_) <;> (try simp only [ew, et] at hb)) | (simp only [go_sem, Nat.reduceLeDiff, Nat.reduceEqDiff, reduceIte, reduceCtorEq, Nat.reduceAdd, Nat.reduceMul, Nat.reduceSub, Nat.reduceLT, Int.reduceLT, Int.reduceLE, Int.reduceNeg, Int.reduceToNat, Nat.reduceBEq, Nat.reduceBNe, Int.reduceGE, Int.reduceGT, *, cMinS, cSets, cDst, cInside, Tryz.results129, et])))
    all_goals first | (rw [hD]; done) | rfl | skip
theorem maxSI_ok : ContractOK E0 81 cMaxS := by
 refine contract_of_wpc (E := E0) (T := mkT Tryz.prog [(130, cSets), (84, cDst), (122, cInside)] false (fun _ => false) true (fun _ => false)) (mkT_ok (E := E0) (.cons setsI_ok (.cons dst_ok (.cons inside_ok .nil)))) (fn := Tryz.f81) Tryz.func81 (by kernel_rfl) rfl mixedT (by kernel_rfl) rfl ?_
 intro args p rs ms hr
 unfold cMaxS at hr
 dsimp only at hr
 split at hr
 rotate_left
 ·cases hr
 rename_i l
 simp only [Option.some.injEq, Prod.mk.injEq] at hr
 obtain ⟨rfl, rfl, rfl⟩ := hr
 refine ⟨rfl, rfl, Nat.le_of_ble_eq_true rfl, ?_⟩
 have hm : maxLen = 9223372036854775807 := rfl
 intro h1 bs
 obtain ⟨xs, rfl, hx⟩ := h1.ex
 clear h1
 rw [unI_iL]
 cases hv : setsOK xs
 ·have e : selS maxT1 xs = [] := by unfold selS; rw [hv]; rfl
  rw [e]
  clear e
  (repeat' (first | (refine gate_a fun _ => ?_) | (refine fork_intro (fun hb => ?_) (fun hb => ?_) <;> (try simp only [ew, hv] at hb)) | (simp only [go_sem, Nat.reduceLeDiff, Nat.reduceEqDiff, reduceIte, reduceCtorEq, Nat.reduceAdd, Nat.reduceMul, Nat.reduceSub, Nat.reduceLT, Int.reduceLT, Int.reduceLE, Int.reduceNeg, Int.reduceToNat, Nat.reduceBEq, Nat.reduceBNe, Int.reduceGE, Int.reduceGT, *, cMaxS, cSets, cDst, cInside, Tryz.results81, hv])))
  all_goals first | rfl | skip
 ·have e : selS maxT1 xs = (dstI xs).filter fun x => xs.all (maxT1 x) := by unfold selS; rw [hv, dst_filter]; rfl
  have h100 : xs.length ≤ 100 := by
   have := hv
   simp only [setsOK, Bool.and_eq_true, decide_eq_true_eq] at this
   omega
  have d100 : (dstI xs).length ≤ 100 := Nat.le_trans dstI_length h100
  have dmx : (dstI xs).length ≤ maxLen := Nat.le_trans d100 (by decide)
  rw [e]
  clear e
  (repeat' (first | (refine gate_a fun _ => ?_) | (refine fork_intro (fun hb => ?_) (fun hb => ?_) <;> (try simp only [ew, hv] at hb)) | (simp only [go_sem, Nat.reduceLeDiff, Nat.reduceEqDiff, reduceIte, reduceCtorEq, Nat.reduceAdd, Nat.reduceMul, Nat.reduceSub, Nat.reduceLT, Int.reduceLT, Int.reduceLE, Int.reduceNeg, Int.reduceToNat, Nat.reduceBEq, Nat.reduceBNe, Int.reduceGE, Int.reduceGT, *, cMaxS, cSets, cDst, cInside, Tryz.results81, hv])))
  generalize hD : dstI xs = D at d100 dmx
  refine loop_intro { ι := Nat, rs := [(5, 7), (8, 9), (18, 46)], mods := [(17, fun i => .one (.d (.v (.int .i64 i)))), (3, fun i => .one (.own 1 (iL ((D.take i).filter fun x => xs.all (maxT1 x))) 1))], boxes := [], arrs := [(15, fun _ => (1, iL D, 1))], ok := fun i => i ≤ D.length, mu := fun i => D.length - i } rfl 0 (Nat.zero_le _) ?_ fun i hi => ?_
  ·(repeat' (first | (refine gate_a fun _ => ?_) | (refine fork_intro (fun hb => ?_) (fun hb => ?_) <;> (try simp only [ew, hD] at hb)) | (simp only [go_sem, Nat.reduceLeDiff, Nat.reduceEqDiff, reduceIte, reduceCtorEq, Nat.reduceAdd, Nat.reduceMul, Nat.reduceSub, Nat.reduceLT, Int.reduceLT, Int.reduceLE, Int.reduceNeg, Int.reduceToNat, Nat.reduceBEq, Nat.reduceBNe, Int.reduceGE, Int.reduceGT, *, cMaxS, cSets, cDst, cInside, Tryz.results81, hD])))
   all_goals first | rfl | skip
  ·dsimp only at i hi
   have l2 := List.length_filter_le (fun x => xs.all (maxT1 x)) (D.take i)
   rw [List.length_take] at l2
   have l3 : ((D.take i).filter fun x => xs.all (maxT1 x)).length ≤ 100 := by omega
   clear l2
   by_cases h5 : i < D.length
   ·have hft := filter_take h5 (fun x => xs.all (maxT1 x))
    generalize hZ : (D.take i).filter (fun x => xs.all (maxT1 x)) = Z at l3 hft
    generalize hX : D.getD i 0 = x at hft
    (repeat' (first | (refine gate_a fun _ => ?_) | (refine fork_intro (fun hb => ?_) (fun hb => ?_) <;> (try simp only [ew, hZ, hX] at hb)) | (simp only [go_sem, Nat.reduceLeDiff, Nat.reduceEqDiff, reduceIte, reduceCtorEq, Nat.reduceAdd, Nat.reduceMul, Nat.reduceSub, Nat.reduceLT, Int.reduceLT, Int.reduceLE, Int.reduceNeg, Int.reduceToNat, Nat.reduceBEq, Nat.reduceBNe, Int.reduceGE, Int.reduceGT, *, cMaxS, cSets, cDst, cInside, Tryz.results81, hZ, hX])))
    generalize hF : xs.all (maxT1 x) = F at hft
    refine loop_intro { ι := Nat, rs := [(8, 9), (24, 40)], mods := [(23, fun k => .one (.d (.v (.int .i64 k)))), (6, fun k => .one (.d (.v (.bool ((xs.take k).all (maxT1 x))))))], boxes := [], arrs := [(3, fun _ => (1, iL Z, 1)), (15, fun _ => (1, iL D, 1))], ok := fun k => k ≤ xs.length, mu := fun k => xs.length - k } rfl 0 (Nat.zero_le _) ?_ fun k hk => ?_
    ·(repeat' (first | (refine gate_a fun _ => ?_) | (refine fork_intro (fun hb => ?_) (fun hb => ?_) <;> (try simp only [ew, hZ] at hb)) | (simp only [go_sem, Nat.reduceLeDiff, Nat.reduceEqDiff, reduceIte, reduceCtorEq, Nat.reduceAdd, Nat.reduceMul, Nat.reduceSub, Nat.reduceLT, Int.reduceLT, Int.reduceLE, Int.reduceNeg, Int.reduceToNat, Nat.reduceBEq, Nat.reduceBNe, Int.reduceGE, Int.reduceGT, *, cMaxS, cSets, cDst, cInside, Tryz.results81, hZ])))
     all_goals first | rfl | skip
    ·dsimp only at k hk
     by_cases h6 : k < xs.length
     ·have et := all_take h6 0 (maxT1 x)
      have em : maxT1 x (xs.getD k 0) = (x == xs.getD k 0 || !(bitI .andNot .i64 x (xs.getD k 0) == 0)) := rfl
      rw [em] at et
      clear em
      (repeat' (first | (refine gate_a fun _ => ?_) | (refine fork_intro (fun hb => ?_) (fun hb => ?_) <;> (try simp only [ew] at hb)) | (simp only [go_sem, Nat.reduceLeDiff, Nat.reduceEqDiff, reduceIte, reduceCtorEq, Nat.reduceAdd, Nat.reduceMul, Nat.reduceSub, Nat.reduceLT, Int.reduceLT, Int.reduceLE, Int.reduceNeg, Int.reduceToNat, Nat.reduceBEq, Nat.reduceBNe, Int.reduceGE, Int.reduceGT, *, cMaxS, cSets, cDst, cInside, Tryz.results81])))
      refine loop_next (k + 1) (by dsimp only; omega) (by dsimp only; omega) ?_
      (repeat' (first | (refine gate_a fun _ => ?_) | (refine fork_intro (fun hb => ?_) (fun hb => ?_) <;> (try simp only [ew, et] at hb)) | (simp only [go_sem, Nat.reduceLeDiff, Nat.reduceEqDiff, reduceIte, reduceCtorEq, Nat.reduceAdd, Nat.reduceMul, Nat.reduceSub, Nat.reduceLT, Int.reduceLT, Int.reduceLE, Int.reduceNeg, Int.reduceToNat, Nat.reduceBEq, Nat.reduceBNe, Int.reduceGE, Int.reduceGT, *, cMaxS, cSets, cDst, cInside, Tryz.results81, et])))
     ·have e6 : k = xs.length := by omega
      subst e6
      have et : (xs.take xs.length).all (maxT1 x) = F := by rw [List.take_length, hF]
      cases hq : F
      ·rw [hq] at et hft
       rw [if_neg (by decide), List.append_nil] at hft
       (repeat' (first | (refine gate_a fun _ => ?_) | (refine fork_intro (fun hb => ?_) (fun hb => ?_) <;> (try simp only [ew, et] at hb)) | (simp only [go_sem, Nat.reduceLeDiff, Nat.reduceEqDiff, reduceIte, reduceCtorEq, Nat.reduceAdd, Nat.reduceMul, Nat.reduceSub, Nat.reduceLT, Int.reduceLT, Int.reduceLE, Int.reduceNeg, Int.reduceToNat, Nat.reduceBEq, Nat.reduceBNe, Int.reduceGE, Int.reduceGT, *, cMaxS, cSets, cDst, cInside, Tryz.results81, et])))
       refine loop_next (i + 1) (by dsimp only; omega) (by dsimp only; omega) ?_
       (repeat' (first | (refine gate_a fun _ => ?_) | (refine fork_intro (fun hb => ?_) (fun hb => ?_) <;> (try simp only [ew, hft, hZ] at hb)) | (simp only [go_sem, Nat.reduceLeDiff, Nat.reduceEqDiff, reduceIte, reduceCtorEq, Nat.reduceAdd, Nat.reduceMul, Nat.reduceSub, Nat.reduceLT, Int.reduceLT, Int.reduceLE, Int.reduceNeg, Int.reduceToNat, Nat.reduceBEq, Nat.reduceBNe, Int.reduceGE, Int.reduceGT, *, cMaxS, cSets, cDst, cInside, Tryz.results81, hft, hZ])))
      ·rw [hq] at et hft
       rw [if_pos rfl] at hft
       (repeat' (first | (refine gate_a fun _ => ?_) | (refine fork_intro (fun hb => ?_) (fun hb => ?_) <;> (try simp only [ew, et, iL_snoc] at hb)) | (simp only [go_sem, Nat.reduceLeDiff, Nat.reduceEqDiff, reduceIte, reduceCtorEq, Nat.reduceAdd, Nat.reduceMul, Nat.reduceSub, Nat.reduceLT, Int.reduceLT, Int.reduceLE, Int.reduceNeg, Int.reduceToNat, Nat.reduceBEq, Nat.reduceBNe, Int.reduceGE, Int.reduceGT, *, cMaxS, cSets, cDst, cInside, Tryz.results81, et, iL_snoc])))
       refine loop_next (i + 1) (by dsimp only; omega) (by dsimp only; omega) ?_
       (repeat' (first | (refine gate_a fun _ => ?_) | (refine fork_intro (fun hb => ?_) (fun hb => ?_) <;> (try simp only [ew, hft, hZ, iL_snoc] at hb)) | (simp only [go_sem, Nat.reduceLeDiff, Nat.reduceEqDiff, reduceIte, reduceCtorEq, Nat.reduceAdd, Nat.reduceMul, Nat.reduceSub, Nat.reduceLT, Int.reduceLT, Int.reduceLE, Int.reduceNeg, Int.reduceToNat, Nat.reduceBEq, Nat.reduceBNe, Int.reduceGE, Int.reduceGT, *, cMaxS, cSets, cDst, cInside, Tryz.results81, hft, hZ, iL_snoc])))
   ·have e5 : i = D.length := by omega
    subst e5
    have et : D.take D.length = D := List.take_length
    (repeat' (first | (refine gate_a fun _ => ?_) | (refine fork_intro (fun hb => ?_) (fun hb => ?_) <;> (try simp only [ew, et] at hb)) | (simp only [go_sem, Nat.reduceLeDiff, Nat.reduceEqDiff, reduceIte, reduceCtorEq, Nat.reduceAdd, Nat.reduceMul, Nat.reduceSub, Nat.reduceLT, Int.reduceLT, Int.reduceLE, Int.reduceNeg, Int.reduceToNat, Nat.reduceBEq, Nat.reduceBNe, Int.reduceGE, Int.reduceGT, *, cMaxS, cSets, cDst, cInside, Tryz.results81, et])))
    all_goals first | (rw [hD]; done) | rfl | skip
end Go.Own
namespace Go.Own
open Go Go.Proofs
attribute [local go_sem] unD_dL dL_length dL_get dL_set dL_inj wfD_dL scal2 beq2 pair_eta
def pqB (ds : List (Int × Int)) (set x : Int) : Bool := insB x set && insB set (clo ds x)
def prmL (M : Nat) (ds : List (Int × Int)) (set : Int) : List Int := (rng M).filter (pqB ds set)
def orL (l : List Int) : Int := l.foldl (fun a x => bitI .or .i64 a x) 0
def primeL (n : Int) (ds : List (Int × Int)) (set : Int) : Int := orL (selS minT1 (prmL (2 ^ n.toNat) ds set))
theorem orr_key : ∀ x y : Fin 32, 0 ≤ bitI .or .i64 ((x.val : Nat) : Int) ((y.val : Nat) : Int) ∧ bitI .or .i64 ((x.val : Nat) : Int) ((y.val : Nat) : Int) ≤ 31 := by decide +kernel
theorem or_R {x y : Int} (hx : R5 x) (hy : R5 y) : R5 (bitI .or .i64 x y) := by
 obtain ⟨x, rfl⟩ := hx.fin; obtain ⟨y, rfl⟩ := hy.fin
 exact orr_key x y
theorem foldl_or_R : ∀ {l : List Int} {a : Int}, R5 a → (∀ x ∈ l, R5 x) → R5 (l.foldl (fun a x => bitI .or .i64 a x) a)
 | [], a, h, _ => h
 | x :: l, a, h, hl => foldl_or_R (l := l) (or_R h (hl x (by simp))) fun y hy => hl y (by simp [hy])
theorem orL_R {l : List Int} (hl : ∀ x ∈ l, R5 x) : R5 (orL l) := foldl_or_R ⟨by decide, by decide⟩ hl
theorem orL_snoc {l : List Int} {x : Int} : orL (l ++ [x]) = bitI .or .i64 (orL l) x := by unfold orL; rw [List.foldl_append]; rfl
theorem rng_filter {p : Int → Bool} : ∀ {M N : Nat}, N ≤ M → (∀ x : Nat, N ≤ x → x < M → p x = false) → (rng M).filter p = (rng N).filter p
  | 0, N, h, _ => by obtain rfl : N = 0 := by omega
                     rfl
  | M + 1, N, h, hp => by
    by_cases e : N = M + 1
    · rw [e]
    · rw [rng_succ, List.filter_append, List.filter_cons, hp M (by omega) (by omega), if_neg (by decide), List.filter_nil, List.append_nil]
      exact rng_filter (by omega) fun x h1 h2 => hp x h1 (by omega)
theorem attr_pow {n : Nat} {set : Int} (h : isAttr n set = true) : set < ((2 ^ n : Nat) : Int) := by
 simp only [isAttr, Bool.and_eq_true, inB_iff, all2, Int.toNat_natCast, Int.one_mul] at h
 have : ((2 ^ n : Nat) : Int) = (2 : Int) ^ n := by simp
 omega
theorem prmL_set {n : Nat} {ds : List (Int × Int)} {set : Int} (h : isAttr n set = true) : prmL (2 ^ n) ds set = (rng (set.toNat + 1)).filter (pqB ds set) := by
 obtain ⟨_, n5, s0, s31⟩ := isAttr_le h
 have h1 := attr_pow h
 have hM2 : 2 ^ n ≤ 32 := Nat.le_trans (Nat.pow_le_pow_right (by omega) (show n ≤ 5 by omega)) (by decide)
 refine rng_filter (by omega) fun x hx1 hx2 => ?_
 rw [← Bool.not_eq_true]
 intro hq
 simp only [pqB, Bool.and_eq_true] at hq
 have := ins_le (x := (x : Int)) (s := set) ⟨by omega, by omega⟩ ⟨s0, s31⟩ hq.1
 omega
theorem prmL_len {M : Nat} {ds : List (Int × Int)} {set : Int} : (prmL M ds set).length ≤ M := by
 have := List.length_filter_le (pqB ds set) (rng M)
 rw [rng_length] at this
 exact this
theorem rng_filter_succ {p : Int → Bool} {x : Nat} : (rng (x + 1)).filter p = (rng x).filter p ++ (if p x then [(x : Int)] else []) := by
 rw [rng_succ, List.filter_append, List.filter_cons, List.filter_nil]
theorem rng_filter_len {p : Int → Bool} {x : Nat} : ((rng x).filter p).length ≤ x := by
 have := List.length_filter_le p (rng x)
 rw [rng_length] at this
 exact this
theorem sel_at {t : Int → Int → Bool} {l : List Int} {i : Nat} (h : i < (selS t l).length) : 0 ≤ (selS t l).getD i 0 ∧ (selS t l).getD i 0 ≤ 31 := by
 have := isAttr_le (selS_mem (getD_mem h 0)).2
 exact this.2.2
theorem primeL_R {n : Int} {ds : List (Int × Int)} {set : Int} : R5 (primeL n ds set) := orL_R fun x hx => by
 have := isAttr_le (selS_mem hx).2
 exact this.2.2
def cPrime : Contract := ⟨[], false, fun
 | [.one (.v (.int .i64 n)), .one (.sl 2 l), .one (.v (.int .i64 set))] => some (WfD l ∧ depsOK n (unD l) = true ∧ isAttr n set = true, [⟨false, [.d (.v (.int .i64 (primeL n (unD l) set)))]⟩], [])
 | _ => none⟩
theorem primeI_ok : ContractOK E0 92 cPrime := by
 refine contract_of_wpc (E := E0) (T := mkT Tryz.prog [(122, cInside), (83, cClo), (129, cMinS)] false (fun _ => false) true (fun _ => false)) (mkT_ok (E := E0) (.cons inside_ok (.cons cloImpl_ok (.cons minSI_ok .nil)))) (fn := Tryz.f92) Tryz.func92 (by kernel_rfl) rfl mixedT (by kernel_rfl) rfl ?_
 intro args p rs ms hr
 unfold cPrime at hr
 dsimp only at hr
 split at hr
 rotate_left
 ·cases hr
 rename_i n l set
 simp only [Option.some.injEq, Prod.mk.injEq] at hr
 obtain ⟨rfl, rfl, rfl⟩ := hr
 refine ⟨rfl, rfl, Nat.le_of_ble_eq_true rfl, ?_⟩
 have hm : maxLen = 9223372036854775807 := rfl
 rintro ⟨h1, hv1, hv2⟩ bs
 obtain ⟨ds, rfl, hx⟩ := h1.ex
 clear h1
 rw [unD_dL] at hv1 ⊢
 have hd := depsOK_R hv1
 obtain ⟨n0, n5, s0, s31⟩ := isAttr_le hv2
 obtain ⟨c, rfl⟩ := Int.eq_ofNat_of_zero_le n0
 unfold primeL
 rw [Int.toNat_natCast]
 have hM2 : 2 ^ c ≤ 32 := Nat.le_trans (Nat.pow_le_pow_right (by omega) (show c ≤ 5 by omega)) (by decide)
 have hM : 1 * (2 : Int) ^ c = ((2 ^ c : Nat) : Int) := by simp
 generalize 2 ^ c = M at hM2 hM ⊢
 clear hv1 hv2
 (repeat' (first | (refine gate_a fun _ => ?_) | (refine fork_intro (fun hb => ?_) (fun hb => ?_) <;> (try simp only [ew, bits64] at hb)) | (simp only [go_sem, Nat.reduceLeDiff, Nat.reduceEqDiff, reduceIte, reduceCtorEq, Nat.reduceAdd, Nat.reduceMul, Nat.reduceSub, Nat.reduceLT, Int.reduceLT, Int.reduceLE, Int.reduceNeg, Int.reduceToNat, Nat.reduceBEq, Nat.reduceBNe, Int.reduceGE, Int.reduceGT, *, cPrime, cInside, cClo, cMinS, Tryz.results92, bits64])))
 refine loop_intro { ι := Nat, rs := [(13, 33)], mods := [(8, fun x => .one (.d (.v (.int .i64 x)))), (7, fun x => .one (.own 1 (iL ((rng x).filter (pqB ds set))) 1))], boxes := [], arrs := [], ok := fun x => x ≤ M, mu := fun x => M - x } rfl 0 (Nat.zero_le _) ?_ fun x hx => ?_
 ·(repeat' (first | (refine gate_a fun _ => ?_) | (refine fork_intro (fun hb => ?_) (fun hb => ?_) <;> (try simp only [ew] at hb)) | (simp only [go_sem, Nat.reduceLeDiff, Nat.reduceEqDiff, reduceIte, reduceCtorEq, Nat.reduceAdd, Nat.reduceMul, Nat.reduceSub, Nat.reduceLT, Int.reduceLT, Int.reduceLE, Int.reduceNeg, Int.reduceToNat, Nat.reduceBEq, Nat.reduceBNe, Int.reduceGE, Int.reduceGT, *, cPrime, cInside, cClo, cMinS, Tryz.results92])))
  all_goals first | rfl | skip
 ·dsimp only at x hx
  have l1 := @rng_filter_len (pqB ds set) x
  by_cases h5 : x < M
  ·have l2 : ((rng x).filter (pqB ds set)).length ≤ 32 := by omega
   have eS := @rng_filter_succ (pqB ds set) x
   generalize hZ : (rng x).filter (pqB ds set) = Z at l1 l2 eS
   have eq : pqB ds set x = ((bitI .andNot .i64 (x : Int) set == 0) && (bitI .andNot .i64 set (clo ds x) == 0)) := rfl
   cases hq : pqB ds set x
   ·rw [hq] at eq eS
    rw [if_neg (by decide), List.append_nil] at eS
    replace eq := eq.symm
    clear hq
    (repeat' (first | (refine gate_a fun _ => ?_) | (refine fork_intro (fun hb => ?_) (fun hb => ?_) <;> (try simp only [ew, hM, bits64, hZ, eq] at hb)) | (simp only [go_sem, Nat.reduceLeDiff, Nat.reduceEqDiff, reduceIte, reduceCtorEq, Nat.reduceAdd, Nat.reduceMul, Nat.reduceSub, Nat.reduceLT, Int.reduceLT, Int.reduceLE, Int.reduceNeg, Int.reduceToNat, Nat.reduceBEq, Nat.reduceBNe, Int.reduceGE, Int.reduceGT, *, cPrime, cInside, cClo, cMinS, Tryz.results92, hM, bits64, hZ, eq])))
    refine loop_next (x + 1) (by dsimp only; omega) (by dsimp only; omega) ?_
    clear eq
    (repeat' (first | (refine gate_a fun _ => ?_) | (refine fork_intro (fun hb => ?_) (fun hb => ?_) <;> (try simp only [ew, eS, hZ] at hb)) | (simp only [go_sem, Nat.reduceLeDiff, Nat.reduceEqDiff, reduceIte, reduceCtorEq, Nat.reduceAdd, Nat.reduceMul, Nat.reduceSub, Nat.reduceLT, Int.reduceLT, Int.reduceLE, Int.reduceNeg, Int.reduceToNat, Nat.reduceBEq, Nat.reduceBNe, Int.reduceGE, Int.reduceGT, *, cPrime, cInside, cClo, cMinS, Tryz.results92, eS, hZ])))
   ·rw [hq] at eq eS
    rw [if_pos rfl] at eS
    replace eq := eq.symm
    clear hq
    (repeat' (first | (refine gate_a fun _ => ?_) | (refine fork_intro (fun hb => ?_) (fun hb => ?_) <;> (try simp only [ew, hM, bits64, hZ, eq, iL_snoc] at hb)) | (simp only [go_sem, Nat.reduceLeDiff, Nat.reduceEqDiff, reduceIte, reduceCtorEq, Nat.reduceAdd, Nat.reduceMul, Nat.reduceSub, Nat.reduceLT, Int.reduceLT, Int.reduceLE, Int.reduceNeg, Int.reduceToNat, Nat.reduceBEq, Nat.reduceBNe, Int.reduceGE, Int.reduceGT, *, cPrime, cInside, cClo, cMinS, Tryz.results92, hM, bits64, hZ, eq, iL_snoc])))
    refine loop_next (x + 1) (by dsimp only; omega) (by dsimp only; omega) ?_
    clear eq
    (repeat' (first | (refine gate_a fun _ => ?_) | (refine fork_intro (fun hb => ?_) (fun hb => ?_) <;> (try simp only [ew, eS, hZ, iL_snoc] at hb)) | (simp only [go_sem, Nat.reduceLeDiff, Nat.reduceEqDiff, reduceIte, reduceCtorEq, Nat.reduceAdd, Nat.reduceMul, Nat.reduceSub, Nat.reduceLT, Int.reduceLT, Int.reduceLE, Int.reduceNeg, Int.reduceToNat, Nat.reduceBEq, Nat.reduceBNe, Int.reduceGE, Int.reduceGT, *, cPrime, cInside, cClo, cMinS, Tryz.results92, eS, hZ, iL_snoc])))
  ·have e5 : x = M := by omega
   subst e5
   have l2 : ((rng x).filter (pqB ds set)).length ≤ maxLen := Nat.le_trans l1 (Nat.le_trans hM2 (by decide))
   have e3 : (rng x).filter (pqB ds set) = prmL x ds set := rfl
   rw [e3] at l2
   clear hd
   (repeat' (first | (refine gate_a fun _ => ?_) | (refine fork_intro (fun hb => ?_) (fun hb => ?_) <;> (try simp only [ew, hM, bits64, e3] at hb)) | (simp only [go_sem, Nat.reduceLeDiff, Nat.reduceEqDiff, reduceIte, reduceCtorEq, Nat.reduceAdd, Nat.reduceMul, Nat.reduceSub, Nat.reduceLT, Int.reduceLT, Int.reduceLE, Int.reduceNeg, Int.reduceToNat, Nat.reduceBEq, Nat.reduceBNe, Int.reduceGE, Int.reduceGT, *, cPrime, cInside, cClo, cMinS, Tryz.results92, hM, bits64, e3])))
   have p1 := @selS_length minT1 (prmL x ds set)
   have p2 := fun i => @sel_at minT1 (prmL x ds set) i
   generalize hS : selS minT1 (prmL x ds set) = S at p1 p2
   refine loop_intro { ι := Nat, rs := [(11, 12), (37, 44)], mods := [(36, fun i => .one (.d (.v (.int .i64 i)))), (9, fun i => .one (.d (.v (.int .i64 (orL (S.take i))))))], boxes := [], arrs := [(34, fun _ => (1, iL S, 1))], ok := fun i => i ≤ S.length, mu := fun i => S.length - i } rfl 0 (Nat.zero_le _) ?_ fun i hi => ?_
   ·clear p2
    (repeat' (first | (refine gate_a fun _ => ?_) | (refine fork_intro (fun hb => ?_) (fun hb => ?_) <;> (try simp only [ew, hS] at hb)) | (simp only [go_sem, Nat.reduceLeDiff, Nat.reduceEqDiff, reduceIte, reduceCtorEq, Nat.reduceAdd, Nat.reduceMul, Nat.reduceSub, Nat.reduceLT, Int.reduceLT, Int.reduceLE, Int.reduceNeg, Int.reduceToNat, Nat.reduceBEq, Nat.reduceBNe, Int.reduceGE, Int.reduceGT, *, cPrime, cInside, cClo, cMinS, Tryz.results92, hS])))
    all_goals first | rfl | skip
   ·dsimp only at i hi
    by_cases h6 : i < S.length
    ·have hp := p2 i h6
     have hs := @orL_snoc (S.take i) (S.getD i 0)
     rw [← take_succ_getD h6 0] at hs
     clear p2
     (repeat' (first | (refine gate_a fun _ => ?_) | (refine fork_intro (fun hb => ?_) (fun hb => ?_) <;> (try simp only [ew] at hb)) | (simp only [go_sem, Nat.reduceLeDiff, Nat.reduceEqDiff, reduceIte, reduceCtorEq, Nat.reduceAdd, Nat.reduceMul, Nat.reduceSub, Nat.reduceLT, Int.reduceLT, Int.reduceLE, Int.reduceNeg, Int.reduceToNat, Nat.reduceBEq, Nat.reduceBNe, Int.reduceGE, Int.reduceGT, *, cPrime, cInside, cClo, cMinS, Tryz.results92])))
     refine loop_next (i + 1) (by dsimp only; omega) (by dsimp only; omega) ?_
     (repeat' (first | (refine gate_a fun _ => ?_) | (refine fork_intro (fun hb => ?_) (fun hb => ?_) <;> (try simp only [ew, hs] at hb)) | (simp only [go_sem, Nat.reduceLeDiff, Nat.reduceEqDiff, reduceIte, reduceCtorEq, Nat.reduceAdd, Nat.reduceMul, Nat.reduceSub, Nat.reduceLT, Int.reduceLT, Int.reduceLE, Int.reduceNeg, Int.reduceToNat, Nat.reduceBEq, Nat.reduceBNe, Int.reduceGE, Int.reduceGT, *, cPrime, cInside, cClo, cMinS, Tryz.results92, hs])))
    ·have e6 : i = S.length := by omega
     subst e6
     have e7 : S.take S.length = S := List.take_length
     clear p2
     (repeat' (first | (refine gate_a fun _ => ?_) | (refine fork_intro (fun hb => ?_) (fun hb => ?_) <;> (try simp only [ew, e7] at hb)) | (simp only [go_sem, Nat.reduceLeDiff, Nat.reduceEqDiff, reduceIte, reduceCtorEq, Nat.reduceAdd, Nat.reduceMul, Nat.reduceSub, Nat.reduceLT, Int.reduceLT, Int.reduceLE, Int.reduceNeg, Int.reduceToNat, Nat.reduceBEq, Nat.reduceBNe, Int.reduceGE, Int.reduceGT, *, cPrime, cInside, cClo, cMinS, Tryz.results92, e7])))
     all_goals first | (rw [hS]; done) | rfl | skip
theorem primeS_ok : ContractOK E0 100 cPrime := by
 refine contract_of_wpc (E := E0) (T := mkT Tryz.prog [(102, cClo), (136, cMinS)] false (fun _ => false) true (fun _ => false)) (mkT_ok (E := E0) (.cons cloSpec_ok (.cons minS_ok .nil))) (fn := Tryz.f100) Tryz.func100 (by kernel_rfl) rfl mixedT (by kernel_rfl) rfl ?_
 intro args p rs ms hr
 unfold cPrime at hr
 dsimp only at hr
 split at hr
 rotate_left
 ·cases hr
 rename_i n l set
 simp only [Option.some.injEq, Prod.mk.injEq] at hr
 obtain ⟨rfl, rfl, rfl⟩ := hr
 refine ⟨rfl, rfl, Nat.le_of_ble_eq_true rfl, ?_⟩
 have hm : maxLen = 9223372036854775807 := rfl
 rintro ⟨h1, hv1, hv2⟩ bs
 obtain ⟨ds, rfl, hx⟩ := h1.ex
 clear h1
 rw [unD_dL] at hv1 ⊢
 have hd := depsOK_R hv1
 obtain ⟨n0, n5, s0, s31⟩ := isAttr_le hv2
 obtain ⟨c, rfl⟩ := Int.eq_ofNat_of_zero_le n0
 obtain ⟨q, rfl⟩ := Int.eq_ofNat_of_zero_le s0
 unfold primeL
 rw [Int.toNat_natCast, prmL_set hv2, Int.toNat_natCast]
 clear hv1 hv2
 (repeat' (first | (refine gate_a fun _ => ?_) | (refine fork_intro (fun hb => ?_) (fun hb => ?_) <;> (try simp only [ew] at hb)) | (simp only [go_sem, Nat.reduceLeDiff, Nat.reduceEqDiff, reduceIte, reduceCtorEq, Nat.reduceAdd, Nat.reduceMul, Nat.reduceSub, Nat.reduceLT, Int.reduceLT, Int.reduceLE, Int.reduceNeg, Int.reduceToNat, Nat.reduceBEq, Nat.reduceBNe, Int.reduceGE, Int.reduceGT, *, cPrime, cClo, cMinS, Tryz.results100])))
 refine loop_intro { ι := Nat, rs := [(12, 35)], mods := [(8, fun x => .one (.d (.v (.int .i64 x)))), (7, fun x => .one (.own 1 (iL ((rng x).filter (pqB ds q))) 1))], boxes := [], arrs := [], ok := fun x => x ≤ q + 1, mu := fun x => q + 1 - x } rfl 0 (Nat.zero_le _) ?_ fun x hx => ?_
 ·(repeat' (first | (refine gate_a fun _ => ?_) | (refine fork_intro (fun hb => ?_) (fun hb => ?_) <;> (try simp only [ew] at hb)) | (simp only [go_sem, Nat.reduceLeDiff, Nat.reduceEqDiff, reduceIte, reduceCtorEq, Nat.reduceAdd, Nat.reduceMul, Nat.reduceSub, Nat.reduceLT, Int.reduceLT, Int.reduceLE, Int.reduceNeg, Int.reduceToNat, Nat.reduceBEq, Nat.reduceBNe, Int.reduceGE, Int.reduceGT, *, cPrime, cClo, cMinS, Tryz.results100])))
  all_goals first | rfl | skip
 ·dsimp only at x hx
  have l1 := @rng_filter_len (pqB ds q) x
  by_cases h5 : x < q + 1
  ·have h5' : decide (x ≤ q) = true := decide_eq_true (by omega)
   have l2 : ((rng x).filter (pqB ds q)).length ≤ 32 := by omega
   have eS := @rng_filter_succ (pqB ds q) x
   generalize hZ : (rng x).filter (pqB ds q) = Z at l1 l2 eS
   have hR := clo_R hd (show R5 (x : Int) from ⟨by omega, by omega⟩)
   have e1 := and_ins (l := (x : Int)) (x := (q : Int)) ⟨by omega, by omega⟩ ⟨s0, s31⟩
   have e2 : (bitI .and .i64 (clo ds x) (q : Int) == (q : Int)) = insB q (clo ds x) := by
    have := and_ins2 (l := (q : Int)) (x := clo ds x) ⟨s0, s31⟩ hR
    rw [bne] at this
    simpa using this
   have eq : pqB ds q x = (insB x q && insB q (clo ds x)) := rfl
   cases hq : pqB ds q x
   ·rw [hq] at eq eS
    rw [if_neg (by decide), List.append_nil] at eS
    replace eq := eq.symm
    clear hq
    (repeat' (first | (refine gate_a fun _ => ?_) | (refine fork_intro (fun hb => ?_) (fun hb => ?_) <;> (try simp only [ew, hZ, e1, e2, eq, h5'] at hb)) | (simp only [go_sem, Nat.reduceLeDiff, Nat.reduceEqDiff, reduceIte, reduceCtorEq, Nat.reduceAdd, Nat.reduceMul, Nat.reduceSub, Nat.reduceLT, Int.reduceLT, Int.reduceLE, Int.reduceNeg, Int.reduceToNat, Nat.reduceBEq, Nat.reduceBNe, Int.reduceGE, Int.reduceGT, *, cPrime, cClo, cMinS, Tryz.results100, hZ, e1, e2, eq, h5'])))
    refine loop_next (x + 1) (by dsimp only; omega) (by dsimp only; omega) ?_
    clear eq
    (repeat' (first | (refine gate_a fun _ => ?_) | (refine fork_intro (fun hb => ?_) (fun hb => ?_) <;> (try simp only [ew, eS, hZ] at hb)) | (simp only [go_sem, Nat.reduceLeDiff, Nat.reduceEqDiff, reduceIte, reduceCtorEq, Nat.reduceAdd, Nat.reduceMul, Nat.reduceSub, Nat.reduceLT, Int.reduceLT, Int.reduceLE, Int.reduceNeg, Int.reduceToNat, Nat.reduceBEq, Nat.reduceBNe, Int.reduceGE, Int.reduceGT, *, cPrime, cClo, cMinS, Tryz.results100, eS, hZ])))
   ·rw [hq] at eq eS
    rw [if_pos rfl] at eS
    replace eq := eq.symm
    clear hq
    (repeat' (first | (refine gate_a fun _ => ?_) | (refine fork_intro (fun hb => ?_) (fun hb => ?_) <;> (try simp only [ew, hZ, e1, e2, eq, h5', iL_snoc] at hb)) | (simp only [go_sem, Nat.reduceLeDiff, Nat.reduceEqDiff, reduceIte, reduceCtorEq, Nat.reduceAdd, Nat.reduceMul, Nat.reduceSub, Nat.reduceLT, Int.reduceLT, Int.reduceLE, Int.reduceNeg, Int.reduceToNat, Nat.reduceBEq, Nat.reduceBNe, Int.reduceGE, Int.reduceGT, *, cPrime, cClo, cMinS, Tryz.results100, hZ, e1, e2, eq, h5', iL_snoc])))
    refine loop_next (x + 1) (by dsimp only; omega) (by dsimp only; omega) ?_
    clear eq
    (repeat' (first | (refine gate_a fun _ => ?_) | (refine fork_intro (fun hb => ?_) (fun hb => ?_) <;> (try simp only [ew, eS, hZ, iL_snoc] at hb)) | (simp only [go_sem, Nat.reduceLeDiff, Nat.reduceEqDiff, reduceIte, reduceCtorEq, Nat.reduceAdd, Nat.reduceMul, Nat.reduceSub, Nat.reduceLT, Int.reduceLT, Int.reduceLE, Int.reduceNeg, Int.reduceToNat, Nat.reduceBEq, Nat.reduceBNe, Int.reduceGE, Int.reduceGT, *, cPrime, cClo, cMinS, Tryz.results100, eS, hZ, iL_snoc])))
  ·have e5 : x = q + 1 := by omega
   subst e5
   have h5' : decide (q + 1 ≤ q) = false := decide_eq_false (by omega)
   generalize hZ : (rng (q + 1)).filter (pqB ds q) = Z at l1
   have l2 : Z.length ≤ maxLen := Nat.le_trans l1 (Nat.le_trans (show q + 1 ≤ 32 by omega) (by decide))
   clear hd
   (repeat' (first | (refine gate_a fun _ => ?_) | (refine fork_intro (fun hb => ?_) (fun hb => ?_) <;> (try simp only [ew, hZ, h5'] at hb)) | (simp only [go_sem, Nat.reduceLeDiff, Nat.reduceEqDiff, reduceIte, reduceCtorEq, Nat.reduceAdd, Nat.reduceMul, Nat.reduceSub, Nat.reduceLT, Int.reduceLT, Int.reduceLE, Int.reduceNeg, Int.reduceToNat, Nat.reduceBEq, Nat.reduceBNe, Int.reduceGE, Int.reduceGT, *, cPrime, cClo, cMinS, Tryz.results100, hZ, h5'])))
   have p1 := @selS_length minT1 Z
   have p2 := fun i => @sel_at minT1 Z i
   generalize hS : selS minT1 Z = S at p1 p2
   have p3 : S.length ≤ maxLen := Nat.le_trans p1 (by decide)
   refine loop_intro { ι := Nat, rs := [(37, 49)], mods := [(10, fun i => .one (.d (.v (.int .i64 i)))), (9, fun i => .one (.d (.v (.int .i64 (orL (S.take i))))))], boxes := [], arrs := [(7, fun _ => (1, iL S, 1))], ok := fun i => i ≤ S.length, mu := fun i => S.length - i } rfl 0 (Nat.zero_le _) ?_ fun i hi => ?_
   ·clear p2
    (repeat' (first | (refine gate_a fun _ => ?_) | (refine fork_intro (fun hb => ?_) (fun hb => ?_) <;> (try simp only [ew, hS] at hb)) | (simp only [go_sem, Nat.reduceLeDiff, Nat.reduceEqDiff, reduceIte, reduceCtorEq, Nat.reduceAdd, Nat.reduceMul, Nat.reduceSub, Nat.reduceLT, Int.reduceLT, Int.reduceLE, Int.reduceNeg, Int.reduceToNat, Nat.reduceBEq, Nat.reduceBNe, Int.reduceGE, Int.reduceGT, *, cPrime, cClo, cMinS, Tryz.results100, hS])))
    all_goals first | rfl | skip
   ·dsimp only at i hi
    by_cases h6 : i < S.length
    ·have hp := p2 i h6
     have hs := @orL_snoc (S.take i) (S.getD i 0)
     rw [← take_succ_getD h6 0] at hs
     clear p2
     (repeat' (first | (refine gate_a fun _ => ?_) | (refine fork_intro (fun hb => ?_) (fun hb => ?_) <;> (try simp only [ew] at hb)) | (simp only [go_sem, Nat.reduceLeDiff, Nat.reduceEqDiff, reduceIte, reduceCtorEq, Nat.reduceAdd, Nat.reduceMul, Nat.reduceSub, Nat.reduceLT, Int.reduceLT, Int.reduceLE, Int.reduceNeg, Int.reduceToNat, Nat.reduceBEq, Nat.reduceBNe, Int.reduceGE, Int.reduceGT, *, cPrime, cClo, cMinS, Tryz.results100])))
     refine loop_next (i + 1) (by dsimp only; omega) (by dsimp only; omega) ?_
     (repeat' (first | (refine gate_a fun _ => ?_) | (refine fork_intro (fun hb => ?_) (fun hb => ?_) <;> (try simp only [ew, hs] at hb)) | (simp only [go_sem, Nat.reduceLeDiff, Nat.reduceEqDiff, reduceIte, reduceCtorEq, Nat.reduceAdd, Nat.reduceMul, Nat.reduceSub, Nat.reduceLT, Int.reduceLT, Int.reduceLE, Int.reduceNeg, Int.reduceToNat, Nat.reduceBEq, Nat.reduceBNe, Int.reduceGE, Int.reduceGT, *, cPrime, cClo, cMinS, Tryz.results100, hs])))
    ·have e6 : i = S.length := by omega
     subst e6
     have e7 : S.take S.length = S := List.take_length
     clear p2
     (repeat' (first | (refine gate_a fun _ => ?_) | (refine fork_intro (fun hb => ?_) (fun hb => ?_) <;> (try simp only [ew, e7] at hb)) | (simp only [go_sem, Nat.reduceLeDiff, Nat.reduceEqDiff, reduceIte, reduceCtorEq, Nat.reduceAdd, Nat.reduceMul, Nat.reduceSub, Nat.reduceLT, Int.reduceLT, Int.reduceLE, Int.reduceNeg, Int.reduceToNat, Nat.reduceBEq, Nat.reduceBNe, Int.reduceGE, Int.reduceGT, *, cPrime, cClo, cMinS, Tryz.results100, e7])))
     all_goals first | (rw [hS]; done) | rfl | skip
def thB (n : Int) (ds : List (Int × Int)) (set : Int) : Bool := depsOK n ds && isAttr n set && !(brk n ds set (primeL n ds set)).isSome
def cThird : Contract := ⟨[], false, fun
 | [.one (.v (.int .i64 n)), .one (.sl 2 l), .one (.v (.int .i64 set))] => some (WfD l ∧ -9223372036854775808 ≤ n ∧ n ≤ 9223372036854775807, [⟨false, [.d (.v (.bool (thB n (unD l) set)))]⟩], [])
 | _ => none⟩
theorem thI_ok : ContractOK E0 32 cThird := by
 refine contract_of_wpc (E := E0) (T := mkT Tryz.prog [(43, cAreDeps), (91, cIsAttr), (92, cPrime), (82, cBrk)] false (fun _ => false) true (fun _ => false)) (mkT_ok (E := E0) (.cons areDepsI_ok (.cons isAttrI_ok (.cons primeI_ok (.cons brk_ok .nil))))) (fn := Tryz.f32) Tryz.func32 (by kernel_rfl) rfl mixedT (by kernel_rfl) rfl ?_
 intro args p rs ms hr
 unfold cThird at hr
 dsimp only at hr
 split at hr
 rotate_left
 ·cases hr
 rename_i n l set
 simp only [Option.some.injEq, Prod.mk.injEq] at hr
 obtain ⟨rfl, rfl, rfl⟩ := hr
 refine ⟨rfl, rfl, Nat.le_of_ble_eq_true rfl, ?_⟩
 have hm : maxLen = 9223372036854775807 := rfl
 rintro ⟨h1, hn1, hn2⟩ bs
 obtain ⟨ds, rfl, hx⟩ := h1.ex
 clear h1
 rw [unD_dL]
 unfold thB
 cases hv : (depsOK n ds && isAttr n set)
 ·have e3 : (!depsOK n ds || !isAttr n set) = true := by rw [← Bool.not_and, hv]; rfl
  (repeat' (first | (refine gate_a fun _ => ?_) | (refine fork_intro (fun hb => ?_) (fun hb => ?_) <;> (try simp only [ew, e3] at hb)) | (simp only [go_sem, Nat.reduceLeDiff, Nat.reduceEqDiff, reduceIte, reduceCtorEq, Nat.reduceAdd, Nat.reduceMul, Nat.reduceSub, Nat.reduceLT, Int.reduceLT, Int.reduceLE, Int.reduceNeg, Int.reduceToNat, Nat.reduceBEq, Nat.reduceBNe, Int.reduceGE, Int.reduceGT, *, cThird, cAreDeps, cIsAttr, cPrime, cBrk, Tryz.results32, e3])))
 ·have e3 : (!depsOK n ds || !isAttr n set) = false := by rw [← Bool.not_and, hv]; rfl
  rw [Bool.and_eq_true] at hv
  obtain ⟨v1, v2⟩ := hv
  (repeat' (first | (refine gate_a fun _ => ?_) | (refine fork_intro (fun hb => ?_) (fun hb => ?_) <;> (try simp only [ew, e3] at hb)) | (simp only [go_sem, Nat.reduceLeDiff, Nat.reduceEqDiff, reduceIte, reduceCtorEq, Nat.reduceAdd, Nat.reduceMul, Nat.reduceSub, Nat.reduceLT, Int.reduceLT, Int.reduceLE, Int.reduceNeg, Int.reduceToNat, Nat.reduceBEq, Nat.reduceBNe, Int.reduceGE, Int.reduceGT, *, cThird, cAreDeps, cIsAttr, cPrime, cBrk, Tryz.results32, e3])))
theorem thS_ok : ContractOK E0 38 cThird := by
 refine contract_of_wpc (E := E0) (T := mkT Tryz.prog [(99, cBfine), (100, cPrime), (101, cPd), (102, cClo)] false (fun _ => false) true (fun _ => false)) (mkT_ok (E := E0) (.cons bfine_ok (.cons primeS_ok (.cons pdS_ok (.cons cloSpec_ok .nil))))) (fn := Tryz.f38) Tryz.func38 (by kernel_rfl) rfl mixedT (by kernel_rfl) rfl ?_
 intro args p rs ms hr
 unfold cThird at hr
 dsimp only at hr
 split at hr
 rotate_left
 ·cases hr
 rename_i n l set
 simp only [Option.some.injEq, Prod.mk.injEq] at hr
 obtain ⟨rfl, rfl, rfl⟩ := hr
 refine ⟨rfl, rfl, Nat.le_of_ble_eq_true rfl, ?_⟩
 have hm : maxLen = 9223372036854775807 := rfl
 rintro ⟨h1, hn1, hn2⟩ bs
 obtain ⟨ds, rfl, hx⟩ := h1.ex
 clear h1
 rw [unD_dL]
 unfold thB
 cases hv : (depsOK n ds && isAttr n set)
 ·(repeat' (first | (refine gate_a fun _ => ?_) | (refine fork_intro (fun hb => ?_) (fun hb => ?_) <;> (try simp only [ew, hv] at hb)) | (simp only [go_sem, Nat.reduceLeDiff, Nat.reduceEqDiff, reduceIte, reduceCtorEq, Nat.reduceAdd, Nat.reduceMul, Nat.reduceSub, Nat.reduceLT, Int.reduceLT, Int.reduceLE, Int.reduceNeg, Int.reduceToNat, Nat.reduceBEq, Nat.reduceBNe, Int.reduceGE, Int.reduceGT, *, cThird, cBfine, cPrime, cPd, cClo, Tryz.results38, hv])))
 ·obtain ⟨v1, v2⟩ : depsOK n ds = true ∧ isAttr n set = true := by simpa using hv
  have hd := depsOK_R v1
  obtain ⟨n0, n5, s0, s31⟩ := isAttr_le v2
  obtain ⟨L1, L2, L3⟩ := @pdL_facts n ds set
  have L1' : (pdL n ds set).length ≤ maxLen := Nat.le_trans L1 (by decide)
  obtain ⟨a0, a31⟩ := @primeL_R n ds set
  unfold brk
  generalize hP : primeL n ds set = al at a0 a31
  (repeat' (first | (refine gate_a fun _ => ?_) | (refine fork_intro (fun hb => ?_) (fun hb => ?_) <;> (try simp only [ew, hv, hP] at hb)) | (simp only [go_sem, Nat.reduceLeDiff, Nat.reduceEqDiff, reduceIte, reduceCtorEq, Nat.reduceAdd, Nat.reduceMul, Nat.reduceSub, Nat.reduceLT, Int.reduceLT, Int.reduceLE, Int.reduceNeg, Int.reduceToNat, Nat.reduceBEq, Nat.reduceBNe, Int.reduceGE, Int.reduceGT, *, cThird, cBfine, cPrime, cPd, cClo, Tryz.results38, hv, hP])))
  generalize hL : pdL n ds set = L at L1 L1' L2 L3
  generalize hF : (!(L.find? (brB ds set al)).isSome) = F
  refine loop_intro { ι := Nat, rs := [(6, 7), (23, 51)], mods := [(9, fun i => .one (.d (.v (.int .i64 i))))], boxes := [], arrs := [(8, fun _ => (2, dL L, 1))], ok := fun i => i ≤ L.length ∧ (!((L.drop i).find? (brB ds set al)).isSome) = F, mu := fun i => L.length - i } rfl 0 ⟨Nat.zero_le _, hF⟩ ?_ fun i hi => ?_
  ·clear hF L3
   (repeat' (first | (refine gate_a fun _ => ?_) | (refine fork_intro (fun hb => ?_) (fun hb => ?_) <;> (try simp only [ew, hL] at hb)) | (simp only [go_sem, Nat.reduceLeDiff, Nat.reduceEqDiff, reduceIte, reduceCtorEq, Nat.reduceAdd, Nat.reduceMul, Nat.reduceSub, Nat.reduceLT, Int.reduceLT, Int.reduceLE, Int.reduceNeg, Int.reduceToNat, Nat.reduceBEq, Nat.reduceBNe, Int.reduceGE, Int.reduceGT, *, cThird, cBfine, cPrime, cPd, cClo, Tryz.results38, hL])))
  ·dsimp only at i hi
   obtain ⟨hi, ht⟩ := hi
   clear hF hL
   by_cases h5 : i < L.length
   ·rw [find_drop h5 (0, 0)] at ht
    obtain ⟨⟨x0, x31⟩, r0, r4⟩ := L3 i h5
    have hR := clo_R hd ⟨x0, x31⟩
    have ea := and_ins2 (l := set) (x := clo ds (L.getD i (0, 0)).1) ⟨s0, s31⟩ hR
    have eh := has_eq0 (x := al) (r := (L.getD i (0, 0)).2) ⟨r0, r4⟩ ⟨a0, a31⟩
    have hc : brB ds set al (L.getD i (0, 0)) = (!insB set (clo ds (L.getD i (0, 0)).1) && !hasB al (L.getD i (0, 0)).2) := rfl
    cases hq : brB ds set al (L.getD i (0, 0))
    ·rw [hq, if_neg (by decide)] at ht
     rw [hq] at hc
     replace hc := hc.symm
     clear hq L2 L3
     (repeat' (first | (refine gate_a fun _ => ?_) | (refine fork_intro (fun hb => ?_) (fun hb => ?_) <;> (try simp only [ew, bits64, ea, eh, hc] at hb)) | (simp only [go_sem, Nat.reduceLeDiff, Nat.reduceEqDiff, reduceIte, reduceCtorEq, Nat.reduceAdd, Nat.reduceMul, Nat.reduceSub, Nat.reduceLT, Int.reduceLT, Int.reduceLE, Int.reduceNeg, Int.reduceToNat, Nat.reduceBEq, Nat.reduceBNe, Int.reduceGE, Int.reduceGT, *, cThird, cBfine, cPrime, cPd, cClo, Tryz.results38, bits64, ea, eh, hc])))
     refine loop_next (i + 1) ⟨by omega, ht⟩ (by dsimp only; omega) ?_
     clear ht
     (repeat' (first | (refine gate_a fun _ => ?_) | (refine fork_intro (fun hb => ?_) (fun hb => ?_) <;> (try simp only [ew, hc] at hb)) | (simp only [go_sem, Nat.reduceLeDiff, Nat.reduceEqDiff, reduceIte, reduceCtorEq, Nat.reduceAdd, Nat.reduceMul, Nat.reduceSub, Nat.reduceLT, Int.reduceLT, Int.reduceLE, Int.reduceNeg, Int.reduceToNat, Nat.reduceBEq, Nat.reduceBNe, Int.reduceGE, Int.reduceGT, *, cThird, cBfine, cPrime, cPd, cClo, Tryz.results38, hc])))
    ·rw [hq, if_pos rfl] at ht
     subst ht
     rw [hq] at hc
     replace hc := hc.symm
     clear hq L2 L3
     (repeat' (first | (refine gate_a fun _ => ?_) | (refine fork_intro (fun hb => ?_) (fun hb => ?_) <;> (try simp only [ew, bits64, ea, eh, hc] at hb)) | (simp only [go_sem, Nat.reduceLeDiff, Nat.reduceEqDiff, reduceIte, reduceCtorEq, Nat.reduceAdd, Nat.reduceMul, Nat.reduceSub, Nat.reduceLT, Int.reduceLT, Int.reduceLE, Int.reduceNeg, Int.reduceToNat, Nat.reduceBEq, Nat.reduceBNe, Int.reduceGE, Int.reduceGT, *, cThird, cBfine, cPrime, cPd, cClo, Tryz.results38, bits64, ea, eh, hc])))
     all_goals first | rfl | skip
   ·have e5 : i = L.length := by omega
    subst e5
    rw [List.drop_length, List.find?_nil] at ht
    subst ht
    clear L2 L3
    (repeat' (first | (refine gate_a fun _ => ?_) | (refine fork_intro (fun hb => ?_) (fun hb => ?_) <;> (try simp only [ew] at hb)) | (simp only [go_sem, Nat.reduceLeDiff, Nat.reduceEqDiff, reduceIte, reduceCtorEq, Nat.reduceAdd, Nat.reduceMul, Nat.reduceSub, Nat.reduceLT, Int.reduceLT, Int.reduceLE, Int.reduceNeg, Int.reduceToNat, Nat.reduceBEq, Nat.reduceBNe, Int.reduceGE, Int.reduceGT, *, cThird, cBfine, cPrime, cPd, cClo, Tryz.results38])))
    all_goals first | rfl | skip
end Go.Own
