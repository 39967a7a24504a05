/- Own contracts. Conditions: as each theorem states them. -/
import Derived.Test.YtlliofolbiebmaaGreatOwnH1
import Derived.Test.YtlliofolbiebmaaGreatOwnTb
import Derived.Test.YtlliofolbiebmaaGreatOwnG12
set_option linter.unusedSimpArgs false
set_option linter.unusedVariables false
set_option maxRecDepth 20000
set_option maxHeartbeats 2000000
namespace Go.Own
open Go Go.Proofs
def setsOK (l : List Int) : Bool := l.all (isAttr 5) && decide ((l.length : Int) ≤ 100)
def cSets : Contract := ⟨[], false, fun
 | [.one (.sl 1 l)] => some (WfI l, [⟨false, [.d (.v (.bool (setsOK (unI l))))]⟩], [])
 | _ => none⟩
theorem setsI_ok : ContractOK E0 96 cSets := by
 refine contract_of_wpc (E := E0) (T := mkT Tryz.prog [(113, cValid)] false (fun _ => false) true (fun _ => false)) (mkT_ok (E := E0) (.cons validI_ok .nil)) (fn := Tryz.f96) Tryz.func96 (by kernel_rfl) rfl mixedT (by kernel_rfl) rfl ?_
 intro args p rs ms hr
 unfold cSets at hr
 dsimp only at hr
 split at hr
 rotate_left
 ·cases hr
 rename_i l
 simp only [Option.some.injEq, Prod.mk.injEq] at hr
 obtain ⟨rfl, rfl, rfl⟩ := hr
 refine ⟨rfl, rfl, Nat.le_of_ble_eq_true rfl, ?_⟩
 have hm : maxLen = 9223372036854775807 := rfl
 intro h1 bs
 obtain ⟨xs, rfl, hx⟩ := h1.ex
 clear h1
 rw [unI_iL]
 (repeat' (first | (refine gate_a fun _ => ?_) | (refine fork_intro (fun hb => ?_) (fun hb => ?_) <;> (try simp only [ew] at hb)) | (simp only [go_sem, Nat.reduceLeDiff, Nat.reduceEqDiff, reduceIte, reduceCtorEq, Nat.reduceAdd, Nat.reduceMul, Nat.reduceSub, Nat.reduceLT, Int.reduceLT, Int.reduceLE, Int.reduceNeg, Int.reduceToNat, Nat.reduceBEq, Nat.reduceBNe, Int.reduceGE, Int.reduceGT, *, cSets, cValid, Tryz.results96])))
 refine loop_intro { ι := Nat, rs := [(2, 3), (4, 5), (8, 15)], mods := [(7, fun i => .one (.d (.v (.int .i64 i))))], boxes := [], arrs := [], ok := fun i => i ≤ xs.length ∧ (xs.drop i).all (isAttr 5) = xs.all (isAttr 5), mu := fun i => xs.length - i } rfl 0 ⟨Nat.zero_le _, rfl⟩ ?_ fun i hi => ?_
 ·(repeat' (first | (refine gate_a fun _ => ?_) | (refine fork_intro (fun hb => ?_) (fun hb => ?_) <;> (try simp only [ew] at hb)) | (simp only [go_sem, Nat.reduceLeDiff, Nat.reduceEqDiff, reduceIte, reduceCtorEq, Nat.reduceAdd, Nat.reduceMul, Nat.reduceSub, Nat.reduceLT, Int.reduceLT, Int.reduceLE, Int.reduceNeg, Int.reduceToNat, Nat.reduceBEq, Nat.reduceBNe, Int.reduceGE, Int.reduceGT, *, cSets, cValid, Tryz.results96])))
 ·dsimp only at i hi
  obtain ⟨hi, ht⟩ := hi
  by_cases h5 : i < xs.length
  ·rw [all_drop h5 0] at ht
   cases hq : isAttr 5 (xs.getD i 0)
   ·rw [hq, Bool.false_and] at ht
    have e : setsOK xs = false := by unfold setsOK; rw [← ht]; rfl
    rw [e]
    clear e ht
    (repeat' (first | (refine gate_a fun _ => ?_) | (refine fork_intro (fun hb => ?_) (fun hb => ?_) <;> (try simp only [ew, hq] at hb)) | (simp only [go_sem, Nat.reduceLeDiff, Nat.reduceEqDiff, reduceIte, reduceCtorEq, Nat.reduceAdd, Nat.reduceMul, Nat.reduceSub, Nat.reduceLT, Int.reduceLT, Int.reduceLE, Int.reduceNeg, Int.reduceToNat, Nat.reduceBEq, Nat.reduceBNe, Int.reduceGE, Int.reduceGT, *, cSets, cValid, Tryz.results96, hq])))
   ·rw [hq, Bool.true_and] at ht
    (repeat' (first | (refine gate_a fun _ => ?_) | (refine fork_intro (fun hb => ?_) (fun hb => ?_) <;> (try simp only [ew, hq] at hb)) | (simp only [go_sem, Nat.reduceLeDiff, Nat.reduceEqDiff, reduceIte, reduceCtorEq, Nat.reduceAdd, Nat.reduceMul, Nat.reduceSub, Nat.reduceLT, Int.reduceLT, Int.reduceLE, Int.reduceNeg, Int.reduceToNat, Nat.reduceBEq, Nat.reduceBNe, Int.reduceGE, Int.reduceGT, *, cSets, cValid, Tryz.results96, hq])))
    refine loop_next (i + 1) ⟨by omega, ht⟩ (by dsimp only; omega) ?_
    clear ht
    (repeat' (first | (refine gate_a fun _ => ?_) | (refine fork_intro (fun hb => ?_) (fun hb => ?_) <;> (try simp only [ew] at hb)) | (simp only [go_sem, Nat.reduceLeDiff, Nat.reduceEqDiff, reduceIte, reduceCtorEq, Nat.reduceAdd, Nat.reduceMul, Nat.reduceSub, Nat.reduceLT, Int.reduceLT, Int.reduceLE, Int.reduceNeg, Int.reduceToNat, Nat.reduceBEq, Nat.reduceBNe, Int.reduceGE, Int.reduceGT, *, cSets, cValid, Tryz.results96])))
  ·have e5 : i = xs.length := by omega
   subst e5
   rw [List.drop_length, List.all_nil] at ht
   have e : setsOK xs = decide ((xs.length : Int) ≤ 100) := by unfold setsOK; rw [← ht]; rfl
   rw [e]
   clear e ht
   (repeat' (first | (refine gate_a fun _ => ?_) | (refine fork_intro (fun hb => ?_) (fun hb => ?_) <;> (try simp only [ew] at hb)) | (simp only [go_sem, Nat.reduceLeDiff, Nat.reduceEqDiff, reduceIte, reduceCtorEq, Nat.reduceAdd, Nat.reduceMul, Nat.reduceSub, Nat.reduceLT, Int.reduceLT, Int.reduceLE, Int.reduceNeg, Int.reduceToNat, Nat.reduceBEq, Nat.reduceBNe, Int.reduceGE, Int.reduceGT, *, cSets, cValid, Tryz.results96])))
def minT1 (x y : Int) : Bool := x == y || !insB y x
def selS (t : Int → Int → Bool) (l : List Int) : List Int := if setsOK l then dstI (l.filter fun x => l.all (t x)) else []
theorem dst_filter {p : Int → Bool} {xs : List Int} : (dstI xs).filter p = dstI (xs.filter p) := by
 refine sorted_ext (dstI_sorted.filter _) dstI_sorted fun z => ?_
 rw [List.mem_filter, dstI_mem, dstI_mem, List.mem_filter]
theorem selS_mem {t : Int → Int → Bool} {l : List Int} {x : Int} (h : x ∈ selS t l) : x ∈ l ∧ isAttr 5 x = true := by
 unfold selS at h
 split at h
 ·rename_i hs
  rw [dstI_mem, List.mem_filter] at h
  simp only [setsOK, Bool.and_eq_true, List.all_eq_true] at hs
  exact ⟨h.1, hs.1 x h.1⟩
 ·cases h
def cMinS : Contract := ⟨[], false, fun
 | [.one (.sl 1 l)] => some (WfI l, [⟨false, [.own 1 (iL (selS minT1 (unI l))) 1]⟩], [])
 | _ => none⟩
end Go.Own
namespace Go.Own
open Go Go.Proofs
theorem minSI_ok : ContractOK E0 81 cMinS := by
 refine contract_of_wpc (E := E0) (T := mkT Tryz.prog [(96, cSets), (51, cDst), (48, cInside)] false (fun _ => false) true (fun _ => false)) (mkT_ok (E := E0) (.cons setsI_ok (.cons dst_ok (.cons inside_ok .nil)))) (fn := Tryz.f81) Tryz.func81 (by kernel_rfl) rfl mixedT (by kernel_rfl) rfl ?_
 intro args p rs ms hr
 unfold cMinS at hr
 dsimp only at hr
 split at hr
 rotate_left
 ·cases hr
 rename_i l
 simp only [Option.some.injEq, Prod.mk.injEq] at hr
 obtain ⟨rfl, rfl, rfl⟩ := hr
 refine ⟨rfl, rfl, Nat.le_of_ble_eq_true rfl, ?_⟩
 have hm : maxLen = 9223372036854775807 := rfl
 intro h1 bs
 obtain ⟨xs, rfl, hx⟩ := h1.ex
 clear h1
 rw [unI_iL]
 cases hv : setsOK xs
 ·have e : selS minT1 xs = [] := by unfold selS; rw [hv]; rfl
  rw [e]
  clear e
  (repeat' (first | (refine gate_a fun _ => ?_) | (refine fork_intro (fun hb => ?_) (fun hb => ?_) <;> (try simp only [ew, hv] at hb)) | (simp only [go_sem, Nat.reduceLeDiff, Nat.reduceEqDiff, reduceIte, reduceCtorEq, Nat.reduceAdd, Nat.reduceMul, Nat.reduceSub, Nat.reduceLT, Int.reduceLT, Int.reduceLE, Int.reduceNeg, Int.reduceToNat, Nat.reduceBEq, Nat.reduceBNe, Int.reduceGE, Int.reduceGT, *, cMinS, cSets, cDst, cInside, Tryz.results81, hv])))
  all_goals first | rfl | skip
 ·have e : selS minT1 xs = (dstI xs).filter fun x => xs.all (minT1 x) := by unfold selS; rw [hv, dst_filter]; rfl
  have h100 : xs.length ≤ 100 := by
   have := hv
   simp only [setsOK, Bool.and_eq_true, decide_eq_true_eq] at this
   omega
  have d100 : (dstI xs).length ≤ 100 := Nat.le_trans dstI_length h100
  have dmx : (dstI xs).length ≤ maxLen := Nat.le_trans d100 (by decide)
  rw [e]
  clear e
  (repeat' (first | (refine gate_a fun _ => ?_) | (refine fork_intro (fun hb => ?_) (fun hb => ?_) <;> (try simp only [ew, hv] at hb)) | (simp only [go_sem, Nat.reduceLeDiff, Nat.reduceEqDiff, reduceIte, reduceCtorEq, Nat.reduceAdd, Nat.reduceMul, Nat.reduceSub, Nat.reduceLT, Int.reduceLT, Int.reduceLE, Int.reduceNeg, Int.reduceToNat, Nat.reduceBEq, Nat.reduceBNe, Int.reduceGE, Int.reduceGT, *, cMinS, cSets, cDst, cInside, Tryz.results81, hv])))
  generalize hD : dstI xs = D at d100 dmx
  refine loop_intro { ι := Nat, rs := [(5, 7), (8, 9), (18, 46)], mods := [(17, fun i => .one (.d (.v (.int .i64 i)))), (3, fun i => .one (.own 1 (iL ((D.take i).filter fun x => xs.all (minT1 x))) 1))], boxes := [], arrs := [(15, fun _ => (1, iL D, 1))], ok := fun i => i ≤ D.length, mu := fun i => D.length - i } rfl 0 (Nat.zero_le _) ?_ fun i hi => ?_
  ·(repeat' (first | (refine gate_a fun _ => ?_) | (refine fork_intro (fun hb => ?_) (fun hb => ?_) <;> (try simp only [ew, hD] at hb)) | (simp only [go_sem, Nat.reduceLeDiff, Nat.reduceEqDiff, reduceIte, reduceCtorEq, Nat.reduceAdd, Nat.reduceMul, Nat.reduceSub, Nat.reduceLT, Int.reduceLT, Int.reduceLE, Int.reduceNeg, Int.reduceToNat, Nat.reduceBEq, Nat.reduceBNe, Int.reduceGE, Int.reduceGT, *, cMinS, cSets, cDst, cInside, Tryz.results81, hD])))
   all_goals first | rfl | skip
  ·dsimp only at i hi
   have l2 := List.length_filter_le (fun x => xs.all (minT1 x)) (D.take i)
   rw [List.length_take] at l2
   have l3 : ((D.take i).filter fun x => xs.all (minT1 x)).length ≤ 100 := by omega
   clear l2
   by_cases h5 : i < D.length
   ·have hft := filter_take h5 (fun x => xs.all (minT1 x))
    generalize hZ : (D.take i).filter (fun x => xs.all (minT1 x)) = Z at l3 hft
    generalize hX : D.getD i 0 = x at hft
    (repeat' (first | (refine gate_a fun _ => ?_) | (refine fork_intro (fun hb => ?_) (fun hb => ?_) <;> (try simp only [ew, hZ, hX] at hb)) | (simp only [go_sem, Nat.reduceLeDiff, Nat.reduceEqDiff, reduceIte, reduceCtorEq, Nat.reduceAdd, Nat.reduceMul, Nat.reduceSub, Nat.reduceLT, Int.reduceLT, Int.reduceLE, Int.reduceNeg, Int.reduceToNat, Nat.reduceBEq, Nat.reduceBNe, Int.reduceGE, Int.reduceGT, *, cMinS, cSets, cDst, cInside, Tryz.results81, hZ, hX])))
    generalize hF : xs.all (minT1 x) = F at hft
    refine loop_intro { ι := Nat, rs := [(8, 9), (24, 40)], mods := [(23, fun k => .one (.d (.v (.int .i64 k)))), (6, fun k => .one (.d (.v (.bool ((xs.take k).all (minT1 x))))))], boxes := [], arrs := [(3, fun _ => (1, iL Z, 1)), (15, fun _ => (1, iL D, 1))], ok := fun k => k ≤ xs.length, mu := fun k => xs.length - k } rfl 0 (Nat.zero_le _) ?_ fun k hk => ?_
    ·(repeat' (first | (refine gate_a fun _ => ?_) | (refine fork_intro (fun hb => ?_) (fun hb => ?_) <;> (try simp only [ew, hZ] at hb)) | (simp only [go_sem, Nat.reduceLeDiff, Nat.reduceEqDiff, reduceIte, reduceCtorEq, Nat.reduceAdd, Nat.reduceMul, Nat.reduceSub, Nat.reduceLT, Int.reduceLT, Int.reduceLE, Int.reduceNeg, Int.reduceToNat, Nat.reduceBEq, Nat.reduceBNe, Int.reduceGE, Int.reduceGT, *, cMinS, cSets, cDst, cInside, Tryz.results81, hZ])))
     all_goals first | rfl | skip
    ·dsimp only at k hk
     by_cases h6 : k < xs.length
     ·have et := all_take h6 0 (minT1 x)
      have em : minT1 x (xs.getD k 0) = (x == xs.getD k 0 || !(bitI .andNot .i64 (xs.getD k 0) x == 0)) := rfl
      rw [em] at et
      clear em
      (repeat' (first | (refine gate_a fun _ => ?_) | (refine fork_intro (fun hb => ?_) (fun hb => ?_) <;> (try simp only [ew] at hb)) | (simp only [go_sem, Nat.reduceLeDiff, Nat.reduceEqDiff, reduceIte, reduceCtorEq, Nat.reduceAdd, Nat.reduceMul, Nat.reduceSub, Nat.reduceLT, Int.reduceLT, Int.reduceLE, Int.reduceNeg, Int.reduceToNat, Nat.reduceBEq, Nat.reduceBNe, Int.reduceGE, Int.reduceGT, *, cMinS, cSets, cDst, cInside, Tryz.results81])))
      refine loop_next (k + 1) (by dsimp only; omega) (by dsimp only; omega) ?_
      (repeat' (first | (refine gate_a fun _ => ?_) | (refine fork_intro (fun hb => ?_) (fun hb => ?_) <;> (try simp only [ew, et] at hb)) | (simp only [go_sem, Nat.reduceLeDiff, Nat.reduceEqDiff, reduceIte, reduceCtorEq, Nat.reduceAdd, Nat.reduceMul, Nat.reduceSub, Nat.reduceLT, Int.reduceLT, Int.reduceLE, Int.reduceNeg, Int.reduceToNat, Nat.reduceBEq, Nat.reduceBNe, Int.reduceGE, Int.reduceGT, *, cMinS, cSets, cDst, cInside, Tryz.results81, et])))
     ·have e6 : k = xs.length := by omega
      subst e6
      have et : (xs.take xs.length).all (minT1 x) = F := by rw [List.take_length, hF]
      cases hq : F
      ·rw [hq] at et hft
       rw [if_neg (by decide), List.append_nil] at hft
       (repeat' (first | (refine gate_a fun _ => ?_) | (refine fork_intro (fun hb => ?_) (fun hb => ?_) <;> (try simp only [ew, et] at hb)) | (simp only [go_sem, Nat.reduceLeDiff, Nat.reduceEqDiff, reduceIte, reduceCtorEq, Nat.reduceAdd, Nat.reduceMul, Nat.reduceSub, Nat.reduceLT, Int.reduceLT, Int.reduceLE, Int.reduceNeg, Int.reduceToNat, Nat.reduceBEq, Nat.reduceBNe, Int.reduceGE, Int.reduceGT, *, cMinS, cSets, cDst, cInside, Tryz.results81, et])))
       refine loop_next (i + 1) (by dsimp only; omega) (by dsimp only; omega) ?_
       (repeat' (first | (refine gate_a fun _ => ?_) | (refine fork_intro (fun hb => ?_) (fun hb => ?_) <;> (try simp only [ew, hft, hZ] at hb)) | (simp only [go_sem, Nat.reduceLeDiff, Nat.reduceEqDiff, reduceIte, reduceCtorEq, Nat.reduceAdd, Nat.reduceMul, Nat.reduceSub, Nat.reduceLT, Int.reduceLT, Int.reduceLE, Int.reduceNeg, Int.reduceToNat, Nat.reduceBEq, Nat.reduceBNe, Int.reduceGE, Int.reduceGT, *, cMinS, cSets, cDst, cInside, Tryz.results81, hft, hZ])))
      ·rw [hq] at et hft
       rw [if_pos rfl] at hft
       (repeat' (first | (refine gate_a fun _ => ?_) | (refine fork_intro (fun hb => ?_) (fun hb => ?_) <;> (try simp only [ew, et, iL_snoc] at hb)) | (simp only [go_sem, Nat.reduceLeDiff, Nat.reduceEqDiff, reduceIte, reduceCtorEq, Nat.reduceAdd, Nat.reduceMul, Nat.reduceSub, Nat.reduceLT, Int.reduceLT, Int.reduceLE, Int.reduceNeg, Int.reduceToNat, Nat.reduceBEq, Nat.reduceBNe, Int.reduceGE, Int.reduceGT, *, cMinS, cSets, cDst, cInside, Tryz.results81, et, iL_snoc])))
       refine loop_next (i + 1) (by dsimp only; omega) (by dsimp only; omega) ?_
       (repeat' (first | (refine gate_a fun _ => ?_) | (refine fork_intro (fun hb => ?_) (fun hb => ?_) <;> (try simp only [ew, hft, hZ, iL_snoc] at hb)) | (simp only [go_sem, Nat.reduceLeDiff, Nat.reduceEqDiff, reduceIte, reduceCtorEq, Nat.reduceAdd, Nat.reduceMul, Nat.reduceSub, Nat.reduceLT, Int.reduceLT, Int.reduceLE, Int.reduceNeg, Int.reduceToNat, Nat.reduceBEq, Nat.reduceBNe, Int.reduceGE, Int.reduceGT, *, cMinS, cSets, cDst, cInside, Tryz.results81, hft, hZ, iL_snoc])))
   ·have e5 : i = D.length := by omega
    subst e5
    have et : D.take D.length = D := List.take_length
    (repeat' (first | (refine gate_a fun _ => ?_) | (refine fork_intro (fun hb => ?_) (fun hb => ?_) <;> (try simp only [ew, et] at hb)) | (simp only [go_sem, Nat.reduceLeDiff, Nat.reduceEqDiff, reduceIte, reduceCtorEq, Nat.reduceAdd, Nat.reduceMul, Nat.reduceSub, Nat.reduceLT, Int.reduceLT, Int.reduceLE, Int.reduceNeg, Int.reduceToNat, Nat.reduceBEq, Nat.reduceBNe, Int.reduceGE, Int.reduceGT, *, cMinS, cSets, cDst, cInside, Tryz.results81, et])))
    all_goals first | (rw [hD]; done) | rfl | skip
end Go.Own
