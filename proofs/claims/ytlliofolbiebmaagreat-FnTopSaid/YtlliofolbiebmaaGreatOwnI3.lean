import Derived.Test.YtlliofolbiebmaaGreatOwnX4
import Derived.Test.YtlliofolbiebmaaGreatOwnH8
set_option linter.unusedSimpArgs false
set_option linter.unusedVariables false
set_option maxRecDepth 20000
set_option maxHeartbeats 2000000
namespace Go.Own
open Go Go.Proofs
attribute [local go_sem] unD_dL dL_length dL_get dL_set dL_inj wfD_dL scal2 beq2 pair_eta dL_scal
def extN (ag : Int) (d : Int × Int) : Nat → List (Int × Int)
 | 0 => []
 | k + 1 => extN ag d k ++ (if !hasB ag (k : Nat) && ((k : Nat) : Int) != d.2 then [(addB d.1 (k : Nat), d.2)] else [])
def spcR (n ag : Int) (d : Int × Int) : List (Int × Int) := if depOK n d.1 d.2 then (if !insB d.1 ag || hasB ag d.2 then [d] else extN ag d n.toNat) else []
def spcL (n ag : Int) (ds : List (Int × Int)) : List (Int × Int) := ds.flatMap (spcR n ag)
def lowT (d e : Int × Int) : Bool := (e == d || e.2 != d.2) || !insB e.1 d.1
def spcM (n ag : Int) (ds : List (Int × Int)) : List (Int × Int) := (Lib.compact (srtD (spcL n ag ds))).filter fun d => (Lib.compact (srtD (spcL n ag ds))).all (lowT d)
def spcV (n ag : Int) : Bool := decide (1 ≤ n) && isAttr n ag
def spcF (n ag : Int) (ds : List (Int × Int)) : List (Int × Int) := if spcV n ag then spcM n ag ds else ds
theorem extN_len {ag : Int} {d : Int × Int} : ∀ {k : Nat}, (extN ag d k).length ≤ k
 | 0 => Nat.le_refl _
 | k + 1 => by
  have := @extN_len ag d k
  rw [extN, List.length_append]
  split <;> simp <;> omega
theorem extN_R {ag : Int} {d : Int × Int} (hd : depR d) : ∀ {k : Nat}, k ≤ 5 → ∀ e ∈ extN ag d k, depR e
 | 0, _, e, he => by cases he
 | k + 1, h, e, he => by
  rw [extN] at he
  rcases List.mem_append.1 he with he | he
  ·exact extN_R hd (by omega) e he
  ·split at he
   ·rw [List.mem_singleton] at he
    rw [he]
    exact ⟨addB_R hd.1 ⟨by omega, by omega⟩, hd.2⟩
   ·cases he
theorem spcR_facts {n ag : Int} (hn : n ≤ 5) {d : Int × Int} : (spcR n ag d).length ≤ 5 ∧ ∀ e ∈ spcR n ag d, depR e := by
 unfold spcR
 split
 ·rename_i h
  have hd := depOK_R h
  split
  ·exact ⟨by simp, fun e he => by rw [List.mem_singleton] at he; rw [he]; exact hd⟩
  ·exact ⟨Nat.le_trans extN_len (by omega), extN_R hd (by omega)⟩
 ·simp
theorem spcL_take {n ag : Int} {ds : List (Int × Int)} {i : Nat} (h : i < ds.length) : spcL n ag (ds.take (i + 1)) = spcL n ag (ds.take i) ++ spcR n ag (ds.getD i (0, 0)) := by
 unfold spcL; rw [take_succ_getD h (0, 0), List.flatMap_append]; simp
theorem spcL_facts {n ag : Int} (hn : n ≤ 5) : ∀ {ds : List (Int × Int)}, (spcL n ag ds).length ≤ 5 * ds.length ∧ ∀ e ∈ spcL n ag ds, depR e
 | [] => by simp [spcL]
 | d :: ds => by
  obtain ⟨h1, h2⟩ := @spcL_facts n ag hn ds
  obtain ⟨k1, k2⟩ := @spcR_facts n ag hn d
  unfold spcL at *
  rw [List.flatMap_cons, List.length_append, List.length_cons]
  refine ⟨by omega, fun e he => ?_⟩
  rcases List.mem_append.1 he with he | he
  ·exact k2 e he
  ·exact h2 e he
def cSpc : Contract := ⟨[], false, fun
 | [.one (.sl 2 l), .one (.v (.int .i64 n)), .one (.v (.int .i64 ag))] => some (WfD l ∧ l.length ≤ 1048576 ∧ -9223372036854775808 ≤ n ∧ n ≤ 9223372036854775807, [⟨false, [.own 2 (dL (spcF n ag (unD l))) 1]⟩], [])
 | _ => none⟩
theorem and_take {α : Type} {p : α → Bool} {xs : List α} {i : Nat} (h : i < xs.length) (d : α) : (xs.take (i + 1)).filter p = (xs.take i).filter p ++ (if p (xs.getD i d) then [xs.getD i d] else []) := by
 rw [take_succ_getD h d, List.filter_append, List.filter_cons, List.filter_nil]
theorem srtD_mem {ys : List (Int × Int)} (h : ∀ d ∈ ys, depR d) {x : Int × Int} : x ∈ srtD ys ↔ x ∈ ys := by
 unfold srtD srtQ
 rw [List.mem_map]
 constructor
 ·rintro ⟨a, ha, rfl⟩
  rw [List.mem_mergeSort] at ha
  obtain ⟨d, hd, rfl⟩ := List.mem_map.1 ha
  rw [of_toQ (h d hd)]; exact hd
 ·intro hx
  exact ⟨toQ x, by rw [List.mem_mergeSort]; exact List.mem_map.2 ⟨x, hx, rfl⟩, of_toQ (h x hx)⟩
theorem spcI_ok : ContractOK E0 62 cSpc := by
 refine contract_of_wpc (E := E0) (T := mkT Tryz.prog [(46, cIsAttr), (77, cCopyD), (55, cDep), (48, cInside), (49, cHasB), (89, cSortDep), (91, cCompD)] false (fun _ => false) true (fun _ => false)) (mkT_ok (E := E0) (.cons isAttrI_ok (.cons copyD_ok (.cons depI_ok (.cons inside_ok (.cons hasB_ok (.cons sortDep_ok (.cons compD_ok .nil)))))))) (fn := Tryz.f62) Tryz.func62 (by kernel_rfl) rfl mixedT (by kernel_rfl) rfl ?_
 intro args p rs ms hr
 unfold cSpc at hr
 dsimp only at hr
 split at hr
 rotate_left
 ·cases hr
 rename_i l n ag
 simp only [Option.some.injEq, Prod.mk.injEq] at hr
 obtain ⟨rfl, rfl, rfl⟩ := hr
 refine ⟨rfl, rfl, Nat.le_of_ble_eq_true rfl, ?_⟩
 have hm : maxLen = 9223372036854775807 := rfl
 rintro ⟨h1, hl, hn1, hn2⟩ bs
 obtain ⟨ds, rfl, hx⟩ := h1.ex
 clear h1
 rw [dL_length] at hl
 rw [unD_dL]
 cases hv : spcV n ag
 ·have e : spcF n ag ds = ds := by unfold spcF; rw [hv]; rfl
  rw [e]
  clear e
  have e3 : (decide (n < 1) || decide (n > 5) || !isAttr n ag) = true := by
   cases q : (decide (n < 1) || decide (n > 5) || !isAttr n ag) with
   | true => rfl
   | false =>
    simp only [Bool.or_eq_false_iff, Bool.not_eq_false', decide_eq_false_iff_not] at q
    unfold spcV at hv
    rw [q.2, Bool.and_true, decide_eq_false_iff_not] at hv
    omega
  clear hv
  (repeat' (first | (refine gate_a fun _ => ?_) | (refine fork_intro (fun hb => ?_) (fun hb => ?_) <;> (try simp only [ew, e3] at hb)) | (simp only [go_sem, Nat.reduceLeDiff, Nat.reduceEqDiff, reduceIte, reduceCtorEq, Nat.reduceAdd, Nat.reduceMul, Nat.reduceSub, Nat.reduceLT, Int.reduceLT, Int.reduceLE, Int.reduceNeg, Int.reduceToNat, Nat.reduceBEq, Nat.reduceBNe, Int.reduceGE, Int.reduceGT, *, cSpc, cIsAttr, cCopyD, cDep, cInside, cHasB, cSortDep, cCompD, Tryz.results62, e3])))
  all_goals first | rfl | skip
 ·have e : spcF n ag ds = spcM n ag ds := by unfold spcF; rw [hv]; rfl
  rw [e]
  clear e
  unfold spcV at hv
  rw [Bool.and_eq_true, decide_eq_true_eq] at hv
  obtain ⟨n1, ha⟩ := hv
  obtain ⟨_, n5, g0, g31⟩ := isAttr_le ha
  have e3 : (decide (n < 1) || decide (n > 5) || !isAttr n ag) = false := by
   rw [ha, decide_eq_false (show ¬ n < 1 by omega), decide_eq_false (show ¬ n > 5 by omega)]; rfl
  obtain ⟨m, rfl⟩ := Int.eq_ofNat_of_zero_le (show 0 ≤ n by omega)
  have hF := fun i => @spcL_facts (m : Int) ag n5 (ds.take i)
  have e0 : spcL (m : Int) ag (ds.take 0) = [] := rfl
  clear ha
  (repeat' (first | (refine gate_a fun _ => ?_) | (refine fork_intro (fun hb => ?_) (fun hb => ?_) <;> (try simp only [ew, e3] at hb)) | (simp only [go_sem, Nat.reduceLeDiff, Nat.reduceEqDiff, reduceIte, reduceCtorEq, Nat.reduceAdd, Nat.reduceMul, Nat.reduceSub, Nat.reduceLT, Int.reduceLT, Int.reduceLE, Int.reduceNeg, Int.reduceToNat, Nat.reduceBEq, Nat.reduceBNe, Int.reduceGE, Int.reduceGT, *, cSpc, cIsAttr, cCopyD, cDep, cInside, cHasB, cSortDep, cCompD, Tryz.results62, e3])))
  refine loop_intro { ι := Nat, rs := [(9, 11), (35, 84)], mods := [(34, fun i => .one (.d (.v (.int .i64 i)))), (7, fun i => .one (.own 2 (dL (spcL (m : Int) ag (ds.take i))) 1))], boxes := [], arrs := [], ok := fun i => i ≤ ds.length, mu := fun i => ds.length - i } rfl 0 (Nat.zero_le _) ?_ fun i hi => ?_
  ·clear hF
   (repeat' (first | (refine gate_a fun _ => ?_) | (refine fork_intro (fun hb => ?_) (fun hb => ?_) <;> (try simp only [ew, e0] at hb)) | (simp only [go_sem, Nat.reduceLeDiff, Nat.reduceEqDiff, reduceIte, reduceCtorEq, Nat.reduceAdd, Nat.reduceMul, Nat.reduceSub, Nat.reduceLT, Int.reduceLT, Int.reduceLE, Int.reduceNeg, Int.reduceToNat, Nat.reduceBEq, Nat.reduceBNe, Int.reduceGE, Int.reduceGT, *, cSpc, cIsAttr, cCopyD, cDep, cInside, cHasB, cSortDep, cCompD, Tryz.results62, e0])))
   all_goals first | rfl | skip
  ·dsimp only at i hi
   obtain ⟨s1, s2⟩ := hF i
   rw [List.length_take] at s1
   have s3 : (spcL (m : Int) ag (ds.take i)).length ≤ 5242880 := by omega
   have s4 : (spcL (m : Int) ag (ds.take i)).length ≤ maxLen := Nat.le_trans s3 (by decide)
   clear s1 hF
   by_cases h5 : i < ds.length
   ·have eS := spcL_take (n := (m : Int)) (ag := ag) h5
    clear s2
    generalize hP : spcL (m : Int) ag (ds.take i) = P at s3 s4 eS
    generalize hg : ds.getD i (0, 0) = g at eS
    obtain ⟨a, b⟩ := g
    unfold spcR at eS
    dsimp only at eS
    cases hd : depOK (m : Int) a b
    ·rw [hd, if_neg (by decide), List.append_nil] at eS
     (repeat' (first | (refine gate_a fun _ => ?_) | (refine fork_intro (fun hb => ?_) (fun hb => ?_) <;> (try simp only [ew, hP, hg, hd] at hb)) | (simp only [go_sem, Nat.reduceLeDiff, Nat.reduceEqDiff, reduceIte, reduceCtorEq, Nat.reduceAdd, Nat.reduceMul, Nat.reduceSub, Nat.reduceLT, Int.reduceLT, Int.reduceLE, Int.reduceNeg, Int.reduceToNat, Nat.reduceBEq, Nat.reduceBNe, Int.reduceGE, Int.reduceGT, *, cSpc, cIsAttr, cCopyD, cDep, cInside, cHasB, cSortDep, cCompD, Tryz.results62, hP, hg, hd])))
     refine loop_next (i + 1) (by dsimp only; omega) (by dsimp only; omega) ?_
     (repeat' (first | (refine gate_a fun _ => ?_) | (refine fork_intro (fun hb => ?_) (fun hb => ?_) <;> (try simp only [ew, hP, eS, hg, hd] at hb)) | (simp only [go_sem, Nat.reduceLeDiff, Nat.reduceEqDiff, reduceIte, reduceCtorEq, Nat.reduceAdd, Nat.reduceMul, Nat.reduceSub, Nat.reduceLT, Int.reduceLT, Int.reduceLE, Int.reduceNeg, Int.reduceToNat, Nat.reduceBEq, Nat.reduceBNe, Int.reduceGE, Int.reduceGT, *, cSpc, cIsAttr, cCopyD, cDep, cInside, cHasB, cSortDep, cCompD, Tryz.results62, hP, eS, hg, hd])))
    ·rw [hd, if_pos rfl, insB_def] at eS
     obtain ⟨⟨a0, a31⟩, b0, b4⟩ := depOK_R hd
     cases hc : (!(bitI .andNot .i64 a ag == 0) || hasB ag b)
     ·rw [hc, if_neg (by decide), Int.toNat_natCast] at eS
      have eX := fun c => @extN_len ag (a, b) c
      have e1 : P ++ extN ag (a, b) 0 = P := List.append_nil _
      (repeat' (first | (refine gate_a fun _ => ?_) | (refine fork_intro (fun hb => ?_) (fun hb => ?_) <;> (try simp only [ew, hP, hg, hd, hc] at hb)) | (simp only [go_sem, Nat.reduceLeDiff, Nat.reduceEqDiff, reduceIte, reduceCtorEq, Nat.reduceAdd, Nat.reduceMul, Nat.reduceSub, Nat.reduceLT, Int.reduceLT, Int.reduceLE, Int.reduceNeg, Int.reduceToNat, Nat.reduceBEq, Nat.reduceBNe, Int.reduceGE, Int.reduceGT, *, cSpc, cIsAttr, cCopyD, cDep, cInside, cHasB, cSortDep, cCompD, Tryz.results62, hP, hg, hd, hc])))
      refine loop_intro { ι := Nat, rs := [(57, 83)], mods := [(10, fun c => .one (.d (.v (.int .i64 c)))), (7, fun c => .one (.own 2 (dL (P ++ extN ag (a, b) c)) 1))], boxes := [(9, fun _ => [.d (.v (.int .i64 a)), .d (.v (.int .i64 b))])], arrs := [], ok := fun c => c ≤ m, mu := fun c => m - c } rfl 0 (Nat.zero_le _) ?_ fun c hcm => ?_
      ·clear eX
       (repeat' (first | (refine gate_a fun _ => ?_) | (refine fork_intro (fun hb => ?_) (fun hb => ?_) <;> (try simp only [ew, hP, hg, e1] at hb)) | (simp only [go_sem, Nat.reduceLeDiff, Nat.reduceEqDiff, reduceIte, reduceCtorEq, Nat.reduceAdd, Nat.reduceMul, Nat.reduceSub, Nat.reduceLT, Int.reduceLT, Int.reduceLE, Int.reduceNeg, Int.reduceToNat, Nat.reduceBEq, Nat.reduceBNe, Int.reduceGE, Int.reduceGT, *, cSpc, cIsAttr, cCopyD, cDep, cInside, cHasB, cSortDep, cCompD, Tryz.results62, hP, hg, e1])))
       all_goals first | rfl | skip
      ·dsimp only at c hcm
       have x1 := eX c
       have x2 : (P ++ extN ag (a, b) c).length ≤ 5242885 := by rw [List.length_append]; omega
       have x3 : (P ++ extN ag (a, b) c).length ≤ maxLen := Nat.le_trans x2 (by decide)
       clear eX x1
       by_cases h6 : c < m
       ·have hpw := p5 (c := c) (by omega)
        have eE : P ++ extN ag (a, b) (c + 1) = (P ++ extN ag (a, b) c) ++ (if !hasB ag (c : Nat) && ((c : Nat) : Int) != b then [(addB a (c : Nat), b)] else []) := by rw [extN, List.append_assoc]
        have eo : bitI .or .i64 a (1 * 2 ^ c) = addB a (c : Nat) := by unfold addB; rw [Int.toNat_natCast]
        generalize hQ : P ++ extN ag (a, b) c = Q at x2 x3 eE
        cases hq : (!hasB ag (c : Nat) && ((c : Nat) : Int) != b)
        ·rw [hq, if_neg (by decide), List.append_nil] at eE
         (repeat' (first | (refine gate_a fun _ => ?_) | (refine fork_intro (fun hb => ?_) (fun hb => ?_) <;> (try simp only [ew, hQ, hq] at hb)) | (simp only [go_sem, Nat.reduceLeDiff, Nat.reduceEqDiff, reduceIte, reduceCtorEq, Nat.reduceAdd, Nat.reduceMul, Nat.reduceSub, Nat.reduceLT, Int.reduceLT, Int.reduceLE, Int.reduceNeg, Int.reduceToNat, Nat.reduceBEq, Nat.reduceBNe, Int.reduceGE, Int.reduceGT, *, cSpc, cIsAttr, cCopyD, cDep, cInside, cHasB, cSortDep, cCompD, Tryz.results62, hQ, hq])))
         refine loop_next (c + 1) (by dsimp only; omega) (by dsimp only; omega) ?_
         (repeat' (first | (refine gate_a fun _ => ?_) | (refine fork_intro (fun hb => ?_) (fun hb => ?_) <;> (try simp only [ew, hQ, eE, hq] at hb)) | (simp only [go_sem, Nat.reduceLeDiff, Nat.reduceEqDiff, reduceIte, reduceCtorEq, Nat.reduceAdd, Nat.reduceMul, Nat.reduceSub, Nat.reduceLT, Int.reduceLT, Int.reduceLE, Int.reduceNeg, Int.reduceToNat, Nat.reduceBEq, Nat.reduceBNe, Int.reduceGE, Int.reduceGT, *, cSpc, cIsAttr, cCopyD, cDep, cInside, cHasB, cSortDep, cCompD, Tryz.results62, hQ, eE, hq])))
        ·rw [hq, if_pos rfl] at eE
         (repeat' (first | (refine gate_a fun _ => ?_) | (refine fork_intro (fun hb => ?_) (fun hb => ?_) <;> (try simp only [ew, bits64, hQ, hq, eo, dL_snoc] at hb)) | (simp only [go_sem, Nat.reduceLeDiff, Nat.reduceEqDiff, reduceIte, reduceCtorEq, Nat.reduceAdd, Nat.reduceMul, Nat.reduceSub, Nat.reduceLT, Int.reduceLT, Int.reduceLE, Int.reduceNeg, Int.reduceToNat, Nat.reduceBEq, Nat.reduceBNe, Int.reduceGE, Int.reduceGT, *, cSpc, cIsAttr, cCopyD, cDep, cInside, cHasB, cSortDep, cCompD, Tryz.results62, bits64, hQ, hq, eo, dL_snoc])))
         refine loop_next (c + 1) (by dsimp only; omega) (by dsimp only; omega) ?_
         (repeat' (first | (refine gate_a fun _ => ?_) | (refine fork_intro (fun hb => ?_) (fun hb => ?_) <;> (try simp only [ew, hQ, eE, hq, eo, dL_snoc] at hb)) | (simp only [go_sem, Nat.reduceLeDiff, Nat.reduceEqDiff, reduceIte, reduceCtorEq, Nat.reduceAdd, Nat.reduceMul, Nat.reduceSub, Nat.reduceLT, Int.reduceLT, Int.reduceLE, Int.reduceNeg, Int.reduceToNat, Nat.reduceBEq, Nat.reduceBNe, Int.reduceGE, Int.reduceGT, *, cSpc, cIsAttr, cCopyD, cDep, cInside, cHasB, cSortDep, cCompD, Tryz.results62, hQ, eE, hq, eo, dL_snoc])))
       ·have e6 : c = m := by omega
        subst e6
        (repeat' (first | (refine gate_a fun _ => ?_) | (refine fork_intro (fun hb => ?_) (fun hb => ?_) <;> (try simp only [ew] at hb)) | (simp only [go_sem, Nat.reduceLeDiff, Nat.reduceEqDiff, reduceIte, reduceCtorEq, Nat.reduceAdd, Nat.reduceMul, Nat.reduceSub, Nat.reduceLT, Int.reduceLT, Int.reduceLE, Int.reduceNeg, Int.reduceToNat, Nat.reduceBEq, Nat.reduceBNe, Int.reduceGE, Int.reduceGT, *, cSpc, cIsAttr, cCopyD, cDep, cInside, cHasB, cSortDep, cCompD, Tryz.results62])))
        refine loop_next (i + 1) (by dsimp only; omega) (by dsimp only; omega) ?_
        (repeat' (first | (refine gate_a fun _ => ?_) | (refine fork_intro (fun hb => ?_) (fun hb => ?_) <;> (try simp only [ew, eS] at hb)) | (simp only [go_sem, Nat.reduceLeDiff, Nat.reduceEqDiff, reduceIte, reduceCtorEq, Nat.reduceAdd, Nat.reduceMul, Nat.reduceSub, Nat.reduceLT, Int.reduceLT, Int.reduceLE, Int.reduceNeg, Int.reduceToNat, Nat.reduceBEq, Nat.reduceBNe, Int.reduceGE, Int.reduceGT, *, cSpc, cIsAttr, cCopyD, cDep, cInside, cHasB, cSortDep, cCompD, Tryz.results62, eS])))
     ·rw [hc, if_pos rfl] at eS
      (repeat' (first | (refine gate_a fun _ => ?_) | (refine fork_intro (fun hb => ?_) (fun hb => ?_) <;> (try simp only [ew, hP, hg, hd, hc, dL_snoc] at hb)) | (simp only [go_sem, Nat.reduceLeDiff, Nat.reduceEqDiff, reduceIte, reduceCtorEq, Nat.reduceAdd, Nat.reduceMul, Nat.reduceSub, Nat.reduceLT, Int.reduceLT, Int.reduceLE, Int.reduceNeg, Int.reduceToNat, Nat.reduceBEq, Nat.reduceBNe, Int.reduceGE, Int.reduceGT, *, cSpc, cIsAttr, cCopyD, cDep, cInside, cHasB, cSortDep, cCompD, Tryz.results62, hP, hg, hd, hc, dL_snoc])))
      refine loop_next (i + 1) (by dsimp only; omega) (by dsimp only; omega) ?_
      (repeat' (first | (refine gate_a fun _ => ?_) | (refine fork_intro (fun hb => ?_) (fun hb => ?_) <;> (try simp only [ew, hP, eS, hg, hd, hc, dL_snoc] at hb)) | (simp only [go_sem, Nat.reduceLeDiff, Nat.reduceEqDiff, reduceIte, reduceCtorEq, Nat.reduceAdd, Nat.reduceMul, Nat.reduceSub, Nat.reduceLT, Int.reduceLT, Int.reduceLE, Int.reduceNeg, Int.reduceToNat, Nat.reduceBEq, Nat.reduceBNe, Int.reduceGE, Int.reduceGT, *, cSpc, cIsAttr, cCopyD, cDep, cInside, cHasB, cSortDep, cCompD, Tryz.results62, hP, eS, hg, hd, hc, dL_snoc])))
   ·have e5 : i = ds.length := by omega
    subst e5
    have eP : ds.take ds.length = ds := List.take_length
    rw [eP] at s2 s3 s4
    have t1 := @srtD_length (spcL (m : Int) ag ds)
    have t2 := Lib.compact_length_le (srtD (spcL (m : Int) ag ds))
    unfold spcM
    generalize hS : spcL (m : Int) ag ds = S at s2 s3 s4 t1 t2 ⊢
    have t3 : (srtD S).length ≤ maxLen := by omega
    have t4 : (srtD S).length ≤ 5242880 := by omega
    generalize hT : srtD S = T at t1 t2 t3 t4 ⊢
    have t5 : (Lib.compact T).length ≤ maxLen := by omega
    have t6 : (Lib.compact T).length ≤ 5242880 := by omega
    generalize hZ : Lib.compact T = Z at t5 t6 ⊢
    clear t1 t2
    (repeat' (first | (refine gate_a fun _ => ?_) | (refine fork_intro (fun hb => ?_) (fun hb => ?_) <;> (try simp only [ew, eP, hS, hT, hZ] at hb)) | (simp only [go_sem, Nat.reduceLeDiff, Nat.reduceEqDiff, reduceIte, reduceCtorEq, Nat.reduceAdd, Nat.reduceMul, Nat.reduceSub, Nat.reduceLT, Int.reduceLT, Int.reduceLE, Int.reduceNeg, Int.reduceToNat, Nat.reduceBEq, Nat.reduceBNe, Int.reduceGE, Int.reduceGT, *, cSpc, cIsAttr, cCopyD, cDep, cInside, cHasB, cSortDep, cCompD, Tryz.results62, eP, hS, hT, hZ])))
    refine loop_intro { ι := Nat, rs := [(13, 15), (16, 17), (92, 129)], mods := [(91, fun i => .one (.d (.v (.int .i64 i)))), (11, fun i => .one (.own 2 (dL ((Z.take i).filter fun d => Z.all (lowT d))) 1))], boxes := [], arrs := [(7, fun _ => (2, dL Z, 1))], alis := [(89, 7)], ok := fun i => i ≤ Z.length, mu := fun i => Z.length - i } rfl 0 (Nat.zero_le _) ?_ fun i hi => ?_
    ·clear s2
     (repeat' (first | (refine gate_a fun _ => ?_) | (refine fork_intro (fun hb => ?_) (fun hb => ?_) <;> (try simp only [ew, eP, hS, hT, hZ] at hb)) | (simp only [go_sem, Nat.reduceLeDiff, Nat.reduceEqDiff, reduceIte, reduceCtorEq, Nat.reduceAdd, Nat.reduceMul, Nat.reduceSub, Nat.reduceLT, Int.reduceLT, Int.reduceLE, Int.reduceNeg, Int.reduceToNat, Nat.reduceBEq, Nat.reduceBNe, Int.reduceGE, Int.reduceGT, *, cSpc, cIsAttr, cCopyD, cDep, cInside, cHasB, cSortDep, cCompD, Tryz.results62, eP, hS, hT, hZ])))
     all_goals first | rfl | skip
    ·dsimp only at i hi
     clear s2 s3 s4 t3 t4
     have o1 := List.length_filter_le (fun d => Z.all (lowT d)) (Z.take i)
     rw [List.length_take] at o1
     have o2 : ((Z.take i).filter fun d => Z.all (lowT d)).length ≤ 5242880 := by omega
     have o3 : ((Z.take i).filter fun d => Z.all (lowT d)).length ≤ maxLen := Nat.le_trans o2 (by decide)
     clear o1
     by_cases h7 : i < Z.length
     ·have eF := and_take (p := fun d => Z.all (lowT d)) h7 (0, 0)
      generalize hO : (Z.take i).filter (fun d => Z.all (lowT d)) = O at o2 o3 eF
      generalize hg : Z.getD i (0, 0) = g at eF
      obtain ⟨a, b⟩ := g
      (repeat' (first | (refine gate_a fun _ => ?_) | (refine fork_intro (fun hb => ?_) (fun hb => ?_) <;> (try simp only [ew, hO, hg] at hb)) | (simp only [go_sem, Nat.reduceLeDiff, Nat.reduceEqDiff, reduceIte, reduceCtorEq, Nat.reduceAdd, Nat.reduceMul, Nat.reduceSub, Nat.reduceLT, Int.reduceLT, Int.reduceLE, Int.reduceNeg, Int.reduceToNat, Nat.reduceBEq, Nat.reduceBNe, Int.reduceGE, Int.reduceGT, *, cSpc, cIsAttr, cCopyD, cDep, cInside, cHasB, cSortDep, cCompD, Tryz.results62, hO, hg])))
      refine loop_intro { ι := Nat, rs := [(16, 17), (98, 123)], mods := [(97, fun k => .one (.d (.v (.int .i64 k)))), (14, fun k => .one (.d (.v (.bool ((Z.take k).all (lowT (a, b)))))))], boxes := [(13, fun _ => [.d (.v (.int .i64 a)), .d (.v (.int .i64 b))])], arrs := [(7, fun _ => (2, dL Z, 1)), (11, fun _ => (2, dL O, 1))], alis := [(89, 7), (95, 7)], ok := fun k => k ≤ Z.length, mu := fun k => Z.length - k } rfl 0 (Nat.zero_le _) ?_ fun k hk => ?_
      ·(repeat' (first | (refine gate_a fun _ => ?_) | (refine fork_intro (fun hb => ?_) (fun hb => ?_) <;> (try simp only [ew, hO, hg] at hb)) | (simp only [go_sem, Nat.reduceLeDiff, Nat.reduceEqDiff, reduceIte, reduceCtorEq, Nat.reduceAdd, Nat.reduceMul, Nat.reduceSub, Nat.reduceLT, Int.reduceLT, Int.reduceLE, Int.reduceNeg, Int.reduceToNat, Nat.reduceBEq, Nat.reduceBNe, Int.reduceGE, Int.reduceGT, *, cSpc, cIsAttr, cCopyD, cDep, cInside, cHasB, cSortDep, cCompD, Tryz.results62, hO, hg])))
       all_goals first | rfl | skip
      ·dsimp only at k hk
       by_cases h8 : k < Z.length
       ·have et := all_take h8 (0, 0) (lowT (a, b))
        generalize hh : Z.getD k (0, 0) = h at et
        obtain ⟨u, v⟩ := h
        have em : lowT (a, b) (u, v) = (((u, v) == (a, b) || v != b) || !(bitI .andNot .i64 u a == 0)) := rfl
        rw [em] at et
        clear em eF
        generalize hf : (Z.take k).all (lowT (a, b)) = b0 at et
        cases b0
        ·rw [Bool.false_and] at et
         (repeat' (first | (refine gate_a fun _ => ?_) | (refine fork_intro (fun hb => ?_) (fun hb => ?_) <;> (try simp only [ew, hf, hh] at hb)) | (simp only [go_sem, Nat.reduceLeDiff, Nat.reduceEqDiff, reduceIte, reduceCtorEq, Nat.reduceAdd, Nat.reduceMul, Nat.reduceSub, Nat.reduceLT, Int.reduceLT, Int.reduceLE, Int.reduceNeg, Int.reduceToNat, Nat.reduceBEq, Nat.reduceBNe, Int.reduceGE, Int.reduceGT, *, cSpc, cIsAttr, cCopyD, cDep, cInside, cHasB, cSortDep, cCompD, Tryz.results62, hf, hh])))
         refine loop_next (k + 1) (by dsimp only; omega) (by dsimp only; omega) ?_
         (repeat' (first | (refine gate_a fun _ => ?_) | (refine fork_intro (fun hb => ?_) (fun hb => ?_) <;> (try simp only [ew, hf, et, hh] at hb)) | (simp only [go_sem, Nat.reduceLeDiff, Nat.reduceEqDiff, reduceIte, reduceCtorEq, Nat.reduceAdd, Nat.reduceMul, Nat.reduceSub, Nat.reduceLT, Int.reduceLT, Int.reduceLE, Int.reduceNeg, Int.reduceToNat, Nat.reduceBEq, Nat.reduceBNe, Int.reduceGE, Int.reduceGT, *, cSpc, cIsAttr, cCopyD, cDep, cInside, cHasB, cSortDep, cCompD, Tryz.results62, hf, et, hh])))
        ·rw [Bool.true_and] at et
         cases q1 : ((u, v) == (a, b))
         ·rw [q1, Bool.false_or] at et
          cases q2 : (v != b)
          ·rw [q2, Bool.false_or] at et
           (repeat' (first | (refine gate_a fun _ => ?_) | (refine fork_intro (fun hb => ?_) (fun hb => ?_) <;> (try simp only [ew, hf, hh, q1, q2] at hb)) | (simp only [go_sem, Nat.reduceLeDiff, Nat.reduceEqDiff, reduceIte, reduceCtorEq, Nat.reduceAdd, Nat.reduceMul, Nat.reduceSub, Nat.reduceLT, Int.reduceLT, Int.reduceLE, Int.reduceNeg, Int.reduceToNat, Nat.reduceBEq, Nat.reduceBNe, Int.reduceGE, Int.reduceGT, *, cSpc, cIsAttr, cCopyD, cDep, cInside, cHasB, cSortDep, cCompD, Tryz.results62, hf, hh, q1, q2])))
           refine loop_next (k + 1) (by dsimp only; omega) (by dsimp only; omega) ?_
           (repeat' (first | (refine gate_a fun _ => ?_) | (refine fork_intro (fun hb => ?_) (fun hb => ?_) <;> (try simp only [ew, hf, et, hh, q1, q2] at hb)) | (simp only [go_sem, Nat.reduceLeDiff, Nat.reduceEqDiff, reduceIte, reduceCtorEq, Nat.reduceAdd, Nat.reduceMul, Nat.reduceSub, Nat.reduceLT, Int.reduceLT, Int.reduceLE, Int.reduceNeg, Int.reduceToNat, Nat.reduceBEq, Nat.reduceBNe, Int.reduceGE, Int.reduceGT, *, cSpc, cIsAttr, cCopyD, cDep, cInside, cHasB, cSortDep, cCompD, Tryz.results62, hf, et, hh, q1, q2])))
          ·rw [q2, Bool.true_or] at et
           (repeat' (first | (refine gate_a fun _ => ?_) | (refine fork_intro (fun hb => ?_) (fun hb => ?_) <;> (try simp only [ew, hf, hh, q1, q2] at hb)) | (simp only [go_sem, Nat.reduceLeDiff, Nat.reduceEqDiff, reduceIte, reduceCtorEq, Nat.reduceAdd, Nat.reduceMul, Nat.reduceSub, Nat.reduceLT, Int.reduceLT, Int.reduceLE, Int.reduceNeg, Int.reduceToNat, Nat.reduceBEq, Nat.reduceBNe, Int.reduceGE, Int.reduceGT, *, cSpc, cIsAttr, cCopyD, cDep, cInside, cHasB, cSortDep, cCompD, Tryz.results62, hf, hh, q1, q2])))
           refine loop_next (k + 1) (by dsimp only; omega) (by dsimp only; omega) ?_
           (repeat' (first | (refine gate_a fun _ => ?_) | (refine fork_intro (fun hb => ?_) (fun hb => ?_) <;> (try simp only [ew, hf, et, hh, q1, q2] at hb)) | (simp only [go_sem, Nat.reduceLeDiff, Nat.reduceEqDiff, reduceIte, reduceCtorEq, Nat.reduceAdd, Nat.reduceMul, Nat.reduceSub, Nat.reduceLT, Int.reduceLT, Int.reduceLE, Int.reduceNeg, Int.reduceToNat, Nat.reduceBEq, Nat.reduceBNe, Int.reduceGE, Int.reduceGT, *, cSpc, cIsAttr, cCopyD, cDep, cInside, cHasB, cSortDep, cCompD, Tryz.results62, hf, et, hh, q1, q2])))
         ·rw [q1, Bool.true_or, Bool.true_or] at et
          (repeat' (first | (refine gate_a fun _ => ?_) | (refine fork_intro (fun hb => ?_) (fun hb => ?_) <;> (try simp only [ew, hf, hh, q1] at hb)) | (simp only [go_sem, Nat.reduceLeDiff, Nat.reduceEqDiff, reduceIte, reduceCtorEq, Nat.reduceAdd, Nat.reduceMul, Nat.reduceSub, Nat.reduceLT, Int.reduceLT, Int.reduceLE, Int.reduceNeg, Int.reduceToNat, Nat.reduceBEq, Nat.reduceBNe, Int.reduceGE, Int.reduceGT, *, cSpc, cIsAttr, cCopyD, cDep, cInside, cHasB, cSortDep, cCompD, Tryz.results62, hf, hh, q1])))
          refine loop_next (k + 1) (by dsimp only; omega) (by dsimp only; omega) ?_
          (repeat' (first | (refine gate_a fun _ => ?_) | (refine fork_intro (fun hb => ?_) (fun hb => ?_) <;> (try simp only [ew, hf, et, hh, q1] at hb)) | (simp only [go_sem, Nat.reduceLeDiff, Nat.reduceEqDiff, reduceIte, reduceCtorEq, Nat.reduceAdd, Nat.reduceMul, Nat.reduceSub, Nat.reduceLT, Int.reduceLT, Int.reduceLE, Int.reduceNeg, Int.reduceToNat, Nat.reduceBEq, Nat.reduceBNe, Int.reduceGE, Int.reduceGT, *, cSpc, cIsAttr, cCopyD, cDep, cInside, cHasB, cSortDep, cCompD, Tryz.results62, hf, et, hh, q1])))
       ·have e8 : k = Z.length := by omega
        subst e8
        have eZ : Z.take Z.length = Z := List.take_length
        cases hq : Z.all (lowT (a, b))
        ·rw [hq, if_neg (by decide), List.append_nil] at eF
         (repeat' (first | (refine gate_a fun _ => ?_) | (refine fork_intro (fun hb => ?_) (fun hb => ?_) <;> (try simp only [ew, eZ, hq] at hb)) | (simp only [go_sem, Nat.reduceLeDiff, Nat.reduceEqDiff, reduceIte, reduceCtorEq, Nat.reduceAdd, Nat.reduceMul, Nat.reduceSub, Nat.reduceLT, Int.reduceLT, Int.reduceLE, Int.reduceNeg, Int.reduceToNat, Nat.reduceBEq, Nat.reduceBNe, Int.reduceGE, Int.reduceGT, *, cSpc, cIsAttr, cCopyD, cDep, cInside, cHasB, cSortDep, cCompD, Tryz.results62, eZ, hq])))
         refine loop_next (i + 1) (by dsimp only; omega) (by dsimp only; omega) ?_
         (repeat' (first | (refine gate_a fun _ => ?_) | (refine fork_intro (fun hb => ?_) (fun hb => ?_) <;> (try simp only [ew, hO, eZ, hq, eF] at hb)) | (simp only [go_sem, Nat.reduceLeDiff, Nat.reduceEqDiff, reduceIte, reduceCtorEq, Nat.reduceAdd, Nat.reduceMul, Nat.reduceSub, Nat.reduceLT, Int.reduceLT, Int.reduceLE, Int.reduceNeg, Int.reduceToNat, Nat.reduceBEq, Nat.reduceBNe, Int.reduceGE, Int.reduceGT, *, cSpc, cIsAttr, cCopyD, cDep, cInside, cHasB, cSortDep, cCompD, Tryz.results62, hO, eZ, hq, eF])))
        ·rw [hq, if_pos rfl] at eF
         (repeat' (first | (refine gate_a fun _ => ?_) | (refine fork_intro (fun hb => ?_) (fun hb => ?_) <;> (try simp only [ew, eZ, hq, dL_snoc] at hb)) | (simp only [go_sem, Nat.reduceLeDiff, Nat.reduceEqDiff, reduceIte, reduceCtorEq, Nat.reduceAdd, Nat.reduceMul, Nat.reduceSub, Nat.reduceLT, Int.reduceLT, Int.reduceLE, Int.reduceNeg, Int.reduceToNat, Nat.reduceBEq, Nat.reduceBNe, Int.reduceGE, Int.reduceGT, *, cSpc, cIsAttr, cCopyD, cDep, cInside, cHasB, cSortDep, cCompD, Tryz.results62, eZ, hq, dL_snoc])))
         refine loop_next (i + 1) (by dsimp only; omega) (by dsimp only; omega) ?_
         (repeat' (first | (refine gate_a fun _ => ?_) | (refine fork_intro (fun hb => ?_) (fun hb => ?_) <;> (try simp only [ew, hO, eZ, hq, eF, dL_snoc] at hb)) | (simp only [go_sem, Nat.reduceLeDiff, Nat.reduceEqDiff, reduceIte, reduceCtorEq, Nat.reduceAdd, Nat.reduceMul, Nat.reduceSub, Nat.reduceLT, Int.reduceLT, Int.reduceLE, Int.reduceNeg, Int.reduceToNat, Nat.reduceBEq, Nat.reduceBNe, Int.reduceGE, Int.reduceGT, *, cSpc, cIsAttr, cCopyD, cDep, cInside, cHasB, cSortDep, cCompD, Tryz.results62, hO, eZ, hq, eF, dL_snoc])))
     ·have e7 : i = Z.length := by omega
      subst e7
      have eZ : Z.take Z.length = Z := List.take_length
      (repeat' (first | (refine gate_a fun _ => ?_) | (refine fork_intro (fun hb => ?_) (fun hb => ?_) <;> (try simp only [ew, eZ] at hb)) | (simp only [go_sem, Nat.reduceLeDiff, Nat.reduceEqDiff, reduceIte, reduceCtorEq, Nat.reduceAdd, Nat.reduceMul, Nat.reduceSub, Nat.reduceLT, Int.reduceLT, Int.reduceLE, Int.reduceNeg, Int.reduceToNat, Nat.reduceBEq, Nat.reduceBNe, Int.reduceGE, Int.reduceGT, *, cSpc, cIsAttr, cCopyD, cDep, cInside, cHasB, cSortDep, cCompD, Tryz.results62, eZ])))
      all_goals first | rfl | skip
end Go.Own
