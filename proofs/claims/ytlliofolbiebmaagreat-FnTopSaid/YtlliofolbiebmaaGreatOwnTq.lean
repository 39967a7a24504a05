/-
  Transversals and example tables, walked. Conditions: as each theorem states them.
-/
import Derived.Test.YtlliofolbiebmaaGreatOwnTp
import Derived.Test.YtlliofolbiebmaaGreatOwnT4
import Derived.Test.YtlliofolbiebmaaGreatOwnY1
import Derived.Test.YtlliofolbiebmaaGreatOwnTc
set_option linter.unusedSimpArgs false
set_option linter.unusedVariables false
set_option maxRecDepth 20000
set_option maxHeartbeats 4000000
namespace Go.Own
open Go Go.Proofs
attribute [local go_sem] unD_dL dL_length dL_get dL_set dL_inj wfD_dL scal2 beq2 pair_eta dL_scal
def cHits : Contract := ⟨[], false, fun
 | [.one (.sl 1 l), .one (.v (.int .i64 x))] => some (WfI l, [⟨false, [.d (.v (.bool (hitB (unI l) x)))]⟩], [])
 | _ => none⟩
theorem hits_ok : ContractOK E0 80 cHits := by
 refine contract_of_wpc (E := E0) (T := mkT Tryz.prog [] false (fun _ => false) true (fun _ => false)) (mkT_ok (E := E0) .nil) (fn := Tryz.f80) Tryz.func80 (by kernel_rfl) rfl mixedT (by kernel_rfl) rfl ?_
 intro args p rs ms hr
 unfold cHits at hr
 dsimp only at hr
 split at hr
 rotate_left
 ·cases hr
 rename_i l x
 simp only [Option.some.injEq, Prod.mk.injEq] at hr
 obtain ⟨rfl, rfl, rfl⟩ := hr
 refine ⟨rfl, rfl, Nat.le_of_ble_eq_true rfl, ?_⟩
 have hm : maxLen = 9223372036854775807 := rfl
 intro h1 bs
 obtain ⟨es, rfl, hx⟩ := h1.ex
 clear h1
 rw [unI_iL]
 (repeat' (first | (refine gate_a fun _ => ?_) | (refine fork_intro (fun hb => ?_) (fun hb => ?_) <;> (try simp only [ew, bits64] at hb)) | (simp only [go_sem, Nat.reduceLeDiff, Nat.reduceEqDiff, reduceIte, reduceCtorEq, Nat.reduceAdd, Nat.reduceMul, Nat.reduceSub, Nat.reduceLT, Int.reduceLT, Int.reduceLE, Int.reduceNeg, Int.reduceToNat, Nat.reduceBEq, Nat.reduceBNe, Int.reduceGE, Int.reduceGT, *, cHits, Tryz.results80, bits64])))
 refine loop_intro { ι := Nat, rs := [(4, 5), (6, 7), (10, 18)], mods := [(9, fun i => .one (.d (.v (.int .i64 i))))], boxes := [], arrs := [], ok := fun i => i ≤ es.length ∧ (es.drop i).all (fun e => !(bitI .and .i64 e x == 0)) = hitB es x, mu := fun i => es.length - i } rfl 0 ⟨Nat.zero_le _, rfl⟩ ?_ fun i hi => ?_
 ·(repeat' (first | (refine gate_a fun _ => ?_) | (refine fork_intro (fun hb => ?_) (fun hb => ?_) <;> (try simp only [ew] at hb)) | (simp only [go_sem, Nat.reduceLeDiff, Nat.reduceEqDiff, reduceIte, reduceCtorEq, Nat.reduceAdd, Nat.reduceMul, Nat.reduceSub, Nat.reduceLT, Int.reduceLT, Int.reduceLE, Int.reduceNeg, Int.reduceToNat, Nat.reduceBEq, Nat.reduceBNe, Int.reduceGE, Int.reduceGT, *, cHits, Tryz.results80])))
 ·dsimp only at i hi
  obtain ⟨hi, ht⟩ := hi
  by_cases h5 : i < es.length
  ·rw [all_drop' h5] at ht
   cases hq : (bitI .and .i64 (es.getD i 0) x == 0)
   ·rw [hq, Bool.not_false, Bool.true_and] at ht
    (repeat' (first | (refine gate_a fun _ => ?_) | (refine fork_intro (fun hb => ?_) (fun hb => ?_) <;> (try simp only [ew, hq, bits64] at hb)) | (simp only [go_sem, Nat.reduceLeDiff, Nat.reduceEqDiff, reduceIte, reduceCtorEq, Nat.reduceAdd, Nat.reduceMul, Nat.reduceSub, Nat.reduceLT, Int.reduceLT, Int.reduceLE, Int.reduceNeg, Int.reduceToNat, Nat.reduceBEq, Nat.reduceBNe, Int.reduceGE, Int.reduceGT, *, cHits, Tryz.results80, hq, bits64])))
    refine loop_next (i + 1) ⟨by omega, ht⟩ (by dsimp only; omega) ?_
    clear ht
    (repeat' (first | (refine gate_a fun _ => ?_) | (refine fork_intro (fun hb => ?_) (fun hb => ?_) <;> (try simp only [ew] at hb)) | (simp only [go_sem, Nat.reduceLeDiff, Nat.reduceEqDiff, reduceIte, reduceCtorEq, Nat.reduceAdd, Nat.reduceMul, Nat.reduceSub, Nat.reduceLT, Int.reduceLT, Int.reduceLE, Int.reduceNeg, Int.reduceToNat, Nat.reduceBEq, Nat.reduceBNe, Int.reduceGE, Int.reduceGT, *, cHits, Tryz.results80])))
   ·rw [hq, Bool.not_true, Bool.false_and] at ht
    rw [← ht]
    clear ht
    (repeat' (first | (refine gate_a fun _ => ?_) | (refine fork_intro (fun hb => ?_) (fun hb => ?_) <;> (try simp only [ew, hq, bits64] at hb)) | (simp only [go_sem, Nat.reduceLeDiff, Nat.reduceEqDiff, reduceIte, reduceCtorEq, Nat.reduceAdd, Nat.reduceMul, Nat.reduceSub, Nat.reduceLT, Int.reduceLT, Int.reduceLE, Int.reduceNeg, Int.reduceToNat, Nat.reduceBEq, Nat.reduceBNe, Int.reduceGE, Int.reduceGT, *, cHits, Tryz.results80, hq, bits64])))
  ·have e5 : i = es.length := by omega
   subst e5
   rw [List.drop_length, List.all_nil] at ht
   rw [← ht]
   clear ht
   (repeat' (first | (refine gate_a fun _ => ?_) | (refine fork_intro (fun hb => ?_) (fun hb => ?_) <;> (try simp only [ew] at hb)) | (simp only [go_sem, Nat.reduceLeDiff, Nat.reduceEqDiff, reduceIte, reduceCtorEq, Nat.reduceAdd, Nat.reduceMul, Nat.reduceSub, Nat.reduceLT, Int.reduceLT, Int.reduceLE, Int.reduceNeg, Int.reduceToNat, Nat.reduceBEq, Nat.reduceBNe, Int.reduceGE, Int.reduceGT, *, cHits, Tryz.results80])))
def cTrs : Contract := ⟨[], false, fun
 | [.one (.sl 1 l), .one (.v (.int .i64 n))] => some (WfI l ∧ -9223372036854775808 ≤ n ∧ n ≤ 9223372036854775807, [⟨false, [.own 1 (iL (trsF n (unI l))) 1]⟩], [])
 | _ => none⟩
theorem rngF_succ {p : Int → Bool} {k : Nat} : (rng (k + 1)).filter p = (rng k).filter p ++ (if p (k : Nat) then [((k : Nat) : Int)] else []) := by
 unfold rng
 rw [List.range_succ, List.map_append, List.filter_append]
 congr 1
 simp only [List.map_cons, List.map_nil, List.filter_cons, List.filter_nil]
theorem rngF_len {p : Int → Bool} {k : Nat} : ((rng k).filter p).length ≤ k := by
 have := List.length_filter_le p (rng k)
 have e : (rng k).length = k := by simp [rng]
 omega
theorem trs_ok : ContractOK E0 42 cTrs := by
 refine contract_of_wpc (E := E0) (T := mkT Tryz.prog [(46, cIsAttr), (80, cHits), (81, cMinS)] false (fun _ => false) true (fun _ => false)) (mkT_ok (E := E0) (.cons isAttrI_ok (.cons hits_ok (.cons minSI_ok .nil)))) (fn := Tryz.f42) Tryz.func42 (by kernel_rfl) rfl mixedT (by kernel_rfl) rfl ?_
 intro args p rs ms hr
 unfold cTrs at hr
 dsimp only at hr
 split at hr
 rotate_left
 ·cases hr
 rename_i l n
 simp only [Option.some.injEq, Prod.mk.injEq] at hr
 obtain ⟨rfl, rfl, rfl⟩ := hr
 refine ⟨rfl, rfl, Nat.le_of_ble_eq_true rfl, ?_⟩
 have hm : maxLen = 9223372036854775807 := rfl
 rintro ⟨h1, hn1, hn2⟩ bs
 obtain ⟨es, rfl, hx⟩ := h1.ex
 clear h1
 rw [unI_iL]
 have e0 : iL [] = [] := rfl
 by_cases hg : inB n 0 5 = true ∧ es.length ≤ 100
 ·obtain ⟨hn, hl⟩ := hg
  rw [inB_iff] at hn
  obtain ⟨n, rfl⟩ := Int.eq_ofNat_of_zero_le hn.1
  have d1 : decide (((n : Nat) : Int) < 0) = false := decide_eq_false (by omega)
  have d2 : decide (((n : Nat) : Int) > 5) = false := decide_eq_false (by omega)
  have d3 : decide ((es.length : Int) > 100) = false := decide_eq_false (by omega)
  have h32 : 1 ≤ (2 : Int) ^ n ∧ (2 : Int) ^ n ≤ 32 := by
   have : n = 0 ∨ n = 1 ∨ n = 2 ∨ n = 3 ∨ n = 4 ∨ n = 5 := by omega
   rcases this with rfl | rfl | rfl | rfl | rfl | rfl <;> decide
  have eF : trsF n es = if es.all (isAttr n) then selS minT1 ((rng (2 ^ n)).filter (hitB es)) else [] := by
   unfold trsF
   rw [inB_iff.2 hn, decide_eq_true (by omega), Bool.true_and, Bool.true_and, Int.toNat_natCast]
  rw [eF]
  clear eF
  (repeat' (first | (refine gate_a fun _ => ?_) | (refine fork_intro (fun hb => ?_) (fun hb => ?_) <;> (try simp only [ew, d1, d2, d3, e0] at hb)) | (simp only [go_sem, Nat.reduceLeDiff, Nat.reduceEqDiff, reduceIte, reduceCtorEq, Nat.reduceAdd, Nat.reduceMul, Nat.reduceSub, Nat.reduceLT, Int.reduceLT, Int.reduceLE, Int.reduceNeg, Int.reduceToNat, Nat.reduceBEq, Nat.reduceBNe, Int.reduceGE, Int.reduceGT, *, cTrs, cIsAttr, cHits, cMinS, Tryz.results42, d1, d2, d3, e0])))
  refine loop_intro { ι := Nat, rs := [(4, 5), (7, 8), (25, 34)], mods := [(24, fun i => .one (.d (.v (.int .i64 i))))], boxes := [], arrs := [(5, fun _ => (1, iL [], 1))], ok := fun i => i ≤ es.length ∧ (es.drop i).all (isAttr n) = es.all (isAttr n), mu := fun i => es.length - i } rfl 0 ⟨Nat.zero_le _, rfl⟩ ?_ fun i hi => ?_
  ·(repeat' (first | (refine gate_a fun _ => ?_) | (refine fork_intro (fun hb => ?_) (fun hb => ?_) <;> (try simp only [ew, e0] at hb)) | (simp only [go_sem, Nat.reduceLeDiff, Nat.reduceEqDiff, reduceIte, reduceCtorEq, Nat.reduceAdd, Nat.reduceMul, Nat.reduceSub, Nat.reduceLT, Int.reduceLT, Int.reduceLE, Int.reduceNeg, Int.reduceToNat, Nat.reduceBEq, Nat.reduceBNe, Int.reduceGE, Int.reduceGT, *, cTrs, cIsAttr, cHits, cMinS, Tryz.results42, e0])))
   all_goals first | rfl | skip
  ·dsimp only at i hi
   obtain ⟨hi, ht⟩ := hi
   by_cases h5 : i < es.length
   ·rw [all_drop' h5] at ht
    cases hq : isAttr n (es.getD i 0)
    ·rw [hq, Bool.false_and] at ht
     rw [← ht]
     clear ht
     (repeat' (first | (refine gate_a fun _ => ?_) | (refine fork_intro (fun hb => ?_) (fun hb => ?_) <;> (try simp only [ew, hq, e0] at hb)) | (simp only [go_sem, Nat.reduceLeDiff, Nat.reduceEqDiff, reduceIte, reduceCtorEq, Nat.reduceAdd, Nat.reduceMul, Nat.reduceSub, Nat.reduceLT, Int.reduceLT, Int.reduceLE, Int.reduceNeg, Int.reduceToNat, Nat.reduceBEq, Nat.reduceBNe, Int.reduceGE, Int.reduceGT, *, cTrs, cIsAttr, cHits, cMinS, Tryz.results42, hq, e0])))
     all_goals first | rfl | skip
    ·rw [hq, Bool.true_and] at ht
     (repeat' (first | (refine gate_a fun _ => ?_) | (refine fork_intro (fun hb => ?_) (fun hb => ?_) <;> (try simp only [ew, hq] at hb)) | (simp only [go_sem, Nat.reduceLeDiff, Nat.reduceEqDiff, reduceIte, reduceCtorEq, Nat.reduceAdd, Nat.reduceMul, Nat.reduceSub, Nat.reduceLT, Int.reduceLT, Int.reduceLE, Int.reduceNeg, Int.reduceToNat, Nat.reduceBEq, Nat.reduceBNe, Int.reduceGE, Int.reduceGT, *, cTrs, cIsAttr, cHits, cMinS, Tryz.results42, hq])))
     refine loop_next (i + 1) ⟨by omega, ht⟩ (by dsimp only; omega) ?_
     clear ht
     (repeat' (first | (refine gate_a fun _ => ?_) | (refine fork_intro (fun hb => ?_) (fun hb => ?_) <;> (try simp only [ew] at hb)) | (simp only [go_sem, Nat.reduceLeDiff, Nat.reduceEqDiff, reduceIte, reduceCtorEq, Nat.reduceAdd, Nat.reduceMul, Nat.reduceSub, Nat.reduceLT, Int.reduceLT, Int.reduceLE, Int.reduceNeg, Int.reduceToNat, Nat.reduceBEq, Nat.reduceBNe, Int.reduceGE, Int.reduceGT, *, cTrs, cIsAttr, cHits, cMinS, Tryz.results42])))
   ·have e5 : i = es.length := by omega
    subst e5
    rw [List.drop_length, List.all_nil] at ht
    rw [← ht, if_pos rfl]
    clear ht
    have hM : ((2 ^ n : Nat) : Int) = (2 : Int) ^ n := by simp
    generalize hMe : (2 : Nat) ^ n = M at hM ⊢
    have hM32 : M ≤ 32 := by omega
    have hlen := fun k => @rngF_len (hitB es) k
    have hst := fun k => @rngF_succ (hitB es) k
    (repeat' (first | (refine gate_a fun _ => ?_) | (refine fork_intro (fun hb => ?_) (fun hb => ?_) <;> (try simp only [ew, e0] at hb)) | (simp only [go_sem, Nat.reduceLeDiff, Nat.reduceEqDiff, reduceIte, reduceCtorEq, Nat.reduceAdd, Nat.reduceMul, Nat.reduceSub, Nat.reduceLT, Int.reduceLT, Int.reduceLE, Int.reduceNeg, Int.reduceToNat, Nat.reduceBEq, Nat.reduceBNe, Int.reduceGE, Int.reduceGT, *, cTrs, cIsAttr, cHits, cMinS, Tryz.results42, e0])))
    refine loop_intro { ι := Nat, rs := [(34, 47)], mods := [(8, fun k => .one (.d (.v (.int .i64 k)))), (5, fun k => .one (.own 1 (iL ((rng k).filter (hitB es))) 1))], boxes := [], arrs := [], ok := fun k => k ≤ M, mu := fun k => M - k } rfl 0 (Nat.zero_le _) ?_ fun k hk => ?_
    ·have e1 : (rng 0).filter (hitB es) = [] := rfl
     clear hlen hst
     (repeat' (first | (refine gate_a fun _ => ?_) | (refine fork_intro (fun hb => ?_) (fun hb => ?_) <;> (try simp only [ew, e0, e1] at hb)) | (simp only [go_sem, Nat.reduceLeDiff, Nat.reduceEqDiff, reduceIte, reduceCtorEq, Nat.reduceAdd, Nat.reduceMul, Nat.reduceSub, Nat.reduceLT, Int.reduceLT, Int.reduceLE, Int.reduceNeg, Int.reduceToNat, Nat.reduceBEq, Nat.reduceBNe, Int.reduceGE, Int.reduceGT, *, cTrs, cIsAttr, cHits, cMinS, Tryz.results42, e0, e1])))
     all_goals first | rfl | skip
    ·dsimp only at k hk
     have hl2 := hlen k
     have hs2 := hst k
     clear hlen hst
     by_cases h6 : k < M
     ·have hlt : decide (((k : Nat) : Int) < 1 * 2 ^ n) = true := decide_eq_true (by omega)
      generalize hC : (rng k).filter (hitB es) = C at hl2 hs2
      have m1 : C.length ≤ maxLen := Nat.le_trans (show C.length ≤ 32 by omega) (by decide)
      cases hq : hitB es (k : Nat)
      ·rw [hq, if_neg (by decide), List.append_nil] at hs2
       (repeat' (first | (refine gate_a fun _ => ?_) | (refine fork_intro (fun hb => ?_) (fun hb => ?_) <;> (try simp only [ew, hlt, hC, hq] at hb)) | (simp only [go_sem, Nat.reduceLeDiff, Nat.reduceEqDiff, reduceIte, reduceCtorEq, Nat.reduceAdd, Nat.reduceMul, Nat.reduceSub, Nat.reduceLT, Int.reduceLT, Int.reduceLE, Int.reduceNeg, Int.reduceToNat, Nat.reduceBEq, Nat.reduceBNe, Int.reduceGE, Int.reduceGT, *, cTrs, cIsAttr, cHits, cMinS, Tryz.results42, hlt, hC, hq])))
       refine loop_next (k + 1) (by dsimp only; omega) (by dsimp only; omega) ?_
       (repeat' (first | (refine gate_a fun _ => ?_) | (refine fork_intro (fun hb => ?_) (fun hb => ?_) <;> (try simp only [ew, hs2] at hb)) | (simp only [go_sem, Nat.reduceLeDiff, Nat.reduceEqDiff, reduceIte, reduceCtorEq, Nat.reduceAdd, Nat.reduceMul, Nat.reduceSub, Nat.reduceLT, Int.reduceLT, Int.reduceLE, Int.reduceNeg, Int.reduceToNat, Nat.reduceBEq, Nat.reduceBNe, Int.reduceGE, Int.reduceGT, *, cTrs, cIsAttr, cHits, cMinS, Tryz.results42, hs2])))
      ·rw [hq, if_pos rfl] at hs2
       (repeat' (first | (refine gate_a fun _ => ?_) | (refine fork_intro (fun hb => ?_) (fun hb => ?_) <;> (try simp only [ew, hlt, hC, hq, iL_snoc] at hb)) | (simp only [go_sem, Nat.reduceLeDiff, Nat.reduceEqDiff, reduceIte, reduceCtorEq, Nat.reduceAdd, Nat.reduceMul, Nat.reduceSub, Nat.reduceLT, Int.reduceLT, Int.reduceLE, Int.reduceNeg, Int.reduceToNat, Nat.reduceBEq, Nat.reduceBNe, Int.reduceGE, Int.reduceGT, *, cTrs, cIsAttr, cHits, cMinS, Tryz.results42, hlt, hC, hq, iL_snoc])))
       refine loop_next (k + 1) (by dsimp only; omega) (by dsimp only; omega) ?_
       (repeat' (first | (refine gate_a fun _ => ?_) | (refine fork_intro (fun hb => ?_) (fun hb => ?_) <;> (try simp only [ew, hs2, iL_snoc] at hb)) | (simp only [go_sem, Nat.reduceLeDiff, Nat.reduceEqDiff, reduceIte, reduceCtorEq, Nat.reduceAdd, Nat.reduceMul, Nat.reduceSub, Nat.reduceLT, Int.reduceLT, Int.reduceLE, Int.reduceNeg, Int.reduceToNat, Nat.reduceBEq, Nat.reduceBNe, Int.reduceGE, Int.reduceGT, *, cTrs, cIsAttr, cHits, cMinS, Tryz.results42, hs2, iL_snoc])))
     ·have e6 : k = M := by omega
      subst e6
      have hlt : decide (((k : Nat) : Int) < 1 * 2 ^ n) = false := decide_eq_false (by omega)
      clear hM hMe hs2
      generalize hC : (rng k).filter (hitB es) = C at hl2
      have m1 : C.length ≤ maxLen := Nat.le_trans (show C.length ≤ 32 by omega) (by decide)
      (repeat' (first | (refine gate_a fun _ => ?_) | (refine fork_intro (fun hb => ?_) (fun hb => ?_) <;> (try simp only [ew, hlt, hC] at hb)) | (simp only [go_sem, Nat.reduceLeDiff, Nat.reduceEqDiff, reduceIte, reduceCtorEq, Nat.reduceAdd, Nat.reduceMul, Nat.reduceSub, Nat.reduceLT, Int.reduceLT, Int.reduceLE, Int.reduceNeg, Int.reduceToNat, Nat.reduceBEq, Nat.reduceBNe, Int.reduceGE, Int.reduceGT, *, cTrs, cIsAttr, cHits, cMinS, Tryz.results42, hlt, hC])))
      all_goals first | rfl | skip
 ·have e : trsF n es = [] := by
   unfold trsF
   rw [if_neg]
   rw [Bool.and_eq_true, Bool.and_eq_true, decide_eq_true_eq]
   rintro ⟨⟨h1, h2⟩, _⟩
   exact hg ⟨h1, by omega⟩
  rw [e]
  clear e
  have hor : (decide (n < 0) || (decide (n > 5) || decide ((es.length : Int) > 100))) = true := by
   rw [Bool.or_eq_true, Bool.or_eq_true, decide_eq_true_eq, decide_eq_true_eq, decide_eq_true_eq]
   by_cases h1 : n < 0
   ·exact .inl h1
   ·by_cases h2 : n > 5
    ·exact .inr (.inl h2)
    ·refine .inr (.inr ?_)
     have : ¬ es.length ≤ 100 := fun h => hg ⟨inB_iff.2 ⟨by omega, by omega⟩, h⟩
     omega
  clear hg
  cases d1 : decide (n < 0)
  ·cases d2 : decide (n > 5)
   ·have d3 : decide ((es.length : Int) > 100) = true := by rw [d1, d2] at hor; simpa using hor
    clear hor
    (repeat' (first | (refine gate_a fun _ => ?_) | (refine fork_intro (fun hb => ?_) (fun hb => ?_) <;> (try simp only [ew, d1, d2, d3, e0] at hb)) | (simp only [go_sem, Nat.reduceLeDiff, Nat.reduceEqDiff, reduceIte, reduceCtorEq, Nat.reduceAdd, Nat.reduceMul, Nat.reduceSub, Nat.reduceLT, Int.reduceLT, Int.reduceLE, Int.reduceNeg, Int.reduceToNat, Nat.reduceBEq, Nat.reduceBNe, Int.reduceGE, Int.reduceGT, *, cTrs, cIsAttr, cHits, cMinS, Tryz.results42, d1, d2, d3, e0])))
    all_goals first | rfl | skip
   ·clear hor
    (repeat' (first | (refine gate_a fun _ => ?_) | (refine fork_intro (fun hb => ?_) (fun hb => ?_) <;> (try simp only [ew, d1, d2, e0] at hb)) | (simp only [go_sem, Nat.reduceLeDiff, Nat.reduceEqDiff, reduceIte, reduceCtorEq, Nat.reduceAdd, Nat.reduceMul, Nat.reduceSub, Nat.reduceLT, Int.reduceLT, Int.reduceLE, Int.reduceNeg, Int.reduceToNat, Nat.reduceBEq, Nat.reduceBNe, Int.reduceGE, Int.reduceGT, *, cTrs, cIsAttr, cHits, cMinS, Tryz.results42, d1, d2, e0])))
    all_goals first | rfl | skip
  ·clear hor
   (repeat' (first | (refine gate_a fun _ => ?_) | (refine fork_intro (fun hb => ?_) (fun hb => ?_) <;> (try simp only [ew, d1, e0] at hb)) | (simp only [go_sem, Nat.reduceLeDiff, Nat.reduceEqDiff, reduceIte, reduceCtorEq, Nat.reduceAdd, Nat.reduceMul, Nat.reduceSub, Nat.reduceLT, Int.reduceLT, Int.reduceLE, Int.reduceNeg, Int.reduceToNat, Nat.reduceBEq, Nat.reduceBNe, Int.reduceGE, Int.reduceGT, *, cTrs, cIsAttr, cHits, cMinS, Tryz.results42, d1, e0])))
   all_goals first | rfl | skip
end Go.Own
/-
  Difference sets, dependencies by transversals, the program's example tables, agreeing sets of two rows. Conditions: ags each theorem states them.
-/
namespace Go.Own
open Go Go.Proofs
attribute [local go_sem] unD_dL dL_length dL_get dL_set dL_inj wfD_dL scal2 beq2 pair_eta dL_scal
def difL (al : Int) (col : Nat) (ags : List Int) : List Int := (ags.filter fun a => !hasB a (col : Nat)).map (difE al col)
theorem difL_take {al : Int} {col : Nat} {ags : List Int} {i : Nat} (h : i < ags.length) : difL al col (ags.take (i + 1)) = difL al col (ags.take i) ++ (if hasB (ags.getD i 0) (col : Nat) then [] else [difE al col (ags.getD i 0)]) := by
 unfold difL
 rw [take_succ_getD h 0, List.filter_append, List.map_append]
 congr 1
 generalize ags.getD i 0 = x
 have : ([x].filter fun a => !hasB a (col : Nat)) = if hasB x (col : Nat) then [] else [x] := by
  rw [List.filter_cons]
  cases hasB x (col : Nat) <;> rfl
 rw [this]
 cases hasB x (col : Nat) <;> rfl
theorem difL_len {al : Int} {col : Nat} {ags : List Int} : (difL al col ags).length ≤ ags.length := by
 unfold difL
 rw [List.length_map]
 exact List.length_filter_le _ _
theorem ags_len {c : Int} {rs : List (List Int)} {m : Int} : (agsF c rs m).length ≤ 32 := by
 cases h : (tabOK c rs && modeOK m)
 ·unfold agsF; rw [h]; simp
 ·rw [Bool.and_eq_true] at h
  obtain ⟨n, rfl, n1, n5, _⟩ := tab_rows h.1
  have hR := @ags_R n rs m n5
  have hs : (agsF n rs m).Pairwise (· < ·) := by
   unfold agsF
   split
   ·exact dstI_sorted
   ·exact .nil
  have := sorted_lenA (a := 0) (b := 31) hs fun x hx => by have := hR x hx; exact ⟨this.1, this.2⟩
  omega
def cDif : Contract := ⟨[], false, fun
 | [.agg [.v (.int .i64 c), .sl 1 l], .one (.v (.int .i64 m)), .one (.v (.int .i64 a))] => some (WfS l ∧ -9223372036854775808 ≤ c ∧ c ≤ 9223372036854775807, [⟨false, [.own 1 (iL (difF c (unS l) m a)) 1]⟩], [])
 | _ => none⟩
theorem dif_ok : ContractOK E0 43 cDif := by
 refine contract_of_wpc (E := E0) (T := mkT Tryz.prog [(29, cIsTableS), (64, cHasCol), (14, cAgs), (49, cHasB), (51, cDst)] false (fun _ => false) true (fun d => d == 34 || d == 35)) (mkT_ok (E := E0) (.cons isTableI_ok (.cons hasCol_ok (.cons agsI_ok (.cons hasB_ok (.cons dst_ok .nil)))))) (fn := Tryz.f43) Tryz.func43 (by kernel_rfl) rfl mixedT (by kernel_rfl) rfl ?_
 intro args p rs ms hr
 unfold cDif at hr
 dsimp only at hr
 split at hr
 rotate_left
 ·cases hr
 rename_i c l m a
 simp only [Option.some.injEq, Prod.mk.injEq] at hr
 obtain ⟨rfl, rfl, rfl⟩ := hr
 refine ⟨rfl, rfl, Nat.le_of_ble_eq_true rfl, ?_⟩
 have hm : maxLen = 9223372036854775807 := rfl
 rintro ⟨h1, hc1, hc2⟩ bs
 obtain ⟨rs, rfl, hx, hy⟩ := h1.ex
 clear h1
 rw [unS_sL]
 have e0 : iL [] = [] := rfl
 cases ht : tabOK c rs
 ·have e : difF c rs m a = [] := by unfold difF; rw [ht]; rfl
  rw [e]
  clear e
  (repeat' (first | (refine gate_a fun _ => ?_) | (refine fork_intro (fun hb => ?_) (fun hb => ?_) <;> (try simp only [ew, ht, e0] at hb)) | (simp only [go_sem, Nat.reduceLeDiff, Nat.reduceEqDiff, reduceIte, reduceCtorEq, Nat.reduceAdd, Nat.reduceMul, Nat.reduceSub, Nat.reduceLT, Int.reduceLT, Int.reduceLE, Int.reduceNeg, Int.reduceToNat, Nat.reduceBEq, Nat.reduceBNe, Int.reduceGE, Int.reduceGT, *, cDif, cIsTableS, cHasCol, cAgs, cHasB, cDst, Tryz.results43, ht, e0])))
  all_goals first | rfl | skip
 ·cases hcol : (decide (a ≥ 0) && decide (a < c))
  ·have e : difF c rs m a = [] := by unfold difF; rw [ht, hcol]; rfl
   rw [e]
   clear e
   (repeat' (first | (refine gate_a fun _ => ?_) | (refine fork_intro (fun hb => ?_) (fun hb => ?_) <;> (try simp only [ew, ht, hcol, e0] at hb)) | (simp only [go_sem, Nat.reduceLeDiff, Nat.reduceEqDiff, reduceIte, reduceCtorEq, Nat.reduceAdd, Nat.reduceMul, Nat.reduceSub, Nat.reduceLT, Int.reduceLT, Int.reduceLE, Int.reduceNeg, Int.reduceToNat, Nat.reduceBEq, Nat.reduceBNe, Int.reduceGE, Int.reduceGT, *, cDif, cIsTableS, cHasCol, cAgs, cHasB, cDst, Tryz.results43, ht, hcol, e0])))
   all_goals first | rfl | skip
  ·have hcol' := hcol
   rw [Bool.and_eq_true, decide_eq_true_eq, decide_eq_true_eq] at hcol'
   obtain ⟨n, rfl, n1, n5, _⟩ := tab_rows ht
   obtain ⟨a, rfl⟩ := Int.eq_ofNat_of_zero_le hcol'.1
   have han : a < n := by omega
   have h32 : 1 ≤ (2 : Int) ^ n ∧ (2 : Int) ^ n ≤ 32 := by
    have : n = 1 ∨ n = 2 ∨ n = 3 ∨ n = 4 ∨ n = 5 := by omega
    rcases this with rfl | rfl | rfl | rfl | rfl <;> decide
   have h16 := p5 (c := a) (by omega)
   have e : difF n rs m (a : Nat) = dstI (difL (1 * 2 ^ n - 1) a (agsF n rs m)) := by
    unfold difF difL
    rw [ht, hcol]
    simp only [Bool.true_and, if_true, Int.toNat_natCast]
   rw [e]
   clear e
   have hl := @ags_len n rs m
   have hR := @ags_R n rs m n5
   have hRi : ∀ i, i < (agsF n rs m).length → 0 ≤ (agsF n rs m).getD i 0 ∧ (agsF n rs m).getD i 0 ≤ 31 := fun i hi => hR _ (getD_mem hi 0)
   generalize hA : agsF n rs m = A at hl hRi ⊢
   clear hR
   have m0 : A.length ≤ maxLen := Nat.le_trans hl (by decide)
   have htk := fun i => @difL_take (1 * 2 ^ n - 1) a A i
   have hll := fun i => @difL_len (1 * 2 ^ n - 1) a (A.take i)
   have u0 : difL (1 * 2 ^ n - 1) a (A.take 0) = [] := rfl
   (repeat' (first | (refine gate_a fun _ => ?_) | (refine fork_intro (fun hb => ?_) (fun hb => ?_) <;> (try simp only [ew, ht, hcol, hA, e0] at hb)) | (simp only [go_sem, Nat.reduceLeDiff, Nat.reduceEqDiff, reduceIte, reduceCtorEq, Nat.reduceAdd, Nat.reduceMul, Nat.reduceSub, Nat.reduceLT, Int.reduceLT, Int.reduceLE, Int.reduceNeg, Int.reduceToNat, Nat.reduceBEq, Nat.reduceBNe, Int.reduceGE, Int.reduceGT, *, cDif, cIsTableS, cHasCol, cAgs, cHasB, cDst, Tryz.results43, ht, hcol, hA, e0])))
   refine loop_intro { ι := Nat, rs := [(9, 10), (26, 46)], mods := [(25, fun i => .one (.d (.v (.int .i64 i)))), (7, fun i => .one (.own 1 (iL (difL (1 * 2 ^ n - 1) a (A.take i))) 1))], boxes := [(3, fun _ => [.d (.v (.int .i64 n)), .d (.sl 1 (sL rs))])], arrs := [(23, fun _ => (1, iL A, 1))], ok := fun i => i ≤ A.length, mu := fun i => A.length - i } rfl 0 (Nat.zero_le _) ?_ fun i hi => ?_
   ·clear htk hll hRi
    (repeat' (first | (refine gate_a fun _ => ?_) | (refine fork_intro (fun hb => ?_) (fun hb => ?_) <;> (try simp only [ew, u0, e0] at hb)) | (simp only [go_sem, Nat.reduceLeDiff, Nat.reduceEqDiff, reduceIte, reduceCtorEq, Nat.reduceAdd, Nat.reduceMul, Nat.reduceSub, Nat.reduceLT, Int.reduceLT, Int.reduceLE, Int.reduceNeg, Int.reduceToNat, Nat.reduceBEq, Nat.reduceBNe, Int.reduceGE, Int.reduceGT, *, cDif, cIsTableS, cHasCol, cAgs, cHasB, cDst, Tryz.results43, u0, e0])))
    all_goals first | rfl | skip
   ·dsimp only at i hi
    by_cases h5 : i < A.length
    ·have ht1 := htk i h5
     have hl1 := hll i
     obtain ⟨x1, x2⟩ := hRi i h5
     clear htk hll hRi u0
     rw [List.length_take] at hl1
     generalize hx0 : A.getD i 0 = x at ht1 x1 x2
     generalize hC : difL (1 * 2 ^ n - 1) a (A.take i) = C at ht1 hl1
     have m1 : C.length ≤ maxLen := Nat.le_trans (show C.length ≤ 32 by omega) (by decide)
     have eD : bitI .andNot .i64 (bitI .andNot .i64 (1 * 2 ^ n - 1) x) (1 * 2 ^ a) = difE (1 * 2 ^ n - 1) a x := rfl
     cases hh : hasB x (a : Nat)
     ·rw [hh, if_neg (by decide)] at ht1
      (repeat' (first | (refine gate_a fun _ => ?_) | (refine fork_intro (fun hb => ?_) (fun hb => ?_) <;> (try simp only [ew, hx0, hC, hh, eD, bits64, iL_snoc] at hb)) | (simp only [go_sem, Nat.reduceLeDiff, Nat.reduceEqDiff, reduceIte, reduceCtorEq, Nat.reduceAdd, Nat.reduceMul, Nat.reduceSub, Nat.reduceLT, Int.reduceLT, Int.reduceLE, Int.reduceNeg, Int.reduceToNat, Nat.reduceBEq, Nat.reduceBNe, Int.reduceGE, Int.reduceGT, *, cDif, cIsTableS, cHasCol, cAgs, cHasB, cDst, Tryz.results43, hx0, hC, hh, eD, bits64, iL_snoc])))
      refine loop_next (i + 1) (by dsimp only; omega) (by dsimp only; omega) ?_
      (repeat' (first | (refine gate_a fun _ => ?_) | (refine fork_intro (fun hb => ?_) (fun hb => ?_) <;> (try simp only [ew, ht1, iL_snoc] at hb)) | (simp only [go_sem, Nat.reduceLeDiff, Nat.reduceEqDiff, reduceIte, reduceCtorEq, Nat.reduceAdd, Nat.reduceMul, Nat.reduceSub, Nat.reduceLT, Int.reduceLT, Int.reduceLE, Int.reduceNeg, Int.reduceToNat, Nat.reduceBEq, Nat.reduceBNe, Int.reduceGE, Int.reduceGT, *, cDif, cIsTableS, cHasCol, cAgs, cHasB, cDst, Tryz.results43, ht1, iL_snoc])))
     ·rw [hh, if_pos rfl, List.append_nil] at ht1
      (repeat' (first | (refine gate_a fun _ => ?_) | (refine fork_intro (fun hb => ?_) (fun hb => ?_) <;> (try simp only [ew, hx0, hC, hh] at hb)) | (simp only [go_sem, Nat.reduceLeDiff, Nat.reduceEqDiff, reduceIte, reduceCtorEq, Nat.reduceAdd, Nat.reduceMul, Nat.reduceSub, Nat.reduceLT, Int.reduceLT, Int.reduceLE, Int.reduceNeg, Int.reduceToNat, Nat.reduceBEq, Nat.reduceBNe, Int.reduceGE, Int.reduceGT, *, cDif, cIsTableS, cHasCol, cAgs, cHasB, cDst, Tryz.results43, hx0, hC, hh])))
      refine loop_next (i + 1) (by dsimp only; omega) (by dsimp only; omega) ?_
      (repeat' (first | (refine gate_a fun _ => ?_) | (refine fork_intro (fun hb => ?_) (fun hb => ?_) <;> (try simp only [ew, ht1] at hb)) | (simp only [go_sem, Nat.reduceLeDiff, Nat.reduceEqDiff, reduceIte, reduceCtorEq, Nat.reduceAdd, Nat.reduceMul, Nat.reduceSub, Nat.reduceLT, Int.reduceLT, Int.reduceLE, Int.reduceNeg, Int.reduceToNat, Nat.reduceBEq, Nat.reduceBNe, Int.reduceGE, Int.reduceGT, *, cDif, cIsTableS, cHasCol, cAgs, cHasB, cDst, Tryz.results43, ht1])))
    ·have e5 : i = A.length := by omega
     subst e5
     have e7 : A.take A.length = A := List.take_length
     have hl1 := hll A.length
     rw [e7] at hl1
     clear htk hll hRi
     generalize hC : difL (1 * 2 ^ n - 1) a A = C at hl1
     have m1 : C.length ≤ 16777216 := by omega
     have m2 : C.length ≤ maxLen := Nat.le_trans m1 (by decide)
     (repeat' (first | (refine gate_a fun _ => ?_) | (refine fork_intro (fun hb => ?_) (fun hb => ?_) <;> (try simp only [ew, e7, hC] at hb)) | (simp only [go_sem, Nat.reduceLeDiff, Nat.reduceEqDiff, reduceIte, reduceCtorEq, Nat.reduceAdd, Nat.reduceMul, Nat.reduceSub, Nat.reduceLT, Int.reduceLT, Int.reduceLE, Int.reduceNeg, Int.reduceToNat, Nat.reduceBEq, Nat.reduceBNe, Int.reduceGE, Int.reduceGT, *, cDif, cIsTableS, cHasCol, cAgs, cHasB, cDst, Tryz.results43, e7, hC])))
     all_goals first | rfl | skip
def cDt : Contract := ⟨[], false, fun
 | [.agg [.v (.int .i64 c), .sl 1 l], .one (.v (.int .i64 m))] => some (WfS l ∧ -9223372036854775808 ≤ c ∧ c ≤ 9223372036854775807, [⟨false, [.own 2 (dL (dtF c (unS l) m)) 1]⟩], [])
 | _ => none⟩
theorem trsF_facts {n : Int} {es : List Int} : (trsF n es).length ≤ 32 ∧ ∀ x ∈ trsF n es, R5 x := by
 have h : ∀ x ∈ trsF n es, R5 x := fun x hx => by
  unfold trsF at hx
  split at hx
  ·have := isAttr_le (selS_mem hx).2
   exact ⟨this.2.2.1, this.2.2.2⟩
  ·cases hx
 refine ⟨?_, h⟩
 have hs : (trsF n es).Pairwise (· < ·) := by
  unfold trsF
  split
  ·exact selS_sorted
  ·exact .nil
 have := sorted_lenA (a := 0) (b := 31) hs fun x hx => by have := h x hx; exact ⟨this.1, this.2⟩
 omega
theorem srtS_len {ys : List Int} : (srtS ys).length = ys.length := by
 unfold srtS srtF
 rw [List.length_map, (List.mergeSort_perm _ _).length_eq, List.length_map]
theorem dtN_len {c : Int} {rs : List (List Int)} {m : Int} : ∀ {k : Nat}, (dtN c rs m k).length ≤ 32 * k
 | 0 => Nat.le_refl _
 | k + 1 => by
  have h1 := @dtN_len c rs m k
  have h2 := (@trsF_facts c (difF c rs m (k : Nat))).1
  rw [dtN, List.length_append]
  unfold dtC
  rw [List.length_map, srtS_len]
  omega
theorem dt_ok : ContractOK E0 12 cDt := by
 refine contract_of_wpc (E := E0) (T := mkT Tryz.prog [(29, cIsTableS), (30, cMode), (43, cDif), (42, cTrs), (44, cSortS)] false (fun _ => false) true (fun _ => false)) (mkT_ok (E := E0) (.cons isTableI_ok (.cons modeI_ok (.cons dif_ok (.cons trs_ok (.cons sortS_ok .nil)))))) (fn := Tryz.f12) Tryz.func12 (by kernel_rfl) rfl mixedT (by kernel_rfl) rfl ?_
 intro args p rs ms hr
 unfold cDt at hr
 dsimp only at hr
 split at hr
 rotate_left
 ·cases hr
 rename_i c l m
 simp only [Option.some.injEq, Prod.mk.injEq] at hr
 obtain ⟨rfl, rfl, rfl⟩ := hr
 refine ⟨rfl, rfl, Nat.le_of_ble_eq_true rfl, ?_⟩
 have hm : maxLen = 9223372036854775807 := rfl
 rintro ⟨h1, hc1, hc2⟩ bs
 obtain ⟨rs, rfl, hx, hy⟩ := h1.ex
 clear h1
 rw [unS_sL]
 have e0 : dL [] = [] := rfl
 cases ht : tabOK c rs
 ·have e : dtF c rs m = [] := by unfold dtF; rw [ht]; rfl
  rw [e]
  clear e
  (repeat' (first | (refine gate_a fun _ => ?_) | (refine fork_intro (fun hb => ?_) (fun hb => ?_) <;> (try simp only [ew, ht, e0] at hb)) | (simp only [go_sem, Nat.reduceLeDiff, Nat.reduceEqDiff, reduceIte, reduceCtorEq, Nat.reduceAdd, Nat.reduceMul, Nat.reduceSub, Nat.reduceLT, Int.reduceLT, Int.reduceLE, Int.reduceNeg, Int.reduceToNat, Nat.reduceBEq, Nat.reduceBNe, Int.reduceGE, Int.reduceGT, *, cDt, cIsTableS, cMode, cDif, cTrs, cSortS, Tryz.results12, ht, e0])))
  all_goals first | rfl | skip
 ·cases hm : modeOK m
  ·have e : dtF c rs m = [] := by unfold dtF; rw [ht, hm]; rfl
   rw [e]
   clear e
   (repeat' (first | (refine gate_a fun _ => ?_) | (refine fork_intro (fun hb => ?_) (fun hb => ?_) <;> (try simp only [ew, ht, hm, e0] at hb)) | (simp only [go_sem, Nat.reduceLeDiff, Nat.reduceEqDiff, reduceIte, reduceCtorEq, Nat.reduceAdd, Nat.reduceMul, Nat.reduceSub, Nat.reduceLT, Int.reduceLT, Int.reduceLE, Int.reduceNeg, Int.reduceToNat, Nat.reduceBEq, Nat.reduceBNe, Int.reduceGE, Int.reduceGT, *, cDt, cIsTableS, cMode, cDif, cTrs, cSortS, Tryz.results12, ht, hm, e0])))
   all_goals first | rfl | skip
  ·obtain ⟨n, rfl, n1, n5, _⟩ := tab_rows ht
   have e : dtF n rs m = dtN n rs m n := by unfold dtF; rw [ht, hm]; rfl
   rw [e]
   clear e
   have hlen := fun k => @dtN_len n rs m k
   have u0 : dtN n rs m 0 = [] := rfl
   (repeat' (first | (refine gate_a fun _ => ?_) | (refine fork_intro (fun hb => ?_) (fun hb => ?_) <;> (try simp only [ew, ht, hm, e0] at hb)) | (simp only [go_sem, Nat.reduceLeDiff, Nat.reduceEqDiff, reduceIte, reduceCtorEq, Nat.reduceAdd, Nat.reduceMul, Nat.reduceSub, Nat.reduceLT, Int.reduceLT, Int.reduceLE, Int.reduceNeg, Int.reduceToNat, Nat.reduceBEq, Nat.reduceBNe, Int.reduceGE, Int.reduceGT, *, cDt, cIsTableS, cMode, cDif, cTrs, cSortS, Tryz.results12, ht, hm, e0])))
   refine loop_intro { ι := Nat, rs := [(7, 8), (9, 10), (20, 48)], mods := [(6, fun k => .one (.d (.v (.int .i64 k)))), (5, fun k => .one (.own 2 (dL (dtN n rs m k)) 1))], boxes := [(2, fun _ => [.d (.v (.int .i64 n)), .d (.sl 1 (sL rs))])], arrs := [], ok := fun k => k ≤ n, mu := fun k => n - k } rfl 0 (Nat.zero_le _) ?_ fun k hk => ?_
   ·clear hlen
    (repeat' (first | (refine gate_a fun _ => ?_) | (refine fork_intro (fun hb => ?_) (fun hb => ?_) <;> (try simp only [ew, u0, e0] at hb)) | (simp only [go_sem, Nat.reduceLeDiff, Nat.reduceEqDiff, reduceIte, reduceCtorEq, Nat.reduceAdd, Nat.reduceMul, Nat.reduceSub, Nat.reduceLT, Int.reduceLT, Int.reduceLE, Int.reduceNeg, Int.reduceToNat, Nat.reduceBEq, Nat.reduceBNe, Int.reduceGE, Int.reduceGT, *, cDt, cIsTableS, cMode, cDif, cTrs, cSortS, Tryz.results12, u0, e0])))
    all_goals first | rfl | skip
   ·dsimp only at k hk
    by_cases h5 : k < n
    ·have hl := hlen k
     have eS : dtN n rs m (k + 1) = dtN n rs m k ++ (srtS (trsF n (difF n rs m (k : Nat)))).map fun x => (x, ((k : Nat) : Int)) := rfl
     obtain ⟨t1, t2⟩ := @trsF_facts n (difF n rs m (k : Nat))
     have hsl := @srtS_len (trsF n (difF n rs m (k : Nat)))
     obtain ⟨g1, _⟩ := @dif_facts n rs m ⟨by omega, by omega⟩ k h5
     clear hlen u0
     generalize hD : difF n rs m (k : Nat) = Dd at *
     generalize hT : trsF n Dd = T at *
     generalize hS : srtS T = S at *
     generalize hP : dtN n rs m k = P at *
     have m1 : P.length ≤ maxLen := Nat.le_trans (show P.length ≤ 160 by omega) (by decide)
     have m2 : T.length ≤ maxLen := Nat.le_trans t1 (by decide)
     have m3 : S.length ≤ maxLen := by rw [hsl]; exact m2
     have m4 : T.length ≤ 16777216 := by omega
     have m5 : Dd.length ≤ maxLen := Nat.le_trans g1 (by decide)
     have m6 : ∀ y ∈ T, 0 ≤ y ∧ y ≤ 31 := fun y hy => t2 y hy
     have s32 : S.length ≤ 32 := by rw [hsl]; exact t1
     clear t2 hsl
     (repeat' (first | (refine gate_a fun _ => ?_) | (refine fork_intro (fun hb => ?_) (fun hb => ?_) <;> (try simp only [ew, hD, hT, hS, hP] at hb)) | (simp only [go_sem, Nat.reduceLeDiff, Nat.reduceEqDiff, reduceIte, reduceCtorEq, Nat.reduceAdd, Nat.reduceMul, Nat.reduceSub, Nat.reduceLT, Int.reduceLT, Int.reduceLE, Int.reduceNeg, Int.reduceToNat, Nat.reduceBEq, Nat.reduceBNe, Int.reduceGE, Int.reduceGT, *, cDt, cIsTableS, cMode, cDif, cTrs, cSortS, Tryz.results12, hD, hT, hS, hP])))
     refine loop_intro { ι := Nat, rs := [(9, 10), (38, 48)], mods := [(37, fun i => .one (.d (.v (.int .i64 i)))), (5, fun i => .one (.own 2 (dL (P ++ (S.take i).map fun x => (x, ((k : Nat) : Int)))) 1))], boxes := [(2, fun _ => [.d (.v (.int .i64 n)), .d (.sl 1 (sL rs))])], arrs := [(7, fun _ => (1, iL S, 1))], alis := [(35, 7)], ok := fun i => i ≤ S.length, mu := fun i => S.length - i } rfl 0 (Nat.zero_le _) ?_ fun i hi => ?_
     ·have u1 : P ++ (S.take 0).map (fun x => (x, ((k : Nat) : Int))) = P := by simp
      clear m6
      (repeat' (first | (refine gate_a fun _ => ?_) | (refine fork_intro (fun hb => ?_) (fun hb => ?_) <;> (try simp only [ew, u1] at hb)) | (simp only [go_sem, Nat.reduceLeDiff, Nat.reduceEqDiff, reduceIte, reduceCtorEq, Nat.reduceAdd, Nat.reduceMul, Nat.reduceSub, Nat.reduceLT, Int.reduceLT, Int.reduceLE, Int.reduceNeg, Int.reduceToNat, Nat.reduceBEq, Nat.reduceBNe, Int.reduceGE, Int.reduceGT, *, cDt, cIsTableS, cMode, cDif, cTrs, cSortS, Tryz.results12, u1])))
      all_goals first | rfl | skip
     ·dsimp only at i hi
      clear m6
      by_cases h6 : i < S.length
      ·have u2 : P ++ (S.take (i + 1)).map (fun x => (x, ((k : Nat) : Int))) = (P ++ (S.take i).map fun x => (x, ((k : Nat) : Int))) ++ [(S.getD i 0, ((k : Nat) : Int))] := by
        rw [take_succ_getD h6 0, List.map_append, List.append_assoc]; rfl
       have hql : (P ++ (S.take i).map fun x => (x, ((k : Nat) : Int))).length ≤ 192 := by
        rw [List.length_append, List.length_map, List.length_take]; omega
       generalize hQ : P ++ (S.take i).map (fun x => (x, ((k : Nat) : Int))) = Q at u2 hql
       have m7 : Q.length ≤ maxLen := Nat.le_trans hql (by decide)
       (repeat' (first | (refine gate_a fun _ => ?_) | (refine fork_intro (fun hb => ?_) (fun hb => ?_) <;> (try simp only [ew, hQ, dL_snoc] at hb)) | (simp only [go_sem, Nat.reduceLeDiff, Nat.reduceEqDiff, reduceIte, reduceCtorEq, Nat.reduceAdd, Nat.reduceMul, Nat.reduceSub, Nat.reduceLT, Int.reduceLT, Int.reduceLE, Int.reduceNeg, Int.reduceToNat, Nat.reduceBEq, Nat.reduceBNe, Int.reduceGE, Int.reduceGT, *, cDt, cIsTableS, cMode, cDif, cTrs, cSortS, Tryz.results12, hQ, dL_snoc])))
       refine loop_next (i + 1) (by dsimp only; omega) (by dsimp only; omega) ?_
       (repeat' (first | (refine gate_a fun _ => ?_) | (refine fork_intro (fun hb => ?_) (fun hb => ?_) <;> (try simp only [ew, u2, dL_snoc] at hb)) | (simp only [go_sem, Nat.reduceLeDiff, Nat.reduceEqDiff, reduceIte, reduceCtorEq, Nat.reduceAdd, Nat.reduceMul, Nat.reduceSub, Nat.reduceLT, Int.reduceLT, Int.reduceLE, Int.reduceNeg, Int.reduceToNat, Nat.reduceBEq, Nat.reduceBNe, Int.reduceGE, Int.reduceGT, *, cDt, cIsTableS, cMode, cDif, cTrs, cSortS, Tryz.results12, u2, dL_snoc])))
      ·have e6 : i = S.length := by omega
       subst e6
       have e7 : S.take S.length = S := List.take_length
       (repeat' (first | (refine gate_a fun _ => ?_) | (refine fork_intro (fun hb => ?_) (fun hb => ?_) <;> (try simp only [ew, e7] at hb)) | (simp only [go_sem, Nat.reduceLeDiff, Nat.reduceEqDiff, reduceIte, reduceCtorEq, Nat.reduceAdd, Nat.reduceMul, Nat.reduceSub, Nat.reduceLT, Int.reduceLT, Int.reduceLE, Int.reduceNeg, Int.reduceToNat, Nat.reduceBEq, Nat.reduceBNe, Int.reduceGE, Int.reduceGT, *, cDt, cIsTableS, cMode, cDif, cTrs, cSortS, Tryz.results12, e7])))
       refine loop_next (k + 1) (by dsimp only; omega) (by dsimp only; omega) ?_
       (repeat' (first | (refine gate_a fun _ => ?_) | (refine fork_intro (fun hb => ?_) (fun hb => ?_) <;> (try simp only [ew, e7, eS] at hb)) | (simp only [go_sem, Nat.reduceLeDiff, Nat.reduceEqDiff, reduceIte, reduceCtorEq, Nat.reduceAdd, Nat.reduceMul, Nat.reduceSub, Nat.reduceLT, Int.reduceLT, Int.reduceLE, Int.reduceNeg, Int.reduceToNat, Nat.reduceBEq, Nat.reduceBNe, Int.reduceGE, Int.reduceGT, *, cDt, cIsTableS, cMode, cDif, cTrs, cSortS, Tryz.results12, e7, eS])))
    ·have e5 : k = n := by omega
     subst e5
     clear hlen
     (repeat' (first | (refine gate_a fun _ => ?_) | (refine fork_intro (fun hb => ?_) (fun hb => ?_) <;> (try simp only [ew] at hb)) | (simp only [go_sem, Nat.reduceLeDiff, Nat.reduceEqDiff, reduceIte, reduceCtorEq, Nat.reduceAdd, Nat.reduceMul, Nat.reduceSub, Nat.reduceLT, Int.reduceLT, Int.reduceLE, Int.reduceNeg, Int.reduceToNat, Nat.reduceBEq, Nat.reduceBNe, Int.reduceGE, Int.reduceGT, *, cDt, cIsTableS, cMode, cDif, cTrs, cSortS, Tryz.results12])))
     all_goals first | rfl | skip
theorem clsI_ok : ContractOK E0 57 cCls := by
 refine contract_of_wpc (E := E0) (T := mkT Tryz.prog [(54, cAreDeps), (88, cClo)] false (fun _ => false) true (fun _ => false)) (mkT_ok (E := E0) (.cons areDepsI_ok (.cons cloImpl_ok .nil))) (fn := Tryz.f57) Tryz.func57 (by kernel_rfl) rfl mixedT (by kernel_rfl) rfl ?_
 intro args p rs ms hr
 unfold cCls at hr
 dsimp only at hr
 split at hr
 rotate_left
 ·cases hr
 rename_i n l
 simp only [Option.some.injEq, Prod.mk.injEq] at hr
 obtain ⟨rfl, rfl, rfl⟩ := hr
 refine ⟨rfl, rfl, Nat.le_of_ble_eq_true rfl, ?_⟩
 have hm : maxLen = 9223372036854775807 := rfl
 rintro ⟨h1, hn1, hn2⟩ bs
 obtain ⟨ds, rfl, hx⟩ := h1.ex
 clear h1
 rw [unD_dL]
 have e0 : iL [] = [] := rfl
 cases hv : depsOK n ds
 ·have e : clsF n ds = [] := by unfold clsF; rw [hv]; rfl
  rw [e]
  clear e
  (repeat' (first | (refine gate_a fun _ => ?_) | (refine fork_intro (fun hb => ?_) (fun hb => ?_) <;> (try simp only [ew, hv, e0] at hb)) | (simp only [go_sem, Nat.reduceLeDiff, Nat.reduceEqDiff, reduceIte, reduceCtorEq, Nat.reduceAdd, Nat.reduceMul, Nat.reduceSub, Nat.reduceLT, Int.reduceLT, Int.reduceLE, Int.reduceNeg, Int.reduceToNat, Nat.reduceBEq, Nat.reduceBNe, Int.reduceGE, Int.reduceGT, *, cCls, cAreDeps, cClo, Tryz.results57, hv, e0])))
  all_goals first | rfl | skip
 ·obtain ⟨m, rfl, hD⟩ := dpP_of hv
  have hd := depsOK_R hv
  have e : clsF m ds = clsL ds (2 ^ m) := by unfold clsF; rw [hv, if_pos rfl, Int.toNat_natCast]
  rw [e]
  clear e
  have hn := hD.n5
  have h32 := pow32n hn.2
  have hM2 : ((2 ^ m : Nat) : Int) = (2 : Int) ^ m := by simp
  have hlen := fun k => @clsL_length ds k
  generalize hM : 2 ^ m = M at h32 hM2
  clear hD
  (repeat' (first | (refine gate_a fun _ => ?_) | (refine fork_intro (fun hb => ?_) (fun hb => ?_) <;> (try simp only [ew, hv, e0] at hb)) | (simp only [go_sem, Nat.reduceLeDiff, Nat.reduceEqDiff, reduceIte, reduceCtorEq, Nat.reduceAdd, Nat.reduceMul, Nat.reduceSub, Nat.reduceLT, Int.reduceLT, Int.reduceLE, Int.reduceNeg, Int.reduceToNat, Nat.reduceBEq, Nat.reduceBNe, Int.reduceGE, Int.reduceGT, *, cCls, cAreDeps, cClo, Tryz.results57, hv, e0])))
  refine loop_intro { ι := Nat, rs := [(13, 28)], mods := [(6, fun k => .one (.d (.v (.int .i64 k)))), (5, fun k => .one (.own 1 (iL (clsL ds k)) 1))], boxes := [], arrs := [], ok := fun k => k ≤ M, mu := fun k => M - k } rfl 0 (Nat.zero_le _) ?_ fun k hk => ?_
  ·have e1 : clsL ds 0 = [] := rfl
   clear hlen
   (repeat' (first | (refine gate_a fun _ => ?_) | (refine fork_intro (fun hb => ?_) (fun hb => ?_) <;> (try simp only [ew, e0, e1] at hb)) | (simp only [go_sem, Nat.reduceLeDiff, Nat.reduceEqDiff, reduceIte, reduceCtorEq, Nat.reduceAdd, Nat.reduceMul, Nat.reduceSub, Nat.reduceLT, Int.reduceLT, Int.reduceLE, Int.reduceNeg, Int.reduceToNat, Nat.reduceBEq, Nat.reduceBNe, Int.reduceGE, Int.reduceGT, *, cCls, cAreDeps, cClo, Tryz.results57, e0, e1])))
   all_goals first | rfl | skip
  ·dsimp only at k hk
   have hl := hlen k
   clear hlen
   by_cases h5 : k < M
   ·have hle : decide ((k : Int) < 1 * 2 ^ m) = true := decide_eq_true (by omega)
    have eS : clsL ds (k + 1) = clsL ds k ++ (if clo ds (k : Nat) == ((k : Nat) : Int) then [((k : Nat) : Int)] else []) := rfl
    have hk31 : k ≤ 31 := by omega
    have m1 : (clsL ds k).length ≤ maxLen := Nat.le_trans (show (clsL ds k).length ≤ 32 by omega) (by decide)
    generalize hC : clsL ds k = C at hl eS m1
    cases hq : (clo ds (k : Nat) == ((k : Nat) : Int))
    ·rw [hq, if_neg (by decide), List.append_nil] at eS
     (repeat' (first | (refine gate_a fun _ => ?_) | (refine fork_intro (fun hb => ?_) (fun hb => ?_) <;> (try simp only [ew, hv, hle, hC, hq] at hb)) | (simp only [go_sem, Nat.reduceLeDiff, Nat.reduceEqDiff, reduceIte, reduceCtorEq, Nat.reduceAdd, Nat.reduceMul, Nat.reduceSub, Nat.reduceLT, Int.reduceLT, Int.reduceLE, Int.reduceNeg, Int.reduceToNat, Nat.reduceBEq, Nat.reduceBNe, Int.reduceGE, Int.reduceGT, *, cCls, cAreDeps, cClo, Tryz.results57, hv, hle, hC, hq])))
     refine loop_next (k + 1) (by dsimp only; omega) (by dsimp only; omega) ?_
     (repeat' (first | (refine gate_a fun _ => ?_) | (refine fork_intro (fun hb => ?_) (fun hb => ?_) <;> (try simp only [ew, eS] at hb)) | (simp only [go_sem, Nat.reduceLeDiff, Nat.reduceEqDiff, reduceIte, reduceCtorEq, Nat.reduceAdd, Nat.reduceMul, Nat.reduceSub, Nat.reduceLT, Int.reduceLT, Int.reduceLE, Int.reduceNeg, Int.reduceToNat, Nat.reduceBEq, Nat.reduceBNe, Int.reduceGE, Int.reduceGT, *, cCls, cAreDeps, cClo, Tryz.results57, eS])))
    ·rw [hq, if_pos rfl] at eS
     (repeat' (first | (refine gate_a fun _ => ?_) | (refine fork_intro (fun hb => ?_) (fun hb => ?_) <;> (try simp only [ew, hv, hle, hC, hq, iL_snoc] at hb)) | (simp only [go_sem, Nat.reduceLeDiff, Nat.reduceEqDiff, reduceIte, reduceCtorEq, Nat.reduceAdd, Nat.reduceMul, Nat.reduceSub, Nat.reduceLT, Int.reduceLT, Int.reduceLE, Int.reduceNeg, Int.reduceToNat, Nat.reduceBEq, Nat.reduceBNe, Int.reduceGE, Int.reduceGT, *, cCls, cAreDeps, cClo, Tryz.results57, hv, hle, hC, hq, iL_snoc])))
     refine loop_next (k + 1) (by dsimp only; omega) (by dsimp only; omega) ?_
     (repeat' (first | (refine gate_a fun _ => ?_) | (refine fork_intro (fun hb => ?_) (fun hb => ?_) <;> (try simp only [ew, eS, iL_snoc] at hb)) | (simp only [go_sem, Nat.reduceLeDiff, Nat.reduceEqDiff, reduceIte, reduceCtorEq, Nat.reduceAdd, Nat.reduceMul, Nat.reduceSub, Nat.reduceLT, Int.reduceLT, Int.reduceLE, Int.reduceNeg, Int.reduceToNat, Nat.reduceBEq, Nat.reduceBNe, Int.reduceGE, Int.reduceGT, *, cCls, cAreDeps, cClo, Tryz.results57, eS, iL_snoc])))
   ·have e5 : k = M := by omega
    subst e5
    have hle : decide ((k : Int) < 1 * 2 ^ m) = false := decide_eq_false (by omega)
    have hp : 0 ≤ (2 : Int) ^ m ∧ (2 : Int) ^ m ≤ 32 := by omega
    clear hM hM2
    (repeat' (first | (refine gate_a fun _ => ?_) | (refine fork_intro (fun hb => ?_) (fun hb => ?_) <;> (try simp only [ew, hv, hle] at hb)) | (simp only [go_sem, Nat.reduceLeDiff, Nat.reduceEqDiff, reduceIte, reduceCtorEq, Nat.reduceAdd, Nat.reduceMul, Nat.reduceSub, Nat.reduceLT, Int.reduceLT, Int.reduceLE, Int.reduceNeg, Int.reduceToNat, Nat.reduceBEq, Nat.reduceBNe, Int.reduceGE, Int.reduceGT, *, cCls, cAreDeps, cClo, Tryz.results57, hv, hle])))
    all_goals first | rfl | skip
theorem armI_ok : ContractOK E0 19 cArm := by
 refine contract_of_wpc (E := E0) (T := mkT Tryz.prog [(54, cAreDeps), (57, cCls), (58, cRowFor)] false (fun _ => false) true (fun d => d == 33 || d == 34)) (mkT_ok (E := E0) (.cons areDepsI_ok (.cons clsI_ok (.cons rowFor_ok .nil)))) (fn := Tryz.f19) Tryz.func19 (by kernel_rfl) rfl mixedT (by kernel_rfl) rfl ?_
 intro args p rs ms hr
 unfold cArm at hr
 dsimp only at hr
 split at hr
 rotate_left
 ·cases hr
 rename_i n l
 simp only [Option.some.injEq, Prod.mk.injEq] at hr
 obtain ⟨rfl, rfl, rfl⟩ := hr
 refine ⟨rfl, rfl, Nat.le_of_ble_eq_true rfl, ?_⟩
 have hm : maxLen = 9223372036854775807 := rfl
 rintro ⟨h1, hn1, hn2⟩ bs
 obtain ⟨ds, rfl, hx⟩ := h1.ex
 clear h1
 rw [unD_dL]
 unfold arC arR
 have e0 : sL [] = [] := rfl
 have e0' : iL [] = [] := rfl
 cases hv : depsOK n ds
 ·(repeat' (first | (refine gate_a fun _ => ?_) | (refine fork_intro (fun hb => ?_) (fun hb => ?_) <;> (try simp only [ew, hv, e0] at hb)) | (simp only [go_sem, Nat.reduceLeDiff, Nat.reduceEqDiff, reduceIte, reduceCtorEq, Nat.reduceAdd, Nat.reduceMul, Nat.reduceSub, Nat.reduceLT, Int.reduceLT, Int.reduceLE, Int.reduceNeg, Int.reduceToNat, Nat.reduceBEq, Nat.reduceBNe, Int.reduceGE, Int.reduceGT, *, cArm, cAreDeps, cCls, cRowFor, Tryz.results19, hv, e0])))
  all_goals first | rfl | skip
 ·obtain ⟨m, rfl, hD⟩ := dpP_of hv
  rw [if_pos rfl, if_pos rfl, Int.toNat_natCast]
  have hn := hD.n5
  clear hD
  have h32 : 1 ≤ (2 : Int) ^ m ∧ (2 : Int) ^ m ≤ 32 := by
   have : m = 1 ∨ m = 2 ∨ m = 3 ∨ m = 4 ∨ m = 5 := by omega
   rcases this with rfl | rfl | rfl | rfl | rfl <;> decide
  have hc32 := @clsF_facts m ds
  generalize hcs : clsF m ds = cs at hc32 ⊢
  have hA : all2 m = 1 * 2 ^ m - 1 := by unfold all2; rw [Int.toNat_natCast]
  have hal := fun k => @amR_length m cs k
  have eR0 : amR m cs 0 = [zeroR m] := rfl
  have eRS : ∀ k, amR m cs (k + 1) = amR m cs k ++ (if cs.getD k 0 == 1 * 2 ^ m - 1 then [] else [csRow m (cs.getD k 0) ((k : Int) + 1)]) := fun k => by
   unfold amR
   rw [amN, hA, List.map_append, List.cons_append]
   split <;> rfl
  have hcl : ∀ x v, (csRow m x v).length = m := fun x v => csRow_length
  have m0 : cs.length ≤ maxLen := Nat.le_trans hc32 (by decide)
  (repeat' (first | (refine gate_a fun _ => ?_) | (refine fork_intro (fun hb => ?_) (fun hb => ?_) <;> (try simp only [ew, hv, e0, e0', repZ, sL_snoc', hcs] at hb)) | (simp only [go_sem, Nat.reduceLeDiff, Nat.reduceEqDiff, reduceIte, reduceCtorEq, Nat.reduceAdd, Nat.reduceMul, Nat.reduceSub, Nat.reduceLT, Int.reduceLT, Int.reduceLE, Int.reduceNeg, Int.reduceToNat, Nat.reduceBEq, Nat.reduceBNe, Int.reduceGE, Int.reduceGT, *, cArm, cAreDeps, cCls, cRowFor, Tryz.results19, hv, e0, e0', repZ, sL_snoc', hcs])))
  refine loop_intro { ι := Nat, rs := [(7, 9), (24, 44)], mods := [(23, fun k => .one (.d (.v (.int .i64 k))))], boxes := [(4, fun _ => [.d (.v (.int .i64 0)), .d (.v (.slice none 0 0))]), (6, fun k => [.d (.v (.int .i64 m)), .own 1 (sL (amR m cs k)) 1])], arrs := [(21, fun _ => (1, iL cs, 1))], ok := fun k => k ≤ cs.length, mu := fun k => cs.length - k } rfl 0 (Nat.zero_le _) ?_ fun k hk => ?_
  ·have eZ : [[D.sl 1 (iL (zeroR m))]] = sL [zeroR m] := rfl
   clear hal eRS hcl
   (repeat' (first | (refine gate_a fun _ => ?_) | (refine fork_intro (fun hb => ?_) (fun hb => ?_) <;> (try simp only [ew, eR0, eZ, repZ] at hb)) | (simp only [go_sem, Nat.reduceLeDiff, Nat.reduceEqDiff, reduceIte, reduceCtorEq, Nat.reduceAdd, Nat.reduceMul, Nat.reduceSub, Nat.reduceLT, Int.reduceLT, Int.reduceLE, Int.reduceNeg, Int.reduceToNat, Nat.reduceBEq, Nat.reduceBNe, Int.reduceGE, Int.reduceGT, *, cArm, cAreDeps, cCls, cRowFor, Tryz.results19, eR0, eZ, repZ])))
   all_goals first | rfl | skip
  ·dsimp only at k hk
   by_cases h5 : k < cs.length
   ·have eS := eRS k
    have hl := hal k
    have hc1 := hcl (cs.getD k 0) ((k : Int) + 1)
    clear hal eRS eR0 hcl
    generalize hxe : cs.getD k 0 = x at eS hc1
    generalize hR : amR m cs k = R at eS hl
    have m1 : R.length ≤ maxLen := Nat.le_trans (show R.length ≤ 40 by omega) (by decide)
    cases hq : (x == 1 * 2 ^ m - 1)
    ·rw [hq, if_neg (by decide)] at eS
     have hq' : (x != 1 * 2 ^ m - 1) = true := by unfold bne; rw [hq]; rfl
     generalize hCe : csRow m x ((k : Int) + 1) = C at eS hc1
     have m2 : C.length ≤ maxLen := Nat.le_trans (show C.length ≤ 40 by omega) (by decide)
     clear hq
     (repeat' (first | (refine gate_a fun _ => ?_) | (refine fork_intro (fun hb => ?_) (fun hb => ?_) <;> (try simp only [ew, hq', hxe, hR, hCe, bits64, sL_snoc'] at hb)) | (simp only [go_sem, Nat.reduceLeDiff, Nat.reduceEqDiff, reduceIte, reduceCtorEq, Nat.reduceAdd, Nat.reduceMul, Nat.reduceSub, Nat.reduceLT, Int.reduceLT, Int.reduceLE, Int.reduceNeg, Int.reduceToNat, Nat.reduceBEq, Nat.reduceBNe, Int.reduceGE, Int.reduceGT, *, cArm, cAreDeps, cCls, cRowFor, Tryz.results19, hq', hxe, hR, hCe, bits64, sL_snoc'])))
     refine loop_next (k + 1) (by dsimp only; omega) (by dsimp only; omega) ?_
     (repeat' (first | (refine gate_a fun _ => ?_) | (refine fork_intro (fun hb => ?_) (fun hb => ?_) <;> (try simp only [ew, eS, sL_snoc'] at hb)) | (simp only [go_sem, Nat.reduceLeDiff, Nat.reduceEqDiff, reduceIte, reduceCtorEq, Nat.reduceAdd, Nat.reduceMul, Nat.reduceSub, Nat.reduceLT, Int.reduceLT, Int.reduceLE, Int.reduceNeg, Int.reduceToNat, Nat.reduceBEq, Nat.reduceBNe, Int.reduceGE, Int.reduceGT, *, cArm, cAreDeps, cCls, cRowFor, Tryz.results19, eS, sL_snoc'])))
    ·rw [hq, if_pos rfl, List.append_nil] at eS
     have hq' : (x != 1 * 2 ^ m - 1) = false := by unfold bne; rw [hq]; rfl
     clear hq
     (repeat' (first | (refine gate_a fun _ => ?_) | (refine fork_intro (fun hb => ?_) (fun hb => ?_) <;> (try simp only [ew, hq', hxe, hR, bits64] at hb)) | (simp only [go_sem, Nat.reduceLeDiff, Nat.reduceEqDiff, reduceIte, reduceCtorEq, Nat.reduceAdd, Nat.reduceMul, Nat.reduceSub, Nat.reduceLT, Int.reduceLT, Int.reduceLE, Int.reduceNeg, Int.reduceToNat, Nat.reduceBEq, Nat.reduceBNe, Int.reduceGE, Int.reduceGT, *, cArm, cAreDeps, cCls, cRowFor, Tryz.results19, hq', hxe, hR, bits64])))
     refine loop_next (k + 1) (by dsimp only; omega) (by dsimp only; omega) ?_
     (repeat' (first | (refine gate_a fun _ => ?_) | (refine fork_intro (fun hb => ?_) (fun hb => ?_) <;> (try simp only [ew, eS] at hb)) | (simp only [go_sem, Nat.reduceLeDiff, Nat.reduceEqDiff, reduceIte, reduceCtorEq, Nat.reduceAdd, Nat.reduceMul, Nat.reduceSub, Nat.reduceLT, Int.reduceLT, Int.reduceLE, Int.reduceNeg, Int.reduceToNat, Nat.reduceBEq, Nat.reduceBNe, Int.reduceGE, Int.reduceGT, *, cArm, cAreDeps, cCls, cRowFor, Tryz.results19, eS])))
   ·have e5 : k = cs.length := by omega
    subst e5
    clear eRS
    generalize hR : amR m cs cs.length = R
    (repeat' (first | (refine gate_a fun _ => ?_) | (refine fork_intro (fun hb => ?_) (fun hb => ?_) <;> (try simp only [ew, hR] at hb)) | (simp only [go_sem, Nat.reduceLeDiff, Nat.reduceEqDiff, reduceIte, reduceCtorEq, Nat.reduceAdd, Nat.reduceMul, Nat.reduceSub, Nat.reduceLT, Int.reduceLT, Int.reduceLE, Int.reduceNeg, Int.reduceToNat, Nat.reduceBEq, Nat.reduceBNe, Int.reduceGE, Int.reduceGT, *, cArm, cAreDeps, cCls, cRowFor, Tryz.results19, hR])))
    all_goals first | rfl | skip
end Go.Own
