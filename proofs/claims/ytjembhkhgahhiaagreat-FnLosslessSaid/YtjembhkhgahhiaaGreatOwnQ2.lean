/-
  Rows in order, each once: the reference's merging. Conditions: as each theorem states them.
-/
import Derived.Test.YtjembhkhgahhiaaGreatOwnQ1
import Derived.Test.YtjembhkhgahhiaaGreatOwnY5
import Derived.Test.YtjembhkhgahhiaaGreatOwnC5
import Derived.Test.YtjembhkhgahhiaaGreatOwnV5
import Derived.Test.YtjembhkhgahhiaaGreatOwnC7
set_option linter.unusedSimpArgs false
set_option linter.unusedVariables false
set_option maxRecDepth 20000
set_option maxHeartbeats 4000000
namespace Go.Own
open Go Go.Proofs
theorem lex_step {a b : List Int} {i : Nat} (h1 : i < a.length) (h2 : i < b.length) : lexL (a.drop i) (b.drop i) = if a.getD i 0 = b.getD i 0 then lexL (a.drop (i + 1)) (b.drop (i + 1)) else decide (a.getD i 0 < b.getD i 0) := by
 rw [drop_getD h1 0, drop_getD h2 0, lexL]
theorem lex_end {a b : List Int} {i : Nat} (hi : i ≤ a.length ∧ i ≤ b.length) (h : ¬(i < a.length ∧ i < b.length)) : lexL (a.drop i) (b.drop i) = decide (a.length < b.length) := by
 rcases Nat.lt_or_ge i a.length with h1 | h1
 ·have h2 : b.length ≤ i := by omega
  rw [List.drop_of_length_le h2, drop_getD h1 0, lexL, decide_eq_false (by omega)]
 ·rw [List.drop_of_length_le h1]
  rcases Nat.lt_or_ge i b.length with h2 | h2
  ·rw [drop_getD h2 0, lexL, decide_eq_true (by omega)]
  ·rw [List.drop_of_length_le h2, lexL, decide_eq_false (by omega)]
def cLessL : Contract := ⟨[], false, fun
 | [.one (.sl 1 a), .one (.sl 1 b)] => some (WfI a ∧ WfI b, [⟨false, [.d (.v (.bool (lexL (unI a) (unI b))))]⟩], [])
 | _ => none⟩
theorem less_ok : ContractOK E0 154 cLessL := by
 refine cWpc (E := E0) (T := mkT Tryz.prog [] false (fun _ => false) true (fun _ => false)) (mkT_ok (E := E0) .nil) (fn := Tryz.f154) Tryz.func154 (by kernel_rfl) rfl mixedT (by kernel_rfl) rfl ?_
 intro args p rs ms hr
 unfold cLessL at hr
 dsimp only at hr
 split at hr
 rotate_left
 ·cases hr
 rename_i a b
 simp only [Option.some.injEq, Prod.mk.injEq] at hr
 obtain ⟨rfl, rfl, rfl⟩ := hr
 refine ⟨rfl, rfl, Nat.le_of_ble_eq_true rfl, ?_⟩
 have hm : maxLen = 9223372036854775807 := rfl
 rintro ⟨h1, h2⟩ bs
 obtain ⟨xs, rfl, hx⟩ := h1.ex
 obtain ⟨ys, rfl, hy⟩ := h2.ex
 clear h1 h2
 rw [unI_iL, unI_iL]
 (repeat' (first | (refine gA fun _ => ?_) | (refine fkI (fun hb => ?_) (fun hb => ?_) <;> (try simp only [ew] at hb)) | (simp only [go_sem, Nat.reduceLeDiff, Nat.reduceEqDiff, reduceIte, reduceCtorEq, Nat.reduceAdd, Nat.reduceMul, Nat.reduceSub, Nat.reduceLT, Int.reduceLT, Int.reduceLE, Int.reduceNeg, Int.reduceToNat, Nat.reduceBEq, Nat.reduceBNe, Int.reduceGE, Int.reduceGT, *, cLessL, Tryz.results154])))
 refine lpI { ι := Nat, rs := [(4, 5), (6, 36)], mods := [(5, fun i => .one (.d (.v (.int .i64 i))))], boxes := [], arrs := [], ok := fun i => (i ≤ xs.length ∧ i ≤ ys.length) ∧ lexL (xs.drop i) (ys.drop i) = lexL xs ys, mu := fun i => xs.length - i } rfl 0 ⟨⟨Nat.zero_le _, Nat.zero_le _⟩, rfl⟩ ?_ fun i hi => ?_
 ·(repeat' (first | (refine gA fun _ => ?_) | (refine fkI (fun hb => ?_) (fun hb => ?_) <;> (try simp only [ew] at hb)) | (simp only [go_sem, Nat.reduceLeDiff, Nat.reduceEqDiff, reduceIte, reduceCtorEq, Nat.reduceAdd, Nat.reduceMul, Nat.reduceSub, Nat.reduceLT, Int.reduceLT, Int.reduceLE, Int.reduceNeg, Int.reduceToNat, Nat.reduceBEq, Nat.reduceBNe, Int.reduceGE, Int.reduceGT, *, cLessL, Tryz.results154])))
  all_goals first | rfl | skip
 ·dsimp only at i hi
  obtain ⟨hi, ht⟩ := hi
  obtain ⟨hi1, hi2⟩ := hi
  by_cases h5 : i < xs.length ∧ i < ys.length
  ·rw [lex_step h5.1 h5.2] at ht
   obtain ⟨h6, h7⟩ := h5
   by_cases he : xs.getD i 0 = ys.getD i 0
   ·rw [if_pos he] at ht
    have e1 : (xs.getD i 0 != ys.getD i 0) = false := by rw [he]; simp
    (repeat' (first | (refine gA fun _ => ?_) | (refine fkI (fun hb => ?_) (fun hb => ?_) <;> (try simp only [ew, e1] at hb)) | (simp only [go_sem, Nat.reduceLeDiff, Nat.reduceEqDiff, reduceIte, reduceCtorEq, Nat.reduceAdd, Nat.reduceMul, Nat.reduceSub, Nat.reduceLT, Int.reduceLT, Int.reduceLE, Int.reduceNeg, Int.reduceToNat, Nat.reduceBEq, Nat.reduceBNe, Int.reduceGE, Int.reduceGT, *, cLessL, Tryz.results154, e1])))
    refine lpN (i + 1) ⟨⟨by omega, by omega⟩, ht⟩ (by dsimp only; omega) ?_
    clear ht
    (repeat' (first | (refine gA fun _ => ?_) | (refine fkI (fun hb => ?_) (fun hb => ?_) <;> (try simp only [ew, e1] at hb)) | (simp only [go_sem, Nat.reduceLeDiff, Nat.reduceEqDiff, reduceIte, reduceCtorEq, Nat.reduceAdd, Nat.reduceMul, Nat.reduceSub, Nat.reduceLT, Int.reduceLT, Int.reduceLE, Int.reduceNeg, Int.reduceToNat, Nat.reduceBEq, Nat.reduceBNe, Int.reduceGE, Int.reduceGT, *, cLessL, Tryz.results154, e1])))
   ·rw [if_neg he] at ht
    have e1 : (xs.getD i 0 != ys.getD i 0) = true := by simpa using he
    rw [← ht]
    clear ht
    (repeat' (first | (refine gA fun _ => ?_) | (refine fkI (fun hb => ?_) (fun hb => ?_) <;> (try simp only [ew, e1] at hb)) | (simp only [go_sem, Nat.reduceLeDiff, Nat.reduceEqDiff, reduceIte, reduceCtorEq, Nat.reduceAdd, Nat.reduceMul, Nat.reduceSub, Nat.reduceLT, Int.reduceLT, Int.reduceLE, Int.reduceNeg, Int.reduceToNat, Nat.reduceBEq, Nat.reduceBNe, Int.reduceGE, Int.reduceGT, *, cLessL, Tryz.results154, e1])))
    all_goals first | rfl | skip
  ·rw [lex_end ⟨hi1, hi2⟩ h5] at ht
   rw [← ht]
   clear ht
   (repeat' (first | (refine gA fun _ => ?_) | (refine fkI (fun hb => ?_) (fun hb => ?_) <;> (try simp only [ew] at hb)) | (simp only [go_sem, Nat.reduceLeDiff, Nat.reduceEqDiff, reduceIte, reduceCtorEq, Nat.reduceAdd, Nat.reduceMul, Nat.reduceSub, Nat.reduceLT, Int.reduceLT, Int.reduceLE, Int.reduceNeg, Int.reduceToNat, Nat.reduceBEq, Nat.reduceBNe, Int.reduceGE, Int.reduceGT, *, cLessL, Tryz.results154])))
   all_goals first | rfl | omega | (simp; done) | skip
theorem bq1 : (true == false) = false := rfl
theorem bq2 : (false == true) = false := rfl
theorem bq3 : (true == true) = true := rfl
theorem bq4 : (false == false) = true := rfl
attribute [local go_sem] bq1 bq2 bq3 bq4
theorem merge_step {a b : List (List Int)} {i k : Nat} (h1 : i < a.length) (h2 : k < b.length) : mergeL (a.drop i) (b.drop k) = if lexL (a.getD i []) (b.getD k []) = true then a.getD i [] :: mergeL (a.drop (i + 1)) (b.drop k) else
  if lexL (b.getD k []) (a.getD i []) = true then b.getD k [] :: mergeL (a.drop i) (b.drop (k + 1)) else mergeL (a.drop i) (b.drop (k + 1)) := by
 rw [drop_getD h1 [], drop_getD h2 [], mergeL, ← drop_getD h1 [], ← drop_getD h2 []]
theorem merge_a {a b : List (List Int)} {i k : Nat} (h1 : i < a.length) (h2 : k = b.length) : mergeL (a.drop i) (b.drop k) = a.getD i [] :: mergeL (a.drop (i + 1)) (b.drop k) := by
 subst h2
 rw [drop_getD h1 [], List.drop_length, mergeL_nil, mergeL_nil]
theorem merge_b {a b : List (List Int)} {i k : Nat} (h1 : i = a.length) (h2 : k < b.length) : mergeL (a.drop i) (b.drop k) = b.getD k [] :: mergeL (a.drop i) (b.drop (k + 1)) := by
 subst h1
 rw [drop_getD h2 [], List.drop_length, mergeL, mergeL]
def cMergeL : Contract := ⟨[], true, fun
 | [.one (.sl 1 a), .one (.sl 1 b)] => some (WfS a ∧ WfS b ∧ a.length ≤ 16777216 ∧ b.length ≤ 16777216, [⟨false, [.d (.sl 1 (sL (mergeL (unS a) (unS b))))]⟩], [])
 | _ => none⟩
structure MgI (a b : List (List Int)) (z : Nat × Nat × List (List Int)) : Prop where
  i : z.1 ≤ a.length
  k : z.2.1 ≤ b.length
  eq : z.2.2 ++ mergeL (a.drop z.1) (b.drop z.2.1) = mergeL a b
  len : z.2.2.length ≤ z.1 + z.2.1
theorem merge_ok : ContractOK E0 116 cMergeL := by
 refine cWpc (E := E0) (T := mkT Tryz.prog [(154, cLessL)] false (fun _ => false) true (fun d => d == 998 || d == 999)) (mkT_ok (E := E0) (.cons less_ok .nil)) (fn := Tryz.f116) Tryz.func116 (by kernel_rfl) rfl mixedT (by kernel_rfl) rfl ?_
 intro args p rs ms hr
 unfold cMergeL at hr
 dsimp only at hr
 split at hr
 rotate_left
 ·cases hr
 rename_i a b
 simp only [Option.some.injEq, Prod.mk.injEq] at hr
 obtain ⟨rfl, rfl, rfl⟩ := hr
 refine ⟨rfl, rfl, Nat.le_of_ble_eq_true rfl, ?_⟩
 have hm : maxLen = 9223372036854775807 := rfl
 rintro ⟨h1, h2, h3, h4⟩ bs
 obtain ⟨xs, rfl, hx, hx'⟩ := h1.ex
 obtain ⟨ys, rfl, hy, hy'⟩ := h2.ex
 clear h1 h2
 rw [sL_length] at h3 h4
 rw [unS_sL, unS_sL]
 have e0 : sL [] = [] := rfl
 (repeat' (first | (refine gA fun _ => ?_) | (refine fkI (fun hb => ?_) (fun hb => ?_) <;> (try simp only [ew, e0] at hb)) | (simp only [go_sem, Nat.reduceLeDiff, Nat.reduceEqDiff, reduceIte, reduceCtorEq, Nat.reduceAdd, Nat.reduceMul, Nat.reduceSub, Nat.reduceLT, Int.reduceLT, Int.reduceLE, Int.reduceNeg, Int.reduceToNat, Nat.reduceBEq, Nat.reduceBNe, Int.reduceGE, Int.reduceGT, *, cMergeL, cLessL, Tryz.results116, e0])))
 refine lpI { ι := Nat × Nat × List (List Int), rs := [(9, 77)], mods := [(5, fun z => .one (.own 1 (sL z.2.2) 0)), (6, fun z => .one (.d (.v (.int .i64 z.1)))), (7, fun z => .one (.d (.v (.int .i64 z.2.1))))], boxes := [], arrs := [], ok := MgI xs ys, mu := fun z => xs.length + ys.length - z.1 - z.2.1 } rfl (0, 0, []) ⟨Nat.zero_le _, Nat.zero_le _, by simp, by simp⟩ ?_ ?_
 ·(repeat' (first | (refine gA fun _ => ?_) | (refine fkI (fun hb => ?_) (fun hb => ?_) <;> (try simp only [ew, e0] at hb)) | (simp only [go_sem, Nat.reduceLeDiff, Nat.reduceEqDiff, reduceIte, reduceCtorEq, Nat.reduceAdd, Nat.reduceMul, Nat.reduceSub, Nat.reduceLT, Int.reduceLT, Int.reduceLE, Int.reduceNeg, Int.reduceToNat, Nat.reduceBEq, Nat.reduceBNe, Int.reduceGE, Int.reduceGT, *, cMergeL, cLessL, Tryz.results116, e0])))
  all_goals first | rfl | skip
 ·rintro ⟨i, k, out⟩ ⟨z1, z2, z3, z4⟩
  dsimp only at z1 z2 z3 z4
  have zl : out.length ≤ 33554432 := by omega
  have zm : out.length ≤ maxLen := Nat.le_trans zl (by decide)
  have q1 := all_getD hx' i
  have q2 := all_getD hy' k
  have fe : ∀ a : Int, (a == a) = true := fun a => beq_self_eq_true a
  by_cases h5 : i < xs.length
  ·have fi : ((i : Int) == (xs.length : Int)) = false := by rw [beq_eq_false_iff_ne]; omega
   by_cases h6 : k < ys.length
   ·have fk : ((k : Int) == (ys.length : Int)) = false := by rw [beq_eq_false_iff_ne]; omega
    rw [merge_step h5 h6] at z3
    cases hl : lexL (xs.getD i []) (ys.getD k [])
    ·cases hm : lexL (ys.getD k []) (xs.getD i [])
     ·rw [hl, hm, if_neg (by decide), if_neg (by decide)] at z3
      (repeat' (first | (refine gA fun _ => ?_) | (refine fkI (fun hb => ?_) (fun hb => ?_) <;> (try simp only [ew, fi, fk, hl, hm] at hb)) | (simp only [go_sem, Nat.reduceLeDiff, Nat.reduceEqDiff, reduceIte, reduceCtorEq, Nat.reduceAdd, Nat.reduceMul, Nat.reduceSub, Nat.reduceLT, Int.reduceLT, Int.reduceLE, Int.reduceNeg, Int.reduceToNat, Nat.reduceBEq, Nat.reduceBNe, Int.reduceGE, Int.reduceGT, *, cMergeL, cLessL, Tryz.results116, fi, fk, hl, hm])))
      refine lpN (i, k + 1, out) ⟨by dsimp only; omega, by dsimp only; omega, z3, by dsimp only; omega⟩ (by dsimp only; omega) ?_
      clear z3
      (repeat' (first | (refine gA fun _ => ?_) | (refine fkI (fun hb => ?_) (fun hb => ?_) <;> (try simp only [ew, fi, fk, hl, hm] at hb)) | (simp only [go_sem, Nat.reduceLeDiff, Nat.reduceEqDiff, reduceIte, reduceCtorEq, Nat.reduceAdd, Nat.reduceMul, Nat.reduceSub, Nat.reduceLT, Int.reduceLT, Int.reduceLE, Int.reduceNeg, Int.reduceToNat, Nat.reduceBEq, Nat.reduceBNe, Int.reduceGE, Int.reduceGT, *, cMergeL, cLessL, Tryz.results116, fi, fk, hl, hm])))
     ·rw [hl, hm, if_neg (by decide), if_pos rfl] at z3
      (repeat' (first | (refine gA fun _ => ?_) | (refine fkI (fun hb => ?_) (fun hb => ?_) <;> (try simp only [ew, fi, fk, hl, hm, sL_snoc] at hb)) | (simp only [go_sem, Nat.reduceLeDiff, Nat.reduceEqDiff, reduceIte, reduceCtorEq, Nat.reduceAdd, Nat.reduceMul, Nat.reduceSub, Nat.reduceLT, Int.reduceLT, Int.reduceLE, Int.reduceNeg, Int.reduceToNat, Nat.reduceBEq, Nat.reduceBNe, Int.reduceGE, Int.reduceGT, *, cMergeL, cLessL, Tryz.results116, fi, fk, hl, hm, sL_snoc])))
      refine lpN (i, k + 1, out ++ [ys.getD k []]) ⟨by dsimp only; omega, by dsimp only; omega, by simpa using z3, by simp; omega⟩ (by dsimp only; omega) ?_
      clear z3
      (repeat' (first | (refine gA fun _ => ?_) | (refine fkI (fun hb => ?_) (fun hb => ?_) <;> (try simp only [ew, fi, fk, hl, hm, sL_snoc] at hb)) | (simp only [go_sem, Nat.reduceLeDiff, Nat.reduceEqDiff, reduceIte, reduceCtorEq, Nat.reduceAdd, Nat.reduceMul, Nat.reduceSub, Nat.reduceLT, Int.reduceLT, Int.reduceLE, Int.reduceNeg, Int.reduceToNat, Nat.reduceBEq, Nat.reduceBNe, Int.reduceGE, Int.reduceGT, *, cMergeL, cLessL, Tryz.results116, fi, fk, hl, hm, sL_snoc])))
    ·rw [hl, if_pos rfl] at z3
     (repeat' (first | (refine gA fun _ => ?_) | (refine fkI (fun hb => ?_) (fun hb => ?_) <;> (try simp only [ew, fi, fk, hl, sL_snoc] at hb)) | (simp only [go_sem, Nat.reduceLeDiff, Nat.reduceEqDiff, reduceIte, reduceCtorEq, Nat.reduceAdd, Nat.reduceMul, Nat.reduceSub, Nat.reduceLT, Int.reduceLT, Int.reduceLE, Int.reduceNeg, Int.reduceToNat, Nat.reduceBEq, Nat.reduceBNe, Int.reduceGE, Int.reduceGT, *, cMergeL, cLessL, Tryz.results116, fi, fk, hl, sL_snoc])))
     refine lpN (i + 1, k, out ++ [xs.getD i []]) ⟨by dsimp only; omega, by dsimp only; omega, by simpa using z3, by simp; omega⟩ (by dsimp only; omega) ?_
     clear z3
     (repeat' (first | (refine gA fun _ => ?_) | (refine fkI (fun hb => ?_) (fun hb => ?_) <;> (try simp only [ew, fi, fk, hl, sL_snoc] at hb)) | (simp only [go_sem, Nat.reduceLeDiff, Nat.reduceEqDiff, reduceIte, reduceCtorEq, Nat.reduceAdd, Nat.reduceMul, Nat.reduceSub, Nat.reduceLT, Int.reduceLT, Int.reduceLE, Int.reduceNeg, Int.reduceToNat, Nat.reduceBEq, Nat.reduceBNe, Int.reduceGE, Int.reduceGT, *, cMergeL, cLessL, Tryz.results116, fi, fk, hl, sL_snoc])))
   ·have e6 : k = ys.length := by omega
    rw [merge_a h5 e6] at z3
    subst e6
    clear q2
    (repeat' (first | (refine gA fun _ => ?_) | (refine fkI (fun hb => ?_) (fun hb => ?_) <;> (try simp only [ew, fi, fe, sL_snoc] at hb)) | (simp only [go_sem, Nat.reduceLeDiff, Nat.reduceEqDiff, reduceIte, reduceCtorEq, Nat.reduceAdd, Nat.reduceMul, Nat.reduceSub, Nat.reduceLT, Int.reduceLT, Int.reduceLE, Int.reduceNeg, Int.reduceToNat, Nat.reduceBEq, Nat.reduceBNe, Int.reduceGE, Int.reduceGT, *, cMergeL, cLessL, Tryz.results116, fi, fe, sL_snoc])))
    refine lpN (i + 1, ys.length, out ++ [xs.getD i []]) ⟨by dsimp only; omega, by dsimp only; omega, by simpa using z3, by simp; omega⟩ (by dsimp only; omega) ?_
    clear z3
    (repeat' (first | (refine gA fun _ => ?_) | (refine fkI (fun hb => ?_) (fun hb => ?_) <;> (try simp only [ew, fi, fe, sL_snoc] at hb)) | (simp only [go_sem, Nat.reduceLeDiff, Nat.reduceEqDiff, reduceIte, reduceCtorEq, Nat.reduceAdd, Nat.reduceMul, Nat.reduceSub, Nat.reduceLT, Int.reduceLT, Int.reduceLE, Int.reduceNeg, Int.reduceToNat, Nat.reduceBEq, Nat.reduceBNe, Int.reduceGE, Int.reduceGT, *, cMergeL, cLessL, Tryz.results116, fi, fe, sL_snoc])))
  ·have e5 : i = xs.length := by omega
   by_cases h6 : k < ys.length
   ·have fk : ((k : Int) == (ys.length : Int)) = false := by rw [beq_eq_false_iff_ne]; omega
    rw [merge_b e5 h6] at z3
    subst e5
    clear q1
    (repeat' (first | (refine gA fun _ => ?_) | (refine fkI (fun hb => ?_) (fun hb => ?_) <;> (try simp only [ew, fk, fe, sL_snoc] at hb)) | (simp only [go_sem, Nat.reduceLeDiff, Nat.reduceEqDiff, reduceIte, reduceCtorEq, Nat.reduceAdd, Nat.reduceMul, Nat.reduceSub, Nat.reduceLT, Int.reduceLT, Int.reduceLE, Int.reduceNeg, Int.reduceToNat, Nat.reduceBEq, Nat.reduceBNe, Int.reduceGE, Int.reduceGT, *, cMergeL, cLessL, Tryz.results116, fk, fe, sL_snoc])))
    refine lpN (xs.length, k + 1, out ++ [ys.getD k []]) ⟨by dsimp only; omega, by dsimp only; omega, by simpa using z3, by simp; omega⟩ (by dsimp only; omega) ?_
    clear z3
    (repeat' (first | (refine gA fun _ => ?_) | (refine fkI (fun hb => ?_) (fun hb => ?_) <;> (try simp only [ew, fk, fe, sL_snoc] at hb)) | (simp only [go_sem, Nat.reduceLeDiff, Nat.reduceEqDiff, reduceIte, reduceCtorEq, Nat.reduceAdd, Nat.reduceMul, Nat.reduceSub, Nat.reduceLT, Int.reduceLT, Int.reduceLE, Int.reduceNeg, Int.reduceToNat, Nat.reduceBEq, Nat.reduceBNe, Int.reduceGE, Int.reduceGT, *, cMergeL, cLessL, Tryz.results116, fk, fe, sL_snoc])))
   ·have e6 : k = ys.length := by omega
    subst e5 e6
    rw [List.drop_length, List.drop_length, mergeL, List.append_nil] at z3
    subst z3
    clear q1 q2
    (repeat' (first | (refine gA fun _ => ?_) | (refine fkI (fun hb => ?_) (fun hb => ?_) <;> (try simp only [ew] at hb)) | (simp only [go_sem, Nat.reduceLeDiff, Nat.reduceEqDiff, reduceIte, reduceCtorEq, Nat.reduceAdd, Nat.reduceMul, Nat.reduceSub, Nat.reduceLT, Int.reduceLT, Int.reduceLE, Int.reduceNeg, Int.reduceToNat, Nat.reduceBEq, Nat.reduceBNe, Int.reduceGE, Int.reduceGT, *, cMergeL, cLessL, Tryz.results116])))
    all_goals first | rfl | skip
def cOnceK (n : Nat) : Contract := ⟨[], false, fun
 | [.one (.sl 1 l)] => some (WfS l ∧ l.length < n ∧ l.length ≤ 16777216 ∧ ∀ r ∈ unS l, r.length ≤ 16777216, [⟨false, [.d (.sl 1 (sL (onceL (unS l))))]⟩], [])
 | _ => none⟩
def cOnceL : Contract := ⟨[], false, fun
 | [.one (.sl 1 l)] => some (WfS l ∧ l.length ≤ 16777216 ∧ ∀ r ∈ unS l, r.length ≤ 16777216, [⟨false, [.d (.sl 1 (sL (onceL (unS l))))]⟩], [])
 | _ => none⟩
theorem sL_take'' {rs : List (List Int)} {i : Nat} : (sL rs).take i = sL (rs.take i) := by simp [sL, List.map_take]
theorem sL_drop'' {rs : List (List Int)} {i : Nat} : (sL rs).drop i = sL (rs.drop i) := by simp [sL, List.map_drop]
theorem onceK_step {n : Nat} (ih : ContractOK E0 61 (cOnceK n)) : ContractOK E0 61 (cOnceK (n + 1)) := by
 refine cWpc (E := E0) (T := mkT Tryz.prog [(61, (cOnceK n)), (116, cMergeL)] false (fun d => d == 25 || d == 31) true (fun _ => false)) (mkT_ok (E := E0) (.cons ih (.cons merge_ok .nil))) (fn := Tryz.f61) Tryz.func61 (by kernel_rfl) rfl mixedT (by kernel_rfl) rfl ?_
 intro args p rs ms hr
 unfold cOnceK at hr
 dsimp only at hr
 split at hr
 rotate_left
 ·cases hr
 rename_i l
 simp only [Option.some.injEq, Prod.mk.injEq] at hr
 obtain ⟨rfl, rfl, rfl⟩ := hr
 refine ⟨rfl, rfl, Nat.le_of_ble_eq_true rfl, ?_⟩
 have hm : maxLen = 9223372036854775807 := rfl
 rintro ⟨h1, h2, h3, h4⟩ bs
 obtain ⟨rs, rfl, hx, hy⟩ := h1.ex
 clear h1
 rw [sL_length] at h2 h3
 rw [unS_sL] at h4 ⊢
 have e0 : sL [] = [] := rfl
 rcases rs with _ | ⟨r, _ | ⟨s, rs⟩⟩
 ·have e1 : onceL [] = [] := rfl
  rw [e1]
  (repeat' (first | (refine gA fun _ => ?_) | (refine fkI (fun hb => ?_) (fun hb => ?_) <;> (try simp only [ew, e0] at hb)) | (simp only [go_sem, Nat.reduceLeDiff, Nat.reduceEqDiff, reduceIte, reduceCtorEq, Nat.reduceAdd, Nat.reduceMul, Nat.reduceSub, Nat.reduceLT, Int.reduceLT, Int.reduceLE, Int.reduceNeg, Int.reduceToNat, Nat.reduceBEq, Nat.reduceBNe, Int.reduceGE, Int.reduceGT, *, cOnceK, cMergeL, Tryz.results61, e0])))
  all_goals first | rfl | (exfalso; omega) | skip
 ·rw [onceL_one]
  have q1 := hy r (by simp)
  have q2 := h4 r (by simp)
  have e1 : ([r] : List (List Int)).getD 0 [] = r := rfl
  have e2 : sL [r] = [[D.sl 1 (iL r)]] := rfl
  clear hy h4
  (repeat' (first | (refine gA fun _ => ?_) | (refine fkI (fun hb => ?_) (fun hb => ?_) <;> (try simp only [ew, e0, e1, sL_snoc, iL_allscal] at hb)) | (simp only [go_sem, Nat.reduceLeDiff, Nat.reduceEqDiff, reduceIte, reduceCtorEq, Nat.reduceAdd, Nat.reduceMul, Nat.reduceSub, Nat.reduceLT, Int.reduceLT, Int.reduceLE, Int.reduceNeg, Int.reduceToNat, Nat.reduceBEq, Nat.reduceBNe, Int.reduceGE, Int.reduceGT, *, cOnceK, cMergeL, Tryz.results61, e0, e1, sL_snoc, iL_allscal])))
  all_goals first | rfl | (exfalso; omega) | skip
 ·generalize hL : r :: s :: rs = L at h2 h3 h4 hx hy ⊢
  have hlen : 2 ≤ L.length := by rw [← hL]; simp
  have hne : L ≠ [] := by rw [← hL]; simp
  have eo := @onceL_halves L (L.length / 2)
  rw [← eo]
  clear eo hL
  have k1 : (L.take (L.length / 2)).length < n := by rw [List.length_take]; omega
  have k2 : (L.drop (L.length / 2)).length < n := by rw [List.length_drop]; omega
  have k3 : (L.take (L.length / 2)).length ≤ 16777216 := by rw [List.length_take]; omega
  have k4 : (L.drop (L.length / 2)).length ≤ 16777216 := by rw [List.length_drop]; omega
  have k5 : ∀ r ∈ L.take (L.length / 2), r.length ≤ 16777216 := fun r hr => h4 r (List.mem_of_mem_take hr)
  have k6 : ∀ r ∈ L.drop (L.length / 2), r.length ≤ 16777216 := fun r hr => h4 r (List.mem_of_mem_drop hr)
  have k7 : ∀ r ∈ L.take (L.length / 2), r.length ≤ maxLen := fun r hr => hy r (List.mem_of_mem_take hr)
  have k8 : ∀ r ∈ L.drop (L.length / 2), r.length ≤ maxLen := fun r hr => hy r (List.mem_of_mem_drop hr)
  have m1 := @onceL_length (L.take (L.length / 2))
  have m2 := @onceL_length (L.drop (L.length / 2))
  have m3 : ∀ r ∈ onceL (L.take (L.length / 2)), r.length ≤ maxLen := fun r hr => k7 r (onceL_mem.1 hr)
  have m4 : ∀ r ∈ onceL (L.drop (L.length / 2)), r.length ≤ maxLen := fun r hr => k8 r (onceL_mem.1 hr)
  have ed : ((L.length : Int)).tdiv 2 = ((L.length / 2 : Nat) : Int) := by have := Int.ofNat_tdiv L.length 2; exact this.symm
  generalize hA : L.take (L.length / 2) = A at k1 k3 k5 k7 m1 m3 ⊢
  generalize hB : L.drop (L.length / 2) = B at k2 k4 k6 k8 m2 m4 ⊢
  generalize hOA : onceL A = OA at m1 m3 ⊢
  generalize hOB : onceL B = OB at m2 m4 ⊢
  have n1 : A.length ≤ maxLen := Nat.le_trans k3 (by decide)
  have n2 : B.length ≤ maxLen := Nat.le_trans k4 (by decide)
  have n3 : OA.length ≤ 16777216 := Nat.le_trans m1 k3
  have n4 : OB.length ≤ 16777216 := Nat.le_trans m2 k4
  have n5 : OA.length ≤ maxLen := Nat.le_trans n3 (by decide)
  have n6 : OB.length ≤ maxLen := Nat.le_trans n4 (by decide)
  clear hy h4
  (repeat' (first | (refine gA fun _ => ?_) | (refine fkI (fun hb => ?_) (fun hb => ?_) <;> (try simp only [ew, e0, ed, sL_take'', sL_drop'', hA, hB, hOA, hOB, List.take_length] at hb)) | (simp only [go_sem, Nat.reduceLeDiff, Nat.reduceEqDiff, reduceIte, reduceCtorEq, Nat.reduceAdd, Nat.reduceMul, Nat.reduceSub, Nat.reduceLT, Int.reduceLT, Int.reduceLE, Int.reduceNeg, Int.reduceToNat, Nat.reduceBEq, Nat.reduceBNe, Int.reduceGE, Int.reduceGT, *, cOnceK, cMergeL, Tryz.results61, e0, ed, sL_take'', sL_drop'', hA, hB, hOA, hOB, List.take_length])))
  all_goals first | rfl | (exfalso; omega) | skip
theorem onceK_ok : ∀ n, ContractOK E0 61 (cOnceK n) := by
 intro n
 induction n with
 | zero =>
  refine ⟨⟨Tryz.f61, Tryz.func61, by kernel_rfl, rfl⟩, ?_⟩
  intro args p rs ms hr hp
  exfalso
  unfold cOnceK at hr
  dsimp only at hr
  split at hr
  ·simp only [Option.some.injEq, Prod.mk.injEq] at hr
   obtain ⟨rfl, _, _⟩ := hr
   have := hp.2.1
   omega
  ·cases hr
 | succ n ih => exact onceK_step ih
theorem once_L_ok : ContractOK E0 61 cOnceL := by
 refine ⟨(onceK_ok 16777217).1, ?_⟩
 intro args p rs ms hr hp
 unfold cOnceL at hr
 dsimp only at hr
 split at hr
 ·rename_i l
  simp only [Option.some.injEq, Prod.mk.injEq] at hr
  obtain ⟨rfl, rfl, rfl⟩ := hr
  obtain ⟨h1, h2, h3⟩ := hp
  exact (onceK_ok 16777217).2 _ _ _ _ rfl ⟨h1, by omega, h2, h3⟩
 ·cases hr
end Go.Own
