/-
  The joining of a table's parts, on both sides. Conditions: as each theorem states them.
-/
import Derived.Test.YtjembhkhgahhiaaGreatOwnQ6
import Derived.Test.YtjembhkhgahhiaaGreatOwnC8
import Derived.Test.YtjembhkhgahhiaaGreatOwnLt
set_option linter.unusedSimpArgs false
set_option linter.unusedVariables false
set_option maxRecDepth 20000
set_option maxHeartbeats 4000000
namespace Go.Own
open Go Go.Proofs
attribute [local go_sem] bq1 bq2 bq3 bq4
theorem prjI_ok : ContractOK E0 52 cPrj := by
 refine cWpc (E := E0) (T := mkT Tryz.prog [(50, cIsTableS), (91, cIsAttr), (51, cMem), (54, cSortR), (108, cCompF), (46, cEqIntS)] false (fun _ => false) true (fun _ => false)) (mkT_ok (E := E0) (.cons isTableI_ok (.cons isAttrI_ok (.cons memI_ok (.cons sortR_ok (.cons compF_ok (.cons sameInts_ok .nil))))))) (fn := Tryz.f52) Tryz.func52 (by kernel_rfl) rfl mixedT (by kernel_rfl) rfl ?_
 intro args p rs ms hr
 unfold cPrj at hr
 dsimp only at hr
 split at hr
 rotate_left
 ·cases hr
 rename_i c l x
 simp only [Option.some.injEq, Prod.mk.injEq] at hr
 obtain ⟨rfl, rfl, rfl⟩ := hr
 refine ⟨rfl, rfl, Nat.le_of_ble_eq_true rfl, ?_⟩
 have hm : maxLen = 9223372036854775807 := rfl
 rintro ⟨h1, hc1, hc2⟩ bs
 obtain ⟨rs, rfl, hx, hy⟩ := h1.ex
 clear h1
 rw [unS_sL]
 unfold prC prR
 have e0 : sL [] = [] := rfl
 cases hok : prOK c rs x
 ·have hok' := hok
  unfold prOK at hok'
  cases ht : tabOK c rs
  ·(repeat' (first | (refine gA fun _ => ?_) | (refine fkI (fun hb => ?_) (fun hb => ?_) <;> (try simp only [ew, e0] at hb)) | (simp only [go_sem, Nat.reduceLeDiff, Nat.reduceEqDiff, reduceIte, reduceCtorEq, Nat.reduceAdd, Nat.reduceMul, Nat.reduceSub, Nat.reduceLT, Int.reduceLT, Int.reduceLE, Int.reduceNeg, Int.reduceToNat, Nat.reduceBEq, Nat.reduceBNe, Int.reduceGE, Int.reduceGT, *, cPrj, cIsTableS, cIsAttr, cMem, cSortR, cCompF, cEqIntS, Tryz.results52, e0])))
   all_goals first | rfl | skip
  ·cases hz : (x == 0)
   ·rw [ht, hz] at hok'
    have hi : isAttr c x = false := by simpa using hok'
    (repeat' (first | (refine gA fun _ => ?_) | (refine fkI (fun hb => ?_) (fun hb => ?_) <;> (try simp only [ew, e0, hz, hi] at hb)) | (simp only [go_sem, Nat.reduceLeDiff, Nat.reduceEqDiff, reduceIte, reduceCtorEq, Nat.reduceAdd, Nat.reduceMul, Nat.reduceSub, Nat.reduceLT, Int.reduceLT, Int.reduceLE, Int.reduceNeg, Int.reduceToNat, Nat.reduceBEq, Nat.reduceBNe, Int.reduceGE, Int.reduceGT, *, cPrj, cIsTableS, cIsAttr, cMem, cSortR, cCompF, cEqIntS, Tryz.results52, e0, hz, hi])))
    all_goals first | rfl | skip
   ·(repeat' (first | (refine gA fun _ => ?_) | (refine fkI (fun hb => ?_) (fun hb => ?_) <;> (try simp only [ew, e0, hz] at hb)) | (simp only [go_sem, Nat.reduceLeDiff, Nat.reduceEqDiff, reduceIte, reduceCtorEq, Nat.reduceAdd, Nat.reduceMul, Nat.reduceSub, Nat.reduceLT, Int.reduceLT, Int.reduceLE, Int.reduceNeg, Int.reduceToNat, Nat.reduceBEq, Nat.reduceBNe, Int.reduceGE, Int.reduceGT, *, cPrj, cIsTableS, cIsAttr, cMem, cSortR, cCompF, cEqIntS, Tryz.results52, e0, hz])))
    all_goals first | rfl | skip
 ·have hok' := hok
  unfold prOK at hok'
  rw [Bool.and_eq_true, Bool.and_eq_true] at hok'
  obtain ⟨⟨ht, hi⟩, hz⟩ := hok'
  have hz : (x == 0) = false := by simpa using hz
  have hc := tab_c ht
  have h40 : rs.length ≤ 40 := by
   have := ht
   simp only [tabOK, Bool.and_eq_true, decide_eq_true_eq] at this
   omega
  have hlen : ∀ i, i < rs.length → ((rs.getD i []).length : Int) = c := fun i h => by
   obtain ⟨c', rfl, _, _, _, q⟩ := tab_rows ht
   rw [q i h]
  obtain ⟨f1, f2⟩ := @mem_facts x
  have f3 := mem_lt hc hi
  rw [if_pos rfl, if_pos rfl]
  unfold prL
  clear hok
  generalize hm : mem x = m at f1 f2 f3 ⊢
  have f4 : ∀ k, k < m.length → 0 ≤ m.getD k 0 ∧ (m.getD k 0).toNat < c.toNat := fun k hk => f3 _ (getD_mem hk 0)
  clear f2 f3
  have g1 : (rs.map (prRow m)).length = rs.length := by simp
  have g2 : ∀ r ∈ rs.map (prRow m), r.length ≤ 5 := fun r hr => by
   obtain ⟨q, _, rfl⟩ := List.mem_map.1 hr
   unfold prRow; simpa using f1
  (repeat' (first | (refine gA fun _ => ?_) | (refine fkI (fun hb => ?_) (fun hb => ?_) <;> (try simp only [ew, e0, hz, hm] at hb)) | (simp only [go_sem, Nat.reduceLeDiff, Nat.reduceEqDiff, reduceIte, reduceCtorEq, Nat.reduceAdd, Nat.reduceMul, Nat.reduceSub, Nat.reduceLT, Int.reduceLT, Int.reduceLE, Int.reduceNeg, Int.reduceToNat, Nat.reduceBEq, Nat.reduceBNe, Int.reduceGE, Int.reduceGT, *, cPrj, cIsTableS, cIsAttr, cMem, cSortR, cCompF, cEqIntS, Tryz.results52, e0, hz, hm])))
  refine lpI { ι := Nat, rs := [(8, 10), (11, 12), (36, 61)], mods := [(35, fun i => .one (.d (.v (.int .i64 i))))], boxes := [(2, fun _ => [.d (.v (.int .i64 c)), .d (.sl 1 (sL rs))]), (4, fun _ => [.d (.v (.int .i64 0)), .d (.v (.slice none 0 0))]), (6, fun i => [.d (.v (.int .i64 m.length)), .own 1 (sL ((rs.take i).map (prRow m))) 1])], arrs := [(5, fun _ => (1, iL m, 1))], ok := fun i => i ≤ rs.length, mu := fun i => rs.length - i } rfl 0 (Nat.zero_le _) ?_ fun i hi => ?_
  ·clear g2
   (repeat' (first | (refine gA fun _ => ?_) | (refine fkI (fun hb => ?_) (fun hb => ?_) <;> (try simp only [ew, e0] at hb)) | (simp only [go_sem, Nat.reduceLeDiff, Nat.reduceEqDiff, reduceIte, reduceCtorEq, Nat.reduceAdd, Nat.reduceMul, Nat.reduceSub, Nat.reduceLT, Int.reduceLT, Int.reduceLE, Int.reduceNeg, Int.reduceToNat, Nat.reduceBEq, Nat.reduceBNe, Int.reduceGE, Int.reduceGT, *, cPrj, cIsTableS, cIsAttr, cMem, cSortR, cCompF, cEqIntS, Tryz.results52, e0])))
   all_goals first | rfl | skip
  ·dsimp only at i hi
   by_cases h5 : i < rs.length
   ·have hl := hlen i h5
    have e1 := @prMap_take m rs i h5
    have g3 : ((rs.take i).map (prRow m)).length = i := by simp; omega
    generalize hO : (rs.take i).map (prRow m) = O at e1 g3
    clear g1 g2
    generalize hr : rs.getD i [] = r at e1 hl
    have hrm : r.length ≤ maxLen := by rw [← hr]; exact all_getD hy i
    (repeat' (first | (refine gA fun _ => ?_) | (refine fkI (fun hb => ?_) (fun hb => ?_) <;> (try simp only [ew, e0, hO] at hb)) | (simp only [go_sem, Nat.reduceLeDiff, Nat.reduceEqDiff, reduceIte, reduceCtorEq, Nat.reduceAdd, Nat.reduceMul, Nat.reduceSub, Nat.reduceLT, Int.reduceLT, Int.reduceLE, Int.reduceNeg, Int.reduceToNat, Nat.reduceBEq, Nat.reduceBNe, Int.reduceGE, Int.reduceGT, *, cPrj, cIsTableS, cIsAttr, cMem, cSortR, cCompF, cEqIntS, Tryz.results52, e0, hO])))
    refine lpI { ι := Nat, rs := [(11, 12), (43, 54)], mods := [(42, fun k => .one (.d (.v (.int .i64 k)))), (9, fun k => .one (.own 1 (iL (prRow (m.take k) r)) 1))], boxes := [(2, fun _ => [.d (.v (.int .i64 c)), .d (.sl 1 (sL rs))]), (4, fun _ => [.d (.v (.int .i64 0)), .d (.v (.slice none 0 0))]), (6, fun _ => [.d (.v (.int .i64 m.length)), .own 1 (sL O) 1])], arrs := [(5, fun _ => (1, iL m, 1))], ok := fun k => k ≤ m.length, mu := fun k => m.length - k, alis := [(40, 5)] } rfl 0 (Nat.zero_le _) ?_ fun k hk => ?_
    ·(repeat' (first | (refine gA fun _ => ?_) | (refine fkI (fun hb => ?_) (fun hb => ?_) <;> (try simp only [ew, e0] at hb)) | (simp only [go_sem, Nat.reduceLeDiff, Nat.reduceEqDiff, reduceIte, reduceCtorEq, Nat.reduceAdd, Nat.reduceMul, Nat.reduceSub, Nat.reduceLT, Int.reduceLT, Int.reduceLE, Int.reduceNeg, Int.reduceToNat, Nat.reduceBEq, Nat.reduceBNe, Int.reduceGE, Int.reduceGT, *, cPrj, cIsTableS, cIsAttr, cMem, cSortR, cCompF, cEqIntS, Tryz.results52, e0])))
     all_goals first | rfl | skip
    ·dsimp only at k hk
     by_cases h6 : k < m.length
     ·obtain ⟨q1, q2⟩ := f4 k h6
      have e2 := @prRow_take m r k h6
      have g4 : (prRow (m.take k) r).length = k := by unfold prRow; simp; omega
      generalize hP : prRow (m.take k) r = P at e2 g4
      have q3 : (m.getD k 0).toNat < r.length := by omega
      obtain ⟨a, ha⟩ := Int.eq_ofNat_of_zero_le q1
      rw [ha] at q1 q2 q3 e2
      rw [Int.toNat_natCast] at q2 q3 e2
      clear hm f4
      (repeat' (first | (refine gA fun _ => ?_) | (refine fkI (fun hb => ?_) (fun hb => ?_) <;> (try simp only [ew, hr, ha, hP, iL_snoc] at hb)) | (simp only [go_sem, Nat.reduceLeDiff, Nat.reduceEqDiff, reduceIte, reduceCtorEq, Nat.reduceAdd, Nat.reduceMul, Nat.reduceSub, Nat.reduceLT, Int.reduceLT, Int.reduceLE, Int.reduceNeg, Int.reduceToNat, Nat.reduceBEq, Nat.reduceBNe, Int.reduceGE, Int.reduceGT, *, cPrj, cIsTableS, cIsAttr, cMem, cSortR, cCompF, cEqIntS, Tryz.results52, hr, ha, hP, iL_snoc])))
      refine lpN (k + 1) (by dsimp only; omega) (by dsimp only; omega) ?_
      (repeat' (first | (refine gA fun _ => ?_) | (refine fkI (fun hb => ?_) (fun hb => ?_) <;> (try simp only [ew, e2, iL_snoc] at hb)) | (simp only [go_sem, Nat.reduceLeDiff, Nat.reduceEqDiff, reduceIte, reduceCtorEq, Nat.reduceAdd, Nat.reduceMul, Nat.reduceSub, Nat.reduceLT, Int.reduceLT, Int.reduceLE, Int.reduceNeg, Int.reduceToNat, Nat.reduceBEq, Nat.reduceBNe, Int.reduceGE, Int.reduceGT, *, cPrj, cIsTableS, cIsAttr, cMem, cSortR, cCompF, cEqIntS, Tryz.results52, e2, iL_snoc])))
     ·have e6 : k = m.length := by omega
      subst e6
      have e7 : m.take m.length = m := List.take_length
      (repeat' (first | (refine gA fun _ => ?_) | (refine fkI (fun hb => ?_) (fun hb => ?_) <;> (try simp only [ew, e7, sL_snoc] at hb)) | (simp only [go_sem, Nat.reduceLeDiff, Nat.reduceEqDiff, reduceIte, reduceCtorEq, Nat.reduceAdd, Nat.reduceMul, Nat.reduceSub, Nat.reduceLT, Int.reduceLT, Int.reduceLE, Int.reduceNeg, Int.reduceToNat, Nat.reduceBEq, Nat.reduceBNe, Int.reduceGE, Int.reduceGT, *, cPrj, cIsTableS, cIsAttr, cMem, cSortR, cCompF, cEqIntS, Tryz.results52, e7, sL_snoc])))
      refine lpN (i + 1) (by dsimp only; omega) (by dsimp only; omega) ?_
      (repeat' (first | (refine gA fun _ => ?_) | (refine fkI (fun hb => ?_) (fun hb => ?_) <;> (try simp only [ew, e1, sL_snoc] at hb)) | (simp only [go_sem, Nat.reduceLeDiff, Nat.reduceEqDiff, reduceIte, reduceCtorEq, Nat.reduceAdd, Nat.reduceMul, Nat.reduceSub, Nat.reduceLT, Int.reduceLT, Int.reduceLE, Int.reduceNeg, Int.reduceToNat, Nat.reduceBEq, Nat.reduceBNe, Int.reduceGE, Int.reduceGT, *, cPrj, cIsTableS, cIsAttr, cMem, cSortR, cCompF, cEqIntS, Tryz.results52, e1, sL_snoc])))
   ·have e5 : i = rs.length := by omega
    subst e5
    have e7 : rs.take rs.length = rs := List.take_length
    have ec := @comp_srtL (rs.map (prRow m))
    have el := @srtL_length (rs.map (prRow m))
    have em : ∀ r ∈ srtL (rs.map (prRow m)), r.length ≤ maxLen := fun r hr => Nat.le_trans (g2 r (srtL_perm.mem_iff.1 hr)) (by decide)
    generalize hO : rs.map (prRow m) = O at g1 g2 ec el em ⊢
    have g3 : ∀ r ∈ O, r.length ≤ 16777216 := fun r hr => by have := g2 r hr; omega
    have g4 : ∀ r ∈ O, r.length ≤ maxLen := fun r hr => Nat.le_trans (g2 r hr) (by decide)
    have g5 : O.length ≤ maxLen := Nat.le_trans (show O.length ≤ 40 by omega) (by decide)
    (repeat' (first | (refine gA fun _ => ?_) | (refine fkI (fun hb => ?_) (fun hb => ?_) <;> (try simp only [ew, e7, hO, ec] at hb)) | (simp only [go_sem, Nat.reduceLeDiff, Nat.reduceEqDiff, reduceIte, reduceCtorEq, Nat.reduceAdd, Nat.reduceMul, Nat.reduceSub, Nat.reduceLT, Int.reduceLT, Int.reduceLE, Int.reduceNeg, Int.reduceToNat, Nat.reduceBEq, Nat.reduceBNe, Int.reduceGE, Int.reduceGT, *, cPrj, cIsTableS, cIsAttr, cMem, cSortR, cCompF, cEqIntS, Tryz.results52, e7, hO, ec])))
    all_goals first | rfl | skip
def jnO (r m v : List Int) : List Int := if jnB r m v then jnR r m v else []
def cJnR : Contract := ⟨[], false, fun
 | [.one (.sl 1 r), .one (.sl 1 m), .one (.sl 1 v)] => some (WfI r ∧ WfI m ∧ WfI v ∧ r.length ≤ 5 ∧ v.length = m.length ∧ (∀ k, k < m.length → 0 ≤ (unI m).getD k 0 ∧ ((unI m).getD k 0).toNat < r.length),
   [⟨false, [.own 1 (iL (jnO (unI r) (unI m) (unI v))) 1]⟩, ⟨false, [.d (.v (.bool (jnB (unI r) (unI m) (unI v))))]⟩], [])
 | _ => none⟩
structure JR (r0 m v : List Int) (i : Nat) (r : List Int) : Prop where
  le : i ≤ m.length
  len : r.length = r0.length
  row : jnR r (m.drop i) (v.drop i) = jnR r0 m v
  ok : jnB r (m.drop i) (v.drop i) = jnB r0 m v
theorem jnRow_ok : ContractOK E0 53 cJnR := by
 refine cWpc (E := E0) (T := mkT Tryz.prog [(109, cCopyI)] false (fun _ => false) true (fun _ => false)) (mkT_ok (E := E0) (.cons copyI_ok .nil)) (fn := Tryz.f53) Tryz.func53 (by kernel_rfl) rfl mixedT (by kernel_rfl) rfl ?_
 intro args p rs ms hr
 unfold cJnR at hr
 dsimp only at hr
 split at hr
 rotate_left
 ·cases hr
 rename_i r m v
 simp only [Option.some.injEq, Prod.mk.injEq] at hr
 obtain ⟨rfl, rfl, rfl⟩ := hr
 refine ⟨rfl, rfl, Nat.le_of_ble_eq_true rfl, ?_⟩
 have hm : maxLen = 9223372036854775807 := rfl
 rintro ⟨h1, h2, h3, h4, h5, h6⟩ bs
 obtain ⟨r0, rfl, hx1⟩ := h1.ex
 obtain ⟨ms, rfl, hx2⟩ := h2.ex
 obtain ⟨vs, rfl, hx3⟩ := h3.ex
 clear h1 h2 h3
 rw [unI_iL, unI_iL, unI_iL]
 rw [unI_iL] at h6
 rw [iL_length, iL_length] at h5
 rw [iL_length] at h4 h6
 rw [iL_length] at h6
 have e0 : iL [] = [] := rfl
 unfold jnO
 (repeat' (first | (refine gA fun _ => ?_) | (refine fkI (fun hb => ?_) (fun hb => ?_) <;> (try simp only [ew, e0] at hb)) | (simp only [go_sem, Nat.reduceLeDiff, Nat.reduceEqDiff, reduceIte, reduceCtorEq, Nat.reduceAdd, Nat.reduceMul, Nat.reduceSub, Nat.reduceLT, Int.reduceLT, Int.reduceLE, Int.reduceNeg, Int.reduceToNat, Nat.reduceBEq, Nat.reduceBNe, Int.reduceGE, Int.reduceGT, *, cJnR, cCopyI, Tryz.results53, e0])))
 refine lpI { ι := Nat × List Int, rs := [(6, 8), (9, 11), (16, 44)], mods := [(15, fun z => .one (.d (.v (.int .i64 z.1))))], boxes := [], arrs := [(8, fun z => (1, iL z.2, 1))], ok := fun z => JR r0 ms vs z.1 z.2, mu := fun z => ms.length - z.1 } rfl (0, r0) ⟨Nat.zero_le _, rfl, rfl, rfl⟩ ?_ ?_
 ·(repeat' (first | (refine gA fun _ => ?_) | (refine fkI (fun hb => ?_) (fun hb => ?_) <;> (try simp only [ew, e0] at hb)) | (simp only [go_sem, Nat.reduceLeDiff, Nat.reduceEqDiff, reduceIte, reduceCtorEq, Nat.reduceAdd, Nat.reduceMul, Nat.reduceSub, Nat.reduceLT, Int.reduceLT, Int.reduceLE, Int.reduceNeg, Int.reduceToNat, Nat.reduceBEq, Nat.reduceBNe, Int.reduceGE, Int.reduceGT, *, cJnR, cCopyI, Tryz.results53, e0])))
  all_goals first | rfl | skip
 ·rintro ⟨i, r⟩ hi
  dsimp only at hi
  obtain ⟨hi, hl, hr, hb⟩ := hi
  by_cases h7 : i < ms.length
  ·obtain ⟨q1, q2⟩ := h6 i h7
   rw [drop_getD h7 0, drop_getD (show i < vs.length by omega) 0] at hr hb
   rw [jnR] at hr
   rw [jnB] at hb
   obtain ⟨a, ha⟩ := Int.eq_ofNat_of_zero_le q1
   rw [ha] at q1 q2 hr hb
   rw [Int.toNat_natCast] at q2 hr hb
   have q5 : a < r.length := by omega
   have q6 : i < vs.length := by omega
   clear h6
   by_cases hA : r.getD a 0 = -2
   ·have b1 : (r.getD a 0 != -2) = false := by rw [hA]; rfl
    have b2 : (r.getD a 0 == -2) = true := by rw [hA]; rfl
    rw [b2, Bool.true_or, Bool.true_and] at hb
    (repeat' (first | (refine gA fun _ => ?_) | (refine fkI (fun hb => ?_) (fun hb => ?_) <;> (try simp only [ew, ha, b1, e0] at hb)) | (simp only [go_sem, Nat.reduceLeDiff, Nat.reduceEqDiff, reduceIte, reduceCtorEq, Nat.reduceAdd, Nat.reduceMul, Nat.reduceSub, Nat.reduceLT, Int.reduceLT, Int.reduceLE, Int.reduceNeg, Int.reduceToNat, Nat.reduceBEq, Nat.reduceBNe, Int.reduceGE, Int.reduceGT, *, cJnR, cCopyI, Tryz.results53, ha, b1, e0])))
    refine lpN (i + 1, r.set a (vs.getD i 0)) ⟨by dsimp only; omega, by dsimp only; rw [List.length_set]; exact hl, hr, hb⟩ (by dsimp only; omega) ?_
    clear hr hb
    (repeat' (first | (refine gA fun _ => ?_) | (refine fkI (fun hb => ?_) (fun hb => ?_) <;> (try simp only [ew, ha, e0] at hb)) | (simp only [go_sem, Nat.reduceLeDiff, Nat.reduceEqDiff, reduceIte, reduceCtorEq, Nat.reduceAdd, Nat.reduceMul, Nat.reduceSub, Nat.reduceLT, Int.reduceLT, Int.reduceLE, Int.reduceNeg, Int.reduceToNat, Nat.reduceBEq, Nat.reduceBNe, Int.reduceGE, Int.reduceGT, *, cJnR, cCopyI, Tryz.results53, ha, e0])))
   ·have b1 : (r.getD a 0 != -2) = true := by simpa using hA
    have b2 : (r.getD a 0 == -2) = false := by simpa using hA
    rw [b2, Bool.false_or] at hb
    by_cases hB : r.getD a 0 = vs.getD i 0
    ·have b3 : (r.getD a 0 != vs.getD i 0) = false := by rw [hB]; simp
     have b4 : (r.getD a 0 == vs.getD i 0) = true := by rw [hB]; simp
     rw [b4, Bool.true_and] at hb
     clear hB b4 b2
     (repeat' (first | (refine gA fun _ => ?_) | (refine fkI (fun hb => ?_) (fun hb => ?_) <;> (try simp only [ew, ha, b1, b3, e0] at hb)) | (simp only [go_sem, Nat.reduceLeDiff, Nat.reduceEqDiff, reduceIte, reduceCtorEq, Nat.reduceAdd, Nat.reduceMul, Nat.reduceSub, Nat.reduceLT, Int.reduceLT, Int.reduceLE, Int.reduceNeg, Int.reduceToNat, Nat.reduceBEq, Nat.reduceBNe, Int.reduceGE, Int.reduceGT, *, cJnR, cCopyI, Tryz.results53, ha, b1, b3, e0])))
     refine lpN (i + 1, r.set a (vs.getD i 0)) ⟨by dsimp only; omega, by dsimp only; rw [List.length_set]; exact hl, hr, hb⟩ (by dsimp only; omega) ?_
     clear hr hb
     (repeat' (first | (refine gA fun _ => ?_) | (refine fkI (fun hb => ?_) (fun hb => ?_) <;> (try simp only [ew, ha, e0] at hb)) | (simp only [go_sem, Nat.reduceLeDiff, Nat.reduceEqDiff, reduceIte, reduceCtorEq, Nat.reduceAdd, Nat.reduceMul, Nat.reduceSub, Nat.reduceLT, Int.reduceLT, Int.reduceLE, Int.reduceNeg, Int.reduceToNat, Nat.reduceBEq, Nat.reduceBNe, Int.reduceGE, Int.reduceGT, *, cJnR, cCopyI, Tryz.results53, ha, e0])))
    ·have b3 : (r.getD a 0 != vs.getD i 0) = true := by simpa using hB
     have b4 : (r.getD a 0 == vs.getD i 0) = false := by simpa using hB
     rw [b4, Bool.false_and] at hb
     rw [← hb, if_neg (by decide)]
     clear hr hb hB b4 b2
     (repeat' (first | (refine gA fun _ => ?_) | (refine fkI (fun hb => ?_) (fun hb => ?_) <;> (try simp only [ew, ha, b1, b3, e0] at hb)) | (simp only [go_sem, Nat.reduceLeDiff, Nat.reduceEqDiff, reduceIte, reduceCtorEq, Nat.reduceAdd, Nat.reduceMul, Nat.reduceSub, Nat.reduceLT, Int.reduceLT, Int.reduceLE, Int.reduceNeg, Int.reduceToNat, Nat.reduceBEq, Nat.reduceBNe, Int.reduceGE, Int.reduceGT, *, cJnR, cCopyI, Tryz.results53, ha, b1, b3, e0])))
     all_goals first | rfl | skip
  ·have e6 : i = ms.length := by omega
   subst e6
   rw [List.drop_length] at hr hb
   have e1 : jnR r0 ms vs = r := by rw [← hr, jnR]; simp
   have e2 : jnB r0 ms vs = true := by rw [← hb, jnB]; simp
   rw [e1, e2, if_pos rfl]
   clear hr hb h6
   (repeat' (first | (refine gA fun _ => ?_) | (refine fkI (fun hb => ?_) (fun hb => ?_) <;> (try simp only [ew, e0] at hb)) | (simp only [go_sem, Nat.reduceLeDiff, Nat.reduceEqDiff, reduceIte, reduceCtorEq, Nat.reduceAdd, Nat.reduceMul, Nat.reduceSub, Nat.reduceLT, Int.reduceLT, Int.reduceLE, Int.reduceNeg, Int.reduceToNat, Nat.reduceBEq, Nat.reduceBNe, Int.reduceGE, Int.reduceGT, *, cJnR, cCopyI, Tryz.results53, e0])))
   all_goals first | rfl | skip
def cJn : Contract := ⟨[], false, fun
 | [.agg [.v (.int .i64 c), .sl 1 l], .one (.sl 1 p)] => some (WfS l ∧ WfI p ∧ -9223372036854775808 ≤ c ∧ c ≤ 9223372036854775807,
   [⟨true, [.d (.v (.int .i64 (jnC c (unS l) (unI p)))), .d (.sl 1 (sL (jnT c (unS l) (unI p))))]⟩], [])
 | _ => none⟩
def cJnI : Contract := ⟨[], false, fun
 | [.agg [.v (.int .i64 c), .sl 1 l], .one (.sl 1 p)] => some (WfS l ∧ WfI p ∧ -9223372036854775808 ≤ c ∧ c ≤ 9223372036854775807,
   [⟨true, [.d (.v (.int .i64 (jnC c (unS l) (unI p)))), .own 1 (sL (jnT c (unS l) (unI p))) 1]⟩], [])
 | _ => none⟩
theorem rep_snoc {k : Nat} {v : Int} : List.replicate k v ++ [v] = List.replicate (k + 1) v := by
 rw [List.replicate_succ']
end Go.Own
