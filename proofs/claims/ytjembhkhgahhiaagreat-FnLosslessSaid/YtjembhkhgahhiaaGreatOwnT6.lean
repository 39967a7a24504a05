/- Own contracts. Conditions: as each theorem states them. -/
import Derived.Test.YtjembhkhgahhiaaGreatOwnT7
import Derived.Test.YtjembhkhgahhiaaGreatOwnC5
import Derived.Test.YtjembhkhgahhiaaGreatOwnG12
import Derived.Test.YtjembhkhgahhiaaGreatOwnTb
set_option linter.unusedSimpArgs false
set_option linter.unusedVariables false
set_option maxRecDepth 20000
set_option maxHeartbeats 2000000
namespace Go.Own
open Go Go.Proofs
attribute [local go_sem] unD_dL dL_length dL_get dL_set dL_inj wfD_dL scal2 beq2 pair_eta
def cChase : Contract := ⟨[], false, fun
 | [.one (.v (.int .i64 n)), .one (.sl 2 l), .one (.sl 1 p)] => some (WfD l ∧ WfI p ∧ -9223372036854775808 ≤ n ∧ n ≤ 9223372036854775807,
   [⟨false, [.own 1 (sL (chF n (unD l) (unI p))) 1]⟩], [])
 | _ => none⟩
theorem small_rows {rs : List (List Int)} (h : ∀ r ∈ rs, r.length ≤ 5) : (∀ r ∈ rs, r.length ≤ maxLen) ∧ ∀ r ∈ rs, r.length ≤ 16777216 := ⟨fun r hr => Nat.le_trans (h r hr) (by decide), fun r hr => Nat.le_trans (h r hr) (by decide)⟩
theorem csOut_small {n : Int} {ds : List (Int × Int)} {rs y : List (List Int)} (hs : csStep n ds rs = some y) (h1 : rs.length ≤ 10) (h2 : ∀ r ∈ rs, r.length ≤ 5) : csOut n ds rs = y ∧ y.length ≤ 10 ∧ ∀ r ∈ y, r.length ≤ 5 := by
 have e : csOut n ds rs = y := by unfold csOut; rw [hs]; rfl
 obtain ⟨p1, p2, p3⟩ := lens_facts (e ▸ @csOut_lens n ds rs)
 exact ⟨e, by omega, p3 _ h2⟩
theorem chEnd_ok : ContractOK E0 45 cChase := by
 refine cWpc (E := E0) (T := mkT Tryz.prog [(23, cCS), (18, cStep)] false (fun _ => false) true (fun _ => false)) (mkT_ok (E := E0) (.cons csI_ok (.cons chStepI_ok .nil))) (fn := Tryz.f45) Tryz.func45 (by kernel_rfl) rfl mixedT (by kernel_rfl) rfl ?_
 intro args p rs ms hr
 unfold cChase at hr
 dsimp only at hr
 split at hr
 rotate_left
 ·cases hr
 rename_i n l p
 simp only [Option.some.injEq, Prod.mk.injEq] at hr
 obtain ⟨rfl, rfl, rfl⟩ := hr
 refine ⟨rfl, rfl, Nat.le_of_ble_eq_true rfl, ?_⟩
 have hm : maxLen = 9223372036854775807 := rfl
 rintro ⟨h1, h2, hn1, hn2⟩ bs
 obtain ⟨ds, rfl, hx⟩ := h1.ex
 obtain ⟨ps, rfl, hy⟩ := h2.ex
 clear h1 h2
 rw [unD_dL, unI_iL]
 obtain ⟨q1, q2, q3⟩ := @csF_facts n ps
 have m0 := @muC_start n ps
 unfold chF
 (repeat' (first | (refine gA fun _ => ?_) | (refine fkI (fun hb => ?_) (fun hb => ?_) <;> (try simp only [ew] at hb)) | (simp only [go_sem, Nat.reduceLeDiff, Nat.reduceEqDiff, reduceIte, reduceCtorEq, Nat.reduceAdd, Nat.reduceMul, Nat.reduceSub, Nat.reduceLT, Int.reduceLT, Int.reduceLE, Int.reduceNeg, Int.reduceToNat, Nat.reduceBEq, Nat.reduceBNe, Int.reduceGE, Int.reduceGT, *, cChase, cCS, cStep, Tryz.results45])))
 generalize hF : chN n ds 200 (csF n ps) = F
 refine lpI { ι := List (List Int), rs := [(6, 7), (8, 10), (13, 24)], mods := [(7, fun rs => .one (.own 1 (sL rs) 1))], boxes := [], arrs := [], ok := fun rs => (rs.length ≤ 10 ∧ ∀ r ∈ rs, r.length ≤ 5) ∧ muC rs ≤ 200 ∧ chN n ds 200 rs = F, mu := muC } rfl (csF n ps) ⟨⟨q1, q2⟩, by omega, hF⟩ ?_ fun rs hi => ?_
 ·(repeat' (first | (refine gA fun _ => ?_) | (refine fkI (fun hb => ?_) (fun hb => ?_) <;> (try simp only [ew] at hb)) | (simp only [go_sem, Nat.reduceLeDiff, Nat.reduceEqDiff, reduceIte, reduceCtorEq, Nat.reduceAdd, Nat.reduceMul, Nat.reduceSub, Nat.reduceLT, Int.reduceLT, Int.reduceLE, Int.reduceNeg, Int.reduceToNat, Nat.reduceBEq, Nat.reduceBNe, Int.reduceGE, Int.reduceGT, *, cChase, cCS, cStep, Tryz.results45])))
 ·dsimp only at rs hi
  obtain ⟨⟨k1, k2⟩, hm2, ht⟩ := hi
  clear hF q1 q2 q3 m0
  obtain ⟨k3, k4⟩ := small_rows k2
  cases hs : csStep n ds rs with
  | none =>
   have e2 : csOut n ds rs = rs := by unfold csOut; rw [hs]; rfl
   rw [chN_none hs] at ht
   subst ht
   clear k2
   (repeat' (first | (refine gA fun _ => ?_) | (refine fkI (fun hb => ?_) (fun hb => ?_) <;> (try simp only [ew, hs, e2] at hb)) | (simp only [go_sem, Nat.reduceLeDiff, Nat.reduceEqDiff, reduceIte, reduceCtorEq, Nat.reduceAdd, Nat.reduceMul, Nat.reduceSub, Nat.reduceLT, Int.reduceLT, Int.reduceLE, Int.reduceNeg, Int.reduceToNat, Nat.reduceBEq, Nat.reduceBNe, Int.reduceGE, Int.reduceGT, *, cChase, cCS, cStep, Tryz.results45, hs, e2])))
  | some y =>
   obtain ⟨e2, y1, y2⟩ := csOut_small hs k1 k2
   have hmu := csStep_mu hs
   rw [chN_some hs hm2] at ht
   clear k2
   (repeat' (first | (refine gA fun _ => ?_) | (refine fkI (fun hb => ?_) (fun hb => ?_) <;> (try simp only [ew, hs, e2] at hb)) | (simp only [go_sem, Nat.reduceLeDiff, Nat.reduceEqDiff, reduceIte, reduceCtorEq, Nat.reduceAdd, Nat.reduceMul, Nat.reduceSub, Nat.reduceLT, Int.reduceLT, Int.reduceLE, Int.reduceNeg, Int.reduceToNat, Nat.reduceBEq, Nat.reduceBNe, Int.reduceGE, Int.reduceGT, *, cChase, cCS, cStep, Tryz.results45, hs, e2])))
   refine lpN y ⟨⟨y1, y2⟩, by omega, ht⟩ (by dsimp only; omega) ?_
   clear ht
   (repeat' (first | (refine gA fun _ => ?_) | (refine fkI (fun hb => ?_) (fun hb => ?_) <;> (try simp only [ew, hs, e2] at hb)) | (simp only [go_sem, Nat.reduceLeDiff, Nat.reduceEqDiff, reduceIte, reduceCtorEq, Nat.reduceAdd, Nat.reduceMul, Nat.reduceSub, Nat.reduceLT, Int.reduceLT, Int.reduceLE, Int.reduceNeg, Int.reduceToNat, Nat.reduceBEq, Nat.reduceBNe, Int.reduceGE, Int.reduceGT, *, cChase, cCS, cStep, Tryz.results45, hs, e2])))
theorem chaseS_ok : ContractOK E0 48 cChase := by
 refine cWpc (E := E0) (T := mkT Tryz.prog [(24, cCS), (19, cStep)] false (fun _ => false) true (fun _ => false)) (mkT_ok (E := E0) (.cons csS_ok (.cons chStepS_ok .nil))) (fn := Tryz.f48) Tryz.func48 (by kernel_rfl) rfl mixedT (by kernel_rfl) rfl ?_
 intro args p rs ms hr
 unfold cChase at hr
 dsimp only at hr
 split at hr
 rotate_left
 ·cases hr
 rename_i n l p
 simp only [Option.some.injEq, Prod.mk.injEq] at hr
 obtain ⟨rfl, rfl, rfl⟩ := hr
 refine ⟨rfl, rfl, Nat.le_of_ble_eq_true rfl, ?_⟩
 have hm : maxLen = 9223372036854775807 := rfl
 rintro ⟨h1, h2, hn1, hn2⟩ bs
 obtain ⟨ds, rfl, hx⟩ := h1.ex
 obtain ⟨ps, rfl, hy⟩ := h2.ex
 clear h1 h2
 rw [unD_dL, unI_iL]
 obtain ⟨q1, q2, q3⟩ := @csF_facts n ps
 unfold chF
 (repeat' (first | (refine gA fun _ => ?_) | (refine fkI (fun hb => ?_) (fun hb => ?_) <;> (try simp only [ew] at hb)) | (simp only [go_sem, Nat.reduceLeDiff, Nat.reduceEqDiff, reduceIte, reduceCtorEq, Nat.reduceAdd, Nat.reduceMul, Nat.reduceSub, Nat.reduceLT, Int.reduceLT, Int.reduceLE, Int.reduceNeg, Int.reduceToNat, Nat.reduceBEq, Nat.reduceBNe, Int.reduceGE, Int.reduceGT, *, cChase, cCS, cStep, Tryz.results48])))
 generalize hF : chN n ds 200 (csF n ps) = F
 refine lpI { ι := Nat × List (List Int), rs := [(6, 7), (9, 11), (14, 29)], mods := [(8, fun i => .one (.d (.v (.int .i64 i.1)))), (7, fun i => .one (.own 1 (sL i.2) 1))], boxes := [], arrs := [], ok := fun i => i.1 ≤ 200 ∧ (i.2.length ≤ 10 ∧ ∀ r ∈ i.2, r.length ≤ 5) ∧ chN n ds (200 - i.1) i.2 = F, mu := fun i => 200 - i.1 } rfl (0, csF n ps) ⟨by omega, ⟨q1, q2⟩, hF⟩ ?_ ?_
 ·(repeat' (first | (refine gA fun _ => ?_) | (refine fkI (fun hb => ?_) (fun hb => ?_) <;> (try simp only [ew] at hb)) | (simp only [go_sem, Nat.reduceLeDiff, Nat.reduceEqDiff, reduceIte, reduceCtorEq, Nat.reduceAdd, Nat.reduceMul, Nat.reduceSub, Nat.reduceLT, Int.reduceLT, Int.reduceLE, Int.reduceNeg, Int.reduceToNat, Nat.reduceBEq, Nat.reduceBNe, Int.reduceGE, Int.reduceGT, *, cChase, cCS, cStep, Tryz.results48])))
 ·rintro ⟨i, rs⟩ hi
  dsimp only at hi
  obtain ⟨hi, ⟨k1, k2⟩, ht⟩ := hi
  clear hF q1 q2 q3
  obtain ⟨k3, k4⟩ := small_rows k2
  by_cases h5 : i < 200
  ·have h5' : (i : Int) < 200 := by omega
   cases hs : csStep n ds rs with
   | none =>
    have e2 : csOut n ds rs = rs := by unfold csOut; rw [hs]; rfl
    rw [chN_none hs] at ht
    subst ht
    clear k2
    (repeat' (first | (refine gA fun _ => ?_) | (refine fkI (fun hb => ?_) (fun hb => ?_) <;> (try simp only [ew, hs, e2] at hb)) | (simp only [go_sem, Nat.reduceLeDiff, Nat.reduceEqDiff, reduceIte, reduceCtorEq, Nat.reduceAdd, Nat.reduceMul, Nat.reduceSub, Nat.reduceLT, Int.reduceLT, Int.reduceLE, Int.reduceNeg, Int.reduceToNat, Nat.reduceBEq, Nat.reduceBNe, Int.reduceGE, Int.reduceGT, *, cChase, cCS, cStep, Tryz.results48, hs, e2])))
   | some y =>
    obtain ⟨e2, y1, y2⟩ := csOut_small hs k1 k2
    rw [show 200 - i = 200 - (i + 1) + 1 by omega, chN, hs] at ht
    dsimp only at ht
    clear k2
    (repeat' (first | (refine gA fun _ => ?_) | (refine fkI (fun hb => ?_) (fun hb => ?_) <;> (try simp only [ew, hs, e2] at hb)) | (simp only [go_sem, Nat.reduceLeDiff, Nat.reduceEqDiff, reduceIte, reduceCtorEq, Nat.reduceAdd, Nat.reduceMul, Nat.reduceSub, Nat.reduceLT, Int.reduceLT, Int.reduceLE, Int.reduceNeg, Int.reduceToNat, Nat.reduceBEq, Nat.reduceBNe, Int.reduceGE, Int.reduceGT, *, cChase, cCS, cStep, Tryz.results48, hs, e2])))
    refine lpN (i + 1, y) ⟨by dsimp only; omega, ⟨y1, y2⟩, ht⟩ (by dsimp only; omega) ?_
    clear ht
    (repeat' (first | (refine gA fun _ => ?_) | (refine fkI (fun hb => ?_) (fun hb => ?_) <;> (try simp only [ew, hs, e2] at hb)) | (simp only [go_sem, Nat.reduceLeDiff, Nat.reduceEqDiff, reduceIte, reduceCtorEq, Nat.reduceAdd, Nat.reduceMul, Nat.reduceSub, Nat.reduceLT, Int.reduceLT, Int.reduceLE, Int.reduceNeg, Int.reduceToNat, Nat.reduceBEq, Nat.reduceBNe, Int.reduceGE, Int.reduceGT, *, cChase, cCS, cStep, Tryz.results48, hs, e2])))
  ·have e5 : i = 200 := by omega
   subst e5
   rw [Nat.sub_self, chN] at ht
   subst ht
   clear k2
   (repeat' (first | (refine gA fun _ => ?_) | (refine fkI (fun hb => ?_) (fun hb => ?_) <;> (try simp only [ew] at hb)) | (simp only [go_sem, Nat.reduceLeDiff, Nat.reduceEqDiff, reduceIte, reduceCtorEq, Nat.reduceAdd, Nat.reduceMul, Nat.reduceSub, Nat.reduceLT, Int.reduceLT, Int.reduceLE, Int.reduceNeg, Int.reduceToNat, Nat.reduceBEq, Nat.reduceBNe, Int.reduceGE, Int.reduceGT, *, cChase, cCS, cStep, Tryz.results48])))
def zeroR (n : Nat) : List Int := List.replicate n 0
def loB (n : Int) (ds : List (Int × Int)) (ps : List Int) : Bool := depsOK n ds && partsOK n ps && (chF n ds ps).any (fun r => r == zeroR n.toNat)
theorem repI {n : Nat} : List.replicate n [D.v (.int .i64 0)] = iL (zeroR n) := by simp [iL, zeroR]
theorem zeroR_length {n : Nat} : (zeroR n).length = n := by simp [zeroR]
theorem any_drop {α : Type} {xs : List α} {i : Nat} (h : i < xs.length) (d : α) (f : α → Bool) : (xs.drop i).any f = (f (xs.getD i d) || (xs.drop (i + 1)).any f) := by rw [drop_getD h d, List.any_cons]
def cLo : Contract := ⟨[], false, fun
 | [.one (.v (.int .i64 n)), .one (.sl 2 l), .one (.sl 1 p)] => some (WfD l ∧ WfI p ∧ -9223372036854775808 ≤ n ∧ n ≤ 9223372036854775807,
   [⟨false, [.d (.v (.bool (loB n (unD l) (unI p))))]⟩], [])
 | _ => none⟩
theorem loI_ok : ContractOK E0 7 cLo := by
 refine cWpc (E := E0) (T := mkT Tryz.prog [(43, cAreDeps), (44, cParts), (45, cChase), (46, cEqIntS)] false (fun _ => false) true (fun _ => false)) (mkT_ok (E := E0) (.cons areDepsI_ok (.cons partsI_ok (.cons chEnd_ok (.cons sameInts_ok .nil))))) (fn := Tryz.f7) Tryz.func7 (by kernel_rfl) rfl mixedT (by kernel_rfl) rfl ?_
 intro args p rs ms hr
 unfold cLo at hr
 dsimp only at hr
 split at hr
 rotate_left
 ·cases hr
 rename_i n l p
 simp only [Option.some.injEq, Prod.mk.injEq] at hr
 obtain ⟨rfl, rfl, rfl⟩ := hr
 refine ⟨rfl, rfl, Nat.le_of_ble_eq_true rfl, ?_⟩
 have hm : maxLen = 9223372036854775807 := rfl
 rintro ⟨h1, h2, hn1, hn2⟩ bs
 obtain ⟨ds, rfl, hx⟩ := h1.ex
 obtain ⟨ps, rfl, hy⟩ := h2.ex
 clear h1 h2
 rw [unD_dL, unI_iL]
 cases hv : (depsOK n ds && partsOK n ps)
 ·have e3 : (!depsOK n ds || !partsOK n ps) = true := by rw [← Bool.not_and, hv]; rfl
  have e : loB n ds ps = false := by unfold loB; rw [hv]; rfl
  rw [e]
  clear e hv
  (repeat' (first | (refine gA fun _ => ?_) | (refine fkI (fun hb => ?_) (fun hb => ?_) <;> (try simp only [ew, e3] at hb)) | (simp only [go_sem, Nat.reduceLeDiff, Nat.reduceEqDiff, reduceIte, reduceCtorEq, Nat.reduceAdd, Nat.reduceMul, Nat.reduceSub, Nat.reduceLT, Int.reduceLT, Int.reduceLE, Int.reduceNeg, Int.reduceToNat, Nat.reduceBEq, Nat.reduceBNe, Int.reduceGE, Int.reduceGT, *, cLo, cAreDeps, cParts, cChase, cEqIntS, Tryz.results7, e3])))
 ·have e3 : (!depsOK n ds || !partsOK n ps) = false := by rw [← Bool.not_and, hv]; rfl
  rw [Bool.and_eq_true] at hv
  obtain ⟨f1, f2, f3, f4⟩ := parts_facts hv.2
  obtain ⟨c, rfl⟩ := Int.eq_ofNat_of_zero_le (show 0 ≤ n by omega)
  have e : loB c ds ps = (chF c ds ps).any (fun r => r == zeroR c) := by unfold loB; rw [hv.1, hv.2]; rfl
  rw [e]
  obtain ⟨r1, r2, r3⟩ := @chF_facts c ds ps
  obtain ⟨k3, k4⟩ := small_rows r2
  clear e hv r2 r3
  (repeat' (first | (refine gA fun _ => ?_) | (refine fkI (fun hb => ?_) (fun hb => ?_) <;> (try simp only [ew, e3] at hb)) | (simp only [go_sem, Nat.reduceLeDiff, Nat.reduceEqDiff, reduceIte, reduceCtorEq, Nat.reduceAdd, Nat.reduceMul, Nat.reduceSub, Nat.reduceLT, Int.reduceLT, Int.reduceLE, Int.reduceNeg, Int.reduceToNat, Nat.reduceBEq, Nat.reduceBNe, Int.reduceGE, Int.reduceGT, *, cLo, cAreDeps, cParts, cChase, cEqIntS, Tryz.results7, e3])))
  clear e3
  generalize hR : chF c ds ps = rs at r1 k3 k4
  clear hR
  refine lpI { ι := Nat, rs := [(6, 7), (8, 9), (25, 33)], mods := [(24, fun i => .one (.d (.v (.int .i64 i))))], boxes := [], arrs := [(22, fun _ => (1, sL rs, 2))], ok := fun i => i ≤ rs.length ∧ (rs.drop i).any (fun r => r == zeroR c) = rs.any (fun r => r == zeroR c), mu := fun i => rs.length - i } rfl 0 ⟨Nat.zero_le _, rfl⟩ ?_ fun i hi => ?_
  ·(repeat' (first | (refine gA fun _ => ?_) | (refine fkI (fun hb => ?_) (fun hb => ?_) <;> (try simp only [ew] at hb)) | (simp only [go_sem, Nat.reduceLeDiff, Nat.reduceEqDiff, reduceIte, reduceCtorEq, Nat.reduceAdd, Nat.reduceMul, Nat.reduceSub, Nat.reduceLT, Int.reduceLT, Int.reduceLE, Int.reduceNeg, Int.reduceToNat, Nat.reduceBEq, Nat.reduceBNe, Int.reduceGE, Int.reduceGT, *, cLo, cAreDeps, cParts, cChase, cEqIntS, Tryz.results7])))
  ·dsimp only at i hi
   obtain ⟨hi, ht⟩ := hi
   have hri := all_getD k3 i
   by_cases h5 : i < rs.length
   ·rw [any_drop h5 [] _] at ht
    cases hq : ((rs.getD i []) == zeroR c)
    ·rw [hq, Bool.false_or] at ht
     (repeat' (first | (refine gA fun _ => ?_) | (refine fkI (fun hb => ?_) (fun hb => ?_) <;> (try simp only [ew, hq, repI, zeroR_length] at hb)) | (simp only [go_sem, Nat.reduceLeDiff, Nat.reduceEqDiff, reduceIte, reduceCtorEq, Nat.reduceAdd, Nat.reduceMul, Nat.reduceSub, Nat.reduceLT, Int.reduceLT, Int.reduceLE, Int.reduceNeg, Int.reduceToNat, Nat.reduceBEq, Nat.reduceBNe, Int.reduceGE, Int.reduceGT, *, cLo, cAreDeps, cParts, cChase, cEqIntS, Tryz.results7, hq, repI, zeroR_length])))
     refine lpN (i + 1) ⟨by omega, ht⟩ (by dsimp only; omega) ?_
     clear ht
     (repeat' (first | (refine gA fun _ => ?_) | (refine fkI (fun hb => ?_) (fun hb => ?_) <;> (try simp only [ew, hq, repI, zeroR_length] at hb)) | (simp only [go_sem, Nat.reduceLeDiff, Nat.reduceEqDiff, reduceIte, reduceCtorEq, Nat.reduceAdd, Nat.reduceMul, Nat.reduceSub, Nat.reduceLT, Int.reduceLT, Int.reduceLE, Int.reduceNeg, Int.reduceToNat, Nat.reduceBEq, Nat.reduceBNe, Int.reduceGE, Int.reduceGT, *, cLo, cAreDeps, cParts, cChase, cEqIntS, Tryz.results7, hq, repI, zeroR_length])))
    ·rw [hq, Bool.true_or] at ht
     rw [← ht]
     clear ht
     (repeat' (first | (refine gA fun _ => ?_) | (refine fkI (fun hb => ?_) (fun hb => ?_) <;> (try simp only [ew, hq, repI, zeroR_length] at hb)) | (simp only [go_sem, Nat.reduceLeDiff, Nat.reduceEqDiff, reduceIte, reduceCtorEq, Nat.reduceAdd, Nat.reduceMul, Nat.reduceSub, Nat.reduceLT, Int.reduceLT, Int.reduceLE, Int.reduceNeg, Int.reduceToNat, Nat.reduceBEq, Nat.reduceBNe, Int.reduceGE, Int.reduceGT, *, cLo, cAreDeps, cParts, cChase, cEqIntS, Tryz.results7, hq, repI, zeroR_length])))
   ·have e5 : i = rs.length := by omega
    subst e5
    rw [List.drop_length, List.any_nil] at ht
    rw [← ht]
    clear ht
    (repeat' (first | (refine gA fun _ => ?_) | (refine fkI (fun hb => ?_) (fun hb => ?_) <;> (try simp only [ew] at hb)) | (simp only [go_sem, Nat.reduceLeDiff, Nat.reduceEqDiff, reduceIte, reduceCtorEq, Nat.reduceAdd, Nat.reduceMul, Nat.reduceSub, Nat.reduceLT, Int.reduceLT, Int.reduceLE, Int.reduceNeg, Int.reduceToNat, Nat.reduceBEq, Nat.reduceBNe, Int.reduceGE, Int.reduceGT, *, cLo, cAreDeps, cParts, cChase, cEqIntS, Tryz.results7])))
theorem loS_ok : ContractOK E0 10 cLo := by
 refine cWpc (E := E0) (T := mkT Tryz.prog [(31, cAreDeps), (47, cParts), (48, cChase), (49, cEqIntS)] false (fun _ => false) true (fun _ => false)) (mkT_ok (E := E0) (.cons areDepsS_ok (.cons partsS_ok (.cons chaseS_ok (.cons l2Ints_ok .nil))))) (fn := Tryz.f10) Tryz.func10 (by kernel_rfl) rfl mixedT (by kernel_rfl) rfl ?_
 intro args p rs ms hr
 unfold cLo at hr
 dsimp only at hr
 split at hr
 rotate_left
 ·cases hr
 rename_i n l p
 simp only [Option.some.injEq, Prod.mk.injEq] at hr
 obtain ⟨rfl, rfl, rfl⟩ := hr
 refine ⟨rfl, rfl, Nat.le_of_ble_eq_true rfl, ?_⟩
 have hm : maxLen = 9223372036854775807 := rfl
 rintro ⟨h1, h2, hn1, hn2⟩ bs
 obtain ⟨ds, rfl, hx⟩ := h1.ex
 obtain ⟨ps, rfl, hy⟩ := h2.ex
 clear h1 h2
 rw [unD_dL, unI_iL]
 cases hv : (depsOK n ds && partsOK n ps)
 ·have e3 : (!depsOK n ds || !partsOK n ps) = true := by rw [← Bool.not_and, hv]; rfl
  have e : loB n ds ps = false := by unfold loB; rw [hv]; rfl
  rw [e]
  clear e hv
  (repeat' (first | (refine gA fun _ => ?_) | (refine fkI (fun hb => ?_) (fun hb => ?_) <;> (try simp only [ew, e3] at hb)) | (simp only [go_sem, Nat.reduceLeDiff, Nat.reduceEqDiff, reduceIte, reduceCtorEq, Nat.reduceAdd, Nat.reduceMul, Nat.reduceSub, Nat.reduceLT, Int.reduceLT, Int.reduceLE, Int.reduceNeg, Int.reduceToNat, Nat.reduceBEq, Nat.reduceBNe, Int.reduceGE, Int.reduceGT, *, cLo, cAreDeps, cParts, cChase, cEqIntS, Tryz.results10, e3])))
 ·have e3 : (!depsOK n ds || !partsOK n ps) = false := by rw [← Bool.not_and, hv]; rfl
  rw [Bool.and_eq_true] at hv
  obtain ⟨f1, f2, f3, f4⟩ := parts_facts hv.2
  obtain ⟨c, rfl⟩ := Int.eq_ofNat_of_zero_le (show 0 ≤ n by omega)
  have e : loB c ds ps = (chF c ds ps).any (fun r => r == zeroR c) := by unfold loB; rw [hv.1, hv.2]; rfl
  rw [e]
  obtain ⟨r1, r2, r3⟩ := @chF_facts c ds ps
  obtain ⟨k3, k4⟩ := small_rows r2
  clear e hv r2 r3
  (repeat' (first | (refine gA fun _ => ?_) | (refine fkI (fun hb => ?_) (fun hb => ?_) <;> (try simp only [ew, e3] at hb)) | (simp only [go_sem, Nat.reduceLeDiff, Nat.reduceEqDiff, reduceIte, reduceCtorEq, Nat.reduceAdd, Nat.reduceMul, Nat.reduceSub, Nat.reduceLT, Int.reduceLT, Int.reduceLE, Int.reduceNeg, Int.reduceToNat, Nat.reduceBEq, Nat.reduceBNe, Int.reduceGE, Int.reduceGT, *, cLo, cAreDeps, cParts, cChase, cEqIntS, Tryz.results10, e3])))
  clear e3
  generalize hR : chF c ds ps = rs at r1 k3 k4
  clear hR
  refine lpI { ι := Nat, rs := [(6, 7), (23, 36)], mods := [(8, fun i => .one (.d (.v (.int .i64 i))))], boxes := [], arrs := [(7, fun _ => (1, sL rs, 2))], ok := fun i => i ≤ rs.length ∧ (rs.drop i).any (fun r => r == zeroR c) = rs.any (fun r => r == zeroR c), mu := fun i => rs.length - i } rfl 0 ⟨Nat.zero_le _, rfl⟩ ?_ fun i hi => ?_
  ·(repeat' (first | (refine gA fun _ => ?_) | (refine fkI (fun hb => ?_) (fun hb => ?_) <;> (try simp only [ew] at hb)) | (simp only [go_sem, Nat.reduceLeDiff, Nat.reduceEqDiff, reduceIte, reduceCtorEq, Nat.reduceAdd, Nat.reduceMul, Nat.reduceSub, Nat.reduceLT, Int.reduceLT, Int.reduceLE, Int.reduceNeg, Int.reduceToNat, Nat.reduceBEq, Nat.reduceBNe, Int.reduceGE, Int.reduceGT, *, cLo, cAreDeps, cParts, cChase, cEqIntS, Tryz.results10])))
  ·dsimp only at i hi
   obtain ⟨hi, ht⟩ := hi
   have hri := all_getD k3 i
   by_cases h5 : i < rs.length
   ·rw [any_drop h5 [] _] at ht
    cases hq : ((rs.getD i []) == zeroR c)
    ·rw [hq, Bool.false_or] at ht
     (repeat' (first | (refine gA fun _ => ?_) | (refine fkI (fun hb => ?_) (fun hb => ?_) <;> (try simp only [ew, hq, repI, zeroR_length] at hb)) | (simp only [go_sem, Nat.reduceLeDiff, Nat.reduceEqDiff, reduceIte, reduceCtorEq, Nat.reduceAdd, Nat.reduceMul, Nat.reduceSub, Nat.reduceLT, Int.reduceLT, Int.reduceLE, Int.reduceNeg, Int.reduceToNat, Nat.reduceBEq, Nat.reduceBNe, Int.reduceGE, Int.reduceGT, *, cLo, cAreDeps, cParts, cChase, cEqIntS, Tryz.results10, hq, repI, zeroR_length])))
     refine lpN (i + 1) ⟨by omega, ht⟩ (by dsimp only; omega) ?_
     clear ht
     (repeat' (first | (refine gA fun _ => ?_) | (refine fkI (fun hb => ?_) (fun hb => ?_) <;> (try simp only [ew, hq, repI, zeroR_length] at hb)) | (simp only [go_sem, Nat.reduceLeDiff, Nat.reduceEqDiff, reduceIte, reduceCtorEq, Nat.reduceAdd, Nat.reduceMul, Nat.reduceSub, Nat.reduceLT, Int.reduceLT, Int.reduceLE, Int.reduceNeg, Int.reduceToNat, Nat.reduceBEq, Nat.reduceBNe, Int.reduceGE, Int.reduceGT, *, cLo, cAreDeps, cParts, cChase, cEqIntS, Tryz.results10, hq, repI, zeroR_length])))
    ·rw [hq, Bool.true_or] at ht
     rw [← ht]
     clear ht
     (repeat' (first | (refine gA fun _ => ?_) | (refine fkI (fun hb => ?_) (fun hb => ?_) <;> (try simp only [ew, hq, repI, zeroR_length] at hb)) | (simp only [go_sem, Nat.reduceLeDiff, Nat.reduceEqDiff, reduceIte, reduceCtorEq, Nat.reduceAdd, Nat.reduceMul, Nat.reduceSub, Nat.reduceLT, Int.reduceLT, Int.reduceLE, Int.reduceNeg, Int.reduceToNat, Nat.reduceBEq, Nat.reduceBNe, Int.reduceGE, Int.reduceGT, *, cLo, cAreDeps, cParts, cChase, cEqIntS, Tryz.results10, hq, repI, zeroR_length])))
   ·have e5 : i = rs.length := by omega
    subst e5
    rw [List.drop_length, List.any_nil] at ht
    rw [← ht]
    clear ht
    (repeat' (first | (refine gA fun _ => ?_) | (refine fkI (fun hb => ?_) (fun hb => ?_) <;> (try simp only [ew] at hb)) | (simp only [go_sem, Nat.reduceLeDiff, Nat.reduceEqDiff, reduceIte, reduceCtorEq, Nat.reduceAdd, Nat.reduceMul, Nat.reduceSub, Nat.reduceLT, Int.reduceLT, Int.reduceLE, Int.reduceNeg, Int.reduceToNat, Nat.reduceBEq, Nat.reduceBNe, Int.reduceGE, Int.reduceGT, *, cLo, cAreDeps, cParts, cChase, cEqIntS, Tryz.results10])))
def ltB (n : Int) (ds : List (Int × Int)) (ps : List Int) : Bool := depsOK n ds && partsOK n ps && !loB n ds ps
def ltC (n : Int) (ds : List (Int × Int)) (ps : List Int) : Int := if ltB n ds ps then n else 0
def ltR (n : Int) (ds : List (Int × Int)) (ps : List Int) : List (List Int) := if ltB n ds ps then chF n ds ps else []
def cLt : Contract := ⟨[], false, fun
 | [.one (.v (.int .i64 n)), .one (.sl 2 l), .one (.sl 1 p)] => some (WfD l ∧ WfI p ∧ -9223372036854775808 ≤ n ∧ n ≤ 9223372036854775807,
   [⟨true, [.d (.v (.int .i64 (ltC n (unD l) (unI p)))), .own 1 (sL (ltR n (unD l) (unI p))) 1]⟩, ⟨false, [.d (.v (.bool (ltB n (unD l) (unI p))))]⟩], [])
 | _ => none⟩
theorem ltI_ok : ContractOK E0 8 cLt := by
 refine cWpc (E := E0) (T := mkT Tryz.prog [(43, cAreDeps), (44, cParts), (7, cLo), (45, cChase)] false (fun _ => false) true (fun _ => false)) (mkT_ok (E := E0) (.cons areDepsI_ok (.cons partsI_ok (.cons loI_ok (.cons chEnd_ok .nil))))) (fn := Tryz.f8) Tryz.func8 (by kernel_rfl) rfl mixedT (by kernel_rfl) rfl ?_
 intro args p rs ms hr
 unfold cLt at hr
 dsimp only at hr
 split at hr
 rotate_left
 ·cases hr
 rename_i n l p
 simp only [Option.some.injEq, Prod.mk.injEq] at hr
 obtain ⟨rfl, rfl, rfl⟩ := hr
 refine ⟨rfl, rfl, Nat.le_of_ble_eq_true rfl, ?_⟩
 have hm : maxLen = 9223372036854775807 := rfl
 rintro ⟨h1, h2, hn1, hn2⟩ bs
 obtain ⟨ds, rfl, hx⟩ := h1.ex
 obtain ⟨ps, rfl, hy⟩ := h2.ex
 clear h1 h2
 rw [unD_dL, unI_iL]
 have e3 : (!depsOK n ds || !partsOK n ps || loB n ds ps) = !ltB n ds ps := by unfold ltB; cases depsOK n ds <;> cases partsOK n ps <;> cases loB n ds ps <;> rfl
 unfold ltC ltR
 cases hv : ltB n ds ps
 ·rw [hv] at e3
  (repeat' (first | (refine gA fun _ => ?_) | (refine fkI (fun hb => ?_) (fun hb => ?_) <;> (try simp only [ew, e3] at hb)) | (simp only [go_sem, Nat.reduceLeDiff, Nat.reduceEqDiff, reduceIte, reduceCtorEq, Nat.reduceAdd, Nat.reduceMul, Nat.reduceSub, Nat.reduceLT, Int.reduceLT, Int.reduceLE, Int.reduceNeg, Int.reduceToNat, Nat.reduceBEq, Nat.reduceBNe, Int.reduceGE, Int.reduceGT, *, cLt, cAreDeps, cParts, cLo, cChase, Tryz.results8, e3])))
  all_goals first | rfl | exact ⟨rfl, rfl⟩ | skip
 ·rw [hv] at e3
  simp only [if_true]
  (repeat' (first | (refine gA fun _ => ?_) | (refine fkI (fun hb => ?_) (fun hb => ?_) <;> (try simp only [ew, e3] at hb)) | (simp only [go_sem, Nat.reduceLeDiff, Nat.reduceEqDiff, reduceIte, reduceCtorEq, Nat.reduceAdd, Nat.reduceMul, Nat.reduceSub, Nat.reduceLT, Int.reduceLT, Int.reduceLE, Int.reduceNeg, Int.reduceToNat, Nat.reduceBEq, Nat.reduceBNe, Int.reduceGE, Int.reduceGT, *, cLt, cAreDeps, cParts, cLo, cChase, Tryz.results8, e3])))
  all_goals first | rfl | exact ⟨rfl, rfl⟩ | skip
theorem ltS_ok : ContractOK E0 9 cLt := by
 refine cWpc (E := E0) (T := mkT Tryz.prog [(31, cAreDeps), (47, cParts), (10, cLo), (48, cChase)] false (fun _ => false) true (fun _ => false)) (mkT_ok (E := E0) (.cons areDepsS_ok (.cons partsS_ok (.cons loS_ok (.cons chaseS_ok .nil))))) (fn := Tryz.f9) Tryz.func9 (by kernel_rfl) rfl mixedT (by kernel_rfl) rfl ?_
 intro args p rs ms hr
 unfold cLt at hr
 dsimp only at hr
 split at hr
 rotate_left
 ·cases hr
 rename_i n l p
 simp only [Option.some.injEq, Prod.mk.injEq] at hr
 obtain ⟨rfl, rfl, rfl⟩ := hr
 refine ⟨rfl, rfl, Nat.le_of_ble_eq_true rfl, ?_⟩
 have hm : maxLen = 9223372036854775807 := rfl
 rintro ⟨h1, h2, hn1, hn2⟩ bs
 obtain ⟨ds, rfl, hx⟩ := h1.ex
 obtain ⟨ps, rfl, hy⟩ := h2.ex
 clear h1 h2
 rw [unD_dL, unI_iL]
 have e3 : (!depsOK n ds || !partsOK n ps || loB n ds ps) = !ltB n ds ps := by unfold ltB; cases depsOK n ds <;> cases partsOK n ps <;> cases loB n ds ps <;> rfl
 unfold ltC ltR
 cases hv : ltB n ds ps
 ·rw [hv] at e3
  (repeat' (first | (refine gA fun _ => ?_) | (refine fkI (fun hb => ?_) (fun hb => ?_) <;> (try simp only [ew, e3] at hb)) | (simp only [go_sem, Nat.reduceLeDiff, Nat.reduceEqDiff, reduceIte, reduceCtorEq, Nat.reduceAdd, Nat.reduceMul, Nat.reduceSub, Nat.reduceLT, Int.reduceLT, Int.reduceLE, Int.reduceNeg, Int.reduceToNat, Nat.reduceBEq, Nat.reduceBNe, Int.reduceGE, Int.reduceGT, *, cLt, cAreDeps, cParts, cLo, cChase, Tryz.results9, e3])))
  all_goals first | rfl | exact ⟨rfl, rfl⟩ | skip
 ·rw [hv] at e3
  simp only [if_true]
  (repeat' (first | (refine gA fun _ => ?_) | (refine fkI (fun hb => ?_) (fun hb => ?_) <;> (try simp only [ew, e3] at hb)) | (simp only [go_sem, Nat.reduceLeDiff, Nat.reduceEqDiff, reduceIte, reduceCtorEq, Nat.reduceAdd, Nat.reduceMul, Nat.reduceSub, Nat.reduceLT, Int.reduceLT, Int.reduceLE, Int.reduceNeg, Int.reduceToNat, Nat.reduceBEq, Nat.reduceBNe, Int.reduceGE, Int.reduceGT, *, cLt, cAreDeps, cParts, cLo, cChase, Tryz.results9, e3])))
  all_goals first | rfl | exact ⟨rfl, rfl⟩ | skip
end Go.Own
namespace Go.Own
open Go Go.Proofs
attribute [local go_sem] unD_dL dL_length dL_get dL_set dL_inj wfD_dL scal2 beq2 pair_eta
theorem ltR_facts {n : Int} {ds : List (Int × Int)} {ps : List Int} : (ltR n ds ps).length ≤ 10 ∧ (∀ r ∈ ltR n ds ps, r.length ≤ 5) ∧ tot (ltR n ds ps) ≤ 50 := by
 unfold ltR
 split
 ·exact chF_facts
 ·simp [tot]
end Go.Own
namespace Go.Own
open Go Go.Proofs
attribute [local go_sem] unD_dL dL_length dL_get dL_set dL_inj wfD_dL scal2 beq2 pair_eta dL_scal
end Go.Own
