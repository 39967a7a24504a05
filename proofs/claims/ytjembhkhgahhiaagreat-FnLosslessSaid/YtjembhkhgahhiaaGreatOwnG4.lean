import Derived.Test.YtjembhkhgahhiaaGreatOwnY2
set_option linter.unusedSimpArgs false
set_option linter.unusedVariables false
set_option maxRecDepth 20000
set_option maxHeartbeats 2000000
namespace Go.Own
open Go Go.Proofs
attribute [local go_sem] unD_dL dL_length dL_get dL_set dL_inj wfD_dL scal2 beq2 pair_eta
def cClo : Contract := ⟨[], false, fun
 | [.one (.sl 2 l), .one (.v (.int .i64 x))] => some (WfD l ∧ (∀ d ∈ unD l, depR d) ∧ 0 ≤ x ∧ x ≤ 31, [⟨false, [.d (.v (.int .i64 (clo (unD l) x)))]⟩], [])
 | _ => none⟩
theorem depR_at {ds : List (Int × Int)} {i : Nat} (hd : ∀ d ∈ ds, depR d) (h : i < ds.length) : (0 ≤ (ds.getD i (0, 0)).1 ∧ (ds.getD i (0, 0)).1 ≤ 31) ∧ 0 ≤ (ds.getD i (0, 0)).2 ∧ (ds.getD i (0, 0)).2 ≤ 4 := by
 have := hd _ (getD_mem h (0, 0))
 exact ⟨this.1, this.2⟩
theorem shl5 {r : Int} (h : 0 ≤ r ∧ r ≤ 4) : 1 ≤ (2 : Int) ^ r.toNat ∧ (2 : Int) ^ r.toNat ≤ 16 := p5 (c := r.toNat) (by omega)
theorem bits_R {x r : Int} (hx : R5 x) (hr : 0 ≤ r ∧ r ≤ 4) : 0 ≤ addB x r ∧ addB x r ≤ 31 := addB_R hx hr
theorem cloSpec_ok : ContractOK E0 102 cClo := by
 refine cWpc (E := E0) (T := mkT Tryz.prog [] false (fun _ => false) true (fun _ => false)) (mkT_ok (E := E0) .nil) (fn := Tryz.f102) Tryz.func102 (by kernel_rfl) rfl mixedT (by kernel_rfl) rfl ?_
 intro args p rs ms hr
 unfold cClo at hr
 dsimp only at hr
 split at hr
 rotate_left
 ·cases hr
 rename_i l x
 simp only [Option.some.injEq, Prod.mk.injEq] at hr
 obtain ⟨rfl, rfl, rfl⟩ := hr
 refine ⟨rfl, rfl, Nat.le_of_ble_eq_true rfl, ?_⟩
 have hm : maxLen = 9223372036854775807 := rfl
 rintro ⟨h1, hd, hx1, hx2⟩ bs
 obtain ⟨ds, rfl, hx⟩ := h1.ex
 clear h1
 rw [unD_dL] at hd ⊢
 unfold clo
 generalize hF : passN ds 6 x = F
 (repeat' (first | (refine gA fun _ => ?_) | (refine fkI (fun hb => ?_) (fun hb => ?_) <;> (try simp only [ew] at hb)) | (simp only [go_sem, Nat.reduceLeDiff, Nat.reduceEqDiff, reduceIte, reduceCtorEq, Nat.reduceAdd, Nat.reduceMul, Nat.reduceSub, Nat.reduceLT, Int.reduceLT, Int.reduceLE, Int.reduceNeg, Int.reduceToNat, Nat.reduceBEq, Nat.reduceBNe, Int.reduceGE, Int.reduceGT, *, cClo, Tryz.results102])))
 refine lpI { ι := Nat × Int, rs := [(6, 38)], mods := [(5, fun i => .one (.d (.v (.int .i64 i.1)))), (1, fun i => .one (.d (.v (.int .i64 i.2))))], boxes := [], arrs := [], ok := fun i => i.1 ≤ 6 ∧ R5 i.2 ∧ passN ds (6 - i.1) i.2 = F, mu := fun i => 6 - i.1 } rfl (0, x) ⟨by omega, ⟨hx1, hx2⟩, hF⟩ ?_ ?_
 ·(repeat' (first | (refine gA fun _ => ?_) | (refine fkI (fun hb => ?_) (fun hb => ?_) <;> (try simp only [ew] at hb)) | (simp only [go_sem, Nat.reduceLeDiff, Nat.reduceEqDiff, reduceIte, reduceCtorEq, Nat.reduceAdd, Nat.reduceMul, Nat.reduceSub, Nat.reduceLT, Int.reduceLT, Int.reduceLE, Int.reduceNeg, Int.reduceToNat, Nat.reduceBEq, Nat.reduceBNe, Int.reduceGE, Int.reduceGT, *, cClo, Tryz.results102])))
 ·rintro ⟨k, y⟩ hi
  dsimp only at hi
  obtain ⟨hk, hy, ht⟩ := hi
  obtain ⟨y1, y2⟩ := hy
  clear hF
  by_cases h6 : k < 6
  ·have h6' : (k : Int) ≤ 5 := by omega
   rw [show 6 - k = 6 - (k + 1) + 1 by omega, passN] at ht
   generalize hP : pass1 ds y = P at ht
   have hPR : R5 P := hP ▸ pass1_R hd ⟨y1, y2⟩
   (repeat' (first | (refine gA fun _ => ?_) | (refine fkI (fun hb => ?_) (fun hb => ?_) <;> (try simp only [ew] at hb)) | (simp only [go_sem, Nat.reduceLeDiff, Nat.reduceEqDiff, reduceIte, reduceCtorEq, Nat.reduceAdd, Nat.reduceMul, Nat.reduceSub, Nat.reduceLT, Int.reduceLT, Int.reduceLE, Int.reduceNeg, Int.reduceToNat, Nat.reduceBEq, Nat.reduceBNe, Int.reduceGE, Int.reduceGT, *, cClo, Tryz.results102])))
   refine lpI { ι := Nat × Int, rs := [(11, 38)], mods := [(6, fun i => .one (.d (.v (.int .i64 i.1)))), (1, fun i => .one (.d (.v (.int .i64 i.2))))], boxes := [], arrs := [], ok := fun i => i.1 ≤ ds.length ∧ R5 i.2 ∧ pass1 (ds.drop i.1) i.2 = P, mu := fun i => ds.length - i.1 } rfl (0, y) ⟨Nat.zero_le _, ⟨y1, y2⟩, hP⟩ ?_ ?_
   ·clear ht
    (repeat' (first | (refine gA fun _ => ?_) | (refine fkI (fun hb => ?_) (fun hb => ?_) <;> (try simp only [ew] at hb)) | (simp only [go_sem, Nat.reduceLeDiff, Nat.reduceEqDiff, reduceIte, reduceCtorEq, Nat.reduceAdd, Nat.reduceMul, Nat.reduceSub, Nat.reduceLT, Int.reduceLT, Int.reduceLE, Int.reduceNeg, Int.reduceToNat, Nat.reduceBEq, Nat.reduceBNe, Int.reduceGE, Int.reduceGT, *, cClo, Tryz.results102])))
   ·rintro ⟨i, z⟩ hi
    dsimp only at hi
    obtain ⟨hi1, hz, hq⟩ := hi
    obtain ⟨z1, z2⟩ := hz
    clear hP
    by_cases h5 : i < ds.length
    ·obtain ⟨⟨d1, d2⟩, d3, d4⟩ := depR_at hd h5
     have hs := shl5 ⟨d3, d4⟩
     rw [drop_getD h5 (0, 0)] at hq
     have hq' : pass1 (ds.drop (i + 1)) (step1 z (ds.getD i (0, 0))) = P := hq
     have hR := step1_R (d := ds.getD i (0, 0)) (x := z) ⟨z1, z2⟩ ⟨⟨d1, d2⟩, d3, d4⟩
     have ea := and_ins (l := (ds.getD i (0, 0)).1) (x := z) ⟨d1, d2⟩ ⟨z1, z2⟩
     cases ha : insB (ds.getD i (0, 0)).1 z
     ·have e1 : step1 z (ds.getD i (0, 0)) = z := by unfold step1; rw [ha]; rfl
      rw [ha] at ea
      rw [e1] at hq' hR
      clear ha hd hs hq ht hPR e1
      (repeat' (first | (refine gA fun _ => ?_) | (refine fkI (fun hb => ?_) (fun hb => ?_) <;> (try simp only [ew, ea] at hb)) | (simp only [go_sem, Nat.reduceLeDiff, Nat.reduceEqDiff, reduceIte, reduceCtorEq, Nat.reduceAdd, Nat.reduceMul, Nat.reduceSub, Nat.reduceLT, Int.reduceLT, Int.reduceLE, Int.reduceNeg, Int.reduceToNat, Nat.reduceBEq, Nat.reduceBNe, Int.reduceGE, Int.reduceGT, *, cClo, Tryz.results102, ea])))
      refine lpN (i + 1, z) ⟨h5, hR, hq'⟩ (by dsimp only; omega) ?_
      clear hq'
      (repeat' (first | (refine gA fun _ => ?_) | (refine fkI (fun hb => ?_) (fun hb => ?_) <;> (try simp only [ew, ea] at hb)) | (simp only [go_sem, Nat.reduceLeDiff, Nat.reduceEqDiff, reduceIte, reduceCtorEq, Nat.reduceAdd, Nat.reduceMul, Nat.reduceSub, Nat.reduceLT, Int.reduceLT, Int.reduceLE, Int.reduceNeg, Int.reduceToNat, Nat.reduceBEq, Nat.reduceBNe, Int.reduceGE, Int.reduceGT, *, cClo, Tryz.results102, ea])))
     ·have e1 : step1 z (ds.getD i (0, 0)) = addB z (ds.getD i (0, 0)).2 := by unfold step1; rw [ha]; rfl
      rw [ha] at ea
      rw [e1] at hq' hR
      have hb := bits_R ⟨z1, z2⟩ ⟨d3, d4⟩
      have e : bitI .or .i64 z (1 * 2 ^ (ds.getD i (0, 0)).2.toNat) = addB z (ds.getD i (0, 0)).2 := rfl
      clear ha hd hq ht hPR e1
      (repeat' (first | (refine gA fun _ => ?_) | (refine fkI (fun hb => ?_) (fun hb => ?_) <;> (try simp only [ew, ea, e] at hb)) | (simp only [go_sem, Nat.reduceLeDiff, Nat.reduceEqDiff, reduceIte, reduceCtorEq, Nat.reduceAdd, Nat.reduceMul, Nat.reduceSub, Nat.reduceLT, Int.reduceLT, Int.reduceLE, Int.reduceNeg, Int.reduceToNat, Nat.reduceBEq, Nat.reduceBNe, Int.reduceGE, Int.reduceGT, *, cClo, Tryz.results102, ea, e])))
      refine lpN (i + 1, addB z (ds.getD i (0, 0)).2) ⟨h5, hR, hq'⟩ (by dsimp only; omega) ?_
      clear hq'
      (repeat' (first | (refine gA fun _ => ?_) | (refine fkI (fun hb => ?_) (fun hb => ?_) <;> (try simp only [ew, ea, e] at hb)) | (simp only [go_sem, Nat.reduceLeDiff, Nat.reduceEqDiff, reduceIte, reduceCtorEq, Nat.reduceAdd, Nat.reduceMul, Nat.reduceSub, Nat.reduceLT, Int.reduceLT, Int.reduceLE, Int.reduceNeg, Int.reduceToNat, Nat.reduceBEq, Nat.reduceBNe, Int.reduceGE, Int.reduceGT, *, cClo, Tryz.results102, ea, e])))
    ·have e5 : i = ds.length := by omega
     subst e5
     rw [List.drop_length] at hq
     have e : z = P := hq
     subst e
     (repeat' (first | (refine gA fun _ => ?_) | (refine fkI (fun hb => ?_) (fun hb => ?_) <;> (try simp only [ew] at hb)) | (simp only [go_sem, Nat.reduceLeDiff, Nat.reduceEqDiff, reduceIte, reduceCtorEq, Nat.reduceAdd, Nat.reduceMul, Nat.reduceSub, Nat.reduceLT, Int.reduceLT, Int.reduceLE, Int.reduceNeg, Int.reduceToNat, Nat.reduceBEq, Nat.reduceBNe, Int.reduceGE, Int.reduceGT, *, cClo, Tryz.results102])))
     refine lpN (k + 1, z) ⟨by dsimp only; omega, hPR, ht⟩ (by dsimp only; omega) ?_
     clear ht hq hPR
     (repeat' (first | (refine gA fun _ => ?_) | (refine fkI (fun hb => ?_) (fun hb => ?_) <;> (try simp only [ew] at hb)) | (simp only [go_sem, Nat.reduceLeDiff, Nat.reduceEqDiff, reduceIte, reduceCtorEq, Nat.reduceAdd, Nat.reduceMul, Nat.reduceSub, Nat.reduceLT, Int.reduceLT, Int.reduceLE, Int.reduceNeg, Int.reduceToNat, Nat.reduceBEq, Nat.reduceBNe, Int.reduceGE, Int.reduceGT, *, cClo, Tryz.results102])))
  ·have e6 : k = 6 := by omega
   subst e6
   have e : y = F := ht
   clear ht
   (repeat' (first | (refine gA fun _ => ?_) | (refine fkI (fun hb => ?_) (fun hb => ?_) <;> (try simp only [ew] at hb)) | (simp only [go_sem, Nat.reduceLeDiff, Nat.reduceEqDiff, reduceIte, reduceCtorEq, Nat.reduceAdd, Nat.reduceMul, Nat.reduceSub, Nat.reduceLT, Int.reduceLT, Int.reduceLE, Int.reduceNeg, Int.reduceToNat, Nat.reduceBEq, Nat.reduceBNe, Int.reduceGE, Int.reduceGT, *, cClo, Tryz.results102])))
   all_goals first | exact e | skip
def impB (n : Int) (ds : List (Int × Int)) (l r : Int) : Bool := depsOK n ds && depOK n l r && hasB (clo ds l) r
def cImp : Contract := ⟨[], false, fun
 | [.one (.v (.int .i64 n)), .one (.sl 2 l), .agg [.v (.int .i64 a), .v (.int .i64 b)]] => some (WfD l ∧ -9223372036854775808 ≤ n ∧ n ≤ 9223372036854775807, [⟨false, [.d (.v (.bool (impB n (unD l) a b)))]⟩], [])
 | _ => none⟩
theorem depOK_R {n l r : Int} (h : depOK n l r = true) : (0 ≤ l ∧ l ≤ 31) ∧ 0 ≤ r ∧ r ≤ 4 := by
 simp only [depOK, Bool.and_eq_true, inB_iff] at h
 have := isAttr_le h.1.2
 omega
theorem depsOK_R {n : Int} {ds : List (Int × Int)} (h : depsOK n ds = true) : ∀ d ∈ ds, depR d := by
 simp only [depsOK, Bool.and_eq_true] at h
 exact deps_R h.1
theorem impS_ok : ContractOK E0 135 cImp := by
 refine cWpc (E := E0) (T := mkT Tryz.prog [(31, cAreDeps), (90, cDep), (102, cClo)] false (fun _ => false) true (fun _ => false)) (mkT_ok (E := E0) (.cons areDepsS_ok (.cons depS_ok (.cons cloSpec_ok .nil)))) (fn := Tryz.f135) Tryz.func135 (by kernel_rfl) rfl mixedT (by kernel_rfl) rfl ?_
 intro args p rs ms hr
 unfold cImp at hr
 dsimp only at hr
 split at hr
 rotate_left
 ·cases hr
 rename_i n l a b
 simp only [Option.some.injEq, Prod.mk.injEq] at hr
 obtain ⟨rfl, rfl, rfl⟩ := hr
 refine ⟨rfl, rfl, Nat.le_of_ble_eq_true rfl, ?_⟩
 have hm : maxLen = 9223372036854775807 := rfl
 rintro ⟨h1, hn1, hn2⟩ bs
 obtain ⟨ds, rfl, hx⟩ := h1.ex
 clear h1
 rw [unD_dL]
 unfold impB
 cases hv : (depsOK n ds && depOK n a b)
 ·(repeat' (first | (refine gA fun _ => ?_) | (refine fkI (fun hb => ?_) (fun hb => ?_) <;> (try simp only [ew, hv] at hb)) | (simp only [go_sem, Nat.reduceLeDiff, Nat.reduceEqDiff, reduceIte, reduceCtorEq, Nat.reduceAdd, Nat.reduceMul, Nat.reduceSub, Nat.reduceLT, Int.reduceLT, Int.reduceLE, Int.reduceNeg, Int.reduceToNat, Nat.reduceBEq, Nat.reduceBNe, Int.reduceGE, Int.reduceGT, *, cImp, cAreDeps, cDep, cClo, Tryz.results135, hv])))
 ·rw [Bool.and_eq_true] at hv
  have hd := depsOK_R hv.1
  obtain ⟨⟨a1, a2⟩, b1, b2⟩ := depOK_R hv.2
  obtain ⟨v1, v2⟩ := hv
  unfold hasB
  (repeat' (first | (refine gA fun _ => ?_) | (refine fkI (fun hb => ?_) (fun hb => ?_) <;> (try simp only [ew] at hb)) | (simp only [go_sem, Nat.reduceLeDiff, Nat.reduceEqDiff, reduceIte, reduceCtorEq, Nat.reduceAdd, Nat.reduceMul, Nat.reduceSub, Nat.reduceLT, Int.reduceLT, Int.reduceLE, Int.reduceNeg, Int.reduceToNat, Nat.reduceBEq, Nat.reduceBNe, Int.reduceGE, Int.reduceGT, *, cImp, cAreDeps, cDep, cClo, Tryz.results135])))
end Go.Own
