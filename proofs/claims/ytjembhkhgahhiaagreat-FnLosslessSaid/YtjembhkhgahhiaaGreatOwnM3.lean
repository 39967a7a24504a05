/-
  The law of lossless parts. Conditions: as each theorem states them.
-/
import Derived.Test.YtjembhkhgahhiaaGreatOwnT8
import Derived.Test.YtjembhkhgahhiaaGreatOwnTc
import Derived.Test.YtjembhkhgahhiaaGreatOwnQ7b
import Derived.Test.YtjembhkhgahhiaaGreatOwnQ8a
import Derived.Test.YtjembhkhgahhiaaGreatOwnT6
set_option linter.unusedSimpArgs false
set_option linter.unusedVariables false
set_option maxRecDepth 20000
set_option maxHeartbeats 8000000
namespace Go.Own
open Go Go.Proofs
attribute [local go_sem] tf1b ft1b unB_bL bL_length wfB_bL unD_dL dL_length dL_get dL_set dL_inj wfD_dL scal2 beq2 pair_eta
def arT (n : Int) (ds : List (Int × Int)) : List (List Int) := if 6 < (arR n ds).length then (arR n ds).take 6 else arR n ds
theorem arT_facts {n : Int} {ds : List (Int × Int)} : (arT n ds).length ≤ 6 ∧ ∀ t ∈ arT n ds, t ∈ arR n ds := by
 unfold arT
 split
 ·exact ⟨by rw [List.length_take]; omega, fun t ht => List.mem_of_mem_take ht⟩
 ·exact ⟨by omega, fun t ht => ht⟩
theorem all2_one {n : Nat} : all2 n = 1 * 2 ^ n - 1 := by unfold all2; rw [Int.toNat_natCast]
theorem prR_lens {c : Int} {rs : List (List Int)} {x : Int} : ∀ r ∈ prR c rs x, r.length ≤ 5 := by
 unfold prR
 split
 ·intro r hr
  unfold prL at hr
  rw [onceL_mem, List.mem_map] at hr
  obtain ⟨q, _, rfl⟩ := hr
  unfold prRow
  rw [List.length_map]
  exact (@mem_facts x).1
 ·simp
theorem prR_len {c : Int} {rs : List (List Int)} {x : Int} : (prR c rs x).length ≤ rs.length := by
 unfold prR
 split
 ·have := @onceL_length (rs.map (prRow (mem x)))
  rw [List.length_map] at this
  exact this
 ·simp
theorem lawLs_ok : ContractOK E0 3 cLawC := by
 refine cWpc (E := E0) (T := mkT Tryz.prog [(5, cBig), (6, cDLo), (7, cLo), (8, cLt), (9, cLt), (10, cLo), (11, cEqTabs), (12, cJnI), (13, cSas), (14, cPrj), (15, cArm), (16, cDJn), (17, cDSt), (18, cStep), (19, cStep), (20, cDCs), (21, cJn), (22, cSameP), (23, cCS), (24, cCS)] false (fun _ => false) true (fun d => d == 999 || d == 104)) (mkT_ok (E := E0) (.cons big_ok (.cons dLo_ok (.cons loI_ok (.cons ltI_ok (.cons ltS_ok (.cons loS_ok (.cons eqTabsS_ok (.cons jnPI_ok (.cons sasS_ok (.cons prjS_ok (.cons armS_ok (.cons dJn_ok (.cons dSt_ok (.cons chStepI_ok (.cons chStepS_ok (.cons dCs_ok (.cons jnS_ok (.cons sameP_ok (.cons csI_ok (.cons csS_ok .nil))))))))))))))))))))) (fn := Tryz.f3) Tryz.func3 (by kernel_rfl) rfl mixedT (by kernel_rfl) rfl ?_
 intro args p rs ms hr
 unfold cLawC at hr
 dsimp only at hr
 split at hr
 rotate_left
 ·cases hr
 rename_i l
 simp only [Option.some.injEq, Prod.mk.injEq] at hr
 obtain ⟨rfl, rfl, rfl⟩ := hr
 refine ⟨rfl, rfl, Nat.le_of_ble_eq_true rfl, ?_⟩
 have hm : maxLen = 9223372036854775807 := rfl
 rintro ⟨h1, h3⟩ bs0
 obtain ⟨bs, rfl, hx⟩ := h1.ex
 clear h1
 rw [unB_bL] at h3
 by_cases hbig : bs.length > 1048576
 ·(repeat' (first | (refine gA fun _ => ?_) | (refine fkI (fun hb => ?_) (fun hb => ?_) <;> (try simp only [ew] at hb)) | (simp only [go_sem, Nat.reduceLeDiff, Nat.reduceEqDiff, reduceIte, reduceCtorEq, Nat.reduceAdd, Nat.reduceMul, Nat.reduceSub, Nat.reduceLT, Int.reduceLT, Int.reduceLE, Int.reduceNeg, Int.reduceToNat, Nat.reduceBEq, Nat.reduceBNe, Int.reduceGE, Int.reduceGT, *, cLawC, cBig, cDLo, cLo, cLt, cEqTabs, cJnI, cSas, cPrj, cArm, cDJn, cDSt, cStep, cDCs, cJn, cSameP, cCS, Tryz.results3])))
  all_goals first | rfl | contradiction | skip
 ·have hb2 : bs.length ≤ 1048576 := by omega
  obtain ⟨⟨n1, n2⟩, k2, k3⟩ := @dLo_facts bs
  generalize hL : dLo bs = L at *
  generalize hn : L.1 = n at *
  generalize hds : L.2.1 = ds at *
  generalize hps : L.2.2 = ps at *
  have a1 : ds.length ≤ maxLen := Nat.le_trans k2 (by decide)
  have a2 : ps.length ≤ maxLen := Nat.le_trans k3 (by decide)
  obtain ⟨⟨j1, j2⟩, j3, j4, j5⟩ := @dJn_facts bs
  generalize hJ : dJn bs = J at *
  generalize hjc : J.1.1 = jc at *
  generalize hjr : J.1.2 = jr at *
  generalize hjp : J.2 = jp at *
  have b1 : jr.length ≤ maxLen := Nat.le_trans j3 (by decide)
  have b2 : ∀ r ∈ jr, r.length ≤ maxLen := fun r hr => Nat.le_trans (j4 r hr) (by decide)
  have b3 : jp.length ≤ maxLen := Nat.le_trans j5 (by decide)
  clear j4
  obtain ⟨u1, u2⟩ := @jnT_facts jc jr jp
  generalize hjT : jnT jc jr jp = jT at *
  generalize hjC : jnC jc jr jp = jC at *
  have b4 : jT.length ≤ maxLen := Nat.le_trans u1 (by decide)
  have b5 : ∀ r ∈ jT, r.length ≤ maxLen := fun r hr => Nat.le_trans (u2 r hr) (by decide)
  clear u2
  obtain ⟨⟨c1, c2⟩, c3, c4⟩ := @d14_facts bs
  obtain ⟨s1, s2⟩ := @dStR_facts bs
  generalize hS : dStR bs = S at *
  generalize hM : d14 bs = M at *
  generalize hmc : M.1.1 = mc at *
  generalize hmd : M.1.2.1 = md at *
  generalize hmp : M.1.2.2 = mp at *
  have e1 : md.length ≤ maxLen := Nat.le_trans c3 (by decide)
  have e2 : mp.length ≤ maxLen := Nat.le_trans c4 (by decide)
  have e3 : S.length ≤ maxLen := Nat.le_trans s1 (by decide)
  have e4 : ∀ r ∈ S, r.length ≤ maxLen := fun r hr => Nat.le_trans (s2 r hr) (by decide)
  have e4' : ∀ r ∈ S, r.length ≤ 16777216 := fun r hr => Nat.le_trans (s2 r hr) (by decide)
  obtain ⟨p1, _, p3⟩ := lens_facts (@csOut_lens mc md S)
  have p4 := p3 _ e4
  clear p3 s2
  generalize hX : csOut mc md S = X at *
  generalize hXb : (csStep mc md S).isSome = xb at *
  have p5 : X.length ≤ maxLen := by rw [p1]; exact e3
  obtain ⟨f1, f2, _⟩ := @csF_facts mc mp
  generalize hF : csF mc mp = F at *
  have f3 : F.length ≤ maxLen := Nat.le_trans f1 (by decide)
  have f4 : ∀ r ∈ F, r.length ≤ maxLen := fun r hr => Nat.le_trans (f2 r hr) (by decide)
  clear f2
  obtain ⟨n, rfl⟩ := Int.eq_ofNat_of_zero_le n1
  have hp : 1 ≤ (2 : Int) ^ n ∧ (2 : Int) ^ n ≤ 64 := by
   have : n = 0 ∨ n = 1 ∨ n = 2 ∨ n = 3 ∨ n = 4 ∨ n = 5 ∨ n = 6 := by omega
   rcases this with rfl | rfl | rfl | rfl | rfl | rfl | rfl <;> decide
  obtain ⟨q1, q2, _⟩ := @ltR_facts n ds ps
  cases hlt : ltB n ds ps
  ·have l0 : ltR n ds ps = [] := by unfold ltR; rw [hlt]; rfl
   have l1 : ltC n ds ps = 0 := by unfold ltC; rw [hlt]; rfl
   clear q1 q2
   cases hlo : loB n ds ps
   ·(repeat' (first | (refine gA fun _ => ?_) | (refine fkI (fun hb => ?_) (fun hb => ?_) <;> (try simp only [ew, hL, hn, hds, hps, hJ, hjc, hjr, hjp, hjT, hjC, hS, hM, hmc, hmd, hmp, hX, hXb, hF, hlt, hlo, l0, l1, rvLo] at hb)) | (simp only [go_sem, Nat.reduceLeDiff, Nat.reduceEqDiff, reduceIte, reduceCtorEq, Nat.reduceAdd, Nat.reduceMul, Nat.reduceSub, Nat.reduceLT, Int.reduceLT, Int.reduceLE, Int.reduceNeg, Int.reduceToNat, Nat.reduceBEq, Nat.reduceBNe, Int.reduceGE, Int.reduceGT, *, cLawC, cBig, cDLo, cLo, cLt, cEqTabs, cJnI, cSas, cPrj, cArm, cDJn, cDSt, cStep, cDCs, cJn, cSameP, cCS, Tryz.results3, hL, hn, hds, hps, hJ, hjc, hjr, hjp, hjT, hjC, hS, hM, hmc, hmd, hmp, hX, hXb, hF, hlt, hlo, l0, l1, rvLo])))
    all_goals first | rfl | skip
   ·have hdep : depsOK n ds = true := by
     have := hlo
     unfold loB at this
     rw [Bool.and_eq_true, Bool.and_eq_true] at this
     exact this.1.1
    obtain ⟨t1, t2⟩ := @arT_facts n ds
    have t3 := arR_tab hdep t2 (by omega)
    obtain ⟨g1, g2⟩ := lossless_join hlo t3 (by omega) (arR_sat hdep t2)
    obtain ⟨v1, v2⟩ := @arR_facts n ds
    have w1 := @prR_lens n (arT n ds) (all2 n)
    have w2 := @prR_len n (arT n ds) (all2 n)
    rw [all2_one] at g1 g2 w1 w2
    have hc : arC n ds = n := by unfold arC; rw [hdep, if_pos rfl]
    unfold arT at g1 g2 w1 w2 t1
    generalize hA : arR n ds = A at *
    have m1 : A.length ≤ maxLen := Nat.le_trans v1 (by decide)
    have m2 : ∀ r ∈ A, r.length ≤ maxLen := fun r hr => Nat.le_trans (v2 r hr) (by decide)
    clear t2 t3 hdep
    by_cases h6 : 6 < A.length
    ·rw [if_pos h6] at g1 g2 w1 w2 t1
     have d6 : decide ((A.length : Int) > 6) = true := decide_eq_true (by omega)
     have m3 : ∀ r ∈ A.take 6, r.length ≤ maxLen := fun r hr => m2 r (List.mem_of_mem_take hr)
     have sT : (sL A).take 6 = sL (A.take 6) := by simp [sL, List.map_take]
     clear v2
     generalize hT : A.take 6 = T at g1 g2 w1 w2 m3 sT t1
     have m4 : T.length ≤ maxLen := Nat.le_trans t1 (by decide)
     generalize hP : prR n T (1 * 2 ^ n - 1) = Pr at g1 w1 w2
     generalize hPc : prC n T (1 * 2 ^ n - 1) = Pc at g2
     have m5 : Pr.length ≤ maxLen := Nat.le_trans (show Pr.length ≤ 6 by omega) (by decide)
     have m6 : ∀ r ∈ Pr, r.length ≤ maxLen := fun r hr => Nat.le_trans (w1 r hr) (by decide)
     clear w1
     (repeat' (first | (refine gA fun _ => ?_) | (refine fkI (fun hb => ?_) (fun hb => ?_) <;> (try simp only [ew, hL, hn, hds, hps, hJ, hjc, hjr, hjp, hjT, hjC, hS, hM, hmc, hmd, hmp, hX, hXb, hF, hlt, hlo, l0, l1, rvLo, hA, hc, d6, sT, g1, g2, hP, hPc, bits64] at hb)) | (simp only [go_sem, Nat.reduceLeDiff, Nat.reduceEqDiff, reduceIte, reduceCtorEq, Nat.reduceAdd, Nat.reduceMul, Nat.reduceSub, Nat.reduceLT, Int.reduceLT, Int.reduceLE, Int.reduceNeg, Int.reduceToNat, Nat.reduceBEq, Nat.reduceBNe, Int.reduceGE, Int.reduceGT, *, cLawC, cBig, cDLo, cLo, cLt, cEqTabs, cJnI, cSas, cPrj, cArm, cDJn, cDSt, cStep, cDCs, cJn, cSameP, cCS, Tryz.results3, hL, hn, hds, hps, hJ, hjc, hjr, hjp, hjT, hjC, hS, hM, hmc, hmd, hmp, hX, hXb, hF, hlt, hlo, l0, l1, rvLo, hA, hc, d6, sT, g1, g2, hP, hPc, bits64])))
     all_goals first | rfl | skip
    ·rw [if_neg h6] at g1 g2 w1 w2 t1
     have d6 : decide ((A.length : Int) > 6) = false := decide_eq_false (by omega)
     clear v2
     generalize hP : prR n A (1 * 2 ^ n - 1) = Pr at g1 w1 w2
     generalize hPc : prC n A (1 * 2 ^ n - 1) = Pc at g2
     have m5 : Pr.length ≤ maxLen := Nat.le_trans (show Pr.length ≤ 40 by omega) (by decide)
     have m6 : ∀ r ∈ Pr, r.length ≤ maxLen := fun r hr => Nat.le_trans (w1 r hr) (by decide)
     clear w1
     (repeat' (first | (refine gA fun _ => ?_) | (refine fkI (fun hb => ?_) (fun hb => ?_) <;> (try simp only [ew, hL, hn, hds, hps, hJ, hjc, hjr, hjp, hjT, hjC, hS, hM, hmc, hmd, hmp, hX, hXb, hF, hlt, hlo, l0, l1, rvLo, hA, hc, d6, g1, g2, hP, hPc, bits64] at hb)) | (simp only [go_sem, Nat.reduceLeDiff, Nat.reduceEqDiff, reduceIte, reduceCtorEq, Nat.reduceAdd, Nat.reduceMul, Nat.reduceSub, Nat.reduceLT, Int.reduceLT, Int.reduceLE, Int.reduceNeg, Int.reduceToNat, Nat.reduceBEq, Nat.reduceBNe, Int.reduceGE, Int.reduceGT, *, cLawC, cBig, cDLo, cLo, cLt, cEqTabs, cJnI, cSas, cPrj, cArm, cDJn, cDSt, cStep, cDCs, cJn, cSameP, cCS, Tryz.results3, hL, hn, hds, hps, hJ, hjc, hjr, hjp, hjT, hjC, hS, hM, hmc, hmd, hmp, hX, hXb, hF, hlt, hlo, l0, l1, rvLo, hA, hc, d6, g1, g2, hP, hPc, bits64])))
     all_goals first | rfl | skip
  ·obtain ⟨g1, g2, g3, g4, g5⟩ := lossy_join hlt
   have g6 : sasB n (ltR n ds ps) 0 ds = true := by
    unfold sasB
    rw [g3, Bool.and_eq_true, List.all_eq_true]
    exact ⟨fun d hd => g2 d hd, rfl⟩
   obtain ⟨y1, y2⟩ := @jnT_facts n (ltR n ds ps) ps
   have w1 := @prR_lens n (ltR n ds ps) (all2 n)
   have w2 := @prR_len n (ltR n ds ps) (all2 n)
   rw [all2_one] at g1 w1 w2
   clear g2 g3
   generalize hR : ltR n ds ps = R at *
   have m1 : R.length ≤ maxLen := Nat.le_trans q1 (by decide)
   have m2 : ∀ r ∈ R, r.length ≤ maxLen := fun r hr => Nat.le_trans (q2 r hr) (by decide)
   generalize hZ : jnT n R ps = Z at *
   generalize hZc : jnC n R ps = Zc at *
   have m3 : Z.length ≤ maxLen := Nat.le_trans y1 (by decide)
   have m4 : ∀ r ∈ Z, r.length ≤ maxLen := fun r hr => Nat.le_trans (y2 r hr) (by decide)
   generalize hP : prR n R (1 * 2 ^ n - 1) = Pr at *
   generalize hPc : prC n R (1 * 2 ^ n - 1) = Pc at *
   have m5 : Pr.length ≤ maxLen := Nat.le_trans (show Pr.length ≤ 40 by omega) (by decide)
   have m6 : ∀ r ∈ Pr, r.length ≤ maxLen := fun r hr => Nat.le_trans (w1 r hr) (by decide)
   have d6 : decide ((Z.length : Int) ≤ (Pr.length : Int)) = false := decide_eq_false (by omega)
   clear w1 y2 q2
   (repeat' (first | (refine gA fun _ => ?_) | (refine fkI (fun hb => ?_) (fun hb => ?_) <;> (try simp only [ew, hL, hn, hds, hps, hJ, hjc, hjr, hjp, hjT, hjC, hS, hM, hmc, hmd, hmp, hX, hXb, hF, hlt, g4, g5, g6, rvLo, hR, hZ, hZc, hP, hPc, d6, bits64] at hb)) | (simp only [go_sem, Nat.reduceLeDiff, Nat.reduceEqDiff, reduceIte, reduceCtorEq, Nat.reduceAdd, Nat.reduceMul, Nat.reduceSub, Nat.reduceLT, Int.reduceLT, Int.reduceLE, Int.reduceNeg, Int.reduceToNat, Nat.reduceBEq, Nat.reduceBNe, Int.reduceGE, Int.reduceGT, *, cLawC, cBig, cDLo, cLo, cLt, cEqTabs, cJnI, cSas, cPrj, cArm, cDJn, cDSt, cStep, cDCs, cJn, cSameP, cCS, Tryz.results3, hL, hn, hds, hps, hJ, hjc, hjr, hjp, hjT, hjC, hS, hM, hmc, hmd, hmp, hX, hXb, hF, hlt, g4, g5, g6, rvLo, hR, hZ, hZc, hP, hPc, d6, bits64])))
   all_goals first | rfl | omega | skip
end Go.Own
