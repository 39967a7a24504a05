/-
  The draws of the law of normal forms. Conditions: as each theorem states them.
-/
import Derived.Test.YtjembhkhgahhiaaGreatOwnT8
import Derived.Test.YtjembhkhgahhiaaGreatOwnT3
import Derived.Test.YtjembhkhgahhiaaGreatOwnT6
set_option linter.unusedSimpArgs false
set_option linter.unusedVariables false
set_option maxRecDepth 20000
set_option maxHeartbeats 8000000
namespace Go.Own
open Go Go.Proofs
attribute [local go_sem] tf1b ft1b cuO rI rB cuP unB_bL bL_length wfB_bL unD_dL dL_length dL_get dL_set dL_inj wfD_dL scal2 beq2 pair_eta
def d10 (bs : List Int) : (Int × List (Int × Int)) × Cu := l10M bs (newS bs)
theorem d10_facts {bs : List Int} : (0 ≤ (d10 bs).1.1 ∧ (d10 bs).1.1 ≤ 6) ∧ (d10 bs).1.2.length ≤ 5 := l10M_facts
def cD10 : Contract := ⟨[], false, fun
 | [.one (.sl 1 l)] => some (WfB l ∧ l.length ≤ 1048576 ∧ ∀ b ∈ unB l, 0 ≤ b ∧ b ≤ 255, [⟨false, [.d (.v (.int .i64 (d10 (unB l)).1.1))]⟩, ⟨false, [.own 2 (dL (d10 (unB l)).1.2) 1]⟩], [])
 | _ => none⟩
theorem dSy_ok : ContractOK E0 25 cD10 := by
 refine contract_of_wpc (E := E0) (T := mkT Tryz.prog [(40, cNewC), (77, cL10)] false (fun _ => false) true (fun _ => false)) (mkT_ok (E := E0) (.cons newC_ok (.cons l10_ok .nil))) (fn := Tryz.f25) Tryz.func25 (by kernel_rfl) rfl mixedT (by kernel_rfl) rfl ?_
 intro args p rs ms hr
 unfold cD10 at hr
 dsimp only at hr
 split at hr
 rotate_left
 ·cases hr
 rename_i l
 simp only [Option.some.injEq, Prod.mk.injEq] at hr
 obtain ⟨rfl, rfl, rfl⟩ := hr
 refine ⟨rfl, rfl, Nat.le_of_ble_eq_true rfl, ?_⟩
 have hm : maxLen = 9223372036854775807 := rfl
 rintro ⟨h1, h2, h3⟩ bs0
 obtain ⟨bs, rfl, hx⟩ := h1.ex
 clear h1
 rw [bL_length] at h2
 rw [unB_bL] at h3 ⊢
 obtain ⟨k1, k2⟩ := @d10_facts bs
 have eM : l10M bs (0, newH bs) = d10 bs := rfl
 generalize hM : d10 bs = M at *
 have m1 : M.1.2.length ≤ maxLen := Nat.le_trans k2 (by decide)
 (repeat' (first | (refine gate_a fun _ => ?_) | (refine fork_intro (fun hb => ?_) (fun hb => ?_) <;> (try simp only [ew, eM, hM] at hb)) | (simp only [go_sem, Nat.reduceLeDiff, Nat.reduceEqDiff, reduceIte, reduceCtorEq, Nat.reduceAdd, Nat.reduceMul, Nat.reduceSub, Nat.reduceLT, Int.reduceLT, Int.reduceLE, Int.reduceNeg, Int.reduceToNat, Nat.reduceBEq, Nat.reduceBNe, Int.reduceGE, Int.reduceGT, *, cD10, cNewC, cL10, Tryz.results25, eM, hM])))
 all_goals first | rfl | skip
def d13x (bs : List Int) : Int := if (onceM 8 bs (d10 bs).2).1 then (any2M bs (onceM 8 bs (d10 bs).2).2).1 else (belowM 16 bs (onceM 8 bs (d10 bs).2).2).1
def cD13 : Contract := ⟨[], false, fun
 | [.one (.sl 1 l)] => some (WfB l ∧ l.length ≤ 1048576 ∧ ∀ b ∈ unB l, 0 ≤ b ∧ b ≤ 255, [⟨false, [.d (.v (.int .i64 (d10 (unB l)).1.1))]⟩, ⟨false, [.own 2 (dL (d10 (unB l)).1.2) 1]⟩, ⟨false, [.d (.v (.int .i64 (d13x (unB l))))]⟩], [])
 | _ => none⟩
theorem d13_ok : ContractOK E0 96 cD13 := by
 refine contract_of_wpc (E := E0) (T := mkT Tryz.prog [(40, cNewC), (77, cL10), (65, cOnce), (140, cAny2), (42, cBelow)] false (fun _ => false) true (fun _ => false)) (mkT_ok (E := E0) (.cons newC_ok (.cons l10_ok (.cons once_ok (.cons any2_ok (.cons below_ok .nil)))))) (fn := Tryz.f96) Tryz.func96 (by kernel_rfl) rfl mixedT (by kernel_rfl) rfl ?_
 intro args p rs ms hr
 unfold cD13 at hr
 dsimp only at hr
 split at hr
 rotate_left
 ·cases hr
 rename_i l
 simp only [Option.some.injEq, Prod.mk.injEq] at hr
 obtain ⟨rfl, rfl, rfl⟩ := hr
 refine ⟨rfl, rfl, Nat.le_of_ble_eq_true rfl, ?_⟩
 have hm : maxLen = 9223372036854775807 := rfl
 rintro ⟨h1, h2, h3⟩ bs0
 obtain ⟨bs, rfl, hx⟩ := h1.ex
 clear h1
 rw [bL_length] at h2
 rw [unB_bL] at h3 ⊢
 obtain ⟨k1, k2⟩ := @d10_facts bs
 have eM : l10M bs (0, newH bs) = d10 bs := rfl
 generalize hL : d13x bs = L
 unfold d13x at hL
 generalize hM : d10 bs = M at *
 have m1 : M.1.2.length ≤ maxLen := Nat.le_trans k2 (by decide)
 generalize hO : onceM 8 bs M.2 = O at hL
 cases ho : O.1
 ·rw [ho, if_neg (by decide)] at hL
  (repeat' (first | (refine gate_a fun _ => ?_) | (refine fork_intro (fun hb => ?_) (fun hb => ?_) <;> (try simp only [ew, eM, hM, hO, ho, hL] at hb)) | (simp only [go_sem, Nat.reduceLeDiff, Nat.reduceEqDiff, reduceIte, reduceCtorEq, Nat.reduceAdd, Nat.reduceMul, Nat.reduceSub, Nat.reduceLT, Int.reduceLT, Int.reduceLE, Int.reduceNeg, Int.reduceToNat, Nat.reduceBEq, Nat.reduceBNe, Int.reduceGE, Int.reduceGT, *, cD13, cNewC, cL10, cOnce, cAny2, cBelow, Tryz.results96, eM, hM, hO, ho, hL])))
  all_goals first | rfl | skip
 ·rw [ho, if_pos rfl] at hL
  (repeat' (first | (refine gate_a fun _ => ?_) | (refine fork_intro (fun hb => ?_) (fun hb => ?_) <;> (try simp only [ew, eM, hM, hO, ho, hL] at hb)) | (simp only [go_sem, Nat.reduceLeDiff, Nat.reduceEqDiff, reduceIte, reduceCtorEq, Nat.reduceAdd, Nat.reduceMul, Nat.reduceSub, Nat.reduceLT, Int.reduceLT, Int.reduceLE, Int.reduceNeg, Int.reduceToNat, Nat.reduceBEq, Nat.reduceBNe, Int.reduceGE, Int.reduceGT, *, cD13, cNewC, cL10, cOnce, cAny2, cBelow, Tryz.results96, eM, hM, hO, ho, hL])))
  all_goals first | rfl | skip
theorem dBo_ok : ContractOK E0 35 cD13 := by
 refine contract_of_wpc (E := E0) (T := mkT Tryz.prog [(96, cD13)] false (fun _ => false) true (fun _ => false)) (mkT_ok (E := E0) (.cons d13_ok .nil)) (fn := Tryz.f35) Tryz.func35 (by kernel_rfl) rfl mixedT (by kernel_rfl) rfl ?_
 intro args p rs ms hr
 unfold cD13 at hr
 dsimp only at hr
 split at hr
 rotate_left
 ·cases hr
 rename_i l
 simp only [Option.some.injEq, Prod.mk.injEq] at hr
 obtain ⟨rfl, rfl, rfl⟩ := hr
 refine ⟨rfl, rfl, Nat.le_of_ble_eq_true rfl, ?_⟩
 have hm : maxLen = 9223372036854775807 := rfl
 rintro ⟨h1, h2, h3⟩ bs0
 obtain ⟨bs, rfl, hx⟩ := h1.ex
 clear h1
 rw [bL_length] at h2
 rw [unB_bL] at h3 ⊢
 obtain ⟨k1, k2⟩ := @d10_facts bs
 generalize hM : d10 bs = M at *
 generalize hL : d13x bs = L
 have m1 : M.1.2.length ≤ maxLen := Nat.le_trans k2 (by decide)
 (repeat' (first | (refine gate_a fun _ => ?_) | (refine fork_intro (fun hb => ?_) (fun hb => ?_) <;> (try simp only [ew, hM, hL] at hb)) | (simp only [go_sem, Nat.reduceLeDiff, Nat.reduceEqDiff, reduceIte, reduceCtorEq, Nat.reduceAdd, Nat.reduceMul, Nat.reduceSub, Nat.reduceLT, Int.reduceLT, Int.reduceLE, Int.reduceNeg, Int.reduceToNat, Nat.reduceBEq, Nat.reduceBNe, Int.reduceGE, Int.reduceGT, *, cD13, Tryz.results35, hM, hL])))
 all_goals first | rfl | skip
def dPr (bs : List Int) : Lo :=
 let m := d10 bs
 let x := belowM 4 bs m.2
 if x.1 = 0 then (m.1.1, m.1.2, decF m.1.1 m.1.2) else if x.1 = 1 then (m.1.1, m.1.2, synF m.1.1 m.1.2) else (m.1.1, m.1.2, (setsM bs x.2).1)
theorem dPr_facts {bs : List Int} : (0 ≤ (dPr bs).1 ∧ (dPr bs).1 ≤ 6) ∧ (dPr bs).2.1.length ≤ 5 ∧ (dPr bs).2.2.length ≤ 100 := by
 obtain ⟨k1, k2⟩ := @d10_facts bs
 have h1 : (decF (d10 bs).1.1 (d10 bs).1.2).length ≤ 100 := by
  unfold decF
  split
  ·exact selS_length
  ·simp
 have h2 : (synF (d10 bs).1.1 (d10 bs).1.2).length ≤ 100 := by
  unfold synF
  split
  ·exact selS_length
  ·simp
 have h3 := @setsM_len bs (belowM 4 bs (d10 bs).2).2
 unfold dPr
 dsimp only
 split
 ·exact ⟨k1, k2, h1⟩
 ·split
  ·exact ⟨k1, k2, h2⟩
  ·exact ⟨k1, k2, by dsimp only; omega⟩
def cDPr : Contract := ⟨[], false, fun
 | [.one (.sl 1 l)] => some (WfB l ∧ l.length ≤ 1048576 ∧ ∀ b ∈ unB l, 0 ≤ b ∧ b ≤ 255, rvLo (dPr (unB l)), [])
 | _ => none⟩
theorem dPr_ok : ContractOK E0 36 cDPr := by
 refine contract_of_wpc (E := E0) (T := mkT Tryz.prog [(40, cNewC), (77, cL10), (42, cBelow), (30, cDec), (29, cSyn), (97, cSetsM)] false (fun _ => false) true (fun _ => false)) (mkT_ok (E := E0) (.cons newC_ok (.cons l10_ok (.cons below_ok (.cons decS_ok (.cons synS_ok (.cons sets4_ok .nil))))))) (fn := Tryz.f36) Tryz.func36 (by kernel_rfl) rfl mixedT (by kernel_rfl) rfl ?_
 intro args p rs ms hr
 unfold cDPr at hr
 dsimp only at hr
 split at hr
 rotate_left
 ·cases hr
 rename_i l
 simp only [Option.some.injEq, Prod.mk.injEq] at hr
 obtain ⟨rfl, rfl, rfl⟩ := hr
 refine ⟨rfl, rfl, Nat.le_of_ble_eq_true rfl, ?_⟩
 have hm : maxLen = 9223372036854775807 := rfl
 rintro ⟨h1, h2, h3⟩ bs0
 obtain ⟨bs, rfl, hx⟩ := h1.ex
 clear h1
 rw [bL_length] at h2
 rw [unB_bL] at h3 ⊢
 obtain ⟨k1, k2⟩ := @d10_facts bs
 obtain ⟨q1, q2, q3⟩ := @dPr_facts bs
 have eM : l10M bs (0, newH bs) = d10 bs := rfl
 generalize hL : dPr bs = L at q3
 unfold dPr at hL
 dsimp only at hL
 generalize hM : d10 bs = M at *
 have m1 : M.1.2.length ≤ maxLen := Nat.le_trans k2 (by decide)
 clear q1 q2
 generalize hX : belowM 4 bs M.2 = X at hL
 by_cases h0 : X.1 = 0
 ·rw [if_pos h0] at hL
  have q0 : (X.1 == 0) = true := by rw [h0]; rfl
  clear h0
  generalize hP : decF M.1.1 M.1.2 = P at hL
  have m3 : P.length ≤ maxLen := by rw [← hL] at q3; exact Nat.le_trans q3 (by decide)
  subst hL
  (repeat' (first | (refine gate_a fun _ => ?_) | (refine fork_intro (fun hb => ?_) (fun hb => ?_) <;> (try simp only [ew, eM, hM, hX, q0, hP, rvLo] at hb)) | (simp only [go_sem, Nat.reduceLeDiff, Nat.reduceEqDiff, reduceIte, reduceCtorEq, Nat.reduceAdd, Nat.reduceMul, Nat.reduceSub, Nat.reduceLT, Int.reduceLT, Int.reduceLE, Int.reduceNeg, Int.reduceToNat, Nat.reduceBEq, Nat.reduceBNe, Int.reduceGE, Int.reduceGT, *, cDPr, cNewC, cL10, cBelow, cDec, cSyn, cSetsM, Tryz.results36, eM, hM, hX, q0, hP, rvLo])))
  all_goals first | rfl | skip
 ·rw [if_neg h0] at hL
  have q0 : (X.1 == 0) = false := beq_eq_false_iff_ne.2 h0
  clear h0
  by_cases h1 : X.1 = 1
  ·rw [if_pos h1] at hL
   have q1 : (X.1 == 1) = true := by rw [h1]; rfl
   clear h1
   generalize hP : synF M.1.1 M.1.2 = P at hL
   have m3 : P.length ≤ maxLen := by rw [← hL] at q3; exact Nat.le_trans q3 (by decide)
   subst hL
   (repeat' (first | (refine gate_a fun _ => ?_) | (refine fork_intro (fun hb => ?_) (fun hb => ?_) <;> (try simp only [ew, eM, hM, hX, q0, q1, hP, rvLo] at hb)) | (simp only [go_sem, Nat.reduceLeDiff, Nat.reduceEqDiff, reduceIte, reduceCtorEq, Nat.reduceAdd, Nat.reduceMul, Nat.reduceSub, Nat.reduceLT, Int.reduceLT, Int.reduceLE, Int.reduceNeg, Int.reduceToNat, Nat.reduceBEq, Nat.reduceBNe, Int.reduceGE, Int.reduceGT, *, cDPr, cNewC, cL10, cBelow, cDec, cSyn, cSetsM, Tryz.results36, eM, hM, hX, q0, q1, hP, rvLo])))
   all_goals first | rfl | skip
  ·rw [if_neg h1] at hL
   have q1 : (X.1 == 1) = false := beq_eq_false_iff_ne.2 h1
   clear h1
   generalize hP : setsM bs X.2 = P at hL
   have m3 : P.1.length ≤ maxLen := by rw [← hL] at q3; exact Nat.le_trans q3 (by decide)
   subst hL
   (repeat' (first | (refine gate_a fun _ => ?_) | (refine fork_intro (fun hb => ?_) (fun hb => ?_) <;> (try simp only [ew, eM, hM, hX, q0, q1, hP, rvLo] at hb)) | (simp only [go_sem, Nat.reduceLeDiff, Nat.reduceEqDiff, reduceIte, reduceCtorEq, Nat.reduceAdd, Nat.reduceMul, Nat.reduceSub, Nat.reduceLT, Int.reduceLT, Int.reduceLE, Int.reduceNeg, Int.reduceToNat, Nat.reduceBEq, Nat.reduceBNe, Int.reduceGE, Int.reduceGT, *, cDPr, cNewC, cL10, cBelow, cDec, cSyn, cSetsM, Tryz.results36, eM, hM, hX, q0, q1, hP, rvLo])))
   all_goals first | rfl | skip
end Go.Own
/-
  The law of normal forms. Conditions: as each theorem states them.
-/
namespace Go.Own
open Go Go.Proofs
attribute [local go_sem] tf1b ft1b unB_bL bL_length wfB_bL unD_dL dL_length dL_get dL_set dL_inj wfD_dL scal2 beq2 pair_eta
theorem orAll_all {n : Nat} {ps : List Int} (h : partsOK n ps = true) : orAll 0 ps = 1 * 2 ^ n - 1 := by
 simp only [partsOK, Bool.and_eq_true, beq_iff_eq] at h
 rw [h.2.2]
 unfold all2
 rw [Int.toNat_natCast]
theorem orAll_take {ps : List Int} {i : Nat} (h : i < ps.length) : orAll 0 (ps.take (i + 1)) = bitI .or .i64 (orAll 0 (ps.take i)) (ps.getD i 0) := by
 rw [take_succ_getD h 0, orAll_snoc]
theorem lawNf_ok : ContractOK E0 4 cLawC := by
 refine contract_of_wpc (E := E0) (T := mkT Tryz.prog [(5, cBig), (25, cD10), (26, cSyn), (27, cDec), (29, cSyn), (28, cEqIntS), (30, cDec), (31, cAreDeps), (32, cThird), (33, cBoy), (34, cPrs), (7, cLo), (35, cD13), (36, cDPr), (37, cBoy), (38, cThird), (39, cPrs)] false (fun _ => false) true (fun d => d == 999)) (mkT_ok (E := E0) (.cons big_ok (.cons dSy_ok (.cons synI_ok (.cons decI_ok (.cons synS_ok (.cons lSameInts_ok (.cons decS_ok (.cons areDepsS_ok (.cons thI_ok (.cons boyI_ok (.cons prsI_ok (.cons loI_ok (.cons dBo_ok (.cons dPr_ok (.cons boyS_ok (.cons thS_ok (.cons prsS_ok .nil)))))))))))))))))) (fn := Tryz.f4) Tryz.func4 (by kernel_rfl) rfl mixedT (by kernel_rfl) rfl ?_
 intro args p rs ms hr
 unfold cLawC at hr
 dsimp only at hr
 split at hr
 rotate_left
 ·cases hr
 rename_i l
 simp only [Option.some.injEq, Prod.mk.injEq] at hr
 obtain ⟨rfl, rfl, rfl⟩ := hr
 refine ⟨rfl, rfl, Nat.le_of_ble_eq_true rfl, ?_⟩
 have hm : maxLen = 9223372036854775807 := rfl
 rintro ⟨h1, h3⟩ bs0
 obtain ⟨bs, rfl, hx⟩ := h1.ex
 clear h1
 rw [unB_bL] at h3
 by_cases hbig : bs.length > 1048576
 ·(repeat' (first | (refine gate_a fun _ => ?_) | (refine fork_intro (fun hb => ?_) (fun hb => ?_) <;> (try simp only [ew] at hb)) | (simp only [go_sem, Nat.reduceLeDiff, Nat.reduceEqDiff, reduceIte, reduceCtorEq, Nat.reduceAdd, Nat.reduceMul, Nat.reduceSub, Nat.reduceLT, Int.reduceLT, Int.reduceLE, Int.reduceNeg, Int.reduceToNat, Nat.reduceBEq, Nat.reduceBNe, Int.reduceGE, Int.reduceGT, *, cLawC, cBig, cD10, cSyn, cDec, cEqIntS, cAreDeps, cThird, cBoy, cPrs, cLo, cD13, cDPr, Tryz.results4])))
  all_goals first | rfl | contradiction | skip
 ·have hb2 : bs.length ≤ 1048576 := by omega
  obtain ⟨⟨n1, n2⟩, k2⟩ := @d10_facts bs
  obtain ⟨⟨v1, v2⟩, v3, v4⟩ := @dPr_facts bs
  generalize hM : d10 bs = M at *
  generalize hn : M.1.1 = n at *
  generalize hds : M.1.2 = ds at *
  generalize hX13 : d13x bs = x13 at *
  generalize hP : dPr bs = P at *
  generalize hpn : P.1 = pn at *
  generalize hpd : P.2.1 = pd at *
  generalize hpp : P.2.2 = pp at *
  have m1 : ds.length ≤ maxLen := Nat.le_trans k2 (by decide)
  have m2 : pd.length ≤ maxLen := Nat.le_trans v3 (by decide)
  have m3 : pp.length ≤ maxLen := Nat.le_trans v4 (by decide)
  have ht : boyB n ds x13 = true → thB n ds x13 = true := boy_third
  generalize hB : boyB n ds x13 = bB at ht
  generalize hT : thB n ds x13 = bT at ht
  generalize hPp : prsB pn pd pp = bP
  have hA1 : (synF n ds).length ≤ 100 := by
   unfold synF
   split
   ·exact selS_length
   ·simp
  have hD1 : (decF n ds).length ≤ 100 := by
   unfold decF
   split
   ·exact selS_length
   ·simp
  have ht2 : (!bB || bT) = true := by
   cases bB
   ·rfl
   ·rw [ht rfl]; rfl
  clear ht
  obtain ⟨n, rfl⟩ := Int.eq_ofNat_of_zero_le n1
  have hp : 1 ≤ (2 : Int) ^ n ∧ (2 : Int) ^ n ≤ 64 := by
   have : n = 0 ∨ n = 1 ∨ n = 2 ∨ n = 3 ∨ n = 4 ∨ n = 5 ∨ n = 6 := by omega
   rcases this with rfl | rfl | rfl | rfl | rfl | rfl | rfl <;> decide
  cases hv : depsOK n ds
  ·generalize hA : synF n ds = A at *
   generalize hD : decF n ds = Dd at *
   have m4 : A.length ≤ maxLen := Nat.le_trans hA1 (by decide)
   have m5 : Dd.length ≤ maxLen := Nat.le_trans hD1 (by decide)
   cases hbb : bB
   ·rw [hbb] at hB ht2
    clear ht2
    (repeat' (first | (refine gate_a fun _ => ?_) | (refine fork_intro (fun hb => ?_) (fun hb => ?_) <;> (try simp only [ew, hM, hn, hds, hX13, hP, hpn, hpd, hpp, hA, hD, hv, hB, hT, hPp, rvLo] at hb)) | (simp only [go_sem, Nat.reduceLeDiff, Nat.reduceEqDiff, reduceIte, reduceCtorEq, Nat.reduceAdd, Nat.reduceMul, Nat.reduceSub, Nat.reduceLT, Int.reduceLT, Int.reduceLE, Int.reduceNeg, Int.reduceToNat, Nat.reduceBEq, Nat.reduceBNe, Int.reduceGE, Int.reduceGT, *, cLawC, cBig, cD10, cSyn, cDec, cEqIntS, cAreDeps, cThird, cBoy, cPrs, cLo, cD13, cDPr, Tryz.results4, hM, hn, hds, hX13, hP, hpn, hpd, hpp, hA, hD, hv, hB, hT, hPp, rvLo])))
    all_goals first | rfl | skip
   ·rw [hbb] at hB ht2
    have hbt : bT = true := by simpa using ht2
    rw [hbt] at hT
    clear ht2
    (repeat' (first | (refine gate_a fun _ => ?_) | (refine fork_intro (fun hb => ?_) (fun hb => ?_) <;> (try simp only [ew, hM, hn, hds, hX13, hP, hpn, hpd, hpp, hA, hD, hv, hB, hT, hPp, rvLo] at hb)) | (simp only [go_sem, Nat.reduceLeDiff, Nat.reduceEqDiff, reduceIte, reduceCtorEq, Nat.reduceAdd, Nat.reduceMul, Nat.reduceSub, Nat.reduceLT, Int.reduceLT, Int.reduceLE, Int.reduceNeg, Int.reduceToNat, Nat.reduceBEq, Nat.reduceBNe, Int.reduceGE, Int.reduceGT, *, cLawC, cBig, cD10, cSyn, cDec, cEqIntS, cAreDeps, cThird, cBoy, cPrs, cLo, cD13, cDPr, Tryz.results4, hM, hn, hds, hX13, hP, hpn, hpd, hpp, hA, hD, hv, hB, hT, hPp, rvLo])))
    all_goals first | rfl | skip
  ·obtain ⟨s1, s2, s3, s4⟩ := syn_law hv
   obtain ⟨d1, d2, d3⟩ := dec_law hv
   have oA := orAll_all s1
   have oD := orAll_all d1
   have oAt := fun i => @orAll_take (synF n ds) i
   have oDt := fun i => @orAll_take (decF n ds) i
   have tA : ∀ i, i < (synF n ds).length → thB n ds ((synF n ds).getD i 0) = true := fun i hi => s4 _ (getD_mem hi 0)
   have tD : ∀ i, i < (decF n ds).length → boyB n ds ((decF n ds).getD i 0) = true ∧ thB n ds ((decF n ds).getD i 0) = true := fun i hi => d3 _ (getD_mem hi 0)
   clear s1 s4 d1 d3
   generalize hA : synF n ds = A at *
   generalize hD : decF n ds = Dd at *
   have m4 : A.length ≤ maxLen := Nat.le_trans hA1 (by decide)
   have m5 : Dd.length ≤ maxLen := Nat.le_trans hD1 (by decide)
   (repeat' (first | (refine gate_a fun _ => ?_) | (refine fork_intro (fun hb => ?_) (fun hb => ?_) <;> (try simp only [ew, hM, hn, hds, hX13, hP, hpn, hpd, hpp, hA, hD, hv, rvLo] at hb)) | (simp only [go_sem, Nat.reduceLeDiff, Nat.reduceEqDiff, reduceIte, reduceCtorEq, Nat.reduceAdd, Nat.reduceMul, Nat.reduceSub, Nat.reduceLT, Int.reduceLT, Int.reduceLE, Int.reduceNeg, Int.reduceToNat, Nat.reduceBEq, Nat.reduceBNe, Int.reduceGE, Int.reduceGT, *, cLawC, cBig, cD10, cSyn, cDec, cEqIntS, cAreDeps, cThird, cBoy, cPrs, cLo, cD13, cDPr, Tryz.results4, hM, hn, hds, hX13, hP, hpn, hpd, hpp, hA, hD, hv, rvLo])))
   refine loop_intro { ι := Nat, rs := [(2, 3), (47, 67)], mods := [(8, fun i => .one (.d (.v (.int .i64 i)))), (7, fun i => .one (.d (.v (.int .i64 (orAll 0 (A.take i))))))], boxes := [], arrs := [(4, fun _ => (2, dL ds, 1)), (5, fun _ => (1, iL A, 1)), (6, fun _ => (1, iL Dd, 1))], ok := fun i => i ≤ A.length, mu := fun i => A.length - i } rfl 0 (Nat.zero_le _) ?_ fun i hi => ?_
   ·have e0 : orAll 0 (A.take 0) = 0 := rfl
    clear oAt oDt tA tD
    (repeat' (first | (refine gate_a fun _ => ?_) | (refine fork_intro (fun hb => ?_) (fun hb => ?_) <;> (try simp only [ew, e0] at hb)) | (simp only [go_sem, Nat.reduceLeDiff, Nat.reduceEqDiff, reduceIte, reduceCtorEq, Nat.reduceAdd, Nat.reduceMul, Nat.reduceSub, Nat.reduceLT, Int.reduceLT, Int.reduceLE, Int.reduceNeg, Int.reduceToNat, Nat.reduceBEq, Nat.reduceBNe, Int.reduceGE, Int.reduceGT, *, cLawC, cBig, cD10, cSyn, cDec, cEqIntS, cAreDeps, cThird, cBoy, cPrs, cLo, cD13, cDPr, Tryz.results4, e0])))
    all_goals first | rfl | skip
   ·dsimp only at i hi
    by_cases h5 : i < A.length
    ·have o1 := oAt i h5
     have t1 := tA i h5
     clear oAt oDt tA tD
     (repeat' (first | (refine gate_a fun _ => ?_) | (refine fork_intro (fun hb => ?_) (fun hb => ?_) <;> (try simp only [ew, t1, bits64] at hb)) | (simp only [go_sem, Nat.reduceLeDiff, Nat.reduceEqDiff, reduceIte, reduceCtorEq, Nat.reduceAdd, Nat.reduceMul, Nat.reduceSub, Nat.reduceLT, Int.reduceLT, Int.reduceLE, Int.reduceNeg, Int.reduceToNat, Nat.reduceBEq, Nat.reduceBNe, Int.reduceGE, Int.reduceGT, *, cLawC, cBig, cD10, cSyn, cDec, cEqIntS, cAreDeps, cThird, cBoy, cPrs, cLo, cD13, cDPr, Tryz.results4, t1, bits64])))
     refine loop_next (i + 1) (by dsimp only; omega) (by dsimp only; omega) ?_
     (repeat' (first | (refine gate_a fun _ => ?_) | (refine fork_intro (fun hb => ?_) (fun hb => ?_) <;> (try simp only [ew, o1] at hb)) | (simp only [go_sem, Nat.reduceLeDiff, Nat.reduceEqDiff, reduceIte, reduceCtorEq, Nat.reduceAdd, Nat.reduceMul, Nat.reduceSub, Nat.reduceLT, Int.reduceLT, Int.reduceLE, Int.reduceNeg, Int.reduceToNat, Nat.reduceBEq, Nat.reduceBNe, Int.reduceGE, Int.reduceGT, *, cLawC, cBig, cD10, cSyn, cDec, cEqIntS, cAreDeps, cThird, cBoy, cPrs, cLo, cD13, cDPr, Tryz.results4, o1])))
    ·have e5 : i = A.length := by omega
     subst e5
     have eA : A.take A.length = A := List.take_length
     clear oAt tA
     (repeat' (first | (refine gate_a fun _ => ?_) | (refine fork_intro (fun hb => ?_) (fun hb => ?_) <;> (try simp only [ew, eA, oA] at hb)) | (simp only [go_sem, Nat.reduceLeDiff, Nat.reduceEqDiff, reduceIte, reduceCtorEq, Nat.reduceAdd, Nat.reduceMul, Nat.reduceSub, Nat.reduceLT, Int.reduceLT, Int.reduceLE, Int.reduceNeg, Int.reduceToNat, Nat.reduceBEq, Nat.reduceBNe, Int.reduceGE, Int.reduceGT, *, cLawC, cBig, cD10, cSyn, cDec, cEqIntS, cAreDeps, cThird, cBoy, cPrs, cLo, cD13, cDPr, Tryz.results4, eA, oA])))
     refine loop_intro { ι := Nat, rs := [(2, 3), (67, 97)], mods := [(10, fun i => .one (.d (.v (.int .i64 i)))), (9, fun i => .one (.d (.v (.int .i64 (orAll 0 (Dd.take i))))))], boxes := [], arrs := [(4, fun _ => (2, dL ds, 1)), (5, fun _ => (1, iL A, 1)), (6, fun _ => (1, iL Dd, 1))], ok := fun i => i ≤ Dd.length, mu := fun i => Dd.length - i } rfl 0 (Nat.zero_le _) ?_ fun i hi => ?_
     ·have e0 : orAll 0 (Dd.take 0) = 0 := rfl
      clear oDt tD
      (repeat' (first | (refine gate_a fun _ => ?_) | (refine fork_intro (fun hb => ?_) (fun hb => ?_) <;> (try simp only [ew, e0] at hb)) | (simp only [go_sem, Nat.reduceLeDiff, Nat.reduceEqDiff, reduceIte, reduceCtorEq, Nat.reduceAdd, Nat.reduceMul, Nat.reduceSub, Nat.reduceLT, Int.reduceLT, Int.reduceLE, Int.reduceNeg, Int.reduceToNat, Nat.reduceBEq, Nat.reduceBNe, Int.reduceGE, Int.reduceGT, *, cLawC, cBig, cD10, cSyn, cDec, cEqIntS, cAreDeps, cThird, cBoy, cPrs, cLo, cD13, cDPr, Tryz.results4, e0])))
      all_goals first | rfl | skip
     ·dsimp only at i hi
      by_cases h6 : i < Dd.length
      ·have o1 := oDt i h6
       obtain ⟨t1, t2⟩ := tD i h6
       clear oDt tD
       (repeat' (first | (refine gate_a fun _ => ?_) | (refine fork_intro (fun hb => ?_) (fun hb => ?_) <;> (try simp only [ew, t1, t2, bits64] at hb)) | (simp only [go_sem, Nat.reduceLeDiff, Nat.reduceEqDiff, reduceIte, reduceCtorEq, Nat.reduceAdd, Nat.reduceMul, Nat.reduceSub, Nat.reduceLT, Int.reduceLT, Int.reduceLE, Int.reduceNeg, Int.reduceToNat, Nat.reduceBEq, Nat.reduceBNe, Int.reduceGE, Int.reduceGT, *, cLawC, cBig, cD10, cSyn, cDec, cEqIntS, cAreDeps, cThird, cBoy, cPrs, cLo, cD13, cDPr, Tryz.results4, t1, t2, bits64])))
       refine loop_next (i + 1) (by dsimp only; omega) (by dsimp only; omega) ?_
       (repeat' (first | (refine gate_a fun _ => ?_) | (refine fork_intro (fun hb => ?_) (fun hb => ?_) <;> (try simp only [ew, o1] at hb)) | (simp only [go_sem, Nat.reduceLeDiff, Nat.reduceEqDiff, reduceIte, reduceCtorEq, Nat.reduceAdd, Nat.reduceMul, Nat.reduceSub, Nat.reduceLT, Int.reduceLT, Int.reduceLE, Int.reduceNeg, Int.reduceToNat, Nat.reduceBEq, Nat.reduceBNe, Int.reduceGE, Int.reduceGT, *, cLawC, cBig, cD10, cSyn, cDec, cEqIntS, cAreDeps, cThird, cBoy, cPrs, cLo, cD13, cDPr, Tryz.results4, o1])))
      ·have e6 : i = Dd.length := by omega
       subst e6
       have eD : Dd.take Dd.length = Dd := List.take_length
       clear oDt tD
       cases hbb : bB
       ·rw [hbb] at hB ht2
        clear ht2
        (repeat' (first | (refine gate_a fun _ => ?_) | (refine fork_intro (fun hb => ?_) (fun hb => ?_) <;> (try simp only [ew, eD, oD, s2, s3, d2, bits64, hM, hn, hds, hX13, hP, hpn, hpd, hpp, hB, hT, hPp, rvLo] at hb)) | (simp only [go_sem, Nat.reduceLeDiff, Nat.reduceEqDiff, reduceIte, reduceCtorEq, Nat.reduceAdd, Nat.reduceMul, Nat.reduceSub, Nat.reduceLT, Int.reduceLT, Int.reduceLE, Int.reduceNeg, Int.reduceToNat, Nat.reduceBEq, Nat.reduceBNe, Int.reduceGE, Int.reduceGT, *, cLawC, cBig, cD10, cSyn, cDec, cEqIntS, cAreDeps, cThird, cBoy, cPrs, cLo, cD13, cDPr, Tryz.results4, eD, oD, s2, s3, d2, bits64, hM, hn, hds, hX13, hP, hpn, hpd, hpp, hB, hT, hPp, rvLo])))
        all_goals first | rfl | skip
       ·rw [hbb] at hB ht2
        have hbt : bT = true := by simpa using ht2
        rw [hbt] at hT
        clear ht2
        (repeat' (first | (refine gate_a fun _ => ?_) | (refine fork_intro (fun hb => ?_) (fun hb => ?_) <;> (try simp only [ew, eD, oD, s2, s3, d2, bits64, hM, hn, hds, hX13, hP, hpn, hpd, hpp, hB, hT, hPp, rvLo] at hb)) | (simp only [go_sem, Nat.reduceLeDiff, Nat.reduceEqDiff, reduceIte, reduceCtorEq, Nat.reduceAdd, Nat.reduceMul, Nat.reduceSub, Nat.reduceLT, Int.reduceLT, Int.reduceLE, Int.reduceNeg, Int.reduceToNat, Nat.reduceBEq, Nat.reduceBNe, Int.reduceGE, Int.reduceGT, *, cLawC, cBig, cD10, cSyn, cDec, cEqIntS, cAreDeps, cThird, cBoy, cPrs, cLo, cD13, cDPr, Tryz.results4, eD, oD, s2, s3, d2, bits64, hM, hn, hds, hX13, hP, hpn, hpd, hpp, hB, hT, hPp, rvLo])))
        all_goals first | rfl | skip
end Go.Own
