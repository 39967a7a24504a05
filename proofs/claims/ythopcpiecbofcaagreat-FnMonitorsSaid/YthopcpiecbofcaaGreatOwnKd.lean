/-
  The law of monitors, some cases. Conditions: as each theorem states them.
-/
import Derived.Test.YthopcpiecbofcaaGreatOwnTe
set_option linter.unusedSimpArgs false
set_option linter.unusedVariables false
set_option maxRecDepth 20000
set_option maxHeartbeats 8000000
namespace Go.Own
open Go Go.Proofs
attribute [local go_sem] tf1b ft1b unB_bL bL_length wfB_bL unD_dL dL_length dL_get dL_set dL_inj wfD_dL scal2 beq2 pair_eta
def cLawM10 : Contract := ⟨[], false, fun
 | [.one (.sl 1 l)] => some ((WfB l ∧ ∀ b ∈ unB l, 0 ≤ b ∧ b ≤ 255) ∧ mB1 (unB l) = true ∧ mB2 (unB l) = false, [⟨false, [.d (.v (.bool true))]⟩], [])
 | _ => none⟩
theorem lawM_10 : ContractOK E0 3 cLawM10 := by
 refine contract_of_wpc (E := E0) (T := mkT Tryz.prog [(5, cBig), (6, cDIns), (7, cIns), (8, cIns), (9, cEqMon), (10, cIsM), (11, cDDel), (12, cDel), (13, cDel), (14, cDUpd), (15, cUpd), (16, cUpd), (17, cDSpc), (18, cDNew), (19, cNewM), (20, cNewM), (22, cSpc), (23, cSpcS), (21, cEqDepS), (24, cIsM)] false (fun _ => false) true (fun d => d == 999)) (mkT_ok (E := E0) (.cons big_ok (.cons dIns_ok (.cons insI_ok (.cons insS_ok (.cons eqMonS_ok (.cons isMI_ok (.cons dDel_ok (.cons delI_ok (.cons delS_ok (.cons dUpd_ok (.cons updI_ok (.cons updS_ok (.cons dSpc_ok (.cons dNew_ok (.cons newMI_ok (.cons newMS_ok (.cons spcI_ok (.cons spcS_ok (.cons sameDepsS_ok (.cons isMS_ok .nil))))))))))))))))))))) (fn := Tryz.f3) Tryz.func3 (by kernel_rfl) rfl mixedT (by kernel_rfl) rfl ?_
 intro args p rs ms hr
 unfold cLawM10 at hr
 dsimp only at hr
 split at hr
 rotate_left
 ·cases hr
 rename_i l
 simp only [Option.some.injEq, Prod.mk.injEq] at hr
 obtain ⟨rfl, rfl, rfl⟩ := hr
 refine ⟨rfl, rfl, Nat.le_of_ble_eq_true rfl, ?_⟩
 have hm : maxLen = 9223372036854775807 := rfl
 rintro ⟨⟨h1, h3⟩, g1, g2⟩ bs0
 obtain ⟨bs, rfl, hx⟩ := h1.ex
 clear h1
 rw [unB_bL] at h3 g1 g2
 unfold mB1 at g1
 unfold mB2 at g2
 by_cases hbig : bs.length > 1048576
 ·clear g1 g2
  (repeat' (first | (refine gate_a fun _ => ?_) | (refine fork_intro (fun hb => ?_) (fun hb => ?_) <;> (try simp only [ew] at hb)) | (simp only [go_sem, Nat.reduceLeDiff, Nat.reduceEqDiff, reduceIte, reduceCtorEq, Nat.reduceAdd, Nat.reduceMul, Nat.reduceSub, Nat.reduceLT, Int.reduceLT, Int.reduceLE, Int.reduceNeg, Int.reduceToNat, Nat.reduceBEq, Nat.reduceBNe, Int.reduceGE, Int.reduceGT, *, cLawM10, cBig, cDIns, cIns, cEqMon, cIsM, cDDel, cDel, cDUpd, cUpd, cDSpc, cDNew, cNewM, cSpc, cSpcS, cEqDepS, Tryz.results3])))
  all_goals first | rfl | contradiction | skip
 ·have hb2 : bs.length ≤ 1048576 := by omega
  obtain ⟨k1, k2, k3, k4⟩ := @monM_facts bs (newS bs)
  have eM2 : monM bs (newS bs) = dMon bs := rfl
  rw [eM2] at k1 k2 k3 k4
  clear eM2
  generalize hM : dMon bs = M at *
  have hrl := @dInsR_len bs
  generalize hrow : dInsR bs = row at *
  have a1 : M.1.2.1.length ≤ 16777216 := by omega
  have a2 : ∀ r ∈ M.1.2.1, r.length ≤ 16777216 := fun r hr => by have := k3 r hr; omega
  have a3 : M.1.2.2.2.length ≤ 16777216 := by omega
  clear k3
  generalize hc : M.1.1 = c at *
  generalize hrs : M.1.2.1 = rs at *
  generalize hm0 : M.1.2.2.1 = m at *
  generalize hds : M.1.2.2.2 = ds at *
  generalize hda : dDelA bs = da at *
  generalize hua : dUpdA bs = ua
  generalize huk : dUpdK bs = uk
  generalize huv : dUpdV bs = uv
  have a4 : rs.length ≤ maxLen := Nat.le_trans a1 (by decide)
  have a5 : ∀ r ∈ rs, r.length ≤ maxLen := fun r hr => Nat.le_trans (a2 r hr) (by decide)
  have a6 : ds.length ≤ maxLen := Nat.le_trans a3 (by decide)
  have a7 : row.length ≤ maxLen := Nat.le_trans hrl (by decide)
  have i1 := @ins_isM c rs m ds row
  have i2 := @ins_keep c rs m ds row
  obtain ⟨x1, x2, x3⟩ := @insR_facts c rs m ds row a1 a2 a3
  generalize hX : insR c rs m ds row = X at *
  generalize hY : insD c rs m ds row = Y at *
  generalize hb : insV c rs m ds row = b1 at *
  have x4 : X.length ≤ maxLen := Nat.le_trans x1 (by decide)
  have x5 : ∀ r ∈ X, r.length ≤ maxLen := fun r hr => Nat.le_trans (x2 r hr) (by decide)
  have x6 : Y.length ≤ maxLen := Nat.le_trans x3 (by decide)
  have i3 := @del_isM c rs m ds da
  obtain ⟨y1, y2, y3⟩ := @delR_facts c rs m ds da a1 a2 a3
  generalize hX2 : delR c rs m ds da = X2 at *
  generalize hY2 : delD c rs m ds da = Y2 at *
  generalize hbb : delV c rs m ds da = b2 at *
  have y4 : X2.length ≤ maxLen := Nat.le_trans y1 (by decide)
  have y5 : ∀ r ∈ X2, r.length ≤ maxLen := fun r hr => Nat.le_trans (y2 r hr) (by decide)
  have y6 : Y2.length ≤ maxLen := Nat.le_trans y3 (by decide)
  have i4 := @upd_isM c rs m ds ua uk uv
  obtain ⟨z1, z2, z3⟩ := @updR_facts c rs m ds ua uk uv a1 a2 a3
  generalize hX3 : updR c rs m ds ua uk uv = X3 at *
  generalize hY3 : updD c rs m ds ua uk uv = Y3 at *
  generalize hbc : updB c rs m ds ua uk uv = b3 at *
  have z4 : X3.length ≤ maxLen := Nat.le_trans z1 (by decide)
  have z5 : ∀ r ∈ X3, r.length ≤ maxLen := fun r hr => Nat.le_trans (z2 r hr) (by decide)
  have z6 : Y3.length ≤ maxLen := Nat.le_trans z3 (by decide)
  have s1 := @dSpc_len bs
  generalize hsl : dSpcL bs = sl at *
  obtain ⟨⟨n1, n2⟩, n3, n4⟩ := @l4M_facts bs (newS bs)
  have eC : dSpcC bs = (l4M bs (newS bs)).1.1.1 := rfl
  rw [← eC] at n1 n2
  generalize hsc : dSpcC bs = sc at *
  generalize hsa : dSpcA bs = sa at *
  have s2 := @spcF_len2 sc sa sl
  have eSp := @spc_eq sc sa sl
  generalize hsp : spcF sc sa sl = sp at *
  have hsS : spcS sc sa sl = sp := eSp.symm
  clear eSp
  have s3 : sl.length ≤ 1048576 := by omega
  have s4 : sl.length ≤ maxLen := Nat.le_trans s3 (by decide)
  have s5 : sp.length ≤ maxLen := Nat.le_trans (show sp.length ≤ 1000 by omega) (by decide)
  generalize hT : l4M bs (newS bs) = T at *
  have n3' : T.1.1.2.length ≤ maxLen := Nat.le_trans n3 (by decide)
  have n4' : ∀ r ∈ T.1.1.2, r.length ≤ maxLen := fun r hr => by have := n4 r hr; omega
  obtain ⟨w1, w2, _⟩ := @nmR_facts T.1.1.1 T.1.1.2 T.1.2
  have w3 := (@mdL_facts T.1.1.1 T.1.1.2 T.1.2).1
  clear n4
  generalize htr : T.1.1.2 = tr at *
  generalize htm : T.1.2 = tm at *
  have eC2 : T.1.1.1 = sc := eC.symm
  rw [eC2] at w1 w2 w3
  clear eC
  generalize hnR : nmR sc tr tm = nR at *
  generalize hnD : mdL sc tr tm = nD at *
  generalize hnC : nmC sc tr tm = nC at *
  generalize hnM : nmM sc tr tm = nM at *
  generalize hnB : nmB sc tr tm = nB at *
  have w4 : nR.length ≤ maxLen := Nat.le_trans w1 (by decide)
  have w5 : ∀ r ∈ nR, r.length ≤ maxLen := fun r hr => by have := w2 r hr; omega
  have w6 : nD.length ≤ maxLen := Nat.le_trans w3 (by decide)
  clear w2
  have f1 : b1 = false ∧ X = rs ∧ Y = ds ∨ b1 = true ∧ isM c X m Y = true := by
   cases b1
   ·exact .inl ⟨rfl, i2 rfl⟩
   ·exact .inr ⟨rfl, i1 rfl⟩
  have f2 : b2 = false ∨ b2 = true ∧ isM c X2 m Y2 = true ∧ ((X2.length : Nat) : Int) = (rs.length : Int) - 1 := by
   cases b2
   ·exact .inl rfl
   ·exact .inr ⟨rfl, i3 rfl⟩
  have f3 : b3 = false ∨ b3 = true ∧ isM c X3 m Y3 = true ∧ X3.length = rs.length := by
   cases b3
   ·exact .inl rfl
   ·exact .inr ⟨rfl, i4 rfl⟩
  clear i1 i2 i3 i4
  have f1 := f1.resolve_left (fun h => by rw [h.1] at g1; cases g1)
  obtain ⟨rfl, f1⟩ := f1
  have f2 := f2.resolve_right (fun h => by rw [h.1] at g2; cases g2)
  obtain rfl := f2
  clear g1 g2
  rcases f3 with rfl | ⟨rfl, f3, f3'⟩
  all_goals
   (repeat' (first | (refine gate_a fun _ => ?_) | (refine fork_intro (fun hb => ?_) (fun hb => ?_) <;> (try simp only [ew, hsS, hM, hrow, hc, hrs, hm0, hds, hda, hua, huk, huv, hX, hY, hb, hX2, hY2, hbb, hX3, hY3, hbc, hsl, hsc, hsa, hsp, hT, htr, htm, eC2, hnR, hnD, hnC, hnM, hnB, rvM] at hb)) | (simp only [go_sem, Nat.reduceLeDiff, Nat.reduceEqDiff, reduceIte, reduceCtorEq, Nat.reduceAdd, Nat.reduceMul, Nat.reduceSub, Nat.reduceLT, Int.reduceLT, Int.reduceLE, Int.reduceNeg, Int.reduceToNat, Nat.reduceBEq, Nat.reduceBNe, Int.reduceGE, Int.reduceGT, *, cLawM10, cBig, cDIns, cIns, cEqMon, cIsM, cDDel, cDel, cDUpd, cUpd, cDSpc, cDNew, cNewM, cSpc, cSpcS, cEqDepS, Tryz.results3, hsS, hM, hrow, hc, hrs, hm0, hds, hda, hua, huk, huv, hX, hY, hb, hX2, hY2, hbb, hX3, hY3, hbc, hsl, hsc, hsa, hsp, hT, htr, htm, eC2, hnR, hnD, hnC, hnM, hnB, rvM])))
  all_goals first | rfl | skip
def cLawM11 : Contract := ⟨[], false, fun
 | [.one (.sl 1 l)] => some ((WfB l ∧ ∀ b ∈ unB l, 0 ≤ b ∧ b ≤ 255) ∧ mB1 (unB l) = true ∧ mB2 (unB l) = true, [⟨false, [.d (.v (.bool true))]⟩], [])
 | _ => none⟩
theorem lawM_11 : ContractOK E0 3 cLawM11 := by
 refine contract_of_wpc (E := E0) (T := mkT Tryz.prog [(5, cBig), (6, cDIns), (7, cIns), (8, cIns), (9, cEqMon), (10, cIsM), (11, cDDel), (12, cDel), (13, cDel), (14, cDUpd), (15, cUpd), (16, cUpd), (17, cDSpc), (18, cDNew), (19, cNewM), (20, cNewM), (22, cSpc), (23, cSpcS), (21, cEqDepS), (24, cIsM)] false (fun _ => false) true (fun d => d == 999)) (mkT_ok (E := E0) (.cons big_ok (.cons dIns_ok (.cons insI_ok (.cons insS_ok (.cons eqMonS_ok (.cons isMI_ok (.cons dDel_ok (.cons delI_ok (.cons delS_ok (.cons dUpd_ok (.cons updI_ok (.cons updS_ok (.cons dSpc_ok (.cons dNew_ok (.cons newMI_ok (.cons newMS_ok (.cons spcI_ok (.cons spcS_ok (.cons sameDepsS_ok (.cons isMS_ok .nil))))))))))))))))))))) (fn := Tryz.f3) Tryz.func3 (by kernel_rfl) rfl mixedT (by kernel_rfl) rfl ?_
 intro args p rs ms hr
 unfold cLawM11 at hr
 dsimp only at hr
 split at hr
 rotate_left
 ·cases hr
 rename_i l
 simp only [Option.some.injEq, Prod.mk.injEq] at hr
 obtain ⟨rfl, rfl, rfl⟩ := hr
 refine ⟨rfl, rfl, Nat.le_of_ble_eq_true rfl, ?_⟩
 have hm : maxLen = 9223372036854775807 := rfl
 rintro ⟨⟨h1, h3⟩, g1, g2⟩ bs0
 obtain ⟨bs, rfl, hx⟩ := h1.ex
 clear h1
 rw [unB_bL] at h3 g1 g2
 unfold mB1 at g1
 unfold mB2 at g2
 by_cases hbig : bs.length > 1048576
 ·clear g1 g2
  (repeat' (first | (refine gate_a fun _ => ?_) | (refine fork_intro (fun hb => ?_) (fun hb => ?_) <;> (try simp only [ew] at hb)) | (simp only [go_sem, Nat.reduceLeDiff, Nat.reduceEqDiff, reduceIte, reduceCtorEq, Nat.reduceAdd, Nat.reduceMul, Nat.reduceSub, Nat.reduceLT, Int.reduceLT, Int.reduceLE, Int.reduceNeg, Int.reduceToNat, Nat.reduceBEq, Nat.reduceBNe, Int.reduceGE, Int.reduceGT, *, cLawM11, cBig, cDIns, cIns, cEqMon, cIsM, cDDel, cDel, cDUpd, cUpd, cDSpc, cDNew, cNewM, cSpc, cSpcS, cEqDepS, Tryz.results3])))
  all_goals first | rfl | contradiction | skip
 ·have hb2 : bs.length ≤ 1048576 := by omega
  obtain ⟨k1, k2, k3, k4⟩ := @monM_facts bs (newS bs)
  have eM2 : monM bs (newS bs) = dMon bs := rfl
  rw [eM2] at k1 k2 k3 k4
  clear eM2
  generalize hM : dMon bs = M at *
  have hrl := @dInsR_len bs
  generalize hrow : dInsR bs = row at *
  have a1 : M.1.2.1.length ≤ 16777216 := by omega
  have a2 : ∀ r ∈ M.1.2.1, r.length ≤ 16777216 := fun r hr => by have := k3 r hr; omega
  have a3 : M.1.2.2.2.length ≤ 16777216 := by omega
  clear k3
  generalize hc : M.1.1 = c at *
  generalize hrs : M.1.2.1 = rs at *
  generalize hm0 : M.1.2.2.1 = m at *
  generalize hds : M.1.2.2.2 = ds at *
  generalize hda : dDelA bs = da at *
  generalize hua : dUpdA bs = ua
  generalize huk : dUpdK bs = uk
  generalize huv : dUpdV bs = uv
  have a4 : rs.length ≤ maxLen := Nat.le_trans a1 (by decide)
  have a5 : ∀ r ∈ rs, r.length ≤ maxLen := fun r hr => Nat.le_trans (a2 r hr) (by decide)
  have a6 : ds.length ≤ maxLen := Nat.le_trans a3 (by decide)
  have a7 : row.length ≤ maxLen := Nat.le_trans hrl (by decide)
  have i1 := @ins_isM c rs m ds row
  have i2 := @ins_keep c rs m ds row
  obtain ⟨x1, x2, x3⟩ := @insR_facts c rs m ds row a1 a2 a3
  generalize hX : insR c rs m ds row = X at *
  generalize hY : insD c rs m ds row = Y at *
  generalize hb : insV c rs m ds row = b1 at *
  have x4 : X.length ≤ maxLen := Nat.le_trans x1 (by decide)
  have x5 : ∀ r ∈ X, r.length ≤ maxLen := fun r hr => Nat.le_trans (x2 r hr) (by decide)
  have x6 : Y.length ≤ maxLen := Nat.le_trans x3 (by decide)
  have i3 := @del_isM c rs m ds da
  obtain ⟨y1, y2, y3⟩ := @delR_facts c rs m ds da a1 a2 a3
  generalize hX2 : delR c rs m ds da = X2 at *
  generalize hY2 : delD c rs m ds da = Y2 at *
  generalize hbb : delV c rs m ds da = b2 at *
  have y4 : X2.length ≤ maxLen := Nat.le_trans y1 (by decide)
  have y5 : ∀ r ∈ X2, r.length ≤ maxLen := fun r hr => Nat.le_trans (y2 r hr) (by decide)
  have y6 : Y2.length ≤ maxLen := Nat.le_trans y3 (by decide)
  have i4 := @upd_isM c rs m ds ua uk uv
  obtain ⟨z1, z2, z3⟩ := @updR_facts c rs m ds ua uk uv a1 a2 a3
  generalize hX3 : updR c rs m ds ua uk uv = X3 at *
  generalize hY3 : updD c rs m ds ua uk uv = Y3 at *
  generalize hbc : updB c rs m ds ua uk uv = b3 at *
  have z4 : X3.length ≤ maxLen := Nat.le_trans z1 (by decide)
  have z5 : ∀ r ∈ X3, r.length ≤ maxLen := fun r hr => Nat.le_trans (z2 r hr) (by decide)
  have z6 : Y3.length ≤ maxLen := Nat.le_trans z3 (by decide)
  have s1 := @dSpc_len bs
  generalize hsl : dSpcL bs = sl at *
  obtain ⟨⟨n1, n2⟩, n3, n4⟩ := @l4M_facts bs (newS bs)
  have eC : dSpcC bs = (l4M bs (newS bs)).1.1.1 := rfl
  rw [← eC] at n1 n2
  generalize hsc : dSpcC bs = sc at *
  generalize hsa : dSpcA bs = sa at *
  have s2 := @spcF_len2 sc sa sl
  have eSp := @spc_eq sc sa sl
  generalize hsp : spcF sc sa sl = sp at *
  have hsS : spcS sc sa sl = sp := eSp.symm
  clear eSp
  have s3 : sl.length ≤ 1048576 := by omega
  have s4 : sl.length ≤ maxLen := Nat.le_trans s3 (by decide)
  have s5 : sp.length ≤ maxLen := Nat.le_trans (show sp.length ≤ 1000 by omega) (by decide)
  generalize hT : l4M bs (newS bs) = T at *
  have n3' : T.1.1.2.length ≤ maxLen := Nat.le_trans n3 (by decide)
  have n4' : ∀ r ∈ T.1.1.2, r.length ≤ maxLen := fun r hr => by have := n4 r hr; omega
  obtain ⟨w1, w2, _⟩ := @nmR_facts T.1.1.1 T.1.1.2 T.1.2
  have w3 := (@mdL_facts T.1.1.1 T.1.1.2 T.1.2).1
  clear n4
  generalize htr : T.1.1.2 = tr at *
  generalize htm : T.1.2 = tm at *
  have eC2 : T.1.1.1 = sc := eC.symm
  rw [eC2] at w1 w2 w3
  clear eC
  generalize hnR : nmR sc tr tm = nR at *
  generalize hnD : mdL sc tr tm = nD at *
  generalize hnC : nmC sc tr tm = nC at *
  generalize hnM : nmM sc tr tm = nM at *
  generalize hnB : nmB sc tr tm = nB at *
  have w4 : nR.length ≤ maxLen := Nat.le_trans w1 (by decide)
  have w5 : ∀ r ∈ nR, r.length ≤ maxLen := fun r hr => by have := w2 r hr; omega
  have w6 : nD.length ≤ maxLen := Nat.le_trans w3 (by decide)
  clear w2
  have f1 : b1 = false ∧ X = rs ∧ Y = ds ∨ b1 = true ∧ isM c X m Y = true := by
   cases b1
   ·exact .inl ⟨rfl, i2 rfl⟩
   ·exact .inr ⟨rfl, i1 rfl⟩
  have f2 : b2 = false ∨ b2 = true ∧ isM c X2 m Y2 = true ∧ ((X2.length : Nat) : Int) = (rs.length : Int) - 1 := by
   cases b2
   ·exact .inl rfl
   ·exact .inr ⟨rfl, i3 rfl⟩
  have f3 : b3 = false ∨ b3 = true ∧ isM c X3 m Y3 = true ∧ X3.length = rs.length := by
   cases b3
   ·exact .inl rfl
   ·exact .inr ⟨rfl, i4 rfl⟩
  clear i1 i2 i3 i4
  have f1 := f1.resolve_left (fun h => by rw [h.1] at g1; cases g1)
  obtain ⟨rfl, f1⟩ := f1
  have f2 := f2.resolve_left (fun h => by rw [h] at g2; cases g2)
  obtain ⟨rfl, f2, f2'⟩ := f2
  clear g1 g2
  rcases f3 with rfl | ⟨rfl, f3, f3'⟩
  all_goals
   (repeat' (first | (refine gate_a fun _ => ?_) | (refine fork_intro (fun hb => ?_) (fun hb => ?_) <;> (try simp only [ew, hsS, hM, hrow, hc, hrs, hm0, hds, hda, hua, huk, huv, hX, hY, hb, hX2, hY2, hbb, hX3, hY3, hbc, hsl, hsc, hsa, hsp, hT, htr, htm, eC2, hnR, hnD, hnC, hnM, hnB, rvM] at hb)) | (simp only [go_sem, Nat.reduceLeDiff, Nat.reduceEqDiff, reduceIte, reduceCtorEq, Nat.reduceAdd, Nat.reduceMul, Nat.reduceSub, Nat.reduceLT, Int.reduceLT, Int.reduceLE, Int.reduceNeg, Int.reduceToNat, Nat.reduceBEq, Nat.reduceBNe, Int.reduceGE, Int.reduceGT, *, cLawM11, cBig, cDIns, cIns, cEqMon, cIsM, cDDel, cDel, cDUpd, cUpd, cDSpc, cDNew, cNewM, cSpc, cSpcS, cEqDepS, Tryz.results3, hsS, hM, hrow, hc, hrs, hm0, hds, hda, hua, huk, huv, hX, hY, hb, hX2, hY2, hbb, hX3, hY3, hbc, hsl, hsc, hsa, hsp, hT, htr, htm, eC2, hnR, hnD, hnC, hnM, hnB, rvM])))
  all_goals first | rfl | skip
end Go.Own
