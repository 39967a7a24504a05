/-
  The draws of monitors. Conditions: as each theorem states them.
-/
import Derived.Test.YthopcpiecbofcaaGreatOwnTa
import Derived.Test.YthopcpiecbofcaaGreatOwnX5
import Derived.Test.YthopcpiecbofcaaGreatOwnI3
import Derived.Test.YthopcpiecbofcaaGreatOwnX3
import Derived.Test.YthopcpiecbofcaaGreatOwnI6
set_option linter.unusedSimpArgs false
set_option linter.unusedVariables false
set_option maxRecDepth 20000
set_option maxHeartbeats 8000000
namespace Go.Own
open Go Go.Proofs
attribute [local go_sem] tf1b ft1b cuO rI rB cuP unB_bL bL_length wfB_bL unD_dL dL_length dL_get dL_set dL_inj wfD_dL scal2 beq2 pair_eta
theorem tblM_tab {bs : List Int} {s : Cu} : tabOK (tblM bs s).1.1 (tblM bs s).1.2 = true := by
 obtain ⟨h1, h2, h3⟩ := @tblM_facts bs s
 unfold tabOK
 simp only [Bool.and_eq_true, decide_eq_true_eq, List.all_eq_true, inB_iff]
 refine ⟨fun r hr => ?_, by omega⟩
 obtain ⟨q1, q2⟩ := h3 r hr
 unfold rowOK
 simp only [Bool.and_eq_true, decide_eq_true_eq, List.all_eq_true, inB_iff]
 refine ⟨fun v hv => ?_, by omega⟩
 have := q2 v hv
 omega
abbrev Mo := Int × List (List Int) × Int × List (Int × Int)
def monM : Dr Mo := fun bs s =>
 let t := tblM bs s
 let m := belowM 2 bs t.2
 let x := belowM 14 bs m.2
 if x.1 = 0 then ((t.1.1, t.1.2, m.1, mdL t.1.1 t.1.2 m.1 ++ [(depM 3 bs x.2).1]), (depM 3 bs x.2).2)
 else if x.1 = 1 then ((t.1.1, t.1.2, (pickM [-1, 2] bs x.2).1, mdL t.1.1 t.1.2 m.1), (pickM [-1, 2] bs x.2).2)
 else ((t.1.1, t.1.2, m.1, mdL t.1.1 t.1.2 m.1), x.2)
theorem monM_facts {bs : List Int} {s : Cu} : (2 ≤ (monM bs s).1.1 ∧ (monM bs s).1.1 ≤ 4) ∧ (monM bs s).1.2.1.length ≤ 12 ∧ (∀ r ∈ (monM bs s).1.2.1, r.length = (monM bs s).1.1.toNat) ∧ (monM bs s).1.2.2.2.length ≤ 161 := by
 obtain ⟨h1, h2, h3⟩ := @tblM_facts bs s
 have h4 := fun m => (@mdL_facts (tblM bs s).1.1 (tblM bs s).1.2 m).1
 have h5 := h4 (belowM 2 bs (tblM bs s).2).1
 unfold monM
 dsimp only
 split
 ·dsimp only
  exact ⟨h1, h2, fun r hr => (h3 r hr).1, by simp; omega⟩
 ·split
  ·dsimp only
   exact ⟨h1, h2, fun r hr => (h3 r hr).1, by omega⟩
  ·dsimp only
   exact ⟨h1, h2, fun r hr => (h3 r hr).1, by omega⟩
def cMon : Contract := ⟨[true], false, fun
 | [.box [.sl 1 l, .v (.int .i64 i), .v (.int .i64 h)]] => some (WfB l ∧ 0 ≤ i, [⟨true, [.d (.v (.int .i64 (monM (unB l) (i.toNat, h)).1.1)), .own 1 (sL (monM (unB l) (i.toNat, h)).1.2.1) 2, .d (.v (.int .i64 (monM (unB l) (i.toNat, h)).1.2.2.1)), .own 2 (dL (monM (unB l) (i.toNat, h)).1.2.2.2) 1]⟩], cuO l (monM (unB l) (i.toNat, h)).2)
 | _ => none⟩
theorem mon_ok : ContractOK E0 41 cMon := by
 refine contract_of_wpcB (E := E0) (T := mkT Tryz.prog [(98, cTbl), (44, cBelow), (20, cNewM), (99, cDep6), (100, cPickI)] false (fun d => d == 27) false (fun d => d == 17 || d == 1000 || d == 1004)) (mkT_ok (E := E0) (.cons tbl_ok (.cons below_ok (.cons newMS_ok (.cons dep6_ok (.cons pickI_ok .nil)))))) rfl (fn := Tryz.f41) Tryz.func41 (by kernel_rfl) rfl mixedT (by kernel_rfl) rfl rfl (Nat.le_of_ble_eq_true rfl) ?_
 intro args p rs ms hr
 unfold cMon at hr
 dsimp only at hr
 split at hr
 rotate_left
 ·cases hr
 rename_i l i h
 simp only [Option.some.injEq, Prod.mk.injEq] at hr
 obtain ⟨rfl, rfl, rfl⟩ := hr
 refine ⟨_, _, _, rfl, rfl, rfl, rfl, Nat.le_of_ble_eq_true rfl, ?_⟩
 have hm : maxLen = 9223372036854775807 := rfl
 rintro ⟨h1, h2⟩ bs0
 obtain ⟨bs, rfl, hx⟩ := h1.ex
 clear h1
 rw [unB_bL]
 obtain ⟨i, rfl⟩ := Int.eq_ofNat_of_zero_le h2
 rw [Int.toNat_natCast]
 obtain ⟨t1, t2, t3⟩ := @tblM_facts bs (i, h)
 have ht := @tblM_tab bs (i, h)
 have e : monM bs (i, h) = (if (belowM 14 bs (belowM 2 bs (tblM bs (i, h)).2).2).1 = 0 then (((tblM bs (i, h)).1.1, (tblM bs (i, h)).1.2, (belowM 2 bs (tblM bs (i, h)).2).1, mdL (tblM bs (i, h)).1.1 (tblM bs (i, h)).1.2 (belowM 2 bs (tblM bs (i, h)).2).1 ++ [(depM 3 bs (belowM 14 bs (belowM 2 bs (tblM bs (i, h)).2).2).2).1]), (depM 3 bs (belowM 14 bs (belowM 2 bs (tblM bs (i, h)).2).2).2).2)
  else if (belowM 14 bs (belowM 2 bs (tblM bs (i, h)).2).2).1 = 1 then (((tblM bs (i, h)).1.1, (tblM bs (i, h)).1.2, (pickM [-1, 2] bs (belowM 14 bs (belowM 2 bs (tblM bs (i, h)).2).2).2).1, mdL (tblM bs (i, h)).1.1 (tblM bs (i, h)).1.2 (belowM 2 bs (tblM bs (i, h)).2).1), (pickM [-1, 2] bs (belowM 14 bs (belowM 2 bs (tblM bs (i, h)).2).2).2).2)
  else (((tblM bs (i, h)).1.1, (tblM bs (i, h)).1.2, (belowM 2 bs (tblM bs (i, h)).2).1, mdL (tblM bs (i, h)).1.1 (tblM bs (i, h)).1.2 (belowM 2 bs (tblM bs (i, h)).2).1), (belowM 14 bs (belowM 2 bs (tblM bs (i, h)).2).2).2)) := rfl
 rw [e]
 clear e
 generalize hT : tblM bs (i, h) = T at t1 t2 t3 ht ⊢
 have r1 := @belowM_range 2 bs T.2 (by decide)
 generalize hM : belowM 2 bs T.2 = M at r1 ⊢
 have r2 := @belowM_range 14 bs M.2 (by decide)
 generalize hX : belowM 14 bs M.2 = X at r2 ⊢
 have hmo : modeOK M.1 = true := by
  have : M.1 = 0 ∨ M.1 = 1 := by omega
  rcases this with h | h <;> rw [h] <;> rfl
 have hb : nmB T.1.1 T.1.2 M.1 = true := by unfold nmB; rw [ht, hmo]; rfl
 have n1 : nmC T.1.1 T.1.2 M.1 = T.1.1 := by unfold nmC; rw [hb, if_pos rfl]
 have n2 : nmR T.1.1 T.1.2 M.1 = T.1.2 := by unfold nmR; rw [hb, if_pos rfl]
 have n3 : nmM T.1.1 T.1.2 M.1 = M.1 := by unfold nmM; rw [hb, if_pos rfl]
 have h4 := (@mdL_facts T.1.1 T.1.2 M.1).1
 generalize hD : mdL T.1.1 T.1.2 M.1 = ds at h4 ⊢
 have m1 : T.1.2.length ≤ maxLen := Nat.le_trans t2 (by decide)
 have m2 : ∀ r ∈ T.1.2, r.length ≤ maxLen := fun r hr => by have := (t3 r hr).1; omega
 have m3 : ds.length ≤ maxLen := Nat.le_trans h4 (by decide)
 clear t3 ht hmo
 have eB : [[D.v (.int .i64 (-1))], [D.v (.int .i64 2)]] = iL [-1, 2] := rfl
 have nB : ¬ iL [-1, 2] = [] := by simp [iL]
 by_cases h0 : X.1 = 0
 ·rw [if_pos h0]
  have q0 : (X.1 == 0) = true := by rw [h0]; rfl
  clear h0
  generalize hP : depM 3 bs X.2 = P
  (repeat' (first | (refine gate_a fun _ => ?_) | (refine fork_intro (fun hb => ?_) (fun hb => ?_) <;> (try simp only [ew, hT, hM, hX, hb, n1, n2, n3, hD, q0, hP, dL_sn] at hb)) | (simp only [go_sem, Nat.reduceLeDiff, Nat.reduceEqDiff, reduceIte, reduceCtorEq, Nat.reduceAdd, Nat.reduceMul, Nat.reduceSub, Nat.reduceLT, Int.reduceLT, Int.reduceLE, Int.reduceNeg, Int.reduceToNat, Nat.reduceBEq, Nat.reduceBNe, Int.reduceGE, Int.reduceGT, *, cMon, cTbl, cBelow, cNewM, cDep6, cPickI, Tryz.results41, hT, hM, hX, hb, n1, n2, n3, hD, q0, hP, dL_sn])))
  all_goals first | rfl | skip
 ·rw [if_neg h0]
  have q0 : (X.1 == 0) = false := beq_eq_false_iff_ne.2 h0
  clear h0
  by_cases h1 : X.1 = 1
  ·rw [if_pos h1]
   have q1 : (X.1 == 1) = true := by rw [h1]; rfl
   clear h1
   generalize hP : pickM [-1, 2] bs X.2 = P
   (repeat' (first | (refine gate_a fun _ => ?_) | (refine fork_intro (fun hb => ?_) (fun hb => ?_) <;> (try simp only [ew, hT, hM, hX, hb, n1, n2, n3, hD, q0, q1, eB, hP] at hb)) | (simp only [go_sem, Nat.reduceLeDiff, Nat.reduceEqDiff, reduceIte, reduceCtorEq, Nat.reduceAdd, Nat.reduceMul, Nat.reduceSub, Nat.reduceLT, Int.reduceLT, Int.reduceLE, Int.reduceNeg, Int.reduceToNat, Nat.reduceBEq, Nat.reduceBNe, Int.reduceGE, Int.reduceGT, *, cMon, cTbl, cBelow, cNewM, cDep6, cPickI, Tryz.results41, hT, hM, hX, hb, n1, n2, n3, hD, q0, q1, eB, hP])))
   all_goals first | rfl | skip
  ·rw [if_neg h1]
   have q1 : (X.1 == 1) = false := beq_eq_false_iff_ne.2 h1
   clear h1
   (repeat' (first | (refine gate_a fun _ => ?_) | (refine fork_intro (fun hb => ?_) (fun hb => ?_) <;> (try simp only [ew, hT, hM, hX, hb, n1, n2, n3, hD, q0, q1] at hb)) | (simp only [go_sem, Nat.reduceLeDiff, Nat.reduceEqDiff, reduceIte, reduceCtorEq, Nat.reduceAdd, Nat.reduceMul, Nat.reduceSub, Nat.reduceLT, Int.reduceLT, Int.reduceLE, Int.reduceNeg, Int.reduceToNat, Nat.reduceBEq, Nat.reduceBNe, Int.reduceGE, Int.reduceGT, *, cMon, cTbl, cBelow, cNewM, cDep6, cPickI, Tryz.results41, hT, hM, hX, hb, n1, n2, n3, hD, q0, q1])))
   all_goals first | rfl | skip
def dMon (bs : List Int) : Mo × Cu := monM bs (newS bs)
def dDelA (bs : List Int) : Int := (belowM 8 bs (dMon bs).2).1 - 1
def dUpdA (bs : List Int) : Int := (belowM 7 bs (dMon bs).2).1 - 1
def dUpdK (bs : List Int) : Int := (belowM 4 bs (belowM 7 bs (dMon bs).2).2).1
def dUpdV (bs : List Int) : Int := (belowM 6 bs (belowM 4 bs (belowM 7 bs (dMon bs).2).2).2).1 - 2
def rvM (m : Mo) : RV := ⟨true, [.d (.v (.int .i64 m.1)), .own 1 (sL m.2.1) 2, .d (.v (.int .i64 m.2.2.1)), .own 2 (dL m.2.2.2) 1]⟩
def cDDel : Contract := ⟨[], false, fun
 | [.one (.sl 1 l)] => some (WfB l ∧ l.length ≤ 1048576 ∧ ∀ b ∈ unB l, 0 ≤ b ∧ b ≤ 255, [rvM (dMon (unB l)).1, ⟨false, [.d (.v (.int .i64 (dDelA (unB l))))]⟩], [])
 | _ => none⟩
def cDUpd : Contract := ⟨[], false, fun
 | [.one (.sl 1 l)] => some (WfB l ∧ l.length ≤ 1048576 ∧ ∀ b ∈ unB l, 0 ≤ b ∧ b ≤ 255, [rvM (dMon (unB l)).1, ⟨false, [.d (.v (.int .i64 (dUpdA (unB l))))]⟩, ⟨false, [.d (.v (.int .i64 (dUpdK (unB l))))]⟩, ⟨false, [.d (.v (.int .i64 (dUpdV (unB l))))]⟩], [])
 | _ => none⟩
theorem dDel_ok : ContractOK E0 11 cDDel := by
 refine contract_of_wpc (E := E0) (T := mkT Tryz.prog [(40, cNewC), (41, cMon), (44, cBelow)] false (fun _ => false) true (fun d => d == 5 || d == 1000 || d == 1006)) (mkT_ok (E := E0) (.cons newC_ok (.cons mon_ok (.cons below_ok .nil)))) (fn := Tryz.f11) Tryz.func11 (by kernel_rfl) rfl mixedT (by kernel_rfl) rfl ?_
 intro args p rs ms hr
 unfold cDDel at hr
 dsimp only at hr
 split at hr
 rotate_left
 ·cases hr
 rename_i l
 simp only [Option.some.injEq, Prod.mk.injEq] at hr
 obtain ⟨rfl, rfl, rfl⟩ := hr
 refine ⟨rfl, rfl, Nat.le_of_ble_eq_true rfl, ?_⟩
 have hm : maxLen = 9223372036854775807 := rfl
 rintro ⟨h1, h2, h3⟩ bs0
 obtain ⟨bs, rfl, hx⟩ := h1.ex
 clear h1
 rw [bL_length] at h2
 rw [unB_bL] at h3 ⊢
 obtain ⟨k1, k2, k3, k4⟩ := @monM_facts bs (newS bs)
 have eM : monM bs (0, newH bs) = dMon bs := rfl
 have eM2 : monM bs (newS bs) = dMon bs := rfl
 rw [eM2] at k1 k2 k3 k4
 have eA : (belowM 8 bs (dMon bs).2).1 - 1 = dDelA bs := rfl
 have r1 := @belowM_range 8 bs (dMon bs).2 (by decide)
 generalize hM : dMon bs = M at *
 have m1 : M.1.2.1.length ≤ maxLen := Nat.le_trans k2 (by decide)
 have m2 : ∀ r ∈ M.1.2.1, r.length ≤ maxLen := fun r hr => by have := k3 r hr; omega
 have m3 : M.1.2.2.2.length ≤ maxLen := Nat.le_trans k4 (by decide)
 clear k3 eM2
 (repeat' (first | (refine gate_a fun _ => ?_) | (refine fork_intro (fun hb => ?_) (fun hb => ?_) <;> (try simp only [ew, eM, eA, rvM] at hb)) | (simp only [go_sem, Nat.reduceLeDiff, Nat.reduceEqDiff, reduceIte, reduceCtorEq, Nat.reduceAdd, Nat.reduceMul, Nat.reduceSub, Nat.reduceLT, Int.reduceLT, Int.reduceLE, Int.reduceNeg, Int.reduceToNat, Nat.reduceBEq, Nat.reduceBNe, Int.reduceGE, Int.reduceGT, *, cDDel, cNewC, cMon, cBelow, Tryz.results11, eM, eA, rvM])))
 all_goals first | rfl | skip
theorem dUpd_ok : ContractOK E0 14 cDUpd := by
 refine contract_of_wpc (E := E0) (T := mkT Tryz.prog [(40, cNewC), (41, cMon), (44, cBelow)] false (fun _ => false) true (fun d => d == 7 || d == 1000 || d == 1008)) (mkT_ok (E := E0) (.cons newC_ok (.cons mon_ok (.cons below_ok .nil)))) (fn := Tryz.f14) Tryz.func14 (by kernel_rfl) rfl mixedT (by kernel_rfl) rfl ?_
 intro args p rs ms hr
 unfold cDUpd at hr
 dsimp only at hr
 split at hr
 rotate_left
 ·cases hr
 rename_i l
 simp only [Option.some.injEq, Prod.mk.injEq] at hr
 obtain ⟨rfl, rfl, rfl⟩ := hr
 refine ⟨rfl, rfl, Nat.le_of_ble_eq_true rfl, ?_⟩
 have hm : maxLen = 9223372036854775807 := rfl
 rintro ⟨h1, h2, h3⟩ bs0
 obtain ⟨bs, rfl, hx⟩ := h1.ex
 clear h1
 rw [bL_length] at h2
 rw [unB_bL] at h3 ⊢
 obtain ⟨k1, k2, k3, k4⟩ := @monM_facts bs (newS bs)
 have eM : monM bs (0, newH bs) = dMon bs := rfl
 have eM2 : monM bs (newS bs) = dMon bs := rfl
 rw [eM2] at k1 k2 k3 k4
 have eA : (belowM 7 bs (dMon bs).2).1 - 1 = dUpdA bs := rfl
 have eK : (belowM 4 bs (belowM 7 bs (dMon bs).2).2).1 = dUpdK bs := rfl
 have eV : (belowM 6 bs (belowM 4 bs (belowM 7 bs (dMon bs).2).2).2).1 - 2 = dUpdV bs := rfl
 generalize hM : dMon bs = M at *
 have r1 := @belowM_range 7 bs M.2 (by decide)
 generalize hA : belowM 7 bs M.2 = A at *
 have r2 := @belowM_range 4 bs A.2 (by decide)
 generalize hB : belowM 4 bs A.2 = B at *
 have r3 := @belowM_range 6 bs B.2 (by decide)
 have m1 : M.1.2.1.length ≤ maxLen := Nat.le_trans k2 (by decide)
 have m2 : ∀ r ∈ M.1.2.1, r.length ≤ maxLen := fun r hr => by have := k3 r hr; omega
 have m3 : M.1.2.2.2.length ≤ maxLen := Nat.le_trans k4 (by decide)
 clear k3 eM2
 (repeat' (first | (refine gate_a fun _ => ?_) | (refine fork_intro (fun hb => ?_) (fun hb => ?_) <;> (try simp only [ew, eM, eA, eK, eV, hA, hB, rvM] at hb)) | (simp only [go_sem, Nat.reduceLeDiff, Nat.reduceEqDiff, reduceIte, reduceCtorEq, Nat.reduceAdd, Nat.reduceMul, Nat.reduceSub, Nat.reduceLT, Int.reduceLT, Int.reduceLE, Int.reduceNeg, Int.reduceToNat, Nat.reduceBEq, Nat.reduceBNe, Int.reduceGE, Int.reduceGT, *, cDUpd, cNewC, cMon, cBelow, Tryz.results14, eM, eA, eK, eV, hA, hB, rvM])))
 all_goals first | rfl | skip
def insRow (bs : List Int) (rs : List (List Int)) (r : List Int) (s : Cu) : List Int × Cu :=
 if 0 < rs.length then
  let o := onceM 2 bs s
  if o.1 then
   let j := belowM rs.length bs o.2
   let row := rs.getD j.1.toNat []
   let p := belowM row.length bs j.2
   let v := belowM 4 bs p.2
   (row.set p.1.toNat v.1, v.2)
  else (r, o.2)
 else (r, s)
def dInsR (bs : List Int) : List Int :=
 let m := dMon bs
 let r := rowM 4 m.1.1.toNat bs m.2
 let u := insRow bs m.1.2.1 r.1 r.2
 if (onceM 14 bs u.2).1 then u.1 ++ [1] else u.1
end Go.Own
/-
  The draws of a row to insert, of tables with a mode, of lists of dependencies. Conditions: as each theorem states them.
-/
namespace Go.Own
open Go Go.Proofs
attribute [local go_sem] tf1b ft1b cuO rI rB cuP unB_bL bL_length wfB_bL unD_dL dL_length dL_get dL_set dL_inj wfD_dL scal2 beq2 pair_eta
def cDIns : Contract := ⟨[], false, fun
 | [.one (.sl 1 l)] => some (WfB l ∧ l.length ≤ 1048576 ∧ ∀ b ∈ unB l, 0 ≤ b ∧ b ≤ 255, [rvM (dMon (unB l)).1, ⟨false, [.own 1 (iL (dInsR (unB l))) 1]⟩], [])
 | _ => none⟩
theorem dIns_ok : ContractOK E0 6 cDIns := by
 refine contract_of_wpc (E := E0) (T := mkT Tryz.prog [(40, cNewC), (41, cMon), (42, cRow), (43, cOnce), (44, cBelow)] false (fun _ => false) true (fun d => d == 999 || d == 17 || d == 27 || d == 31 || d == 1000 || d == 1006 || d == 1026)) (mkT_ok (E := E0) (.cons newC_ok (.cons mon_ok (.cons row_ok (.cons once_ok (.cons below_ok .nil)))))) (fn := Tryz.f6) Tryz.func6 (by kernel_rfl) rfl mixedT (by kernel_rfl) rfl ?_
 intro args p rs ms hr
 unfold cDIns at hr
 dsimp only at hr
 split at hr
 rotate_left
 ·cases hr
 rename_i l
 simp only [Option.some.injEq, Prod.mk.injEq] at hr
 obtain ⟨rfl, rfl, rfl⟩ := hr
 refine ⟨rfl, rfl, Nat.le_of_ble_eq_true rfl, ?_⟩
 have hm : maxLen = 9223372036854775807 := rfl
 rintro ⟨h1, h2, h3⟩ bs0
 obtain ⟨bs, rfl, hx⟩ := h1.ex
 clear h1
 rw [bL_length] at h2
 rw [unB_bL] at h3 ⊢
 obtain ⟨k1, k2, k3, k4⟩ := @monM_facts bs (newS bs)
 have eM : monM bs (0, newH bs) = dMon bs := rfl
 have eM2 : monM bs (newS bs) = dMon bs := rfl
 rw [eM2] at k1 k2 k3 k4
 have eR : dInsR bs = (if (onceM 14 bs (insRow bs (dMon bs).1.2.1 (rowM 4 (dMon bs).1.1.toNat bs (dMon bs).2).1 (rowM 4 (dMon bs).1.1.toNat bs (dMon bs).2).2).2).1 then (insRow bs (dMon bs).1.2.1 (rowM 4 (dMon bs).1.1.toNat bs (dMon bs).2).1 (rowM 4 (dMon bs).1.1.toNat bs (dMon bs).2).2).1 ++ [1] else (insRow bs (dMon bs).1.2.1 (rowM 4 (dMon bs).1.1.toNat bs (dMon bs).2).1 (rowM 4 (dMon bs).1.1.toNat bs (dMon bs).2).2).1) := rfl
 rw [eR]
 clear eR
 generalize hM : dMon bs = M at *
 have l1 := @rowM_len 4 bs M.2 M.1.1.toNat
 generalize hR : rowM 4 M.1.1.toNat bs M.2 = R at *
 have m1 : M.1.2.1.length ≤ maxLen := Nat.le_trans k2 (by decide)
 have m2 : ∀ r ∈ M.1.2.1, r.length ≤ maxLen := fun r hr => by have := k3 r hr; omega
 have m3 : M.1.2.2.2.length ≤ maxLen := Nat.le_trans k4 (by decide)
 have m4 : R.1.length ≤ 4 := by omega
 have m5 : R.1.length ≤ maxLen := Nat.le_trans m4 (by decide)
 clear eM2
 generalize hU : insRow bs M.1.2.1 R.1 R.2 = U at *
 generalize hZ : onceM 14 bs U.2 = Z at *
 unfold insRow at hU
 by_cases hp : 0 < M.1.2.1.length
 ·rw [if_pos hp] at hU
  have eP : decide ((M.1.2.1.length : Int) > 0) = true := decide_eq_true (by omega)
  dsimp only at hU
  generalize hO : onceM 2 bs R.2 = O at *
  cases ho : O.1
  ·rw [ho, if_neg (by decide)] at hU
   subst hU
   clear k3
   cases hz : Z.1
   ·rw [if_neg (by decide)]
    (repeat' (first | (refine gate_a fun _ => ?_) | (refine fork_intro (fun hb => ?_) (fun hb => ?_) <;> (try simp only [ew, eM, hM, hR, eP, hO, ho, hZ, hz, rvM] at hb)) | (simp only [go_sem, Nat.reduceLeDiff, Nat.reduceEqDiff, reduceIte, reduceCtorEq, Nat.reduceAdd, Nat.reduceMul, Nat.reduceSub, Nat.reduceLT, Int.reduceLT, Int.reduceLE, Int.reduceNeg, Int.reduceToNat, Nat.reduceBEq, Nat.reduceBNe, Int.reduceGE, Int.reduceGT, *, cDIns, cNewC, cMon, cRow, cOnce, cBelow, Tryz.results6, eM, hM, hR, eP, hO, ho, hZ, hz, rvM])))
    all_goals first | rfl | skip
   ·rw [if_pos rfl]
    (repeat' (first | (refine gate_a fun _ => ?_) | (refine fork_intro (fun hb => ?_) (fun hb => ?_) <;> (try simp only [ew, eM, hM, hR, eP, hO, ho, hZ, hz, rvM, iL_sn] at hb)) | (simp only [go_sem, Nat.reduceLeDiff, Nat.reduceEqDiff, reduceIte, reduceCtorEq, Nat.reduceAdd, Nat.reduceMul, Nat.reduceSub, Nat.reduceLT, Int.reduceLT, Int.reduceLE, Int.reduceNeg, Int.reduceToNat, Nat.reduceBEq, Nat.reduceBNe, Int.reduceGE, Int.reduceGT, *, cDIns, cNewC, cMon, cRow, cOnce, cBelow, Tryz.results6, eM, hM, hR, eP, hO, ho, hZ, hz, rvM, iL_sn])))
    all_goals first | rfl | skip
  ·rw [ho, if_pos rfl] at hU
   have q1 := @belowM_range M.1.2.1.length bs O.2 (by omega)
   generalize hJ : belowM M.1.2.1.length bs O.2 = J at *
   have hj : J.1.toNat < M.1.2.1.length := by omega
   have hl := k3 _ (getD_mem hj [])
   have q2 := @belowM_range (M.1.2.1.getD J.1.toNat []).length bs J.2 (by omega)
   have m6 := m2 _ (getD_mem hj [])
   have m7 : (M.1.2.1.getD J.1.toNat []).length ≤ 4 := by omega
   clear k3 hl
   generalize hB : belowM (M.1.2.1.getD J.1.toNat []).length bs J.2 = B at *
   generalize hV : belowM 4 bs B.2 = V at *
   subst hU
   cases hz : Z.1
   ·rw [if_neg (by decide)]
    (repeat' (first | (refine gate_a fun _ => ?_) | (refine fork_intro (fun hb => ?_) (fun hb => ?_) <;> (try simp only [ew, eM, hM, hR, eP, hO, ho, hZ, hz, hJ, hB, hV, rvM, iL_asc2] at hb)) | (simp only [go_sem, Nat.reduceLeDiff, Nat.reduceEqDiff, reduceIte, reduceCtorEq, Nat.reduceAdd, Nat.reduceMul, Nat.reduceSub, Nat.reduceLT, Int.reduceLT, Int.reduceLE, Int.reduceNeg, Int.reduceToNat, Nat.reduceBEq, Nat.reduceBNe, Int.reduceGE, Int.reduceGT, *, cDIns, cNewC, cMon, cRow, cOnce, cBelow, Tryz.results6, eM, hM, hR, eP, hO, ho, hZ, hz, hJ, hB, hV, rvM, iL_asc2])))
    all_goals first | rfl | skip
   ·rw [if_pos rfl]
    (repeat' (first | (refine gate_a fun _ => ?_) | (refine fork_intro (fun hb => ?_) (fun hb => ?_) <;> (try simp only [ew, eM, hM, hR, eP, hO, ho, hZ, hz, hJ, hB, hV, rvM, iL_sn, iL_asc2] at hb)) | (simp only [go_sem, Nat.reduceLeDiff, Nat.reduceEqDiff, reduceIte, reduceCtorEq, Nat.reduceAdd, Nat.reduceMul, Nat.reduceSub, Nat.reduceLT, Int.reduceLT, Int.reduceLE, Int.reduceNeg, Int.reduceToNat, Nat.reduceBEq, Nat.reduceBNe, Int.reduceGE, Int.reduceGT, *, cDIns, cNewC, cMon, cRow, cOnce, cBelow, Tryz.results6, eM, hM, hR, eP, hO, ho, hZ, hz, hJ, hB, hV, rvM, iL_sn, iL_asc2])))
    all_goals first | rfl | skip
 ·rw [if_neg hp] at hU
  have eP : decide ((M.1.2.1.length : Int) > 0) = false := decide_eq_false (by omega)
  subst hU
  clear k3
  cases hz : Z.1
  ·rw [if_neg (by decide)]
   (repeat' (first | (refine gate_a fun _ => ?_) | (refine fork_intro (fun hb => ?_) (fun hb => ?_) <;> (try simp only [ew, eM, hM, hR, eP, hZ, hz, rvM] at hb)) | (simp only [go_sem, Nat.reduceLeDiff, Nat.reduceEqDiff, reduceIte, reduceCtorEq, Nat.reduceAdd, Nat.reduceMul, Nat.reduceSub, Nat.reduceLT, Int.reduceLT, Int.reduceLE, Int.reduceNeg, Int.reduceToNat, Nat.reduceBEq, Nat.reduceBNe, Int.reduceGE, Int.reduceGT, *, cDIns, cNewC, cMon, cRow, cOnce, cBelow, Tryz.results6, eM, hM, hR, eP, hZ, hz, rvM])))
   all_goals first | rfl | skip
  ·rw [if_pos rfl]
   (repeat' (first | (refine gate_a fun _ => ?_) | (refine fork_intro (fun hb => ?_) (fun hb => ?_) <;> (try simp only [ew, eM, hM, hR, eP, hZ, hz, rvM, iL_sn] at hb)) | (simp only [go_sem, Nat.reduceLeDiff, Nat.reduceEqDiff, reduceIte, reduceCtorEq, Nat.reduceAdd, Nat.reduceMul, Nat.reduceSub, Nat.reduceLT, Int.reduceLT, Int.reduceLE, Int.reduceNeg, Int.reduceToNat, Nat.reduceBEq, Nat.reduceBNe, Int.reduceGE, Int.reduceGT, *, cDIns, cNewC, cMon, cRow, cOnce, cBelow, Tryz.results6, eM, hM, hR, eP, hZ, hz, rvM, iL_sn])))
   all_goals first | rfl | skip
def cDNew : Contract := ⟨[], false, fun
 | [.one (.sl 1 l)] => some (WfB l ∧ l.length ≤ 1048576 ∧ ∀ b ∈ unB l, 0 ≤ b ∧ b ≤ 255, [⟨true, [.d (.v (.int .i64 (l4M (unB l) (newS (unB l))).1.1.1)), .own 1 (sL (l4M (unB l) (newS (unB l))).1.1.2) 1]⟩, ⟨false, [.d (.v (.int .i64 (l4M (unB l) (newS (unB l))).1.2))]⟩], [])
 | _ => none⟩
theorem dNew_ok : ContractOK E0 18 cDNew := by
 refine contract_of_wpc (E := E0) (T := mkT Tryz.prog [(40, cNewC), (60, cL4D)] false (fun _ => false) true (fun _ => false)) (mkT_ok (E := E0) (.cons newC_ok (.cons l4D_ok .nil))) (fn := Tryz.f18) Tryz.func18 (by kernel_rfl) rfl mixedT (by kernel_rfl) rfl ?_
 intro args p rs ms hr
 unfold cDNew at hr
 dsimp only at hr
 split at hr
 rotate_left
 ·cases hr
 rename_i l
 simp only [Option.some.injEq, Prod.mk.injEq] at hr
 obtain ⟨rfl, rfl, rfl⟩ := hr
 refine ⟨rfl, rfl, Nat.le_of_ble_eq_true rfl, ?_⟩
 have hm : maxLen = 9223372036854775807 := rfl
 rintro ⟨h1, h2, h3⟩ bs0
 obtain ⟨bs, rfl, hx⟩ := h1.ex
 clear h1
 rw [bL_length] at h2
 rw [unB_bL] at h3 ⊢
 obtain ⟨k1, k2, k3⟩ := @l4M_facts bs (newS bs)
 have eM : l4M bs (0, newH bs) = l4M bs (newS bs) := rfl
 generalize hM : l4M bs (newS bs) = M at *
 have m1 : M.1.1.2.length ≤ maxLen := Nat.le_trans k2 (by decide)
 have m2 : ∀ r ∈ M.1.1.2, r.length ≤ maxLen := fun r hr => by have := k3 r hr; omega
 clear k3
 (repeat' (first | (refine gate_a fun _ => ?_) | (refine fork_intro (fun hb => ?_) (fun hb => ?_) <;> (try simp only [ew, eM] at hb)) | (simp only [go_sem, Nat.reduceLeDiff, Nat.reduceEqDiff, reduceIte, reduceCtorEq, Nat.reduceAdd, Nat.reduceMul, Nat.reduceSub, Nat.reduceLT, Int.reduceLT, Int.reduceLE, Int.reduceNeg, Int.reduceToNat, Nat.reduceBEq, Nat.reduceBNe, Int.reduceGE, Int.reduceGT, *, cDNew, cNewC, cL4D, Tryz.results18, eM])))
 all_goals first | rfl | skip
def dSpc (bs : List Int) : List (Int × Int) × Cu :=
 let t := l4M bs (newS bs)
 let o := onceM 6 bs t.2
 if o.1 then dpsM 3 bs o.2 else (mdL t.1.1.1 t.1.1.2 t.1.2, o.2)
def dSpcL (bs : List Int) : List (Int × Int) := (dSpc bs).1
def dSpcC (bs : List Int) : Int := (l4M bs (newS bs)).1.1.1
def dSpcA (bs : List Int) : Int := (belowM 16 bs (dSpc bs).2).1
theorem dSpc_len {bs : List Int} : (dSpcL bs).length ≤ 160 := by
 unfold dSpcL dSpc
 dsimp only
 split
 ·unfold dpsM
  rw [dpsN_len]
  have := @belowM_range 5 bs (onceM 6 bs (l4M bs (newS bs)).2).2 (by decide)
  omega
 ·exact mdL_facts.1
def cDSpc : Contract := ⟨[], false, fun
 | [.one (.sl 1 l)] => some (WfB l ∧ l.length ≤ 1048576 ∧ ∀ b ∈ unB l, 0 ≤ b ∧ b ≤ 255, [⟨false, [.own 2 (dL (dSpcL (unB l))) 1]⟩, ⟨false, [.d (.v (.int .i64 (dSpcC (unB l))))]⟩, ⟨false, [.d (.v (.int .i64 (dSpcA (unB l))))]⟩], [])
 | _ => none⟩
theorem dSpc_ok : ContractOK E0 17 cDSpc := by
 refine contract_of_wpc (E := E0) (T := mkT Tryz.prog [(40, cNewC), (60, cL4D), (28, cMD), (43, cOnce), (61, cDps), (44, cBelow)] false (fun _ => false) true (fun d => d == 24 || d == 1000 || d == 1007)) (mkT_ok (E := E0) (.cons newC_ok (.cons l4D_ok (.cons mdS_ok (.cons once_ok (.cons dps_ok (.cons below_ok .nil))))))) (fn := Tryz.f17) Tryz.func17 (by kernel_rfl) rfl mixedT (by kernel_rfl) rfl ?_
 intro args p rs ms hr
 unfold cDSpc at hr
 dsimp only at hr
 split at hr
 rotate_left
 ·cases hr
 rename_i l
 simp only [Option.some.injEq, Prod.mk.injEq] at hr
 obtain ⟨rfl, rfl, rfl⟩ := hr
 refine ⟨rfl, rfl, Nat.le_of_ble_eq_true rfl, ?_⟩
 have hm : maxLen = 9223372036854775807 := rfl
 rintro ⟨h1, h2, h3⟩ bs0
 obtain ⟨bs, rfl, hx⟩ := h1.ex
 clear h1
 rw [bL_length] at h2
 rw [unB_bL] at h3 ⊢
 obtain ⟨k1, k2, k3⟩ := @l4M_facts bs (newS bs)
 have eM : l4M bs (0, newH bs) = l4M bs (newS bs) := rfl
 have eC : dSpcC bs = (l4M bs (newS bs)).1.1.1 := rfl
 have eA : (belowM 16 bs (dSpc bs).2).1 = dSpcA bs := rfl
 have eL : dSpcL bs = (dSpc bs).1 := rfl
 have hl := @dSpc_len bs
 rw [eL] at hl
 rw [eC, eL]
 clear eC eL
 have r1 := @belowM_range 16 bs (dSpc bs).2 (by decide)
 generalize hZ : dSpc bs = Z at *
 unfold dSpc at hZ
 dsimp only at hZ
 generalize hM : l4M bs (newS bs) = M at *
 have m1 : M.1.1.2.length ≤ maxLen := Nat.le_trans k2 (by decide)
 have m2 : ∀ r ∈ M.1.1.2, r.length ≤ maxLen := fun r hr => by have := k3 r hr; omega
 have h4 := (@mdL_facts M.1.1.1 M.1.1.2 M.1.2).1
 have m3 : (mdL M.1.1.1 M.1.1.2 M.1.2).length ≤ maxLen := Nat.le_trans h4 (by decide)
 have m4 : Z.1.length ≤ maxLen := Nat.le_trans hl (by decide)
 clear k3
 generalize hO : onceM 6 bs M.2 = O at *
 cases ho : O.1
 ·rw [ho, if_neg (by decide)] at hZ
  subst hZ
  (repeat' (first | (refine gate_a fun _ => ?_) | (refine fork_intro (fun hb => ?_) (fun hb => ?_) <;> (try simp only [ew, eM, hO, ho, eA] at hb)) | (simp only [go_sem, Nat.reduceLeDiff, Nat.reduceEqDiff, reduceIte, reduceCtorEq, Nat.reduceAdd, Nat.reduceMul, Nat.reduceSub, Nat.reduceLT, Int.reduceLT, Int.reduceLE, Int.reduceNeg, Int.reduceToNat, Nat.reduceBEq, Nat.reduceBNe, Int.reduceGE, Int.reduceGT, *, cDSpc, cNewC, cL4D, cMD, cOnce, cDps, cBelow, Tryz.results17, eM, hO, ho, eA])))
  all_goals first | rfl | skip
 ·rw [ho, if_pos rfl] at hZ
  (repeat' (first | (refine gate_a fun _ => ?_) | (refine fork_intro (fun hb => ?_) (fun hb => ?_) <;> (try simp only [ew, eM, hO, ho, hZ, eA] at hb)) | (simp only [go_sem, Nat.reduceLeDiff, Nat.reduceEqDiff, reduceIte, reduceCtorEq, Nat.reduceAdd, Nat.reduceMul, Nat.reduceSub, Nat.reduceLT, Int.reduceLT, Int.reduceLE, Int.reduceNeg, Int.reduceToNat, Nat.reduceBEq, Nat.reduceBNe, Int.reduceGE, Int.reduceGT, *, cDSpc, cNewC, cL4D, cMD, cOnce, cDps, cBelow, Tryz.results17, eM, hO, ho, hZ, eA])))
  all_goals first | rfl | skip
end Go.Own
/-
  The law of monitors. Conditions: as each theorem states them.
-/
namespace Go.Own
open Go Go.Proofs
attribute [local go_sem] tf1b ft1b unB_bL bL_length wfB_bL unD_dL dL_length dL_get dL_set dL_inj wfD_dL scal2 beq2 pair_eta
theorem insRow_len {bs : List Int} {rs : List (List Int)} {r : List Int} {s : Cu} (h1 : ∀ r ∈ rs, r.length ≤ 4) (h2 : r.length ≤ 4) : (insRow bs rs r s).1.length ≤ 4 := by
 unfold insRow
 split
 ·rename_i hp
  dsimp only
  split
  ·dsimp only
   rw [List.length_set]
   have q1 := @belowM_range rs.length bs (onceM 2 bs s).2 (by omega)
   exact h1 _ (getD_mem (by omega) [])
  ·exact h2
 ·exact h2
theorem dInsR_len {bs : List Int} : (dInsR bs).length ≤ 5 := by
 obtain ⟨k1, k2, k3, k4⟩ := @monM_facts bs (newS bs)
 have h1 : ∀ r ∈ (dMon bs).1.2.1, r.length ≤ 4 := fun r hr => by have := k3 r hr; unfold dMon at *; omega
 have h2 : (rowM 4 (dMon bs).1.1.toNat bs (dMon bs).2).1.length ≤ 4 := by rw [rowM_len]; unfold dMon; omega
 have := @insRow_len bs _ _ (rowM 4 (dMon bs).1.1.toNat bs (dMon bs).2).2 h1 h2
 unfold dInsR
 dsimp only
 split
 ·rw [List.length_append]; simp; omega
 ·omega
theorem spcF_len2 {n ag : Int} {ds : List (Int × Int)} : (spcF n ag ds).length ≤ 5 * ds.length := by
 unfold spcF
 cases hv : spcV n ag
 ·rw [if_neg (by decide)]; omega
 ·rw [if_pos rfl]
  unfold spcV at hv
  rw [Bool.and_eq_true] at hv
  have h1 := (@spcL_facts n ag (isAttr_le hv.2).2.1 ds).1
  have h2 := List.length_filter_le (fun d => (Lib.compact (srtD (spcL n ag ds))).all (lowT d)) (Lib.compact (srtD (spcL n ag ds)))
  have h3 := Lib.compact_length_le (srtD (spcL n ag ds))
  have h4 := @srtD_length (spcL n ag ds)
  unfold spcM
  omega
def mB1 (bs : List Int) : Bool := insV (dMon bs).1.1 (dMon bs).1.2.1 (dMon bs).1.2.2.1 (dMon bs).1.2.2.2 (dInsR bs)
def mB2 (bs : List Int) : Bool := delV (dMon bs).1.1 (dMon bs).1.2.1 (dMon bs).1.2.2.1 (dMon bs).1.2.2.2 (dDelA bs)
end Go.Own
