/-
  The law of minimal dependencies. Conditions: as each theorem states them.
-/
import Derived.Test.YtlliofolbiebmaaGreatOwnA8
import Derived.Test.YtlliofolbiebmaaGreatOwnLt
set_option linter.unusedSimpArgs false
set_option linter.unusedVariables false
set_option maxRecDepth 20000
set_option maxHeartbeats 8000000
namespace Go.Own
open Go Go.Proofs
attribute [local go_sem] tf1b ft1b cuO rI rB cuP unB_bL bL_length wfB_bL unD_dL dL_length dL_get dL_set dL_inj wfD_dL scal2 beq2 pair_eta
def cLawT2 : Contract := ⟨[], false, fun
 | [.one (.sl 1 l)] => some ((WfB l ∧ ∀ b ∈ unB l, 0 ≤ b ∧ b ≤ 255) ∧ 20 < (tW (unB l)).length, [⟨false, [.d (.v (.bool true))]⟩], [])
 | _ => none⟩
theorem lawT_2 : ContractOK E0 3 cLawT2 := by
 refine contract_of_wpc (E := E0) (T := mkT Tryz.prog [(4, cBig), (5, cDMd), (6, cIsTableS), (7, cMD), (8, cMD), (9, cNewS), (10, cRunS), (11, cEqDepS), (12, cDt), (14, cAgs), (13, cDag), (15, cSset), (16, cWit), (17, cImp), (18, cAo), (19, cArm), (20, cNewM), (21, cAt), (22, cIns), (23, cDel), (24, cUpd)] false (fun _ => false) true (fun d => d == 999 || d == 3 || d == 7 || d == 17 || d == 20 || d == 72 || d == 83 || d == 143 || d == 235 || d == 267 || d == 269)) (mkT_ok (E := E0) (.cons big_ok (.cons dMd_ok (.cons isTableS_ok (.cons mdI_ok (.cons mdS_ok (.cons newS_ok (.cons runS_ok (.cons sameDepsS_ok (.cons dt_ok (.cons agsI_ok (.cons dagI_ok (.cons sset_ok (.cons witI_ok (.cons impI_ok (.cons ao_ok (.cons armI_ok (.cons newMI_ok (.cons at_ok (.cons insI_ok (.cons delI_ok (.cons updI_ok .nil)))))))))))))))))))))) (fn := Tryz.f3) Tryz.func3 (by kernel_rfl) rfl mixedT (by kernel_rfl) rfl ?_
 intro args p rs ms hr
 unfold cLawT2 at hr
 dsimp only at hr
 split at hr
 rotate_left
 ·cases hr
 rename_i l
 simp only [Option.some.injEq, Prod.mk.injEq] at hr
 obtain ⟨rfl, rfl, rfl⟩ := hr
 refine ⟨rfl, rfl, Nat.le_of_ble_eq_true rfl, ?_⟩
 have hm : maxLen = 9223372036854775807 := rfl
 rintro ⟨⟨h1, h3⟩, g1⟩ bs0
 obtain ⟨bs, rfl, hx⟩ := h1.ex
 clear h1
 rw [unB_bL] at h3 g1
 by_cases hbig : bs.length > 1048576
 ·clear g1
  (repeat' (first | (refine gate_a fun _ => ?_) | (refine fork_intro (fun hb => ?_) (fun hb => ?_) <;> (try simp only [ew] at hb)) | (simp only [go_sem, Nat.reduceLeDiff, Nat.reduceEqDiff, reduceIte, reduceCtorEq, Nat.reduceAdd, Nat.reduceMul, Nat.reduceSub, Nat.reduceLT, Int.reduceLT, Int.reduceLE, Int.reduceNeg, Int.reduceToNat, Nat.reduceBEq, Nat.reduceBNe, Int.reduceGE, Int.reduceGT, *, cLawT2, cBig, cDMd, cIsTableS, cMD, cNewS, cRunS, cEqDepS, cDt, cAgs, cDag, cSset, cWit, cImp, cAo, cArm, cNewM, cAt, cIns, cDel, cUpd, Tryz.results3])))
  all_goals first | rfl | contradiction | skip
 ·have hb2 : bs.length ≤ 1048576 := by omega
  have hat := fun i => @atF_range bs i h3
  obtain ⟨⟨c1, c2⟩, k2, k3⟩ := @l4M_facts bs (newS bs)
  unfold tW at g1
  generalize hT : l4M bs (newS bs) = T at *
  generalize hrs : T.1.1.2 = rs at *
  generalize hm0 : T.1.2 = m at *
  generalize hc : T.1.1.1 = c at *
  have m1 : rs.length ≤ maxLen := Nat.le_trans k2 (by decide)
  have m2 : ∀ r ∈ rs, r.length ≤ maxLen := fun r hr => by have := k3 r hr; omega
  clear k3
  cases ht : tabOK c rs
  ·clear g1 hat
   (repeat' (first | (refine gate_a fun _ => ?_) | (refine fork_intro (fun hb => ?_) (fun hb => ?_) <;> (try simp only [ew, hT, hrs, hm0, hc, ht] at hb)) | (simp only [go_sem, Nat.reduceLeDiff, Nat.reduceEqDiff, reduceIte, reduceCtorEq, Nat.reduceAdd, Nat.reduceMul, Nat.reduceSub, Nat.reduceLT, Int.reduceLT, Int.reduceLE, Int.reduceNeg, Int.reduceToNat, Nat.reduceBEq, Nat.reduceBNe, Int.reduceGE, Int.reduceGT, *, cLawT2, cBig, cDMd, cIsTableS, cMD, cNewS, cRunS, cEqDepS, cDt, cAgs, cDag, cSset, cWit, cImp, cAo, cArm, cNewM, cAt, cIns, cDel, cUpd, Tryz.results3, hT, hrs, hm0, hc, ht])))
   all_goals first | rfl | skip
  ·cases hm : modeOK m
   ·clear g1 hat
    have hm' : ¬ (m = 0 ∨ m = 1) := by
     unfold modeOK at hm
     rintro (rfl | rfl) <;> cases hm
    by_cases hA : m < 0
    ·have d1 := decide_eq_true hA
     (repeat' (first | (refine gate_a fun _ => ?_) | (refine fork_intro (fun hb => ?_) (fun hb => ?_) <;> (try simp only [ew, hT, hrs, hm0, hc, ht, d1] at hb)) | (simp only [go_sem, Nat.reduceLeDiff, Nat.reduceEqDiff, reduceIte, reduceCtorEq, Nat.reduceAdd, Nat.reduceMul, Nat.reduceSub, Nat.reduceLT, Int.reduceLT, Int.reduceLE, Int.reduceNeg, Int.reduceToNat, Nat.reduceBEq, Nat.reduceBNe, Int.reduceGE, Int.reduceGT, *, cLawT2, cBig, cDMd, cIsTableS, cMD, cNewS, cRunS, cEqDepS, cDt, cAgs, cDag, cSset, cWit, cImp, cAo, cArm, cNewM, cAt, cIns, cDel, cUpd, Tryz.results3, hT, hrs, hm0, hc, ht, d1])))
     all_goals first | rfl | skip
    ·have d1 := decide_eq_false hA
     have d2 : decide (m > 1) = true := decide_eq_true (by omega)
     (repeat' (first | (refine gate_a fun _ => ?_) | (refine fork_intro (fun hb => ?_) (fun hb => ?_) <;> (try simp only [ew, hT, hrs, hm0, hc, ht, d1, d2] at hb)) | (simp only [go_sem, Nat.reduceLeDiff, Nat.reduceEqDiff, reduceIte, reduceCtorEq, Nat.reduceAdd, Nat.reduceMul, Nat.reduceSub, Nat.reduceLT, Int.reduceLT, Int.reduceLE, Int.reduceNeg, Int.reduceToNat, Nat.reduceBEq, Nat.reduceBNe, Int.reduceGE, Int.reduceGT, *, cLawT2, cBig, cDMd, cIsTableS, cMD, cNewS, cRunS, cEqDepS, cDt, cAgs, cDag, cSset, cWit, cImp, cAo, cArm, cNewM, cAt, cIns, cDel, cUpd, Tryz.results3, hT, hrs, hm0, hc, ht, d1, d2])))
     all_goals first | rfl | skip
   ·have hm' : m = 0 ∨ m = 1 := by
     unfold modeOK at hm
     simpa using hm
    have d1 : decide (m < 0) = false := decide_eq_false (by omega)
    have d2 : decide (m > 1) = false := decide_eq_false (by omega)
    obtain ⟨n, rfl, n1, n5, h40, _⟩ := tab_rows ht
    have hn : 1 ≤ n ∧ n ≤ 5 := ⟨n1, n5⟩
    have hn' : (1 : Int) ≤ (n : Int) ∧ (n : Int) ≤ 5 := by omega
    have hCand := fun x r hx hr => @cand_1 n rs m hn ht hm x r hx hr
    have hDt := dt_md hn ht hm
    have hDag := dag_md ht hm
    obtain ⟨hS1, hS2⟩ := srI_md hn ht hm
    have hNew := isM_new ht hm
    obtain ⟨w1, w2⟩ := @mdL_facts n rs m
    have hq1 : nsC (n : Int) rs m = n := by unfold nsC; rw [ht, hm]; rfl
    have hq2 : nsL (n : Int) rs m = rs := by unfold nsL; rw [ht, hm]; rfl
    have hq3 : nsM (n : Int) rs m = m := by unfold nsM; rw [ht, hm]; rfl
    have hq4 : nmC (n : Int) rs m = n := by unfold nmC nmB; rw [ht, hm]; rfl
    have hq5 : nmR (n : Int) rs m = rs := by unfold nmR nmB; rw [ht, hm]; rfl
    have hq6 : nmM (n : Int) rs m = m := by unfold nmM nmB; rw [ht, hm]; rfl
    have hq7 : nmB (n : Int) rs m = true := by unfold nmB; rw [ht, hm]; rfl
    have htm : (tabOK (n : Int) rs && modeOK m) = true := by rw [ht, hm]; rfl
    generalize hW : mdL n rs m = W at *
    have hWW : (W == W) = true := by simp
    have hWf : WfD [] := by
     have h : WfD (dL []) := by simp only [wfD_dL, List.length_nil]; exact Nat.zero_le _
     exact h
    have hAl : (agsF (n : Int) rs m).length ≤ maxLen := Nat.le_trans (@ags_len n rs m) (by decide)
    have hl20 : decide (((W.length : Nat) : Int) ≤ 20) = false := decide_eq_false (by omega)
    have hSa : (srI n rs m (n * 2 ^ n)).1.all (fun d => W.contains d) = true := by
     rw [List.all_eq_true]
     intro d hd
     rw [List.contains_iff_mem]
     exact (hS1 d).1 hd
    have hSl : (((srI n rs m (n * 2 ^ n)).1.length : Int) == (W.length : Int)) = true := by rw [hS2]; simp
    obtain ⟨z1, z2, _⟩ := @srI_facts n rs m hn (n * 2 ^ n) (Nat.le_refl _)
    have hcb := cnt_bound hn.2
    have z3 : (srI n rs m (n * 2 ^ n)).1.length ≤ maxLen := Nat.le_trans (show (srI n rs m (n * 2 ^ n)).1.length ≤ 160 by omega) (by decide)
    generalize hZ : srI n rs m (n * 2 ^ n) = Z at *
    have w3 : W.length ≤ maxLen := Nat.le_trans w1 (by decide)
    have h32 : 1 ≤ (2 : Int) ^ n ∧ (2 : Int) ^ n ≤ 32 := by
     have : n = 1 ∨ n = 2 ∨ n = 3 ∨ n = 4 ∨ n = 5 := by omega
     rcases this with rfl | rfl | rfl | rfl | rfl <;> decide
    have hM2 : ((2 ^ n : Nat) : Int) = (2 : Int) ^ n := by simp
    generalize hM : 2 ^ n = M at hM2 hCand hZ
    clear hS1 hS2 w2
    (repeat' (first | (refine gate_a fun _ => ?_) | (refine fork_intro (fun hb => ?_) (fun hb => ?_) <;> (try simp only [ew, hT, hrs, hm0, hc, ht, hm, htm, d1, d2, hW, hWW, hDt, hDag, hZ, hSa, hSl, hq1, hq2, hq3, hq4, hq5, hq6, hq7] at hb)) | (simp only [go_sem, Nat.reduceLeDiff, Nat.reduceEqDiff, reduceIte, reduceCtorEq, Nat.reduceAdd, Nat.reduceMul, Nat.reduceSub, Nat.reduceLT, Int.reduceLT, Int.reduceLE, Int.reduceNeg, Int.reduceToNat, Nat.reduceBEq, Nat.reduceBNe, Int.reduceGE, Int.reduceGT, *, cLawT2, cBig, cDMd, cIsTableS, cMD, cNewS, cRunS, cEqDepS, cDt, cAgs, cDag, cSset, cWit, cImp, cAo, cArm, cNewM, cAt, cIns, cDel, cUpd, Tryz.results3, hT, hrs, hm0, hc, ht, hm, htm, d1, d2, hW, hWW, hDt, hDag, hZ, hSa, hSl, hq1, hq2, hq3, hq4, hq5, hq6, hq7])))
    refine loop_intro { ι := Nat, rs := [(2, 3), (10, 15), (89, 171)], mods := [(9, fun x => .one (.d (.v (.int .i64 x))))], boxes := [(3, fun _ => [.d (.v (.int .i64 n)), .own 1 (sL rs) 1])], arrs := [(6, fun _ => (2, dL W, 1))], ok := fun x => x ≤ M, mu := fun x => M - x } rfl 0 (Nat.zero_le _) ?_ fun x hx => ?_
    ·clear hCand hat
     (repeat' (first | (refine gate_a fun _ => ?_) | (refine fork_intro (fun hb => ?_) (fun hb => ?_) <;> (try simp only [ew] at hb)) | (simp only [go_sem, Nat.reduceLeDiff, Nat.reduceEqDiff, reduceIte, reduceCtorEq, Nat.reduceAdd, Nat.reduceMul, Nat.reduceSub, Nat.reduceLT, Int.reduceLT, Int.reduceLE, Int.reduceNeg, Int.reduceToNat, Nat.reduceBEq, Nat.reduceBNe, Int.reduceGE, Int.reduceGT, *, cLawT2, cBig, cDMd, cIsTableS, cMD, cNewS, cRunS, cEqDepS, cDt, cAgs, cDag, cSset, cWit, cImp, cAo, cArm, cNewM, cAt, cIns, cDel, cUpd, Tryz.results3])))
     all_goals first | rfl | skip
    ·dsimp only at x hx
     by_cases h5 : x < M
     ·have hC1 := fun r hr => hCand x r h5 hr
      have hle : decide (((x : Nat) : Int) < 1 * 2 ^ n) = true := decide_eq_true (by omega)
      have hx31 : x ≤ 31 := by omega
      refine round_let ?_
      intro Qx sx
      have s4 : sx.sl 4 = .one (.d (.v (.int .i64 m))) := by simp only [sx, go_sem, Nat.reduceLeDiff, Nat.reduceEqDiff, reduceIte, reduceCtorEq, Nat.reduceAdd, Nat.reduceMul, Nat.reduceSub, Nat.reduceLT, Int.reduceLT, Int.reduceLE, Int.reduceNeg, Int.reduceToNat, Nat.reduceBEq, Nat.reduceBNe, Int.reduceGE, Int.reduceGT]
      clear_value sx
      clear hCand hat
      (repeat' (first | (refine gate_a fun _ => ?_) | (refine fork_intro (fun hb => ?_) (fun hb => ?_) <;> (try simp only [ew, hle] at hb)) | (simp only [go_sem, Nat.reduceLeDiff, Nat.reduceEqDiff, reduceIte, reduceCtorEq, Nat.reduceAdd, Nat.reduceMul, Nat.reduceSub, Nat.reduceLT, Int.reduceLT, Int.reduceLE, Int.reduceNeg, Int.reduceToNat, Nat.reduceBEq, Nat.reduceBNe, Int.reduceGE, Int.reduceGT, *, cLawT2, cBig, cDMd, cIsTableS, cMD, cNewS, cRunS, cEqDepS, cDt, cAgs, cDag, cSset, cWit, cImp, cAo, cArm, cNewM, cAt, cIns, cDel, cUpd, Tryz.results3, hle])))
      refine loop_intro { ι := Nat, rs := [(2, 3), (11, 15), (96, 171)], mods := [(10, fun r => .one (.d (.v (.int .i64 r))))], boxes := [(3, fun _ => [.d (.v (.int .i64 n)), .own 1 (sL rs) 1])], arrs := [(6, fun _ => (2, dL W, 1))], ok := fun r => r ≤ n, mu := fun r => n - r } rfl 0 (Nat.zero_le _) ?_ fun r hr => ?_
      ·clear hC1
       (repeat' (first | (refine gate_a fun _ => ?_) | (refine fork_intro (fun hb => ?_) (fun hb => ?_) <;> (try simp only [ew] at hb)) | (simp only [go_sem, Nat.reduceLeDiff, Nat.reduceEqDiff, reduceIte, reduceCtorEq, Nat.reduceAdd, Nat.reduceMul, Nat.reduceSub, Nat.reduceLT, Int.reduceLT, Int.reduceLE, Int.reduceNeg, Int.reduceToNat, Nat.reduceBEq, Nat.reduceBNe, Int.reduceGE, Int.reduceGT, *, cLawT2, cBig, cDMd, cIsTableS, cMD, cNewS, cRunS, cEqDepS, cDt, cAgs, cDag, cSset, cWit, cImp, cAo, cArm, cNewM, cAt, cIns, cDel, cUpd, Tryz.results3])))
       all_goals first | rfl | skip
      ·dsimp only at r hr
       by_cases h6 : r < n
       ·have hC2 := hC1 r h6
        clear hC1
        have h16 := p5 (c := r) (by omega)
        have hr4 : r ≤ 4 := by omega
        have hr6 : ((r : Nat) : Int) < ((n : Nat) : Int) := by omega
        cases hw : wtR n rs m x r with
        | none =>
         generalize hI : impB n W x r = bI
         have e1 : (none : Option (Nat × Nat)).isSome = false := rfl
         clear hC2
         cases bI
         ·(repeat' (first | (refine gate_a fun _ => ?_) | (refine fork_intro (fun hb => ?_) (fun hb => ?_) <;> (try simp only [ew, hw, hI, e1] at hb)) | (simp only [go_sem, Nat.reduceLeDiff, Nat.reduceEqDiff, reduceIte, reduceCtorEq, Nat.reduceAdd, Nat.reduceMul, Nat.reduceSub, Nat.reduceLT, Int.reduceLT, Int.reduceLE, Int.reduceNeg, Int.reduceToNat, Nat.reduceBEq, Nat.reduceBNe, Int.reduceGE, Int.reduceGT, *, cLawT2, cBig, cDMd, cIsTableS, cMD, cNewS, cRunS, cEqDepS, cDt, cAgs, cDag, cSset, cWit, cImp, cAo, cArm, cNewM, cAt, cIns, cDel, cUpd, Tryz.results3, hw, hI, e1])))
          refine loop_next (r + 1) (by dsimp only; omega) (by dsimp only; omega) ?_
          (repeat' (first | (refine gate_a fun _ => ?_) | (refine fork_intro (fun hb => ?_) (fun hb => ?_) <;> (try simp only [ew] at hb)) | (simp only [go_sem, Nat.reduceLeDiff, Nat.reduceEqDiff, reduceIte, reduceCtorEq, Nat.reduceAdd, Nat.reduceMul, Nat.reduceSub, Nat.reduceLT, Int.reduceLT, Int.reduceLE, Int.reduceNeg, Int.reduceToNat, Nat.reduceBEq, Nat.reduceBNe, Int.reduceGE, Int.reduceGT, *, cLawT2, cBig, cDMd, cIsTableS, cMD, cNewS, cRunS, cEqDepS, cDt, cAgs, cDag, cSset, cWit, cImp, cAo, cArm, cNewM, cAt, cIns, cDel, cUpd, Tryz.results3])))
         ·(repeat' (first | (refine gate_a fun _ => ?_) | (refine fork_intro (fun hb => ?_) (fun hb => ?_) <;> (try simp only [ew, hw, hI, e1] at hb)) | (simp only [go_sem, Nat.reduceLeDiff, Nat.reduceEqDiff, reduceIte, reduceCtorEq, Nat.reduceAdd, Nat.reduceMul, Nat.reduceSub, Nat.reduceLT, Int.reduceLT, Int.reduceLE, Int.reduceNeg, Int.reduceToNat, Nat.reduceBEq, Nat.reduceBNe, Int.reduceGE, Int.reduceGT, *, cLawT2, cBig, cDMd, cIsTableS, cMD, cNewS, cRunS, cEqDepS, cDt, cAgs, cDag, cSset, cWit, cImp, cAo, cArm, cNewM, cAt, cIns, cDel, cUpd, Tryz.results3, hw, hI, e1])))
          refine loop_next (r + 1) (by dsimp only; omega) (by dsimp only; omega) ?_
          (repeat' (first | (refine gate_a fun _ => ?_) | (refine fork_intro (fun hb => ?_) (fun hb => ?_) <;> (try simp only [ew] at hb)) | (simp only [go_sem, Nat.reduceLeDiff, Nat.reduceEqDiff, reduceIte, reduceCtorEq, Nat.reduceAdd, Nat.reduceMul, Nat.reduceSub, Nat.reduceLT, Int.reduceLT, Int.reduceLE, Int.reduceNeg, Int.reduceToNat, Nat.reduceBEq, Nat.reduceBNe, Int.reduceGE, Int.reduceGT, *, cLawT2, cBig, cDMd, cIsTableS, cMD, cNewS, cRunS, cEqDepS, cDt, cAgs, cDag, cSset, cWit, cImp, cAo, cArm, cNewM, cAt, cIns, cDel, cUpd, Tryz.results3])))
        | some q =>
         obtain ⟨q1, q2, q3, q4⟩ := wtR_some hw
         obtain ⟨i, k⟩ := q
         dsimp only at q1 q2 q3 q4
         generalize hI : impB n W x r = bI
         have e1 : (some (i, k) : Option (Nat × Nat)).isSome = true := rfl
         have e2 : (prI (some (i, k))).1 = (i : Int) := rfl
         have e3 : (prI (some (i, k))).2 = (k : Int) := rfl
         clear hC2
         have hA := @agL_range m (rs.getD i []) (rs.getD k []) n n5
         generalize hAg : agL m (rs.getD i []) (rs.getD k []) n = A at *
         have q3' : (bitI .and .i64 A (x : Nat) != ((x : Nat) : Int)) = false := by unfold bne; rw [q3]; rfl
         have eh : (bitI .and .i64 (A.fdiv (2 ^ r)) 1 == 1) = hasB A (r : Nat) := by unfold hasB; rw [Int.toNat_natCast]
         have l1 : decide (((i : Nat) : Int) < 0) = false := decide_eq_false (by omega)
         have l2 : decide (((k : Nat) : Int) ≤ ((i : Nat) : Int)) = false := decide_eq_false (by omega)
         have l3 : decide (((k : Nat) : Int) ≥ (rs.length : Int)) = false := decide_eq_false (by omega)
         have l4 : decide (k ≤ i) = false := decide_eq_false (by omega)
         have l5 : decide (rs.length ≤ k) = false := decide_eq_false (by omega)
         have l6 : i < rs.length := by omega
         clear q3 l2 l3
         cases bI
         ·(repeat' (first | (refine gate_a fun _ => ?_) | (refine fork_intro (fun hb => ?_) (fun hb => ?_) <;> (try simp only [ew, hw, hI, e1, e2, e3, hAg, q3', eh, q4, l1, l4, l5, htm, bits64] at hb)) | (simp only [go_sem, Nat.reduceLeDiff, Nat.reduceEqDiff, reduceIte, reduceCtorEq, Nat.reduceAdd, Nat.reduceMul, Nat.reduceSub, Nat.reduceLT, Int.reduceLT, Int.reduceLE, Int.reduceNeg, Int.reduceToNat, Nat.reduceBEq, Nat.reduceBNe, Int.reduceGE, Int.reduceGT, *, cLawT2, cBig, cDMd, cIsTableS, cMD, cNewS, cRunS, cEqDepS, cDt, cAgs, cDag, cSset, cWit, cImp, cAo, cArm, cNewM, cAt, cIns, cDel, cUpd, Tryz.results3, hw, hI, e1, e2, e3, hAg, q3', eh, q4, l1, l4, l5, htm, bits64])))
          refine loop_next (r + 1) (by dsimp only; omega) (by dsimp only; omega) ?_
          (repeat' (first | (refine gate_a fun _ => ?_) | (refine fork_intro (fun hb => ?_) (fun hb => ?_) <;> (try simp only [ew] at hb)) | (simp only [go_sem, Nat.reduceLeDiff, Nat.reduceEqDiff, reduceIte, reduceCtorEq, Nat.reduceAdd, Nat.reduceMul, Nat.reduceSub, Nat.reduceLT, Int.reduceLT, Int.reduceLE, Int.reduceNeg, Int.reduceToNat, Nat.reduceBEq, Nat.reduceBNe, Int.reduceGE, Int.reduceGT, *, cLawT2, cBig, cDMd, cIsTableS, cMD, cNewS, cRunS, cEqDepS, cDt, cAgs, cDag, cSset, cWit, cImp, cAo, cArm, cNewM, cAt, cIns, cDel, cUpd, Tryz.results3])))
         ·(repeat' (first | (refine gate_a fun _ => ?_) | (refine fork_intro (fun hb => ?_) (fun hb => ?_) <;> (try simp only [ew, hw, hI, e1, e2, e3, hAg, q3', eh, q4, l1, l4, l5, htm, bits64] at hb)) | (simp only [go_sem, Nat.reduceLeDiff, Nat.reduceEqDiff, reduceIte, reduceCtorEq, Nat.reduceAdd, Nat.reduceMul, Nat.reduceSub, Nat.reduceLT, Int.reduceLT, Int.reduceLE, Int.reduceNeg, Int.reduceToNat, Nat.reduceBEq, Nat.reduceBNe, Int.reduceGE, Int.reduceGT, *, cLawT2, cBig, cDMd, cIsTableS, cMD, cNewS, cRunS, cEqDepS, cDt, cAgs, cDag, cSset, cWit, cImp, cAo, cArm, cNewM, cAt, cIns, cDel, cUpd, Tryz.results3, hw, hI, e1, e2, e3, hAg, q3', eh, q4, l1, l4, l5, htm, bits64])))
          refine loop_next (r + 1) (by dsimp only; omega) (by dsimp only; omega) ?_
          (repeat' (first | (refine gate_a fun _ => ?_) | (refine fork_intro (fun hb => ?_) (fun hb => ?_) <;> (try simp only [ew] at hb)) | (simp only [go_sem, Nat.reduceLeDiff, Nat.reduceEqDiff, reduceIte, reduceCtorEq, Nat.reduceAdd, Nat.reduceMul, Nat.reduceSub, Nat.reduceLT, Int.reduceLT, Int.reduceLE, Int.reduceNeg, Int.reduceToNat, Nat.reduceBEq, Nat.reduceBNe, Int.reduceGE, Int.reduceGT, *, cLawT2, cBig, cDMd, cIsTableS, cMD, cNewS, cRunS, cEqDepS, cDt, cAgs, cDag, cSset, cWit, cImp, cAo, cArm, cNewM, cAt, cIns, cDel, cUpd, Tryz.results3])))
       ·have e6 : r = n := by omega
        subst e6
        clear hC1
        (repeat' (first | (refine gate_a fun _ => ?_) | (refine fork_intro (fun hb => ?_) (fun hb => ?_) <;> (try simp only [ew] at hb)) | (simp only [go_sem, Nat.reduceLeDiff, Nat.reduceEqDiff, reduceIte, reduceCtorEq, Nat.reduceAdd, Nat.reduceMul, Nat.reduceSub, Nat.reduceLT, Int.reduceLT, Int.reduceLE, Int.reduceNeg, Int.reduceToNat, Nat.reduceBEq, Nat.reduceBNe, Int.reduceGE, Int.reduceGT, *, cLawT2, cBig, cDMd, cIsTableS, cMD, cNewS, cRunS, cEqDepS, cDt, cAgs, cDag, cSset, cWit, cImp, cAo, cArm, cNewM, cAt, cIns, cDel, cUpd, Tryz.results3])))
        refine loop_next (x + 1) (by dsimp only; omega) (by dsimp only; omega) ?_
        (repeat' (first | (refine gate_a fun _ => ?_) | (refine fork_intro (fun hb => ?_) (fun hb => ?_) <;> (try simp only [ew] at hb)) | (simp only [go_sem, Nat.reduceLeDiff, Nat.reduceEqDiff, reduceIte, reduceCtorEq, Nat.reduceAdd, Nat.reduceMul, Nat.reduceSub, Nat.reduceLT, Int.reduceLT, Int.reduceLE, Int.reduceNeg, Int.reduceToNat, Nat.reduceBEq, Nat.reduceBNe, Int.reduceGE, Int.reduceGT, *, cLawT2, cBig, cDMd, cIsTableS, cMD, cNewS, cRunS, cEqDepS, cDt, cAgs, cDag, cSset, cWit, cImp, cAo, cArm, cNewM, cAt, cIns, cDel, cUpd, Tryz.results3])))
     ·have e5 : x = M := by omega
      subst e5
      have hle : decide (((x : Nat) : Int) < 1 * 2 ^ n) = false := decide_eq_false (by omega)
      clear hCand hM hM2
      (repeat' (first | (refine gate_a fun _ => ?_) | (refine fork_intro (fun hb => ?_) (fun hb => ?_) <;> (try simp only [ew, hle, hWW] at hb)) | (simp only [go_sem, Nat.reduceLeDiff, Nat.reduceEqDiff, reduceIte, reduceCtorEq, Nat.reduceAdd, Nat.reduceMul, Nat.reduceSub, Nat.reduceLT, Int.reduceLT, Int.reduceLE, Int.reduceNeg, Int.reduceToNat, Nat.reduceBEq, Nat.reduceBNe, Int.reduceGE, Int.reduceGT, *, cLawT2, cBig, cDMd, cIsTableS, cMD, cNewS, cRunS, cEqDepS, cDt, cAgs, cDag, cSset, cWit, cImp, cAo, cArm, cNewM, cAt, cIns, cDel, cUpd, Tryz.results3, hle, hWW])))
      refine loop_intro { ι := Nat × List (List Int) × List (Int × Int), rs := [(2, 3), (20, 23), (196, 276)], mods := [(19, fun z => .one (.d (.v (.int .i64 ((z.1 : Nat) : Int)))))], boxes := [(3, fun _ => [.d (.v (.int .i64 n)), .own 1 (sL rs) 1]), (17, fun z => [.d (.v (.int .i64 n)), .d (.sl 1 (sL z.2.1)), .d (.v (.int .i64 m)), .d (.sl 2 (dL z.2.2))])], arrs := [], ok := fun z => z.1 ≤ 4 ∧ isM n z.2.1 m z.2.2 = true, mu := fun z => 4 - z.1 } rfl (0, rs, W) ⟨Nat.zero_le _, hNew⟩ ?_ fun z hz => ?_
      ·clear hat
       (repeat' (first | (refine gate_a fun _ => ?_) | (refine fork_intro (fun hb => ?_) (fun hb => ?_) <;> (try simp only [ew] at hb)) | (simp only [go_sem, Nat.reduceLeDiff, Nat.reduceEqDiff, reduceIte, reduceCtorEq, Nat.reduceAdd, Nat.reduceMul, Nat.reduceSub, Nat.reduceLT, Int.reduceLT, Int.reduceLE, Int.reduceNeg, Int.reduceToNat, Nat.reduceBEq, Nat.reduceBNe, Int.reduceGE, Int.reduceGT, *, cLawT2, cBig, cDMd, cIsTableS, cMD, cNewS, cRunS, cEqDepS, cDt, cAgs, cDag, cSset, cWit, cImp, cAo, cArm, cNewM, cAt, cIns, cDel, cUpd, Tryz.results3])))
       all_goals first | rfl | skip
      ·obtain ⟨i, X, Y⟩ := z
       dsimp only at hz
       obtain ⟨hi, hM1⟩ := hz
       obtain ⟨x1, x2, x3, x4⟩ := isM_small hM1
       have x5 : X.length ≤ maxLen := Nat.le_trans x1 (by decide)
       have x6 : ∀ r ∈ X, r.length ≤ maxLen := fun r hr => by have := x2 r hr; omega
       have x7 : Y.length ≤ maxLen := Nat.le_trans x3 (by decide)
       by_cases h6 : i < 4
       ·obtain ⟨f, hf⟩ : ∃ f : Nat → Int, ∀ k : Nat, f k = (atF bs (5 * ((i : Nat) : Int) + ((k : Nat) : Int)).toNat).tmod 4 - 1 := ⟨_, fun _ => rfl⟩
        have hlt4 : decide (((i : Nat) : Int) < 4) = true := decide_eq_true (by omega)
        have eS := fun k => @rowA_succ f k
        have e0 : iL (rowA f 0) = [] := rfl
        refine round_let ?_
        intro Qx sx
        have s4 : sx.sl 4 = .one (.d (.v (.int .i64 m))) := by simp only [sx, go_sem, Nat.reduceLeDiff, Nat.reduceEqDiff, reduceIte, reduceCtorEq, Nat.reduceAdd, Nat.reduceMul, Nat.reduceSub, Nat.reduceLT, Int.reduceLT, Int.reduceLE, Int.reduceNeg, Int.reduceToNat, Nat.reduceBEq, Nat.reduceBNe, Int.reduceGE, Int.reduceGT]
        have s0 : sx.sl 0 = .one (.d (.sl 1 (bL bs))) := by simp only [sx, go_sem, Nat.reduceLeDiff, Nat.reduceEqDiff, reduceIte, reduceCtorEq, Nat.reduceAdd, Nat.reduceMul, Nat.reduceSub, Nat.reduceLT, Int.reduceLT, Int.reduceLE, Int.reduceNeg, Int.reduceToNat, Nat.reduceBEq, Nat.reduceBNe, Int.reduceGE, Int.reduceGT]
        clear_value sx
        (repeat' (first | (refine gate_a fun _ => ?_) | (refine fork_intro (fun hb => ?_) (fun hb => ?_) <;> (try simp only [ew, hlt4] at hb)) | (simp only [go_sem, Nat.reduceLeDiff, Nat.reduceEqDiff, reduceIte, reduceCtorEq, Nat.reduceAdd, Nat.reduceMul, Nat.reduceSub, Nat.reduceLT, Int.reduceLT, Int.reduceLE, Int.reduceNeg, Int.reduceToNat, Nat.reduceBEq, Nat.reduceBNe, Int.reduceGE, Int.reduceGT, *, cLawT2, cBig, cDMd, cIsTableS, cMD, cNewS, cRunS, cEqDepS, cDt, cAgs, cDag, cSset, cWit, cImp, cAo, cArm, cNewM, cAt, cIns, cDel, cUpd, Tryz.results3, hlt4])))
        refine loop_intro { ι := Nat, rs := [(202, 219)], mods := [(22, fun k => .one (.d (.v (.int .i64 k)))), (21, fun k => .one (.own 1 (iL (rowA f k)) 1))], boxes := [(3, fun _ => [.d (.v (.int .i64 n)), .own 1 (sL rs) 1]), (17, fun _ => [.d (.v (.int .i64 n)), .d (.sl 1 (sL X)), .d (.v (.int .i64 m)), .d (.sl 2 (dL Y))]), (20, fun _ => [.d (.v (.int .i64 n)), .d (.sl 1 (sL X)), .d (.v (.int .i64 m)), .d (.sl 2 (dL Y))])], arrs := [], ok := fun k => k ≤ n, mu := fun k => n - k } rfl 0 (Nat.zero_le _) ?_ fun k hk => ?_
        ·clear eS hat hf
         (repeat' (first | (refine gate_a fun _ => ?_) | (refine fork_intro (fun hb => ?_) (fun hb => ?_) <;> (try simp only [ew, e0] at hb)) | (simp only [go_sem, Nat.reduceLeDiff, Nat.reduceEqDiff, reduceIte, reduceCtorEq, Nat.reduceAdd, Nat.reduceMul, Nat.reduceSub, Nat.reduceLT, Int.reduceLT, Int.reduceLE, Int.reduceNeg, Int.reduceToNat, Nat.reduceBEq, Nat.reduceBNe, Int.reduceGE, Int.reduceGT, *, cLawT2, cBig, cDMd, cIsTableS, cMD, cNewS, cRunS, cEqDepS, cDt, cAgs, cDag, cSset, cWit, cImp, cAo, cArm, cNewM, cAt, cIns, cDel, cUpd, Tryz.results3, e0])))
         all_goals first | rfl | skip
        ·dsimp only at k hk
         by_cases h7 : k < n
         ·have hv := hat (5 * ((i : Nat) : Int) + ((k : Nat) : Int)).toNat
          have hfk := hf k
          generalize hv0 : atF bs (5 * ((i : Nat) : Int) + ((k : Nat) : Int)).toNat = v at hv hfk
          have t1 := Int.tmod_nonneg 4 hv.1
          have t2 := Int.tmod_lt_of_pos v (show (0 : Int) < 4 by decide)
          have eS1 := eS k
          rw [hfk] at eS1
          have hl := @rowA_len f k
          clear hat hf eS hfk e0
          generalize hC2 : rowA f k = C at hl eS1
          have m7 : C.length ≤ maxLen := Nat.le_trans (show C.length ≤ 5 by omega) (by decide)
          have hk6 : ((k : Nat) : Int) < ((n : Nat) : Int) := by omega
          (repeat' (first | (refine gate_a fun _ => ?_) | (refine fork_intro (fun hb => ?_) (fun hb => ?_) <;> (try simp only [ew, hv0, hC2, iL_snoc] at hb)) | (simp only [go_sem, Nat.reduceLeDiff, Nat.reduceEqDiff, reduceIte, reduceCtorEq, Nat.reduceAdd, Nat.reduceMul, Nat.reduceSub, Nat.reduceLT, Int.reduceLT, Int.reduceLE, Int.reduceNeg, Int.reduceToNat, Nat.reduceBEq, Nat.reduceBNe, Int.reduceGE, Int.reduceGT, *, cLawT2, cBig, cDMd, cIsTableS, cMD, cNewS, cRunS, cEqDepS, cDt, cAgs, cDag, cSset, cWit, cImp, cAo, cArm, cNewM, cAt, cIns, cDel, cUpd, Tryz.results3, hv0, hC2, iL_snoc])))
          refine loop_next (k + 1) (by dsimp only; omega) (by dsimp only; omega) ?_
          (repeat' (first | (refine gate_a fun _ => ?_) | (refine fork_intro (fun hb => ?_) (fun hb => ?_) <;> (try simp only [ew, eS1, iL_snoc] at hb)) | (simp only [go_sem, Nat.reduceLeDiff, Nat.reduceEqDiff, reduceIte, reduceCtorEq, Nat.reduceAdd, Nat.reduceMul, Nat.reduceSub, Nat.reduceLT, Int.reduceLT, Int.reduceLE, Int.reduceNeg, Int.reduceToNat, Nat.reduceBEq, Nat.reduceBNe, Int.reduceGE, Int.reduceGT, *, cLawT2, cBig, cDMd, cIsTableS, cMD, cNewS, cRunS, cEqDepS, cDt, cAgs, cDag, cSset, cWit, cImp, cAo, cArm, cNewM, cAt, cIns, cDel, cUpd, Tryz.results3, eS1, iL_snoc])))
         ·have e7 : k = n := by omega
          subst e7
          have hl := @rowA_len f k
          clear hf eS e0
          generalize hC2 : rowA f k = C at hl
          have m7 : C.length ≤ maxLen := Nat.le_trans (show C.length ≤ 5 by omega) (by decide)
          have hv := hat (30 + ((i : Nat) : Int)).toNat
          generalize hv0 : atF bs (30 + ((i : Nat) : Int)).toNat = v at hv
          have x8 : X.length ≤ 16777216 := by omega
          have x9 : ∀ r ∈ X, r.length ≤ 16777216 := fun r hr => by have := x2 r hr; omega
          have x10 : Y.length ≤ 16777216 := by omega
          cases hA : (v.tmod 3 == 0)
          ·cases hB : (v.tmod 3 == 1)
           ·have hw1 := hat (40 + ((i : Nat) : Int)).toNat
            have hw2 := hat (50 + ((i : Nat) : Int)).toNat
            have hw3 := hat (60 + ((i : Nat) : Int)).toNat
            generalize hu1 : atF bs (40 + ((i : Nat) : Int)).toNat = u1 at hw1
            generalize hu2 : atF bs (50 + ((i : Nat) : Int)).toNat = u2 at hw2
            generalize hu3 : atF bs (60 + ((i : Nat) : Int)).toNat = u3 at hw3
            have t1 := Int.tmod_nonneg 4 hw3.1
            have t2 := Int.tmod_lt_of_pos u3 (show (0 : Int) < 4 by decide)
            have hM2 := @upd_all _ _ _ _ (u1.tmod 6) (u2.tmod k) (u3.tmod 4 - 1) hM1
            obtain ⟨y1, y2, y3, y4⟩ := isM_small hM2
            generalize hX2 : updR (k : Nat) X m Y (u1.tmod 6) (u2.tmod k) (u3.tmod 4 - 1) = X2 at *
            generalize hY2 : updD (k : Nat) X m Y (u1.tmod 6) (u2.tmod k) (u3.tmod 4 - 1) = Y2 at *
            have y5 : X2.length ≤ maxLen := Nat.le_trans y1 (by decide)
            have y6 : ∀ r ∈ X2, r.length ≤ maxLen := fun r hr => by have := y2 r hr; omega
            have y7 : Y2.length ≤ maxLen := Nat.le_trans y3 (by decide)
            have y8 : (Y2 == Y2) = true := by simp
            clear hat
            (repeat' (first | (refine gate_a fun _ => ?_) | (refine fork_intro (fun hb => ?_) (fun hb => ?_) <;> (try simp only [ew, hv0, hA, hB, hC2, hu1, hu2, hu3, hX2, hY2, y4, y8] at hb)) | (simp only [go_sem, Nat.reduceLeDiff, Nat.reduceEqDiff, reduceIte, reduceCtorEq, Nat.reduceAdd, Nat.reduceMul, Nat.reduceSub, Nat.reduceLT, Int.reduceLT, Int.reduceLE, Int.reduceNeg, Int.reduceToNat, Nat.reduceBEq, Nat.reduceBNe, Int.reduceGE, Int.reduceGT, *, cLawT2, cBig, cDMd, cIsTableS, cMD, cNewS, cRunS, cEqDepS, cDt, cAgs, cDag, cSset, cWit, cImp, cAo, cArm, cNewM, cAt, cIns, cDel, cUpd, Tryz.results3, hv0, hA, hB, hC2, hu1, hu2, hu3, hX2, hY2, y4, y8])))
            refine loop_next (i + 1, X2, Y2) ⟨by dsimp only; omega, hM2⟩ (by dsimp only; omega) ?_
            (repeat' (first | (refine gate_a fun _ => ?_) | (refine fork_intro (fun hb => ?_) (fun hb => ?_) <;> (try simp only [ew] at hb)) | (simp only [go_sem, Nat.reduceLeDiff, Nat.reduceEqDiff, reduceIte, reduceCtorEq, Nat.reduceAdd, Nat.reduceMul, Nat.reduceSub, Nat.reduceLT, Int.reduceLT, Int.reduceLE, Int.reduceNeg, Int.reduceToNat, Nat.reduceBEq, Nat.reduceBNe, Int.reduceGE, Int.reduceGT, *, cLawT2, cBig, cDMd, cIsTableS, cMD, cNewS, cRunS, cEqDepS, cDt, cAgs, cDag, cSset, cWit, cImp, cAo, cArm, cNewM, cAt, cIns, cDel, cUpd, Tryz.results3])))
           ·have hw1 := hat (40 + ((i : Nat) : Int)).toNat
            generalize hu1 : atF bs (40 + ((i : Nat) : Int)).toNat = u1 at hw1
            have hM2 := @del_all _ _ _ _ (u1.tmod 6) hM1
            obtain ⟨y1, y2, y3, y4⟩ := isM_small hM2
            generalize hX2 : delR (k : Nat) X m Y (u1.tmod 6) = X2 at *
            generalize hY2 : delD (k : Nat) X m Y (u1.tmod 6) = Y2 at *
            have y5 : X2.length ≤ maxLen := Nat.le_trans y1 (by decide)
            have y6 : ∀ r ∈ X2, r.length ≤ maxLen := fun r hr => by have := y2 r hr; omega
            have y7 : Y2.length ≤ maxLen := Nat.le_trans y3 (by decide)
            have y8 : (Y2 == Y2) = true := by simp
            clear hat
            (repeat' (first | (refine gate_a fun _ => ?_) | (refine fork_intro (fun hb => ?_) (fun hb => ?_) <;> (try simp only [ew, hv0, hA, hB, hC2, hu1, hX2, hY2, y4, y8] at hb)) | (simp only [go_sem, Nat.reduceLeDiff, Nat.reduceEqDiff, reduceIte, reduceCtorEq, Nat.reduceAdd, Nat.reduceMul, Nat.reduceSub, Nat.reduceLT, Int.reduceLT, Int.reduceLE, Int.reduceNeg, Int.reduceToNat, Nat.reduceBEq, Nat.reduceBNe, Int.reduceGE, Int.reduceGT, *, cLawT2, cBig, cDMd, cIsTableS, cMD, cNewS, cRunS, cEqDepS, cDt, cAgs, cDag, cSset, cWit, cImp, cAo, cArm, cNewM, cAt, cIns, cDel, cUpd, Tryz.results3, hv0, hA, hB, hC2, hu1, hX2, hY2, y4, y8])))
            refine loop_next (i + 1, X2, Y2) ⟨by dsimp only; omega, hM2⟩ (by dsimp only; omega) ?_
            (repeat' (first | (refine gate_a fun _ => ?_) | (refine fork_intro (fun hb => ?_) (fun hb => ?_) <;> (try simp only [ew] at hb)) | (simp only [go_sem, Nat.reduceLeDiff, Nat.reduceEqDiff, reduceIte, reduceCtorEq, Nat.reduceAdd, Nat.reduceMul, Nat.reduceSub, Nat.reduceLT, Int.reduceLT, Int.reduceLE, Int.reduceNeg, Int.reduceToNat, Nat.reduceBEq, Nat.reduceBNe, Int.reduceGE, Int.reduceGT, *, cLawT2, cBig, cDMd, cIsTableS, cMD, cNewS, cRunS, cEqDepS, cDt, cAgs, cDag, cSset, cWit, cImp, cAo, cArm, cNewM, cAt, cIns, cDel, cUpd, Tryz.results3])))
          ·have hM2 := @ins_all _ _ _ _ C hM1
           obtain ⟨y1, y2, y3, y4⟩ := isM_small hM2
           generalize hX2 : insR (k : Nat) X m Y C = X2 at *
           generalize hY2 : insD (k : Nat) X m Y C = Y2 at *
           have y5 : X2.length ≤ maxLen := Nat.le_trans y1 (by decide)
           have y6 : ∀ r ∈ X2, r.length ≤ maxLen := fun r hr => by have := y2 r hr; omega
           have y7 : Y2.length ≤ maxLen := Nat.le_trans y3 (by decide)
           have y8 : (Y2 == Y2) = true := by simp
           clear hat
           (repeat' (first | (refine gate_a fun _ => ?_) | (refine fork_intro (fun hb => ?_) (fun hb => ?_) <;> (try simp only [ew, hv0, hA, hC2, hX2, hY2, y4, y8] at hb)) | (simp only [go_sem, Nat.reduceLeDiff, Nat.reduceEqDiff, reduceIte, reduceCtorEq, Nat.reduceAdd, Nat.reduceMul, Nat.reduceSub, Nat.reduceLT, Int.reduceLT, Int.reduceLE, Int.reduceNeg, Int.reduceToNat, Nat.reduceBEq, Nat.reduceBNe, Int.reduceGE, Int.reduceGT, *, cLawT2, cBig, cDMd, cIsTableS, cMD, cNewS, cRunS, cEqDepS, cDt, cAgs, cDag, cSset, cWit, cImp, cAo, cArm, cNewM, cAt, cIns, cDel, cUpd, Tryz.results3, hv0, hA, hC2, hX2, hY2, y4, y8])))
           refine loop_next (i + 1, X2, Y2) ⟨by dsimp only; omega, hM2⟩ (by dsimp only; omega) ?_
           (repeat' (first | (refine gate_a fun _ => ?_) | (refine fork_intro (fun hb => ?_) (fun hb => ?_) <;> (try simp only [ew] at hb)) | (simp only [go_sem, Nat.reduceLeDiff, Nat.reduceEqDiff, reduceIte, reduceCtorEq, Nat.reduceAdd, Nat.reduceMul, Nat.reduceSub, Nat.reduceLT, Int.reduceLT, Int.reduceLE, Int.reduceNeg, Int.reduceToNat, Nat.reduceBEq, Nat.reduceBNe, Int.reduceGE, Int.reduceGT, *, cLawT2, cBig, cDMd, cIsTableS, cMD, cNewS, cRunS, cEqDepS, cDt, cAgs, cDag, cSset, cWit, cImp, cAo, cArm, cNewM, cAt, cIns, cDel, cUpd, Tryz.results3])))
       ·have e6 : i = 4 := by omega
        subst e6
        clear hat
        (repeat' (first | (refine gate_a fun _ => ?_) | (refine fork_intro (fun hb => ?_) (fun hb => ?_) <;> (try simp only [ew] at hb)) | (simp only [go_sem, Nat.reduceLeDiff, Nat.reduceEqDiff, reduceIte, reduceCtorEq, Nat.reduceAdd, Nat.reduceMul, Nat.reduceSub, Nat.reduceLT, Int.reduceLT, Int.reduceLE, Int.reduceNeg, Int.reduceToNat, Nat.reduceBEq, Nat.reduceBNe, Int.reduceGE, Int.reduceGT, *, cLawT2, cBig, cDMd, cIsTableS, cMD, cNewS, cRunS, cEqDepS, cDt, cAgs, cDag, cSset, cWit, cImp, cAo, cArm, cNewM, cAt, cIns, cDel, cUpd, Tryz.results3])))
        all_goals first | rfl | skip
end Go.Own
