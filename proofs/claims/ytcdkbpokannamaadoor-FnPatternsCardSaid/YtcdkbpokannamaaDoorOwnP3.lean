/-
  The law of patterns. Conditions: as each theorem states them.
-/
import Derived.Test.YtcdkbpokannamaaDoorOwnP1
import Derived.Test.YtcdkbpokannamaaDoorOwnP2
import Derived.Test.YtcdkbpokannamaaDoorOwnN2
import Derived.Test.YtcdkbpokannamaaDoorOwnK8
namespace Go.Own
open Go Go.Proofs
set_option linter.unusedSimpArgs false
set_option linter.unusedVariables false
set_option maxRecDepth 20000
set_option maxHeartbeats 8000000

attribute [local go_sem] tf1b ft1b unB_bL bL_length wfB_bL unQ_qL qL_length qL_get qL_set qL_inj wfQ_qL scal4 beq4 quad_eta

def cBtoi : Contract := ⟨[], false, fun
  | [.one (.v (.bool b))] => some (True, [⟨false, [.d (.v (.int .i64 (if b then 1 else 0)))]⟩], [])
  | _ => none⟩
theorem btoi_ok : ContractOK E0 25 cBtoi := by
  refine contract_of_wpc (E := E0) (T := mkT Tryd.prog [] false (fun _ => false) true (fun _ => false)) (mkT_ok (E := E0) .nil) (fn := Tryd.f25) Tryd.func25 (by kernel_rfl) rfl mixedT (by kernel_rfl) rfl ?_
  intro args p rs ms hr
  unfold cBtoi at hr
  dsimp only at hr
  split at hr
  rotate_left
  · cases hr
  rename_i b
  simp only [Option.some.injEq, Prod.mk.injEq] at hr
  obtain ⟨rfl, rfl, rfl⟩ := hr
  refine ⟨rfl, rfl, Nat.le_of_ble_eq_true rfl, ?_⟩
  have hm : maxLen = 9223372036854775807 := rfl
  rintro _ bs
  cases b
  · (repeat' (first
      | (refine gate_a fun _ => ?_)
      | (refine fork_intro (fun hb => ?_) (fun hb => ?_) <;> (try simp only [ew] at hb))
      | (simp only [go_sem, Nat.reduceLeDiff, Nat.reduceEqDiff, reduceIte, reduceCtorEq, Nat.reduceAdd, Nat.reduceMul, Nat.reduceSub, Nat.reduceLT, Int.reduceLT, Int.reduceLE, Int.reduceNeg, Int.reduceToNat, Nat.reduceBEq, Nat.reduceBNe, Int.reduceGE, Int.reduceGT, *, cBtoi, Tryd.results25])))
    all_goals first | rfl | skip
  · (repeat' (first
      | (refine gate_a fun _ => ?_)
      | (refine fork_intro (fun hb => ?_) (fun hb => ?_) <;> (try simp only [ew] at hb))
      | (simp only [go_sem, Nat.reduceLeDiff, Nat.reduceEqDiff, reduceIte, reduceCtorEq, Nat.reduceAdd, Nat.reduceMul, Nat.reduceSub, Nat.reduceLT, Int.reduceLT, Int.reduceLE, Int.reduceNeg, Int.reduceToNat, Nat.reduceBEq, Nat.reduceBNe, Int.reduceGE, Int.reduceGT, *, cBtoi, Tryd.results25])))
    all_goals first | rfl | skip
theorem getD_memQ {xs : List (Int × Int × Int × Int)} {i : Nat} (h : i < xs.length) : xs.getD i (0, 0, 0, 0) ∈ xs := by
  rw [List.getD_eq_getElem?_getD, List.getElem?_eq_getElem h]; exact List.getElem_mem h
theorem lawPt_ok : ContractOK E0 5 cLawC := by
  refine contract_of_wpc (E := E0) (T := mkT Tryd.prog [(15, cBig), (16, cDPo), (17, cPats), (18, cPats), (19, cHP), (20, cSup), (8, cFP), (6, cFP), (21, c16), (22, c15s), (23, cSel), (24, cHold), (26, cSel), (25, cBtoi), (27, cHP), (28, cEqTabs)] false (fun _ => false) true (fun d => d == 999)) (mkT_ok (E := E0) (.cons big_ok (.cons dPo_ok (.cons patsI_ok (.cons patsS_ok (.cons hpI_ok (.cons supI_ok (.cons fpI_ok (.cons fpS_ok (.cons dHp_ok (.cons dSel_ok (.cons selI_ok (.cons holdS_ok (.cons selS_ok (.cons btoi_ok (.cons hpS_ok (.cons eqTabsS_ok .nil))))))))))))))))) (fn := Tryd.f5) Tryd.func5 (by kernel_rfl) rfl mixedT (by kernel_rfl) rfl ?_
  intro args p rs ms hr
  unfold cLawC at hr
  dsimp only at hr
  split at hr
  rotate_left
  · cases hr
  rename_i l
  simp only [Option.some.injEq, Prod.mk.injEq] at hr
  obtain ⟨rfl, rfl, rfl⟩ := hr
  refine ⟨rfl, rfl, Nat.le_of_ble_eq_true rfl, ?_⟩
  have hm : maxLen = 9223372036854775807 := rfl
  rintro ⟨h1, h3⟩ bs0
  obtain ⟨bs, rfl, hx⟩ := h1.ex
  clear h1
  rw [unB_bL] at h3
  by_cases hbig : bs.length > 1048576
  · (repeat' (first
      | (refine gate_a fun _ => ?_)
      | (refine fork_intro (fun hb => ?_) (fun hb => ?_) <;> (try simp only [ew] at hb))
      | (simp only [go_sem, Nat.reduceLeDiff, Nat.reduceEqDiff, reduceIte, reduceCtorEq, Nat.reduceAdd, Nat.reduceMul, Nat.reduceSub, Nat.reduceLT, Int.reduceLT, Int.reduceLE, Int.reduceNeg, Int.reduceToNat, Nat.reduceBEq, Nat.reduceBNe, Int.reduceGE, Int.reduceGT, *, cLawC, cBig, cDPo, cPats, cHP, cSup, cFP, c16, c15s, cSel, cHold, cBtoi, cEqTabs, Tryd.results5])))
    all_goals first | rfl | contradiction | skip
  · have hb2 : bs.length ≤ 1048576 := by omega
    obtain ⟨⟨k1, k1'⟩, k2, k2'⟩ := @d16_facts bs
    generalize hL : d16 bs = L at *
    obtain ⟨⟨c, rs⟩, m, ⟨dl, dr⟩, pa, pv⟩ := L
    dsimp only at k1 k1' k2 k2'
    have m1 : rs.length ≤ maxLen := Nat.le_trans k2 (by decide)
    have m2 : ∀ r ∈ rs, r.length ≤ maxLen := fun r hr => Nat.le_trans (k2' r hr) (by decide)
    obtain ⟨p1, p2⟩ := @pts_length c rs m dl dr
    have hmem := fun q => @pts_mem c rs m dl dr q
    have hcount := @pts_count c rs m dl dr
    generalize hT : pts c rs m dl dr = T at p1 p2 hmem hcount
    obtain ⟨⟨x1, x1'⟩, ⟨x2, x2'⟩, ⟨x3, x3'⟩, x4, x4'⟩ := @d15_facts bs
    generalize hC : d15c bs = xc at *
    generalize hR : d15r bs = xr at *
    generalize hA : d15a bs = xa at *
    generalize hB : d15b bs = xb at *
    have y1 : xr.length ≤ maxLen := Nat.le_trans x2 (by decide)
    have y2 : ∀ r ∈ xr, r.length ≤ maxLen := fun r hr => Nat.le_trans (x2' r hr) (by decide)
    obtain ⟨z1, z2⟩ := @selR_max xc xr xa (xb - 1) 13 x2 (fun r hr => Nat.le_trans (x2' r hr) (by decide))
    obtain ⟨z5, z6⟩ := @selC_le xc xr xa (by omega) (by omega)
    generalize hS : selR xc xr xa (xb - 1) = xs at z1 z2
    generalize hSC : selC xc xr xa = xsc at z5 z6
    have z3 : xs.length ≤ maxLen := Nat.le_trans z1 (by decide)
    have z4 : ∀ r ∈ xs, r.length ≤ maxLen := fun r hr => Nat.le_trans (z2 r hr) (by decide)
    clear k2' x2' z2
    obtain ⟨C, rfl⟩ := Int.eq_ofNat_of_zero_le k1
    rw [Int.toNat_natCast] at hcount
    have hsl := fun a v => (@selR_max (C : Int) rs a v maxLen m1 m2)
    (repeat' (first
      | (refine gate_a fun _ => ?_)
      | (refine fork_intro (fun hb => ?_) (fun hb => ?_) <;> (try simp only [ew, hL, hT] at hb))
      | (simp only [go_sem, Nat.reduceLeDiff, Nat.reduceEqDiff, reduceIte, reduceCtorEq, Nat.reduceAdd, Nat.reduceMul, Nat.reduceSub, Nat.reduceLT, Int.reduceLT, Int.reduceLE, Int.reduceNeg, Int.reduceToNat, Nat.reduceBEq, Nat.reduceBNe, Int.reduceGE, Int.reduceGT, *, cLawC, cBig, cDPo, cPats, cHP, cSup, cFP, c16, c15s, cSel, cHold, cBtoi, cEqTabs, Tryd.results5, hL, hT])))
    refine loop_intro { ι := Nat, rs := [(2, 3), (40, 87)], mods := [(8, fun i => .one (.d (.v (.int .i64 i))))], boxes := [(3, fun _ => [.d (.v (.int .i64 C)), .own 1 (sL rs) 1]), (5, fun _ => [.d (.v (.int .i64 dl)), .d (.v (.int .i64 dr))])], arrs := [(6, fun _ => (4, qL T, 1)), (7, fun _ => (4, qL T, 1))], ok := fun i => i ≤ T.length, mu := fun i => T.length - i } rfl 0 (Nat.zero_le _) ?_ fun i hi => ?_
    · clear hmem hsl
      (repeat' (first
      | (refine gate_a fun _ => ?_)
      | (refine fork_intro (fun hb => ?_) (fun hb => ?_) <;> (try simp only [ew] at hb))
      | (simp only [go_sem, Nat.reduceLeDiff, Nat.reduceEqDiff, reduceIte, reduceCtorEq, Nat.reduceAdd, Nat.reduceMul, Nat.reduceSub, Nat.reduceLT, Int.reduceLT, Int.reduceLE, Int.reduceNeg, Int.reduceToNat, Nat.reduceBEq, Nat.reduceBNe, Int.reduceGE, Int.reduceGT, *, cLawC, cBig, cDPo, cPats, cHP, cSup, cFP, c16, c15s, cSel, cHold, cBtoi, cEqTabs, Tryd.results5])))
      all_goals first | rfl | skip
    · dsimp only at i hi
      by_cases h5 : i < T.length
      · obtain ⟨q1, q2⟩ := hmem _ (getD_memQ h5)
        have q3 : decide (((selR (C : Int) rs (T.getD i (0, 0, 0, 0)).1 (T.getD i (0, 0, 0, 0)).2.1).length : Int) < 1) = false := decide_eq_false (by omega)
        clear hmem hcount hsl
        (repeat' (first
      | (refine gate_a fun _ => ?_)
      | (refine fork_intro (fun hb => ?_) (fun hb => ?_) <;> (try simp only [ew, q2, q3] at hb))
      | (simp only [go_sem, Nat.reduceLeDiff, Nat.reduceEqDiff, reduceIte, reduceCtorEq, Nat.reduceAdd, Nat.reduceMul, Nat.reduceSub, Nat.reduceLT, Int.reduceLT, Int.reduceLE, Int.reduceNeg, Int.reduceToNat, Nat.reduceBEq, Nat.reduceBNe, Int.reduceGE, Int.reduceGT, *, cLawC, cBig, cDPo, cPats, cHP, cSup, cFP, c16, c15s, cSel, cHold, cBtoi, cEqTabs, Tryd.results5, q2, q3])))
        refine loop_next (i + 1) (by dsimp only; omega) (by dsimp only; omega) ?_
        (repeat' (first
      | (refine gate_a fun _ => ?_)
      | (refine fork_intro (fun hb => ?_) (fun hb => ?_) <;> (try simp only [ew] at hb))
      | (simp only [go_sem, Nat.reduceLeDiff, Nat.reduceEqDiff, reduceIte, reduceCtorEq, Nat.reduceAdd, Nat.reduceMul, Nat.reduceSub, Nat.reduceLT, Int.reduceLT, Int.reduceLE, Int.reduceNeg, Int.reduceToNat, Nat.reduceBEq, Nat.reduceBNe, Int.reduceGE, Int.reduceGT, *, cLawC, cBig, cDPo, cPats, cHP, cSup, cFP, c16, c15s, cSel, cHold, cBtoi, cEqTabs, Tryd.results5])))
      · have e5 : i = T.length := by omega
        subst e5
        clear hmem h5
        cases hd : hdB (C : Int) rs m dl dr
        · clear hcount hsl
          (repeat' (first
      | (refine gate_a fun _ => ?_)
      | (refine fork_intro (fun hb => ?_) (fun hb => ?_) <;> (try simp only [ew, hL, hC, hR, hA, hB, hS, hSC] at hb))
      | (simp only [go_sem, Nat.reduceLeDiff, Nat.reduceEqDiff, reduceIte, reduceCtorEq, Nat.reduceAdd, Nat.reduceMul, Nat.reduceSub, Nat.reduceLT, Int.reduceLT, Int.reduceLE, Int.reduceNeg, Int.reduceToNat, Nat.reduceBEq, Nat.reduceBNe, Int.reduceGE, Int.reduceGT, *, cLawC, cBig, cDPo, cPats, cHP, cSup, cFP, c16, c15s, cSel, cHold, cBtoi, cEqTabs, Tryd.results5, hL, hC, hR, hA, hB, hS, hSC])))
          refine loop_intro { ι := Unit, rs := [(18, 19), (103, 129)], mods := [(16, fun _ => .one (.d (.v (.int .i64 0)))), (17, fun _ => .one (.d (.v (.int .i64 0))))], boxes := [(3, fun _ => [.d (.v (.int .i64 C)), .own 1 (sL rs) 1]), (5, fun _ => [.d (.v (.int .i64 dl)), .d (.v (.int .i64 dr))]), (9, fun _ => [.d (.v (.int .i64 C)), .own 1 (sL rs) 1]), (11, fun _ => [.d (.v (.int .i64 pa)), .d (.v (.int .i64 pv)), .d (.v (.int .i64 dl)), .d (.v (.int .i64 dr))]), (12, fun _ => [.d (.v (.int .i64 xc)), .own 1 (sL xr) 1]), (15, fun _ => [.d (.v (.int .i64 xsc)), .own 1 (sL xs) 1])], arrs := [(6, fun _ => (4, qL T, 1))], ok := fun _ => True, mu := fun _ => 0 } rfl () trivial ?_ fun _ _ => ?_
          · (repeat' (first
      | (refine gate_a fun _ => ?_)
      | (refine fork_intro (fun hb => ?_) (fun hb => ?_) <;> (try simp only [ew] at hb))
      | (simp only [go_sem, Nat.reduceLeDiff, Nat.reduceEqDiff, reduceIte, reduceCtorEq, Nat.reduceAdd, Nat.reduceMul, Nat.reduceSub, Nat.reduceLT, Int.reduceLT, Int.reduceLE, Int.reduceNeg, Int.reduceToNat, Nat.reduceBEq, Nat.reduceBNe, Int.reduceGE, Int.reduceGT, *, cLawC, cBig, cDPo, cPats, cHP, cSup, cFP, c16, c15s, cSel, cHold, cBtoi, cEqTabs, Tryd.results5])))
            all_goals first | rfl | skip
          · (repeat' (first
      | (refine gate_a fun _ => ?_)
      | (refine fork_intro (fun hb => ?_) (fun hb => ?_) <;> (try simp only [ew, hd, hS, hSC] at hb))
      | (simp only [go_sem, Nat.reduceLeDiff, Nat.reduceEqDiff, reduceIte, reduceCtorEq, Nat.reduceAdd, Nat.reduceMul, Nat.reduceSub, Nat.reduceLT, Int.reduceLT, Int.reduceLE, Int.reduceNeg, Int.reduceToNat, Nat.reduceBEq, Nat.reduceBNe, Int.reduceGE, Int.reduceGT, *, cLawC, cBig, cDPo, cPats, cHP, cSup, cFP, c16, c15s, cSel, cHold, cBtoi, cEqTabs, Tryd.results5, hd, hS, hSC])))
            all_goals first | rfl | skip
        · have hcount := hcount hd
          have hsm := fun v => @sm_le (fun a => selN (C : Int) rs a v) (fun a => selN_le)
          have hsm2 := fun n => @sm_leB (fun v => sm (fun a => selN (C : Int) rs a v) C) C (fun v => hsm v) n
          (repeat' (first
      | (refine gate_a fun _ => ?_)
      | (refine fork_intro (fun hb => ?_) (fun hb => ?_) <;> (try simp only [ew, hL, hC, hR, hA, hB, hS, hSC] at hb))
      | (simp only [go_sem, Nat.reduceLeDiff, Nat.reduceEqDiff, reduceIte, reduceCtorEq, Nat.reduceAdd, Nat.reduceMul, Nat.reduceSub, Nat.reduceLT, Int.reduceLT, Int.reduceLE, Int.reduceNeg, Int.reduceToNat, Nat.reduceBEq, Nat.reduceBNe, Int.reduceGE, Int.reduceGT, *, cLawC, cBig, cDPo, cPats, cHP, cSup, cFP, c16, c15s, cSel, cHold, cBtoi, cEqTabs, Tryd.results5, hL, hC, hR, hA, hB, hS, hSC])))
          refine loop_intro { ι := Nat, rs := [(18, 19), (103, 129)], mods := [(16, fun v => .one (.d (.v (.int .i64 ((sm (fun v => sm (fun a => selN (C : Int) rs a v) C) v : Nat) : Int))))), (17, fun v => .one (.d (.v (.int .i64 v))))], boxes := [(3, fun _ => [.d (.v (.int .i64 C)), .own 1 (sL rs) 1]), (5, fun _ => [.d (.v (.int .i64 dl)), .d (.v (.int .i64 dr))]), (9, fun _ => [.d (.v (.int .i64 C)), .own 1 (sL rs) 1]), (11, fun _ => [.d (.v (.int .i64 pa)), .d (.v (.int .i64 pv)), .d (.v (.int .i64 dl)), .d (.v (.int .i64 dr))]), (12, fun _ => [.d (.v (.int .i64 xc)), .own 1 (sL xr) 1]), (15, fun _ => [.d (.v (.int .i64 xsc)), .own 1 (sL xs) 1])], arrs := [(6, fun _ => (4, qL T, 1))], ok := fun v => v ≤ 41, mu := fun v => 41 - v } rfl 0 (Nat.zero_le _) ?_ fun v hv => ?_
          · have e0 : ((sm (fun v => sm (fun a => selN (C : Int) rs a v) C) 0 : Nat) : Int) = 0 := rfl
            clear hsm hsm2 hsl
            (repeat' (first
      | (refine gate_a fun _ => ?_)
      | (refine fork_intro (fun hb => ?_) (fun hb => ?_) <;> (try simp only [ew, e0] at hb))
      | (simp only [go_sem, Nat.reduceLeDiff, Nat.reduceEqDiff, reduceIte, reduceCtorEq, Nat.reduceAdd, Nat.reduceMul, Nat.reduceSub, Nat.reduceLT, Int.reduceLT, Int.reduceLE, Int.reduceNeg, Int.reduceToNat, Nat.reduceBEq, Nat.reduceBNe, Int.reduceGE, Int.reduceGT, *, cLawC, cBig, cDPo, cPats, cHP, cSup, cFP, c16, c15s, cSel, cHold, cBtoi, cEqTabs, Tryd.results5, e0])))
            all_goals first | rfl | skip
          · dsimp only at v hv
            have s2 := hsm2 v
            have hC6 : C ≤ 6 := by omega
            have s3 : sm (fun v => sm (fun a => selN (C : Int) rs a v) C) v ≤ 300 := by
              have : v * C ≤ 41 * 6 := Nat.mul_le_mul hv hC6
              omega
            clear s2 hsm2
            by_cases h6 : v ≤ 40
            · have e6 : decide (((v : Nat) : Int) ≤ 40) = true := decide_eq_true (by omega)
              have hsmv := fun n => @sm_le (fun a => selN (C : Int) rs a v) (fun a => selN_le) n
              have eV : sm (fun v => sm (fun a => selN (C : Int) rs a v) C) (v + 1) = sm (fun v => sm (fun a => selN (C : Int) rs a v) C) v + sm (fun a => selN (C : Int) rs a v) C := rfl
              clear hsm hcount
              generalize hN : sm (fun v => sm (fun a => selN (C : Int) rs a v) C) v = N at s3 eV
              (repeat' (first
      | (refine gate_a fun _ => ?_)
      | (refine fork_intro (fun hb => ?_) (fun hb => ?_) <;> (try simp only [ew, e6, hd, hN] at hb))
      | (simp only [go_sem, Nat.reduceLeDiff, Nat.reduceEqDiff, reduceIte, reduceCtorEq, Nat.reduceAdd, Nat.reduceMul, Nat.reduceSub, Nat.reduceLT, Int.reduceLT, Int.reduceLE, Int.reduceNeg, Int.reduceToNat, Nat.reduceBEq, Nat.reduceBNe, Int.reduceGE, Int.reduceGT, *, cLawC, cBig, cDPo, cPats, cHP, cSup, cFP, c16, c15s, cSel, cHold, cBtoi, cEqTabs, Tryd.results5, e6, hd, hN])))
              refine loop_intro { ι := Nat, rs := [(113, 129)], mods := [(16, fun k => .one (.d (.v (.int .i64 ((N + sm (fun a => selN (C : Int) rs a v) k : Nat) : Int))))), (18, fun k => .one (.d (.v (.int .i64 k))))], boxes := [(3, fun _ => [.d (.v (.int .i64 C)), .own 1 (sL rs) 1]), (5, fun _ => [.d (.v (.int .i64 dl)), .d (.v (.int .i64 dr))]), (9, fun _ => [.d (.v (.int .i64 C)), .own 1 (sL rs) 1]), (11, fun _ => [.d (.v (.int .i64 pa)), .d (.v (.int .i64 pv)), .d (.v (.int .i64 dl)), .d (.v (.int .i64 dr))]), (12, fun _ => [.d (.v (.int .i64 xc)), .own 1 (sL xr) 1]), (15, fun _ => [.d (.v (.int .i64 xsc)), .own 1 (sL xs) 1])], arrs := [(6, fun _ => (4, qL T, 1))], ok := fun k => k ≤ C, mu := fun k => C - k } rfl 0 (Nat.zero_le _) ?_ fun k hk => ?_
              · have e0 : ((N + sm (fun a => selN (C : Int) rs a v) 0 : Nat) : Int) = (N : Int) := by simp [sm]
                clear hsmv hsl
                (repeat' (first
      | (refine gate_a fun _ => ?_)
      | (refine fork_intro (fun hb => ?_) (fun hb => ?_) <;> (try simp only [ew, e0] at hb))
      | (simp only [go_sem, Nat.reduceLeDiff, Nat.reduceEqDiff, reduceIte, reduceCtorEq, Nat.reduceAdd, Nat.reduceMul, Nat.reduceSub, Nat.reduceLT, Int.reduceLT, Int.reduceLE, Int.reduceNeg, Int.reduceToNat, Nat.reduceBEq, Nat.reduceBNe, Int.reduceGE, Int.reduceGT, *, cLawC, cBig, cDPo, cPats, cHP, cSup, cFP, c16, c15s, cSel, cHold, cBtoi, cEqTabs, Tryd.results5, e0])))
                all_goals first | rfl | skip
              · dsimp only at k hk
                have s4 := hsmv k
                clear hsmv
                by_cases h7 : k < C
                · obtain ⟨w1, w2⟩ := hsl k v
                  have eK : ((N + sm (fun a => selN (C : Int) rs a v) (k + 1) : Nat) : Int) = ((N + sm (fun a => selN (C : Int) rs a v) k : Nat) : Int) + (if decide (((selR (C : Int) rs (k : Nat) (v : Nat)).length : Int) > 0) = true then 1 else 0) := by
                    rw [sm]
                    unfold selN
                    split <;> simp <;> omega
                  clear hsl
                  generalize hM : N + sm (fun a => selN (C : Int) rs a v) k = M at *
                  have s5 : M ≤ 310 := by omega
                  have s6 : ∀ b : Bool, (0 : Int) ≤ (if b = true then 1 else 0) ∧ (if b = true then (1 : Int) else 0) ≤ 1 := fun b => by cases b <;> simp
                  have s7 := s6 (decide (((selR (C : Int) rs (k : Nat) (v : Nat)).length : Int) > 0))
                  generalize hI : (if decide (((selR (C : Int) rs (k : Nat) (v : Nat)).length : Int) > 0) = true then (1 : Int) else 0) = I at *
                  clear s6
                  have hI' : (if ((selR (C : Int) rs (k : Nat) (v : Nat)).length : Int) > 0 then (1 : Int) else 0) = I := by rw [← hI]; simp only [decide_eq_true_eq]
                  (repeat' (first
      | (refine gate_a fun _ => ?_)
      | (refine fork_intro (fun hb => ?_) (fun hb => ?_) <;> (try simp only [ew, hM, hI, hI'] at hb))
      | (simp only [go_sem, Nat.reduceLeDiff, Nat.reduceEqDiff, reduceIte, reduceCtorEq, Nat.reduceAdd, Nat.reduceMul, Nat.reduceSub, Nat.reduceLT, Int.reduceLT, Int.reduceLE, Int.reduceNeg, Int.reduceToNat, Nat.reduceBEq, Nat.reduceBNe, Int.reduceGE, Int.reduceGT, *, cLawC, cBig, cDPo, cPats, cHP, cSup, cFP, c16, c15s, cSel, cHold, cBtoi, cEqTabs, Tryd.results5, hM, hI, hI'])))
                  refine loop_next (k + 1) (by dsimp only; omega) (by dsimp only; omega) ?_
                  (repeat' (first
      | (refine gate_a fun _ => ?_)
      | (refine fork_intro (fun hb => ?_) (fun hb => ?_) <;> (try simp only [ew, eK, hI, hI'] at hb))
      | (simp only [go_sem, Nat.reduceLeDiff, Nat.reduceEqDiff, reduceIte, reduceCtorEq, Nat.reduceAdd, Nat.reduceMul, Nat.reduceSub, Nat.reduceLT, Int.reduceLT, Int.reduceLE, Int.reduceNeg, Int.reduceToNat, Nat.reduceBEq, Nat.reduceBNe, Int.reduceGE, Int.reduceGT, *, cLawC, cBig, cDPo, cPats, cHP, cSup, cFP, c16, c15s, cSel, cHold, cBtoi, cEqTabs, Tryd.results5, eK, hI, hI'])))
                  all_goals first | rfl | skip
                · have e7 : k = C := by omega
                  subst e7
                  clear hsl
                  have eV' : ((N + sm (fun a => selN ((k : Nat) : Int) rs a v) k : Nat) : Int) = ((sm (fun v => sm (fun a => selN ((k : Nat) : Int) rs a v) k) (v + 1) : Nat) : Int) := by rw [eV]
                  clear eV
                  (repeat' (first
      | (refine gate_a fun _ => ?_)
      | (refine fork_intro (fun hb => ?_) (fun hb => ?_) <;> (try simp only [ew, eV'] at hb))
      | (simp only [go_sem, Nat.reduceLeDiff, Nat.reduceEqDiff, reduceIte, reduceCtorEq, Nat.reduceAdd, Nat.reduceMul, Nat.reduceSub, Nat.reduceLT, Int.reduceLT, Int.reduceLE, Int.reduceNeg, Int.reduceToNat, Nat.reduceBEq, Nat.reduceBNe, Int.reduceGE, Int.reduceGT, *, cLawC, cBig, cDPo, cPats, cHP, cSup, cFP, c16, c15s, cSel, cHold, cBtoi, cEqTabs, Tryd.results5, eV'])))
                  refine loop_next (v + 1) (by dsimp only; omega) (by dsimp only; omega) ?_
                  (repeat' (first
      | (refine gate_a fun _ => ?_)
      | (refine fork_intro (fun hb => ?_) (fun hb => ?_) <;> (try simp only [ew, eV'] at hb))
      | (simp only [go_sem, Nat.reduceLeDiff, Nat.reduceEqDiff, reduceIte, reduceCtorEq, Nat.reduceAdd, Nat.reduceMul, Nat.reduceSub, Nat.reduceLT, Int.reduceLT, Int.reduceLE, Int.reduceNeg, Int.reduceToNat, Nat.reduceBEq, Nat.reduceBNe, Int.reduceGE, Int.reduceGT, *, cLawC, cBig, cDPo, cPats, cHP, cSup, cFP, c16, c15s, cSel, cHold, cBtoi, cEqTabs, Tryd.results5, eV'])))
                  all_goals first | rfl | skip
            · have e6 : decide (((v : Nat) : Int) ≤ 40) = false := decide_eq_false (by omega)
              have ev : v = 41 := by omega
              subst ev
              clear hsm hsl
              rw [← hcount]
              (repeat' (first
      | (refine gate_a fun _ => ?_)
      | (refine fork_intro (fun hb => ?_) (fun hb => ?_) <;> (try simp only [ew, e6, hd, hS, hSC] at hb))
      | (simp only [go_sem, Nat.reduceLeDiff, Nat.reduceEqDiff, reduceIte, reduceCtorEq, Nat.reduceAdd, Nat.reduceMul, Nat.reduceSub, Nat.reduceLT, Int.reduceLT, Int.reduceLE, Int.reduceNeg, Int.reduceToNat, Nat.reduceBEq, Nat.reduceBNe, Int.reduceGE, Int.reduceGT, *, cLawC, cBig, cDPo, cPats, cHP, cSup, cFP, c16, c15s, cSel, cHold, cBtoi, cEqTabs, Tryd.results5, e6, hd, hS, hSC])))
              all_goals first | rfl | skip
end Go.Own
