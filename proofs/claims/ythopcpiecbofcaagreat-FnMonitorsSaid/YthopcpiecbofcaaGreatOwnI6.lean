import Derived.Test.YthopcpiecbofcaaGreatOwnTd
set_option linter.unusedSimpArgs false
set_option linter.unusedVariables false
set_option maxRecDepth 20000
set_option maxHeartbeats 2000000
namespace Go.Own
open Go Go.Proofs
theorem unD_one {a b : Int} : unD [[D.v (.int .i64 a), D.v (.int .i64 b)]] = [(a, b)] := rfl
theorem wfD_one {a b : Int} : WfD [[D.v (.int .i64 a), D.v (.int .i64 b)]] ↔ True := by
 refine ⟨fun _ => trivial, fun _ => ⟨rfl, by show 1 ≤ maxLen; decide⟩⟩
attribute [local go_sem] unD_dL dL_length dL_get dL_set dL_inj wfD_dL scal2 beq2 pair_eta dL_scal unD_one wfD_one
theorem addK_len {ag : Int} {d : Int × Int} {K : List (Int × Int)} : ∀ {k : Nat}, (addK ag d K k).length ≤ K.length + k
 | 0 => Nat.le_refl _
 | k + 1 => by
  have := @addK_len ag d K k
  rw [addK, List.length_append]
  split <;> simp <;> omega
theorem addL_len {m : Nat} {ag : Int} : ∀ {B K : List (Int × Int)}, (addL m ag K B).length ≤ K.length + B.length * m
 | [], K => by simp [addL]
 | b :: B, K => by
  have h1 := @addL_len m ag B (addK ag b K m)
  have h2 := @addK_len ag b K m
  have e : addL m ag K (b :: B) = addL m ag (addK ag b K m) B := rfl
  rw [e, List.length_cons, Nat.add_mul]
  omega
theorem addL_take {m : Nat} {ag : Int} {K B : List (Int × Int)} {i : Nat} (h : i < B.length) : addL m ag K (B.take (i + 1)) = addK ag (B.getD i (0, 0)) (addL m ag K (B.take i)) m := by
 unfold addL
 rw [take_succ_getD h (0, 0), List.foldl_append]; rfl
theorem lowL_len {K : List (Int × Int)} : ∀ {i : Nat}, (lowL K i).length ≤ i
 | 0 => Nat.le_refl _
 | i + 1 => by
  have := @lowL_len K i
  rw [lowL, List.length_append]
  split <;> simp <;> omega
def cSpcS : Contract := ⟨[], false, fun
 | [.one (.sl 2 l), .one (.v (.int .i64 n)), .one (.v (.int .i64 ag))] => some (WfD l ∧ l.length ≤ 1048576 ∧ -9223372036854775808 ≤ n ∧ n ≤ 9223372036854775807, [⟨false, [.own 2 (dL (spcS n ag (unD l))) 1]⟩], [])
 | _ => none⟩
theorem spcS_ok : ContractOK E0 23 cSpcS := by
  refine contract_of_wpc (E := E0) (T := mkT Tryz.prog [(56, cL1In), (73, cIsAttr), (74, cDep), (75, cCov), (76, cS17)] false (fun _ => false) true (fun _ => false)) (mkT_ok (E := E0) (.cons l1In_ok (.cons isAttrS_ok (.cons depS_ok (.cons cov_ok (.cons s17_ok .nil)))))) (fn := Tryz.f23) Tryz.func23 (by kernel_rfl) rfl mixedT (by kernel_rfl) rfl ?_
  intro args p rs ms hr
  unfold cSpcS at hr
  dsimp only at hr
  split at hr
  rotate_left
  · cases hr
  rename_i l n ag
  simp only [Option.some.injEq, Prod.mk.injEq] at hr
  obtain ⟨rfl, rfl, rfl⟩ := hr
  refine ⟨rfl, rfl, Nat.le_of_ble_eq_true rfl, ?_⟩
  have hm : maxLen = 9223372036854775807 := rfl
  rintro ⟨h1, hl, hn1, hn2⟩ bs
  obtain ⟨ds, rfl, hx⟩ := h1.ex
  clear h1
  rw [dL_length] at hl
  rw [unD_dL]
  cases hv : spcV n ag
  · have e : spcS n ag ds = ds := by unfold spcS; rw [hv]; rfl
    rw [e]
    clear e
    have e0 : dL [] = [] := rfl
    have e3 : (!inB n 1 5 || !isAttr n ag) = true := by
      cases q : (!inB n 1 5 || !isAttr n ag) with
      | true => rfl
      | false =>
        simp only [Bool.or_eq_false_iff, Bool.not_eq_false'] at q
        unfold spcV at hv
        rw [inB_iff] at q
        rw [q.2, Bool.and_true, decide_eq_false_iff_not] at hv
        omega
    clear hv
    (repeat' (first | (refine gate_a fun _ => ?_) | (refine fork_intro (fun hb => ?_) (fun hb => ?_) <;> (try simp only [ew, e3] at hb)) | (simp only [go_sem, Nat.reduceLeDiff, Nat.reduceEqDiff, reduceIte, reduceCtorEq, Nat.reduceAdd, Nat.reduceMul, Nat.reduceSub, Nat.reduceLT, Int.reduceLT, Int.reduceLE, Int.reduceNeg, Int.reduceToNat, Nat.reduceBEq, Nat.reduceBNe, Int.reduceGE, Int.reduceGT, *, cSpcS, cL1In, cIsAttr, cDep, cCov, cS17, Tryz.results23, e3])))
    all_goals first | rfl | skip
  · have e : spcS n ag ds = s17 (lowL (keptD n ag ds) (keptD n ag ds).length) (pbsI n) n.toNat := by unfold spcS; rw [hv]; rfl
    rw [e]
    clear e
    unfold spcV at hv
    rw [Bool.and_eq_true, decide_eq_true_eq] at hv
    obtain ⟨n1, ha⟩ := hv
    obtain ⟨_, n5, g0, g31⟩ := isAttr_le ha
    have e3 : (!inB n 1 5 || !isAttr n ag) = false := by rw [inB_iff.2 ⟨n1, n5⟩, ha]; rfl
    obtain ⟨m, rfl⟩ := Int.eq_ofNat_of_zero_le (show 0 ≤ n by omega)
    unfold keptD
    rw [Int.toNat_natCast]
    clear ha
    have e0 : dL [] = [] := rfl
    (repeat' (first | (refine gate_a fun _ => ?_) | (refine fork_intro (fun hb => ?_) (fun hb => ?_) <;> (try simp only [ew, e3, e0] at hb)) | (simp only [go_sem, Nat.reduceLeDiff, Nat.reduceEqDiff, reduceIte, reduceCtorEq, Nat.reduceAdd, Nat.reduceMul, Nat.reduceSub, Nat.reduceLT, Int.reduceLT, Int.reduceLE, Int.reduceNeg, Int.reduceToNat, Nat.reduceBEq, Nat.reduceBNe, Int.reduceGE, Int.reduceGT, *, cSpcS, cL1In, cIsAttr, cDep, cCov, cS17, Tryz.results23, e3, e0])))
    refine loop_intro { ι := Nat, rs := [(31, 83)], mods := [(9, fun i => .one (.d (.v (.int .i64 i)))), (7, fun i => .one (.own 2 (dL ((ds.take i).filter fun d => !brkB m ag d)) 1)), (8, fun i => .one (.own 2 (dL ((ds.take i).filter (brkB m ag))) 1))], boxes := [], arrs := [], ok := fun i => i ≤ ds.length, mu := fun i => ds.length - i } rfl 0 (Nat.zero_le _) ?_ fun i hi => ?_
    · (repeat' (first | (refine gate_a fun _ => ?_) | (refine fork_intro (fun hb => ?_) (fun hb => ?_) <;> (try simp only [ew, e0, List.take_zero, List.filter_nil] at hb)) | (simp only [go_sem, Nat.reduceLeDiff, Nat.reduceEqDiff, reduceIte, reduceCtorEq, Nat.reduceAdd, Nat.reduceMul, Nat.reduceSub, Nat.reduceLT, Int.reduceLT, Int.reduceLE, Int.reduceNeg, Int.reduceToNat, Nat.reduceBEq, Nat.reduceBNe, Int.reduceGE, Int.reduceGT, *, cSpcS, cL1In, cIsAttr, cDep, cCov, cS17, Tryz.results23, e0, List.take_zero, List.filter_nil])))
      all_goals first | rfl | skip
    · dsimp only at i hi
      have s1 := List.length_filter_le (fun d => !brkB (m : Int) ag d) (ds.take i)
      have s2 := List.length_filter_le (brkB (m : Int) ag) (ds.take i)
      rw [List.length_take] at s1 s2
      by_cases h5 : i < ds.length
      · have eK := and_take (p := fun d => !brkB (m : Int) ag d) h5 (0, 0)
        have eB := and_take (p := brkB (m : Int) ag) h5 (0, 0)
        generalize hP : (ds.take i).filter (fun d => !brkB (m : Int) ag d) = P at s1 eK
        generalize hQ : (ds.take i).filter (brkB (m : Int) ag) = Q at s2 eB
        have p1 : P.length ≤ maxLen := by have : P.length ≤ 1048576 := by omega
                                          exact Nat.le_trans this (by decide)
        have p2 : P.length ≤ 1048576 := by omega
        have p3 : Q.length ≤ maxLen := by have : Q.length ≤ 1048576 := by omega
                                          exact Nat.le_trans this (by decide)
        have p4 : Q.length ≤ 1048576 := by omega
        clear s1 s2
        generalize hg : ds.getD i (0, 0) = g at eK eB
        obtain ⟨a, b⟩ := g
        have hbrk : brkB (m : Int) ag (a, b) = (depOK (m : Int) a b && (bitI .and .i64 ag a == a) && (bitI .and .i64 (ag.fdiv (2 ^ b.toNat)) 1 == 0)) := rfl
        rw [hbrk] at eK eB
        clear hbrk
        cases hd : depOK (m : Int) a b
        · rw [hd, Bool.false_and, Bool.false_and, if_pos (by decide)] at eK
          rw [hd, Bool.false_and, Bool.false_and, if_neg (by decide), List.append_nil] at eB
          (repeat' (first | (refine gate_a fun _ => ?_) | (refine fork_intro (fun hb => ?_) (fun hb => ?_) <;> (try simp only [ew, hP, hQ, hg, hd, dL_snoc] at hb)) | (simp only [go_sem, Nat.reduceLeDiff, Nat.reduceEqDiff, reduceIte, reduceCtorEq, Nat.reduceAdd, Nat.reduceMul, Nat.reduceSub, Nat.reduceLT, Int.reduceLT, Int.reduceLE, Int.reduceNeg, Int.reduceToNat, Nat.reduceBEq, Nat.reduceBNe, Int.reduceGE, Int.reduceGT, *, cSpcS, cL1In, cIsAttr, cDep, cCov, cS17, Tryz.results23, hP, hQ, hg, hd, dL_snoc])))
          refine loop_next (i + 1) (by dsimp only; omega) (by dsimp only; omega) ?_
          (repeat' (first | (refine gate_a fun _ => ?_) | (refine fork_intro (fun hb => ?_) (fun hb => ?_) <;> (try simp only [ew, hP, hQ, eK, eB, hg, hd, dL_snoc] at hb)) | (simp only [go_sem, Nat.reduceLeDiff, Nat.reduceEqDiff, reduceIte, reduceCtorEq, Nat.reduceAdd, Nat.reduceMul, Nat.reduceSub, Nat.reduceLT, Int.reduceLT, Int.reduceLE, Int.reduceNeg, Int.reduceToNat, Nat.reduceBEq, Nat.reduceBNe, Int.reduceGE, Int.reduceGT, *, cSpcS, cL1In, cIsAttr, cDep, cCov, cS17, Tryz.results23, hP, hQ, eK, eB, hg, hd, dL_snoc])))
        · obtain ⟨⟨a0, a31⟩, b0, b4⟩ := depOK_R hd
          rw [hd, Bool.true_and] at eK eB
          cases hA : (bitI .and .i64 ag a == a)
          · rw [hA, Bool.false_and, if_pos (by decide)] at eK
            rw [hA, Bool.false_and, if_neg (by decide), List.append_nil] at eB
            (repeat' (first | (refine gate_a fun _ => ?_) | (refine fork_intro (fun hb => ?_) (fun hb => ?_) <;> (try simp only [ew, hP, hQ, hg, hd, hA, dL_snoc] at hb)) | (simp only [go_sem, Nat.reduceLeDiff, Nat.reduceEqDiff, reduceIte, reduceCtorEq, Nat.reduceAdd, Nat.reduceMul, Nat.reduceSub, Nat.reduceLT, Int.reduceLT, Int.reduceLE, Int.reduceNeg, Int.reduceToNat, Nat.reduceBEq, Nat.reduceBNe, Int.reduceGE, Int.reduceGT, *, cSpcS, cL1In, cIsAttr, cDep, cCov, cS17, Tryz.results23, hP, hQ, hg, hd, hA, dL_snoc])))
            refine loop_next (i + 1) (by dsimp only; omega) (by dsimp only; omega) ?_
            (repeat' (first | (refine gate_a fun _ => ?_) | (refine fork_intro (fun hb => ?_) (fun hb => ?_) <;> (try simp only [ew, hP, hQ, eK, eB, hg, hd, hA, dL_snoc] at hb)) | (simp only [go_sem, Nat.reduceLeDiff, Nat.reduceEqDiff, reduceIte, reduceCtorEq, Nat.reduceAdd, Nat.reduceMul, Nat.reduceSub, Nat.reduceLT, Int.reduceLT, Int.reduceLE, Int.reduceNeg, Int.reduceToNat, Nat.reduceBEq, Nat.reduceBNe, Int.reduceGE, Int.reduceGT, *, cSpcS, cL1In, cIsAttr, cDep, cCov, cS17, Tryz.results23, hP, hQ, eK, eB, hg, hd, hA, dL_snoc])))
          · rw [hA, Bool.true_and] at eK eB
            cases hz : (bitI .and .i64 (ag.fdiv (2 ^ b.toNat)) 1 == 0)
            · rw [hz, if_pos (by decide)] at eK
              rw [hz, if_neg (by decide), List.append_nil] at eB
              (repeat' (first | (refine gate_a fun _ => ?_) | (refine fork_intro (fun hb => ?_) (fun hb => ?_) <;> (try simp only [ew, bits64, hP, hQ, hg, hd, hA, hz, dL_snoc] at hb)) | (simp only [go_sem, Nat.reduceLeDiff, Nat.reduceEqDiff, reduceIte, reduceCtorEq, Nat.reduceAdd, Nat.reduceMul, Nat.reduceSub, Nat.reduceLT, Int.reduceLT, Int.reduceLE, Int.reduceNeg, Int.reduceToNat, Nat.reduceBEq, Nat.reduceBNe, Int.reduceGE, Int.reduceGT, *, cSpcS, cL1In, cIsAttr, cDep, cCov, cS17, Tryz.results23, bits64, hP, hQ, hg, hd, hA, hz, dL_snoc])))
              refine loop_next (i + 1) (by dsimp only; omega) (by dsimp only; omega) ?_
              (repeat' (first | (refine gate_a fun _ => ?_) | (refine fork_intro (fun hb => ?_) (fun hb => ?_) <;> (try simp only [ew, hP, hQ, eK, eB, hg, hd, hA, hz, dL_snoc] at hb)) | (simp only [go_sem, Nat.reduceLeDiff, Nat.reduceEqDiff, reduceIte, reduceCtorEq, Nat.reduceAdd, Nat.reduceMul, Nat.reduceSub, Nat.reduceLT, Int.reduceLT, Int.reduceLE, Int.reduceNeg, Int.reduceToNat, Nat.reduceBEq, Nat.reduceBNe, Int.reduceGE, Int.reduceGT, *, cSpcS, cL1In, cIsAttr, cDep, cCov, cS17, Tryz.results23, hP, hQ, eK, eB, hg, hd, hA, hz, dL_snoc])))
            · rw [hz, if_neg (by decide), List.append_nil] at eK
              rw [hz, if_pos rfl] at eB
              (repeat' (first | (refine gate_a fun _ => ?_) | (refine fork_intro (fun hb => ?_) (fun hb => ?_) <;> (try simp only [ew, bits64, hP, hQ, hg, hd, hA, hz, dL_snoc] at hb)) | (simp only [go_sem, Nat.reduceLeDiff, Nat.reduceEqDiff, reduceIte, reduceCtorEq, Nat.reduceAdd, Nat.reduceMul, Nat.reduceSub, Nat.reduceLT, Int.reduceLT, Int.reduceLE, Int.reduceNeg, Int.reduceToNat, Nat.reduceBEq, Nat.reduceBNe, Int.reduceGE, Int.reduceGT, *, cSpcS, cL1In, cIsAttr, cDep, cCov, cS17, Tryz.results23, bits64, hP, hQ, hg, hd, hA, hz, dL_snoc])))
              refine loop_next (i + 1) (by dsimp only; omega) (by dsimp only; omega) ?_
              (repeat' (first | (refine gate_a fun _ => ?_) | (refine fork_intro (fun hb => ?_) (fun hb => ?_) <;> (try simp only [ew, hP, hQ, eK, eB, hg, hd, hA, hz, dL_snoc] at hb)) | (simp only [go_sem, Nat.reduceLeDiff, Nat.reduceEqDiff, reduceIte, reduceCtorEq, Nat.reduceAdd, Nat.reduceMul, Nat.reduceSub, Nat.reduceLT, Int.reduceLT, Int.reduceLE, Int.reduceNeg, Int.reduceToNat, Nat.reduceBEq, Nat.reduceBNe, Int.reduceGE, Int.reduceGT, *, cSpcS, cL1In, cIsAttr, cDep, cCov, cS17, Tryz.results23, hP, hQ, eK, eB, hg, hd, hA, hz, dL_snoc])))
      · have e5 : i = ds.length := by omega
        subst e5
        have eP : ds.take ds.length = ds := List.take_length
        rw [eP] at s1 s2
        have hBR : ∀ d ∈ ds.filter (brkB (m : Int) ag), depR d := fun d hd => depOK_R (brk_valid (List.mem_filter.1 hd).2)
        generalize hP : ds.filter (fun d => !brkB (m : Int) ag d) = P at s1 ⊢
        generalize hB : ds.filter (brkB (m : Int) ag) = B at s2 hBR ⊢
        have p2 : P.length ≤ 1048576 := by omega
        have p4 : B.length ≤ 1048576 := by omega
        have p1 : P.length ≤ maxLen := Nat.le_trans p2 (by decide)
        have p3 : B.length ≤ maxLen := Nat.le_trans p4 (by decide)
        clear s1 s2 hi
        have hal := fun i => @addL_len m ag (B.take i) P
        have e1 : addL m ag P (B.take 0) = P := rfl
        (repeat' (first | (refine gate_a fun _ => ?_) | (refine fork_intro (fun hb => ?_) (fun hb => ?_) <;> (try simp only [ew, eP, hP, hB] at hb)) | (simp only [go_sem, Nat.reduceLeDiff, Nat.reduceEqDiff, reduceIte, reduceCtorEq, Nat.reduceAdd, Nat.reduceMul, Nat.reduceSub, Nat.reduceLT, Int.reduceLT, Int.reduceLE, Int.reduceNeg, Int.reduceToNat, Nat.reduceBEq, Nat.reduceBNe, Int.reduceGE, Int.reduceGT, *, cSpcS, cL1In, cIsAttr, cDep, cCov, cS17, Tryz.results23, eP, hP, hB])))
        refine loop_intro { ι := Nat, rs := [(11, 13), (83, 129)], mods := [(10, fun i => .one (.d (.v (.int .i64 i)))), (7, fun i => .one (.own 2 (dL (addL m ag P (B.take i))) 1))], boxes := [], arrs := [(8, fun _ => (2, dL B, 1))], ok := fun i => i ≤ B.length, mu := fun i => B.length - i } rfl 0 (Nat.zero_le _) ?_ fun i hi => ?_
        · clear hal hBR
          (repeat' (first | (refine gate_a fun _ => ?_) | (refine fork_intro (fun hb => ?_) (fun hb => ?_) <;> (try simp only [ew, e1] at hb)) | (simp only [go_sem, Nat.reduceLeDiff, Nat.reduceEqDiff, reduceIte, reduceCtorEq, Nat.reduceAdd, Nat.reduceMul, Nat.reduceSub, Nat.reduceLT, Int.reduceLT, Int.reduceLE, Int.reduceNeg, Int.reduceToNat, Nat.reduceBEq, Nat.reduceBNe, Int.reduceGE, Int.reduceGT, *, cSpcS, cL1In, cIsAttr, cDep, cCov, cS17, Tryz.results23, e1])))
          all_goals first | rfl | skip
        · dsimp only at i hi
          have l1 := hal i
          rw [List.length_take] at l1
          have l2 : (addL m ag P (B.take i)).length ≤ 6291456 := by
            refine Nat.le_trans l1 ?_
            have h1 : min i B.length * m ≤ 1048576 * 5 := Nat.mul_le_mul (by omega) (by omega)
            omega
          have l3 : (addL m ag P (B.take i)).length ≤ maxLen := Nat.le_trans l2 (by decide)
          clear l1
          by_cases h6 : i < B.length
          · have eS := addL_take (m := m) (ag := ag) (K := P) h6
            obtain ⟨⟨a0, a31⟩, b0, b4⟩ := hBR _ (getD_mem h6 (0, 0))
            clear hal hBR
            generalize hQ : addL m ag P (B.take i) = Q at l2 l3 eS
            generalize hg : B.getD i (0, 0) = g at eS a0 a31 b0 b4
            obtain ⟨a, b⟩ := g
            dsimp only at a0 a31 b0 b4
            have e2 : addK ag (a, b) Q 0 = Q := rfl
            have hkl := fun k => @addK_len ag (a, b) Q k
            (repeat' (first | (refine gate_a fun _ => ?_) | (refine fork_intro (fun hb => ?_) (fun hb => ?_) <;> (try simp only [ew, hQ] at hb)) | (simp only [go_sem, Nat.reduceLeDiff, Nat.reduceEqDiff, reduceIte, reduceCtorEq, Nat.reduceAdd, Nat.reduceMul, Nat.reduceSub, Nat.reduceLT, Int.reduceLT, Int.reduceLE, Int.reduceNeg, Int.reduceToNat, Nat.reduceBEq, Nat.reduceBNe, Int.reduceGE, Int.reduceGT, *, cSpcS, cL1In, cIsAttr, cDep, cCov, cS17, Tryz.results23, hQ])))
            refine loop_intro { ι := Nat, rs := [(12, 13), (89, 129)], mods := [(11, fun k => .one (.d (.v (.int .i64 k)))), (7, fun k => .one (.own 2 (dL (addK ag (a, b) Q k)) 1))], boxes := [], arrs := [(8, fun _ => (2, dL B, 1))], ok := fun k => k ≤ m, mu := fun k => m - k } rfl 0 (Nat.zero_le _) ?_ fun k hk => ?_
            · clear hkl
              (repeat' (first | (refine gate_a fun _ => ?_) | (refine fork_intro (fun hb => ?_) (fun hb => ?_) <;> (try simp only [ew, hQ, e2] at hb)) | (simp only [go_sem, Nat.reduceLeDiff, Nat.reduceEqDiff, reduceIte, reduceCtorEq, Nat.reduceAdd, Nat.reduceMul, Nat.reduceSub, Nat.reduceLT, Int.reduceLT, Int.reduceLE, Int.reduceNeg, Int.reduceToNat, Nat.reduceBEq, Nat.reduceBNe, Int.reduceGE, Int.reduceGT, *, cSpcS, cL1In, cIsAttr, cDep, cCov, cS17, Tryz.results23, hQ, e2])))
              all_goals first | rfl | skip
            · dsimp only at k hk
              have x1 := hkl k
              have x2 : (addK ag (a, b) Q k).length ≤ 6291461 := by omega
              have x3 : (addK ag (a, b) Q k).length ≤ maxLen := Nat.le_trans x2 (by decide)
              clear hkl x1
              by_cases h7 : k < m
              · have hpw := p5 (c := k) (by omega)
                have eE : addK ag (a, b) Q (k + 1) = addK ag (a, b) Q k ++ (if (bitI .and .i64 (ag.fdiv (2 ^ k)) 1 == 0) && ((k : Nat) : Int) != b && !cov (addK ag (a, b) Q k) (addB a (k : Nat), b) then [(addB a (k : Nat), b)] else []) := rfl
                have eo : bitI .or .i64 a (1 * 2 ^ k) = addB a (k : Nat) := by unfold addB; rw [Int.toNat_natCast]
                generalize hT : addK ag (a, b) Q k = T at x2 x3 eE
                generalize hu : addB a (k : Nat) = u at eo eE
                cases hA : (bitI .and .i64 (ag.fdiv (2 ^ k)) 1 == 0)
                · rw [hA, Bool.false_and, Bool.false_and, if_neg (by decide), List.append_nil] at eE
                  (repeat' (first | (refine gate_a fun _ => ?_) | (refine fork_intro (fun hb => ?_) (fun hb => ?_) <;> (try simp only [ew, bits64, hT, hg, hA, eo] at hb)) | (simp only [go_sem, Nat.reduceLeDiff, Nat.reduceEqDiff, reduceIte, reduceCtorEq, Nat.reduceAdd, Nat.reduceMul, Nat.reduceSub, Nat.reduceLT, Int.reduceLT, Int.reduceLE, Int.reduceNeg, Int.reduceToNat, Nat.reduceBEq, Nat.reduceBNe, Int.reduceGE, Int.reduceGT, *, cSpcS, cL1In, cIsAttr, cDep, cCov, cS17, Tryz.results23, bits64, hT, hg, hA, eo])))
                  refine loop_next (k + 1) (by dsimp only; omega) (by dsimp only; omega) ?_
                  (repeat' (first | (refine gate_a fun _ => ?_) | (refine fork_intro (fun hb => ?_) (fun hb => ?_) <;> (try simp only [ew, hT, eE, hA, eo] at hb)) | (simp only [go_sem, Nat.reduceLeDiff, Nat.reduceEqDiff, reduceIte, reduceCtorEq, Nat.reduceAdd, Nat.reduceMul, Nat.reduceSub, Nat.reduceLT, Int.reduceLT, Int.reduceLE, Int.reduceNeg, Int.reduceToNat, Nat.reduceBEq, Nat.reduceBNe, Int.reduceGE, Int.reduceGT, *, cSpcS, cL1In, cIsAttr, cDep, cCov, cS17, Tryz.results23, hT, eE, hA, eo])))
                · rw [hA, Bool.true_and] at eE
                  cases hC : (((k : Nat) : Int) != b)
                  · rw [hC, Bool.false_and, if_neg (by decide), List.append_nil] at eE
                    (repeat' (first | (refine gate_a fun _ => ?_) | (refine fork_intro (fun hb => ?_) (fun hb => ?_) <;> (try simp only [ew, bits64, hT, hg, hA, hC, eo] at hb)) | (simp only [go_sem, Nat.reduceLeDiff, Nat.reduceEqDiff, reduceIte, reduceCtorEq, Nat.reduceAdd, Nat.reduceMul, Nat.reduceSub, Nat.reduceLT, Int.reduceLT, Int.reduceLE, Int.reduceNeg, Int.reduceToNat, Nat.reduceBEq, Nat.reduceBNe, Int.reduceGE, Int.reduceGT, *, cSpcS, cL1In, cIsAttr, cDep, cCov, cS17, Tryz.results23, bits64, hT, hg, hA, hC, eo])))
                    refine loop_next (k + 1) (by dsimp only; omega) (by dsimp only; omega) ?_
                    (repeat' (first | (refine gate_a fun _ => ?_) | (refine fork_intro (fun hb => ?_) (fun hb => ?_) <;> (try simp only [ew, hT, eE, hA, hC, eo] at hb)) | (simp only [go_sem, Nat.reduceLeDiff, Nat.reduceEqDiff, reduceIte, reduceCtorEq, Nat.reduceAdd, Nat.reduceMul, Nat.reduceSub, Nat.reduceLT, Int.reduceLT, Int.reduceLE, Int.reduceNeg, Int.reduceToNat, Nat.reduceBEq, Nat.reduceBNe, Int.reduceGE, Int.reduceGT, *, cSpcS, cL1In, cIsAttr, cDep, cCov, cS17, Tryz.results23, hT, eE, hA, hC, eo])))
                  · rw [hC, Bool.true_and] at eE
                    cases hD : cov T (u, b)
                    · rw [hD, if_pos (show (!false) = true from rfl)] at eE
                      (repeat' (first | (refine gate_a fun _ => ?_) | (refine fork_intro (fun hb => ?_) (fun hb => ?_) <;> (try simp only [ew, bits64, hT, hg, hA, hC, hD, eo, dL_snoc] at hb)) | (simp only [go_sem, Nat.reduceLeDiff, Nat.reduceEqDiff, reduceIte, reduceCtorEq, Nat.reduceAdd, Nat.reduceMul, Nat.reduceSub, Nat.reduceLT, Int.reduceLT, Int.reduceLE, Int.reduceNeg, Int.reduceToNat, Nat.reduceBEq, Nat.reduceBNe, Int.reduceGE, Int.reduceGT, *, cSpcS, cL1In, cIsAttr, cDep, cCov, cS17, Tryz.results23, bits64, hT, hg, hA, hC, hD, eo, dL_snoc])))
                      refine loop_next (k + 1) (by dsimp only; omega) (by dsimp only; omega) ?_
                      (repeat' (first | (refine gate_a fun _ => ?_) | (refine fork_intro (fun hb => ?_) (fun hb => ?_) <;> (try simp only [ew, hT, eE, hA, hC, hD, eo, dL_snoc] at hb)) | (simp only [go_sem, Nat.reduceLeDiff, Nat.reduceEqDiff, reduceIte, reduceCtorEq, Nat.reduceAdd, Nat.reduceMul, Nat.reduceSub, Nat.reduceLT, Int.reduceLT, Int.reduceLE, Int.reduceNeg, Int.reduceToNat, Nat.reduceBEq, Nat.reduceBNe, Int.reduceGE, Int.reduceGT, *, cSpcS, cL1In, cIsAttr, cDep, cCov, cS17, Tryz.results23, hT, eE, hA, hC, hD, eo, dL_snoc])))
                    · rw [hD, if_neg (by decide), List.append_nil] at eE
                      (repeat' (first | (refine gate_a fun _ => ?_) | (refine fork_intro (fun hb => ?_) (fun hb => ?_) <;> (try simp only [ew, bits64, hT, hg, hA, hC, hD, eo] at hb)) | (simp only [go_sem, Nat.reduceLeDiff, Nat.reduceEqDiff, reduceIte, reduceCtorEq, Nat.reduceAdd, Nat.reduceMul, Nat.reduceSub, Nat.reduceLT, Int.reduceLT, Int.reduceLE, Int.reduceNeg, Int.reduceToNat, Nat.reduceBEq, Nat.reduceBNe, Int.reduceGE, Int.reduceGT, *, cSpcS, cL1In, cIsAttr, cDep, cCov, cS17, Tryz.results23, bits64, hT, hg, hA, hC, hD, eo])))
                      refine loop_next (k + 1) (by dsimp only; omega) (by dsimp only; omega) ?_
                      (repeat' (first | (refine gate_a fun _ => ?_) | (refine fork_intro (fun hb => ?_) (fun hb => ?_) <;> (try simp only [ew, hT, eE, hA, hC, hD, eo] at hb)) | (simp only [go_sem, Nat.reduceLeDiff, Nat.reduceEqDiff, reduceIte, reduceCtorEq, Nat.reduceAdd, Nat.reduceMul, Nat.reduceSub, Nat.reduceLT, Int.reduceLT, Int.reduceLE, Int.reduceNeg, Int.reduceToNat, Nat.reduceBEq, Nat.reduceBNe, Int.reduceGE, Int.reduceGT, *, cSpcS, cL1In, cIsAttr, cDep, cCov, cS17, Tryz.results23, hT, eE, hA, hC, hD, eo])))
              · have e7 : k = m := by omega
                subst e7
                (repeat' (first | (refine gate_a fun _ => ?_) | (refine fork_intro (fun hb => ?_) (fun hb => ?_) <;> (try simp only [ew] at hb)) | (simp only [go_sem, Nat.reduceLeDiff, Nat.reduceEqDiff, reduceIte, reduceCtorEq, Nat.reduceAdd, Nat.reduceMul, Nat.reduceSub, Nat.reduceLT, Int.reduceLT, Int.reduceLE, Int.reduceNeg, Int.reduceToNat, Nat.reduceBEq, Nat.reduceBNe, Int.reduceGE, Int.reduceGT, *, cSpcS, cL1In, cIsAttr, cDep, cCov, cS17, Tryz.results23])))
                refine loop_next (i + 1) (by dsimp only; omega) (by dsimp only; omega) ?_
                (repeat' (first | (refine gate_a fun _ => ?_) | (refine fork_intro (fun hb => ?_) (fun hb => ?_) <;> (try simp only [ew, hQ, eS] at hb)) | (simp only [go_sem, Nat.reduceLeDiff, Nat.reduceEqDiff, reduceIte, reduceCtorEq, Nat.reduceAdd, Nat.reduceMul, Nat.reduceSub, Nat.reduceLT, Int.reduceLT, Int.reduceLE, Int.reduceNeg, Int.reduceToNat, Nat.reduceBEq, Nat.reduceBNe, Int.reduceGE, Int.reduceGT, *, cSpcS, cL1In, cIsAttr, cDep, cCov, cS17, Tryz.results23, hQ, eS])))
          · have e6 : i = B.length := by omega
            subst e6
            have eB : B.take B.length = B := List.take_length
            rw [eB] at l2 l3
            clear hal hBR
            generalize hK : addL m ag P B = K at l2 l3 ⊢
            have hll := fun i => @lowL_len K i
            have e4 : lowL K 0 = [] := rfl
            (repeat' (first | (refine gate_a fun _ => ?_) | (refine fork_intro (fun hb => ?_) (fun hb => ?_) <;> (try simp only [ew, eB, hK, e0] at hb)) | (simp only [go_sem, Nat.reduceLeDiff, Nat.reduceEqDiff, reduceIte, reduceCtorEq, Nat.reduceAdd, Nat.reduceMul, Nat.reduceSub, Nat.reduceLT, Int.reduceLT, Int.reduceLE, Int.reduceNeg, Int.reduceToNat, Nat.reduceBEq, Nat.reduceBNe, Int.reduceGE, Int.reduceGT, *, cSpcS, cL1In, cIsAttr, cDep, cCov, cS17, Tryz.results23, eB, hK, e0])))
            refine loop_intro { ι := Nat, rs := [(15, 17), (130, 185)], mods := [(14, fun i => .one (.d (.v (.int .i64 i)))), (13, fun i => .one (.own 2 (dL (lowL K i)) 1))], boxes := [], arrs := [(7, fun _ => (2, dL K, 1))], ok := fun i => i ≤ K.length, mu := fun i => K.length - i } rfl 0 (Nat.zero_le _) ?_ fun i hi => ?_
            · clear hll
              (repeat' (first | (refine gate_a fun _ => ?_) | (refine fork_intro (fun hb => ?_) (fun hb => ?_) <;> (try simp only [ew, e4, e0] at hb)) | (simp only [go_sem, Nat.reduceLeDiff, Nat.reduceEqDiff, reduceIte, reduceCtorEq, Nat.reduceAdd, Nat.reduceMul, Nat.reduceSub, Nat.reduceLT, Int.reduceLT, Int.reduceLE, Int.reduceNeg, Int.reduceToNat, Nat.reduceBEq, Nat.reduceBNe, Int.reduceGE, Int.reduceGT, *, cSpcS, cL1In, cIsAttr, cDep, cCov, cS17, Tryz.results23, e4, e0])))
              all_goals first | rfl | skip
            · dsimp only at i hi
              have o1 := hll i
              have o2 : (lowL K i).length ≤ 6291456 := by omega
              have o3 : (lowL K i).length ≤ maxLen := Nat.le_trans o2 (by decide)
              clear hll o1
              by_cases h8 : i < K.length
              · have eW : lowL K (i + 1) = lowL K i ++ (if fineN K i K.length then [K.getD i (0, 0)] else []) := rfl
                have eF0 : fineN K i 0 = true := rfl
                generalize hO : lowL K i = O at o2 o3 eW
                generalize hg : K.getD i (0, 0) = g at eW
                obtain ⟨a, b⟩ := g
                (repeat' (first | (refine gate_a fun _ => ?_) | (refine fork_intro (fun hb => ?_) (fun hb => ?_) <;> (try simp only [ew, hO, hg] at hb)) | (simp only [go_sem, Nat.reduceLeDiff, Nat.reduceEqDiff, reduceIte, reduceCtorEq, Nat.reduceAdd, Nat.reduceMul, Nat.reduceSub, Nat.reduceLT, Int.reduceLT, Int.reduceLE, Int.reduceNeg, Int.reduceToNat, Nat.reduceBEq, Nat.reduceBNe, Int.reduceGE, Int.reduceGT, *, cSpcS, cL1In, cIsAttr, cDep, cCov, cS17, Tryz.results23, hO, hg])))
                refine loop_intro { ι := Nat, rs := [(136, 177)], mods := [(16, fun k => .one (.d (.v (.int .i64 k)))), (15, fun k => .one (.d (.v (.bool (fineN K i k)))))], boxes := [], arrs := [(7, fun _ => (2, dL K, 1)), (13, fun _ => (2, dL O, 1))], ok := fun k => k ≤ K.length, mu := fun k => K.length - k } rfl 0 (Nat.zero_le _) ?_ fun k hk => ?_
                · (repeat' (first | (refine gate_a fun _ => ?_) | (refine fork_intro (fun hb => ?_) (fun hb => ?_) <;> (try simp only [ew, hO, hg, eF0] at hb)) | (simp only [go_sem, Nat.reduceLeDiff, Nat.reduceEqDiff, reduceIte, reduceCtorEq, Nat.reduceAdd, Nat.reduceMul, Nat.reduceSub, Nat.reduceLT, Int.reduceLT, Int.reduceLE, Int.reduceNeg, Int.reduceToNat, Nat.reduceBEq, Nat.reduceBNe, Int.reduceGE, Int.reduceGT, *, cSpcS, cL1In, cIsAttr, cDep, cCov, cS17, Tryz.results23, hO, hg, eF0])))
                  all_goals first | rfl | skip
                · dsimp only at k hk
                  by_cases h9 : k < K.length
                  · have et : fineN K i (k + 1) = (fineN K i k && fineT K i k) := rfl
                    unfold fineT at et
                    rw [hg] at et
                    generalize hh : K.getD k (0, 0) = h at et
                    obtain ⟨u, v⟩ := h
                    clear eW
                    generalize hf : fineN K i k = b0 at et
                    cases b0
                    · rw [Bool.false_and] at et
                      (repeat' (first | (refine gate_a fun _ => ?_) | (refine fork_intro (fun hb => ?_) (fun hb => ?_) <;> (try simp only [ew, hf, hh, hg] at hb)) | (simp only [go_sem, Nat.reduceLeDiff, Nat.reduceEqDiff, reduceIte, reduceCtorEq, Nat.reduceAdd, Nat.reduceMul, Nat.reduceSub, Nat.reduceLT, Int.reduceLT, Int.reduceLE, Int.reduceNeg, Int.reduceToNat, Nat.reduceBEq, Nat.reduceBNe, Int.reduceGE, Int.reduceGT, *, cSpcS, cL1In, cIsAttr, cDep, cCov, cS17, Tryz.results23, hf, hh, hg])))
                      refine loop_next (k + 1) (by dsimp only; omega) (by dsimp only; omega) ?_
                      (repeat' (first | (refine gate_a fun _ => ?_) | (refine fork_intro (fun hb => ?_) (fun hb => ?_) <;> (try simp only [ew, hf, et, hh, hg] at hb)) | (simp only [go_sem, Nat.reduceLeDiff, Nat.reduceEqDiff, reduceIte, reduceCtorEq, Nat.reduceAdd, Nat.reduceMul, Nat.reduceSub, Nat.reduceLT, Int.reduceLT, Int.reduceLE, Int.reduceNeg, Int.reduceToNat, Nat.reduceBEq, Nat.reduceBNe, Int.reduceGE, Int.reduceGT, *, cSpcS, cL1In, cIsAttr, cDep, cCov, cS17, Tryz.results23, hf, et, hh, hg])))
                    · rw [Bool.true_and] at et
                      cases q1 : ((k : Int) == (i : Int))
                      · rw [q1, Bool.false_or] at et
                        cases q2 : cov [(u, v)] (a, b)
                        · rw [q2, Bool.not_false, Bool.true_or] at et
                          (repeat' (first | (refine gate_a fun _ => ?_) | (refine fork_intro (fun hb => ?_) (fun hb => ?_) <;> (try simp only [ew, hf, hh, hg, q1, q2] at hb)) | (simp only [go_sem, Nat.reduceLeDiff, Nat.reduceEqDiff, reduceIte, reduceCtorEq, Nat.reduceAdd, Nat.reduceMul, Nat.reduceSub, Nat.reduceLT, Int.reduceLT, Int.reduceLE, Int.reduceNeg, Int.reduceToNat, Nat.reduceBEq, Nat.reduceBNe, Int.reduceGE, Int.reduceGT, *, cSpcS, cL1In, cIsAttr, cDep, cCov, cS17, Tryz.results23, hf, hh, hg, q1, q2])))
                          refine loop_next (k + 1) (by dsimp only; omega) (by dsimp only; omega) ?_
                          (repeat' (first | (refine gate_a fun _ => ?_) | (refine fork_intro (fun hb => ?_) (fun hb => ?_) <;> (try simp only [ew, hf, et, hh, hg, q1, q2] at hb)) | (simp only [go_sem, Nat.reduceLeDiff, Nat.reduceEqDiff, reduceIte, reduceCtorEq, Nat.reduceAdd, Nat.reduceMul, Nat.reduceSub, Nat.reduceLT, Int.reduceLT, Int.reduceLE, Int.reduceNeg, Int.reduceToNat, Nat.reduceBEq, Nat.reduceBNe, Int.reduceGE, Int.reduceGT, *, cSpcS, cL1In, cIsAttr, cDep, cCov, cS17, Tryz.results23, hf, et, hh, hg, q1, q2])))
                        · rw [q2, Bool.not_true, Bool.false_or] at et
                          cases q3 : ((u, v) == (a, b))
                          · rw [q3, Bool.false_and] at et
                            (repeat' (first | (refine gate_a fun _ => ?_) | (refine fork_intro (fun hb => ?_) (fun hb => ?_) <;> (try simp only [ew, hf, hh, hg, q1, q2, q3] at hb)) | (simp only [go_sem, Nat.reduceLeDiff, Nat.reduceEqDiff, reduceIte, reduceCtorEq, Nat.reduceAdd, Nat.reduceMul, Nat.reduceSub, Nat.reduceLT, Int.reduceLT, Int.reduceLE, Int.reduceNeg, Int.reduceToNat, Nat.reduceBEq, Nat.reduceBNe, Int.reduceGE, Int.reduceGT, *, cSpcS, cL1In, cIsAttr, cDep, cCov, cS17, Tryz.results23, hf, hh, hg, q1, q2, q3])))
                            refine loop_next (k + 1) (by dsimp only; omega) (by dsimp only; omega) ?_
                            (repeat' (first | (refine gate_a fun _ => ?_) | (refine fork_intro (fun hb => ?_) (fun hb => ?_) <;> (try simp only [ew, hf, et, hh, hg, q1, q2, q3] at hb)) | (simp only [go_sem, Nat.reduceLeDiff, Nat.reduceEqDiff, reduceIte, reduceCtorEq, Nat.reduceAdd, Nat.reduceMul, Nat.reduceSub, Nat.reduceLT, Int.reduceLT, Int.reduceLE, Int.reduceNeg, Int.reduceToNat, Nat.reduceBEq, Nat.reduceBNe, Int.reduceGE, Int.reduceGT, *, cSpcS, cL1In, cIsAttr, cDep, cCov, cS17, Tryz.results23, hf, et, hh, hg, q1, q2, q3])))
                          · rw [q3, Bool.true_and] at et
                            cases q4 : decide ((k : Int) > (i : Int))
                            · rw [q4] at et
                              (repeat' (first | (refine gate_a fun _ => ?_) | (refine fork_intro (fun hb => ?_) (fun hb => ?_) <;> (try simp only [ew, hf, hh, hg, q1, q2, q3, q4] at hb)) | (simp only [go_sem, Nat.reduceLeDiff, Nat.reduceEqDiff, reduceIte, reduceCtorEq, Nat.reduceAdd, Nat.reduceMul, Nat.reduceSub, Nat.reduceLT, Int.reduceLT, Int.reduceLE, Int.reduceNeg, Int.reduceToNat, Nat.reduceBEq, Nat.reduceBNe, Int.reduceGE, Int.reduceGT, *, cSpcS, cL1In, cIsAttr, cDep, cCov, cS17, Tryz.results23, hf, hh, hg, q1, q2, q3, q4])))
                              refine loop_next (k + 1) (by dsimp only; omega) (by dsimp only; omega) ?_
                              (repeat' (first | (refine gate_a fun _ => ?_) | (refine fork_intro (fun hb => ?_) (fun hb => ?_) <;> (try simp only [ew, hf, et, hh, hg, q1, q2, q3, q4] at hb)) | (simp only [go_sem, Nat.reduceLeDiff, Nat.reduceEqDiff, reduceIte, reduceCtorEq, Nat.reduceAdd, Nat.reduceMul, Nat.reduceSub, Nat.reduceLT, Int.reduceLT, Int.reduceLE, Int.reduceNeg, Int.reduceToNat, Nat.reduceBEq, Nat.reduceBNe, Int.reduceGE, Int.reduceGT, *, cSpcS, cL1In, cIsAttr, cDep, cCov, cS17, Tryz.results23, hf, et, hh, hg, q1, q2, q3, q4])))
                              all_goals first | rfl | (simp only [decide_eq_true_eq, decide_eq_false_iff_not] at q4; omega)
                            · rw [q4] at et
                              (repeat' (first | (refine gate_a fun _ => ?_) | (refine fork_intro (fun hb => ?_) (fun hb => ?_) <;> (try simp only [ew, hf, hh, hg, q1, q2, q3, q4] at hb)) | (simp only [go_sem, Nat.reduceLeDiff, Nat.reduceEqDiff, reduceIte, reduceCtorEq, Nat.reduceAdd, Nat.reduceMul, Nat.reduceSub, Nat.reduceLT, Int.reduceLT, Int.reduceLE, Int.reduceNeg, Int.reduceToNat, Nat.reduceBEq, Nat.reduceBNe, Int.reduceGE, Int.reduceGT, *, cSpcS, cL1In, cIsAttr, cDep, cCov, cS17, Tryz.results23, hf, hh, hg, q1, q2, q3, q4])))
                              refine loop_next (k + 1) (by dsimp only; omega) (by dsimp only; omega) ?_
                              (repeat' (first | (refine gate_a fun _ => ?_) | (refine fork_intro (fun hb => ?_) (fun hb => ?_) <;> (try simp only [ew, hf, et, hh, hg, q1, q2, q3, q4] at hb)) | (simp only [go_sem, Nat.reduceLeDiff, Nat.reduceEqDiff, reduceIte, reduceCtorEq, Nat.reduceAdd, Nat.reduceMul, Nat.reduceSub, Nat.reduceLT, Int.reduceLT, Int.reduceLE, Int.reduceNeg, Int.reduceToNat, Nat.reduceBEq, Nat.reduceBNe, Int.reduceGE, Int.reduceGT, *, cSpcS, cL1In, cIsAttr, cDep, cCov, cS17, Tryz.results23, hf, et, hh, hg, q1, q2, q3, q4])))
                              all_goals first | rfl | (simp only [decide_eq_true_eq, decide_eq_false_iff_not] at q4; omega)
                      · rw [q1, Bool.true_or, Bool.true_or] at et
                        (repeat' (first | (refine gate_a fun _ => ?_) | (refine fork_intro (fun hb => ?_) (fun hb => ?_) <;> (try simp only [ew, hf, hh, hg, q1] at hb)) | (simp only [go_sem, Nat.reduceLeDiff, Nat.reduceEqDiff, reduceIte, reduceCtorEq, Nat.reduceAdd, Nat.reduceMul, Nat.reduceSub, Nat.reduceLT, Int.reduceLT, Int.reduceLE, Int.reduceNeg, Int.reduceToNat, Nat.reduceBEq, Nat.reduceBNe, Int.reduceGE, Int.reduceGT, *, cSpcS, cL1In, cIsAttr, cDep, cCov, cS17, Tryz.results23, hf, hh, hg, q1])))
                        refine loop_next (k + 1) (by dsimp only; omega) (by dsimp only; omega) ?_
                        (repeat' (first | (refine gate_a fun _ => ?_) | (refine fork_intro (fun hb => ?_) (fun hb => ?_) <;> (try simp only [ew, hf, et, hh, hg, q1] at hb)) | (simp only [go_sem, Nat.reduceLeDiff, Nat.reduceEqDiff, reduceIte, reduceCtorEq, Nat.reduceAdd, Nat.reduceMul, Nat.reduceSub, Nat.reduceLT, Int.reduceLT, Int.reduceLE, Int.reduceNeg, Int.reduceToNat, Nat.reduceBEq, Nat.reduceBNe, Int.reduceGE, Int.reduceGT, *, cSpcS, cL1In, cIsAttr, cDep, cCov, cS17, Tryz.results23, hf, et, hh, hg, q1])))
                  · have e8 : k = K.length := by omega
                    subst e8
                    cases hq : fineN K i K.length
                    · rw [hq, if_neg (by decide), List.append_nil] at eW
                      (repeat' (first | (refine gate_a fun _ => ?_) | (refine fork_intro (fun hb => ?_) (fun hb => ?_) <;> (try simp only [ew, hq] at hb)) | (simp only [go_sem, Nat.reduceLeDiff, Nat.reduceEqDiff, reduceIte, reduceCtorEq, Nat.reduceAdd, Nat.reduceMul, Nat.reduceSub, Nat.reduceLT, Int.reduceLT, Int.reduceLE, Int.reduceNeg, Int.reduceToNat, Nat.reduceBEq, Nat.reduceBNe, Int.reduceGE, Int.reduceGT, *, cSpcS, cL1In, cIsAttr, cDep, cCov, cS17, Tryz.results23, hq])))
                      refine loop_next (i + 1) (by dsimp only; omega) (by dsimp only; omega) ?_
                      (repeat' (first | (refine gate_a fun _ => ?_) | (refine fork_intro (fun hb => ?_) (fun hb => ?_) <;> (try simp only [ew, hO, hq, eW] at hb)) | (simp only [go_sem, Nat.reduceLeDiff, Nat.reduceEqDiff, reduceIte, reduceCtorEq, Nat.reduceAdd, Nat.reduceMul, Nat.reduceSub, Nat.reduceLT, Int.reduceLT, Int.reduceLE, Int.reduceNeg, Int.reduceToNat, Nat.reduceBEq, Nat.reduceBNe, Int.reduceGE, Int.reduceGT, *, cSpcS, cL1In, cIsAttr, cDep, cCov, cS17, Tryz.results23, hO, hq, eW])))
                    · rw [hq, if_pos rfl] at eW
                      (repeat' (first | (refine gate_a fun _ => ?_) | (refine fork_intro (fun hb => ?_) (fun hb => ?_) <;> (try simp only [ew, hq, hg, dL_snoc] at hb)) | (simp only [go_sem, Nat.reduceLeDiff, Nat.reduceEqDiff, reduceIte, reduceCtorEq, Nat.reduceAdd, Nat.reduceMul, Nat.reduceSub, Nat.reduceLT, Int.reduceLT, Int.reduceLE, Int.reduceNeg, Int.reduceToNat, Nat.reduceBEq, Nat.reduceBNe, Int.reduceGE, Int.reduceGT, *, cSpcS, cL1In, cIsAttr, cDep, cCov, cS17, Tryz.results23, hq, hg, dL_snoc])))
                      refine loop_next (i + 1) (by dsimp only; omega) (by dsimp only; omega) ?_
                      (repeat' (first | (refine gate_a fun _ => ?_) | (refine fork_intro (fun hb => ?_) (fun hb => ?_) <;> (try simp only [ew, hO, hq, hg, eW, dL_snoc] at hb)) | (simp only [go_sem, Nat.reduceLeDiff, Nat.reduceEqDiff, reduceIte, reduceCtorEq, Nat.reduceAdd, Nat.reduceMul, Nat.reduceSub, Nat.reduceLT, Int.reduceLT, Int.reduceLE, Int.reduceNeg, Int.reduceToNat, Nat.reduceBEq, Nat.reduceBNe, Int.reduceGE, Int.reduceGT, *, cSpcS, cL1In, cIsAttr, cDep, cCov, cS17, Tryz.results23, hO, hq, hg, eW, dL_snoc])))
              · have e9 : i = K.length := by omega
                subst e9
                (repeat' (first | (refine gate_a fun _ => ?_) | (refine fork_intro (fun hb => ?_) (fun hb => ?_) <;> (try simp only [ew] at hb)) | (simp only [go_sem, Nat.reduceLeDiff, Nat.reduceEqDiff, reduceIte, reduceCtorEq, Nat.reduceAdd, Nat.reduceMul, Nat.reduceSub, Nat.reduceLT, Int.reduceLT, Int.reduceLE, Int.reduceNeg, Int.reduceToNat, Nat.reduceBEq, Nat.reduceBNe, Int.reduceGE, Int.reduceGT, *, cSpcS, cL1In, cIsAttr, cDep, cCov, cS17, Tryz.results23])))
                all_goals first | rfl | skip
end Go.Own
