/-
  The laws of orders and of inclusions. Conditions: as each theorem states them.
-/
import Derived.Test.YtohioponiobalaaOwnK7
import Derived.Test.YtohioponiobalaaOwnK6
namespace Go.Own
open Go Go.Proofs
set_option linter.unusedSimpArgs false
set_option linter.unusedVariables false
set_option maxRecDepth 20000
set_option maxHeartbeats 4000000

theorem tf1 : (true == false) = false := rfl
theorem ft1 : (false == true) = false := rfl
attribute [local go_sem] tf1 ft1 unB_bL bL_length wfB_bL unD_dL dL_length dL_get dL_set dL_inj wfD_dL scal2 beq2 pair_eta

def cBig : Contract := ⟨[], false, fun
  | [.one (.sl 1 l)] => some (WfB l, [⟨false, [.d (.v (.bool (decide (l.length > 1048576))))]⟩], [])
  | _ => none⟩
theorem big_ok : ContractOK E0 5 cBig := by
  refine contract_of_wpc (E := E0) (T := mkT Try.prog [] false (fun _ => false) true (fun _ => false)) (mkT_ok (E := E0) .nil) (fn := Try.f5) Try.func5 (by kernel_rfl) rfl mixedT (by kernel_rfl) rfl ?_
  intro args p rs ms hr
  unfold cBig at hr
  dsimp only at hr
  split at hr
  rotate_left
  · cases hr
  rename_i l
  simp only [Option.some.injEq, Prod.mk.injEq] at hr
  obtain ⟨rfl, rfl, rfl⟩ := hr
  refine ⟨rfl, rfl, Nat.le_of_ble_eq_true rfl, ?_⟩
  have hm : maxLen = 9223372036854775807 := rfl
  rintro h1 bs0
  obtain ⟨bs, rfl, hx⟩ := h1.ex
  clear h1
  (repeat' (first
      | (refine gate_a fun _ => ?_)
      | (refine fork_intro (fun hb => ?_) (fun hb => ?_) <;> (try simp only [ew] at hb))
      | (simp only [go_sem, Nat.reduceLeDiff, Nat.reduceEqDiff, reduceIte, reduceCtorEq, Nat.reduceAdd, Nat.reduceMul, Nat.reduceSub, Nat.reduceLT, Int.reduceLT, Int.reduceLE, Int.reduceNeg, Int.reduceToNat, Nat.reduceBEq, Nat.reduceBNe, Int.reduceGE, Int.reduceGT, *, cBig, Try.results5])))
  all_goals first | rfl | (rw [decide_eq_decide]; omega)
theorem lhas_ok : ContractOK E0 22 cHas := by
  refine contract_of_wpc (E := E0) (T := mkT Try.prog [] false (fun _ => false) true (fun _ => false)) (mkT_ok (E := E0) .nil) (fn := Try.f22) Try.func22 (by kernel_rfl) rfl mixedT (by kernel_rfl) rfl ?_
  intro args p rs ms hr
  unfold cHas at hr
  dsimp only at hr
  split at hr
  rotate_left
  · cases hr
  rename_i l n
  simp only [Option.some.injEq, Prod.mk.injEq] at hr
  obtain ⟨rfl, rfl, rfl⟩ := hr
  refine ⟨rfl, rfl, Nat.le_of_ble_eq_true rfl, ?_⟩
  have hm : maxLen = 9223372036854775807 := rfl
  intro h1 bs
  obtain ⟨xs, rfl, hx⟩ := h1.ex
  clear h1
  rw [unI_iL]
  (repeat' (first
      | (refine gate_a fun _ => ?_)
      | (refine fork_intro (fun hb => ?_) (fun hb => ?_) <;> (try simp only [ew] at hb))
      | (simp only [go_sem, Nat.reduceLeDiff, Nat.reduceEqDiff, reduceIte, reduceCtorEq, Nat.reduceAdd, Nat.reduceMul, Nat.reduceSub, Nat.reduceLT, Int.reduceLT, Int.reduceLE, Int.reduceNeg, Int.reduceToNat, Nat.reduceBEq, Nat.reduceBNe, Int.reduceGE, Int.reduceGT, *, cHas, Try.results22])))
  refine loop_intro { ι := Nat, rs := [(4, 5), (6, 18)], mods := [(5, fun i => .one (.d (.v (.int .i64 i))))], boxes := [], arrs := [], ok := fun i => i ≤ xs.length ∧ (xs.drop i).contains n = xs.contains n, mu := fun i => xs.length - i } rfl 0 ⟨Nat.zero_le _, rfl⟩ ?_ fun i hi => ?_
  · (repeat' (first
      | (refine gate_a fun _ => ?_)
      | (refine fork_intro (fun hb => ?_) (fun hb => ?_) <;> (try simp only [ew] at hb))
      | (simp only [go_sem, Nat.reduceLeDiff, Nat.reduceEqDiff, reduceIte, reduceCtorEq, Nat.reduceAdd, Nat.reduceMul, Nat.reduceSub, Nat.reduceLT, Int.reduceLT, Int.reduceLE, Int.reduceNeg, Int.reduceToNat, Nat.reduceBEq, Nat.reduceBNe, Int.reduceGE, Int.reduceGT, *, cHas, Try.results22])))
  · dsimp only at i hi
    obtain ⟨hi, ht⟩ := hi
    (repeat' (first
      | (refine gate_a fun _ => ?_)
      | (refine fork_intro (fun hb => ?_) (fun hb => ?_) <;> (try simp only [ew] at hb))
      | (simp only [go_sem, Nat.reduceLeDiff, Nat.reduceEqDiff, reduceIte, reduceCtorEq, Nat.reduceAdd, Nat.reduceMul, Nat.reduceSub, Nat.reduceLT, Int.reduceLT, Int.reduceLE, Int.reduceNeg, Int.reduceToNat, Nat.reduceBEq, Nat.reduceBNe, Int.reduceGE, Int.reduceGT, *, cHas, Try.results22])))
    · have e := ‹xs.getD i 0 = n›
      rw [← ht, contains_drop (by omega), e]; simp
    · have e := ‹¬ xs.getD i 0 = n›
      refine loop_next (i + 1) ⟨by omega, ?_⟩ (by dsimp only; omega) ?_
      · rw [← ht, contains_drop (i := i) (by omega), beq_false_of_ne (fun h => e h.symm)]; rfl
      · (repeat' (first
      | (refine gate_a fun _ => ?_)
      | (refine fork_intro (fun hb => ?_) (fun hb => ?_) <;> (try simp only [ew] at hb))
      | (simp only [go_sem, Nat.reduceLeDiff, Nat.reduceEqDiff, reduceIte, reduceCtorEq, Nat.reduceAdd, Nat.reduceMul, Nat.reduceSub, Nat.reduceLT, Int.reduceLT, Int.reduceLE, Int.reduceNeg, Int.reduceToNat, Nat.reduceBEq, Nat.reduceBNe, Int.reduceGE, Int.reduceGT, *, cHas, Try.results22])))
    · rw [← ht, List.drop_of_length_le (by omega)]; rfl

def cLawC : Contract := ⟨[], false, fun
  | [.one (.sl 1 l)] => some (WfB l ∧ ∀ b ∈ unB l, 0 ≤ b ∧ b ≤ 255, [⟨false, [.d (.v (.bool true))]⟩], [])
  | _ => none⟩
theorem lawO_ok : ContractOK E0 3 cLawC := by
  refine contract_of_wpc (E := E0) (T := mkT Try.prog [(5, cBig), (6, c15), (7, cOH), (8, cOW), (9, cOW), (10, cOH), (11, cHold), (13, c15t), (12, cOrders), (14, cOrders)] false (fun _ => false) true (fun d => d == 999)) (mkT_ok (E := E0) (.cons big_ok (.cons dOH_ok (.cons ohI_ok (.cons owI_ok (.cons owS_ok (.cons ohS_ok (.cons holdS_ok (.cons dOr_ok (.cons ordersI_ok (.cons ordersS_ok .nil))))))))))) (fn := Try.f3) Try.func3 (by kernel_rfl) rfl mixedT (by kernel_rfl) rfl ?_
  intro args p rs ms hr
  unfold cLawC at hr
  dsimp only at hr
  split at hr
  rotate_left
  · cases hr
  rename_i l
  simp only [Option.some.injEq, Prod.mk.injEq] at hr
  obtain ⟨rfl, rfl, rfl⟩ := hr
  refine ⟨rfl, rfl, Nat.le_of_ble_eq_true rfl, ?_⟩
  have hm : maxLen = 9223372036854775807 := rfl
  rintro ⟨h1, h3⟩ bs0
  obtain ⟨bs, rfl, hx⟩ := h1.ex
  clear h1
  rw [unB_bL] at h3
  by_cases hbig : bs.length > 1048576
  · (repeat' (first
      | (refine gate_a fun _ => ?_)
      | (refine fork_intro (fun hb => ?_) (fun hb => ?_) <;> (try simp only [ew] at hb))
      | (simp only [go_sem, Nat.reduceLeDiff, Nat.reduceEqDiff, reduceIte, reduceCtorEq, Nat.reduceAdd, Nat.reduceMul, Nat.reduceSub, Nat.reduceLT, Int.reduceLT, Int.reduceLE, Int.reduceNeg, Int.reduceToNat, Nat.reduceBEq, Nat.reduceBNe, Int.reduceGE, Int.reduceGT, *, cLawC, cBig, c15, cOH, cOW, cHold, c15t, cOrders, Try.results3])))
    all_goals first | rfl | contradiction | skip
  · have hb2 : bs.length ≤ 1048576 := by omega
    obtain ⟨⟨k1, k1'⟩, ⟨k2, k2'⟩, ⟨k3, k3'⟩, k4, k4'⟩ := @d15_facts bs
    generalize hC : d15c bs = c at k1 k1'
    generalize hR : d15r bs = rs at k2 k2'
    generalize hA : d15a bs = a at k3 k3'
    generalize hB : d15b bs = b at k4 k4'
    have m1 : rs.length ≤ maxLen := Nat.le_trans k2 (by decide)
    have m2 : ∀ r ∈ rs, r.length ≤ maxLen := fun r hr => Nat.le_trans (k2' r hr) (by decide)
    obtain ⟨p1, p2⟩ := @prs_max (ohB c rs) c rs
    generalize hz : prs (ohB c rs) c rs = zs at p1 p2
    have w1 : ∀ d : Bool, (ohB c rs a b = d) → d = true → (0 ≤ a ∧ a ≤ 4) := by
      intro d h e
      subst e
      unfold ohB at h
      rw [Bool.and_eq_true] at h
      obtain ⟨a', b', c', rfl, rfl, rfl, ha, hb, _⟩ := cols_facts h.1
      omega
    cases hw : (ow c rs a b).2.2
    · cases hoh : ohB c rs a b
      · (repeat' (first
      | (refine gate_a fun _ => ?_)
      | (refine fork_intro (fun hb => ?_) (fun hb => ?_) <;> (try simp only [ew, hC, hR, hA, hB, hw, hoh, hz] at hb))
      | (simp only [go_sem, Nat.reduceLeDiff, Nat.reduceEqDiff, reduceIte, reduceCtorEq, Nat.reduceAdd, Nat.reduceMul, Nat.reduceSub, Nat.reduceLT, Int.reduceLT, Int.reduceLE, Int.reduceNeg, Int.reduceToNat, Nat.reduceBEq, Nat.reduceBNe, Int.reduceGE, Int.reduceGT, *, cLawC, cBig, c15, cOH, cOW, cHold, c15t, cOrders, Try.results3, hC, hR, hA, hB, hw, hoh, hz])))
        refine loop_intro { ι := Nat, rs := [(2, 3), (87, 109)], mods := [(15, fun i => .one (.d (.v (.int .i64 i))))], boxes := [(3, fun _ => [.d (.v (.int .i64 c)), .own 1 (sL rs) 2])], arrs := [(13, fun _ => (2, dL zs, 1)), (14, fun _ => (2, dL zs, 1))], ok := fun i => i ≤ zs.length, mu := fun i => zs.length - i } rfl 0 (Nat.zero_le _) ?_ fun i hi => ?_
        · (repeat' (first
      | (refine gate_a fun _ => ?_)
      | (refine fork_intro (fun hb => ?_) (fun hb => ?_) <;> (try simp only [ew] at hb))
      | (simp only [go_sem, Nat.reduceLeDiff, Nat.reduceEqDiff, reduceIte, reduceCtorEq, Nat.reduceAdd, Nat.reduceMul, Nat.reduceSub, Nat.reduceLT, Int.reduceLT, Int.reduceLE, Int.reduceNeg, Int.reduceToNat, Nat.reduceBEq, Nat.reduceBNe, Int.reduceGE, Int.reduceGT, *, cLawC, cBig, c15, cOH, cOW, cHold, c15t, cOrders, Try.results3])))
          all_goals first | rfl | skip
        · dsimp only at i hi
          by_cases h5 : i < zs.length
          · (repeat' (first
      | (refine gate_a fun _ => ?_)
      | (refine fork_intro (fun hb => ?_) (fun hb => ?_) <;> (try simp only [ew] at hb))
      | (simp only [go_sem, Nat.reduceLeDiff, Nat.reduceEqDiff, reduceIte, reduceCtorEq, Nat.reduceAdd, Nat.reduceMul, Nat.reduceSub, Nat.reduceLT, Int.reduceLT, Int.reduceLE, Int.reduceNeg, Int.reduceToNat, Nat.reduceBEq, Nat.reduceBNe, Int.reduceGE, Int.reduceGT, *, cLawC, cBig, c15, cOH, cOW, cHold, c15t, cOrders, Try.results3])))
            refine loop_next (i + 1) (by dsimp only; omega) (by dsimp only; omega) ?_
            (repeat' (first
      | (refine gate_a fun _ => ?_)
      | (refine fork_intro (fun hb => ?_) (fun hb => ?_) <;> (try simp only [ew] at hb))
      | (simp only [go_sem, Nat.reduceLeDiff, Nat.reduceEqDiff, reduceIte, reduceCtorEq, Nat.reduceAdd, Nat.reduceMul, Nat.reduceSub, Nat.reduceLT, Int.reduceLT, Int.reduceLE, Int.reduceNeg, Int.reduceToNat, Nat.reduceBEq, Nat.reduceBNe, Int.reduceGE, Int.reduceGT, *, cLawC, cBig, c15, cOH, cOW, cHold, c15t, cOrders, Try.results3])))
          · have e5 : i = zs.length := by omega
            subst e5
            (repeat' (first
      | (refine gate_a fun _ => ?_)
      | (refine fork_intro (fun hb => ?_) (fun hb => ?_) <;> (try simp only [ew, hw] at hb))
      | (simp only [go_sem, Nat.reduceLeDiff, Nat.reduceEqDiff, reduceIte, reduceCtorEq, Nat.reduceAdd, Nat.reduceMul, Nat.reduceSub, Nat.reduceLT, Int.reduceLT, Int.reduceLE, Int.reduceNeg, Int.reduceToNat, Nat.reduceBEq, Nat.reduceBNe, Int.reduceGE, Int.reduceGT, *, cLawC, cBig, c15, cOH, cOW, cHold, c15t, cOrders, Try.results3, hw])))
            all_goals first | rfl | skip
      · have hd := ord_dep hoh
        obtain ⟨a0, a4⟩ := w1 true hoh rfl
        have hp := p5 (c := a.toNat) (by omega)
        (repeat' (first
      | (refine gate_a fun _ => ?_)
      | (refine fork_intro (fun hb => ?_) (fun hb => ?_) <;> (try simp only [ew, hC, hR, hA, hB, hw, hoh, hz, hd] at hb))
      | (simp only [go_sem, Nat.reduceLeDiff, Nat.reduceEqDiff, reduceIte, reduceCtorEq, Nat.reduceAdd, Nat.reduceMul, Nat.reduceSub, Nat.reduceLT, Int.reduceLT, Int.reduceLE, Int.reduceNeg, Int.reduceToNat, Nat.reduceBEq, Nat.reduceBNe, Int.reduceGE, Int.reduceGT, *, cLawC, cBig, c15, cOH, cOW, cHold, c15t, cOrders, Try.results3, hC, hR, hA, hB, hw, hoh, hz, hd])))
        refine loop_intro { ι := Nat, rs := [(2, 3), (87, 109)], mods := [(15, fun i => .one (.d (.v (.int .i64 i))))], boxes := [(3, fun _ => [.d (.v (.int .i64 c)), .own 1 (sL rs) 2])], arrs := [(13, fun _ => (2, dL zs, 1)), (14, fun _ => (2, dL zs, 1))], ok := fun i => i ≤ zs.length, mu := fun i => zs.length - i } rfl 0 (Nat.zero_le _) ?_ fun i hi => ?_
        · (repeat' (first
      | (refine gate_a fun _ => ?_)
      | (refine fork_intro (fun hb => ?_) (fun hb => ?_) <;> (try simp only [ew] at hb))
      | (simp only [go_sem, Nat.reduceLeDiff, Nat.reduceEqDiff, reduceIte, reduceCtorEq, Nat.reduceAdd, Nat.reduceMul, Nat.reduceSub, Nat.reduceLT, Int.reduceLT, Int.reduceLE, Int.reduceNeg, Int.reduceToNat, Nat.reduceBEq, Nat.reduceBNe, Int.reduceGE, Int.reduceGT, *, cLawC, cBig, c15, cOH, cOW, cHold, c15t, cOrders, Try.results3])))
          all_goals first | rfl | skip
        · dsimp only at i hi
          by_cases h5 : i < zs.length
          · (repeat' (first
      | (refine gate_a fun _ => ?_)
      | (refine fork_intro (fun hb => ?_) (fun hb => ?_) <;> (try simp only [ew] at hb))
      | (simp only [go_sem, Nat.reduceLeDiff, Nat.reduceEqDiff, reduceIte, reduceCtorEq, Nat.reduceAdd, Nat.reduceMul, Nat.reduceSub, Nat.reduceLT, Int.reduceLT, Int.reduceLE, Int.reduceNeg, Int.reduceToNat, Nat.reduceBEq, Nat.reduceBNe, Int.reduceGE, Int.reduceGT, *, cLawC, cBig, c15, cOH, cOW, cHold, c15t, cOrders, Try.results3])))
            refine loop_next (i + 1) (by dsimp only; omega) (by dsimp only; omega) ?_
            (repeat' (first
      | (refine gate_a fun _ => ?_)
      | (refine fork_intro (fun hb => ?_) (fun hb => ?_) <;> (try simp only [ew] at hb))
      | (simp only [go_sem, Nat.reduceLeDiff, Nat.reduceEqDiff, reduceIte, reduceCtorEq, Nat.reduceAdd, Nat.reduceMul, Nat.reduceSub, Nat.reduceLT, Int.reduceLT, Int.reduceLE, Int.reduceNeg, Int.reduceToNat, Nat.reduceBEq, Nat.reduceBNe, Int.reduceGE, Int.reduceGT, *, cLawC, cBig, c15, cOH, cOW, cHold, c15t, cOrders, Try.results3])))
          · have e5 : i = zs.length := by omega
            subst e5
            (repeat' (first
      | (refine gate_a fun _ => ?_)
      | (refine fork_intro (fun hb => ?_) (fun hb => ?_) <;> (try simp only [ew, hw] at hb))
      | (simp only [go_sem, Nat.reduceLeDiff, Nat.reduceEqDiff, reduceIte, reduceCtorEq, Nat.reduceAdd, Nat.reduceMul, Nat.reduceSub, Nat.reduceLT, Int.reduceLT, Int.reduceLE, Int.reduceNeg, Int.reduceToNat, Nat.reduceBEq, Nat.reduceBNe, Int.reduceGE, Int.reduceGT, *, cLawC, cBig, c15, cOH, cOW, cHold, c15t, cOrders, Try.results3, hw])))
            all_goals first | rfl | skip
    · have hoh : ohB c rs a b = false := by unfold ohB; rw [hw]; simp
      obtain ⟨i, k, hc, e1, e2, hi, hk, hoc⟩ := ow_some hw
      obtain ⟨a', b', c', ea, eb, ec, ha, hb, h40, hlen⟩ := cols_facts hc
      have hli := hlen i hi
      have hlk := hlen k hk
      have hau : a.toNat = a' := by omega
      have hbu : b.toNat = b' := by omega
      rw [hau, hbu] at hoc
      unfold owC cellAt at hoc
      rw [Bool.and_eq_true, decide_eq_true_eq, decide_eq_true_eq] at hoc
      obtain ⟨o1, o2⟩ := hoc
      have mi := m2 _ (getD_mem hi [])
      have mk := m2 _ (getD_mem hk [])
      have a0 : 0 ≤ a := by omega
      have b0 : 0 ≤ b := by omega
      clear hlen hc ea eb ec
      (repeat' (first
      | (refine gate_a fun _ => ?_)
      | (refine fork_intro (fun hb => ?_) (fun hb => ?_) <;> (try simp only [ew, hC, hR, hA, hB, hw, hoh, hz, e1, e2] at hb))
      | (simp only [go_sem, Nat.reduceLeDiff, Nat.reduceEqDiff, reduceIte, reduceCtorEq, Nat.reduceAdd, Nat.reduceMul, Nat.reduceSub, Nat.reduceLT, Int.reduceLT, Int.reduceLE, Int.reduceNeg, Int.reduceToNat, Nat.reduceBEq, Nat.reduceBNe, Int.reduceGE, Int.reduceGT, *, cLawC, cBig, c15, cOH, cOW, cHold, c15t, cOrders, Try.results3, hC, hR, hA, hB, hw, hoh, hz, e1, e2])))
      refine loop_intro { ι := Nat, rs := [(2, 3), (87, 109)], mods := [(15, fun i => .one (.d (.v (.int .i64 i))))], boxes := [(3, fun _ => [.d (.v (.int .i64 c)), .own 1 (sL rs) 2])], arrs := [(13, fun _ => (2, dL zs, 1)), (14, fun _ => (2, dL zs, 1))], ok := fun i => i ≤ zs.length, mu := fun i => zs.length - i } rfl 0 (Nat.zero_le _) ?_ fun j hj => ?_
      · (repeat' (first
      | (refine gate_a fun _ => ?_)
      | (refine fork_intro (fun hb => ?_) (fun hb => ?_) <;> (try simp only [ew] at hb))
      | (simp only [go_sem, Nat.reduceLeDiff, Nat.reduceEqDiff, reduceIte, reduceCtorEq, Nat.reduceAdd, Nat.reduceMul, Nat.reduceSub, Nat.reduceLT, Int.reduceLT, Int.reduceLE, Int.reduceNeg, Int.reduceToNat, Nat.reduceBEq, Nat.reduceBNe, Int.reduceGE, Int.reduceGT, *, cLawC, cBig, c15, cOH, cOW, cHold, c15t, cOrders, Try.results3])))
        all_goals first | rfl | skip
      · dsimp only at j hj
        by_cases h5 : j < zs.length
        · (repeat' (first
      | (refine gate_a fun _ => ?_)
      | (refine fork_intro (fun hb => ?_) (fun hb => ?_) <;> (try simp only [ew] at hb))
      | (simp only [go_sem, Nat.reduceLeDiff, Nat.reduceEqDiff, reduceIte, reduceCtorEq, Nat.reduceAdd, Nat.reduceMul, Nat.reduceSub, Nat.reduceLT, Int.reduceLT, Int.reduceLE, Int.reduceNeg, Int.reduceToNat, Nat.reduceBEq, Nat.reduceBNe, Int.reduceGE, Int.reduceGT, *, cLawC, cBig, c15, cOH, cOW, cHold, c15t, cOrders, Try.results3])))
          refine loop_next (j + 1) (by dsimp only; omega) (by dsimp only; omega) ?_
          (repeat' (first
      | (refine gate_a fun _ => ?_)
      | (refine fork_intro (fun hb => ?_) (fun hb => ?_) <;> (try simp only [ew] at hb))
      | (simp only [go_sem, Nat.reduceLeDiff, Nat.reduceEqDiff, reduceIte, reduceCtorEq, Nat.reduceAdd, Nat.reduceMul, Nat.reduceSub, Nat.reduceLT, Int.reduceLT, Int.reduceLE, Int.reduceNeg, Int.reduceToNat, Nat.reduceBEq, Nat.reduceBNe, Int.reduceGE, Int.reduceGT, *, cLawC, cBig, c15, cOH, cOW, cHold, c15t, cOrders, Try.results3])))
        · have e5 : j = zs.length := by omega
          subst e5
          (repeat' (first
      | (refine gate_a fun _ => ?_)
      | (refine fork_intro (fun hb => ?_) (fun hb => ?_) <;> (try simp only [ew, hw, e1, e2, hau, hbu] at hb))
      | (simp only [go_sem, Nat.reduceLeDiff, Nat.reduceEqDiff, reduceIte, reduceCtorEq, Nat.reduceAdd, Nat.reduceMul, Nat.reduceSub, Nat.reduceLT, Int.reduceLT, Int.reduceLE, Int.reduceNeg, Int.reduceToNat, Nat.reduceBEq, Nat.reduceBNe, Int.reduceGE, Int.reduceGT, *, cLawC, cBig, c15, cOH, cOW, cHold, c15t, cOrders, Try.results3, hw, e1, e2, hau, hbu])))
          all_goals first | rfl | skip
end Go.Own
