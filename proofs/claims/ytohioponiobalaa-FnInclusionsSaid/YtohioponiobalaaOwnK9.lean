import Derived.Test.YtohioponiobalaaOwnK8
namespace Go.Own
open Go Go.Proofs
set_option linter.unusedSimpArgs false
set_option linter.unusedVariables false
set_option maxRecDepth 20000
set_option maxHeartbeats 4000000

attribute [local go_sem] tf1 ft1 unB_bL bL_length wfB_bL unD_dL dL_length dL_get dL_set dL_inj wfD_dL scal2 beq2 pair_eta

theorem lawI_ok : ContractOK E0 4 cLawC := by
  refine contract_of_wpc (E := E0) (T := mkT Try.prog [(5, cBig), (15, c15t), (16, cIncs), (17, cIncs), (18, cHI), (19, c15x), (20, cMV), (21, cMV), (23, cCol), (22, cHas), (24, cHI)] false (fun _ => false) true (fun d => d == 999)) (mkT_ok (E := E0) (.cons big_ok (.cons dIn_ok (.cons incsI_ok (.cons incsS_ok (.cons hiI_ok (.cons dMV_ok (.cons mvI_ok (.cons mvS_ok (.cons colS_ok (.cons lhas_ok (.cons hiS_ok .nil)))))))))))) (fn := Try.f4) Try.func4 (by kernel_rfl) rfl mixedT (by kernel_rfl) rfl ?_
  intro args p rs ms hr
  unfold cLawC at hr
  dsimp only at hr
  split at hr
  rotate_left
  · cases hr
  rename_i l
  simp only [Option.some.injEq, Prod.mk.injEq] at hr
  obtain ⟨rfl, rfl, rfl⟩ := hr
  refine ⟨rfl, rfl, Nat.le_of_ble_eq_true rfl, ?_⟩
  have hm : maxLen = 9223372036854775807 := rfl
  rintro ⟨h1, h3⟩ bs0
  obtain ⟨bs, rfl, hx⟩ := h1.ex
  clear h1
  rw [unB_bL] at h3
  by_cases hbig : bs.length > 1048576
  · (repeat' (first
      | (refine gate_a fun _ => ?_)
      | (refine fork_intro (fun hb => ?_) (fun hb => ?_) <;> (try simp only [ew] at hb))
      | (simp only [go_sem, Nat.reduceLeDiff, Nat.reduceEqDiff, reduceIte, reduceCtorEq, Nat.reduceAdd, Nat.reduceMul, Nat.reduceSub, Nat.reduceLT, Int.reduceLT, Int.reduceLE, Int.reduceNeg, Int.reduceToNat, Nat.reduceBEq, Nat.reduceBNe, Int.reduceGE, Int.reduceGT, *, cLawC, cBig, c15t, cIncs, cHI, c15x, cMV, cCol, cHas, Try.results4])))
    all_goals first | rfl | contradiction | skip
  · have hb2 : bs.length ≤ 1048576 := by omega
    obtain ⟨⟨k1, k1'⟩, ⟨k2, k2'⟩, ⟨k3, k3'⟩, k4, k4'⟩ := @d15_facts bs
    generalize hC : d15c bs = c at k1 k1'
    generalize hR : d15r bs = rs at k2 k2'
    generalize hA : d15a bs = a at k3 k3'
    generalize hB : d15b bs = b at k4 k4'
    have m1 : rs.length ≤ maxLen := Nat.le_trans k2 (by decide)
    have m2 : ∀ r ∈ rs, r.length ≤ maxLen := fun r hr => Nat.le_trans (k2' r hr) (by decide)
    obtain ⟨p1, p2⟩ := @prs_max (hiB c rs) c rs
    have hcomp := fun i k => @inc_comp c rs i k
    generalize hz : prs (hiB c rs) c rs = zs at p1 p2 hcomp
    (repeat' (first
      | (refine gate_a fun _ => ?_)
      | (refine fork_intro (fun hb => ?_) (fun hb => ?_) <;> (try simp only [ew, hC, hR, hz] at hb))
      | (simp only [go_sem, Nat.reduceLeDiff, Nat.reduceEqDiff, reduceIte, reduceCtorEq, Nat.reduceAdd, Nat.reduceMul, Nat.reduceSub, Nat.reduceLT, Int.reduceLT, Int.reduceLE, Int.reduceNeg, Int.reduceToNat, Nat.reduceBEq, Nat.reduceBNe, Int.reduceGE, Int.reduceGT, *, cLawC, cBig, c15t, cIncs, cHI, c15x, cMV, cCol, cHas, Try.results4, hC, hR, hz])))
    refine loop_intro { ι := Nat, rs := [(2, 3), (7, 9), (28, 77)], mods := [(6, fun i => .one (.d (.v (.int .i64 i))))], boxes := [(3, fun _ => [.d (.v (.int .i64 c)), .own 1 (sL rs) 1])], arrs := [(4, fun _ => (2, dL zs, 1)), (5, fun _ => (2, dL zs, 1))], ok := fun i => i ≤ zs.length, mu := fun i => zs.length - i } rfl 0 (Nat.zero_le _) ?_ fun i hi => ?_
    · clear hcomp
      (repeat' (first
      | (refine gate_a fun _ => ?_)
      | (refine fork_intro (fun hb => ?_) (fun hb => ?_) <;> (try simp only [ew] at hb))
      | (simp only [go_sem, Nat.reduceLeDiff, Nat.reduceEqDiff, reduceIte, reduceCtorEq, Nat.reduceAdd, Nat.reduceMul, Nat.reduceSub, Nat.reduceLT, Int.reduceLT, Int.reduceLE, Int.reduceNeg, Int.reduceToNat, Nat.reduceBEq, Nat.reduceBNe, Int.reduceGE, Int.reduceGT, *, cLawC, cBig, c15t, cIncs, cHI, c15x, cMV, cCol, cHas, Try.results4])))
      all_goals first | rfl | skip
    · dsimp only at i hi
      by_cases h5 : i < zs.length
      · have hci := fun k => hcomp i k h5
        clear hcomp
        (repeat' (first
      | (refine gate_a fun _ => ?_)
      | (refine fork_intro (fun hb => ?_) (fun hb => ?_) <;> (try simp only [ew] at hb))
      | (simp only [go_sem, Nat.reduceLeDiff, Nat.reduceEqDiff, reduceIte, reduceCtorEq, Nat.reduceAdd, Nat.reduceMul, Nat.reduceSub, Nat.reduceLT, Int.reduceLT, Int.reduceLE, Int.reduceNeg, Int.reduceToNat, Nat.reduceBEq, Nat.reduceBNe, Int.reduceGE, Int.reduceGT, *, cLawC, cBig, c15t, cIncs, cHI, c15x, cMV, cCol, cHas, Try.results4])))
        refine loop_intro { ι := Nat, rs := [(2, 3), (8, 9), (43, 77)], mods := [(7, fun i => .one (.d (.v (.int .i64 i))))], boxes := [(3, fun _ => [.d (.v (.int .i64 c)), .own 1 (sL rs) 1])], arrs := [(4, fun _ => (2, dL zs, 1)), (5, fun _ => (2, dL zs, 1))], ok := fun i => i ≤ zs.length, mu := fun i => zs.length - i } rfl 0 (Nat.zero_le _) ?_ fun k hk => ?_
        · clear hci
          (repeat' (first
      | (refine gate_a fun _ => ?_)
      | (refine fork_intro (fun hb => ?_) (fun hb => ?_) <;> (try simp only [ew] at hb))
      | (simp only [go_sem, Nat.reduceLeDiff, Nat.reduceEqDiff, reduceIte, reduceCtorEq, Nat.reduceAdd, Nat.reduceMul, Nat.reduceSub, Nat.reduceLT, Int.reduceLT, Int.reduceLE, Int.reduceNeg, Int.reduceToNat, Nat.reduceBEq, Nat.reduceBNe, Int.reduceGE, Int.reduceGT, *, cLawC, cBig, c15t, cIncs, cHI, c15x, cMV, cCol, cHas, Try.results4])))
          all_goals first | rfl | skip
        · dsimp only at k hk
          by_cases h6 : k < zs.length
          · have hck := hci k h6
            clear hci
            cases he : ((zs.getD i (0, 0)).2 == (zs.getD k (0, 0)).1)
            · clear hck
              (repeat' (first
      | (refine gate_a fun _ => ?_)
      | (refine fork_intro (fun hb => ?_) (fun hb => ?_) <;> (try simp only [ew, he] at hb))
      | (simp only [go_sem, Nat.reduceLeDiff, Nat.reduceEqDiff, reduceIte, reduceCtorEq, Nat.reduceAdd, Nat.reduceMul, Nat.reduceSub, Nat.reduceLT, Int.reduceLT, Int.reduceLE, Int.reduceNeg, Int.reduceToNat, Nat.reduceBEq, Nat.reduceBNe, Int.reduceGE, Int.reduceGT, *, cLawC, cBig, c15t, cIncs, cHI, c15x, cMV, cCol, cHas, Try.results4, he])))
              refine loop_next (k + 1) (by dsimp only; omega) (by dsimp only; omega) ?_
              (repeat' (first
      | (refine gate_a fun _ => ?_)
      | (refine fork_intro (fun hb => ?_) (fun hb => ?_) <;> (try simp only [ew] at hb))
      | (simp only [go_sem, Nat.reduceLeDiff, Nat.reduceEqDiff, reduceIte, reduceCtorEq, Nat.reduceAdd, Nat.reduceMul, Nat.reduceSub, Nat.reduceLT, Int.reduceLT, Int.reduceLE, Int.reduceNeg, Int.reduceToNat, Nat.reduceBEq, Nat.reduceBNe, Int.reduceGE, Int.reduceGT, *, cLawC, cBig, c15t, cIncs, cHI, c15x, cMV, cCol, cHas, Try.results4])))
            · have hh := hck (beq_iff_eq.1 he)
              clear hck
              (repeat' (first
      | (refine gate_a fun _ => ?_)
      | (refine fork_intro (fun hb => ?_) (fun hb => ?_) <;> (try simp only [ew, he, hh] at hb))
      | (simp only [go_sem, Nat.reduceLeDiff, Nat.reduceEqDiff, reduceIte, reduceCtorEq, Nat.reduceAdd, Nat.reduceMul, Nat.reduceSub, Nat.reduceLT, Int.reduceLT, Int.reduceLE, Int.reduceNeg, Int.reduceToNat, Nat.reduceBEq, Nat.reduceBNe, Int.reduceGE, Int.reduceGT, *, cLawC, cBig, c15t, cIncs, cHI, c15x, cMV, cCol, cHas, Try.results4, he, hh])))
              refine loop_next (k + 1) (by dsimp only; omega) (by dsimp only; omega) ?_
              (repeat' (first
      | (refine gate_a fun _ => ?_)
      | (refine fork_intro (fun hb => ?_) (fun hb => ?_) <;> (try simp only [ew] at hb))
      | (simp only [go_sem, Nat.reduceLeDiff, Nat.reduceEqDiff, reduceIte, reduceCtorEq, Nat.reduceAdd, Nat.reduceMul, Nat.reduceSub, Nat.reduceLT, Int.reduceLT, Int.reduceLE, Int.reduceNeg, Int.reduceToNat, Nat.reduceBEq, Nat.reduceBNe, Int.reduceGE, Int.reduceGT, *, cLawC, cBig, c15t, cIncs, cHI, c15x, cMV, cCol, cHas, Try.results4])))
          · have e6 : k = zs.length := by omega
            subst e6
            clear hci
            (repeat' (first
      | (refine gate_a fun _ => ?_)
      | (refine fork_intro (fun hb => ?_) (fun hb => ?_) <;> (try simp only [ew] at hb))
      | (simp only [go_sem, Nat.reduceLeDiff, Nat.reduceEqDiff, reduceIte, reduceCtorEq, Nat.reduceAdd, Nat.reduceMul, Nat.reduceSub, Nat.reduceLT, Int.reduceLT, Int.reduceLE, Int.reduceNeg, Int.reduceToNat, Nat.reduceBEq, Nat.reduceBNe, Int.reduceGE, Int.reduceGT, *, cLawC, cBig, c15t, cIncs, cHI, c15x, cMV, cCol, cHas, Try.results4])))
            refine loop_next (i + 1) (by dsimp only; omega) (by dsimp only; omega) ?_
            (repeat' (first
      | (refine gate_a fun _ => ?_)
      | (refine fork_intro (fun hb => ?_) (fun hb => ?_) <;> (try simp only [ew] at hb))
      | (simp only [go_sem, Nat.reduceLeDiff, Nat.reduceEqDiff, reduceIte, reduceCtorEq, Nat.reduceAdd, Nat.reduceMul, Nat.reduceSub, Nat.reduceLT, Int.reduceLT, Int.reduceLE, Int.reduceNeg, Int.reduceToNat, Nat.reduceBEq, Nat.reduceBNe, Int.reduceGE, Int.reduceGT, *, cLawC, cBig, c15t, cIncs, cHI, c15x, cMV, cCol, cHas, Try.results4])))
      · have e5 : i = zs.length := by omega
        subst e5
        clear hcomp
        cases hm : (mv c rs a b).2
        · generalize hmv : (mv c rs a b).1 = v
          (repeat' (first
      | (refine gate_a fun _ => ?_)
      | (refine fork_intro (fun hb => ?_) (fun hb => ?_) <;> (try simp only [ew, hC, hR, hA, hB, hm, hmv] at hb))
      | (simp only [go_sem, Nat.reduceLeDiff, Nat.reduceEqDiff, reduceIte, reduceCtorEq, Nat.reduceAdd, Nat.reduceMul, Nat.reduceSub, Nat.reduceLT, Int.reduceLT, Int.reduceLE, Int.reduceNeg, Int.reduceToNat, Nat.reduceBEq, Nat.reduceBNe, Int.reduceGE, Int.reduceGT, *, cLawC, cBig, c15t, cIncs, cHI, c15x, cMV, cCol, cHas, Try.results4, hC, hR, hA, hB, hm, hmv])))
          all_goals first | rfl | skip
        · obtain ⟨q1, q2⟩ := mv_in hm
          have hh : hiB c rs a b = false := by unfold hiB; rw [hm]; simp
          have hcl : ∀ x, (colF c rs x).length ≤ maxLen := fun x => by
            unfold colF colL
            split
            · rw [List.length_map]; exact m1
            · exact Nat.zero_le _
          have hca := hcl a
          have hcb := hcl b
          clear hcl
          generalize hmv : (mv c rs a b).1 = v at q1 q2
          generalize hfa : colF c rs a = fa at q1 hca
          generalize hfb : colF c rs b = fb at q2 hcb
          (repeat' (first
      | (refine gate_a fun _ => ?_)
      | (refine fork_intro (fun hb => ?_) (fun hb => ?_) <;> (try simp only [ew, hC, hR, hA, hB, hm, hmv, hh, hfa, hfb, q1, q2] at hb))
      | (simp only [go_sem, Nat.reduceLeDiff, Nat.reduceEqDiff, reduceIte, reduceCtorEq, Nat.reduceAdd, Nat.reduceMul, Nat.reduceSub, Nat.reduceLT, Int.reduceLT, Int.reduceLE, Int.reduceNeg, Int.reduceToNat, Nat.reduceBEq, Nat.reduceBNe, Int.reduceGE, Int.reduceGT, *, cLawC, cBig, c15t, cIncs, cHI, c15x, cMV, cCol, cHas, Try.results4, hC, hR, hA, hB, hm, hmv, hh, hfa, hfb, q1, q2])))
          all_goals first | rfl | skip
end Go.Own
