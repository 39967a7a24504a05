import Derived.Test.YtnjijpgnfjghfaaGreatOwnY1
import Derived.Test.YtnjijpgnfjghfaaGreatOwnE1
namespace Go.Own
open Go Go.Proofs
set_option linter.unusedSimpArgs false
set_option linter.unusedVariables false
set_option maxRecDepth 20000
set_option maxHeartbeats 2000000

attribute [local go_sem] unD_dL dL_length dL_get dL_set dL_inj wfD_dL scal2 beq2 pair_eta

theorem markDS_ok : ContractOK E0 41 cMarkX := by
  refine contract_of_wpcM (E := E0) (T := mkT Tryz.prog [] false (fun _ => false) false (fun _ => false)) (mkT_ok (E := E0) .nil) rfl (fn := Tryz.f41) Tryz.func41 (by kernel_rfl) rfl mixedT (by kernel_rfl) rfl rfl (Nat.le_of_ble_eq_true rfl) ?_
  intro args p rs ms hr
  unfold cMarkX at hr
  dsimp only at hr
  split at hr
  rotate_left
  · cases hr
  rename_i l dp k
  simp only [Option.some.injEq, Prod.mk.injEq] at hr
  obtain ⟨rfl, rfl, rfl⟩ := hr
  refine ⟨_, _, _, rfl, rfl, rfl, rfl, rfl, Nat.le_of_ble_eq_true rfl, ?_⟩
  have hm : maxLen = 9223372036854775807 := rfl
  rintro ⟨h1, h2, h3, h4⟩ bs
  obtain ⟨xs, rfl, hx⟩ := h1.ex
  clear h1
  rw [dL_length] at h2
  (repeat' (first
      | (refine gate_a fun _ => ?_)
      | (refine fork_intro (fun hb => ?_) (fun hb => ?_) <;> (try simp only [ew] at hb))
      | (simp only [go_sem, Nat.reduceLeDiff, Nat.reduceEqDiff, reduceIte, reduceCtorEq, Nat.reduceAdd, Nat.reduceMul, Nat.reduceSub, Nat.reduceLT, Int.reduceLT, Int.reduceLE, Int.reduceNeg, Int.reduceToNat, Nat.reduceBEq, Nat.reduceBNe, Int.reduceGE, Int.reduceGT, *, cMarkX, Tryz.results41])))
  refine loop_intro { ι := Nat, rs := [(6, 26)], mods := [(5, fun i => .one (.d (.v (.int .i64 i)))), (1, fun i => .one (.d (.v (.int .i64 (k + 2 * (i : Nat))))))], boxes := [], arrs := [(0, fun i => (2, dL (markD k i ++ xs.drop i), 1))], ok := fun i => i ≤ xs.length, mu := fun i => xs.length - i } rfl 0 (Nat.zero_le _) ?_ fun i hi => ?_
  · (repeat' (first
      | (refine gate_a fun _ => ?_)
      | (refine fork_intro (fun hb => ?_) (fun hb => ?_) <;> (try simp only [ew] at hb))
      | (simp only [go_sem, Nat.reduceLeDiff, Nat.reduceEqDiff, reduceIte, reduceCtorEq, Nat.reduceAdd, Nat.reduceMul, Nat.reduceSub, Nat.reduceLT, Int.reduceLT, Int.reduceLE, Int.reduceNeg, Int.reduceToNat, Nat.reduceBEq, Nat.reduceBNe, Int.reduceGE, Int.reduceGT, *, cMarkX, Tryz.results41])))
    all_goals first | exact ⟨by omega, by simp [markD]⟩ | skip
  · dsimp only at i hi
    have hL := mD_length (k := k) hi
    by_cases h5 : i < xs.length
    · have hm := mark_setD (k := k) h5
      generalize hz : markD k i ++ xs.drop i = zs at hL hm
      have h6 : i < zs.length := by omega
      have g1 := fun q => getD_setD (q := q) h6
      (repeat' (first
      | (refine gate_a fun _ => ?_)
      | (refine fork_intro (fun hb => ?_) (fun hb => ?_) <;> (try simp only [ew, hz, g1, List.set_set] at hb))
      | (simp only [go_sem, Nat.reduceLeDiff, Nat.reduceEqDiff, reduceIte, reduceCtorEq, Nat.reduceAdd, Nat.reduceMul, Nat.reduceSub, Nat.reduceLT, Int.reduceLT, Int.reduceLE, Int.reduceNeg, Int.reduceToNat, Nat.reduceBEq, Nat.reduceBNe, Int.reduceGE, Int.reduceGT, *, cMarkX, Tryz.results41, hz, g1, List.set_set])))
      refine loop_next (i + 1) (by dsimp only; omega) (by dsimp only; omega) ?_
      have e : k + 2 * (i : Int) + 1 + 1 = k + 2 * ((i + 1 : Nat) : Int) := by omega
      (repeat' (first
      | (refine gate_a fun _ => ?_)
      | (refine fork_intro (fun hb => ?_) (fun hb => ?_) <;> (try simp only [ew, hz, g1, List.set_set, e, hm] at hb))
      | (simp only [go_sem, Nat.reduceLeDiff, Nat.reduceEqDiff, reduceIte, reduceCtorEq, Nat.reduceAdd, Nat.reduceMul, Nat.reduceSub, Nat.reduceLT, Int.reduceLT, Int.reduceLE, Int.reduceNeg, Int.reduceToNat, Nat.reduceBEq, Nat.reduceBNe, Int.reduceGE, Int.reduceGT, *, cMarkX, Tryz.results41, hz, g1, List.set_set, e, hm])))
    · have e5 : i = xs.length := by omega
      subst e5
      have e6 : markD k xs.length ++ xs.drop xs.length = markD k xs.length := by simp
      (repeat' (first
      | (refine gate_a fun _ => ?_)
      | (refine fork_intro (fun hb => ?_) (fun hb => ?_) <;> (try simp only [ew, e6, markD_length] at hb))
      | (simp only [go_sem, Nat.reduceLeDiff, Nat.reduceEqDiff, reduceIte, reduceCtorEq, Nat.reduceAdd, Nat.reduceMul, Nat.reduceSub, Nat.reduceLT, Int.reduceLT, Int.reduceLE, Int.reduceNeg, Int.reduceToNat, Nat.reduceBEq, Nat.reduceBNe, Int.reduceGE, Int.reduceGT, *, cMarkX, Tryz.results41, e6, markD_length])))
      all_goals first | rfl | skip

theorem heldDS_ok : ContractOK E0 43 cHeldX := by
  refine contract_of_wpc (E := E0) (T := mkT Tryz.prog [] false (fun _ => false) true (fun _ => false)) (mkT_ok (E := E0) .nil) (fn := Tryz.f43) Tryz.func43 (by kernel_rfl) rfl mixedT (by kernel_rfl) rfl ?_
  intro args p rs ms hr
  unfold cHeldX at hr
  dsimp only at hr
  split at hr
  rotate_left
  · cases hr
  rename_i l k
  simp only [Option.some.injEq, Prod.mk.injEq] at hr
  obtain ⟨rfl, rfl, rfl⟩ := hr
  refine ⟨rfl, rfl, Nat.le_of_ble_eq_true rfl, ?_⟩
  have hm : maxLen = 9223372036854775807 := rfl
  rintro ⟨h1, h2, h3, h4⟩ bs
  obtain ⟨xs, rfl, hx⟩ := h1.ex
  clear h1
  rw [unD_dL]
  rw [dL_length] at h2
  (repeat' (first
      | (refine gate_a fun _ => ?_)
      | (refine fork_intro (fun hb => ?_) (fun hb => ?_) <;> (try simp only [ew] at hb))
      | (simp only [go_sem, Nat.reduceLeDiff, Nat.reduceEqDiff, reduceIte, reduceCtorEq, Nat.reduceAdd, Nat.reduceMul, Nat.reduceSub, Nat.reduceLT, Int.reduceLT, Int.reduceLE, Int.reduceNeg, Int.reduceToNat, Nat.reduceBEq, Nat.reduceBNe, Int.reduceGE, Int.reduceGT, *, cHeldX, Tryz.results43])))
  refine loop_intro { ι := Nat, rs := [(4, 5), (6, 30)], mods := [(5, fun i => .one (.d (.v (.int .i64 i)))), (1, fun i => .one (.d (.v (.int .i64 (k + 2 * (i : Nat))))))], boxes := [], arrs := [], ok := fun i => i ≤ xs.length ∧ xs.take i = markD k i, mu := fun i => xs.length - i } rfl 0 ⟨Nat.zero_le _, rfl⟩ ?_ fun i hi => ?_
  · (repeat' (first
      | (refine gate_a fun _ => ?_)
      | (refine fork_intro (fun hb => ?_) (fun hb => ?_) <;> (try simp only [ew] at hb))
      | (simp only [go_sem, Nat.reduceLeDiff, Nat.reduceEqDiff, reduceIte, reduceCtorEq, Nat.reduceAdd, Nat.reduceMul, Nat.reduceSub, Nat.reduceLT, Int.reduceLT, Int.reduceLE, Int.reduceNeg, Int.reduceToNat, Nat.reduceBEq, Nat.reduceBNe, Int.reduceGE, Int.reduceGT, *, cHeldX, Tryz.results43])))
    all_goals first | omega | skip
  · dsimp only at i hi
    obtain ⟨hi, ht⟩ := hi
    have bad : ∀ h : i < xs.length, ¬ xs.getD i (0, 0) = (k + 2 * (i : Int), k + 2 * (i : Int) + 1) → heldD xs k = -1 := fun h hb => by
      rw [heldD, if_neg]
      intro e
      refine hb ?_
      rw [e, markD_getD h]
    by_cases h5 : i < xs.length
    · have bad := bad h5
      cases hq : xs.getD i (0, 0) with
      | mk q1 q2 =>
        rw [hq] at bad
        by_cases b1 : q1 = k + 2 * (i : Int)
        · by_cases b2 : q2 = k + 2 * (i : Int) + 1
          · have e1 : (q1 != k + 2 * (i : Int)) = false := by rw [b1]; simp
            have e2 : (q2 != k + 2 * (i : Int) + 1) = false := by rw [b2]; simp
            have hn : xs.take (i + 1) = markD k (i + 1) := by rw [take_succ_getD h5 (0, 0), ht, hq, b1, b2, markD_succ]
            clear b1 b2 bad
            (repeat' (first
      | (refine gate_a fun _ => ?_)
      | (refine fork_intro (fun hb => ?_) (fun hb => ?_) <;> (try simp only [ew, hq, e1, e2] at hb))
      | (simp only [go_sem, Nat.reduceLeDiff, Nat.reduceEqDiff, reduceIte, reduceCtorEq, Nat.reduceAdd, Nat.reduceMul, Nat.reduceSub, Nat.reduceLT, Int.reduceLT, Int.reduceLE, Int.reduceNeg, Int.reduceToNat, Nat.reduceBEq, Nat.reduceBNe, Int.reduceGE, Int.reduceGT, *, cHeldX, Tryz.results43, hq, e1, e2])))
            refine loop_next (i + 1) ⟨by omega, hn⟩ (by dsimp only; omega) ?_
            have e : k + 2 * (i : Int) + 1 + 1 = k + 2 * ((i + 1 : Nat) : Int) := by omega
            clear hn ht
            (repeat' (first
      | (refine gate_a fun _ => ?_)
      | (refine fork_intro (fun hb => ?_) (fun hb => ?_) <;> (try simp only [ew, hq, e1, e2, e] at hb))
      | (simp only [go_sem, Nat.reduceLeDiff, Nat.reduceEqDiff, reduceIte, reduceCtorEq, Nat.reduceAdd, Nat.reduceMul, Nat.reduceSub, Nat.reduceLT, Int.reduceLT, Int.reduceLE, Int.reduceNeg, Int.reduceToNat, Nat.reduceBEq, Nat.reduceBNe, Int.reduceGE, Int.reduceGT, *, cHeldX, Tryz.results43, hq, e1, e2, e])))
          · have e1 : (q1 != k + 2 * (i : Int)) = false := by rw [b1]; simp
            have e2 : (q2 != k + 2 * (i : Int) + 1) = true := by rw [bne_iff_ne]; exact b2
            have bad := bad (fun e => b2 (by injection e))
            rw [bad]
            clear b1 b2 bad ht
            (repeat' (first
      | (refine gate_a fun _ => ?_)
      | (refine fork_intro (fun hb => ?_) (fun hb => ?_) <;> (try simp only [ew, hq, e1, e2] at hb))
      | (simp only [go_sem, Nat.reduceLeDiff, Nat.reduceEqDiff, reduceIte, reduceCtorEq, Nat.reduceAdd, Nat.reduceMul, Nat.reduceSub, Nat.reduceLT, Int.reduceLT, Int.reduceLE, Int.reduceNeg, Int.reduceToNat, Nat.reduceBEq, Nat.reduceBNe, Int.reduceGE, Int.reduceGT, *, cHeldX, Tryz.results43, hq, e1, e2])))
        · have e1 : (q1 != k + 2 * (i : Int)) = true := by rw [bne_iff_ne]; exact b1
          have bad := bad (fun e => b1 (by injection e))
          rw [bad]
          clear b1 bad ht
          (repeat' (first
      | (refine gate_a fun _ => ?_)
      | (refine fork_intro (fun hb => ?_) (fun hb => ?_) <;> (try simp only [ew, hq, e1] at hb))
      | (simp only [go_sem, Nat.reduceLeDiff, Nat.reduceEqDiff, reduceIte, reduceCtorEq, Nat.reduceAdd, Nat.reduceMul, Nat.reduceSub, Nat.reduceLT, Int.reduceLT, Int.reduceLE, Int.reduceNeg, Int.reduceToNat, Nat.reduceBEq, Nat.reduceBNe, Int.reduceGE, Int.reduceGT, *, cHeldX, Tryz.results43, hq, e1])))
    · have e5 : i = xs.length := by omega
      subst e5
      rw [List.take_length] at ht
      have e : heldD xs k = k + 2 * (xs.length : Nat) := by rw [heldD, if_pos ht]
      rw [e]
      clear e ht bad
      (repeat' (first
      | (refine gate_a fun _ => ?_)
      | (refine fork_intro (fun hb => ?_) (fun hb => ?_) <;> (try simp only [ew] at hb))
      | (simp only [go_sem, Nat.reduceLeDiff, Nat.reduceEqDiff, reduceIte, reduceCtorEq, Nat.reduceAdd, Nat.reduceMul, Nat.reduceSub, Nat.reduceLT, Int.reduceLT, Int.reduceLE, Int.reduceNeg, Int.reduceToNat, Nat.reduceBEq, Nat.reduceBNe, Int.reduceGE, Int.reduceGT, *, cHeldX, Tryz.results43])))


/-! The law. -/
theorem szN_facts {n : Nat} {k : Int} (hk : k ≤ 1048576) (h : ¬ szN n k < 0) : n ≤ 1048576 ∧ szN n k ≤ k := by
  unfold szN at *
  split at h
  · omega
  · rw [if_neg ‹_›]; omega
theorem szL_factsK {rs : List (List Int)} {k : Int} (hk : k ≤ 1048576) (h : ¬ szL rs k < 0) : rs.length ≤ 16777216 ∧ ∀ r ∈ rs, r.length ≤ 16777216 := by
  unfold szL at h
  split at h
  · omega
  · refine ⟨by omega, fun r hr => ?_⟩
    have := szGo_facts h r hr
    omega

theorem tot_48 {rs : List (List Int)} (h1 : rs.length ≤ 16777216) (h2 : ∀ r ∈ rs, r.length ≤ 16777216) : tot rs ≤ 281474976710656 := by
  have := tot_leB (B := 16777216) h2
  have h3 : (rs.length : Int) * ((16777216 : Nat) : Int) ≤ 281474976710656 := by omega
  omega
end Go.Own
