import Derived.Test.YtmfieiphcjenlaaOwnF5
namespace Go.Own
open Go Go.Proofs
set_option linter.unusedSimpArgs false
set_option linter.unusedVariables false
set_option maxRecDepth 20000
set_option maxHeartbeats 2000000

attribute [local go_sem] unD_dL dL_length dL_get dL_set dL_inj wfD_dL scal2 beq2 pair_eta

theorem markDS_ok : ContractOK E0 17 cMarkX := by
  refine contract_of_wpcM (E := E0) (T := mkT Try.prog [] false (fun _ => false) false (fun _ => false)) (mkT_ok (E := E0) .nil) rfl (fn := Try.f17) Try.func17 (by kernel_rfl) rfl mixedT (by kernel_rfl) rfl rfl (Nat.le_of_ble_eq_true rfl) ?_
  intro args p rs ms hr
  unfold cMarkX at hr
  dsimp only at hr
  split at hr
  rotate_left
  · cases hr
  rename_i l dp k
  simp only [Option.some.injEq, Prod.mk.injEq] at hr
  obtain ⟨rfl, rfl, rfl⟩ := hr
  refine ⟨_, _, _, rfl, rfl, rfl, rfl, rfl, Nat.le_of_ble_eq_true rfl, ?_⟩
  have hm : maxLen = 9223372036854775807 := rfl
  rintro ⟨h1, h2, h3, h4⟩ bs
  obtain ⟨xs, rfl, hx⟩ := h1.ex
  clear h1
  rw [dL_length] at h2
  (repeat' (first
      | (refine gate_a fun _ => ?_)
      | (refine fork_intro (fun hb => ?_) (fun hb => ?_) <;> (try simp only [ew] at hb))
      | (simp only [go_sem, Nat.reduceLeDiff, Nat.reduceEqDiff, reduceIte, reduceCtorEq, Nat.reduceAdd, Nat.reduceMul, Nat.reduceSub, Nat.reduceLT, Int.reduceLT, Int.reduceLE, Int.reduceNeg, Int.reduceToNat, Nat.reduceBEq, Nat.reduceBNe, Int.reduceGE, Int.reduceGT, *, cMarkX, Try.results17])))
  refine loop_intro { ι := Nat, rs := [(6, 26)], mods := [(5, fun i => .one (.d (.v (.int .i64 i)))), (1, fun i => .one (.d (.v (.int .i64 (k + 2 * (i : Nat))))))], boxes := [], arrs := [(0, fun i => (2, dL (markD k i ++ xs.drop i), 1))], ok := fun i => i ≤ xs.length, mu := fun i => xs.length - i } rfl 0 (Nat.zero_le _) ?_ fun i hi => ?_
  · (repeat' (first
      | (refine gate_a fun _ => ?_)
      | (refine fork_intro (fun hb => ?_) (fun hb => ?_) <;> (try simp only [ew] at hb))
      | (simp only [go_sem, Nat.reduceLeDiff, Nat.reduceEqDiff, reduceIte, reduceCtorEq, Nat.reduceAdd, Nat.reduceMul, Nat.reduceSub, Nat.reduceLT, Int.reduceLT, Int.reduceLE, Int.reduceNeg, Int.reduceToNat, Nat.reduceBEq, Nat.reduceBNe, Int.reduceGE, Int.reduceGT, *, cMarkX, Try.results17])))
    all_goals first | exact ⟨by omega, by simp [markD]⟩ | skip
  · dsimp only at i hi
    have hL := mD_length (k := k) hi
    by_cases h5 : i < xs.length
    · have hm := mark_setD (k := k) h5
      generalize hz : markD k i ++ xs.drop i = zs at hL hm
      have h6 : i < zs.length := by omega
      have g1 := fun q => getD_setD (q := q) h6
      (repeat' (first
      | (refine gate_a fun _ => ?_)
      | (refine fork_intro (fun hb => ?_) (fun hb => ?_) <;> (try simp only [ew, hz, g1, List.set_set] at hb))
      | (simp only [go_sem, Nat.reduceLeDiff, Nat.reduceEqDiff, reduceIte, reduceCtorEq, Nat.reduceAdd, Nat.reduceMul, Nat.reduceSub, Nat.reduceLT, Int.reduceLT, Int.reduceLE, Int.reduceNeg, Int.reduceToNat, Nat.reduceBEq, Nat.reduceBNe, Int.reduceGE, Int.reduceGT, *, cMarkX, Try.results17, hz, g1, List.set_set])))
      refine loop_next (i + 1) (by dsimp only; omega) (by dsimp only; omega) ?_
      have e : k + 2 * (i : Int) + 1 + 1 = k + 2 * ((i + 1 : Nat) : Int) := by omega
      (repeat' (first
      | (refine gate_a fun _ => ?_)
      | (refine fork_intro (fun hb => ?_) (fun hb => ?_) <;> (try simp only [ew, hz, g1, List.set_set, e, hm] at hb))
      | (simp only [go_sem, Nat.reduceLeDiff, Nat.reduceEqDiff, reduceIte, reduceCtorEq, Nat.reduceAdd, Nat.reduceMul, Nat.reduceSub, Nat.reduceLT, Int.reduceLT, Int.reduceLE, Int.reduceNeg, Int.reduceToNat, Nat.reduceBEq, Nat.reduceBNe, Int.reduceGE, Int.reduceGT, *, cMarkX, Try.results17, hz, g1, List.set_set, e, hm])))
    · have e5 : i = xs.length := by omega
      subst e5
      have e6 : markD k xs.length ++ xs.drop xs.length = markD k xs.length := by simp
      (repeat' (first
      | (refine gate_a fun _ => ?_)
      | (refine fork_intro (fun hb => ?_) (fun hb => ?_) <;> (try simp only [ew, e6, markD_length] at hb))
      | (simp only [go_sem, Nat.reduceLeDiff, Nat.reduceEqDiff, reduceIte, reduceCtorEq, Nat.reduceAdd, Nat.reduceMul, Nat.reduceSub, Nat.reduceLT, Int.reduceLT, Int.reduceLE, Int.reduceNeg, Int.reduceToNat, Nat.reduceBEq, Nat.reduceBNe, Int.reduceGE, Int.reduceGT, *, cMarkX, Try.results17, e6, markD_length])))
      all_goals first | rfl | skip

/-! The law. -/
theorem szN_facts {n : Nat} {k : Int} (hk : k ≤ 1048576) (h : ¬ szN n k < 0) : n ≤ 1048576 ∧ szN n k ≤ k := by
  unfold szN at *
  split at h
  · omega
  · rw [if_neg ‹_›]; omega
theorem szL_factsK {rs : List (List Int)} {k : Int} (hk : k ≤ 1048576) (h : ¬ szL rs k < 0) : rs.length ≤ 16777216 ∧ ∀ r ∈ rs, r.length ≤ 16777216 := by
  unfold szL at h
  split at h
  · omega
  · refine ⟨by omega, fun r hr => ?_⟩
    have := szGo_facts h r hr
    omega

theorem tot_48 {rs : List (List Int)} (h1 : rs.length ≤ 16777216) (h2 : ∀ r ∈ rs, r.length ≤ 16777216) : tot rs ≤ 281474976710656 := by
  have := tot_leB (B := 16777216) h2
  have h3 : (rs.length : Int) * ((16777216 : Nat) : Int) ≤ 281474976710656 := by omega
  omega

def cLawNDR : Contract := ⟨[], false, fun
  | [.one (.v (.int .i64 n)), .one (.sl 2 l), .one (.sl 1 t)] => some (WfD l ∧ WfS t ∧ -9223372036854775808 ≤ n ∧ n ≤ 9223372036854775807, [⟨false, [.d (.v (.bool true))]⟩], [])
  | _ => none⟩

theorem lawChS_ok : ContractOK E0 3 cLawNDR := by
  refine contract_of_wpc (E := E0) (T := mkT Try.prog [(9, cSzDepS), (10, cSzIntSS), (12, cToDepS), (13, cToIntSS), (11, cStep), (14, cStep), (15, cEqIntSS), (16, cEqDepS), (17, cMarkX), (18, cMarkSS), (19, cHeldSS)] false (fun _ => false) true (fun _ => false)) (mkT_ok (E := E0) (.cons szDepS_ok (.cons szIntSS_ok (.cons toDepS_ok (.cons toIntSS_ok (.cons chStepS_ok (.cons chStepI_ok (.cons eqIntSS_ok (.cons eqDepS_ok (.cons markDS_ok (.cons markSS_ok (.cons heldSS_ok .nil)))))))))))) (fn := Try.f3) Try.func3 (by kernel_rfl) rfl mixedT (by kernel_rfl) rfl ?_
  intro args p rs ms hr
  unfold cLawNDR at hr
  dsimp only at hr
  split at hr
  rotate_left
  · cases hr
  rename_i n l t
  simp only [Option.some.injEq, Prod.mk.injEq] at hr
  obtain ⟨rfl, rfl, rfl⟩ := hr
  refine ⟨rfl, rfl, Nat.le_of_ble_eq_true rfl, ?_⟩
  have hm : maxLen = 9223372036854775807 := rfl
  rintro ⟨h1, h2, hn1, hn2⟩ bs
  obtain ⟨ds, rfl, hx⟩ := h1.ex
  obtain ⟨rs, rfl, hy, hy'⟩ := h2.ex
  clear h1 h2
  by_cases hs : szN ds.length 1048576 < 0
  · (repeat' (first
      | (refine gate_a fun _ => ?_)
      | (refine fork_intro (fun hb => ?_) (fun hb => ?_) <;> (try simp only [ew] at hb))
      | (simp only [go_sem, Nat.reduceLeDiff, Nat.reduceEqDiff, reduceIte, reduceCtorEq, Nat.reduceAdd, Nat.reduceMul, Nat.reduceSub, Nat.reduceLT, Int.reduceLT, Int.reduceLE, Int.reduceNeg, Int.reduceToNat, Nat.reduceBEq, Nat.reduceBNe, Int.reduceGE, Int.reduceGT, *, cLawNDR, cSzDepS, cSzIntSS, cToDepS, cToIntSS, cStep, cEqIntSS, cEqDepS, cMarkX, cMarkSS, cHeldSS, Try.results3])))
    all_goals first | contradiction | skip
  · obtain ⟨f1, f2⟩ := szN_facts (Int.le_refl _) hs
    by_cases hs2 : szL rs (szN ds.length 1048576) < 0
    · (repeat' (first
      | (refine gate_a fun _ => ?_)
      | (refine fork_intro (fun hb => ?_) (fun hb => ?_) <;> (try simp only [ew] at hb))
      | (simp only [go_sem, Nat.reduceLeDiff, Nat.reduceEqDiff, reduceIte, reduceCtorEq, Nat.reduceAdd, Nat.reduceMul, Nat.reduceSub, Nat.reduceLT, Int.reduceLT, Int.reduceLE, Int.reduceNeg, Int.reduceToNat, Nat.reduceBEq, Nat.reduceBNe, Int.reduceGE, Int.reduceGT, *, cLawNDR, cSzDepS, cSzIntSS, cToDepS, cToIntSS, cStep, cEqIntSS, cEqDepS, cMarkX, cMarkSS, cHeldSS, Try.results3])))
      all_goals first | contradiction | skip
    · obtain ⟨g1, g2⟩ := szL_factsK f2 hs2
      obtain ⟨p1, p2, p3⟩ := lens_facts (@csOut_lens n ds rs)
      have p4 := p3 _ g2
      have p5 := p3 _ hy'
      clear p3
      generalize hz : csOut n ds rs = zs at p1 p2 p4 p5
      generalize hbb : (csStep n ds rs).isSome = b
      have b4 := tot_big g1 g2
      have t1 := @tot_nonneg rs
      have m3 := heldL_marks (rs := zs) (k := 1) (by omega)
      have m4 := @markRows_length zs 1
      have m1 : ∀ r ∈ markRows zs 1, r.length ≤ 16777216 := markRows_leB p4
      have m1a : ∀ r ∈ markRows zs 1, r.length ≤ maxLen := fun r hr => Nat.le_trans (m1 r hr) (by decide)
      have m2 := @tot_markRowsB zs 1
      rw [p2] at m3 m2
      have t2 := tot_48 g1 g2
      (repeat' (first
      | (refine gate_intro (by first | omega | ((repeat' (first | apply And.intro | assumption | omega | intro _)); done) | ((repeat' (first | apply And.intro | assumption | omega | intro _)); done) | (simp only [maxLen]; omega) | simp_all | (simp_all [maxLen]; omega)) fun _ => ?_)
      | (refine fork_intro (fun hb => ?_) (fun hb => ?_) <;> (try simp only [ew, hz, hbb, p2, m3, m4, m2] at hb))
      | (simp only [go_sem, Nat.reduceLeDiff, Nat.reduceEqDiff, reduceIte, reduceCtorEq, Nat.reduceAdd, Nat.reduceMul, Nat.reduceSub, Nat.reduceLT, Int.reduceLT, Int.reduceLE, Int.reduceNeg, Int.reduceToNat, Nat.reduceBEq, Nat.reduceBNe, Int.reduceGE, Int.reduceGT, *, cLawNDR, cSzDepS, cSzIntSS, cToDepS, cToIntSS, cStep, cEqIntSS, cEqDepS, cMarkX, cMarkSS, cHeldSS, Try.results3, hz, hbb, p2, m3, m4, m2])))
      all_goals (exfalso; omega)
end Go.Own
