import Derived.Test.YtbmfkgkeciaeaaaGreatOwnH11
import Derived.Test.YtbmfkgkeciaeaaaGreatOwnH7
import Derived.Test.YtbmfkgkeciaeaaaGreatOwnC14
namespace Go.Own
open Go Go.Proofs
set_option linter.unusedSimpArgs false
set_option linter.unusedVariables false
set_option maxRecDepth 20000
set_option maxHeartbeats 2000000

attribute [local go_sem] unD_dL dL_length dL_get dL_set dL_inj wfD_dL scal2 beq2 pair_eta dL_scal

/-! SchemaLine. -/
def schB (n : Int) (ds : List (Int × Int)) : ByteArray := if depsOK n ds then ((((⟨#[107, 101, 121, 115, 32]⟩ ++ slL (keysF n ds)) ++ ⟨#[32, 116, 104, 105, 114, 100, 32]⟩) ++ slL (synF n ds)) ++ ⟨#[32, 98, 111, 121, 99, 101, 32]⟩) ++ slL (decF n ds) else ⟨#[]⟩
theorem keys_size : ByteArray.size ⟨#[107, 101, 121, 115, 32]⟩ = 5 := rfl
theorem third_size : ByteArray.size ⟨#[32, 116, 104, 105, 114, 100, 32]⟩ = 7 := rfl
theorem boyce_size : ByteArray.size ⟨#[32, 98, 111, 121, 99, 101, 32]⟩ = 7 := rfl
def cSch : Contract := ⟨[], false, fun
  | [.one (.v (.int .i64 n)), .one (.sl 2 l)] => some (WfD l ∧ -9223372036854775808 ≤ n ∧ n ≤ 9223372036854775807, [⟨false, [.d (.v (.string (schB n (unD l))))]⟩], [])
  | _ => none⟩
theorem sch_size {xs : List Int} (h : xs.length ≤ 100) : xs.length ≤ maxLen ∧ xs.length ≤ 1048576 ∧ (slL xs).size ≤ 607 := by
  have := @slL_size xs
  exact ⟨Nat.le_trans h (by decide), by omega, by omega⟩
theorem schI_ok : ContractOK E0 22 cSch := by
  refine contract_of_wpc (E := E0) (T := mkT Tryz.prog [(55, cAreDeps), (57, cKeys), (56, cSL), (58, cSyn), (59, cDec)] false (fun _ => false) true (fun _ => false)) (mkT_ok (E := E0) (.cons areDepsI_ok (.cons keysI_ok (.cons slI_ok (.cons synI_ok (.cons decI_ok .nil)))))) (fn := Tryz.f22) Tryz.func22 (by kernel_rfl) rfl mixedT (by kernel_rfl) rfl ?_
  intro args p rs ms hr
  unfold cSch at hr
  dsimp only at hr
  split at hr
  rotate_left
  · cases hr
  rename_i n l
  simp only [Option.some.injEq, Prod.mk.injEq] at hr
  obtain ⟨rfl, rfl, rfl⟩ := hr
  refine ⟨rfl, rfl, Nat.le_of_ble_eq_true rfl, ?_⟩
  have hm : maxLen = 9223372036854775807 := rfl
  rintro ⟨h1, hn1, hn2⟩ bs
  obtain ⟨ds, rfl, hx⟩ := h1.ex
  clear h1
  rw [unD_dL]
  unfold schB
  cases hv : depsOK n ds
  · (repeat' (first
      | (refine gate_a fun _ => ?_)
      | (refine fork_intro (fun hb => ?_) (fun hb => ?_) <;> (try simp only [ew, hv] at hb))
      | (simp only [go_sem, Nat.reduceLeDiff, Nat.reduceEqDiff, reduceIte, reduceCtorEq, Nat.reduceAdd, Nat.reduceMul, Nat.reduceSub, Nat.reduceLT, Int.reduceLT, Int.reduceLE, Int.reduceNeg, Int.reduceToNat, Nat.reduceBEq, Nat.reduceBNe, Int.reduceGE, Int.reduceGT, *, cSch, cAreDeps, cKeys, cSL, cSyn, cDec, Tryz.results22, hv])))
    all_goals first | rfl | skip
  · obtain ⟨k1, k2, k3⟩ := sch_size (@keysF_facts n ds).1
    obtain ⟨s1, s2, s3⟩ := sch_size (@synF_len n ds)
    obtain ⟨d1, d2, d3⟩ := sch_size (@decF_len n ds)
    rw [if_pos rfl]
    generalize hK : keysF n ds = K at k1 k2 k3 ⊢
    generalize hS : synF n ds = S at s1 s2 s3 ⊢
    generalize hD : decF n ds = D at d1 d2 d3 ⊢
    (repeat' (first
      | (refine gate_a fun _ => ?_)
      | (refine fork_intro (fun hb => ?_) (fun hb => ?_) <;> (try simp only [ew, hv, hK, hS, hD, keys_size, third_size, boyce_size, size_app] at hb))
      | (simp only [go_sem, Nat.reduceLeDiff, Nat.reduceEqDiff, reduceIte, reduceCtorEq, Nat.reduceAdd, Nat.reduceMul, Nat.reduceSub, Nat.reduceLT, Int.reduceLT, Int.reduceLE, Int.reduceNeg, Int.reduceToNat, Nat.reduceBEq, Nat.reduceBNe, Int.reduceGE, Int.reduceGT, *, cSch, cAreDeps, cKeys, cSL, cSyn, cDec, Tryz.results22, hv, hK, hS, hD, keys_size, third_size, boyce_size, size_app])))
    all_goals first | rfl | skip
theorem schS_ok : ContractOK E0 20 cSch := by
  refine contract_of_wpc (E := E0) (T := mkT Tryz.prog [(49, cAreDeps), (51, cKeys), (50, cSL), (52, cSyn), (53, cDec)] false (fun _ => false) true (fun _ => false)) (mkT_ok (E := E0) (.cons areDepsS_ok (.cons keysS_ok (.cons slS_ok (.cons synS_ok (.cons decS_ok .nil)))))) (fn := Tryz.f20) Tryz.func20 (by kernel_rfl) rfl mixedT (by kernel_rfl) rfl ?_
  intro args p rs ms hr
  unfold cSch at hr
  dsimp only at hr
  split at hr
  rotate_left
  · cases hr
  rename_i n l
  simp only [Option.some.injEq, Prod.mk.injEq] at hr
  obtain ⟨rfl, rfl, rfl⟩ := hr
  refine ⟨rfl, rfl, Nat.le_of_ble_eq_true rfl, ?_⟩
  have hm : maxLen = 9223372036854775807 := rfl
  rintro ⟨h1, hn1, hn2⟩ bs
  obtain ⟨ds, rfl, hx⟩ := h1.ex
  clear h1
  rw [unD_dL]
  unfold schB
  cases hv : depsOK n ds
  · (repeat' (first
      | (refine gate_a fun _ => ?_)
      | (refine fork_intro (fun hb => ?_) (fun hb => ?_) <;> (try simp only [ew, hv] at hb))
      | (simp only [go_sem, Nat.reduceLeDiff, Nat.reduceEqDiff, reduceIte, reduceCtorEq, Nat.reduceAdd, Nat.reduceMul, Nat.reduceSub, Nat.reduceLT, Int.reduceLT, Int.reduceLE, Int.reduceNeg, Int.reduceToNat, Nat.reduceBEq, Nat.reduceBNe, Int.reduceGE, Int.reduceGT, *, cSch, cAreDeps, cKeys, cSL, cSyn, cDec, Tryz.results20, hv])))
    all_goals first | rfl | skip
  · obtain ⟨k1, k2, k3⟩ := sch_size (@keysF_facts n ds).1
    obtain ⟨s1, s2, s3⟩ := sch_size (@synF_len n ds)
    obtain ⟨d1, d2, d3⟩ := sch_size (@decF_len n ds)
    rw [if_pos rfl]
    generalize hK : keysF n ds = K at k1 k2 k3 ⊢
    generalize hS : synF n ds = S at s1 s2 s3 ⊢
    generalize hD : decF n ds = D at d1 d2 d3 ⊢
    (repeat' (first
      | (refine gate_a fun _ => ?_)
      | (refine fork_intro (fun hb => ?_) (fun hb => ?_) <;> (try simp only [ew, hv, hK, hS, hD, keys_size, third_size, boyce_size, size_app] at hb))
      | (simp only [go_sem, Nat.reduceLeDiff, Nat.reduceEqDiff, reduceIte, reduceCtorEq, Nat.reduceAdd, Nat.reduceMul, Nat.reduceSub, Nat.reduceLT, Int.reduceLT, Int.reduceLE, Int.reduceNeg, Int.reduceToNat, Nat.reduceBEq, Nat.reduceBNe, Int.reduceGE, Int.reduceGT, *, cSch, cAreDeps, cKeys, cSL, cSyn, cDec, Tryz.results20, hv, hK, hS, hD, keys_size, third_size, boyce_size, size_app])))
    all_goals first | rfl | skip
theorem lawSch_ok : ContractOK E0 5 cLawND := by
  refine contract_of_wpc (E := E0) (T := mkT Tryz.prog [(19, cSzDepS), (21, cToDepS), (20, cSch), (22, cSch), (23, cEqDepS)] false (fun _ => false) true (fun _ => false)) (mkT_ok (E := E0) (.cons szDepS_ok (.cons toDepS_ok (.cons schS_ok (.cons schI_ok (.cons eqDepS_ok .nil)))))) (fn := Tryz.f5) Tryz.func5 (by kernel_rfl) rfl mixedT (by kernel_rfl) rfl ?_
  intro args p rs ms hr
  unfold cLawND at hr
  dsimp only at hr
  split at hr
  rotate_left
  · cases hr
  rename_i n l
  simp only [Option.some.injEq, Prod.mk.injEq] at hr
  obtain ⟨rfl, rfl, rfl⟩ := hr
  refine ⟨rfl, rfl, Nat.le_of_ble_eq_true rfl, ?_⟩
  have hm : maxLen = 9223372036854775807 := rfl
  rintro ⟨h1, hn1, hn2⟩ bs
  obtain ⟨ds, rfl, hx⟩ := h1.ex
  clear h1
  by_cases hs : szN ds.length 1048576 < 0
  · (repeat' (first
      | (refine gate_a fun _ => ?_)
      | (refine fork_intro (fun hb => ?_) (fun hb => ?_) <;> (try simp only [ew] at hb))
      | (simp only [go_sem, Nat.reduceLeDiff, Nat.reduceEqDiff, reduceIte, reduceCtorEq, Nat.reduceAdd, Nat.reduceMul, Nat.reduceSub, Nat.reduceLT, Int.reduceLT, Int.reduceLE, Int.reduceNeg, Int.reduceToNat, Nat.reduceBEq, Nat.reduceBNe, Int.reduceGE, Int.reduceGT, *, cLawND, cSzDepS, cToDepS, cSch, cEqDepS, Tryz.results5])))
    all_goals first | contradiction | skip
  · obtain ⟨f1, f2⟩ := szN_facts (Int.le_refl _) hs
    generalize hz : schB n ds = b
    (repeat' (first
      | (refine gate_intro (by first | omega | ((repeat' (first | apply And.intro | assumption | omega | intro _)); done) | ((repeat' (first | apply And.intro | assumption | omega | intro _)); done) | (simp only [maxLen]; omega) | simp_all | (simp_all [maxLen]; omega)) fun _ => ?_)
      | (refine fork_intro (fun hb => ?_) (fun hb => ?_) <;> (try simp only [ew, hz] at hb))
      | (simp only [go_sem, Nat.reduceLeDiff, Nat.reduceEqDiff, reduceIte, reduceCtorEq, Nat.reduceAdd, Nat.reduceMul, Nat.reduceSub, Nat.reduceLT, Int.reduceLT, Int.reduceLE, Int.reduceNeg, Int.reduceToNat, Nat.reduceBEq, Nat.reduceBNe, Int.reduceGE, Int.reduceGT, *, cLawND, cSzDepS, cToDepS, cSch, cEqDepS, Tryz.results5, hz])))
    all_goals (exfalso; omega)
end Go.Own
