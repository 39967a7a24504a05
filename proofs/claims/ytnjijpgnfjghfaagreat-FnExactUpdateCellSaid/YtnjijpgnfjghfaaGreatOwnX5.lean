/- Own calculus and contracts, OwnX5: OwnH9, OwnH10. Conditions: as each theorem states them. -/
import Derived.Test.YtnjijpgnfjghfaaGreatOwnH8
import Derived.Test.YtnjijpgnfjghfaaGreatOwnY3
import Derived.Test.YtnjijpgnfjghfaaGreatOwnF4
namespace Go.Own
open Go Go.Proofs
set_option linter.unusedSimpArgs false
set_option linter.unusedVariables false
set_option maxRecDepth 20000
set_option maxHeartbeats 2000000

attribute [local go_sem] unD_dL dL_length dL_get dL_set dL_inj wfD_dL scal2 beq2 pair_eta dL_scal

/-! IsMonitor. -/
def isM (c : Int) (rs : List (List Int)) (m : Int) (qs : List (Int × Int)) : Bool := (tabOK c rs && modeOK m) && qs == mdL c rs m
def cIsM : Contract := ⟨[], false, fun
  | [.agg [.v (.int .i64 c), .sl 1 l, .v (.int .i64 m), .sl 2 q]] => some (WfS l ∧ WfD q ∧ -9223372036854775808 ≤ c ∧ c ≤ 9223372036854775807, [⟨false, [.d (.v (.bool (isM c (unS l) m (unD q))))]⟩], [])
  | _ => none⟩
theorem isMI_ok : ContractOK E0 34 cIsM := by
  refine contract_of_wpc (E := E0) (T := mkT Tryz.prog [(75, cIsTableS), (76, cMode), (78, cMD), (77, cEqDepS)] false (fun _ => false) true (fun _ => false)) (mkT_ok (E := E0) (.cons isTableI_ok (.cons modeI_ok (.cons mdI_ok (.cons sameDepsI_ok .nil))))) (fn := Tryz.f34) Tryz.func34 (by kernel_rfl) rfl mixedT (by kernel_rfl) rfl ?_
  intro args p rs ms hr
  unfold cIsM at hr
  dsimp only at hr
  split at hr
  rotate_left
  · cases hr
  rename_i c l m q
  simp only [Option.some.injEq, Prod.mk.injEq] at hr
  obtain ⟨rfl, rfl, rfl⟩ := hr
  refine ⟨rfl, rfl, Nat.le_of_ble_eq_true rfl, ?_⟩
  have hm : maxLen = 9223372036854775807 := rfl
  rintro ⟨h1, h2, hc1, hc2⟩ bs
  obtain ⟨rs, rfl, hx, hy⟩ := h1.ex
  obtain ⟨ds, rfl, hd⟩ := h2.ex
  clear h1 h2
  rw [unS_sL, unD_dL]
  unfold isM
  have h3 := (@mdL_facts c rs m).1
  cases h4 : tabOK c rs
  · rw [Bool.false_and, Bool.false_and]
    (repeat' (first
      | (refine gate_a fun _ => ?_)
      | (refine fork_intro (fun hb => ?_) (fun hb => ?_) <;> (try simp only [ew, h4] at hb))
      | (simp only [go_sem, Nat.reduceLeDiff, Nat.reduceEqDiff, reduceIte, reduceCtorEq, Nat.reduceAdd, Nat.reduceMul, Nat.reduceSub, Nat.reduceLT, Int.reduceLT, Int.reduceLE, Int.reduceNeg, Int.reduceToNat, Nat.reduceBEq, Nat.reduceBNe, Int.reduceGE, Int.reduceGT, *, cIsM, cIsTableS, cMode, cMD, cEqDepS, Tryz.results34, h4])))
  · cases h5 : modeOK m
    · rw [Bool.and_false, Bool.false_and]
      (repeat' (first
      | (refine gate_a fun _ => ?_)
      | (refine fork_intro (fun hb => ?_) (fun hb => ?_) <;> (try simp only [ew, h4, h5] at hb))
      | (simp only [go_sem, Nat.reduceLeDiff, Nat.reduceEqDiff, reduceIte, reduceCtorEq, Nat.reduceAdd, Nat.reduceMul, Nat.reduceSub, Nat.reduceLT, Int.reduceLT, Int.reduceLE, Int.reduceNeg, Int.reduceToNat, Nat.reduceBEq, Nat.reduceBNe, Int.reduceGE, Int.reduceGT, *, cIsM, cIsTableS, cMode, cMD, cEqDepS, Tryz.results34, h4, h5])))
    · rw [Bool.and_true, Bool.true_and]
      generalize hz : mdL c rs m = zs at h3 ⊢
      (repeat' (first
      | (refine gate_a fun _ => ?_)
      | (refine fork_intro (fun hb => ?_) (fun hb => ?_) <;> (try simp only [ew, h4, h5, hz] at hb))
      | (simp only [go_sem, Nat.reduceLeDiff, Nat.reduceEqDiff, reduceIte, reduceCtorEq, Nat.reduceAdd, Nat.reduceMul, Nat.reduceSub, Nat.reduceLT, Int.reduceLT, Int.reduceLE, Int.reduceNeg, Int.reduceToNat, Nat.reduceBEq, Nat.reduceBNe, Int.reduceGE, Int.reduceGT, *, cIsM, cIsTableS, cMode, cMD, cEqDepS, Tryz.results34, h4, h5, hz])))
theorem isMS_ok : ContractOK E0 28 cIsM := by
  refine contract_of_wpc (E := E0) (T := mkT Tryz.prog [(64, cFine), (66, cMD), (65, cEqDepS)] false (fun _ => false) true (fun _ => false)) (mkT_ok (E := E0) (.cons fine_ok (.cons mdS_ok (.cons sameDepsS_ok .nil)))) (fn := Tryz.f28) Tryz.func28 (by kernel_rfl) rfl mixedT (by kernel_rfl) rfl ?_
  intro args p rs ms hr
  unfold cIsM at hr
  dsimp only at hr
  split at hr
  rotate_left
  · cases hr
  rename_i c l m q
  simp only [Option.some.injEq, Prod.mk.injEq] at hr
  obtain ⟨rfl, rfl, rfl⟩ := hr
  refine ⟨rfl, rfl, Nat.le_of_ble_eq_true rfl, ?_⟩
  have hm : maxLen = 9223372036854775807 := rfl
  rintro ⟨h1, h2, hc1, hc2⟩ bs
  obtain ⟨rs, rfl, hx, hy⟩ := h1.ex
  obtain ⟨ds, rfl, hd⟩ := h2.ex
  clear h1 h2
  rw [unS_sL, unD_dL]
  unfold isM
  have h3 := (@mdL_facts c rs m).1
  cases h4 : (tabOK c rs && modeOK m)
  · rw [Bool.false_and]
    (repeat' (first
      | (refine gate_a fun _ => ?_)
      | (refine fork_intro (fun hb => ?_) (fun hb => ?_) <;> (try simp only [ew, h4] at hb))
      | (simp only [go_sem, Nat.reduceLeDiff, Nat.reduceEqDiff, reduceIte, reduceCtorEq, Nat.reduceAdd, Nat.reduceMul, Nat.reduceSub, Nat.reduceLT, Int.reduceLT, Int.reduceLE, Int.reduceNeg, Int.reduceToNat, Nat.reduceBEq, Nat.reduceBNe, Int.reduceGE, Int.reduceGT, *, cIsM, cFine, cMD, cEqDepS, Tryz.results28, h4])))
  · rw [Bool.true_and]
    generalize hz : mdL c rs m = zs at h3 ⊢
    (repeat' (first
      | (refine gate_a fun _ => ?_)
      | (refine fork_intro (fun hb => ?_) (fun hb => ?_) <;> (try simp only [ew, h4, hz] at hb))
      | (simp only [go_sem, Nat.reduceLeDiff, Nat.reduceEqDiff, reduceIte, reduceCtorEq, Nat.reduceAdd, Nat.reduceMul, Nat.reduceSub, Nat.reduceLT, Int.reduceLT, Int.reduceLE, Int.reduceNeg, Int.reduceToNat, Nat.reduceBEq, Nat.reduceBNe, Int.reduceGE, Int.reduceGT, *, cIsM, cFine, cMD, cEqDepS, Tryz.results28, h4, hz])))
def cLawN : Contract := ⟨[], false, fun
  | [.agg [.v (.int .i64 c), .sl 1 l, .v (.int .i64 m), .sl 2 q]] => some (WfS l ∧ WfD q ∧ -9223372036854775808 ≤ c ∧ c ≤ 9223372036854775807, [⟨false, [.d (.v (.bool true))]⟩], [])
  | _ => none⟩
end Go.Own

namespace Go.Own
open Go Go.Proofs
set_option linter.unusedSimpArgs false
set_option linter.unusedVariables false
set_option maxRecDepth 20000
set_option maxHeartbeats 2000000

attribute [local go_sem] unD_dL dL_length dL_get dL_set dL_inj wfD_dL scal2 beq2 pair_eta dL_scal

/-! Copies of tables. -/
def cCopyT : Contract := ⟨[], false, fun
  | [.agg [.v (.int .i64 c), .sl 1 l]] => some (WfS l ∧ l.length ≤ 16777216 ∧ ∀ r ∈ unS l, r.length ≤ 16777216, [⟨true, [.d (.v (.int .i64 c)), .own 1 l 1]⟩], [])
  | _ => none⟩
theorem copyTI_ok : ContractOK E0 73 cCopyT := by
  refine contract_of_wpc (E := E0) (T := mkT Tryz.prog [(114, cCopyR)] false (fun _ => false) true (fun _ => false)) (mkT_ok (E := E0) (.cons copyR_ok .nil)) (fn := Tryz.f73) Tryz.func73 (by kernel_rfl) rfl mixedT (by kernel_rfl) rfl ?_
  intro args p rs ms hr
  unfold cCopyT at hr
  dsimp only at hr
  split at hr
  rotate_left
  · cases hr
  rename_i c l
  simp only [Option.some.injEq, Prod.mk.injEq] at hr
  obtain ⟨rfl, rfl, rfl⟩ := hr
  refine ⟨rfl, rfl, Nat.le_of_ble_eq_true rfl, ?_⟩
  have hm : maxLen = 9223372036854775807 := rfl
  rintro ⟨h1, h2, h3⟩ bs
  obtain ⟨rs, rfl, hx, hy⟩ := h1.ex
  clear h1
  rw [unS_sL] at h3
  rw [sL_length] at h2
  (repeat' (first
      | (refine gate_a fun _ => ?_)
      | (refine fork_intro (fun hb => ?_) (fun hb => ?_) <;> (try simp only [ew] at hb))
      | (simp only [go_sem, Nat.reduceLeDiff, Nat.reduceEqDiff, reduceIte, reduceCtorEq, Nat.reduceAdd, Nat.reduceMul, Nat.reduceSub, Nat.reduceLT, Int.reduceLT, Int.reduceLE, Int.reduceNeg, Int.reduceToNat, Nat.reduceBEq, Nat.reduceBNe, Int.reduceGE, Int.reduceGT, *, cCopyT, cCopyR, Tryz.results73])))
theorem copyTS_ok : ContractOK E0 63 cCopyT := by
  refine contract_of_wpc (E := E0) (T := mkT Tryz.prog [] false (fun _ => false) true (fun d => d == 15)) (mkT_ok (E := E0) .nil) (fn := Tryz.f63) Tryz.func63 (by kernel_rfl) rfl mixedT (by kernel_rfl) rfl ?_
  intro args p rs ms hr
  unfold cCopyT at hr
  dsimp only at hr
  split at hr
  rotate_left
  · cases hr
  rename_i c l
  simp only [Option.some.injEq, Prod.mk.injEq] at hr
  obtain ⟨rfl, rfl, rfl⟩ := hr
  refine ⟨rfl, rfl, Nat.le_of_ble_eq_true rfl, ?_⟩
  have hm : maxLen = 9223372036854775807 := rfl
  rintro ⟨h1, h2, h3⟩ bs
  obtain ⟨rs, rfl, hx, hy⟩ := h1.ex
  clear h1
  rw [unS_sL] at h3
  rw [sL_length] at h2
  (repeat' (first
      | (refine gate_a fun _ => ?_)
      | (refine fork_intro (fun hb => ?_) (fun hb => ?_) <;> (try simp only [ew] at hb))
      | (simp only [go_sem, Nat.reduceLeDiff, Nat.reduceEqDiff, reduceIte, reduceCtorEq, Nat.reduceAdd, Nat.reduceMul, Nat.reduceSub, Nat.reduceLT, Int.reduceLT, Int.reduceLE, Int.reduceNeg, Int.reduceToNat, Nat.reduceBEq, Nat.reduceBNe, Int.reduceGE, Int.reduceGT, *, cCopyT, Tryz.results63])))
  refine loop_intro { ι := Nat, rs := [(8, 27)], mods := [(4, fun i => .one (.d (.v (.int .i64 i))))], boxes := [(1, fun _ => [.d (.v (.int .i64 c)), .d (.sl 1 (sL rs))]), (2, fun _ => [.d (.v (.int .i64 0)), .d (.v (.slice none 0 0))]), (3, fun i => [.d (.v (.int .i64 c)), .own 1 (sL (rs.take i)) 1])], arrs := [], ok := fun i => i ≤ rs.length, mu := fun i => rs.length - i } rfl 0 (Nat.zero_le _) ?_ fun i hi => ?_
  · (repeat' (first
      | (refine gate_a fun _ => ?_)
      | (refine fork_intro (fun hb => ?_) (fun hb => ?_) <;> (try simp only [ew] at hb))
      | (simp only [go_sem, Nat.reduceLeDiff, Nat.reduceEqDiff, reduceIte, reduceCtorEq, Nat.reduceAdd, Nat.reduceMul, Nat.reduceSub, Nat.reduceLT, Int.reduceLT, Int.reduceLE, Int.reduceNeg, Int.reduceToNat, Nat.reduceBEq, Nat.reduceBNe, Int.reduceGE, Int.reduceGT, *, cCopyT, Tryz.results63])))
    all_goals first | rfl | skip
  · dsimp only at i hi
    have q1 := all_getD hy i
    have q2 := all_getD h3 i
    by_cases h5 : i < rs.length
    · have e := take_succ_getD h5 []
      (repeat' (first
      | (refine gate_a fun _ => ?_)
      | (refine fork_intro (fun hb => ?_) (fun hb => ?_) <;> (try simp only [ew, sL_snoc, iL_allscal] at hb))
      | (simp only [go_sem, Nat.reduceLeDiff, Nat.reduceEqDiff, reduceIte, reduceCtorEq, Nat.reduceAdd, Nat.reduceMul, Nat.reduceSub, Nat.reduceLT, Int.reduceLT, Int.reduceLE, Int.reduceNeg, Int.reduceToNat, Nat.reduceBEq, Nat.reduceBNe, Int.reduceGE, Int.reduceGT, *, cCopyT, Tryz.results63, sL_snoc, iL_allscal])))
      refine loop_next (i + 1) (by dsimp only; omega) (by dsimp only; omega) ?_
      (repeat' (first
      | (refine gate_a fun _ => ?_)
      | (refine fork_intro (fun hb => ?_) (fun hb => ?_) <;> (try simp only [ew, sL_snoc, e] at hb))
      | (simp only [go_sem, Nat.reduceLeDiff, Nat.reduceEqDiff, reduceIte, reduceCtorEq, Nat.reduceAdd, Nat.reduceMul, Nat.reduceSub, Nat.reduceLT, Int.reduceLT, Int.reduceLE, Int.reduceNeg, Int.reduceToNat, Nat.reduceBEq, Nat.reduceBNe, Int.reduceGE, Int.reduceGT, *, cCopyT, Tryz.results63, sL_snoc, e])))
    · have e5 : i = rs.length := by omega
      subst e5
      have e6 : rs.take rs.length = rs := List.take_length
      (repeat' (first
      | (refine gate_a fun _ => ?_)
      | (refine fork_intro (fun hb => ?_) (fun hb => ?_) <;> (try simp only [ew, e6] at hb))
      | (simp only [go_sem, Nat.reduceLeDiff, Nat.reduceEqDiff, reduceIte, reduceCtorEq, Nat.reduceAdd, Nat.reduceMul, Nat.reduceSub, Nat.reduceLT, Int.reduceLT, Int.reduceLE, Int.reduceNeg, Int.reduceToNat, Nat.reduceBEq, Nat.reduceBNe, Int.reduceGE, Int.reduceGT, *, cCopyT, Tryz.results63, e6])))
      all_goals first | rfl | skip

/-! NewMonitor. -/
def nmB (c : Int) (rs : List (List Int)) (m : Int) : Bool := tabOK c rs && modeOK m
def nmC (c : Int) (rs : List (List Int)) (m : Int) : Int := if nmB c rs m then c else 0
def nmR (c : Int) (rs : List (List Int)) (m : Int) : List (List Int) := if nmB c rs m then rs else []
def nmM (c : Int) (rs : List (List Int)) (m : Int) : Int := if nmB c rs m then m else 0
theorem tot_leM {B : Nat} : ∀ {rs : List (List Int)}, (∀ r ∈ rs, r.length ≤ B) → tot rs ≤ B * rs.length
  | [], _ => by simp [tot]
  | r :: rs, h => by
    have ih := tot_leM (rs := rs) fun r hr => h r (by simp [hr])
    have h1 := h r (by simp)
    rw [tot, List.length_cons, Int.natCast_add, Int.mul_add]
    omega
theorem tab_small {c : Int} {rs : List (List Int)} (h : tabOK c rs = true) : rs.length ≤ 40 ∧ ∀ r ∈ rs, r.length ≤ 5 := by
  obtain ⟨n, rfl, n1, n5, h40, hl⟩ := tab_rows h
  refine ⟨h40, fun r hr => ?_⟩
  obtain ⟨i, hi, rfl⟩ := List.getElem_of_mem hr
  have := hl i hi
  simp only [List.getD_eq_getElem?_getD, List.getElem?_eq_getElem hi, Option.getD_some] at this
  omega
theorem nmR_facts {c : Int} {rs : List (List Int)} {m : Int} : (nmR c rs m).length ≤ 40 ∧ (∀ r ∈ nmR c rs m, r.length ≤ 5) ∧ tot (nmR c rs m) ≤ 200 := by
  have h : (nmR c rs m).length ≤ 40 ∧ ∀ r ∈ nmR c rs m, r.length ≤ 5 := by
    unfold nmR nmB
    split
    · rename_i h
      rw [Bool.and_eq_true] at h
      exact tab_small h.1
    · simp
  refine ⟨h.1, h.2, ?_⟩
  have := tot_leM h.2
  omega
def cNewM : Contract := ⟨[], false, fun
  | [.agg [.v (.int .i64 c), .sl 1 l], .one (.v (.int .i64 m))] => some (WfS l ∧ -9223372036854775808 ≤ c ∧ c ≤ 9223372036854775807,
      [⟨true, [.d (.v (.int .i64 (nmC c (unS l) m))), .own 1 (sL (nmR c (unS l) m)) 1, .d (.v (.int .i64 (nmM c (unS l) m))), .own 2 (dL (mdL c (unS l) m)) 1]⟩, ⟨false, [.d (.v (.bool (nmB c (unS l) m)))]⟩], [])
  | _ => none⟩
/-! Marks on monitors. -/
def cMarkM : Contract := ⟨[true], false, fun
  | [.mag [.inl (.v (.int .i64 c)), .inr (1, l, _), .inl (.v (.int .i64 m)), .inr (2, q, _)], .one (.v (.int .i64 k))] => some (WfS l ∧ (l.length ≤ 16777216 ∧ ∀ r ∈ unS l, r.length ≤ 16777216) ∧ WfD q ∧ q.length ≤ 16777216 ∧ 0 ≤ k ∧ k + tot (unS l) ≤ 1125899906842624,
      [⟨false, [.d (.v (.int .i64 (k + tot (unS l) + 2 * q.length)))]⟩], [.mag [.inl (.v (.int .i64 c)), .inr (1, sL (markRows (unS l) k), 1), .inl (.v (.int .i64 m)), .inr (2, dL (markD (k + tot (unS l)) q.length), 1)]])
  | _ => none⟩
theorem markM_ok : ContractOK E0 14 cMarkM := by
  refine contract_of_wpcM (E := E0) (T := mkT Tryz.prog [(40, cMarkT), (41, cMarkX)] false (fun _ => false) false (fun _ => false)) (mkT_ok (E := E0) (.cons markT_ok (.cons markDS_ok .nil))) rfl (fn := Tryz.f14) Tryz.func14 (by kernel_rfl) rfl mixedT (by kernel_rfl) rfl rfl (Nat.le_of_ble_eq_true rfl) ?_
  intro args p rs ms hr
  unfold cMarkM at hr
  dsimp only at hr
  split at hr
  rotate_left
  · cases hr
  rename_i c l dp m q dp2 k
  simp only [Option.some.injEq, Prod.mk.injEq] at hr
  obtain ⟨rfl, rfl, rfl⟩ := hr
  refine ⟨_, _, _, rfl, rfl, rfl, rfl, rfl, Nat.le_of_ble_eq_true rfl, ?_⟩
  have hm : maxLen = 9223372036854775807 := rfl
  rintro ⟨h1, ⟨h2, h2'⟩, h3, h3', h4, h5⟩ bs
  obtain ⟨rs, rfl, hx, hy⟩ := h1.ex
  obtain ⟨ds, rfl, hd⟩ := h3.ex
  clear h1 h3
  rw [unS_sL] at h2' h5 ⊢
  rw [sL_length] at h2
  rw [dL_length] at h3'
  have ht := @tot_nonneg rs
  (repeat' (first
      | (refine gate_a fun _ => ?_)
      | (refine fork_intro (fun hb => ?_) (fun hb => ?_) <;> (try simp only [ew] at hb))
      | (simp only [go_sem, Nat.reduceLeDiff, Nat.reduceEqDiff, reduceIte, reduceCtorEq, Nat.reduceAdd, Nat.reduceMul, Nat.reduceSub, Nat.reduceLT, Int.reduceLT, Int.reduceLE, Int.reduceNeg, Int.reduceToNat, Nat.reduceBEq, Nat.reduceBNe, Int.reduceGE, Int.reduceGT, *, cMarkM, cMarkT, cMarkX, Tryz.results14])))
def heldM (rs : List (List Int)) (ds : List (Int × Int)) (k : Int) : Int := if heldL rs k < 0 then -1 else heldD ds (heldL rs k)
theorem heldL_le : ∀ {rs : List (List Int)} {k : Int}, ¬ heldL rs k < 0 → heldL rs k = k + tot rs
  | [], k, h => by simp [heldL, tot]
  | r :: rs, k, h => by
    simp only [heldL, tot] at h ⊢
    split at h
    · omega
    · rename_i h1
      have := heldI_le h1
      rw [if_neg h1, heldL_le h, this]
      omega
theorem heldD_neg {ds : List (Int × Int)} {k : Int} (hk : 0 ≤ k) (h : heldD ds k < 0) : heldD ds k = -1 := by
  unfold heldD at *
  split at h
  · omega
  · rw [if_neg ‹_›]
def cHeldM : Contract := ⟨[], false, fun
  | [.agg [.v (.int .i64 c), .sl 1 l, .v (.int .i64 m), .sl 2 q], .one (.v (.int .i64 k))] => some (WfS l ∧ (l.length ≤ 16777216 ∧ ∀ r ∈ unS l, r.length ≤ 16777216) ∧ WfD q ∧ q.length ≤ 16777216 ∧ 0 ≤ k ∧ k + tot (unS l) ≤ 1125899906842624, [⟨false, [.d (.v (.int .i64 (heldM (unS l) (unD q) k)))]⟩], [])
  | _ => none⟩
theorem heldM_ok : ContractOK E0 16 cHeldM := by
  refine contract_of_wpc (E := E0) (T := mkT Tryz.prog [(42, cHeldT), (43, cHeldX)] false (fun _ => false) true (fun _ => false)) (mkT_ok (E := E0) (.cons heldT_ok (.cons heldDS_ok .nil))) (fn := Tryz.f16) Tryz.func16 (by kernel_rfl) rfl mixedT (by kernel_rfl) rfl ?_
  intro args p rs ms hr
  unfold cHeldM at hr
  dsimp only at hr
  split at hr
  rotate_left
  · cases hr
  rename_i c l m q k
  simp only [Option.some.injEq, Prod.mk.injEq] at hr
  obtain ⟨rfl, rfl, rfl⟩ := hr
  refine ⟨rfl, rfl, Nat.le_of_ble_eq_true rfl, ?_⟩
  have hm : maxLen = 9223372036854775807 := rfl
  rintro ⟨h1, ⟨h2, h2'⟩, h3, h3', h4, h5⟩ bs
  obtain ⟨rs, rfl, hx, hy⟩ := h1.ex
  obtain ⟨ds, rfl, hd⟩ := h3.ex
  clear h1 h3
  rw [unS_sL] at h2' h5 ⊢
  rw [unD_dL]
  rw [sL_length] at h2
  rw [dL_length] at h3'
  have ht := @tot_nonneg rs
  unfold heldM
  by_cases hh : heldL rs k < 0
  · rw [if_pos hh]
    (repeat' (first
      | (refine gate_a fun _ => ?_)
      | (refine fork_intro (fun hb => ?_) (fun hb => ?_) <;> (try simp only [ew] at hb))
      | (simp only [go_sem, Nat.reduceLeDiff, Nat.reduceEqDiff, reduceIte, reduceCtorEq, Nat.reduceAdd, Nat.reduceMul, Nat.reduceSub, Nat.reduceLT, Int.reduceLT, Int.reduceLE, Int.reduceNeg, Int.reduceToNat, Nat.reduceBEq, Nat.reduceBNe, Int.reduceGE, Int.reduceGT, *, cHeldM, cHeldT, cHeldX, Tryz.results16])))
    all_goals first | contradiction | rfl | skip
  · have e := heldL_le hh
    rw [if_neg hh]
    have hn := @heldD_neg ds (heldL rs k) (by omega)
    rw [e] at hh hn ⊢
    (repeat' (first
      | (refine gate_a fun _ => ?_)
      | (refine fork_intro (fun hb => ?_) (fun hb => ?_) <;> (try simp only [ew, e] at hb))
      | (simp only [go_sem, Nat.reduceLeDiff, Nat.reduceEqDiff, reduceIte, reduceCtorEq, Nat.reduceAdd, Nat.reduceMul, Nat.reduceSub, Nat.reduceLT, Int.reduceLT, Int.reduceLE, Int.reduceNeg, Int.reduceToNat, Nat.reduceBEq, Nat.reduceBNe, Int.reduceGE, Int.reduceGT, *, cHeldM, cHeldT, cHeldX, Tryz.results16, e])))
    all_goals first | contradiction | exact (hn ‹_›).symm | rfl | skip
theorem heldM_marks {rs : List (List Int)} {n : Nat} {k : Int} (hk : 0 ≤ k) : heldM (markRows rs k) (markD (k + tot rs) n) k = k + tot rs + 2 * n := by
  have ht := @tot_nonneg rs
  unfold heldM
  rw [heldL_marks hk, if_neg (by omega), heldD_marks]

/-! The law. -/
def cLawTI : Contract := ⟨[], false, fun
  | [.agg [.v (.int .i64 c), .sl 1 l], .one (.v (.int .i64 m))] => some (WfS l ∧ -9223372036854775808 ≤ c ∧ c ≤ 9223372036854775807, [⟨false, [.d (.v (.bool true))]⟩], [])
  | _ => none⟩
end Go.Own
