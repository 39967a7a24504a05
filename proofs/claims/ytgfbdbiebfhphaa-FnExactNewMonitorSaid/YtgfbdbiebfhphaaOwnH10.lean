import Derived.Test.YtgfbdbiebfhphaaOwnH8
import Derived.Test.YtgfbdbiebfhphaaOwnY3
import Derived.Test.YtgfbdbiebfhphaaOwnF4
namespace Go.Own
open Go Go.Proofs
set_option linter.unusedSimpArgs false
set_option linter.unusedVariables false
set_option maxRecDepth 20000
set_option maxHeartbeats 2000000

attribute [local go_sem] unD_dL dL_length dL_get dL_set dL_inj wfD_dL scal2 beq2 pair_eta dL_scal

/-! Copies of tables. -/
def cCopyT : Contract := ⟨[], false, fun
  | [.agg [.v (.int .i64 c), .sl 1 l]] => some (WfS l ∧ l.length ≤ 16777216 ∧ ∀ r ∈ unS l, r.length ≤ 16777216, [⟨true, [.d (.v (.int .i64 c)), .own 1 l 1]⟩], [])
  | _ => none⟩
theorem copyTI_ok : ContractOK E0 83 cCopyT := by
  refine contract_of_wpc (E := E0) (T := mkT Try.prog [(117, cCopyR)] false (fun _ => false) true (fun _ => false)) (mkT_ok (E := E0) (.cons copyR_ok .nil)) (fn := Try.f83) Try.func83 (by kernel_rfl) rfl mixedT (by kernel_rfl) rfl ?_
  intro args p rs ms hr
  unfold cCopyT at hr
  dsimp only at hr
  split at hr
  rotate_left
  · cases hr
  rename_i c l
  simp only [Option.some.injEq, Prod.mk.injEq] at hr
  obtain ⟨rfl, rfl, rfl⟩ := hr
  refine ⟨rfl, rfl, Nat.le_of_ble_eq_true rfl, ?_⟩
  have hm : maxLen = 9223372036854775807 := rfl
  rintro ⟨h1, h2, h3⟩ bs
  obtain ⟨rs, rfl, hx, hy⟩ := h1.ex
  clear h1
  rw [unS_sL] at h3
  rw [sL_length] at h2
  (repeat' (first
      | (refine gate_a fun _ => ?_)
      | (refine fork_intro (fun hb => ?_) (fun hb => ?_) <;> (try simp only [ew] at hb))
      | (simp only [go_sem, Nat.reduceLeDiff, Nat.reduceEqDiff, reduceIte, reduceCtorEq, Nat.reduceAdd, Nat.reduceMul, Nat.reduceSub, Nat.reduceLT, Int.reduceLT, Int.reduceLE, Int.reduceNeg, Int.reduceToNat, Nat.reduceBEq, Nat.reduceBNe, Int.reduceGE, Int.reduceGT, *, cCopyT, cCopyR, Try.results83])))
theorem copyTS_ok : ContractOK E0 81 cCopyT := by
  refine contract_of_wpc (E := E0) (T := mkT Try.prog [] false (fun _ => false) true (fun d => d == 15)) (mkT_ok (E := E0) .nil) (fn := Try.f81) Try.func81 (by kernel_rfl) rfl mixedT (by kernel_rfl) rfl ?_
  intro args p rs ms hr
  unfold cCopyT at hr
  dsimp only at hr
  split at hr
  rotate_left
  · cases hr
  rename_i c l
  simp only [Option.some.injEq, Prod.mk.injEq] at hr
  obtain ⟨rfl, rfl, rfl⟩ := hr
  refine ⟨rfl, rfl, Nat.le_of_ble_eq_true rfl, ?_⟩
  have hm : maxLen = 9223372036854775807 := rfl
  rintro ⟨h1, h2, h3⟩ bs
  obtain ⟨rs, rfl, hx, hy⟩ := h1.ex
  clear h1
  rw [unS_sL] at h3
  rw [sL_length] at h2
  (repeat' (first
      | (refine gate_a fun _ => ?_)
      | (refine fork_intro (fun hb => ?_) (fun hb => ?_) <;> (try simp only [ew] at hb))
      | (simp only [go_sem, Nat.reduceLeDiff, Nat.reduceEqDiff, reduceIte, reduceCtorEq, Nat.reduceAdd, Nat.reduceMul, Nat.reduceSub, Nat.reduceLT, Int.reduceLT, Int.reduceLE, Int.reduceNeg, Int.reduceToNat, Nat.reduceBEq, Nat.reduceBNe, Int.reduceGE, Int.reduceGT, *, cCopyT, Try.results81])))
  refine loop_intro { ι := Nat, rs := [(8, 27)], mods := [(4, fun i => .one (.d (.v (.int .i64 i))))], boxes := [(1, fun _ => [.d (.v (.int .i64 c)), .d (.sl 1 (sL rs))]), (2, fun _ => [.d (.v (.int .i64 0)), .d (.v (.slice none 0 0))]), (3, fun i => [.d (.v (.int .i64 c)), .own 1 (sL (rs.take i)) 1])], arrs := [], ok := fun i => i ≤ rs.length, mu := fun i => rs.length - i } rfl 0 (Nat.zero_le _) ?_ fun i hi => ?_
  · (repeat' (first
      | (refine gate_a fun _ => ?_)
      | (refine fork_intro (fun hb => ?_) (fun hb => ?_) <;> (try simp only [ew] at hb))
      | (simp only [go_sem, Nat.reduceLeDiff, Nat.reduceEqDiff, reduceIte, reduceCtorEq, Nat.reduceAdd, Nat.reduceMul, Nat.reduceSub, Nat.reduceLT, Int.reduceLT, Int.reduceLE, Int.reduceNeg, Int.reduceToNat, Nat.reduceBEq, Nat.reduceBNe, Int.reduceGE, Int.reduceGT, *, cCopyT, Try.results81])))
    all_goals first | rfl | skip
  · dsimp only at i hi
    have q1 := all_getD hy i
    have q2 := all_getD h3 i
    by_cases h5 : i < rs.length
    · have e := take_succ_getD h5 []
      (repeat' (first
      | (refine gate_a fun _ => ?_)
      | (refine fork_intro (fun hb => ?_) (fun hb => ?_) <;> (try simp only [ew, sL_snoc, iL_allscal] at hb))
      | (simp only [go_sem, Nat.reduceLeDiff, Nat.reduceEqDiff, reduceIte, reduceCtorEq, Nat.reduceAdd, Nat.reduceMul, Nat.reduceSub, Nat.reduceLT, Int.reduceLT, Int.reduceLE, Int.reduceNeg, Int.reduceToNat, Nat.reduceBEq, Nat.reduceBNe, Int.reduceGE, Int.reduceGT, *, cCopyT, Try.results81, sL_snoc, iL_allscal])))
      refine loop_next (i + 1) (by dsimp only; omega) (by dsimp only; omega) ?_
      (repeat' (first
      | (refine gate_a fun _ => ?_)
      | (refine fork_intro (fun hb => ?_) (fun hb => ?_) <;> (try simp only [ew, sL_snoc, e] at hb))
      | (simp only [go_sem, Nat.reduceLeDiff, Nat.reduceEqDiff, reduceIte, reduceCtorEq, Nat.reduceAdd, Nat.reduceMul, Nat.reduceSub, Nat.reduceLT, Int.reduceLT, Int.reduceLE, Int.reduceNeg, Int.reduceToNat, Nat.reduceBEq, Nat.reduceBNe, Int.reduceGE, Int.reduceGT, *, cCopyT, Try.results81, sL_snoc, e])))
    · have e5 : i = rs.length := by omega
      subst e5
      have e6 : rs.take rs.length = rs := List.take_length
      (repeat' (first
      | (refine gate_a fun _ => ?_)
      | (refine fork_intro (fun hb => ?_) (fun hb => ?_) <;> (try simp only [ew, e6] at hb))
      | (simp only [go_sem, Nat.reduceLeDiff, Nat.reduceEqDiff, reduceIte, reduceCtorEq, Nat.reduceAdd, Nat.reduceMul, Nat.reduceSub, Nat.reduceLT, Int.reduceLT, Int.reduceLE, Int.reduceNeg, Int.reduceToNat, Nat.reduceBEq, Nat.reduceBNe, Int.reduceGE, Int.reduceGT, *, cCopyT, Try.results81, e6])))
      all_goals first | rfl | skip

/-! NewMonitor. -/
def nmB (c : Int) (rs : List (List Int)) (m : Int) : Bool := tabOK c rs && modeOK m
def nmC (c : Int) (rs : List (List Int)) (m : Int) : Int := if nmB c rs m then c else 0
def nmR (c : Int) (rs : List (List Int)) (m : Int) : List (List Int) := if nmB c rs m then rs else []
def nmM (c : Int) (rs : List (List Int)) (m : Int) : Int := if nmB c rs m then m else 0
theorem tot_leM {B : Nat} : ∀ {rs : List (List Int)}, (∀ r ∈ rs, r.length ≤ B) → tot rs ≤ B * rs.length
  | [], _ => by simp [tot]
  | r :: rs, h => by
    have ih := tot_leM (rs := rs) fun r hr => h r (by simp [hr])
    have h1 := h r (by simp)
    rw [tot, List.length_cons, Int.natCast_add, Int.mul_add]
    omega
theorem tab_small {c : Int} {rs : List (List Int)} (h : tabOK c rs = true) : rs.length ≤ 40 ∧ ∀ r ∈ rs, r.length ≤ 5 := by
  obtain ⟨n, rfl, n1, n5, h40, hl⟩ := tab_rows h
  refine ⟨h40, fun r hr => ?_⟩
  obtain ⟨i, hi, rfl⟩ := List.getElem_of_mem hr
  have := hl i hi
  simp only [List.getD_eq_getElem?_getD, List.getElem?_eq_getElem hi, Option.getD_some] at this
  omega
theorem nmR_facts {c : Int} {rs : List (List Int)} {m : Int} : (nmR c rs m).length ≤ 40 ∧ (∀ r ∈ nmR c rs m, r.length ≤ 5) ∧ tot (nmR c rs m) ≤ 200 := by
  have h : (nmR c rs m).length ≤ 40 ∧ ∀ r ∈ nmR c rs m, r.length ≤ 5 := by
    unfold nmR nmB
    split
    · rename_i h
      rw [Bool.and_eq_true] at h
      exact tab_small h.1
    · simp
  refine ⟨h.1, h.2, ?_⟩
  have := tot_leM h.2
  omega
def cNewM : Contract := ⟨[], false, fun
  | [.agg [.v (.int .i64 c), .sl 1 l], .one (.v (.int .i64 m))] => some (WfS l ∧ -9223372036854775808 ≤ c ∧ c ≤ 9223372036854775807,
      [⟨true, [.d (.v (.int .i64 (nmC c (unS l) m))), .own 1 (sL (nmR c (unS l) m)) 1, .d (.v (.int .i64 (nmM c (unS l) m))), .own 2 (dL (mdL c (unS l) m)) 1]⟩, ⟨false, [.d (.v (.bool (nmB c (unS l) m)))]⟩], [])
  | _ => none⟩
theorem newMI_ok : ContractOK E0 33 cNewM := by
  refine contract_of_wpc (E := E0) (T := mkT Try.prog [(56, cIsTableS), (57, cMode), (83, cCopyT), (59, cMD)] false (fun _ => false) true (fun _ => false)) (mkT_ok (E := E0) (.cons isTableI_ok (.cons modeI_ok (.cons copyTI_ok (.cons mdI_ok .nil))))) (fn := Try.f33) Try.func33 (by kernel_rfl) rfl mixedT (by kernel_rfl) rfl ?_
  intro args p rs ms hr
  unfold cNewM at hr
  dsimp only at hr
  split at hr
  rotate_left
  · cases hr
  rename_i c l m
  simp only [Option.some.injEq, Prod.mk.injEq] at hr
  obtain ⟨rfl, rfl, rfl⟩ := hr
  refine ⟨rfl, rfl, Nat.le_of_ble_eq_true rfl, ?_⟩
  have hm : maxLen = 9223372036854775807 := rfl
  rintro ⟨h1, hc1, hc2⟩ bs
  obtain ⟨rs, rfl, hx, hy⟩ := h1.ex
  clear h1
  rw [unS_sL]
  cases hv : (tabOK c rs && modeOK m)
  · have e1 : nmC c rs m = 0 := by unfold nmC nmB; rw [hv]; rfl
    have e2 : nmR c rs m = [] := by unfold nmR nmB; rw [hv]; rfl
    have e3 : nmM c rs m = 0 := by unfold nmM nmB; rw [hv]; rfl
    have e4 : nmB c rs m = false := hv
    have e5 : mdL c rs m = [] := by unfold mdL; rw [hv]; rfl
    have e6 : (!tabOK c rs || !modeOK m) = true := by rw [← Bool.not_and, hv]; rfl
    have e0 : dL [] = [] := rfl
    have e7 : sL [] = [] := rfl
    rw [e1, e2, e3, e4, e5]
    clear e1 e2 e3 e4 e5 hv
    (repeat' (first
      | (refine gate_a fun _ => ?_)
      | (refine fork_intro (fun hb => ?_) (fun hb => ?_) <;> (try simp only [ew, e6, e0, e7] at hb))
      | (simp only [go_sem, Nat.reduceLeDiff, Nat.reduceEqDiff, reduceIte, reduceCtorEq, Nat.reduceAdd, Nat.reduceMul, Nat.reduceSub, Nat.reduceLT, Int.reduceLT, Int.reduceLE, Int.reduceNeg, Int.reduceToNat, Nat.reduceBEq, Nat.reduceBNe, Int.reduceGE, Int.reduceGT, *, cNewM, cIsTableS, cMode, cCopyT, cMD, Try.results33, e6, e0, e7])))
    all_goals first | rfl | skip
  · have e1 : nmC c rs m = c := by unfold nmC nmB; rw [hv]; rfl
    have e2 : nmR c rs m = rs := by unfold nmR nmB; rw [hv]; rfl
    have e3 : nmM c rs m = m := by unfold nmM nmB; rw [hv]; rfl
    have e4 : nmB c rs m = true := hv
    have e6 : (!tabOK c rs || !modeOK m) = false := by rw [← Bool.not_and, hv]; rfl
    rw [e1, e2, e3, e4]
    clear e1 e2 e3 e4
    rw [Bool.and_eq_true] at hv
    obtain ⟨t1, t2⟩ := tab_small hv.1
    have t3 : ∀ r ∈ rs, r.length ≤ 16777216 := fun r hr => Nat.le_trans (t2 r hr) (by decide)
    clear hv t2
    have h3 := (@mdL_facts c rs m).1
    generalize hz : mdL c rs m = zs at h3 ⊢
    (repeat' (first
      | (refine gate_a fun _ => ?_)
      | (refine fork_intro (fun hb => ?_) (fun hb => ?_) <;> (try simp only [ew, e6, hz] at hb))
      | (simp only [go_sem, Nat.reduceLeDiff, Nat.reduceEqDiff, reduceIte, reduceCtorEq, Nat.reduceAdd, Nat.reduceMul, Nat.reduceSub, Nat.reduceLT, Int.reduceLT, Int.reduceLE, Int.reduceNeg, Int.reduceToNat, Nat.reduceBEq, Nat.reduceBNe, Int.reduceGE, Int.reduceGT, *, cNewM, cIsTableS, cMode, cCopyT, cMD, Try.results33, e6, hz])))
    all_goals first | rfl | skip
theorem newMS_ok : ContractOK E0 31 cNewM := by
  refine contract_of_wpc (E := E0) (T := mkT Try.prog [(53, cFine), (81, cCopyT), (55, cMD)] false (fun _ => false) true (fun _ => false)) (mkT_ok (E := E0) (.cons fine_ok (.cons copyTS_ok (.cons mdS_ok .nil)))) (fn := Try.f31) Try.func31 (by kernel_rfl) rfl mixedT (by kernel_rfl) rfl ?_
  intro args p rs ms hr
  unfold cNewM at hr
  dsimp only at hr
  split at hr
  rotate_left
  · cases hr
  rename_i c l m
  simp only [Option.some.injEq, Prod.mk.injEq] at hr
  obtain ⟨rfl, rfl, rfl⟩ := hr
  refine ⟨rfl, rfl, Nat.le_of_ble_eq_true rfl, ?_⟩
  have hm : maxLen = 9223372036854775807 := rfl
  rintro ⟨h1, hc1, hc2⟩ bs
  obtain ⟨rs, rfl, hx, hy⟩ := h1.ex
  clear h1
  rw [unS_sL]
  cases hv : (tabOK c rs && modeOK m)
  · have e1 : nmC c rs m = 0 := by unfold nmC nmB; rw [hv]; rfl
    have e2 : nmR c rs m = [] := by unfold nmR nmB; rw [hv]; rfl
    have e3 : nmM c rs m = 0 := by unfold nmM nmB; rw [hv]; rfl
    have e4 : nmB c rs m = false := hv
    have e5 : mdL c rs m = [] := by unfold mdL; rw [hv]; rfl
    have e0 : dL [] = [] := rfl
    have e7 : sL [] = [] := rfl
    rw [e1, e2, e3, e4, e5]
    clear e1 e2 e3 e4 e5
    (repeat' (first
      | (refine gate_a fun _ => ?_)
      | (refine fork_intro (fun hb => ?_) (fun hb => ?_) <;> (try simp only [ew, hv, e0, e7] at hb))
      | (simp only [go_sem, Nat.reduceLeDiff, Nat.reduceEqDiff, reduceIte, reduceCtorEq, Nat.reduceAdd, Nat.reduceMul, Nat.reduceSub, Nat.reduceLT, Int.reduceLT, Int.reduceLE, Int.reduceNeg, Int.reduceToNat, Nat.reduceBEq, Nat.reduceBNe, Int.reduceGE, Int.reduceGT, *, cNewM, cFine, cCopyT, cMD, Try.results31, hv, e0, e7])))
    all_goals first | rfl | skip
  · have e1 : nmC c rs m = c := by unfold nmC nmB; rw [hv]; rfl
    have e2 : nmR c rs m = rs := by unfold nmR nmB; rw [hv]; rfl
    have e3 : nmM c rs m = m := by unfold nmM nmB; rw [hv]; rfl
    have e4 : nmB c rs m = true := hv
    rw [e1, e2, e3, e4]
    clear e1 e2 e3 e4
    have hv2 := hv
    rw [Bool.and_eq_true] at hv2
    obtain ⟨t1, t2⟩ := tab_small hv2.1
    have t3 : ∀ r ∈ rs, r.length ≤ 16777216 := fun r hr => Nat.le_trans (t2 r hr) (by decide)
    clear hv2 t2
    have h3 := (@mdL_facts c rs m).1
    generalize hz : mdL c rs m = zs at h3 ⊢
    (repeat' (first
      | (refine gate_a fun _ => ?_)
      | (refine fork_intro (fun hb => ?_) (fun hb => ?_) <;> (try simp only [ew, hv, hz] at hb))
      | (simp only [go_sem, Nat.reduceLeDiff, Nat.reduceEqDiff, reduceIte, reduceCtorEq, Nat.reduceAdd, Nat.reduceMul, Nat.reduceSub, Nat.reduceLT, Int.reduceLT, Int.reduceLE, Int.reduceNeg, Int.reduceToNat, Nat.reduceBEq, Nat.reduceBNe, Int.reduceGE, Int.reduceGT, *, cNewM, cFine, cCopyT, cMD, Try.results31, hv, hz])))
    all_goals first | rfl | skip

/-! Marks on monitors. -/
def cMarkM : Contract := ⟨[true], false, fun
  | [.mag [.inl (.v (.int .i64 c)), .inr (1, l, _), .inl (.v (.int .i64 m)), .inr (2, q, _)], .one (.v (.int .i64 k))] => some (WfS l ∧ (l.length ≤ 16777216 ∧ ∀ r ∈ unS l, r.length ≤ 16777216) ∧ WfD q ∧ q.length ≤ 16777216 ∧ 0 ≤ k ∧ k + tot (unS l) ≤ 1125899906842624,
      [⟨false, [.d (.v (.int .i64 (k + tot (unS l) + 2 * q.length)))]⟩], [.mag [.inl (.v (.int .i64 c)), .inr (1, sL (markRows (unS l) k), 1), .inl (.v (.int .i64 m)), .inr (2, dL (markD (k + tot (unS l)) q.length), 1)]])
  | _ => none⟩
theorem markM_ok : ContractOK E0 36 cMarkM := by
  refine contract_of_wpcM (E := E0) (T := mkT Try.prog [(35, cMarkT), (14, cMarkX)] false (fun _ => false) false (fun _ => false)) (mkT_ok (E := E0) (.cons markT_ok (.cons markDS_ok .nil))) rfl (fn := Try.f36) Try.func36 (by kernel_rfl) rfl mixedT (by kernel_rfl) rfl rfl (Nat.le_of_ble_eq_true rfl) ?_
  intro args p rs ms hr
  unfold cMarkM at hr
  dsimp only at hr
  split at hr
  rotate_left
  · cases hr
  rename_i c l dp m q dp2 k
  simp only [Option.some.injEq, Prod.mk.injEq] at hr
  obtain ⟨rfl, rfl, rfl⟩ := hr
  refine ⟨_, _, _, rfl, rfl, rfl, rfl, rfl, Nat.le_of_ble_eq_true rfl, ?_⟩
  have hm : maxLen = 9223372036854775807 := rfl
  rintro ⟨h1, ⟨h2, h2'⟩, h3, h3', h4, h5⟩ bs
  obtain ⟨rs, rfl, hx, hy⟩ := h1.ex
  obtain ⟨ds, rfl, hd⟩ := h3.ex
  clear h1 h3
  rw [unS_sL] at h2' h5 ⊢
  rw [sL_length] at h2
  rw [dL_length] at h3'
  have ht := @tot_nonneg rs
  (repeat' (first
      | (refine gate_a fun _ => ?_)
      | (refine fork_intro (fun hb => ?_) (fun hb => ?_) <;> (try simp only [ew] at hb))
      | (simp only [go_sem, Nat.reduceLeDiff, Nat.reduceEqDiff, reduceIte, reduceCtorEq, Nat.reduceAdd, Nat.reduceMul, Nat.reduceSub, Nat.reduceLT, Int.reduceLT, Int.reduceLE, Int.reduceNeg, Int.reduceToNat, Nat.reduceBEq, Nat.reduceBNe, Int.reduceGE, Int.reduceGT, *, cMarkM, cMarkT, cMarkX, Try.results36])))
def heldM (rs : List (List Int)) (ds : List (Int × Int)) (k : Int) : Int := if heldL rs k < 0 then -1 else heldD ds (heldL rs k)
theorem heldL_le : ∀ {rs : List (List Int)} {k : Int}, ¬ heldL rs k < 0 → heldL rs k = k + tot rs
  | [], k, h => by simp [heldL, tot]
  | r :: rs, k, h => by
    simp only [heldL, tot] at h ⊢
    split at h
    · omega
    · rename_i h1
      have := heldI_le h1
      rw [if_neg h1, heldL_le h, this]
      omega
theorem heldD_neg {ds : List (Int × Int)} {k : Int} (hk : 0 ≤ k) (h : heldD ds k < 0) : heldD ds k = -1 := by
  unfold heldD at *
  split at h
  · omega
  · rw [if_neg ‹_›]
def cHeldM : Contract := ⟨[], false, fun
  | [.agg [.v (.int .i64 c), .sl 1 l, .v (.int .i64 m), .sl 2 q], .one (.v (.int .i64 k))] => some (WfS l ∧ (l.length ≤ 16777216 ∧ ∀ r ∈ unS l, r.length ≤ 16777216) ∧ WfD q ∧ q.length ≤ 16777216 ∧ 0 ≤ k ∧ k + tot (unS l) ≤ 1125899906842624, [⟨false, [.d (.v (.int .i64 (heldM (unS l) (unD q) k)))]⟩], [])
  | _ => none⟩
theorem heldM_ok : ContractOK E0 37 cHeldM := by
  refine contract_of_wpc (E := E0) (T := mkT Try.prog [(86, cHeldT), (15, cHeldX)] false (fun _ => false) true (fun _ => false)) (mkT_ok (E := E0) (.cons heldT_ok (.cons heldDS_ok .nil))) (fn := Try.f37) Try.func37 (by kernel_rfl) rfl mixedT (by kernel_rfl) rfl ?_
  intro args p rs ms hr
  unfold cHeldM at hr
  dsimp only at hr
  split at hr
  rotate_left
  · cases hr
  rename_i c l m q k
  simp only [Option.some.injEq, Prod.mk.injEq] at hr
  obtain ⟨rfl, rfl, rfl⟩ := hr
  refine ⟨rfl, rfl, Nat.le_of_ble_eq_true rfl, ?_⟩
  have hm : maxLen = 9223372036854775807 := rfl
  rintro ⟨h1, ⟨h2, h2'⟩, h3, h3', h4, h5⟩ bs
  obtain ⟨rs, rfl, hx, hy⟩ := h1.ex
  obtain ⟨ds, rfl, hd⟩ := h3.ex
  clear h1 h3
  rw [unS_sL] at h2' h5 ⊢
  rw [unD_dL]
  rw [sL_length] at h2
  rw [dL_length] at h3'
  have ht := @tot_nonneg rs
  unfold heldM
  by_cases hh : heldL rs k < 0
  · rw [if_pos hh]
    (repeat' (first
      | (refine gate_a fun _ => ?_)
      | (refine fork_intro (fun hb => ?_) (fun hb => ?_) <;> (try simp only [ew] at hb))
      | (simp only [go_sem, Nat.reduceLeDiff, Nat.reduceEqDiff, reduceIte, reduceCtorEq, Nat.reduceAdd, Nat.reduceMul, Nat.reduceSub, Nat.reduceLT, Int.reduceLT, Int.reduceLE, Int.reduceNeg, Int.reduceToNat, Nat.reduceBEq, Nat.reduceBNe, Int.reduceGE, Int.reduceGT, *, cHeldM, cHeldT, cHeldX, Try.results37])))
    all_goals first | contradiction | rfl | skip
  · have e := heldL_le hh
    rw [if_neg hh]
    have hn := @heldD_neg ds (heldL rs k) (by omega)
    rw [e] at hh hn ⊢
    (repeat' (first
      | (refine gate_a fun _ => ?_)
      | (refine fork_intro (fun hb => ?_) (fun hb => ?_) <;> (try simp only [ew, e] at hb))
      | (simp only [go_sem, Nat.reduceLeDiff, Nat.reduceEqDiff, reduceIte, reduceCtorEq, Nat.reduceAdd, Nat.reduceMul, Nat.reduceSub, Nat.reduceLT, Int.reduceLT, Int.reduceLE, Int.reduceNeg, Int.reduceToNat, Nat.reduceBEq, Nat.reduceBNe, Int.reduceGE, Int.reduceGT, *, cHeldM, cHeldT, cHeldX, Try.results37, e])))
    all_goals first | contradiction | exact (hn ‹_›).symm | rfl | skip
theorem heldM_marks {rs : List (List Int)} {n : Nat} {k : Int} (hk : 0 ≤ k) : heldM (markRows rs k) (markD (k + tot rs) n) k = k + tot rs + 2 * n := by
  have ht := @tot_nonneg rs
  unfold heldM
  rw [heldL_marks hk, if_neg (by omega), heldD_marks]

/-! The law. -/
def cLawTI : Contract := ⟨[], false, fun
  | [.agg [.v (.int .i64 c), .sl 1 l], .one (.v (.int .i64 m))] => some (WfS l ∧ -9223372036854775808 ≤ c ∧ c ≤ 9223372036854775807, [⟨false, [.d (.v (.bool true))]⟩], [])
  | _ => none⟩
theorem lawNewM_ok : ContractOK E0 8 cLawTI := by
  refine contract_of_wpc (E := E0) (T := mkT Try.prog [(30, cSzTable), (32, cToTable), (31, cNewM), (33, cNewM), (20, cEqMon), (34, cEqTable), (35, cMarkT), (36, cMarkM), (37, cHeldM)] false (fun _ => false) true (fun _ => false)) (mkT_ok (E := E0) (.cons szTable_ok (.cons toTable_ok (.cons newMS_ok (.cons newMI_ok (.cons eqMonL_ok (.cons eqTable_ok (.cons markT_ok (.cons markM_ok (.cons heldM_ok .nil)))))))))) (fn := Try.f8) Try.func8 (by kernel_rfl) rfl mixedT (by kernel_rfl) rfl ?_
  intro args p rs ms hr
  unfold cLawTI at hr
  dsimp only at hr
  split at hr
  rotate_left
  · cases hr
  rename_i c l m
  simp only [Option.some.injEq, Prod.mk.injEq] at hr
  obtain ⟨rfl, rfl, rfl⟩ := hr
  refine ⟨rfl, rfl, Nat.le_of_ble_eq_true rfl, ?_⟩
  have hm : maxLen = 9223372036854775807 := rfl
  rintro ⟨h1, hc1, hc2⟩ bs
  obtain ⟨rs, rfl, hx, hy⟩ := h1.ex
  clear h1
  by_cases hs : szL rs 1048576 < 0
  · (repeat' (first
      | (refine gate_a fun _ => ?_)
      | (refine fork_intro (fun hb => ?_) (fun hb => ?_) <;> (try simp only [ew] at hb))
      | (simp only [go_sem, Nat.reduceLeDiff, Nat.reduceEqDiff, reduceIte, reduceCtorEq, Nat.reduceAdd, Nat.reduceMul, Nat.reduceSub, Nat.reduceLT, Int.reduceLT, Int.reduceLE, Int.reduceNeg, Int.reduceToNat, Nat.reduceBEq, Nat.reduceBNe, Int.reduceGE, Int.reduceGT, *, cLawTI, cSzTable, cToTable, cNewM, cEqMon, cEqTable, cMarkT, cMarkM, cHeldM, Try.results8])))
    all_goals first | contradiction | skip
  · obtain ⟨hl1, hl2⟩ := szL_facts hs
    have b4 := tot_big hl1 hl2
    obtain ⟨r1, r2, r3⟩ := @nmR_facts c rs m
    obtain ⟨k3, k4⟩ := small_rows r2
    have t0 := @tot_nonneg (nmR c rs m)
    have t1 := @tot_nonneg rs
    have q1 := (@mdL_facts c rs m).1
    generalize hz : nmR c rs m = zs at r1 r2 r3 k3 k4 t0
    generalize hzb : nmB c rs m = b
    generalize hzc : nmC c rs m = d
    generalize hzm : nmM c rs m = e
    generalize hzq : mdL c rs m = q at q1
    have b5 : ∀ r ∈ markRows zs 1, r.length ≤ 16777216 := markRows_leB k4
    have b6 : ∀ r ∈ markRows zs 1, r.length ≤ maxLen := markRows_leB k3
    have b7 := @tot_markRowsB zs 1
    have b8 := @markRows_length zs 1
    have b9 := heldM_marks (rs := zs) (n := q.length) (k := 1) (by omega)
    clear r2
    (repeat' (first
      | (refine gate_intro (by first | omega | ((repeat' (first | apply And.intro | assumption | omega | intro _)); done) | ((repeat' (first | apply And.intro | assumption | omega | intro _)); done) | (simp only [maxLen]; omega) | simp_all | (simp_all [maxLen]; omega)) fun _ => ?_)
      | (refine fork_intro (fun hb => ?_) (fun hb => ?_) <;> (try simp only [ew, hz, hzb, hzc, hzm, hzq, markD_length] at hb))
      | (simp only [go_sem, Nat.reduceLeDiff, Nat.reduceEqDiff, reduceIte, reduceCtorEq, Nat.reduceAdd, Nat.reduceMul, Nat.reduceSub, Nat.reduceLT, Int.reduceLT, Int.reduceLE, Int.reduceNeg, Int.reduceToNat, Nat.reduceBEq, Nat.reduceBNe, Int.reduceGE, Int.reduceGT, *, cLawTI, cSzTable, cToTable, cNewM, cEqMon, cEqTable, cMarkT, cMarkM, cHeldM, Try.results8, hz, hzb, hzc, hzm, hzq, markD_length])))
    all_goals (exfalso; omega)
end Go.Own
