/-
  Lines of searches, and their law. Conditions: as each theorem states them.
-/
import Derived.Test.YthejclmonnpncaaGreatDoorOwnR2
import Derived.Test.YthejclmonnpncaaGreatDoorOwnC13
import Derived.Test.YthejclmonnpncaaGreatDoorOwnN3
namespace Go.Own
open Go Go.Proofs
set_option linter.unusedSimpArgs false
set_option linter.unusedVariables false
set_option maxRecDepth 20000
set_option maxHeartbeats 4000000

attribute [local go_sem] unD_dL dL_length dL_get dL_set dL_inj wfD_dL scal2 pair_eta dL_scal unT_tL tL_length tL_snoc wfL_tL

def slnB (c : Int) (rs : List (List Int)) (m a : Int) (qs : List (Int × Int)) (t : Int) : ByteArray :=
  if isSr c rs m a qs t then
    (if (a == c * 2 ^ c.toNat) = true then ((((((⟨#[97, 116, 32]⟩ ++ numB a) ++ ⟨#[32, 116, 101, 115, 116, 115, 32]⟩) ++ numB t) ++ ⟨#[32, 102, 111, 117, 110, 100, 32]⟩) ++ dlL qs) ++ ⟨#[32, 100, 111, 110, 101]⟩)
      else (((((⟨#[97, 116, 32]⟩ ++ numB a) ++ ⟨#[32, 116, 101, 115, 116, 115, 32]⟩) ++ numB t) ++ ⟨#[32, 102, 111, 117, 110, 100, 32]⟩) ++ dlL qs))
  else ⟨#[]⟩
theorem z3 : ByteArray.size ⟨#[97, 116, 32]⟩ = 3 := rfl
theorem z7 : ByteArray.size ⟨#[32, 116, 101, 115, 116, 115, 32]⟩ = 7 := rfl
theorem z7' : ByteArray.size ⟨#[32, 102, 111, 117, 110, 100, 32]⟩ = 7 := rfl
theorem z5 : ByteArray.size ⟨#[32, 100, 111, 110, 101]⟩ = 5 := rfl
theorem dgF_lenR : ∀ {j : Nat} {n : Int} {acc : List Int}, (dgF j n acc).length ≤ acc.length + j
  | 0, n, acc => by simp [dgF]
  | j + 1, n, acc => by
    by_cases h : n ≠ 0
    · rw [dgF_go h]
      have := @dgF_lenR j (n / 10) ((48 + n % 10) :: acc)
      simp only [List.length_cons] at this
      omega
    · unfold dgF; rw [if_pos (by omega)]; omega
theorem num_sizeR {n : Int} : (numB n).size ≤ 20 := by
  unfold numB numL
  rw [baOf_size]
  split
  · simp
  · have := @dgF_lenR 20 n []
    simpa using this
theorem dlL_size {xs : List (Int × Int)} (h : xs.length ≤ 160) : (dlL xs).size ≤ 2000 := by
  unfold dlL
  split
  · decide
  · have := @jfd_size xs
    omega
def cSln : Contract := ⟨[], false, fun
  | [.agg [.v (.int .i64 c), .sl 1 l, .v (.int .i64 m), .v (.int .i64 a), .sl 2 q, .v (.int .i64 t)]] => some ((WfS l ∧ WfD q) ∧ (-9223372036854775808 ≤ c ∧ c ≤ 9223372036854775807) ∧ (-9223372036854775808 ≤ a ∧ a ≤ 9223372036854775807) ∧ -9223372036854775808 ≤ t ∧ t ≤ 9223372036854775807,
      [⟨false, [.d (.v (.string (slnB c (unS l) m a (unD q) t)))]⟩], [])
  | _ => none⟩
theorem slnI_ok : ContractOK E0 7 cSln := by
  refine contract_of_wpc (E := E0) (T := mkT Tryz.prog [(17, cIsSr), (18, cNum), (19, cDL), (20, cIsSd)] false (fun _ => false) true (fun _ => false)) (mkT_ok (E := E0) (.cons isSrI_ok (.cons numI_ok (.cons dlI_ok (.cons isSdI_ok .nil))))) (fn := Tryz.f7) Tryz.func7 (by kernel_rfl) rfl mixedT (by kernel_rfl) rfl ?_
  intro args p rs ms hr
  unfold cSln at hr
  dsimp only at hr
  split at hr
  rotate_left
  · cases hr
  rename_i c l m a q t
  simp only [Option.some.injEq, Prod.mk.injEq] at hr
  obtain ⟨rfl, rfl, rfl⟩ := hr
  refine ⟨rfl, rfl, Nat.le_of_ble_eq_true rfl, ?_⟩
  have hm : maxLen = 9223372036854775807 := rfl
  rintro ⟨⟨h1, h2⟩, ⟨hc1, hc2⟩, ⟨ha1, ha2⟩, ht1, ht2⟩ bs
  obtain ⟨rs, rfl, hx, hy⟩ := h1.ex
  obtain ⟨ds, rfl, hd⟩ := h2.ex
  clear h1 h2
  rw [unS_sL, unD_dL]
  cases h : isSr c rs m a ds t
  · have e : slnB c rs m a ds t = ⟨#[]⟩ := by unfold slnB; rw [h, if_neg (by decide)]
    rw [e]
    clear e
    (repeat' (first
      | (refine gate_a fun _ => ?_)
      | (refine fork_intro (fun hb => ?_) (fun hb => ?_) <;> (try simp only [ew, h] at hb))
      | (simp only [go_sem, Nat.reduceLeDiff, Nat.reduceEqDiff, reduceIte, reduceCtorEq, Nat.reduceAdd, Nat.reduceMul, Nat.reduceSub, Nat.reduceLT, Int.reduceLT, Int.reduceLE, Int.reduceNeg, Int.reduceToNat, Nat.reduceBEq, Nat.reduceBNe, Int.reduceGE, Int.reduceGT, *, cSln, cIsSr, cNum, cDL, cIsSd, Tryz.results7, h])))
    all_goals first | rfl | skip
  · obtain ⟨f1, ⟨f2, f2'⟩, ⟨f3, f3'⟩, f4⟩ := isSr_facts h
    have s1 := @num_sizeR a
    have s2 := @num_sizeR t
    have s3 := @dlL_size ds f4
    have f4' : ds.length ≤ 1048576 := by omega
    cases hb : (a == c * 2 ^ c.toNat)
    · have e : slnB c rs m a ds t = (((((⟨#[97, 116, 32]⟩ ++ numB a) ++ ⟨#[32, 116, 101, 115, 116, 115, 32]⟩) ++ numB t) ++ ⟨#[32, 102, 111, 117, 110, 100, 32]⟩) ++ dlL ds) := by unfold slnB; rw [h, hb, if_pos rfl, if_neg (by decide)]
      have e2 : isSd c rs m a ds t = false := by unfold isSd; rw [h, hb]; rfl
      rw [e]
      clear e
      generalize hA : numB a = A at s1 ⊢
      generalize hT : numB t = T at s2 ⊢
      generalize hD : dlL ds = B at s3 ⊢
      (repeat' (first
      | (refine gate_a fun _ => ?_)
      | (refine fork_intro (fun hb => ?_) (fun hb => ?_) <;> (try simp only [ew, h, e2, hA, hT, hD, z3, z7, z7', z5, size_app] at hb))
      | (simp only [go_sem, Nat.reduceLeDiff, Nat.reduceEqDiff, reduceIte, reduceCtorEq, Nat.reduceAdd, Nat.reduceMul, Nat.reduceSub, Nat.reduceLT, Int.reduceLT, Int.reduceLE, Int.reduceNeg, Int.reduceToNat, Nat.reduceBEq, Nat.reduceBNe, Int.reduceGE, Int.reduceGT, *, cSln, cIsSr, cNum, cDL, cIsSd, Tryz.results7, h, e2, hA, hT, hD, z3, z7, z7', z5, size_app])))
      all_goals first | rfl | skip
    · have e : slnB c rs m a ds t = ((((((⟨#[97, 116, 32]⟩ ++ numB a) ++ ⟨#[32, 116, 101, 115, 116, 115, 32]⟩) ++ numB t) ++ ⟨#[32, 102, 111, 117, 110, 100, 32]⟩) ++ dlL ds) ++ ⟨#[32, 100, 111, 110, 101]⟩) := by unfold slnB; rw [h, hb, if_pos rfl, if_pos rfl]
      have e2 : isSd c rs m a ds t = true := by unfold isSd; rw [h, hb]; rfl
      rw [e]
      clear e
      generalize hA : numB a = A at s1 ⊢
      generalize hT : numB t = T at s2 ⊢
      generalize hD : dlL ds = B at s3 ⊢
      (repeat' (first
      | (refine gate_a fun _ => ?_)
      | (refine fork_intro (fun hb => ?_) (fun hb => ?_) <;> (try simp only [ew, h, e2, hA, hT, hD, z3, z7, z7', z5, size_app] at hb))
      | (simp only [go_sem, Nat.reduceLeDiff, Nat.reduceEqDiff, reduceIte, reduceCtorEq, Nat.reduceAdd, Nat.reduceMul, Nat.reduceSub, Nat.reduceLT, Int.reduceLT, Int.reduceLE, Int.reduceNeg, Int.reduceToNat, Nat.reduceBEq, Nat.reduceBNe, Int.reduceGE, Int.reduceGT, *, cSln, cIsSr, cNum, cDL, cIsSd, Tryz.results7, h, e2, hA, hT, hD, z3, z7, z7', z5, size_app])))
      all_goals first | rfl | skip
theorem slnS_ok : ContractOK E0 5 cSln := by
  refine contract_of_wpc (E := E0) (T := mkT Tryz.prog [(11, cIsSr), (12, cNum), (13, cDL), (14, cIsSd)] false (fun _ => false) true (fun _ => false)) (mkT_ok (E := E0) (.cons isSrS_ok (.cons numS_ok (.cons dlS_ok (.cons isSdS_ok .nil))))) (fn := Tryz.f5) Tryz.func5 (by kernel_rfl) rfl mixedT (by kernel_rfl) rfl ?_
  intro args p rs ms hr
  unfold cSln at hr
  dsimp only at hr
  split at hr
  rotate_left
  · cases hr
  rename_i c l m a q t
  simp only [Option.some.injEq, Prod.mk.injEq] at hr
  obtain ⟨rfl, rfl, rfl⟩ := hr
  refine ⟨rfl, rfl, Nat.le_of_ble_eq_true rfl, ?_⟩
  have hm : maxLen = 9223372036854775807 := rfl
  rintro ⟨⟨h1, h2⟩, ⟨hc1, hc2⟩, ⟨ha1, ha2⟩, ht1, ht2⟩ bs
  obtain ⟨rs, rfl, hx, hy⟩ := h1.ex
  obtain ⟨ds, rfl, hd⟩ := h2.ex
  clear h1 h2
  rw [unS_sL, unD_dL]
  cases h : isSr c rs m a ds t
  · have e : slnB c rs m a ds t = ⟨#[]⟩ := by unfold slnB; rw [h, if_neg (by decide)]
    rw [e]
    clear e
    (repeat' (first
      | (refine gate_a fun _ => ?_)
      | (refine fork_intro (fun hb => ?_) (fun hb => ?_) <;> (try simp only [ew, h] at hb))
      | (simp only [go_sem, Nat.reduceLeDiff, Nat.reduceEqDiff, reduceIte, reduceCtorEq, Nat.reduceAdd, Nat.reduceMul, Nat.reduceSub, Nat.reduceLT, Int.reduceLT, Int.reduceLE, Int.reduceNeg, Int.reduceToNat, Nat.reduceBEq, Nat.reduceBNe, Int.reduceGE, Int.reduceGT, *, cSln, cIsSr, cNum, cDL, cIsSd, Tryz.results5, h])))
    all_goals first | rfl | skip
  · obtain ⟨f1, ⟨f2, f2'⟩, ⟨f3, f3'⟩, f4⟩ := isSr_facts h
    have s1 := @num_sizeR a
    have s2 := @num_sizeR t
    have s3 := @dlL_size ds f4
    have f4' : ds.length ≤ 1048576 := by omega
    cases hb : (a == c * 2 ^ c.toNat)
    · have e : slnB c rs m a ds t = (((((⟨#[97, 116, 32]⟩ ++ numB a) ++ ⟨#[32, 116, 101, 115, 116, 115, 32]⟩) ++ numB t) ++ ⟨#[32, 102, 111, 117, 110, 100, 32]⟩) ++ dlL ds) := by unfold slnB; rw [h, hb, if_pos rfl, if_neg (by decide)]
      have e2 : isSd c rs m a ds t = false := by unfold isSd; rw [h, hb]; rfl
      rw [e]
      clear e
      generalize hA : numB a = A at s1 ⊢
      generalize hT : numB t = T at s2 ⊢
      generalize hD : dlL ds = B at s3 ⊢
      (repeat' (first
      | (refine gate_a fun _ => ?_)
      | (refine fork_intro (fun hb => ?_) (fun hb => ?_) <;> (try simp only [ew, h, e2, hA, hT, hD, z3, z7, z7', z5, size_app] at hb))
      | (simp only [go_sem, Nat.reduceLeDiff, Nat.reduceEqDiff, reduceIte, reduceCtorEq, Nat.reduceAdd, Nat.reduceMul, Nat.reduceSub, Nat.reduceLT, Int.reduceLT, Int.reduceLE, Int.reduceNeg, Int.reduceToNat, Nat.reduceBEq, Nat.reduceBNe, Int.reduceGE, Int.reduceGT, *, cSln, cIsSr, cNum, cDL, cIsSd, Tryz.results5, h, e2, hA, hT, hD, z3, z7, z7', z5, size_app])))
      all_goals first | rfl | skip
    · have e : slnB c rs m a ds t = ((((((⟨#[97, 116, 32]⟩ ++ numB a) ++ ⟨#[32, 116, 101, 115, 116, 115, 32]⟩) ++ numB t) ++ ⟨#[32, 102, 111, 117, 110, 100, 32]⟩) ++ dlL ds) ++ ⟨#[32, 100, 111, 110, 101]⟩) := by unfold slnB; rw [h, hb, if_pos rfl, if_pos rfl]
      have e2 : isSd c rs m a ds t = true := by unfold isSd; rw [h, hb]; rfl
      rw [e]
      clear e
      generalize hA : numB a = A at s1 ⊢
      generalize hT : numB t = T at s2 ⊢
      generalize hD : dlL ds = B at s3 ⊢
      (repeat' (first
      | (refine gate_a fun _ => ?_)
      | (refine fork_intro (fun hb => ?_) (fun hb => ?_) <;> (try simp only [ew, h, e2, hA, hT, hD, z3, z7, z7', z5, size_app] at hb))
      | (simp only [go_sem, Nat.reduceLeDiff, Nat.reduceEqDiff, reduceIte, reduceCtorEq, Nat.reduceAdd, Nat.reduceMul, Nat.reduceSub, Nat.reduceLT, Int.reduceLT, Int.reduceLE, Int.reduceNeg, Int.reduceToNat, Nat.reduceBEq, Nat.reduceBNe, Int.reduceGE, Int.reduceGT, *, cSln, cIsSr, cNum, cDL, cIsSd, Tryz.results5, h, e2, hA, hT, hD, z3, z7, z7', z5, size_app])))
      all_goals first | rfl | skip

/-! The law. -/
def cSzSr : Contract := ⟨[], false, fun
  | [.agg [.v (.int .i64 c), .sl 1 l, .v (.int .i64 m), .v (.int .i64 a), .sl 2 q, .v (.int .i64 t)], .one (.v (.int .i64 k))] => some (WfS l ∧ WfD q ∧ 0 ≤ k ∧ k ≤ 1048576, [⟨false, [.d (.v (.int .i64 (szM (unS l) q.length k)))]⟩], [])
  | _ => none⟩
theorem szSr_ok : ContractOK E0 4 cSzSr := by
  refine contract_of_wpc (E := E0) (T := mkT Tryz.prog [(9, cSzTable), (10, cSzDepS)] false (fun _ => false) true (fun _ => false)) (mkT_ok (E := E0) (.cons szTable_ok (.cons szDepS_ok .nil))) (fn := Tryz.f4) Tryz.func4 (by kernel_rfl) rfl mixedT (by kernel_rfl) rfl ?_
  intro args p rs ms hr
  unfold cSzSr at hr
  dsimp only at hr
  split at hr
  rotate_left
  · cases hr
  rename_i c l m a q t k
  simp only [Option.some.injEq, Prod.mk.injEq] at hr
  obtain ⟨rfl, rfl, rfl⟩ := hr
  refine ⟨rfl, rfl, Nat.le_of_ble_eq_true rfl, ?_⟩
  have hm : maxLen = 9223372036854775807 := rfl
  rintro ⟨h1, h2, h3, h4⟩ bs
  obtain ⟨rs, rfl, hx, hy⟩ := h1.ex
  obtain ⟨ds, rfl, hd⟩ := h2.ex
  clear h1 h2
  rw [unS_sL, dL_length]
  have hle := @szL_le rs k
  by_cases hs : szL rs k < 0
  · have e : szM rs ds.length k = -1 := by unfold szM; rw [if_pos hs]
    rw [e]
    clear e
    (repeat' (first
      | (refine gate_a fun _ => ?_)
      | (refine fork_intro (fun hb => ?_) (fun hb => ?_) <;> (try simp only [ew] at hb))
      | (simp only [go_sem, Nat.reduceLeDiff, Nat.reduceEqDiff, reduceIte, reduceCtorEq, Nat.reduceAdd, Nat.reduceMul, Nat.reduceSub, Nat.reduceLT, Int.reduceLT, Int.reduceLE, Int.reduceNeg, Int.reduceToNat, Nat.reduceBEq, Nat.reduceBNe, Int.reduceGE, Int.reduceGT, *, cSzSr, cSzTable, cSzDepS, Tryz.results4])))
    all_goals first | contradiction | skip
  · have hle := hle hs
    have e : szM rs ds.length k = szN ds.length (szL rs k) := by unfold szM; rw [if_neg hs]
    rw [e]
    clear e
    (repeat' (first
      | (refine gate_a fun _ => ?_)
      | (refine fork_intro (fun hb => ?_) (fun hb => ?_) <;> (try simp only [ew] at hb))
      | (simp only [go_sem, Nat.reduceLeDiff, Nat.reduceEqDiff, reduceIte, reduceCtorEq, Nat.reduceAdd, Nat.reduceMul, Nat.reduceSub, Nat.reduceLT, Int.reduceLT, Int.reduceLE, Int.reduceNeg, Int.reduceToNat, Nat.reduceBEq, Nat.reduceBNe, Int.reduceGE, Int.reduceGT, *, cSzSr, cSzTable, cSzDepS, Tryz.results4])))
    all_goals first | contradiction | exact (szN_neg ‹_›).symm | skip
def cToSr : Contract := ⟨[], false, fun
  | [.agg [.v (.int .i64 c), .sl 1 l, .v (.int .i64 m), .v (.int .i64 a), .sl 2 q, .v (.int .i64 t)]] => some (WfS l ∧ (l.length ≤ 16777216 ∧ ∀ r ∈ unS l, r.length ≤ 16777216) ∧ WfD q ∧ q.length ≤ 16777216, [⟨true, [.d (.v (.int .i64 c)), .own 1 l 1, .d (.v (.int .i64 m)), .d (.v (.int .i64 a)), .own 2 q 1, .d (.v (.int .i64 t))]⟩], [])
  | _ => none⟩
theorem toSr_ok : ContractOK E0 6 cToSr := by
  refine contract_of_wpc (E := E0) (T := mkT Tryz.prog [(15, cToTable), (16, cToDepS)] false (fun _ => false) true (fun _ => false)) (mkT_ok (E := E0) (.cons toTable_ok (.cons toDepS_ok .nil))) (fn := Tryz.f6) Tryz.func6 (by kernel_rfl) rfl mixedT (by kernel_rfl) rfl ?_
  intro args p rs ms hr
  unfold cToSr at hr
  dsimp only at hr
  split at hr
  rotate_left
  · cases hr
  rename_i c l m a q t
  simp only [Option.some.injEq, Prod.mk.injEq] at hr
  obtain ⟨rfl, rfl, rfl⟩ := hr
  refine ⟨rfl, rfl, Nat.le_of_ble_eq_true rfl, ?_⟩
  have hm : maxLen = 9223372036854775807 := rfl
  rintro ⟨h1, ⟨h2, h3⟩, h4, h5⟩ bs
  obtain ⟨rs, rfl, hx, hy⟩ := h1.ex
  obtain ⟨ds, rfl, hd⟩ := h4.ex
  clear h1 h4
  rw [unS_sL] at h3
  rw [sL_length] at h2
  rw [dL_length] at h5
  (repeat' (first
      | (refine gate_a fun _ => ?_)
      | (refine fork_intro (fun hb => ?_) (fun hb => ?_) <;> (try simp only [ew] at hb))
      | (simp only [go_sem, Nat.reduceLeDiff, Nat.reduceEqDiff, reduceIte, reduceCtorEq, Nat.reduceAdd, Nat.reduceMul, Nat.reduceSub, Nat.reduceLT, Int.reduceLT, Int.reduceLE, Int.reduceNeg, Int.reduceToNat, Nat.reduceBEq, Nat.reduceBNe, Int.reduceGE, Int.reduceGT, *, cToSr, cToTable, cToDepS, Tryz.results6])))
  all_goals first | rfl | skip
def cEqSr : Contract := ⟨[], false, fun
  | [.agg [.v (.int .i64 c), .sl 1 l, .v (.int .i64 m), .v (.int .i64 a), .sl 2 q, .v (.int .i64 t)], .agg [.v (.int .i64 c2), .sl 1 l2, .v (.int .i64 m2), .v (.int .i64 a2), .sl 2 q2, .v (.int .i64 t2)]] => some (WfS l ∧ WfD q ∧ WfS l2 ∧ WfD q2,
      [⟨false, [.d (.v (.bool ((c == c2 && unS l == unS l2) && (!(m != m2) && (!(a != a2) && (unD q == unD q2 && !(t != t2)))))))]⟩], [])
  | _ => none⟩
theorem eqSr_ok : ContractOK E0 8 cEqSr := by
  refine contract_of_wpc (E := E0) (T := mkT Tryz.prog [(21, cEqTable), (22, cEqDepS)] false (fun _ => false) true (fun _ => false)) (mkT_ok (E := E0) (.cons eqTable_ok (.cons eqDepS_ok .nil))) (fn := Tryz.f8) Tryz.func8 (by kernel_rfl) rfl mixedT (by kernel_rfl) rfl ?_
  intro args p rs ms hr
  unfold cEqSr at hr
  dsimp only at hr
  split at hr
  rotate_left
  · cases hr
  rename_i c l m a q t c2 l2 m2 a2 q2 t2
  simp only [Option.some.injEq, Prod.mk.injEq] at hr
  obtain ⟨rfl, rfl, rfl⟩ := hr
  refine ⟨rfl, rfl, Nat.le_of_ble_eq_true rfl, ?_⟩
  have hm : maxLen = 9223372036854775807 := rfl
  rintro ⟨h1, h2, h3, h4⟩ bs
  obtain ⟨rs, rfl, hx, hy⟩ := h1.ex
  obtain ⟨ds, rfl, hd⟩ := h2.ex
  obtain ⟨rs2, rfl, hx2, hy2⟩ := h3.ex
  obtain ⟨ds2, rfl, hd2⟩ := h4.ex
  clear h1 h2 h3 h4
  rw [unS_sL, unS_sL, unD_dL, unD_dL]
  cases q1 : (c == c2 && rs == rs2)
  · (repeat' (first
      | (refine gate_a fun _ => ?_)
      | (refine fork_intro (fun hb => ?_) (fun hb => ?_) <;> (try simp only [ew, q1] at hb))
      | (simp only [go_sem, Nat.reduceLeDiff, Nat.reduceEqDiff, reduceIte, reduceCtorEq, Nat.reduceAdd, Nat.reduceMul, Nat.reduceSub, Nat.reduceLT, Int.reduceLT, Int.reduceLE, Int.reduceNeg, Int.reduceToNat, Nat.reduceBEq, Nat.reduceBNe, Int.reduceGE, Int.reduceGT, *, cEqSr, cEqTable, cEqDepS, Tryz.results8, q1])))
    all_goals first | rfl | skip
  · cases q2 : (m != m2)
    · cases q3 : (a != a2)
      · cases q4 : (ds == ds2)
        · (repeat' (first
      | (refine gate_a fun _ => ?_)
      | (refine fork_intro (fun hb => ?_) (fun hb => ?_) <;> (try simp only [ew, q1, q2, q3, q4] at hb))
      | (simp only [go_sem, Nat.reduceLeDiff, Nat.reduceEqDiff, reduceIte, reduceCtorEq, Nat.reduceAdd, Nat.reduceMul, Nat.reduceSub, Nat.reduceLT, Int.reduceLT, Int.reduceLE, Int.reduceNeg, Int.reduceToNat, Nat.reduceBEq, Nat.reduceBNe, Int.reduceGE, Int.reduceGT, *, cEqSr, cEqTable, cEqDepS, Tryz.results8, q1, q2, q3, q4])))
          all_goals first | rfl | skip
        · cases q5 : (t != t2)
          · (repeat' (first
      | (refine gate_a fun _ => ?_)
      | (refine fork_intro (fun hb => ?_) (fun hb => ?_) <;> (try simp only [ew, q1, q2, q3, q4, q5] at hb))
      | (simp only [go_sem, Nat.reduceLeDiff, Nat.reduceEqDiff, reduceIte, reduceCtorEq, Nat.reduceAdd, Nat.reduceMul, Nat.reduceSub, Nat.reduceLT, Int.reduceLT, Int.reduceLE, Int.reduceNeg, Int.reduceToNat, Nat.reduceBEq, Nat.reduceBNe, Int.reduceGE, Int.reduceGT, *, cEqSr, cEqTable, cEqDepS, Tryz.results8, q1, q2, q3, q4, q5])))
            all_goals first | rfl | skip
          · (repeat' (first
      | (refine gate_a fun _ => ?_)
      | (refine fork_intro (fun hb => ?_) (fun hb => ?_) <;> (try simp only [ew, q1, q2, q3, q4, q5] at hb))
      | (simp only [go_sem, Nat.reduceLeDiff, Nat.reduceEqDiff, reduceIte, reduceCtorEq, Nat.reduceAdd, Nat.reduceMul, Nat.reduceSub, Nat.reduceLT, Int.reduceLT, Int.reduceLE, Int.reduceNeg, Int.reduceToNat, Nat.reduceBEq, Nat.reduceBNe, Int.reduceGE, Int.reduceGT, *, cEqSr, cEqTable, cEqDepS, Tryz.results8, q1, q2, q3, q4, q5])))
            all_goals first | rfl | skip
      · (repeat' (first
      | (refine gate_a fun _ => ?_)
      | (refine fork_intro (fun hb => ?_) (fun hb => ?_) <;> (try simp only [ew, q1, q2, q3] at hb))
      | (simp only [go_sem, Nat.reduceLeDiff, Nat.reduceEqDiff, reduceIte, reduceCtorEq, Nat.reduceAdd, Nat.reduceMul, Nat.reduceSub, Nat.reduceLT, Int.reduceLT, Int.reduceLE, Int.reduceNeg, Int.reduceToNat, Nat.reduceBEq, Nat.reduceBNe, Int.reduceGE, Int.reduceGT, *, cEqSr, cEqTable, cEqDepS, Tryz.results8, q1, q2, q3])))
        all_goals first | rfl | skip
    · (repeat' (first
      | (refine gate_a fun _ => ?_)
      | (refine fork_intro (fun hb => ?_) (fun hb => ?_) <;> (try simp only [ew, q1, q2] at hb))
      | (simp only [go_sem, Nat.reduceLeDiff, Nat.reduceEqDiff, reduceIte, reduceCtorEq, Nat.reduceAdd, Nat.reduceMul, Nat.reduceSub, Nat.reduceLT, Int.reduceLT, Int.reduceLE, Int.reduceNeg, Int.reduceToNat, Nat.reduceBEq, Nat.reduceBNe, Int.reduceGE, Int.reduceGT, *, cEqSr, cEqTable, cEqDepS, Tryz.results8, q1, q2])))
      all_goals first | rfl | skip
def cLawSr : Contract := ⟨[], false, fun
  | [.agg [.v (.int .i64 c), .sl 1 l, .v (.int .i64 m), .v (.int .i64 a), .sl 2 q, .v (.int .i64 t)]] => some ((WfS l ∧ WfD q) ∧ (-9223372036854775808 ≤ c ∧ c ≤ 9223372036854775807) ∧ (-9223372036854775808 ≤ a ∧ a ≤ 9223372036854775807) ∧ -9223372036854775808 ≤ t ∧ t ≤ 9223372036854775807, [⟨false, [.d (.v (.bool true))]⟩], [])
  | _ => none⟩
theorem lawSr_ok : ContractOK E0 3 cLawSr := by
  refine contract_of_wpc (E := E0) (T := mkT Tryz.prog [(4, cSzSr), (6, cToSr), (5, cSln), (7, cSln), (8, cEqSr)] false (fun _ => false) true (fun _ => false)) (mkT_ok (E := E0) (.cons szSr_ok (.cons toSr_ok (.cons slnS_ok (.cons slnI_ok (.cons eqSr_ok .nil)))))) (fn := Tryz.f3) Tryz.func3 (by kernel_rfl) rfl mixedT (by kernel_rfl) rfl ?_
  intro args p rs ms hr
  unfold cLawSr at hr
  dsimp only at hr
  split at hr
  rotate_left
  · cases hr
  rename_i c l m a q t
  simp only [Option.some.injEq, Prod.mk.injEq] at hr
  obtain ⟨rfl, rfl, rfl⟩ := hr
  refine ⟨rfl, rfl, Nat.le_of_ble_eq_true rfl, ?_⟩
  have hm : maxLen = 9223372036854775807 := rfl
  rintro ⟨⟨h1, h2⟩, ⟨hc1, hc2⟩, ⟨ha1, ha2⟩, ht1, ht2⟩ bs
  obtain ⟨rs, rfl, hx, hy⟩ := h1.ex
  obtain ⟨ds, rfl, hd⟩ := h2.ex
  clear h1 h2
  by_cases hs : szM rs ds.length 1048576 < 0
  · (repeat' (first
      | (refine gate_a fun _ => ?_)
      | (refine fork_intro (fun hb => ?_) (fun hb => ?_) <;> (try simp only [ew] at hb))
      | (simp only [go_sem, Nat.reduceLeDiff, Nat.reduceEqDiff, reduceIte, reduceCtorEq, Nat.reduceAdd, Nat.reduceMul, Nat.reduceSub, Nat.reduceLT, Int.reduceLT, Int.reduceLE, Int.reduceNeg, Int.reduceToNat, Nat.reduceBEq, Nat.reduceBNe, Int.reduceGE, Int.reduceGT, *, cLawSr, cSzSr, cToSr, cSln, cEqSr, Tryz.results3])))
    all_goals first | contradiction | skip
  · obtain ⟨⟨f1, f2⟩, f3, f4⟩ := szM_facts (Int.le_refl _) hs
    generalize hz : slnB c rs m a ds t = z
    have r1 : (c == c) = true := beq_self_eq_true c
    have r2 : (rs == rs) = true := beq_self_eq_true rs
    have r3 : (ds == ds) = true := beq_self_eq_true ds
    have r4 : ∀ x : Int, (x != x) = false := fun x => by simp
    (repeat' (first
      | (refine gate_a fun _ => ?_)
      | (refine fork_intro (fun hb => ?_) (fun hb => ?_) <;> (try simp only [ew, hz, r1, r2, r3, r4] at hb))
      | (simp only [go_sem, Nat.reduceLeDiff, Nat.reduceEqDiff, reduceIte, reduceCtorEq, Nat.reduceAdd, Nat.reduceMul, Nat.reduceSub, Nat.reduceLT, Int.reduceLT, Int.reduceLE, Int.reduceNeg, Int.reduceToNat, Nat.reduceBEq, Nat.reduceBNe, Int.reduceGE, Int.reduceGT, *, cLawSr, cSzSr, cToSr, cSln, cEqSr, Tryz.results3, hz, r1, r2, r3, r4])))
    all_goals first | rfl | (exfalso; omega) | simp | skip
end Go.Own
