import Derived.Test.YtmfieiphcjenlaaOwnG3
namespace Go.Own
open Go Go.Proofs
set_option linter.unusedSimpArgs false
set_option linter.unusedVariables false
set_option maxRecDepth 20000
set_option maxHeartbeats 2000000


theorem tL_get {ss : List ByteArray} {i : Nat} (h : i < ss.length) : (tL ss).getD i [] = [D.v (.string (ss.getD i ⟨#[]⟩))] := by
  simp [tL, List.getD_eq_getElem?_getD, h]
theorem tL_set {ss : List ByteArray} {i : Nat} {s : ByteArray} : (tL ss).set i [D.v (.string s)] = tL (ss.set i s) := by
  simp [tL, List.map_set]
theorem tL_inj {xs ys : List ByteArray} : tL xs = tL ys ↔ xs = ys := by
  constructor
  · intro h
    have := congrArg unT h
    simpa only [unT_tL] using this
  · rintro rfl; rfl
theorem tL_scal {xs : List ByteArray} : (∀ e ∈ tL xs, ∀ x ∈ e, Scalar x) ↔ True := by
  refine ⟨fun _ => trivial, fun _ e he x hx => ?_⟩
  obtain ⟨n, _, rfl⟩ := List.mem_map.1 he
  simp at hx
  subst hx
  trivial
theorem WfL.ex {l : List (List D)} (h : WfL l) : ∃ xs, l = tL xs ∧ xs.length ≤ maxLen := ⟨unT l, h.1, by have := h.2; rw [h.1, tL_length] at this; exact this⟩
theorem ba_beq (a b : ByteArray) : (a == b) = decide (a = b) := by
  obtain ⟨x⟩ := a; obtain ⟨y⟩ := b
  show (x == y) = _
  rw [Bool.eq_iff_iff, beq_iff_eq, decide_eq_true_iff, ByteArray.mk.injEq]
instance : LawfulBEq ByteArray where
  eq_of_beq := by intro a b h; rw [ba_beq] at h; exact of_decide_eq_true h
  rfl := by intro a; rw [ba_beq]; exact decide_eq_true rfl
theorem str_eq {a b : ByteArray} : (a.toList == b.toList) = (a == b) := by
  rw [ByteArray.toList_eq, ByteArray.toList_eq, Bool.eq_iff_iff, beq_iff_eq, beq_iff_eq]
  exact ⟨ba_ext, fun h => by rw [h]⟩

attribute [local go_sem] unB_bL bL_length bL_snoc unT_tL tL_length tL_snoc wfL_tL tL_get tL_set tL_inj tL_scal

/-! Equal lists of strings. -/
def cEqT : Contract := ⟨[], false, fun
  | [.one (.sl 1 a), .one (.sl 1 b)] => some (WfL a ∧ WfL b, [⟨false, [.d (.v (.bool (unT a == unT b)))]⟩], [])
  | _ => none⟩
theorem not_lenT {xs ys : List ByteArray} (h : ¬ (xs.length : Int) = ys.length) : (xs == ys) = false := beq_eq_false_iff_ne.2 fun e => h (by rw [e])
theorem eqT_ok : ContractOK E0 33 cEqT := by
  refine contract_of_wpc (E := E0) (T := mkT Try.prog [] false (fun _ => false) true (fun _ => false)) (mkT_ok (E := E0) .nil) (fn := Try.f33) Try.func33 (by kernel_rfl) rfl mixedT (by kernel_rfl) rfl ?_
  intro args p rs ms hr
  unfold cEqT at hr
  dsimp only at hr
  split at hr
  rotate_left
  · cases hr
  rename_i a b
  simp only [Option.some.injEq, Prod.mk.injEq] at hr
  obtain ⟨rfl, rfl, rfl⟩ := hr
  refine ⟨rfl, rfl, Nat.le_of_ble_eq_true rfl, ?_⟩
  have hm : maxLen = 9223372036854775807 := rfl
  rintro ⟨h1, h2⟩ bs
  obtain ⟨xs, rfl, hx⟩ := h1.ex
  obtain ⟨ys, rfl, hy⟩ := h2.ex
  clear h1 h2
  rw [unT_tL, unT_tL]
  by_cases hl : (xs.length : Int) = ys.length
  · have hlen : xs.length = ys.length := by omega
    (repeat' (first
      | (refine gate_a fun _ => ?_)
      | (refine fork_intro (fun hb => ?_) (fun hb => ?_) <;> (try simp only [ew] at hb))
      | (simp only [go_sem, Nat.reduceLeDiff, Nat.reduceEqDiff, reduceIte, reduceCtorEq, Nat.reduceAdd, Nat.reduceMul, Nat.reduceSub, Nat.reduceLT, Int.reduceLT, Int.reduceLE, Int.reduceNeg, Int.reduceToNat, Nat.reduceBEq, Nat.reduceBNe, Int.reduceGE, Int.reduceGT, *, cEqT, Try.results33])))
    refine loop_intro { ι := Nat, rs := [(4, 5), (11, 26)], mods := [(5, fun i => .one (.d (.v (.int .i64 i))))], boxes := [], arrs := [], ok := fun i => i ≤ xs.length ∧ xs.take i = ys.take i, mu := fun i => xs.length - i } rfl 0 ⟨Nat.zero_le _, rfl⟩ ?_ fun i hi => ?_
    · (repeat' (first
      | (refine gate_a fun _ => ?_)
      | (refine fork_intro (fun hb => ?_) (fun hb => ?_) <;> (try simp only [ew] at hb))
      | (simp only [go_sem, Nat.reduceLeDiff, Nat.reduceEqDiff, reduceIte, reduceCtorEq, Nat.reduceAdd, Nat.reduceMul, Nat.reduceSub, Nat.reduceLT, Int.reduceLT, Int.reduceLE, Int.reduceNeg, Int.reduceToNat, Nat.reduceBEq, Nat.reduceBNe, Int.reduceGE, Int.reduceGT, *, cEqT, Try.results33])))
    · dsimp only at i hi
      obtain ⟨hi, ht⟩ := hi
      by_cases h5 : i < xs.length
      · have h5' : i < ys.length := by omega
        have hq2 : (xs.getD i ⟨#[]⟩ == ys.getD i ⟨#[]⟩) = false → (xs == ys) = false := fun h => beq_eq_false_iff_ne.2 fun e => by
          rw [e] at h; simp at h
        cases hq : (xs.getD i ⟨#[]⟩ == ys.getD i ⟨#[]⟩)
        · rw [hq2 hq]
          clear ht hq2
          (repeat' (first
      | (refine gate_a fun _ => ?_)
      | (refine fork_intro (fun hb => ?_) (fun hb => ?_) <;> (try simp only [ew, str_eq, hq, bne] at hb))
      | (simp only [go_sem, Nat.reduceLeDiff, Nat.reduceEqDiff, reduceIte, reduceCtorEq, Nat.reduceAdd, Nat.reduceMul, Nat.reduceSub, Nat.reduceLT, Int.reduceLT, Int.reduceLE, Int.reduceNeg, Int.reduceToNat, Nat.reduceBEq, Nat.reduceBNe, Int.reduceGE, Int.reduceGT, *, cEqT, Try.results33, str_eq, hq, bne])))
        · clear hq2
          (repeat' (first
      | (refine gate_a fun _ => ?_)
      | (refine fork_intro (fun hb => ?_) (fun hb => ?_) <;> (try simp only [ew, str_eq, hq, bne] at hb))
      | (simp only [go_sem, Nat.reduceLeDiff, Nat.reduceEqDiff, reduceIte, reduceCtorEq, Nat.reduceAdd, Nat.reduceMul, Nat.reduceSub, Nat.reduceLT, Int.reduceLT, Int.reduceLE, Int.reduceNeg, Int.reduceToNat, Nat.reduceBEq, Nat.reduceBNe, Int.reduceGE, Int.reduceGT, *, cEqT, Try.results33, str_eq, hq, bne])))
          refine loop_next (i + 1) ⟨by omega, ?_⟩ (by dsimp only; omega) ?_
          · rw [take_succ_getD h5 ⟨#[]⟩, take_succ_getD h5' ⟨#[]⟩, ht, eq_of_beq hq]
          · clear ht
            (repeat' (first
      | (refine gate_a fun _ => ?_)
      | (refine fork_intro (fun hb => ?_) (fun hb => ?_) <;> (try simp only [ew] at hb))
      | (simp only [go_sem, Nat.reduceLeDiff, Nat.reduceEqDiff, reduceIte, reduceCtorEq, Nat.reduceAdd, Nat.reduceMul, Nat.reduceSub, Nat.reduceLT, Int.reduceLT, Int.reduceLE, Int.reduceNeg, Int.reduceToNat, Nat.reduceBEq, Nat.reduceBNe, Int.reduceGE, Int.reduceGT, *, cEqT, Try.results33])))
      · have := eq_of_takes hlen h5 ht
        subst this
        have e5 : i = xs.length := by omega
        subst e5
        clear ht
        (repeat' (first
      | (refine gate_a fun _ => ?_)
      | (refine fork_intro (fun hb => ?_) (fun hb => ?_) <;> (try simp only [ew] at hb))
      | (simp only [go_sem, Nat.reduceLeDiff, Nat.reduceEqDiff, reduceIte, reduceCtorEq, Nat.reduceAdd, Nat.reduceMul, Nat.reduceSub, Nat.reduceLT, Int.reduceLT, Int.reduceLE, Int.reduceNeg, Int.reduceToNat, Nat.reduceBEq, Nat.reduceBNe, Int.reduceGE, Int.reduceGT, *, cEqT, Try.results33])))
        all_goals first | simp | skip
  · rw [not_lenT hl]
    (repeat' (first
      | (refine gate_a fun _ => ?_)
      | (refine fork_intro (fun hb => ?_) (fun hb => ?_) <;> (try simp only [ew] at hb))
      | (simp only [go_sem, Nat.reduceLeDiff, Nat.reduceEqDiff, reduceIte, reduceCtorEq, Nat.reduceAdd, Nat.reduceMul, Nat.reduceSub, Nat.reduceLT, Int.reduceLT, Int.reduceLE, Int.reduceNeg, Int.reduceToNat, Nat.reduceBEq, Nat.reduceBNe, Int.reduceGE, Int.reduceGT, *, cEqT, Try.results33])))
    all_goals first | contradiction | skip

/-! The text of a mark. -/
def cMT : Contract := ⟨[], false, fun
  | [.one (.v (.int .i64 k))] => some (0 ≤ k ∧ k ≤ 1125899906842625, [⟨false, [.d (.v (.string (mt k)))]⟩], [])
  | _ => none⟩
theorem wrap48 {m : Int} (h0 : 0 ≤ m) (h5 : m < 10) : IntKind.wrap .u8 (48 + m) = 48 + m := by
  have : m = 0 ∨ m = 1 ∨ m = 2 ∨ m = 3 ∨ m = 4 ∨ m = 5 ∨ m = 6 ∨ m = 7 ∨ m = 8 ∨ m = 9 := by omega
  rcases this with rfl | rfl | rfl | rfl | rfl | rfl | rfl | rfl | rfl | rfl <;> rfl
theorem m0_ba : (⟨#[109, 48]⟩ : ByteArray) = baOf [109, 48] := rfl
theorem m_ba : (⟨#[109]⟩ : ByteArray) = baOf [109] := rfl
theorem mt_le {k : Int} (h : k ≤ 0) : mt k = ⟨#[109, 48]⟩ := by unfold mt mtL; rw [if_pos h]; rfl
theorem mt_gt {k : Int} (h : ¬ k ≤ 0) : mt k = ⟨#[109]⟩ ++ baOf (dgF 20 k []) := by
  unfold mt mtL; rw [if_neg h, m_ba, baOf_append]; rfl
theorem p10s (j : Nat) : (10 : Int) ^ (j + 1) = 10 * 10 ^ j := by rw [Int.pow_succ]; omega
theorem one_size : ByteArray.size ⟨#[109]⟩ = 1 := rfl

theorem mt_ok : ContractOK E0 63 cMT := by
  refine contract_of_wpc (E := E0) (T := mkT Try.prog [] false (fun _ => false) true (fun _ => false)) (mkT_ok (E := E0) .nil) (fn := Try.f63) Try.func63 (by kernel_rfl) rfl mixedT (by kernel_rfl) rfl ?_
  intro args p rs ms hr
  unfold cMT at hr
  dsimp only at hr
  split at hr
  rotate_left
  · cases hr
  rename_i k
  simp only [Option.some.injEq, Prod.mk.injEq] at hr
  obtain ⟨rfl, rfl, rfl⟩ := hr
  refine ⟨rfl, rfl, Nat.le_of_ble_eq_true rfl, ?_⟩
  have hm : maxLen = 9223372036854775807 := rfl
  rintro ⟨h1, h2⟩ bs
  by_cases hk : k ≤ 0
  · rw [mt_le hk]
    (repeat' (first
      | (refine gate_a fun _ => ?_)
      | (refine fork_intro (fun hb => ?_) (fun hb => ?_) <;> (try simp only [ew] at hb))
      | (simp only [go_sem, Nat.reduceLeDiff, Nat.reduceEqDiff, reduceIte, reduceCtorEq, Nat.reduceAdd, Nat.reduceMul, Nat.reduceSub, Nat.reduceLT, Int.reduceLT, Int.reduceLE, Int.reduceNeg, Int.reduceToNat, Nat.reduceBEq, Nat.reduceBNe, Int.reduceGE, Int.reduceGT, *, cMT, Try.results63])))
  · rw [mt_gt hk]
    have hk2 : decide (k ≤ 0) = false := decide_eq_false hk
    generalize hF : dgF 20 k [] = F
    (repeat' (first
      | (refine gate_a fun _ => ?_)
      | (refine fork_intro (fun hb => ?_) (fun hb => ?_) <;> (try simp only [ew, hk2] at hb))
      | (simp only [go_sem, Nat.reduceLeDiff, Nat.reduceEqDiff, reduceIte, reduceCtorEq, Nat.reduceAdd, Nat.reduceMul, Nat.reduceSub, Nat.reduceLT, Int.reduceLT, Int.reduceLE, Int.reduceNeg, Int.reduceToNat, Nat.reduceBEq, Nat.reduceBNe, Int.reduceGE, Int.reduceGT, *, cMT, Try.results63, hk2])))
    refine loop_intro { ι := Nat × Int × List Int, rs := [(6, 18)], mods := [(0, fun i => .one (.d (.v (.int .i64 i.2.1)))), (3, fun i => .one (.d (.v (.string (baOf i.2.2)))))], boxes := [], arrs := [], ok := fun i => ((0 ≤ i.2.1 ∧ i.2.1 ≤ 1125899906842625) ∧ i.2.1 < 10 ^ i.1) ∧ (i.1 ≤ 20 ∧ i.2.2.length + i.1 ≤ 20) ∧ dgF i.1 i.2.1 i.2.2 = F, mu := fun i => i.1 } rfl (20, k, []) ⟨⟨⟨h1, h2⟩, by dsimp only; omega⟩, ⟨by dsimp only; omega, by simp⟩, hF⟩ ?_ ?_
    · (repeat' (first
      | (refine gate_a fun _ => ?_)
      | (refine fork_intro (fun hb => ?_) (fun hb => ?_) <;> (try simp only [ew] at hb))
      | (simp only [go_sem, Nat.reduceLeDiff, Nat.reduceEqDiff, reduceIte, reduceCtorEq, Nat.reduceAdd, Nat.reduceMul, Nat.reduceSub, Nat.reduceLT, Int.reduceLT, Int.reduceLE, Int.reduceNeg, Int.reduceToNat, Nat.reduceBEq, Nat.reduceBNe, Int.reduceGE, Int.reduceGT, *, cMT, Try.results63])))
      all_goals first | rfl | skip
    · rintro ⟨j, m, acc⟩ hi
      dsimp only at hi
      obtain ⟨⟨⟨m0, mK⟩, mj⟩, ⟨j20, ja⟩, ht⟩ := hi
      clear hF
      by_cases h5 : m > 0
      · have h5' : decide (m > 0) = true := decide_eq_true h5
        cases j with
        | zero => exfalso; simp at mj; omega
        | succ j =>
          rw [dgF_go (by omega)] at ht
          rw [p10s] at mj
          have mj2 : m / 10 < 10 ^ j := by
            generalize (10 : Int) ^ j = p at mj
            omega
          have e1 : m.tmod 10 = m % 10 := Int.tmod_eq_emod_of_nonneg m0
          have e2 : m.tdiv 10 = m / 10 := Int.tdiv_eq_ediv_of_nonneg m0
          have r0 : 0 ≤ m % 10 := by omega
          have r10 : m % 10 < 10 := by omega
          have ew := wrap48 r0 r10
          have eb : baOf [48 + m % 10] ++ baOf acc = baOf ((48 + m % 10) :: acc) := by rw [baOf_append]; rfl
          have hj20 : (10 : Int) ^ j ≤ 10 ^ 19 := by
            have : j ≤ 19 := by omega
            exact_mod_cast Nat.pow_le_pow_right (by omega) this
          (repeat' (first
      | (refine gate_a fun _ => ?_)
      | (refine fork_intro (fun hb => ?_) (fun hb => ?_) <;> (try simp only [ew, e1, e2, ew, eb, baOf_size, h5'] at hb))
      | (simp only [go_sem, Nat.reduceLeDiff, Nat.reduceEqDiff, reduceIte, reduceCtorEq, Nat.reduceAdd, Nat.reduceMul, Nat.reduceSub, Nat.reduceLT, Int.reduceLT, Int.reduceLE, Int.reduceNeg, Int.reduceToNat, Nat.reduceBEq, Nat.reduceBNe, Int.reduceGE, Int.reduceGT, *, cMT, Try.results63, e1, e2, ew, eb, baOf_size, h5'])))
          refine loop_next (j, m / 10, (48 + m % 10) :: acc) ⟨⟨⟨by dsimp only; omega, by dsimp only; omega⟩, mj2⟩, ⟨by dsimp only; omega, by dsimp only [List.length_cons]; omega⟩, ht⟩ (by dsimp only; omega) ?_
          clear ht
          (repeat' (first
      | (refine gate_a fun _ => ?_)
      | (refine fork_intro (fun hb => ?_) (fun hb => ?_) <;> (try simp only [ew, e1, e2, ew, eb] at hb))
      | (simp only [go_sem, Nat.reduceLeDiff, Nat.reduceEqDiff, reduceIte, reduceCtorEq, Nat.reduceAdd, Nat.reduceMul, Nat.reduceSub, Nat.reduceLT, Int.reduceLT, Int.reduceLE, Int.reduceNeg, Int.reduceToNat, Nat.reduceBEq, Nat.reduceBNe, Int.reduceGE, Int.reduceGT, *, cMT, Try.results63, e1, e2, ew, eb])))
      · have h5' : decide (m > 0) = false := decide_eq_false h5
        have em : m = 0 := by omega
        subst em
        rw [dgF_zero] at ht
        subst ht
        (repeat' (first
      | (refine gate_a fun _ => ?_)
      | (refine fork_intro (fun hb => ?_) (fun hb => ?_) <;> (try simp only [ew, h5', baOf_size, one_size] at hb))
      | (simp only [go_sem, Nat.reduceLeDiff, Nat.reduceEqDiff, reduceIte, reduceCtorEq, Nat.reduceAdd, Nat.reduceMul, Nat.reduceSub, Nat.reduceLT, Int.reduceLT, Int.reduceLE, Int.reduceNeg, Int.reduceToNat, Nat.reduceBEq, Nat.reduceBNe, Int.reduceGE, Int.reduceGT, *, cMT, Try.results63, h5', baOf_size, one_size])))
end Go.Own
