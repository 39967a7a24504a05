import Derived.Test.YtphpccnlhmmlfaaOwnC9
import Derived.Test.YtphpccnlhmmlfaaOwnC8
namespace Go.Own
open Go Go.Proofs
set_option linter.unusedSimpArgs false
set_option linter.unusedVariables false
set_option maxRecDepth 20000
set_option maxHeartbeats 2000000



/-! Marks on pairs. -/
def markD (k : Int) (n : Nat) : List (Int × Int) := (List.range n).map fun i => (k + 2 * (i : Nat), k + 2 * (i : Nat) + 1)
theorem markD_length {k : Int} {n : Nat} : (markD k n).length = n := by simp [markD]
theorem markD_succ {k : Int} {n : Nat} : markD k (n + 1) = markD k n ++ [(k + 2 * n, k + 2 * n + 1)] := by simp [markD, List.range_succ]
theorem markD_getD {k : Int} {n i : Nat} (h : i < n) : (markD k n).getD i (0, 0) = (k + 2 * i, k + 2 * i + 1) := by
  simp [markD, List.getD_eq_getElem?_getD, h]
def heldD (xs : List (Int × Int)) (k : Int) : Int := if xs = markD k xs.length then k + 2 * xs.length else -1
theorem heldD_marks {k : Int} {n : Nat} : heldD (markD k n) k = k + 2 * n := by simp [heldD, markD_length]
theorem dL_set0 {xs : List (Int × Int)} {i : Nat} {a b c : Int} : (dL xs).set i [D.v (.int .i64 a), D.v (.int .i64 b)] = dL (xs.set i (a, b)) := dL_set

def cMarkX : Contract := ⟨[true], false, fun
  | [.arr 2 l _, .one (.v (.int .i64 k))] => some (WfD l ∧ l.length ≤ 16777216 ∧ 0 ≤ k ∧ k ≤ 1125899906842624, [⟨false, [.d (.v (.int .i64 (k + 2 * l.length)))]⟩], [.arr 2 (dL (markD k l.length)) 1])
  | _ => none⟩

def cHeldX : Contract := ⟨[], false, fun
  | [.one (.sl 2 l), .one (.v (.int .i64 k))] => some (WfD l ∧ l.length ≤ 16777216 ∧ 0 ≤ k ∧ k ≤ 1125899906842624, [⟨false, [.d (.v (.int .i64 (heldD (unD l) k)))]⟩], [])
  | _ => none⟩

/-! Pairs for which a test holds. -/
def prB (p : Int → Int → Bool) (a : Nat) : Nat → List (Int × Int)
  | 0 => []
  | b + 1 => prB p a b ++ (if (a : Int) ≠ b ∧ p a b = true then [((a : Int), (b : Int))] else [])
def prA (p : Int → Int → Bool) (n : Nat) : Nat → List (Int × Int)
  | 0 => []
  | a + 1 => prA p n a ++ prB p a n
def prs (p : Int → Int → Bool) (c : Int) (rs : List (List Int)) : List (Int × Int) := if tabOK c rs then prA p c.toNat c.toNat else []
theorem prB_length {p : Int → Int → Bool} {a : Nat} : ∀ {b : Nat}, (prB p a b).length ≤ b
  | 0 => Nat.le_refl _
  | b + 1 => by
    have := @prB_length p a b
    simp only [prB, List.length_append]
    split <;> simp <;> omega
theorem prA_length {p : Int → Int → Bool} {n : Nat} : ∀ {a : Nat}, (prA p n a).length ≤ a * n
  | 0 => Nat.zero_le _
  | a + 1 => by
    have h1 := @prA_length p n a
    have h2 := @prB_length p a n
    simp only [prA, List.length_append, Nat.succ_mul]
    omega
theorem prs_length {p : Int → Int → Bool} {c : Int} {rs : List (List Int)} : (prs p c rs).length ≤ 25 := by
  unfold prs
  split
  · have h := tab_c ‹_›
    have h1 := @prA_length p c.toNat c.toNat
    have h2 : c.toNat * c.toNat ≤ 5 * 5 := Nat.mul_le_mul (by omega) (by omega)
    omega
  · simp
theorem dL_snoc {xs : List (Int × Int)} {a b : Int} : dL xs ++ [[D.v (.int .i64 a), D.v (.int .i64 b)]] = dL (xs ++ [(a, b)]) := by simp [dL]
theorem mark_setD {xs : List (Int × Int)} {k : Int} {i : Nat} (h : i < xs.length) : (markD k i ++ xs.drop i).set i (k + 2 * i, k + 2 * i + 1) = markD k (i + 1) ++ xs.drop (i + 1) := by
  rw [List.set_append_right _ _ (by rw [markD_length]; omega), markD_length, Nat.sub_self, drop_getD h (0, 0), List.set_cons_zero, markD_succ]; simp
theorem mD_length {xs : List (Int × Int)} {k : Int} {i : Nat} (h : i ≤ xs.length) : (markD k i ++ xs.drop i).length = xs.length := by
  rw [List.length_append, markD_length, List.length_drop]; omega
theorem getD_setD {xs : List (Int × Int)} {i : Nat} {q : Int × Int} (h : i < xs.length) : (xs.set i q).getD i (0, 0) = q := by
  simp [List.getD_eq_getElem?_getD, h]

theorem markX_ok : ContractOK E0 24 cMarkX := by
  refine contract_of_wpcM (E := E0) (T := mkT Try.prog [] false (fun _ => false) false (fun _ => false)) (mkT_ok (E := E0) .nil) rfl (fn := Try.f24) Try.func24 (by kernel_rfl) rfl mixedT (by kernel_rfl) rfl rfl (Nat.le_of_ble_eq_true rfl) ?_
  intro args p rs ms hr
  unfold cMarkX at hr
  dsimp only at hr
  split at hr
  rotate_left
  · cases hr
  rename_i l dp k
  simp only [Option.some.injEq, Prod.mk.injEq] at hr
  obtain ⟨rfl, rfl, rfl⟩ := hr
  refine ⟨_, _, _, rfl, rfl, rfl, rfl, rfl, Nat.le_of_ble_eq_true rfl, ?_⟩
  have hm : maxLen = 9223372036854775807 := rfl
  rintro ⟨h1, h2, h3, h4⟩ bs
  obtain ⟨xs, rfl, hx⟩ := h1.ex
  clear h1
  rw [dL_length] at h2
  (repeat' (first
      | (refine gate_intro (by first | omega | (simp only [maxLen]; omega) | simp_all | (simp_all [maxLen]; omega)) fun _ => ?_)
      | ((refine fork_intro (fun hb => ?_) (fun hb => ?_)) <;> (try simp only [decide_eq_true_eq, decide_eq_false_iff_not, iL_length, sL_length, Int.ofNat_lt, Int.ofNat_le, Bool.not_eq_true', Bool.not_eq_false', beq_iff_eq, bne_iff_ne, beq_eq_false_iff_ne, ne_eq, bne_eq_false_iff_eq, Decidable.not_not, Bool.and_eq_true, Bool.and_eq_false_imp, cMarkX, Try.results24, unD_dL, dL_length, dL_get, dL_set, dL_inj, wfD_dL, scal2, beq2, pair_eta] at hb))
      | (simp only [go_sem, Nat.reduceLeDiff, Nat.reduceEqDiff, reduceIte, reduceCtorEq, Nat.reduceAdd, Nat.reduceMul, Nat.reduceSub, Nat.reduceLT, Int.reduceLT, Int.reduceLE, Int.reduceNeg, Int.reduceToNat, Nat.reduceBEq, Nat.reduceBNe, *, cMarkX, Try.results24, unD_dL, dL_length, dL_get, dL_set, dL_inj, wfD_dL, scal2, beq2, pair_eta])))
  refine loop_intro { ι := Nat, rs := [(6, 26)], mods := [(5, fun i => .one (.d (.v (.int .i64 i)))), (1, fun i => .one (.d (.v (.int .i64 (k + 2 * (i : Nat))))))], boxes := [], arrs := [(0, fun i => (2, dL (markD k i ++ xs.drop i), 1))], ok := fun i => i ≤ xs.length, mu := fun i => xs.length - i } rfl 0 (Nat.zero_le _) ?_ fun i hi => ?_
  · (repeat' (first
      | (refine gate_intro (by first | omega | (simp only [maxLen]; omega) | simp_all | (simp_all [maxLen]; omega)) fun _ => ?_)
      | ((refine fork_intro (fun hb => ?_) (fun hb => ?_)) <;> (try simp only [decide_eq_true_eq, decide_eq_false_iff_not, iL_length, sL_length, Int.ofNat_lt, Int.ofNat_le, Bool.not_eq_true', Bool.not_eq_false', beq_iff_eq, bne_iff_ne, beq_eq_false_iff_ne, ne_eq, bne_eq_false_iff_eq, Decidable.not_not, Bool.and_eq_true, Bool.and_eq_false_imp, cMarkX, Try.results24, unD_dL, dL_length, dL_get, dL_set, dL_inj, wfD_dL, scal2, beq2, pair_eta] at hb))
      | (simp only [go_sem, Nat.reduceLeDiff, Nat.reduceEqDiff, reduceIte, reduceCtorEq, Nat.reduceAdd, Nat.reduceMul, Nat.reduceSub, Nat.reduceLT, Int.reduceLT, Int.reduceLE, Int.reduceNeg, Int.reduceToNat, Nat.reduceBEq, Nat.reduceBNe, *, cMarkX, Try.results24, unD_dL, dL_length, dL_get, dL_set, dL_inj, wfD_dL, scal2, beq2, pair_eta])))
    all_goals first | exact ⟨by omega, by simp [markD]⟩ | skip
  · dsimp only at i hi
    have hL := mD_length (k := k) hi
    by_cases h5 : i < xs.length
    · have hm := mark_setD (k := k) h5
      generalize hz : markD k i ++ xs.drop i = zs at hL hm
      have h6 : i < zs.length := by omega
      have g1 := fun q => getD_setD (q := q) h6
      (repeat' (first
      | (refine gate_intro (by first | omega | (simp only [maxLen]; omega) | simp_all | (simp_all [maxLen]; omega)) fun _ => ?_)
      | ((refine fork_intro (fun hb => ?_) (fun hb => ?_)) <;> (try simp only [decide_eq_true_eq, decide_eq_false_iff_not, iL_length, sL_length, Int.ofNat_lt, Int.ofNat_le, Bool.not_eq_true', Bool.not_eq_false', beq_iff_eq, bne_iff_ne, beq_eq_false_iff_ne, ne_eq, bne_eq_false_iff_eq, Decidable.not_not, Bool.and_eq_true, Bool.and_eq_false_imp, cMarkX, Try.results24, unD_dL, dL_length, dL_get, dL_set, dL_inj, wfD_dL, scal2, beq2, pair_eta, hz, g1, List.set_set] at hb))
      | (simp only [go_sem, Nat.reduceLeDiff, Nat.reduceEqDiff, reduceIte, reduceCtorEq, Nat.reduceAdd, Nat.reduceMul, Nat.reduceSub, Nat.reduceLT, Int.reduceLT, Int.reduceLE, Int.reduceNeg, Int.reduceToNat, Nat.reduceBEq, Nat.reduceBNe, *, cMarkX, Try.results24, unD_dL, dL_length, dL_get, dL_set, dL_inj, wfD_dL, scal2, beq2, pair_eta, hz, g1, List.set_set])))
      refine loop_next (i + 1) (by dsimp only; omega) (by dsimp only; omega) ?_
      have e : k + 2 * (i : Int) + 1 + 1 = k + 2 * ((i + 1 : Nat) : Int) := by omega
      (repeat' (first
      | (refine gate_intro (by first | omega | (simp only [maxLen]; omega) | simp_all | (simp_all [maxLen]; omega)) fun _ => ?_)
      | ((refine fork_intro (fun hb => ?_) (fun hb => ?_)) <;> (try simp only [decide_eq_true_eq, decide_eq_false_iff_not, iL_length, sL_length, Int.ofNat_lt, Int.ofNat_le, Bool.not_eq_true', Bool.not_eq_false', beq_iff_eq, bne_iff_ne, beq_eq_false_iff_ne, ne_eq, bne_eq_false_iff_eq, Decidable.not_not, Bool.and_eq_true, Bool.and_eq_false_imp, cMarkX, Try.results24, unD_dL, dL_length, dL_get, dL_set, dL_inj, wfD_dL, scal2, beq2, pair_eta, hz, g1, List.set_set, e, hm] at hb))
      | (simp only [go_sem, Nat.reduceLeDiff, Nat.reduceEqDiff, reduceIte, reduceCtorEq, Nat.reduceAdd, Nat.reduceMul, Nat.reduceSub, Nat.reduceLT, Int.reduceLT, Int.reduceLE, Int.reduceNeg, Int.reduceToNat, Nat.reduceBEq, Nat.reduceBNe, *, cMarkX, Try.results24, unD_dL, dL_length, dL_get, dL_set, dL_inj, wfD_dL, scal2, beq2, pair_eta, hz, g1, List.set_set, e, hm])))
    · have e5 : i = xs.length := by omega
      subst e5
      have e6 : markD k xs.length ++ xs.drop xs.length = markD k xs.length := by simp
      (repeat' (first
      | (refine gate_intro (by first | omega | (simp only [maxLen]; omega) | simp_all | (simp_all [maxLen]; omega)) fun _ => ?_)
      | ((refine fork_intro (fun hb => ?_) (fun hb => ?_)) <;> (try simp only [decide_eq_true_eq, decide_eq_false_iff_not, iL_length, sL_length, Int.ofNat_lt, Int.ofNat_le, Bool.not_eq_true', Bool.not_eq_false', beq_iff_eq, bne_iff_ne, beq_eq_false_iff_ne, ne_eq, bne_eq_false_iff_eq, Decidable.not_not, Bool.and_eq_true, Bool.and_eq_false_imp, cMarkX, Try.results24, unD_dL, dL_length, dL_get, dL_set, dL_inj, wfD_dL, scal2, beq2, pair_eta, e6, markD_length] at hb))
      | (simp only [go_sem, Nat.reduceLeDiff, Nat.reduceEqDiff, reduceIte, reduceCtorEq, Nat.reduceAdd, Nat.reduceMul, Nat.reduceSub, Nat.reduceLT, Int.reduceLT, Int.reduceLE, Int.reduceNeg, Int.reduceToNat, Nat.reduceBEq, Nat.reduceBNe, *, cMarkX, Try.results24, unD_dL, dL_length, dL_get, dL_set, dL_inj, wfD_dL, scal2, beq2, pair_eta, e6, markD_length])))
      all_goals first | rfl | skip

theorem heldX_ok : ContractOK E0 25 cHeldX := by
  refine contract_of_wpc (E := E0) (T := mkT Try.prog [] false (fun _ => false) true (fun _ => false)) (mkT_ok (E := E0) .nil) (fn := Try.f25) Try.func25 (by kernel_rfl) rfl mixedT (by kernel_rfl) rfl ?_
  intro args p rs ms hr
  unfold cHeldX at hr
  dsimp only at hr
  split at hr
  rotate_left
  · cases hr
  rename_i l k
  simp only [Option.some.injEq, Prod.mk.injEq] at hr
  obtain ⟨rfl, rfl, rfl⟩ := hr
  refine ⟨rfl, rfl, Nat.le_of_ble_eq_true rfl, ?_⟩
  have hm : maxLen = 9223372036854775807 := rfl
  rintro ⟨h1, h2, h3, h4⟩ bs
  obtain ⟨xs, rfl, hx⟩ := h1.ex
  clear h1
  rw [unD_dL]
  rw [dL_length] at h2
  (repeat' (first
      | (refine gate_intro (by first | omega | (simp only [maxLen]; omega) | simp_all | (simp_all [maxLen]; omega)) fun _ => ?_)
      | ((refine fork_intro (fun hb => ?_) (fun hb => ?_)) <;> (try simp only [decide_eq_true_eq, decide_eq_false_iff_not, iL_length, sL_length, Int.ofNat_lt, Int.ofNat_le, Bool.not_eq_true', Bool.not_eq_false', beq_iff_eq, bne_iff_ne, beq_eq_false_iff_ne, ne_eq, bne_eq_false_iff_eq, Decidable.not_not, Bool.and_eq_true, Bool.and_eq_false_imp, cHeldX, Try.results25, unD_dL, dL_length, dL_get, dL_set, dL_inj, wfD_dL, scal2, beq2, pair_eta] at hb))
      | (simp only [go_sem, Nat.reduceLeDiff, Nat.reduceEqDiff, reduceIte, reduceCtorEq, Nat.reduceAdd, Nat.reduceMul, Nat.reduceSub, Nat.reduceLT, Int.reduceLT, Int.reduceLE, Int.reduceNeg, Int.reduceToNat, Nat.reduceBEq, Nat.reduceBNe, *, cHeldX, Try.results25, unD_dL, dL_length, dL_get, dL_set, dL_inj, wfD_dL, scal2, beq2, pair_eta])))
  refine loop_intro { ι := Nat, rs := [(4, 5), (6, 30)], mods := [(5, fun i => .one (.d (.v (.int .i64 i)))), (1, fun i => .one (.d (.v (.int .i64 (k + 2 * (i : Nat))))))], boxes := [], arrs := [], ok := fun i => i ≤ xs.length ∧ xs.take i = markD k i, mu := fun i => xs.length - i } rfl 0 ⟨Nat.zero_le _, rfl⟩ ?_ fun i hi => ?_
  · (repeat' (first
      | (refine gate_intro (by first | omega | (simp only [maxLen]; omega) | simp_all | (simp_all [maxLen]; omega)) fun _ => ?_)
      | ((refine fork_intro (fun hb => ?_) (fun hb => ?_)) <;> (try simp only [decide_eq_true_eq, decide_eq_false_iff_not, iL_length, sL_length, Int.ofNat_lt, Int.ofNat_le, Bool.not_eq_true', Bool.not_eq_false', beq_iff_eq, bne_iff_ne, beq_eq_false_iff_ne, ne_eq, bne_eq_false_iff_eq, Decidable.not_not, Bool.and_eq_true, Bool.and_eq_false_imp, cHeldX, Try.results25, unD_dL, dL_length, dL_get, dL_set, dL_inj, wfD_dL, scal2, beq2, pair_eta] at hb))
      | (simp only [go_sem, Nat.reduceLeDiff, Nat.reduceEqDiff, reduceIte, reduceCtorEq, Nat.reduceAdd, Nat.reduceMul, Nat.reduceSub, Nat.reduceLT, Int.reduceLT, Int.reduceLE, Int.reduceNeg, Int.reduceToNat, Nat.reduceBEq, Nat.reduceBNe, *, cHeldX, Try.results25, unD_dL, dL_length, dL_get, dL_set, dL_inj, wfD_dL, scal2, beq2, pair_eta])))
    all_goals first | omega | skip
  · dsimp only at i hi
    obtain ⟨hi, ht⟩ := hi
    have bad : ∀ h : i < xs.length, ¬ xs.getD i (0, 0) = (k + 2 * (i : Int), k + 2 * (i : Int) + 1) → heldD xs k = -1 := fun h hb => by
      rw [heldD, if_neg]
      intro e
      refine hb ?_
      rw [e, markD_getD h]
    by_cases h5 : i < xs.length
    · have bad := bad h5
      cases hq : xs.getD i (0, 0) with
      | mk q1 q2 =>
        rw [hq] at bad
        by_cases b1 : q1 = k + 2 * (i : Int)
        · by_cases b2 : q2 = k + 2 * (i : Int) + 1
          · have e1 : (q1 != k + 2 * (i : Int)) = false := by rw [b1]; simp
            have e2 : (q2 != k + 2 * (i : Int) + 1) = false := by rw [b2]; simp
            have hn : xs.take (i + 1) = markD k (i + 1) := by rw [take_succ_getD h5 (0, 0), ht, hq, b1, b2, markD_succ]
            clear b1 b2 bad
            (repeat' (first
      | (refine gate_intro (by first | omega | (simp only [maxLen]; omega) | simp_all | (simp_all [maxLen]; omega)) fun _ => ?_)
      | ((refine fork_intro (fun hb => ?_) (fun hb => ?_)) <;> (try simp only [decide_eq_true_eq, decide_eq_false_iff_not, iL_length, sL_length, Int.ofNat_lt, Int.ofNat_le, Bool.not_eq_true', Bool.not_eq_false', beq_iff_eq, bne_iff_ne, beq_eq_false_iff_ne, ne_eq, bne_eq_false_iff_eq, Decidable.not_not, Bool.and_eq_true, Bool.and_eq_false_imp, cHeldX, Try.results25, unD_dL, dL_length, dL_get, dL_set, dL_inj, wfD_dL, scal2, beq2, pair_eta, hq, e1, e2] at hb))
      | (simp only [go_sem, Nat.reduceLeDiff, Nat.reduceEqDiff, reduceIte, reduceCtorEq, Nat.reduceAdd, Nat.reduceMul, Nat.reduceSub, Nat.reduceLT, Int.reduceLT, Int.reduceLE, Int.reduceNeg, Int.reduceToNat, Nat.reduceBEq, Nat.reduceBNe, *, cHeldX, Try.results25, unD_dL, dL_length, dL_get, dL_set, dL_inj, wfD_dL, scal2, beq2, pair_eta, hq, e1, e2])))
            refine loop_next (i + 1) ⟨by omega, hn⟩ (by dsimp only; omega) ?_
            have e : k + 2 * (i : Int) + 1 + 1 = k + 2 * ((i + 1 : Nat) : Int) := by omega
            clear hn ht
            (repeat' (first
      | (refine gate_intro (by first | omega | (simp only [maxLen]; omega) | simp_all | (simp_all [maxLen]; omega)) fun _ => ?_)
      | ((refine fork_intro (fun hb => ?_) (fun hb => ?_)) <;> (try simp only [decide_eq_true_eq, decide_eq_false_iff_not, iL_length, sL_length, Int.ofNat_lt, Int.ofNat_le, Bool.not_eq_true', Bool.not_eq_false', beq_iff_eq, bne_iff_ne, beq_eq_false_iff_ne, ne_eq, bne_eq_false_iff_eq, Decidable.not_not, Bool.and_eq_true, Bool.and_eq_false_imp, cHeldX, Try.results25, unD_dL, dL_length, dL_get, dL_set, dL_inj, wfD_dL, scal2, beq2, pair_eta, hq, e1, e2, e] at hb))
      | (simp only [go_sem, Nat.reduceLeDiff, Nat.reduceEqDiff, reduceIte, reduceCtorEq, Nat.reduceAdd, Nat.reduceMul, Nat.reduceSub, Nat.reduceLT, Int.reduceLT, Int.reduceLE, Int.reduceNeg, Int.reduceToNat, Nat.reduceBEq, Nat.reduceBNe, *, cHeldX, Try.results25, unD_dL, dL_length, dL_get, dL_set, dL_inj, wfD_dL, scal2, beq2, pair_eta, hq, e1, e2, e])))
          · have e1 : (q1 != k + 2 * (i : Int)) = false := by rw [b1]; simp
            have e2 : (q2 != k + 2 * (i : Int) + 1) = true := by rw [bne_iff_ne]; exact b2
            have bad := bad (fun e => b2 (by injection e))
            rw [bad]
            clear b1 b2 bad ht
            (repeat' (first
      | (refine gate_intro (by first | omega | (simp only [maxLen]; omega) | simp_all | (simp_all [maxLen]; omega)) fun _ => ?_)
      | ((refine fork_intro (fun hb => ?_) (fun hb => ?_)) <;> (try simp only [decide_eq_true_eq, decide_eq_false_iff_not, iL_length, sL_length, Int.ofNat_lt, Int.ofNat_le, Bool.not_eq_true', Bool.not_eq_false', beq_iff_eq, bne_iff_ne, beq_eq_false_iff_ne, ne_eq, bne_eq_false_iff_eq, Decidable.not_not, Bool.and_eq_true, Bool.and_eq_false_imp, cHeldX, Try.results25, unD_dL, dL_length, dL_get, dL_set, dL_inj, wfD_dL, scal2, beq2, pair_eta, hq, e1, e2] at hb))
      | (simp only [go_sem, Nat.reduceLeDiff, Nat.reduceEqDiff, reduceIte, reduceCtorEq, Nat.reduceAdd, Nat.reduceMul, Nat.reduceSub, Nat.reduceLT, Int.reduceLT, Int.reduceLE, Int.reduceNeg, Int.reduceToNat, Nat.reduceBEq, Nat.reduceBNe, *, cHeldX, Try.results25, unD_dL, dL_length, dL_get, dL_set, dL_inj, wfD_dL, scal2, beq2, pair_eta, hq, e1, e2])))
        · have e1 : (q1 != k + 2 * (i : Int)) = true := by rw [bne_iff_ne]; exact b1
          have bad := bad (fun e => b1 (by injection e))
          rw [bad]
          clear b1 bad ht
          (repeat' (first
      | (refine gate_intro (by first | omega | (simp only [maxLen]; omega) | simp_all | (simp_all [maxLen]; omega)) fun _ => ?_)
      | ((refine fork_intro (fun hb => ?_) (fun hb => ?_)) <;> (try simp only [decide_eq_true_eq, decide_eq_false_iff_not, iL_length, sL_length, Int.ofNat_lt, Int.ofNat_le, Bool.not_eq_true', Bool.not_eq_false', beq_iff_eq, bne_iff_ne, beq_eq_false_iff_ne, ne_eq, bne_eq_false_iff_eq, Decidable.not_not, Bool.and_eq_true, Bool.and_eq_false_imp, cHeldX, Try.results25, unD_dL, dL_length, dL_get, dL_set, dL_inj, wfD_dL, scal2, beq2, pair_eta, hq, e1] at hb))
      | (simp only [go_sem, Nat.reduceLeDiff, Nat.reduceEqDiff, reduceIte, reduceCtorEq, Nat.reduceAdd, Nat.reduceMul, Nat.reduceSub, Nat.reduceLT, Int.reduceLT, Int.reduceLE, Int.reduceNeg, Int.reduceToNat, Nat.reduceBEq, Nat.reduceBNe, *, cHeldX, Try.results25, unD_dL, dL_length, dL_get, dL_set, dL_inj, wfD_dL, scal2, beq2, pair_eta, hq, e1])))
    · have e5 : i = xs.length := by omega
      subst e5
      rw [List.take_length] at ht
      have e : heldD xs k = k + 2 * (xs.length : Nat) := by rw [heldD, if_pos ht]
      rw [e]
      clear e ht bad
      (repeat' (first
      | (refine gate_intro (by first | omega | (simp only [maxLen]; omega) | simp_all | (simp_all [maxLen]; omega)) fun _ => ?_)
      | ((refine fork_intro (fun hb => ?_) (fun hb => ?_)) <;> (try simp only [decide_eq_true_eq, decide_eq_false_iff_not, iL_length, sL_length, Int.ofNat_lt, Int.ofNat_le, Bool.not_eq_true', Bool.not_eq_false', beq_iff_eq, bne_iff_ne, beq_eq_false_iff_ne, ne_eq, bne_eq_false_iff_eq, Decidable.not_not, Bool.and_eq_true, Bool.and_eq_false_imp, cHeldX, Try.results25, unD_dL, dL_length, dL_get, dL_set, dL_inj, wfD_dL, scal2, beq2, pair_eta] at hb))
      | (simp only [go_sem, Nat.reduceLeDiff, Nat.reduceEqDiff, reduceIte, reduceCtorEq, Nat.reduceAdd, Nat.reduceMul, Nat.reduceSub, Nat.reduceLT, Int.reduceLT, Int.reduceLE, Int.reduceNeg, Int.reduceToNat, Nat.reduceBEq, Nat.reduceBNe, *, cHeldX, Try.results25, unD_dL, dL_length, dL_get, dL_set, dL_inj, wfD_dL, scal2, beq2, pair_eta])))

theorem eqX_ok : ContractOK E0 58 cEqDep := by
  refine contract_of_wpc (E := E0) (T := mkT Try.prog [] false (fun _ => false) true (fun _ => false)) (mkT_ok (E := E0) .nil) (fn := Try.f58) Try.func58 (by kernel_rfl) rfl mixedT (by kernel_rfl) rfl ?_
  intro args p rs ms hr
  unfold cEqDep at hr
  dsimp only at hr
  split at hr
  rotate_left
  · cases hr
  rename_i a b c d
  simp only [Option.some.injEq, Prod.mk.injEq] at hr
  obtain ⟨rfl, rfl, rfl⟩ := hr
  refine ⟨rfl, rfl, Nat.le_of_ble_eq_true rfl, ?_⟩
  have hm : maxLen = 9223372036854775807 := rfl
  intro _ bs
  (repeat' (first
      | (refine gate_intro (by first | omega | (simp only [maxLen]; omega) | simp_all | (simp_all [maxLen]; omega)) fun _ => ?_)
      | ((refine fork_intro (fun hb => ?_) (fun hb => ?_)) <;> (try simp only [decide_eq_true_eq, decide_eq_false_iff_not, iL_length, sL_length, Int.ofNat_lt, Int.ofNat_le, Bool.not_eq_true', Bool.not_eq_false', beq_iff_eq, bne_iff_ne, beq_eq_false_iff_ne, ne_eq, bne_eq_false_iff_eq, Decidable.not_not, Bool.and_eq_true, Bool.and_eq_false_imp, cEqDep, Try.results58, unD_dL, dL_length, dL_get, dL_set, dL_inj, wfD_dL, scal2, beq2, pair_eta] at hb))
      | (simp only [go_sem, Nat.reduceLeDiff, Nat.reduceEqDiff, reduceIte, reduceCtorEq, Nat.reduceAdd, Nat.reduceMul, Nat.reduceSub, Nat.reduceLT, Int.reduceLT, Int.reduceLE, Int.reduceNeg, Int.reduceToNat, Nat.reduceBEq, Nat.reduceBNe, *, cEqDep, Try.results58, unD_dL, dL_length, dL_get, dL_set, dL_inj, wfD_dL, scal2, beq2, pair_eta])))
  all_goals first | (simp_all; done) | skip

theorem eqXS_ok : ContractOK E0 23 cEqDepS := by
  refine contract_of_wpc (E := E0) (T := mkT Try.prog [(58, cEqDep)] false (fun _ => false) true (fun _ => false)) (mkT_ok (E := E0) (.cons eqX_ok .nil)) (fn := Try.f23) Try.func23 (by kernel_rfl) rfl mixedT (by kernel_rfl) rfl ?_
  intro args p rs ms hr
  unfold cEqDepS at hr
  dsimp only at hr
  split at hr
  rotate_left
  · cases hr
  rename_i a b
  simp only [Option.some.injEq, Prod.mk.injEq] at hr
  obtain ⟨rfl, rfl, rfl⟩ := hr
  refine ⟨rfl, rfl, Nat.le_of_ble_eq_true rfl, ?_⟩
  have hm : maxLen = 9223372036854775807 := rfl
  rintro ⟨h1, h2⟩ bs
  obtain ⟨xs, rfl, hx⟩ := h1.ex
  obtain ⟨ys, rfl, hy⟩ := h2.ex
  clear h1 h2
  rw [unD_dL, unD_dL]
  (repeat' (first
      | (refine gate_intro (by first | omega | (simp only [maxLen]; omega) | simp_all | (simp_all [maxLen]; omega)) fun _ => ?_)
      | ((refine fork_intro (fun hb => ?_) (fun hb => ?_)) <;> (try simp only [decide_eq_true_eq, decide_eq_false_iff_not, iL_length, sL_length, Int.ofNat_lt, Int.ofNat_le, Bool.not_eq_true', Bool.not_eq_false', beq_iff_eq, bne_iff_ne, beq_eq_false_iff_ne, ne_eq, bne_eq_false_iff_eq, Decidable.not_not, Bool.and_eq_true, Bool.and_eq_false_imp, cEqDepS, cEqDep, Try.results23, unD_dL, dL_length, dL_get, dL_set, dL_inj, wfD_dL, scal2, beq2, pair_eta] at hb))
      | (simp only [go_sem, Nat.reduceLeDiff, Nat.reduceEqDiff, reduceIte, reduceCtorEq, Nat.reduceAdd, Nat.reduceMul, Nat.reduceSub, Nat.reduceLT, Int.reduceLT, Int.reduceLE, Int.reduceNeg, Int.reduceToNat, Nat.reduceBEq, Nat.reduceBNe, *, cEqDepS, cEqDep, Try.results23, unD_dL, dL_length, dL_get, dL_set, dL_inj, wfD_dL, scal2, beq2, pair_eta])))
  · exact (not_lenD ‹_›).symm
  · refine loop_intro { ι := Nat, rs := [(4, 5), (11, 27)], mods := [(5, fun i => .one (.d (.v (.int .i64 i))))], boxes := [], arrs := [], ok := fun i => i ≤ xs.length ∧ xs.take i = ys.take i, mu := fun i => xs.length - i } rfl 0 ⟨Nat.zero_le _, rfl⟩ ?_ fun i hi => ?_
    · (repeat' (first
      | (refine gate_intro (by first | omega | (simp only [maxLen]; omega) | simp_all | (simp_all [maxLen]; omega)) fun _ => ?_)
      | ((refine fork_intro (fun hb => ?_) (fun hb => ?_)) <;> (try simp only [decide_eq_true_eq, decide_eq_false_iff_not, iL_length, sL_length, Int.ofNat_lt, Int.ofNat_le, Bool.not_eq_true', Bool.not_eq_false', beq_iff_eq, bne_iff_ne, beq_eq_false_iff_ne, ne_eq, bne_eq_false_iff_eq, Decidable.not_not, Bool.and_eq_true, Bool.and_eq_false_imp, cEqDepS, cEqDep, Try.results23, unD_dL, dL_length, dL_get, dL_set, dL_inj, wfD_dL, scal2, beq2, pair_eta] at hb))
      | (simp only [go_sem, Nat.reduceLeDiff, Nat.reduceEqDiff, reduceIte, reduceCtorEq, Nat.reduceAdd, Nat.reduceMul, Nat.reduceSub, Nat.reduceLT, Int.reduceLT, Int.reduceLE, Int.reduceNeg, Int.reduceToNat, Nat.reduceBEq, Nat.reduceBNe, *, cEqDepS, cEqDep, Try.results23, unD_dL, dL_length, dL_get, dL_set, dL_inj, wfD_dL, scal2, beq2, pair_eta])))
    · dsimp only at i hi
      obtain ⟨hi, ht⟩ := hi
      have hlen : xs.length = ys.length := by omega
      (repeat' (first
      | (refine gate_intro (by first | omega | (simp only [maxLen]; omega) | simp_all | (simp_all [maxLen]; omega)) fun _ => ?_)
      | ((refine fork_intro (fun hb => ?_) (fun hb => ?_)) <;> (try simp only [decide_eq_true_eq, decide_eq_false_iff_not, iL_length, sL_length, Int.ofNat_lt, Int.ofNat_le, Bool.not_eq_true', Bool.not_eq_false', beq_iff_eq, bne_iff_ne, beq_eq_false_iff_ne, ne_eq, bne_eq_false_iff_eq, Decidable.not_not, Bool.and_eq_true, Bool.and_eq_false_imp, cEqDepS, cEqDep, Try.results23, unD_dL, dL_length, dL_get, dL_set, dL_inj, wfD_dL, scal2, beq2, pair_eta] at hb))
      | (simp only [go_sem, Nat.reduceLeDiff, Nat.reduceEqDiff, reduceIte, reduceCtorEq, Nat.reduceAdd, Nat.reduceMul, Nat.reduceSub, Nat.reduceLT, Int.reduceLT, Int.reduceLE, Int.reduceNeg, Int.reduceToNat, Nat.reduceBEq, Nat.reduceBNe, *, cEqDepS, cEqDep, Try.results23, unD_dL, dL_length, dL_get, dL_set, dL_inj, wfD_dL, scal2, beq2, pair_eta])))
      · exact (beq_eq_false_iff_ne.2 (ne_of_getD ‹_›)).symm
      · have hq := ‹xs.getD i (0, 0) = ys.getD i (0, 0)›
        refine loop_next (i + 1) ⟨by omega, by rw [take_succ_getD (by omega) (0, 0), take_succ_getD (by omega) (0, 0), ht, hq]⟩ (by dsimp only; omega) ?_
        (repeat' (first
      | (refine gate_intro (by first | omega | (simp only [maxLen]; omega) | simp_all | (simp_all [maxLen]; omega)) fun _ => ?_)
      | ((refine fork_intro (fun hb => ?_) (fun hb => ?_)) <;> (try simp only [decide_eq_true_eq, decide_eq_false_iff_not, iL_length, sL_length, Int.ofNat_lt, Int.ofNat_le, Bool.not_eq_true', Bool.not_eq_false', beq_iff_eq, bne_iff_ne, beq_eq_false_iff_ne, ne_eq, bne_eq_false_iff_eq, Decidable.not_not, Bool.and_eq_true, Bool.and_eq_false_imp, cEqDepS, cEqDep, Try.results23, unD_dL, dL_length, dL_get, dL_set, dL_inj, wfD_dL, scal2, beq2, pair_eta] at hb))
      | (simp only [go_sem, Nat.reduceLeDiff, Nat.reduceEqDiff, reduceIte, reduceCtorEq, Nat.reduceAdd, Nat.reduceMul, Nat.reduceSub, Nat.reduceLT, Int.reduceLT, Int.reduceLE, Int.reduceNeg, Int.reduceToNat, Nat.reduceBEq, Nat.reduceBNe, *, cEqDepS, cEqDep, Try.results23, unD_dL, dL_length, dL_get, dL_set, dL_inj, wfD_dL, scal2, beq2, pair_eta])))
      · have := eq_of_takes hlen (by omega) ht
        subst this; simp
end Go.Own
