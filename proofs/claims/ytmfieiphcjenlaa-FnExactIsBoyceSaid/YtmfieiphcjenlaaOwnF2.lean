import Derived.Test.YtmfieiphcjenlaaOwnY1
namespace Go.Own
open Go Go.Proofs
set_option linter.unusedSimpArgs false
set_option linter.unusedVariables false
set_option maxRecDepth 20000
set_option maxHeartbeats 2000000

attribute [local go_sem] unD_dL dL_length dL_get dL_set dL_inj wfD_dL scal2 beq2 pair_eta

def csOut (n : Int) (ds : List (Int × Int)) (rs : List (List Int)) : List (List Int) := (csStep n ds rs).getD rs
def cStep : Contract := ⟨[], false, fun
  | [.one (.v (.int .i64 n)), .one (.sl 2 l), .one (.sl 1 t)] => some (WfD l ∧ WfS t ∧ (t.length ≤ 16777216 ∧ ∀ r ∈ unS t, r.length ≤ 16777216) ∧ -9223372036854775808 ≤ n ∧ n ≤ 9223372036854775807,
      [⟨false, [.own 1 (sL (csOut n (unD l) (unS t))) 1]⟩, ⟨false, [.d (.v (.bool (csStep n (unD l) (unS t)).isSome))]⟩], [])
  | _ => none⟩

theorem rows_facts {n : Int} {ds : List (Int × Int)} {rs : List (List Int)} (h : (depsOK n ds && rowsOK n rs) = true) : ∃ c : Nat, n = c ∧ 1 ≤ c ∧ c ≤ 5 ∧ rs.length ≤ 40 ∧ ds.length ≤ 20 ∧ (∀ r ∈ rs, r.length = c) ∧
    (∀ i, i < rs.length → (rs.getD i []).length = c) ∧ (∀ i, i < ds.length → askOK n rs 0 (ds.getD i (0, 0)).1 (ds.getD i (0, 0)).2 = true ∧ 0 ≤ (ds.getD i (0, 0)).2 ∧ (ds.getD i (0, 0)).2 < n) := by
  simp only [Bool.and_eq_true] at h
  obtain ⟨h1, h2⟩ := h
  simp only [depsOK, rowsOK, Bool.and_eq_true, inB_iff, decide_eq_true_eq, List.all_eq_true] at h1 h2
  obtain ⟨h1, ⟨h3, h4⟩, h5⟩ := h1
  obtain ⟨h6, h7⟩ := h2
  obtain ⟨c, rfl⟩ := Int.eq_ofNat_of_zero_le (show 0 ≤ n by omega)
  have hr : ∀ r ∈ rs, rowOK r c = true := fun r hr => by
    have := h6 r hr
    simp only [rowG, Bool.and_eq_true] at this
    exact this.1
  have ht : tabOK c rs = true := by
    simp only [tabOK, Bool.and_eq_true, inB_iff, decide_eq_true_eq, List.all_eq_true]
    exact ⟨hr, ⟨h3, h4⟩, h7⟩
  have hl : ∀ r ∈ rs, r.length = c := fun r h => by
    have := hr r h
    simp only [rowOK, Bool.and_eq_true, decide_eq_true_eq] at this
    omega
  refine ⟨c, rfl, by omega, by omega, by omega, by omega, hl, fun i hi => hl _ (getD_mem hi []), fun i hi => ?_⟩
  have hd := h1 _ (getD_mem hi (0, 0))
  refine ⟨?_, ?_⟩
  · simp only [askOK, Bool.and_eq_true]
    exact ⟨⟨ht, rfl⟩, hd⟩
  · simp only [depOK, Bool.and_eq_true, inB_iff] at hd
    omega

/-- What a witness is. -/
theorem dpK_lt {rs : List (List Int)} {c : Nat} {m l r : Int} {i : Nat} : ∀ {n k q : Nat}, dpK rs c m l r i k n = some q → k ≤ q ∧ q < k + n
  | 0, k, q, h => by simp [dpK] at h
  | n + 1, k, q, h => by
    rw [dpK] at h
    split at h
    · simp at h; omega
    · have := dpK_lt h; omega
theorem dpI_lt {rs : List (List Int)} {c : Nat} {m l r : Int} : ∀ {n i a b : Nat}, dpI rs c m l r i n = some (a, b) → a < i + n ∧ b < rs.length
  | 0, i, a, b, h => by simp [dpI] at h
  | n + 1, i, a, b, h => by
    rw [dpI] at h
    split at h
    · rename_i k hk
      have := dpK_lt hk
      simp at h; omega
    · have := dpI_lt h; omega
theorem wtO_lt {n : Int} {rs : List (List Int)} {m l r : Int} {a b : Nat} (h : wtO n rs m l r = some (a, b)) : a < rs.length ∧ b < rs.length := by
  have := dpI_lt h; omega

theorem chStepS_ok : ContractOK E0 11 cStep := by
  refine contract_of_wpc (E := E0) (T := mkT Try.prog [(41, cAreDeps), (42, cAreRows), (43, cPair), (44, cEquate)] false (fun _ => false) true (fun _ => false)) (mkT_ok (E := E0) (.cons areDepsS_ok (.cons areRowsS_ok (.cons pair_ok (.cons equate_ok .nil))))) (fn := Try.f11) Try.func11 (by kernel_rfl) rfl mixedT (by kernel_rfl) rfl ?_
  intro args p rs ms hr
  unfold cStep at hr
  dsimp only at hr
  split at hr
  rotate_left
  · cases hr
  rename_i n l t
  simp only [Option.some.injEq, Prod.mk.injEq] at hr
  obtain ⟨rfl, rfl, rfl⟩ := hr
  refine ⟨rfl, rfl, Nat.le_of_ble_eq_true rfl, ?_⟩
  have hm : maxLen = 9223372036854775807 := rfl
  rintro ⟨h1, h2, ⟨h3, h3'⟩, hn1, hn2⟩ bs
  obtain ⟨ds, rfl, hx⟩ := h1.ex
  obtain ⟨rs, rfl, hy, hy'⟩ := h2.ex
  clear h1 h2
  rw [unS_sL] at h3' ⊢
  rw [sL_length] at h3
  rw [unD_dL]
  (repeat' (first
      | (refine gate_a fun _ => ?_)
      | (refine fork_intro (fun hb => ?_) (fun hb => ?_) <;> (try simp only [ew] at hb))
      | (simp only [go_sem, Nat.reduceLeDiff, Nat.reduceEqDiff, reduceIte, reduceCtorEq, Nat.reduceAdd, Nat.reduceMul, Nat.reduceSub, Nat.reduceLT, Int.reduceLT, Int.reduceLE, Int.reduceNeg, Int.reduceToNat, Nat.reduceBEq, Nat.reduceBNe, Int.reduceGE, Int.reduceGT, *, cStep, cAreDeps, cAreRows, cPair, cEquate, Try.results11])))
  refine loop_intro { ι := Nat, rs := [(16, 31)], mods := [(9, fun i => .one (.d (.v (.int .i64 i)))), (8, fun i => .one (.own 1 (sL (rs.take i)) 1))], boxes := [], arrs := [], ok := fun i => i ≤ rs.length, mu := fun i => rs.length - i } rfl 0 (Nat.zero_le _) ?_ fun i hi => ?_
  · (repeat' (first
      | (refine gate_a fun _ => ?_)
      | (refine fork_intro (fun hb => ?_) (fun hb => ?_) <;> (try simp only [ew] at hb))
      | (simp only [go_sem, Nat.reduceLeDiff, Nat.reduceEqDiff, reduceIte, reduceCtorEq, Nat.reduceAdd, Nat.reduceMul, Nat.reduceSub, Nat.reduceLT, Int.reduceLT, Int.reduceLE, Int.reduceNeg, Int.reduceToNat, Nat.reduceBEq, Nat.reduceBNe, Int.reduceGE, Int.reduceGT, *, cStep, cAreDeps, cAreRows, cPair, cEquate, Try.results11])))
    all_goals first | rfl | skip
  · dsimp only at i hi
    have q1 := all_getD hy' i
    have q2 := all_getD h3' i
    by_cases h5 : i < rs.length
    · have e := take_succ_getD h5 []
      (repeat' (first
      | (refine gate_a fun _ => ?_)
      | (refine fork_intro (fun hb => ?_) (fun hb => ?_) <;> (try simp only [ew, sL_snoc, iL_allscal] at hb))
      | (simp only [go_sem, Nat.reduceLeDiff, Nat.reduceEqDiff, reduceIte, reduceCtorEq, Nat.reduceAdd, Nat.reduceMul, Nat.reduceSub, Nat.reduceLT, Int.reduceLT, Int.reduceLE, Int.reduceNeg, Int.reduceToNat, Nat.reduceBEq, Nat.reduceBNe, Int.reduceGE, Int.reduceGT, *, cStep, cAreDeps, cAreRows, cPair, cEquate, Try.results11, sL_snoc, iL_allscal])))
      refine loop_next (i + 1) (by dsimp only; omega) (by dsimp only; omega) ?_
      (repeat' (first
      | (refine gate_a fun _ => ?_)
      | (refine fork_intro (fun hb => ?_) (fun hb => ?_) <;> (try simp only [ew, sL_snoc, e] at hb))
      | (simp only [go_sem, Nat.reduceLeDiff, Nat.reduceEqDiff, reduceIte, reduceCtorEq, Nat.reduceAdd, Nat.reduceMul, Nat.reduceSub, Nat.reduceLT, Int.reduceLT, Int.reduceLE, Int.reduceNeg, Int.reduceToNat, Nat.reduceBEq, Nat.reduceBNe, Int.reduceGE, Int.reduceGT, *, cStep, cAreDeps, cAreRows, cPair, cEquate, Try.results11, sL_snoc, e])))
    · have e5 : i = rs.length := by omega
      subst e5
      clear q1 q2
      cases hv : (depsOK n ds && rowsOK n rs)
      · have e1 : csStep n ds rs = none := by unfold csStep; rw [hv]; rfl
        have e2 : csOut n ds rs = rs := by unfold csOut; rw [e1]; rfl
        have e3 : (!depsOK n ds || !rowsOK n rs) = true := by rw [← Bool.not_and, hv]; rfl
        rw [e1, e2]
        clear e1 e2 hv
        (repeat' (first
      | (refine gate_a fun _ => ?_)
      | (refine fork_intro (fun hb => ?_) (fun hb => ?_) <;> (try simp only [ew, e3, List.take_length] at hb))
      | (simp only [go_sem, Nat.reduceLeDiff, Nat.reduceEqDiff, reduceIte, reduceCtorEq, Nat.reduceAdd, Nat.reduceMul, Nat.reduceSub, Nat.reduceLT, Int.reduceLT, Int.reduceLE, Int.reduceNeg, Int.reduceToNat, Nat.reduceBEq, Nat.reduceBNe, Int.reduceGE, Int.reduceGT, *, cStep, cAreDeps, cAreRows, cPair, cEquate, Try.results11, e3, List.take_length])))
        all_goals first | rfl | exact ⟨rfl, rfl⟩ | skip
      · have e3 : (!depsOK n ds || !rowsOK n rs) = false := by rw [← Bool.not_and, hv]; rfl
        obtain ⟨c, rfl, c1, c5, r40, d20, hl, hl2, hd⟩ := rows_facts hv
        have e1 : csStep c ds rs = csFind c rs ds := by unfold csStep; rw [hv]; rfl
        have e2 : csOut c ds rs = (csFind c rs ds).getD rs := by unfold csOut; rw [e1]
        rw [e1, e2]
        clear e1 e2 hv
        (repeat' (first
      | (refine gate_a fun _ => ?_)
      | (refine fork_intro (fun hb => ?_) (fun hb => ?_) <;> (try simp only [ew, e3, List.take_length] at hb))
      | (simp only [go_sem, Nat.reduceLeDiff, Nat.reduceEqDiff, reduceIte, reduceCtorEq, Nat.reduceAdd, Nat.reduceMul, Nat.reduceSub, Nat.reduceLT, Int.reduceLT, Int.reduceLE, Int.reduceNeg, Int.reduceToNat, Nat.reduceBEq, Nat.reduceBNe, Int.reduceGE, Int.reduceGT, *, cStep, cAreDeps, cAreRows, cPair, cEquate, Try.results11, e3, List.take_length])))
        clear e3
        generalize hF : csFind c rs ds = F
        refine loop_intro { ι := Nat, rs := [(6, 8), (12, 15), (45, 84)], mods := [(11, fun i => .one (.d (.v (.int .i64 i))))], boxes := [(10, fun _ => [.d (.v (.int .i64 c)), .d (.sl 1 (sL rs))])], arrs := [(8, fun _ => (1, sL rs, 1))], ok := fun i => i ≤ ds.length ∧ csFind c rs (ds.drop i) = F, mu := fun i => ds.length - i } rfl 0 ⟨Nat.zero_le _, hF⟩ ?_ fun i hi => ?_
        · (repeat' (first
      | (refine gate_a fun _ => ?_)
      | (refine fork_intro (fun hb => ?_) (fun hb => ?_) <;> (try simp only [ew] at hb))
      | (simp only [go_sem, Nat.reduceLeDiff, Nat.reduceEqDiff, reduceIte, reduceCtorEq, Nat.reduceAdd, Nat.reduceMul, Nat.reduceSub, Nat.reduceLT, Int.reduceLT, Int.reduceLE, Int.reduceNeg, Int.reduceToNat, Nat.reduceBEq, Nat.reduceBNe, Int.reduceGE, Int.reduceGT, *, cStep, cAreDeps, cAreRows, cPair, cEquate, Try.results11])))
        · dsimp only at i hi
          obtain ⟨hi, ht⟩ := hi
          by_cases h5 : i < ds.length
          · rw [drop_getD h5 (0, 0), csFind] at ht
            obtain ⟨hd1, hd2, hd3⟩ := hd i h5
            cases hq : ds.getD i (0, 0) with
            | mk dl dr =>
              rw [hq] at ht hd1 hd2 hd3
              dsimp only at ht hd1 hd2 hd3
              obtain ⟨dr, rfl⟩ := Int.eq_ofNat_of_zero_le hd2
              have hd3' : dr < c := by omega
              have hw := fun a b => @wtO_lt c rs 0 dl dr a b
              cases hw2 : wtO c rs 0 dl dr with
              | none =>
                rw [hw2] at ht
                clear hw
                have e0 : (prI none).1 = -1 := rfl
                (repeat' (first
      | (refine gate_a fun _ => ?_)
      | (refine fork_intro (fun hb => ?_) (fun hb => ?_) <;> (try simp only [ew, hq, hd1, hw2, e0, Int.reduceGE] at hb))
      | (simp only [go_sem, Nat.reduceLeDiff, Nat.reduceEqDiff, reduceIte, reduceCtorEq, Nat.reduceAdd, Nat.reduceMul, Nat.reduceSub, Nat.reduceLT, Int.reduceLT, Int.reduceLE, Int.reduceNeg, Int.reduceToNat, Nat.reduceBEq, Nat.reduceBNe, Int.reduceGE, Int.reduceGT, *, cStep, cAreDeps, cAreRows, cPair, cEquate, Try.results11, hq, hd1, hw2, e0, Int.reduceGE])))
                refine loop_next (i + 1) ⟨by omega, ht⟩ (by dsimp only; omega) ?_
                clear ht hF
                (repeat' (first
      | (refine gate_a fun _ => ?_)
      | (refine fork_intro (fun hb => ?_) (fun hb => ?_) <;> (try simp only [ew, hq] at hb))
      | (simp only [go_sem, Nat.reduceLeDiff, Nat.reduceEqDiff, reduceIte, reduceCtorEq, Nat.reduceAdd, Nat.reduceMul, Nat.reduceSub, Nat.reduceLT, Int.reduceLT, Int.reduceLE, Int.reduceNeg, Int.reduceToNat, Nat.reduceBEq, Nat.reduceBNe, Int.reduceGE, Int.reduceGT, *, cStep, cAreDeps, cAreRows, cPair, cEquate, Try.results11, hq])))
              | some ab =>
                obtain ⟨a, b⟩ := ab
                rw [hw2] at ht
                obtain ⟨ha, hb⟩ := hw a b hw2
                have la := hl2 a ha
                have lb := hl2 b hb
                have hall : ∀ r ∈ rs, (dr : Int) < r.length := fun r hr => by rw [hl r hr]; exact hd3
                subst ht
                rw [Int.toNat_natCast]
                have e0 : (prI (some (a, b))).1 = a := rfl
                have e0' : (prI (some (a, b))).2 = b := rfl
                clear hw hF hl hd
                (repeat' (first
      | (refine gate_a fun _ => ?_)
      | (refine fork_intro (fun hb => ?_) (fun hb => ?_) <;> (try simp only [ew, hq, hd1, hw2, e0, e0', eqtR, Int.reduceGE] at hb))
      | (simp only [go_sem, Nat.reduceLeDiff, Nat.reduceEqDiff, reduceIte, reduceCtorEq, Nat.reduceAdd, Nat.reduceMul, Nat.reduceSub, Nat.reduceLT, Int.reduceLT, Int.reduceLE, Int.reduceNeg, Int.reduceToNat, Nat.reduceBEq, Nat.reduceBNe, Int.reduceGE, Int.reduceGT, *, cStep, cAreDeps, cAreRows, cPair, cEquate, Try.results11, hq, hd1, hw2, e0, e0', eqtR, Int.reduceGE])))
                all_goals first | rfl | exact ⟨rfl, rfl⟩ | skip
          · have e5 : i = ds.length := by omega
            subst e5
            rw [List.drop_length, csFind] at ht
            subst ht
            (repeat' (first
      | (refine gate_a fun _ => ?_)
      | (refine fork_intro (fun hb => ?_) (fun hb => ?_) <;> (try simp only [ew] at hb))
      | (simp only [go_sem, Nat.reduceLeDiff, Nat.reduceEqDiff, reduceIte, reduceCtorEq, Nat.reduceAdd, Nat.reduceMul, Nat.reduceSub, Nat.reduceLT, Int.reduceLT, Int.reduceLE, Int.reduceNeg, Int.reduceToNat, Nat.reduceBEq, Nat.reduceBNe, Int.reduceGE, Int.reduceGT, *, cStep, cAreDeps, cAreRows, cPair, cEquate, Try.results11])))
            all_goals first | rfl | exact ⟨rfl, rfl⟩ | skip
end Go.Own
