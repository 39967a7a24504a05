import Derived.Test.YtcdkbpokannamaaDoorOwnC2
namespace Go.Own
open Go Go.Proofs
set_option linter.unusedSimpArgs false
set_option linter.unusedVariables false
set_option maxRecDepth 20000
set_option maxHeartbeats 2000000

/-! copies -/
theorem iL_allscal {xs : List Int} : (∀ e ∈ iL xs, ∀ x ∈ e, Scalar x) ↔ True := by
  refine ⟨fun _ => trivial, fun _ e he x hx => ?_⟩
  obtain ⟨n, _, rfl⟩ := List.mem_map.1 he
  simp at hx
  subst hx
  trivial

def cCopyI : Contract := ⟨[], false, fun
  | [.one (.sl 1 l)] => some (WfI l ∧ l.length ≤ 16777216, [⟨false, [.own 1 l 1]⟩], [])
  | _ => none⟩

theorem copyI_ok : ContractOK E0 52 cCopyI := by
  refine contract_of_wpc (E := E0) (T := mkT Tryd.prog [] false (fun _ => false) true (fun _ => false)) (mkT_ok (E := E0) .nil) (fn := Tryd.f52) Tryd.func52 (by kernel_rfl) rfl mixedT (by kernel_rfl) rfl ?_
  intro args p rs ms hr
  unfold cCopyI at hr
  dsimp only at hr
  split at hr
  rotate_left
  · cases hr
  rename_i l
  simp only [Option.some.injEq, Prod.mk.injEq] at hr
  obtain ⟨rfl, rfl, rfl⟩ := hr
  refine ⟨rfl, rfl, Nat.le_of_ble_eq_true rfl, ?_⟩
  have hm : maxLen = 9223372036854775807 := rfl
  rintro ⟨h1, h2⟩ bs
  obtain ⟨xs, rfl, hx⟩ := h1.ex
  clear h1
  rw [iL_length] at h2
  (repeat' (first
      | (refine gate_a fun _ => ?_)
      | (refine fork_intro (fun hb => ?_) (fun hb => ?_) <;> (try simp only [ew, iL_allscal] at hb))
      | (simp only [go_sem, Nat.reduceLeDiff, Nat.reduceEqDiff, reduceIte, reduceCtorEq, Nat.reduceAdd, Nat.reduceMul, Nat.reduceSub, Nat.reduceLT, Int.reduceLT, Int.reduceLE, Int.reduceNeg, Int.reduceToNat, Nat.reduceBEq, Nat.reduceBNe, Int.reduceGE, Int.reduceGT, *, cCopyI, Tryd.results52, iL_allscal])))

/-! SelectRows -/
def selL (rs : List (List Int)) (a : Nat) (v : Int) : List (List Int) := rs.filter fun r => r.getD a 0 == v
def selC (c : Int) (rs : List (List Int)) (a : Int) : Int := if colsOK c rs a a then c else 0
def selR (c : Int) (rs : List (List Int)) (a v : Int) : List (List Int) := if colsOK c rs a a then selL rs a.toNat v else []

def cSel : Contract := ⟨[], false, fun
  | [.agg [.v (.int .i64 c), .sl 1 l], .one (.v (.int .i64 a)), .one (.v (.int .i64 v))] => some (WfS l ∧ -9223372036854775808 ≤ c ∧ c ≤ 9223372036854775807,
      [⟨true, [.d (.v (.int .i64 (selC c (unS l) a))), .own 1 (sL (selR c (unS l) a v)) 1]⟩], [])
  | _ => none⟩

theorem selL_len {rs : List (List Int)} {a : Nat} {v : Int} : (selL rs a v).length ≤ rs.length := List.length_filter_le _ _
theorem selL_take {rs : List (List Int)} {a i : Nat} {v : Int} (h : i < rs.length) : selL (rs.take (i + 1)) a v = if (rs.getD i []).getD a 0 == v then selL (rs.take i) a v ++ [rs.getD i []] else selL (rs.take i) a v := by
  rw [take_succ_getD h []]
  simp only [selL, List.filter_append, List.filter_cons, List.filter_nil]
  split <;> simp_all
theorem sL_snoc {rs : List (List Int)} {r : List Int} : sL rs ++ [[D.sl 1 (iL r)]] = sL (rs ++ [r]) := by simp [sL]
theorem colsOK_aa {c : Int} {rs : List (List Int)} {a : Int} : colsOK c rs a a = (tabOK c rs && inB a 0 (c - 1)) := by
  unfold colsOK; rw [Bool.and_assoc, Bool.and_self]

theorem selI_ok : ContractOK E0 23 cSel := by
  refine contract_of_wpc (E := E0) (T := mkT Tryd.prog [(48, cIsTableS), (49, cHasCol), (52, cCopyI)] false (fun _ => false) true (fun _ => false)) (mkT_ok (E := E0) (.cons isTableI_ok (.cons hasCol_ok (.cons copyI_ok .nil)))) (fn := Tryd.f23) Tryd.func23 (by kernel_rfl) rfl mixedT (by kernel_rfl) rfl ?_
  intro args p rs ms hr
  unfold cSel at hr
  dsimp only at hr
  split at hr
  rotate_left
  · cases hr
  rename_i c l a v
  simp only [Option.some.injEq, Prod.mk.injEq] at hr
  obtain ⟨rfl, rfl, rfl⟩ := hr
  refine ⟨rfl, rfl, Nat.le_of_ble_eq_true rfl, ?_⟩
  have hm : maxLen = 9223372036854775807 := rfl
  rintro ⟨h1, hc1, hc2⟩ bs
  obtain ⟨rs, rfl, hx, hy⟩ := h1.ex
  clear h1
  rw [unS_sL]
  unfold selC selR
  rw [colsOK_aa]
  by_cases ht : tabOK c rs = true
  · by_cases hi : inB a 0 (c - 1) = true
    · rw [ht, hi]
      obtain ⟨a, c, rfl, rfl, ha, h40, hlen⟩ := col_facts ht hi
      have hc5 := (tab_c ht).2
      simp only [Int.toNat_natCast, Bool.and_self, if_true]
      (repeat' (first
      | (refine gate_a fun _ => ?_)
      | (refine fork_intro (fun hb => ?_) (fun hb => ?_) <;> (try simp only [ew, hasC_eq] at hb))
      | (simp only [go_sem, Nat.reduceLeDiff, Nat.reduceEqDiff, reduceIte, reduceCtorEq, Nat.reduceAdd, Nat.reduceMul, Nat.reduceSub, Nat.reduceLT, Int.reduceLT, Int.reduceLE, Int.reduceNeg, Int.reduceToNat, Nat.reduceBEq, Nat.reduceBNe, Int.reduceGE, Int.reduceGT, *, cSel, cIsTableS, cHasCol, cCopyI, Tryd.results23, hasC_eq])))
      refine loop_intro { ι := Nat, rs := [(9, 10), (27, 44)], mods := [(26, fun i => .one (.d (.v (.int .i64 i))))], boxes := [(6, fun _ => [.d (.v (.int .i64 0)), .d (.v (.slice none 0 0))]), (7, fun i => [.d (.v (.int .i64 c)), .own 1 (sL (selL (rs.take i) a v)) 1])], arrs := [], ok := fun i => i ≤ rs.length, mu := fun i => rs.length - i } rfl 0 (Nat.zero_le _) ?_ fun i hi => ?_
      · (repeat' (first
      | (refine gate_a fun _ => ?_)
      | (refine fork_intro (fun hb => ?_) (fun hb => ?_) <;> (try simp only [ew] at hb))
      | (simp only [go_sem, Nat.reduceLeDiff, Nat.reduceEqDiff, reduceIte, reduceCtorEq, Nat.reduceAdd, Nat.reduceMul, Nat.reduceSub, Nat.reduceLT, Int.reduceLT, Int.reduceLE, Int.reduceNeg, Int.reduceToNat, Nat.reduceBEq, Nat.reduceBNe, Int.reduceGE, Int.reduceGT, *, cSel, cIsTableS, cHasCol, cCopyI, Tryd.results23])))
        all_goals first | rfl | skip
      · dsimp only at i hi
        have hl1 := @selL_len (rs.take i) a v
        rw [List.length_take] at hl1
        have hr1 := fun h : i < rs.length => hlen i h
        (repeat' (first
      | (refine gate_a fun _ => ?_)
      | (refine fork_intro (fun hb => ?_) (fun hb => ?_) <;> (try simp only [ew, sL_snoc] at hb))
      | (simp only [go_sem, Nat.reduceLeDiff, Nat.reduceEqDiff, reduceIte, reduceCtorEq, Nat.reduceAdd, Nat.reduceMul, Nat.reduceSub, Nat.reduceLT, Int.reduceLT, Int.reduceLE, Int.reduceNeg, Int.reduceToNat, Nat.reduceBEq, Nat.reduceBNe, Int.reduceGE, Int.reduceGT, *, cSel, cIsTableS, cHasCol, cCopyI, Tryd.results23, sL_snoc])))
        · have hi' := ‹i < rs.length›
          have hb := ‹(rs.getD i []).getD a 0 = v›
          have e := selL_take (a := a) (v := v) hi'
          rw [if_pos (by rw [hb]; exact beq_self_eq_true v)] at e
          refine loop_next (i + 1) (by dsimp only; omega) (by dsimp only; omega) ?_
          clear hl1 hb
          (repeat' (first
      | (refine gate_a fun _ => ?_)
      | (refine fork_intro (fun hb => ?_) (fun hb => ?_) <;> (try simp only [ew, sL_snoc, e] at hb))
      | (simp only [go_sem, Nat.reduceLeDiff, Nat.reduceEqDiff, reduceIte, reduceCtorEq, Nat.reduceAdd, Nat.reduceMul, Nat.reduceSub, Nat.reduceLT, Int.reduceLT, Int.reduceLE, Int.reduceNeg, Int.reduceToNat, Nat.reduceBEq, Nat.reduceBNe, Int.reduceGE, Int.reduceGT, *, cSel, cIsTableS, cHasCol, cCopyI, Tryd.results23, sL_snoc, e])))
        · have hi' := ‹i < rs.length›
          have hb := ‹¬(rs.getD i []).getD a 0 = v›
          have e := selL_take (a := a) (v := v) hi'
          rw [if_neg (by rw [beq_iff_eq]; exact hb)] at e
          refine loop_next (i + 1) (by dsimp only; omega) (by dsimp only; omega) ?_
          clear hl1 hb
          (repeat' (first
      | (refine gate_a fun _ => ?_)
      | (refine fork_intro (fun hb => ?_) (fun hb => ?_) <;> (try simp only [ew, sL_snoc, e] at hb))
      | (simp only [go_sem, Nat.reduceLeDiff, Nat.reduceEqDiff, reduceIte, reduceCtorEq, Nat.reduceAdd, Nat.reduceMul, Nat.reduceSub, Nat.reduceLT, Int.reduceLT, Int.reduceLE, Int.reduceNeg, Int.reduceToNat, Nat.reduceBEq, Nat.reduceBNe, Int.reduceGE, Int.reduceGT, *, cSel, cIsTableS, cHasCol, cCopyI, Tryd.results23, sL_snoc, e])))
        · rw [List.take_of_length_le (by omega)]
    · rw [ht]
      (repeat' (first
      | (refine gate_a fun _ => ?_)
      | (refine fork_intro (fun hb => ?_) (fun hb => ?_) <;> (try simp only [ew, hasC_eq] at hb))
      | (simp only [go_sem, Nat.reduceLeDiff, Nat.reduceEqDiff, reduceIte, reduceCtorEq, Nat.reduceAdd, Nat.reduceMul, Nat.reduceSub, Nat.reduceLT, Int.reduceLT, Int.reduceLE, Int.reduceNeg, Int.reduceToNat, Nat.reduceBEq, Nat.reduceBNe, Int.reduceGE, Int.reduceGT, *, cSel, cIsTableS, cHasCol, cCopyI, Tryd.results23, hasC_eq])))
      all_goals first | rfl | simp_all [sL] | skip
  · (repeat' (first
      | (refine gate_a fun _ => ?_)
      | (refine fork_intro (fun hb => ?_) (fun hb => ?_) <;> (try simp only [ew] at hb))
      | (simp only [go_sem, Nat.reduceLeDiff, Nat.reduceEqDiff, reduceIte, reduceCtorEq, Nat.reduceAdd, Nat.reduceMul, Nat.reduceSub, Nat.reduceLT, Int.reduceLT, Int.reduceLE, Int.reduceNeg, Int.reduceToNat, Nat.reduceBEq, Nat.reduceBNe, Int.reduceGE, Int.reduceGT, *, cSel, cIsTableS, cHasCol, cCopyI, Tryd.results23])))
    all_goals first | rfl | simp_all [sL] | skip

theorem selS_ok : ContractOK E0 26 cSel := by
  refine contract_of_wpc (E := E0) (T := mkT Tryd.prog [(54, cL15)] false (fun _ => false) true (fun d => d == 35)) (mkT_ok (E := E0) (.cons l15_ok .nil)) (fn := Tryd.f26) Tryd.func26 (by kernel_rfl) rfl mixedT (by kernel_rfl) rfl ?_
  intro args p rs ms hr
  unfold cSel at hr
  dsimp only at hr
  split at hr
  rotate_left
  · cases hr
  rename_i c l a v
  simp only [Option.some.injEq, Prod.mk.injEq] at hr
  obtain ⟨rfl, rfl, rfl⟩ := hr
  refine ⟨rfl, rfl, Nat.le_of_ble_eq_true rfl, ?_⟩
  have hm : maxLen = 9223372036854775807 := rfl
  rintro ⟨h1, hc1, hc2⟩ bs
  obtain ⟨rs, rfl, hx, hy⟩ := h1.ex
  clear h1
  rw [unS_sL]
  unfold selC selR
  cases hcols : colsOK c rs a a
  · (repeat' (first
      | (refine gate_a fun _ => ?_)
      | (refine fork_intro (fun hb => ?_) (fun hb => ?_) <;> (try simp only [ew] at hb))
      | (simp only [go_sem, Nat.reduceLeDiff, Nat.reduceEqDiff, reduceIte, reduceCtorEq, Nat.reduceAdd, Nat.reduceMul, Nat.reduceSub, Nat.reduceLT, Int.reduceLT, Int.reduceLE, Int.reduceNeg, Int.reduceToNat, Nat.reduceBEq, Nat.reduceBNe, Int.reduceGE, Int.reduceGT, *, cSel, cL15, Tryd.results26])))
    all_goals first | rfl | simp_all [sL] | skip
  · have hcols' := hcols
    rw [colsOK_aa, Bool.and_eq_true] at hcols'
    obtain ⟨ht, hi⟩ := hcols'
    obtain ⟨a, c, rfl, rfl, ha, h40, hlen⟩ := col_facts ht hi
    have hc5 := (tab_c ht).2
    simp only [Int.toNat_natCast, if_true]
    (repeat' (first
      | (refine gate_a fun _ => ?_)
      | (refine fork_intro (fun hb => ?_) (fun hb => ?_) <;> (try simp only [ew] at hb))
      | (simp only [go_sem, Nat.reduceLeDiff, Nat.reduceEqDiff, reduceIte, reduceCtorEq, Nat.reduceAdd, Nat.reduceMul, Nat.reduceSub, Nat.reduceLT, Int.reduceLT, Int.reduceLE, Int.reduceNeg, Int.reduceToNat, Nat.reduceBEq, Nat.reduceBNe, Int.reduceGE, Int.reduceGT, *, cSel, cL15, Tryd.results26])))
    refine loop_intro { ι := Nat, rs := [(18, 47)], mods := [(8, fun i => .one (.d (.v (.int .i64 i))))], boxes := [(3, fun _ => [.d (.v (.int .i64 c)), .d (.sl 1 (sL rs))]), (6, fun _ => [.d (.v (.int .i64 0)), .d (.v (.slice none 0 0))]), (7, fun i => [.d (.v (.int .i64 c)), .own 1 (sL (selL (rs.take i) a v)) 1])], arrs := [], ok := fun i => i ≤ rs.length, mu := fun i => rs.length - i } rfl 0 (Nat.zero_le _) ?_ fun i hi => ?_
    · (repeat' (first
      | (refine gate_a fun _ => ?_)
      | (refine fork_intro (fun hb => ?_) (fun hb => ?_) <;> (try simp only [ew] at hb))
      | (simp only [go_sem, Nat.reduceLeDiff, Nat.reduceEqDiff, reduceIte, reduceCtorEq, Nat.reduceAdd, Nat.reduceMul, Nat.reduceSub, Nat.reduceLT, Int.reduceLT, Int.reduceLE, Int.reduceNeg, Int.reduceToNat, Nat.reduceBEq, Nat.reduceBNe, Int.reduceGE, Int.reduceGT, *, cSel, cL15, Tryd.results26])))
      all_goals first | rfl | skip
    · dsimp only at i hi
      have hl1 := @selL_len (rs.take i) a v
      rw [List.length_take] at hl1
      have hr1 := fun h : i < rs.length => hlen i h
      (repeat' (first
      | (refine gate_a fun _ => ?_)
      | (refine fork_intro (fun hb => ?_) (fun hb => ?_) <;> (try simp only [ew, sL_snoc, iL_allscal] at hb))
      | (simp only [go_sem, Nat.reduceLeDiff, Nat.reduceEqDiff, reduceIte, reduceCtorEq, Nat.reduceAdd, Nat.reduceMul, Nat.reduceSub, Nat.reduceLT, Int.reduceLT, Int.reduceLE, Int.reduceNeg, Int.reduceToNat, Nat.reduceBEq, Nat.reduceBNe, Int.reduceGE, Int.reduceGT, *, cSel, cL15, Tryd.results26, sL_snoc, iL_allscal])))
      · have hi' := ‹i < rs.length›
        have hb := ‹(rs.getD i []).getD a 0 = v›
        have e := selL_take (a := a) (v := v) hi'
        rw [if_pos (by rw [hb]; exact beq_self_eq_true v)] at e
        refine loop_next (i + 1) (by dsimp only; omega) (by dsimp only; omega) ?_
        clear hl1 hb
        (repeat' (first
      | (refine gate_a fun _ => ?_)
      | (refine fork_intro (fun hb => ?_) (fun hb => ?_) <;> (try simp only [ew, sL_snoc, e] at hb))
      | (simp only [go_sem, Nat.reduceLeDiff, Nat.reduceEqDiff, reduceIte, reduceCtorEq, Nat.reduceAdd, Nat.reduceMul, Nat.reduceSub, Nat.reduceLT, Int.reduceLT, Int.reduceLE, Int.reduceNeg, Int.reduceToNat, Nat.reduceBEq, Nat.reduceBNe, Int.reduceGE, Int.reduceGT, *, cSel, cL15, Tryd.results26, sL_snoc, e])))
      · have hi' := ‹i < rs.length›
        have hb := ‹¬(rs.getD i []).getD a 0 = v›
        have e := selL_take (a := a) (v := v) hi'
        rw [if_neg (by rw [beq_iff_eq]; exact hb)] at e
        refine loop_next (i + 1) (by dsimp only; omega) (by dsimp only; omega) ?_
        clear hl1 hb
        (repeat' (first
      | (refine gate_a fun _ => ?_)
      | (refine fork_intro (fun hb => ?_) (fun hb => ?_) <;> (try simp only [ew, sL_snoc, e] at hb))
      | (simp only [go_sem, Nat.reduceLeDiff, Nat.reduceEqDiff, reduceIte, reduceCtorEq, Nat.reduceAdd, Nat.reduceMul, Nat.reduceSub, Nat.reduceLT, Int.reduceLT, Int.reduceLE, Int.reduceNeg, Int.reduceToNat, Nat.reduceBEq, Nat.reduceBNe, Int.reduceGE, Int.reduceGT, *, cSel, cL15, Tryd.results26, sL_snoc, e])))
      · rw [List.take_of_length_le (by omega)]
end Go.Own
