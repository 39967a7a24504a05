import Derived.Test.YtnjijpgnfjghfaaGreatOwnI5
import Derived.Test.YtnjijpgnfjghfaaGreatOwnH9
import Derived.Test.YtnjijpgnfjghfaaGreatOwnH10
namespace Go.Own
open Go Go.Proofs
set_option linter.unusedSimpArgs false
set_option linter.unusedVariables false
set_option maxRecDepth 20000
set_option maxHeartbeats 2000000

attribute [local go_sem] unD_dL dL_length dL_get dL_set dL_inj wfD_dL scal2 beq2 pair_eta dL_scal

/-! Copies of monitors. -/
def cCopyM : Contract := ⟨[], false, fun
  | [.agg [.v (.int .i64 c), .sl 1 l, .v (.int .i64 m), .sl 2 q]] => some (WfS l ∧ (l.length ≤ 16777216 ∧ ∀ r ∈ unS l, r.length ≤ 16777216) ∧ WfD q ∧ q.length ≤ 16777216, [⟨true, [.d (.v (.int .i64 c)), .own 1 l 1, .d (.v (.int .i64 m)), .own 2 q 1]⟩], [])
  | _ => none⟩
theorem copyMI_ok : ContractOK E0 33 cCopyM := by
  refine contract_of_wpc (E := E0) (T := mkT Tryz.prog [(73, cCopyT), (74, cCopyD)] false (fun _ => false) true (fun _ => false)) (mkT_ok (E := E0) (.cons copyTI_ok (.cons copyD_ok .nil))) (fn := Tryz.f33) Tryz.func33 (by kernel_rfl) rfl mixedT (by kernel_rfl) rfl ?_
  intro args p rs ms hr
  unfold cCopyM at hr
  dsimp only at hr
  split at hr
  rotate_left
  · cases hr
  rename_i c l m q
  simp only [Option.some.injEq, Prod.mk.injEq] at hr
  obtain ⟨rfl, rfl, rfl⟩ := hr
  refine ⟨rfl, rfl, Nat.le_of_ble_eq_true rfl, ?_⟩
  have hm : maxLen = 9223372036854775807 := rfl
  rintro ⟨h1, ⟨h2, h2'⟩, h3, h3'⟩ bs
  obtain ⟨rs, rfl, hx, hy⟩ := h1.ex
  obtain ⟨ds, rfl, hd⟩ := h3.ex
  clear h1 h3
  rw [unS_sL] at h2'
  rw [sL_length] at h2
  rw [dL_length] at h3'
  (repeat' (first
      | (refine gate_a fun _ => ?_)
      | (refine fork_intro (fun hb => ?_) (fun hb => ?_) <;> (try simp only [ew] at hb))
      | (simp only [go_sem, Nat.reduceLeDiff, Nat.reduceEqDiff, reduceIte, reduceCtorEq, Nat.reduceAdd, Nat.reduceMul, Nat.reduceSub, Nat.reduceLT, Int.reduceLT, Int.reduceLE, Int.reduceNeg, Int.reduceToNat, Nat.reduceBEq, Nat.reduceBNe, Int.reduceGE, Int.reduceGT, *, cCopyM, cCopyT, cCopyD, Tryz.results33])))
  all_goals first | rfl | skip
theorem copyMS_ok : ContractOK E0 27 cCopyM := by
  refine contract_of_wpc (E := E0) (T := mkT Tryz.prog [(63, cCopyT)] false (fun _ => false) true (fun d => d == 3 || d == 6 || d == 9)) (mkT_ok (E := E0) (.cons copyTS_ok .nil)) (fn := Tryz.f27) Tryz.func27 (by kernel_rfl) rfl mixedT (by kernel_rfl) rfl ?_
  intro args p rs ms hr
  unfold cCopyM at hr
  dsimp only at hr
  split at hr
  rotate_left
  · cases hr
  rename_i c l m q
  simp only [Option.some.injEq, Prod.mk.injEq] at hr
  obtain ⟨rfl, rfl, rfl⟩ := hr
  refine ⟨rfl, rfl, Nat.le_of_ble_eq_true rfl, ?_⟩
  have hm : maxLen = 9223372036854775807 := rfl
  rintro ⟨h1, ⟨h2, h2'⟩, h3, h3'⟩ bs
  obtain ⟨rs, rfl, hx, hy⟩ := h1.ex
  obtain ⟨ds, rfl, hd⟩ := h3.ex
  clear h1 h3
  rw [unS_sL] at h2'
  rw [sL_length] at h2
  rw [dL_length] at h3'
  (repeat' (first
      | (refine gate_a fun _ => ?_)
      | (refine fork_intro (fun hb => ?_) (fun hb => ?_) <;> (try simp only [ew] at hb))
      | (simp only [go_sem, Nat.reduceLeDiff, Nat.reduceEqDiff, reduceIte, reduceCtorEq, Nat.reduceAdd, Nat.reduceMul, Nat.reduceSub, Nat.reduceLT, Int.reduceLT, Int.reduceLE, Int.reduceNeg, Int.reduceToNat, Nat.reduceBEq, Nat.reduceBNe, Int.reduceGE, Int.reduceGT, *, cCopyM, cCopyT, Tryz.results27])))
  all_goals first | rfl | skip

/-! InsertRow. -/
theorem eqc_comm {m a b : Int} : eqc m a b = eqc m b a := by
  unfold eqc
  by_cases h : a = b
  · subst h; rfl
  · rw [beq_eq_false_iff_ne.2 h, beq_eq_false_iff_ne.2 (Ne.symm h)]; simp
theorem agL_comm {m : Int} {a b : List Int} : ∀ {n : Nat}, agL m a b n = agL m b a n
  | 0 => rfl
  | n + 1 => by rw [agL, agL, @agL_comm m a b n, eqc_comm]
/-- The cover behind a new row. -/
def insC (c m : Int) (row : List Int) (rs : List (List Int)) (q : List (Int × Int)) : List (Int × Int) := rs.foldl (fun q r => spcF c (agL m row r c.toNat) q) q
theorem insC_take {c m : Int} {row : List Int} {rs : List (List Int)} {q : List (Int × Int)} {i : Nat} (h : i < rs.length) : insC c m row (rs.take (i + 1)) q = spcF c (agL m row (rs.getD i []) c.toNat) (insC c m row (rs.take i) q) := by
  unfold insC
  rw [take_succ_getD h [], List.foldl_append]; rfl
theorem spcF_small {n ag : Int} {ds : List (Int × Int)} (h : ds.length ≤ 160) : (spcF n ag ds).length ≤ 160 := by
  rw [spc_eq]
  unfold spcS
  split
  · rename_i hv
    unfold spcV at hv
    rw [Bool.and_eq_true] at hv
    have h5 := (isAttr_le hv.2).2.1
    have := @s17_len (lowL (keptD n ag ds) (keptD n ag ds).length) (pbsI n) (@pbsI_facts n).1 n.toNat
    omega
  · exact h
theorem insC_small {c m : Int} {row : List Int} : ∀ {rs : List (List Int)} {q : List (Int × Int)}, q.length ≤ 160 → (insC c m row rs q).length ≤ 160
  | [], q, h => h
  | r :: rs, q, h => @insC_small c m row rs _ (spcF_small h)
def insV (c : Int) (rs : List (List Int)) (m : Int) (ds : List (Int × Int)) (row : List Int) : Bool := isM c rs m ds && rowOK row c && decide (rs.length < 40)
def insR (c : Int) (rs : List (List Int)) (m : Int) (ds : List (Int × Int)) (row : List Int) : List (List Int) := if insV c rs m ds row then rs ++ [row] else rs
def insD (c : Int) (rs : List (List Int)) (m : Int) (ds : List (Int × Int)) (row : List Int) : List (Int × Int) := if insV c rs m ds row then insC c m row rs ds else ds
def cIns : Contract := ⟨[], false, fun
  | [.agg [.v (.int .i64 c), .sl 1 l, .v (.int .i64 m), .sl 2 q], .one (.sl 1 r)] => some (WfS l ∧ (l.length ≤ 16777216 ∧ ∀ r ∈ unS l, r.length ≤ 16777216) ∧ WfD q ∧ q.length ≤ 16777216 ∧ WfI r ∧ -9223372036854775808 ≤ c ∧ c ≤ 9223372036854775807,
      [⟨true, [.d (.v (.int .i64 c)), .own 1 (sL (insR c (unS l) m (unD q) (unI r))) 1, .d (.v (.int .i64 m)), .own 2 (dL (insD c (unS l) m (unD q) (unI r))) 1]⟩, ⟨false, [.d (.v (.bool (insV c (unS l) m (unD q) (unI r))))]⟩], [])
  | _ => none⟩
theorem isM_facts {c : Int} {rs : List (List Int)} {m : Int} {ds : List (Int × Int)} (h : isM c rs m ds = true) : tabOK c rs = true ∧ modeOK m = true ∧ ds = mdL c rs m := by
  unfold isM at h
  simp only [Bool.and_eq_true, beq_iff_eq] at h
  exact ⟨h.1.1, h.1.2, h.2⟩
theorem tab_snoc {c : Int} {rs : List (List Int)} {row : List Int} (h : tabOK c rs = true) (hr : rowOK row c = true) (hl : rs.length < 40) : tabOK c (rs ++ [row]) = true := by
  unfold tabOK at *
  simp only [Bool.and_eq_true, decide_eq_true_eq, List.all_append, List.length_append] at *
  refine ⟨⟨h.1, by simp [hr]⟩, h.2.1, ?_⟩
  simp only [List.length_singleton]
  omega
theorem rowOK_len {row : List Int} {c : Int} (h : rowOK row c = true) : (row.length : Int) = c := by
  unfold rowOK at h
  simp only [Bool.and_eq_true, decide_eq_true_eq] at h
  exact h.2
theorem insI_ok : ContractOK E0 11 cIns := by
  refine contract_of_wpc (E := E0) (T := mkT Tryz.prog [(33, cCopyM), (34, cIsM), (35, cL3Row), (37, cAgree), (36, cSpc), (38, cCopyI)] false (fun _ => false) true (fun _ => false)) (mkT_ok (E := E0) (.cons copyMI_ok (.cons isMI_ok (.cons isRow_ok (.cons agree_ok (.cons spcI_ok (.cons copyI_ok .nil))))))) (fn := Tryz.f11) Tryz.func11 (by kernel_rfl) rfl mixedT (by kernel_rfl) rfl ?_
  intro args p rs ms hr
  unfold cIns at hr
  dsimp only at hr
  split at hr
  rotate_left
  · cases hr
  rename_i c l m q r
  simp only [Option.some.injEq, Prod.mk.injEq] at hr
  obtain ⟨rfl, rfl, rfl⟩ := hr
  refine ⟨rfl, rfl, Nat.le_of_ble_eq_true rfl, ?_⟩
  have hm : maxLen = 9223372036854775807 := rfl
  rintro ⟨h1, ⟨h2, h2'⟩, h3, h3', h4, hc1, hc2⟩ bs
  obtain ⟨rs, rfl, hx, hy⟩ := h1.ex
  obtain ⟨ds, rfl, hd⟩ := h3.ex
  obtain ⟨row, rfl, hr⟩ := h4.ex
  clear h1 h3 h4
  rw [unS_sL] at h2' ⊢
  rw [unD_dL, unI_iL]
  rw [sL_length] at h2
  rw [dL_length] at h3'
  cases hv : insV c rs m ds row
  · have e1 : insR c rs m ds row = rs := by unfold insR; rw [hv]; rfl
    have e2 : insD c rs m ds row = ds := by unfold insD; rw [hv]; rfl
    have e3 : (!isM c rs m ds || !rowOK row c || (rs.length : Int) == 40) = true := by
      cases q : (!isM c rs m ds || !rowOK row c || (rs.length : Int) == 40) with
      | true => rfl
      | false =>
        simp only [Bool.or_eq_false_iff, Bool.not_eq_false', beq_eq_false_iff_ne] at q
        have := (tab_small (isM_facts q.1.1).1).1
        unfold insV at hv
        rw [q.1.1, q.1.2, decide_eq_true (by omega)] at hv
        cases hv
    rw [e1, e2]
    clear e1 e2 hv
    (repeat' (first
      | (refine gate_a fun _ => ?_)
      | (refine fork_intro (fun hb => ?_) (fun hb => ?_) <;> (try simp only [ew, e3] at hb))
      | (simp only [go_sem, Nat.reduceLeDiff, Nat.reduceEqDiff, reduceIte, reduceCtorEq, Nat.reduceAdd, Nat.reduceMul, Nat.reduceSub, Nat.reduceLT, Int.reduceLT, Int.reduceLE, Int.reduceNeg, Int.reduceToNat, Nat.reduceBEq, Nat.reduceBNe, Int.reduceGE, Int.reduceGT, *, cIns, cCopyM, cIsM, cL3Row, cAgree, cSpc, cCopyI, Tryz.results11, e3])))
    all_goals first | rfl | skip
  · have e1 : insR c rs m ds row = rs ++ [row] := by unfold insR; rw [hv]; rfl
    have e2 : insD c rs m ds row = insC c m row rs ds := by unfold insD; rw [hv]; rfl
    rw [e1, e2]
    clear e1 e2
    unfold insV at hv
    rw [Bool.and_eq_true, Bool.and_eq_true, decide_eq_true_eq] at hv
    obtain ⟨⟨v1, v2⟩, v3⟩ := hv
    obtain ⟨t1, t2, t3⟩ := isM_facts v1
    have e3 : (!isM c rs m ds || !rowOK row c || (rs.length : Int) == 40) = false := by
      rw [v1, v2, beq_eq_false_iff_ne.2 (by omega)]; rfl
    obtain ⟨c, rfl, c1, c5, h40, hlen⟩ := tab_rows t1
    have hrl := rowOK_len v2
    have hrl' : row.length = c := by omega
    have q1 : ds.length ≤ 160 := by rw [t3]; exact (@mdL_facts (c : Int) rs m).1
    have hsm := fun i => @insC_small (c : Int) m row (rs.take i) ds q1
    have e0 : insC (c : Int) m row (rs.take 0) ds = ds := rfl
    clear v1 v2 t1 t2 t3
    (repeat' (first
      | (refine gate_a fun _ => ?_)
      | (refine fork_intro (fun hb => ?_) (fun hb => ?_) <;> (try simp only [ew, e3] at hb))
      | (simp only [go_sem, Nat.reduceLeDiff, Nat.reduceEqDiff, reduceIte, reduceCtorEq, Nat.reduceAdd, Nat.reduceMul, Nat.reduceSub, Nat.reduceLT, Int.reduceLT, Int.reduceLE, Int.reduceNeg, Int.reduceToNat, Nat.reduceBEq, Nat.reduceBNe, Int.reduceGE, Int.reduceGT, *, cIns, cCopyM, cIsM, cL3Row, cAgree, cSpc, cCopyI, Tryz.results11, e3])))
    refine loop_intro { ι := Nat, rs := [(8, 9), (35, 51)], mods := [(34, fun i => .one (.d (.v (.int .i64 i))))], boxes := [(2, fun _ => [.d (.v (.int .i64 c)), .d (.sl 1 (sL rs)), .d (.v (.int .i64 m)), .d (.sl 2 (dL ds))]), (4, fun _ => [.d (.v (.int .i64 0)), .d (.v (.slice none 0 0)), .d (.v (.int .i64 0)), .d (.v (.slice none 0 0))]), (6, fun i => [.d (.v (.int .i64 c)), .own 1 (sL rs) 1, .d (.v (.int .i64 m)), .own 2 (dL (insC c m row (rs.take i) ds)) 1])], arrs := [], ok := fun i => i ≤ rs.length, mu := fun i => rs.length - i } rfl 0 (Nat.zero_le _) ?_ fun i hi => ?_
    · clear hsm hlen
      (repeat' (first
      | (refine gate_a fun _ => ?_)
      | (refine fork_intro (fun hb => ?_) (fun hb => ?_) <;> (try simp only [ew, e0] at hb))
      | (simp only [go_sem, Nat.reduceLeDiff, Nat.reduceEqDiff, reduceIte, reduceCtorEq, Nat.reduceAdd, Nat.reduceMul, Nat.reduceSub, Nat.reduceLT, Int.reduceLT, Int.reduceLE, Int.reduceNeg, Int.reduceToNat, Nat.reduceBEq, Nat.reduceBNe, Int.reduceGE, Int.reduceGT, *, cIns, cCopyM, cIsM, cL3Row, cAgree, cSpc, cCopyI, Tryz.results11, e0])))
      all_goals first | rfl | skip
    · dsimp only at i hi
      have s1 := hsm i
      have s2 : (insC (c : Int) m row (rs.take i) ds).length ≤ maxLen := Nat.le_trans s1 (by decide)
      clear hsm
      by_cases h5 : i < rs.length
      · have eS := insC_take (c := (c : Int)) (m := m) (row := row) (q := ds) h5
        have hli := hlen i h5
        clear hlen
        rw [Int.toNat_natCast] at eS
        generalize hP : insC (c : Int) m row (rs.take i) ds = P at s1 s2 eS
        have hag := agL_range (m := m) (a := row) (b := rs.getD i []) c5
        clear hrl
        (repeat' (first
      | (refine gate_a fun _ => ?_)
      | (refine fork_intro (fun hb => ?_) (fun hb => ?_) <;> (try simp only [ew, hP] at hb))
      | (simp only [go_sem, Nat.reduceLeDiff, Nat.reduceEqDiff, reduceIte, reduceCtorEq, Nat.reduceAdd, Nat.reduceMul, Nat.reduceSub, Nat.reduceLT, Int.reduceLT, Int.reduceLE, Int.reduceNeg, Int.reduceToNat, Nat.reduceBEq, Nat.reduceBNe, Int.reduceGE, Int.reduceGT, *, cIns, cCopyM, cIsM, cL3Row, cAgree, cSpc, cCopyI, Tryz.results11, hP])))
        refine loop_next (i + 1) (by dsimp only; omega) (by dsimp only; omega) ?_
        (repeat' (first
      | (refine gate_a fun _ => ?_)
      | (refine fork_intro (fun hb => ?_) (fun hb => ?_) <;> (try simp only [ew, hP, eS] at hb))
      | (simp only [go_sem, Nat.reduceLeDiff, Nat.reduceEqDiff, reduceIte, reduceCtorEq, Nat.reduceAdd, Nat.reduceMul, Nat.reduceSub, Nat.reduceLT, Int.reduceLT, Int.reduceLE, Int.reduceNeg, Int.reduceToNat, Nat.reduceBEq, Nat.reduceBNe, Int.reduceGE, Int.reduceGT, *, cIns, cCopyM, cIsM, cL3Row, cAgree, cSpc, cCopyI, Tryz.results11, hP, eS])))
      · have e5 : i = rs.length := by omega
        subst e5
        have eT : rs.take rs.length = rs := List.take_length
        rw [eT] at s1 s2
        have hr5 : row.length ≤ 16777216 := by omega
        clear hlen
        (repeat' (first
      | (refine gate_a fun _ => ?_)
      | (refine fork_intro (fun hb => ?_) (fun hb => ?_) <;> (try simp only [ew, eT, sL_snoc, iL_allscal] at hb))
      | (simp only [go_sem, Nat.reduceLeDiff, Nat.reduceEqDiff, reduceIte, reduceCtorEq, Nat.reduceAdd, Nat.reduceMul, Nat.reduceSub, Nat.reduceLT, Int.reduceLT, Int.reduceLE, Int.reduceNeg, Int.reduceToNat, Nat.reduceBEq, Nat.reduceBNe, Int.reduceGE, Int.reduceGT, *, cIns, cCopyM, cIsM, cL3Row, cAgree, cSpc, cCopyI, Tryz.results11, eT, sL_snoc, iL_allscal])))
        all_goals first | rfl | skip
end Go.Own
