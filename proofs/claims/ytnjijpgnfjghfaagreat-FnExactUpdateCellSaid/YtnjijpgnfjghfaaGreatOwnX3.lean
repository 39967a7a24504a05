/- Own calculus and contracts, OwnX3: OwnJ1, OwnJ5. Conditions: as each theorem states them. -/
import Derived.Test.YtnjijpgnfjghfaaGreatOwnI5
import Derived.Test.YtnjijpgnfjghfaaGreatOwnX5
import Derived.Test.YtnjijpgnfjghfaaGreatOwnX1
namespace Go.Own
open Go Go.Proofs
set_option linter.unusedSimpArgs false
set_option linter.unusedVariables false
set_option maxRecDepth 20000
set_option maxHeartbeats 2000000

attribute [local go_sem] unD_dL dL_length dL_get dL_set dL_inj wfD_dL scal2 beq2 pair_eta dL_scal

/-! Copies of monitors. -/
def cCopyM : Contract := ⟨[], false, fun
  | [.agg [.v (.int .i64 c), .sl 1 l, .v (.int .i64 m), .sl 2 q]] => some (WfS l ∧ (l.length ≤ 16777216 ∧ ∀ r ∈ unS l, r.length ≤ 16777216) ∧ WfD q ∧ q.length ≤ 16777216, [⟨true, [.d (.v (.int .i64 c)), .own 1 l 1, .d (.v (.int .i64 m)), .own 2 q 1]⟩], [])
  | _ => none⟩
theorem copyMI_ok : ContractOK E0 33 cCopyM := by
  refine contract_of_wpc (E := E0) (T := mkT Tryz.prog [(73, cCopyT), (74, cCopyD)] false (fun _ => false) true (fun _ => false)) (mkT_ok (E := E0) (.cons copyTI_ok (.cons copyD_ok .nil))) (fn := Tryz.f33) Tryz.func33 (by kernel_rfl) rfl mixedT (by kernel_rfl) rfl ?_
  intro args p rs ms hr
  unfold cCopyM at hr
  dsimp only at hr
  split at hr
  rotate_left
  · cases hr
  rename_i c l m q
  simp only [Option.some.injEq, Prod.mk.injEq] at hr
  obtain ⟨rfl, rfl, rfl⟩ := hr
  refine ⟨rfl, rfl, Nat.le_of_ble_eq_true rfl, ?_⟩
  have hm : maxLen = 9223372036854775807 := rfl
  rintro ⟨h1, ⟨h2, h2'⟩, h3, h3'⟩ bs
  obtain ⟨rs, rfl, hx, hy⟩ := h1.ex
  obtain ⟨ds, rfl, hd⟩ := h3.ex
  clear h1 h3
  rw [unS_sL] at h2'
  rw [sL_length] at h2
  rw [dL_length] at h3'
  (repeat' (first
      | (refine gate_a fun _ => ?_)
      | (refine fork_intro (fun hb => ?_) (fun hb => ?_) <;> (try simp only [ew] at hb))
      | (simp only [go_sem, Nat.reduceLeDiff, Nat.reduceEqDiff, reduceIte, reduceCtorEq, Nat.reduceAdd, Nat.reduceMul, Nat.reduceSub, Nat.reduceLT, Int.reduceLT, Int.reduceLE, Int.reduceNeg, Int.reduceToNat, Nat.reduceBEq, Nat.reduceBNe, Int.reduceGE, Int.reduceGT, *, cCopyM, cCopyT, cCopyD, Tryz.results33])))
  all_goals first | rfl | skip
theorem copyMS_ok : ContractOK E0 27 cCopyM := by
  refine contract_of_wpc (E := E0) (T := mkT Tryz.prog [(63, cCopyT)] false (fun _ => false) true (fun d => d == 3 || d == 6 || d == 9)) (mkT_ok (E := E0) (.cons copyTS_ok .nil)) (fn := Tryz.f27) Tryz.func27 (by kernel_rfl) rfl mixedT (by kernel_rfl) rfl ?_
  intro args p rs ms hr
  unfold cCopyM at hr
  dsimp only at hr
  split at hr
  rotate_left
  · cases hr
  rename_i c l m q
  simp only [Option.some.injEq, Prod.mk.injEq] at hr
  obtain ⟨rfl, rfl, rfl⟩ := hr
  refine ⟨rfl, rfl, Nat.le_of_ble_eq_true rfl, ?_⟩
  have hm : maxLen = 9223372036854775807 := rfl
  rintro ⟨h1, ⟨h2, h2'⟩, h3, h3'⟩ bs
  obtain ⟨rs, rfl, hx, hy⟩ := h1.ex
  obtain ⟨ds, rfl, hd⟩ := h3.ex
  clear h1 h3
  rw [unS_sL] at h2'
  rw [sL_length] at h2
  rw [dL_length] at h3'
  (repeat' (first
      | (refine gate_a fun _ => ?_)
      | (refine fork_intro (fun hb => ?_) (fun hb => ?_) <;> (try simp only [ew] at hb))
      | (simp only [go_sem, Nat.reduceLeDiff, Nat.reduceEqDiff, reduceIte, reduceCtorEq, Nat.reduceAdd, Nat.reduceMul, Nat.reduceSub, Nat.reduceLT, Int.reduceLT, Int.reduceLE, Int.reduceNeg, Int.reduceToNat, Nat.reduceBEq, Nat.reduceBNe, Int.reduceGE, Int.reduceGT, *, cCopyM, cCopyT, Tryz.results27])))
  all_goals first | rfl | skip

/-! InsertRow. -/
theorem eqc_comm {m a b : Int} : eqc m a b = eqc m b a := by
  unfold eqc
  by_cases h : a = b
  · subst h; rfl
  · rw [beq_eq_false_iff_ne.2 h, beq_eq_false_iff_ne.2 (Ne.symm h)]; simp
theorem agL_comm {m : Int} {a b : List Int} : ∀ {n : Nat}, agL m a b n = agL m b a n
  | 0 => rfl
  | n + 1 => by rw [agL, agL, @agL_comm m a b n, eqc_comm]
/-- The cover behind a new row. -/
def insC (c m : Int) (row : List Int) (rs : List (List Int)) (q : List (Int × Int)) : List (Int × Int) := rs.foldl (fun q r => spcF c (agL m row r c.toNat) q) q
theorem insC_take {c m : Int} {row : List Int} {rs : List (List Int)} {q : List (Int × Int)} {i : Nat} (h : i < rs.length) : insC c m row (rs.take (i + 1)) q = spcF c (agL m row (rs.getD i []) c.toNat) (insC c m row (rs.take i) q) := by
  unfold insC
  rw [take_succ_getD h [], List.foldl_append]; rfl
theorem spcF_small {n ag : Int} {ds : List (Int × Int)} (h : ds.length ≤ 160) : (spcF n ag ds).length ≤ 160 := by
  rw [spc_eq]
  unfold spcS
  split
  · rename_i hv
    unfold spcV at hv
    rw [Bool.and_eq_true] at hv
    have h5 := (isAttr_le hv.2).2.1
    have := @s17_len (lowL (keptD n ag ds) (keptD n ag ds).length) (pbsI n) (@pbsI_facts n).1 n.toNat
    omega
  · exact h
theorem insC_small {c m : Int} {row : List Int} : ∀ {rs : List (List Int)} {q : List (Int × Int)}, q.length ≤ 160 → (insC c m row rs q).length ≤ 160
  | [], q, h => h
  | r :: rs, q, h => @insC_small c m row rs _ (spcF_small h)
def insV (c : Int) (rs : List (List Int)) (m : Int) (ds : List (Int × Int)) (row : List Int) : Bool := isM c rs m ds && rowOK row c && decide (rs.length < 40)
def insR (c : Int) (rs : List (List Int)) (m : Int) (ds : List (Int × Int)) (row : List Int) : List (List Int) := if insV c rs m ds row then rs ++ [row] else rs
def insD (c : Int) (rs : List (List Int)) (m : Int) (ds : List (Int × Int)) (row : List Int) : List (Int × Int) := if insV c rs m ds row then insC c m row rs ds else ds
def cIns : Contract := ⟨[], false, fun
  | [.agg [.v (.int .i64 c), .sl 1 l, .v (.int .i64 m), .sl 2 q], .one (.sl 1 r)] => some (WfS l ∧ (l.length ≤ 16777216 ∧ ∀ r ∈ unS l, r.length ≤ 16777216) ∧ WfD q ∧ q.length ≤ 16777216 ∧ WfI r ∧ -9223372036854775808 ≤ c ∧ c ≤ 9223372036854775807,
      [⟨true, [.d (.v (.int .i64 c)), .own 1 (sL (insR c (unS l) m (unD q) (unI r))) 1, .d (.v (.int .i64 m)), .own 2 (dL (insD c (unS l) m (unD q) (unI r))) 1]⟩, ⟨false, [.d (.v (.bool (insV c (unS l) m (unD q) (unI r))))]⟩], [])
  | _ => none⟩
theorem isM_facts {c : Int} {rs : List (List Int)} {m : Int} {ds : List (Int × Int)} (h : isM c rs m ds = true) : tabOK c rs = true ∧ modeOK m = true ∧ ds = mdL c rs m := by
  unfold isM at h
  simp only [Bool.and_eq_true, beq_iff_eq] at h
  exact ⟨h.1.1, h.1.2, h.2⟩
theorem tab_snoc {c : Int} {rs : List (List Int)} {row : List Int} (h : tabOK c rs = true) (hr : rowOK row c = true) (hl : rs.length < 40) : tabOK c (rs ++ [row]) = true := by
  unfold tabOK at *
  simp only [Bool.and_eq_true, decide_eq_true_eq, List.all_append, List.length_append] at *
  refine ⟨⟨h.1, by simp [hr]⟩, h.2.1, ?_⟩
  simp only [List.length_singleton]
  omega
theorem rowOK_len {row : List Int} {c : Int} (h : rowOK row c = true) : (row.length : Int) = c := by
  unfold rowOK at h
  simp only [Bool.and_eq_true, decide_eq_true_eq] at h
  exact h.2
theorem insI_ok : ContractOK E0 11 cIns := by
  refine contract_of_wpc (E := E0) (T := mkT Tryz.prog [(33, cCopyM), (34, cIsM), (35, cL3Row), (37, cAgree), (36, cSpc), (38, cCopyI)] false (fun _ => false) true (fun _ => false)) (mkT_ok (E := E0) (.cons copyMI_ok (.cons isMI_ok (.cons isRow_ok (.cons agree_ok (.cons spcI_ok (.cons copyI_ok .nil))))))) (fn := Tryz.f11) Tryz.func11 (by kernel_rfl) rfl mixedT (by kernel_rfl) rfl ?_
  intro args p rs ms hr
  unfold cIns at hr
  dsimp only at hr
  split at hr
  rotate_left
  · cases hr
  rename_i c l m q r
  simp only [Option.some.injEq, Prod.mk.injEq] at hr
  obtain ⟨rfl, rfl, rfl⟩ := hr
  refine ⟨rfl, rfl, Nat.le_of_ble_eq_true rfl, ?_⟩
  have hm : maxLen = 9223372036854775807 := rfl
  rintro ⟨h1, ⟨h2, h2'⟩, h3, h3', h4, hc1, hc2⟩ bs
  obtain ⟨rs, rfl, hx, hy⟩ := h1.ex
  obtain ⟨ds, rfl, hd⟩ := h3.ex
  obtain ⟨row, rfl, hr⟩ := h4.ex
  clear h1 h3 h4
  rw [unS_sL] at h2' ⊢
  rw [unD_dL, unI_iL]
  rw [sL_length] at h2
  rw [dL_length] at h3'
  cases hv : insV c rs m ds row
  · have e1 : insR c rs m ds row = rs := by unfold insR; rw [hv]; rfl
    have e2 : insD c rs m ds row = ds := by unfold insD; rw [hv]; rfl
    have e3 : (!isM c rs m ds || !rowOK row c || (rs.length : Int) == 40) = true := by
      cases q : (!isM c rs m ds || !rowOK row c || (rs.length : Int) == 40) with
      | true => rfl
      | false =>
        simp only [Bool.or_eq_false_iff, Bool.not_eq_false', beq_eq_false_iff_ne] at q
        have := (tab_small (isM_facts q.1.1).1).1
        unfold insV at hv
        rw [q.1.1, q.1.2, decide_eq_true (by omega)] at hv
        cases hv
    rw [e1, e2]
    clear e1 e2 hv
    (repeat' (first
      | (refine gate_a fun _ => ?_)
      | (refine fork_intro (fun hb => ?_) (fun hb => ?_) <;> (try simp only [ew, e3] at hb))
      | (simp only [go_sem, Nat.reduceLeDiff, Nat.reduceEqDiff, reduceIte, reduceCtorEq, Nat.reduceAdd, Nat.reduceMul, Nat.reduceSub, Nat.reduceLT, Int.reduceLT, Int.reduceLE, Int.reduceNeg, Int.reduceToNat, Nat.reduceBEq, Nat.reduceBNe, Int.reduceGE, Int.reduceGT, *, cIns, cCopyM, cIsM, cL3Row, cAgree, cSpc, cCopyI, Tryz.results11, e3])))
    all_goals first | rfl | skip
  · have e1 : insR c rs m ds row = rs ++ [row] := by unfold insR; rw [hv]; rfl
    have e2 : insD c rs m ds row = insC c m row rs ds := by unfold insD; rw [hv]; rfl
    rw [e1, e2]
    clear e1 e2
    unfold insV at hv
    rw [Bool.and_eq_true, Bool.and_eq_true, decide_eq_true_eq] at hv
    obtain ⟨⟨v1, v2⟩, v3⟩ := hv
    obtain ⟨t1, t2, t3⟩ := isM_facts v1
    have e3 : (!isM c rs m ds || !rowOK row c || (rs.length : Int) == 40) = false := by
      rw [v1, v2, beq_eq_false_iff_ne.2 (by omega)]; rfl
    obtain ⟨c, rfl, c1, c5, h40, hlen⟩ := tab_rows t1
    have hrl := rowOK_len v2
    have hrl' : row.length = c := by omega
    have q1 : ds.length ≤ 160 := by rw [t3]; exact (@mdL_facts (c : Int) rs m).1
    have hsm := fun i => @insC_small (c : Int) m row (rs.take i) ds q1
    have e0 : insC (c : Int) m row (rs.take 0) ds = ds := rfl
    clear v1 v2 t1 t2 t3
    (repeat' (first
      | (refine gate_a fun _ => ?_)
      | (refine fork_intro (fun hb => ?_) (fun hb => ?_) <;> (try simp only [ew, e3] at hb))
      | (simp only [go_sem, Nat.reduceLeDiff, Nat.reduceEqDiff, reduceIte, reduceCtorEq, Nat.reduceAdd, Nat.reduceMul, Nat.reduceSub, Nat.reduceLT, Int.reduceLT, Int.reduceLE, Int.reduceNeg, Int.reduceToNat, Nat.reduceBEq, Nat.reduceBNe, Int.reduceGE, Int.reduceGT, *, cIns, cCopyM, cIsM, cL3Row, cAgree, cSpc, cCopyI, Tryz.results11, e3])))
    refine loop_intro { ι := Nat, rs := [(8, 9), (35, 51)], mods := [(34, fun i => .one (.d (.v (.int .i64 i))))], boxes := [(2, fun _ => [.d (.v (.int .i64 c)), .d (.sl 1 (sL rs)), .d (.v (.int .i64 m)), .d (.sl 2 (dL ds))]), (4, fun _ => [.d (.v (.int .i64 0)), .d (.v (.slice none 0 0)), .d (.v (.int .i64 0)), .d (.v (.slice none 0 0))]), (6, fun i => [.d (.v (.int .i64 c)), .own 1 (sL rs) 1, .d (.v (.int .i64 m)), .own 2 (dL (insC c m row (rs.take i) ds)) 1])], arrs := [], ok := fun i => i ≤ rs.length, mu := fun i => rs.length - i } rfl 0 (Nat.zero_le _) ?_ fun i hi => ?_
    · clear hsm hlen
      (repeat' (first
      | (refine gate_a fun _ => ?_)
      | (refine fork_intro (fun hb => ?_) (fun hb => ?_) <;> (try simp only [ew, e0] at hb))
      | (simp only [go_sem, Nat.reduceLeDiff, Nat.reduceEqDiff, reduceIte, reduceCtorEq, Nat.reduceAdd, Nat.reduceMul, Nat.reduceSub, Nat.reduceLT, Int.reduceLT, Int.reduceLE, Int.reduceNeg, Int.reduceToNat, Nat.reduceBEq, Nat.reduceBNe, Int.reduceGE, Int.reduceGT, *, cIns, cCopyM, cIsM, cL3Row, cAgree, cSpc, cCopyI, Tryz.results11, e0])))
      all_goals first | rfl | skip
    · dsimp only at i hi
      have s1 := hsm i
      have s2 : (insC (c : Int) m row (rs.take i) ds).length ≤ maxLen := Nat.le_trans s1 (by decide)
      clear hsm
      by_cases h5 : i < rs.length
      · have eS := insC_take (c := (c : Int)) (m := m) (row := row) (q := ds) h5
        have hli := hlen i h5
        clear hlen
        rw [Int.toNat_natCast] at eS
        generalize hP : insC (c : Int) m row (rs.take i) ds = P at s1 s2 eS
        have hag := agL_range (m := m) (a := row) (b := rs.getD i []) c5
        clear hrl
        (repeat' (first
      | (refine gate_a fun _ => ?_)
      | (refine fork_intro (fun hb => ?_) (fun hb => ?_) <;> (try simp only [ew, hP] at hb))
      | (simp only [go_sem, Nat.reduceLeDiff, Nat.reduceEqDiff, reduceIte, reduceCtorEq, Nat.reduceAdd, Nat.reduceMul, Nat.reduceSub, Nat.reduceLT, Int.reduceLT, Int.reduceLE, Int.reduceNeg, Int.reduceToNat, Nat.reduceBEq, Nat.reduceBNe, Int.reduceGE, Int.reduceGT, *, cIns, cCopyM, cIsM, cL3Row, cAgree, cSpc, cCopyI, Tryz.results11, hP])))
        refine loop_next (i + 1) (by dsimp only; omega) (by dsimp only; omega) ?_
        (repeat' (first
      | (refine gate_a fun _ => ?_)
      | (refine fork_intro (fun hb => ?_) (fun hb => ?_) <;> (try simp only [ew, hP, eS] at hb))
      | (simp only [go_sem, Nat.reduceLeDiff, Nat.reduceEqDiff, reduceIte, reduceCtorEq, Nat.reduceAdd, Nat.reduceMul, Nat.reduceSub, Nat.reduceLT, Int.reduceLT, Int.reduceLE, Int.reduceNeg, Int.reduceToNat, Nat.reduceBEq, Nat.reduceBNe, Int.reduceGE, Int.reduceGT, *, cIns, cCopyM, cIsM, cL3Row, cAgree, cSpc, cCopyI, Tryz.results11, hP, eS])))
      · have e5 : i = rs.length := by omega
        subst e5
        have eT : rs.take rs.length = rs := List.take_length
        rw [eT] at s1 s2
        have hr5 : row.length ≤ 16777216 := by omega
        clear hlen
        (repeat' (first
      | (refine gate_a fun _ => ?_)
      | (refine fork_intro (fun hb => ?_) (fun hb => ?_) <;> (try simp only [ew, eT, sL_snoc, iL_allscal] at hb))
      | (simp only [go_sem, Nat.reduceLeDiff, Nat.reduceEqDiff, reduceIte, reduceCtorEq, Nat.reduceAdd, Nat.reduceMul, Nat.reduceSub, Nat.reduceLT, Int.reduceLT, Int.reduceLE, Int.reduceNeg, Int.reduceToNat, Nat.reduceBEq, Nat.reduceBNe, Int.reduceGE, Int.reduceGT, *, cIns, cCopyM, cIsM, cL3Row, cAgree, cSpc, cCopyI, Tryz.results11, eT, sL_snoc, iL_allscal])))
        all_goals first | rfl | skip
end Go.Own

namespace Go.Own
open Go Go.Proofs
set_option linter.unusedSimpArgs false
set_option linter.unusedVariables false
set_option maxRecDepth 20000
set_option maxHeartbeats 2000000

attribute [local go_sem] unD_dL dL_length dL_get dL_set dL_inj wfD_dL scal2 beq2 pair_eta dL_scal

/-! DeleteRow. -/
def delL (rs : List (List Int)) (a : Nat) : List (List Int) := rs.take a ++ rs.drop (a + 1)
def delN (rs : List (List Int)) (a : Nat) : Nat → List (List Int)
  | 0 => []
  | i + 1 => delN rs a i ++ (if ((i : Nat) : Int) != (a : Int) then [rs.getD i []] else [])
theorem delN_len {rs : List (List Int)} {a : Nat} : ∀ {i : Nat}, (delN rs a i).length ≤ i
  | 0 => Nat.le_refl _
  | i + 1 => by
    have := @delN_len rs a i
    rw [delN, List.length_append]
    split <;> simp <;> omega
theorem delN_low {rs : List (List Int)} {a : Nat} : ∀ {i : Nat}, i ≤ a → i ≤ rs.length → delN rs a i = rs.take i
  | 0, _, _ => by simp [delN]
  | i + 1, h, h2 => by
    have : (((i : Nat) : Int) != (a : Int)) = true := by rw [bne_iff_ne]; omega
    rw [delN, delN_low (by omega) (by omega), this, if_pos rfl, take_succ_getD (by omega) []]
theorem delN_high {rs : List (List Int)} {a : Nat} (ha : a < rs.length) : ∀ {k : Nat}, a + 1 + k ≤ rs.length → delN rs a (a + 1 + k) = rs.take a ++ (rs.drop (a + 1)).take k
  | 0, h => by
    have : (((a : Nat) : Int) != (a : Int)) = false := by simp
    rw [Nat.add_zero, delN, delN_low (Nat.le_refl _) (by omega), this]; simp
  | k + 1, h => by
    have e : a + 1 + (k + 1) = (a + 1 + k) + 1 := by omega
    have : (((a + 1 + k : Nat) : Int) != (a : Int)) = true := by rw [bne_iff_ne]; omega
    rw [e, delN, delN_high ha (by omega), this, if_pos rfl, List.append_assoc]
    congr 1
    have h2 : k < (rs.drop (a + 1)).length := by rw [List.length_drop]; omega
    rw [take_succ_getD h2 []]
    congr 2
    simp [List.getD_eq_getElem?_getD]
theorem delN_all {rs : List (List Int)} {a : Nat} (ha : a < rs.length) : delN rs a rs.length = delL rs a := by
  obtain ⟨k, hk⟩ := Nat.le.dest (show a + 1 ≤ rs.length from ha)
  have h1 := @delN_high rs a ha k (by omega)
  rw [hk] at h1
  rw [h1]
  unfold delL
  rw [List.take_of_length_le (l := rs.drop (a + 1)) (i := k) (by rw [List.length_drop]; omega)]
theorem sL_drop' {rs : List (List Int)} {i : Nat} : (sL rs).drop i = sL (rs.drop i) := by simp [sL, List.map_drop]
theorem sL_app' {xs ys : List (List Int)} : sL xs ++ sL ys = sL (xs ++ ys) := by simp [sL]
def delV (c : Int) (rs : List (List Int)) (m : Int) (ds : List (Int × Int)) (a : Int) : Bool := isM c rs m ds && inB a 0 ((rs.length : Int) - 1)
def delR (c : Int) (rs : List (List Int)) (m : Int) (ds : List (Int × Int)) (a : Int) : List (List Int) := if delV c rs m ds a then delL rs a.toNat else rs
def delD (c : Int) (rs : List (List Int)) (m : Int) (ds : List (Int × Int)) (a : Int) : List (Int × Int) := if delV c rs m ds a then dagF c (agsF c (delL rs a.toNat) m) else ds
def cDel : Contract := ⟨[], false, fun
  | [.agg [.v (.int .i64 c), .sl 1 l, .v (.int .i64 m), .sl 2 q], .one (.v (.int .i64 a))] => some (WfS l ∧ (l.length ≤ 16777216 ∧ ∀ r ∈ unS l, r.length ≤ 16777216) ∧ WfD q ∧ q.length ≤ 16777216 ∧ -9223372036854775808 ≤ c ∧ c ≤ 9223372036854775807,
      [⟨true, [.d (.v (.int .i64 c)), .own 1 (sL (delR c (unS l) m (unD q) a)) 1, .d (.v (.int .i64 m)), .own 2 (dL (delD c (unS l) m (unD q) a)) 1]⟩, ⟨false, [.d (.v (.bool (delV c (unS l) m (unD q) a)))]⟩], [])
  | _ => none⟩
theorem delL_facts {rs : List (List Int)} {a : Nat} {B : Nat} (h : ∀ r ∈ rs, r.length ≤ B) : (delL rs a).length ≤ rs.length ∧ ∀ r ∈ delL rs a, r.length ≤ B := by
  unfold delL
  refine ⟨by rw [List.length_append, List.length_take, List.length_drop]; omega, fun r hr => ?_⟩
  rcases List.mem_append.1 hr with hr | hr
  · exact h r (List.mem_of_mem_take hr)
  · exact h r (List.mem_of_mem_drop hr)
theorem dagF_facts {n : Int} {xs : List Int} : (dagF n xs).length ≤ 160 := by
  unfold dagF
  split
  · rename_i h
    rw [Bool.and_eq_true, inB_iff] at h
    have := @minT_length (dagB xs) n n.toNat
    unfold minDs
    omega
  · simp
theorem delI_ok : ContractOK E0 18 cDel := by
  refine contract_of_wpc (E := E0) (T := mkT Tryz.prog [(33, cCopyM), (34, cIsM), (48, cAgs), (47, cDag)] false (fun _ => false) true (fun _ => false)) (mkT_ok (E := E0) (.cons copyMI_ok (.cons isMI_ok (.cons agsI_ok (.cons dagI_ok .nil))))) (fn := Tryz.f18) Tryz.func18 (by kernel_rfl) rfl mixedT (by kernel_rfl) rfl ?_
  intro args p rs ms hr
  unfold cDel at hr
  dsimp only at hr
  split at hr
  rotate_left
  · cases hr
  rename_i c l m q a
  simp only [Option.some.injEq, Prod.mk.injEq] at hr
  obtain ⟨rfl, rfl, rfl⟩ := hr
  refine ⟨rfl, rfl, Nat.le_of_ble_eq_true rfl, ?_⟩
  have hm : maxLen = 9223372036854775807 := rfl
  rintro ⟨h1, ⟨h2, h2'⟩, h3, h3', hc1, hc2⟩ bs
  obtain ⟨rs, rfl, hx, hy⟩ := h1.ex
  obtain ⟨ds, rfl, hd⟩ := h3.ex
  clear h1 h3
  rw [unS_sL] at h2' ⊢
  rw [unD_dL]
  rw [sL_length] at h2
  rw [dL_length] at h3'
  cases hv : delV c rs m ds a
  · have e1 : delR c rs m ds a = rs := by unfold delR; rw [hv]; rfl
    have e2 : delD c rs m ds a = ds := by unfold delD; rw [hv]; rfl
    have e3 : (!isM c rs m ds || decide (a < 0) || decide (a ≥ (rs.length : Int))) = true := by
      cases q : (!isM c rs m ds || decide (a < 0) || decide (a ≥ (rs.length : Int))) with
      | true => rfl
      | false =>
        simp only [Bool.or_eq_false_iff, Bool.not_eq_false', decide_eq_false_iff_not] at q
        unfold delV at hv
        rw [q.1.1, Bool.true_and, ← Bool.not_eq_true, inB_iff] at hv
        omega
    rw [e1, e2]
    clear e1 e2 hv
    (repeat' (first
      | (refine gate_a fun _ => ?_)
      | (refine fork_intro (fun hb => ?_) (fun hb => ?_) <;> (try simp only [ew, e3] at hb))
      | (simp only [go_sem, Nat.reduceLeDiff, Nat.reduceEqDiff, reduceIte, reduceCtorEq, Nat.reduceAdd, Nat.reduceMul, Nat.reduceSub, Nat.reduceLT, Int.reduceLT, Int.reduceLE, Int.reduceNeg, Int.reduceToNat, Nat.reduceBEq, Nat.reduceBNe, Int.reduceGE, Int.reduceGT, *, cDel, cCopyM, cIsM, cAgs, cDag, Tryz.results18, e3])))
    all_goals first | rfl | skip
  · have e1 : delR c rs m ds a = delL rs a.toNat := by unfold delR; rw [hv]; rfl
    have e2 : delD c rs m ds a = dagF c (agsF c (delL rs a.toNat) m) := by unfold delD; rw [hv]; rfl
    rw [e1, e2]
    clear e1 e2
    unfold delV at hv
    rw [Bool.and_eq_true, inB_iff] at hv
    obtain ⟨v1, v2, v3⟩ := hv
    have e3 : (!isM c rs m ds || decide (a < 0) || decide (a ≥ (rs.length : Int))) = false := by
      rw [v1, decide_eq_false (by omega), decide_eq_false (by omega)]; rfl
    obtain ⟨n, rfl⟩ := Int.eq_ofNat_of_zero_le v2
    rw [Int.toNat_natCast]
    have hn : n < rs.length := by omega
    have e3b : (!isM c rs m ds || decide ((n : Int) < 0) || decide (rs.length ≤ n)) = false := by
      rw [v1, decide_eq_false (by omega), decide_eq_false (by omega)]; rfl
    have hne : sL rs ≠ [] := fun e => by have := congrArg List.length e; rw [sL_length, List.length_nil] at this; omega
    have h40 := (tab_small (isM_facts v1).1).1
    obtain ⟨d1, d2⟩ := delL_facts (a := n) hy
    have d3 : (delL rs n).length ≤ maxLen := by omega
    have eD : rs.take n ++ rs.drop (n + 1) = delL rs n := rfl
    have d4 := (@ags_facts c (delL rs n) m).1
    have d5 : (agsF c (delL rs n) m).length ≤ maxLen := Nat.le_trans d4 (by decide)
    have et : ((n : Int) + 1).toNat = n + 1 := by omega
    generalize hZ : delL rs n = Z at d1 d2 d3 d4 d5 eD ⊢
    clear v1
    (repeat' (first
      | (refine gate_a fun _ => ?_)
      | (refine fork_intro (fun hb => ?_) (fun hb => ?_) <;> (try simp only [ew, e3, e3b, hne, et, sL_take', sL_drop', sL_app', eD] at hb))
      | (simp only [go_sem, Nat.reduceLeDiff, Nat.reduceEqDiff, reduceIte, reduceCtorEq, Nat.reduceAdd, Nat.reduceMul, Nat.reduceSub, Nat.reduceLT, Int.reduceLT, Int.reduceLE, Int.reduceNeg, Int.reduceToNat, Nat.reduceBEq, Nat.reduceBNe, Int.reduceGE, Int.reduceGT, *, cDel, cCopyM, cIsM, cAgs, cDag, Tryz.results18, e3, e3b, hne, et, sL_take', sL_drop', sL_app', eD])))
    all_goals first | rfl | skip
theorem delS_ok : ContractOK E0 17 cDel := by
  refine contract_of_wpc (E := E0) (T := mkT Tryz.prog [(27, cCopyM), (28, cIsM), (44, cL1In), (46, cAgs), (45, cDag)] false (fun _ => false) true (fun _ => false)) (mkT_ok (E := E0) (.cons copyMS_ok (.cons isMS_ok (.cons l1In_ok (.cons agsS_ok (.cons dagS_ok .nil)))))) (fn := Tryz.f17) Tryz.func17 (by kernel_rfl) rfl mixedT (by kernel_rfl) rfl ?_
  intro args p rs ms hr
  unfold cDel at hr
  dsimp only at hr
  split at hr
  rotate_left
  · cases hr
  rename_i c l m q a
  simp only [Option.some.injEq, Prod.mk.injEq] at hr
  obtain ⟨rfl, rfl, rfl⟩ := hr
  refine ⟨rfl, rfl, Nat.le_of_ble_eq_true rfl, ?_⟩
  have hm : maxLen = 9223372036854775807 := rfl
  rintro ⟨h1, ⟨h2, h2'⟩, h3, h3', hc1, hc2⟩ bs
  obtain ⟨rs, rfl, hx, hy⟩ := h1.ex
  obtain ⟨ds, rfl, hd⟩ := h3.ex
  clear h1 h3
  rw [unS_sL] at h2' ⊢
  rw [unD_dL]
  rw [sL_length] at h2
  rw [dL_length] at h3'
  cases hv : delV c rs m ds a
  · have e1 : delR c rs m ds a = rs := by unfold delR; rw [hv]; rfl
    have e2 : delD c rs m ds a = ds := by unfold delD; rw [hv]; rfl
    have e3 : (!isM c rs m ds || !inB a 0 ((rs.length : Int) - 1)) = true := by rw [← Bool.not_and]; unfold delV at hv; rw [hv]; rfl
    rw [e1, e2]
    clear e1 e2 hv
    (repeat' (first
      | (refine gate_a fun _ => ?_)
      | (refine fork_intro (fun hb => ?_) (fun hb => ?_) <;> (try simp only [ew, e3] at hb))
      | (simp only [go_sem, Nat.reduceLeDiff, Nat.reduceEqDiff, reduceIte, reduceCtorEq, Nat.reduceAdd, Nat.reduceMul, Nat.reduceSub, Nat.reduceLT, Int.reduceLT, Int.reduceLE, Int.reduceNeg, Int.reduceToNat, Nat.reduceBEq, Nat.reduceBNe, Int.reduceGE, Int.reduceGT, *, cDel, cCopyM, cIsM, cL1In, cAgs, cDag, Tryz.results17, e3])))
    all_goals first | rfl | skip
  · have e1 : delR c rs m ds a = delL rs a.toNat := by unfold delR; rw [hv]; rfl
    have e2 : delD c rs m ds a = dagF c (agsF c (delL rs a.toNat) m) := by unfold delD; rw [hv]; rfl
    rw [e1, e2]
    clear e1 e2
    have e3 : (!isM c rs m ds || !inB a 0 ((rs.length : Int) - 1)) = false := by rw [← Bool.not_and]; unfold delV at hv; rw [hv]; rfl
    unfold delV at hv
    rw [Bool.and_eq_true, inB_iff] at hv
    obtain ⟨v1, v2, v3⟩ := hv
    obtain ⟨n, rfl⟩ := Int.eq_ofNat_of_zero_le v2
    rw [Int.toNat_natCast]
    have hn : n < rs.length := by omega
    have h40 := (tab_small (isM_facts v1).1).1
    have eN := delN_all hn
    obtain ⟨d1, d2⟩ := delL_facts (a := n) hy
    have d3 : (delL rs n).length ≤ maxLen := by omega
    have d4 := (@ags_facts c (delL rs n) m).1
    have d5 : (agsF c (delL rs n) m).length ≤ maxLen := Nat.le_trans d4 (by decide)
    generalize hZ : delL rs n = Z at d1 d2 d3 d4 d5 eN ⊢
    have hnl := fun i => @delN_len rs n i
    have e0 : sL (delN rs n 0) = [] := rfl
    clear v1
    (repeat' (first
      | (refine gate_a fun _ => ?_)
      | (refine fork_intro (fun hb => ?_) (fun hb => ?_) <;> (try simp only [ew, e3] at hb))
      | (simp only [go_sem, Nat.reduceLeDiff, Nat.reduceEqDiff, reduceIte, reduceCtorEq, Nat.reduceAdd, Nat.reduceMul, Nat.reduceSub, Nat.reduceLT, Int.reduceLT, Int.reduceLE, Int.reduceNeg, Int.reduceToNat, Nat.reduceBEq, Nat.reduceBNe, Int.reduceGE, Int.reduceGT, *, cDel, cCopyM, cIsM, cL1In, cAgs, cDag, Tryz.results17, e3])))
    refine loop_intro { ι := Nat, rs := [(26, 48)], mods := [(8, fun i => .one (.d (.v (.int .i64 i)))), (7, fun i => .one (.own 1 (sL (delN rs n i)) 1))], boxes := [(2, fun _ => [.d (.v (.int .i64 c)), .d (.sl 1 (sL rs)), .d (.v (.int .i64 m)), .d (.sl 2 (dL ds))]), (4, fun _ => [.d (.v (.int .i64 0)), .d (.v (.slice none 0 0)), .d (.v (.int .i64 0)), .d (.v (.slice none 0 0))]), (6, fun i => [.d (.v (.int .i64 c)), .own 1 (sL rs) 1, .d (.v (.int .i64 m)), .own 2 (dL ds) 1])], arrs := [], ok := fun i => i ≤ rs.length, mu := fun i => rs.length - i } rfl 0 (Nat.zero_le _) ?_ fun i hi => ?_
    · clear hnl
      (repeat' (first
      | (refine gate_a fun _ => ?_)
      | (refine fork_intro (fun hb => ?_) (fun hb => ?_) <;> (try simp only [ew, e0] at hb))
      | (simp only [go_sem, Nat.reduceLeDiff, Nat.reduceEqDiff, reduceIte, reduceCtorEq, Nat.reduceAdd, Nat.reduceMul, Nat.reduceSub, Nat.reduceLT, Int.reduceLT, Int.reduceLE, Int.reduceNeg, Int.reduceToNat, Nat.reduceBEq, Nat.reduceBNe, Int.reduceGE, Int.reduceGT, *, cDel, cCopyM, cIsM, cL1In, cAgs, cDag, Tryz.results17, e0])))
      all_goals first | rfl | skip
    · dsimp only at i hi
      have s1 := hnl i
      have s2 : (delN rs n i).length ≤ 40 := by omega
      have s3 : (delN rs n i).length ≤ maxLen := Nat.le_trans s2 (by decide)
      clear hnl
      by_cases h5 : i < rs.length
      · have eS : delN rs n (i + 1) = delN rs n i ++ (if ((i : Nat) : Int) != (n : Int) then [rs.getD i []] else []) := rfl
        have q1 := all_getD hy i
        have q2 := all_getD h2' i
        generalize hP : delN rs n i = P at s1 s2 s3 eS
        cases hq : (((i : Nat) : Int) != (n : Int))
        · rw [hq, if_neg (by decide), List.append_nil] at eS
          (repeat' (first
      | (refine gate_a fun _ => ?_)
      | (refine fork_intro (fun hb => ?_) (fun hb => ?_) <;> (try simp only [ew, hP, hq] at hb))
      | (simp only [go_sem, Nat.reduceLeDiff, Nat.reduceEqDiff, reduceIte, reduceCtorEq, Nat.reduceAdd, Nat.reduceMul, Nat.reduceSub, Nat.reduceLT, Int.reduceLT, Int.reduceLE, Int.reduceNeg, Int.reduceToNat, Nat.reduceBEq, Nat.reduceBNe, Int.reduceGE, Int.reduceGT, *, cDel, cCopyM, cIsM, cL1In, cAgs, cDag, Tryz.results17, hP, hq])))
          refine loop_next (i + 1) (by dsimp only; omega) (by dsimp only; omega) ?_
          (repeat' (first
      | (refine gate_a fun _ => ?_)
      | (refine fork_intro (fun hb => ?_) (fun hb => ?_) <;> (try simp only [ew, hP, eS, hq] at hb))
      | (simp only [go_sem, Nat.reduceLeDiff, Nat.reduceEqDiff, reduceIte, reduceCtorEq, Nat.reduceAdd, Nat.reduceMul, Nat.reduceSub, Nat.reduceLT, Int.reduceLT, Int.reduceLE, Int.reduceNeg, Int.reduceToNat, Nat.reduceBEq, Nat.reduceBNe, Int.reduceGE, Int.reduceGT, *, cDel, cCopyM, cIsM, cL1In, cAgs, cDag, Tryz.results17, hP, eS, hq])))
        · rw [hq, if_pos rfl] at eS
          (repeat' (first
      | (refine gate_a fun _ => ?_)
      | (refine fork_intro (fun hb => ?_) (fun hb => ?_) <;> (try simp only [ew, hP, hq, sL_snoc, iL_allscal] at hb))
      | (simp only [go_sem, Nat.reduceLeDiff, Nat.reduceEqDiff, reduceIte, reduceCtorEq, Nat.reduceAdd, Nat.reduceMul, Nat.reduceSub, Nat.reduceLT, Int.reduceLT, Int.reduceLE, Int.reduceNeg, Int.reduceToNat, Nat.reduceBEq, Nat.reduceBNe, Int.reduceGE, Int.reduceGT, *, cDel, cCopyM, cIsM, cL1In, cAgs, cDag, Tryz.results17, hP, hq, sL_snoc, iL_allscal])))
          refine loop_next (i + 1) (by dsimp only; omega) (by dsimp only; omega) ?_
          (repeat' (first
      | (refine gate_a fun _ => ?_)
      | (refine fork_intro (fun hb => ?_) (fun hb => ?_) <;> (try simp only [ew, hP, eS, hq, sL_snoc, iL_allscal] at hb))
      | (simp only [go_sem, Nat.reduceLeDiff, Nat.reduceEqDiff, reduceIte, reduceCtorEq, Nat.reduceAdd, Nat.reduceMul, Nat.reduceSub, Nat.reduceLT, Int.reduceLT, Int.reduceLE, Int.reduceNeg, Int.reduceToNat, Nat.reduceBEq, Nat.reduceBNe, Int.reduceGE, Int.reduceGT, *, cDel, cCopyM, cIsM, cL1In, cAgs, cDag, Tryz.results17, hP, eS, hq, sL_snoc, iL_allscal])))
      · have e5 : i = rs.length := by omega
        subst e5
        (repeat' (first
      | (refine gate_a fun _ => ?_)
      | (refine fork_intro (fun hb => ?_) (fun hb => ?_) <;> (try simp only [ew, eN] at hb))
      | (simp only [go_sem, Nat.reduceLeDiff, Nat.reduceEqDiff, reduceIte, reduceCtorEq, Nat.reduceAdd, Nat.reduceMul, Nat.reduceSub, Nat.reduceLT, Int.reduceLT, Int.reduceLE, Int.reduceNeg, Int.reduceToNat, Nat.reduceBEq, Nat.reduceBNe, Int.reduceGE, Int.reduceGT, *, cDel, cCopyM, cIsM, cL1In, cAgs, cDag, Tryz.results17, eN])))
        all_goals first | rfl | skip

/-! The law of DeleteRow. -/
def cLawDel : Contract := ⟨[], false, fun
  | [.agg [.v (.int .i64 c), .sl 1 l, .v (.int .i64 m), .sl 2 q], .one (.v (.int .i64 a))] => some ((WfS l ∧ WfD q ∧ -9223372036854775808 ≤ c ∧ c ≤ 9223372036854775807) ∧ -9223372036854775808 ≤ a ∧ a ≤ 9223372036854775807, [⟨false, [.d (.v (.bool true))]⟩], [])
  | _ => none⟩
theorem delR_facts {c : Int} {rs : List (List Int)} {m : Int} {ds : List (Int × Int)} {a : Int} (h1 : rs.length ≤ 16777216) (h2 : ∀ r ∈ rs, r.length ≤ 16777216) (h4 : ds.length ≤ 16777216) :
    (delR c rs m ds a).length ≤ 16777216 ∧ (∀ r ∈ delR c rs m ds a, r.length ≤ 16777216) ∧ (delD c rs m ds a).length ≤ 16777216 := by
  unfold delR delD
  cases hv : delV c rs m ds a
  · rw [if_neg (by decide), if_neg (by decide)]
    exact ⟨h1, h2, h4⟩
  · rw [if_pos rfl, if_pos rfl]
    obtain ⟨k1, k2⟩ := delL_facts (a := a.toNat) h2
    have := @dagF_facts c (agsF c (delL rs a.toNat) m)
    exact ⟨by omega, k2, by omega⟩
theorem lawDel_ok : ContractOK E0 4 cLawDel := by
  refine contract_of_wpc (E := E0) (T := mkT Tryz.prog [(7, cSzMon), (9, cToMon), (17, cDel), (18, cDel), (12, cEqMon), (14, cMarkM), (16, cHeldM)] false (fun _ => false) true (fun _ => false)) (mkT_ok (E := E0) (.cons szMon_ok (.cons toMon_ok (.cons delS_ok (.cons delI_ok (.cons eqMonL_ok (.cons markM_ok (.cons heldM_ok .nil)))))))) (fn := Tryz.f4) Tryz.func4 (by kernel_rfl) rfl mixedT (by kernel_rfl) rfl ?_
  intro args p rs ms hr
  unfold cLawDel at hr
  dsimp only at hr
  split at hr
  rotate_left
  · cases hr
  rename_i c l m q a
  simp only [Option.some.injEq, Prod.mk.injEq] at hr
  obtain ⟨rfl, rfl, rfl⟩ := hr
  refine ⟨rfl, rfl, Nat.le_of_ble_eq_true rfl, ?_⟩
  have hm : maxLen = 9223372036854775807 := rfl
  rintro ⟨⟨h1, h2, hc1, hc2⟩, ha1, ha2⟩ bs
  obtain ⟨rs, rfl, hx, hy⟩ := h1.ex
  obtain ⟨ds, rfl, hd⟩ := h2.ex
  clear h1 h2
  by_cases hs : szM rs ds.length 1048576 < 0
  · (repeat' (first
      | (refine gate_a fun _ => ?_)
      | (refine fork_intro (fun hb => ?_) (fun hb => ?_) <;> (try simp only [ew] at hb))
      | (simp only [go_sem, Nat.reduceLeDiff, Nat.reduceEqDiff, reduceIte, reduceCtorEq, Nat.reduceAdd, Nat.reduceMul, Nat.reduceSub, Nat.reduceLT, Int.reduceLT, Int.reduceLE, Int.reduceNeg, Int.reduceToNat, Nat.reduceBEq, Nat.reduceBNe, Int.reduceGE, Int.reduceGT, *, cLawDel, cSzMon, cToMon, cDel, cEqMon, cMarkM, cHeldM, Tryz.results4])))
    all_goals first | contradiction | skip
  · obtain ⟨⟨f1, f2⟩, f3, f4⟩ := szM_facts (Int.le_refl _) hs
    obtain ⟨r1, r2, r3⟩ := @delR_facts c rs m ds a f1 f2 f3
    have b4 := tot_big f1 f2
    have b5 := tot_big r1 r2
    have b11 := tot_48 f1 f2
    have b12 := tot_48 r1 r2
    have t1 := @tot_nonneg rs
    generalize hz : delR c rs m ds a = zs at r1 r2 b5 b12
    generalize hzb : delV c rs m ds a = b
    generalize hzq : delD c rs m ds a = q at r3
    have k1 : zs.length ≤ maxLen := Nat.le_trans r1 (by decide)
    have k2 : ∀ r ∈ zs, r.length ≤ maxLen := fun r hr => Nat.le_trans (r2 r hr) (by decide)
    have k3 : q.length ≤ maxLen := Nat.le_trans r3 (by decide)
    have t2 := @tot_nonneg zs
    have b6 : ∀ r ∈ markRows zs 1, r.length ≤ 16777216 := markRows_leB r2
    have b7 : ∀ r ∈ markRows zs 1, r.length ≤ maxLen := markRows_leB k2
    have b8 := @tot_markRowsB zs 1
    have b9 := @markRows_length zs 1
    have b10 := heldM_marks (rs := zs) (n := q.length) (k := 1) (by omega)
    (repeat' (first
      | (refine gate_intro (by first | omega | ((repeat' (first | apply And.intro | assumption | omega | intro _)); done) | ((repeat' (first | apply And.intro | assumption | omega | intro _)); done) | (simp only [maxLen]; omega) | simp_all | (simp_all [maxLen]; omega)) fun _ => ?_)
      | (refine fork_intro (fun hb => ?_) (fun hb => ?_) <;> (try simp only [ew, hz, hzb, hzq, markD_length] at hb))
      | (simp only [go_sem, Nat.reduceLeDiff, Nat.reduceEqDiff, reduceIte, reduceCtorEq, Nat.reduceAdd, Nat.reduceMul, Nat.reduceSub, Nat.reduceLT, Int.reduceLT, Int.reduceLE, Int.reduceNeg, Int.reduceToNat, Nat.reduceBEq, Nat.reduceBNe, Int.reduceGE, Int.reduceGT, *, cLawDel, cSzMon, cToMon, cDel, cEqMon, cMarkM, cHeldM, Tryz.results4, hz, hzb, hzq, markD_length])))
    all_goals (first | (exfalso; omega) | skip)
end Go.Own
