/- Own calculus and contracts, OwnX4: OwnJ2, OwnJ6. Conditions: as each theorem states them. -/
import Derived.Test.YtnjijpgnfjghfaaGreatOwnX3
import Derived.Test.YtnjijpgnfjghfaaGreatOwnI6
namespace Go.Own
open Go Go.Proofs
set_option linter.unusedSimpArgs false
set_option linter.unusedVariables false
set_option maxRecDepth 20000
set_option maxHeartbeats 2000000

attribute [local go_sem] unD_dL dL_length dL_get dL_set dL_inj wfD_dL scal2 beq2 pair_eta dL_scal

theorem insS_ok : ContractOK E0 8 cIns := by
  refine contract_of_wpc (E := E0) (T := mkT Tryz.prog [(27, cCopyM), (28, cIsM), (29, cL3Row), (31, cL4A), (30, cSpcS)] false (fun _ => false) true (fun d => d == 31)) (mkT_ok (E := E0) (.cons copyMS_ok (.cons isMS_ok (.cons l3Row_ok (.cons l4A_ok (.cons spcS_ok .nil)))))) (fn := Tryz.f8) Tryz.func8 (by kernel_rfl) rfl mixedT (by kernel_rfl) rfl ?_
  intro args p rs ms hr
  unfold cIns at hr
  dsimp only at hr
  split at hr
  rotate_left
  · cases hr
  rename_i c l m q r
  simp only [Option.some.injEq, Prod.mk.injEq] at hr
  obtain ⟨rfl, rfl, rfl⟩ := hr
  refine ⟨rfl, rfl, Nat.le_of_ble_eq_true rfl, ?_⟩
  have hm : maxLen = 9223372036854775807 := rfl
  rintro ⟨h1, ⟨h2, h2'⟩, h3, h3', h4, hc1, hc2⟩ bs
  obtain ⟨rs, rfl, hx, hy⟩ := h1.ex
  obtain ⟨ds, rfl, hd⟩ := h3.ex
  obtain ⟨row, rfl, hr⟩ := h4.ex
  clear h1 h3 h4
  rw [unS_sL] at h2' ⊢
  rw [unD_dL, unI_iL]
  rw [sL_length] at h2
  rw [dL_length] at h3'
  cases hv : insV c rs m ds row
  · have e1 : insR c rs m ds row = rs := by unfold insR; rw [hv]; rfl
    have e2 : insD c rs m ds row = ds := by unfold insD; rw [hv]; rfl
    have e3 : (!isM c rs m ds || !rowOK row c || decide ((rs.length : Int) ≥ 40)) = true := by
      cases q : (!isM c rs m ds || !rowOK row c || decide ((rs.length : Int) ≥ 40)) with
      | true => rfl
      | false =>
        simp only [Bool.or_eq_false_iff, Bool.not_eq_false', decide_eq_false_iff_not] at q
        unfold insV at hv
        rw [q.1.1, q.1.2, decide_eq_true (by omega)] at hv
        cases hv
    rw [e1, e2]
    clear e1 e2 hv
    (repeat' (first
      | (refine gate_a fun _ => ?_)
      | (refine fork_intro (fun hb => ?_) (fun hb => ?_) <;> (try simp only [ew, e3] at hb))
      | (simp only [go_sem, Nat.reduceLeDiff, Nat.reduceEqDiff, reduceIte, reduceCtorEq, Nat.reduceAdd, Nat.reduceMul, Nat.reduceSub, Nat.reduceLT, Int.reduceLT, Int.reduceLE, Int.reduceNeg, Int.reduceToNat, Nat.reduceBEq, Nat.reduceBNe, Int.reduceGE, Int.reduceGT, *, cIns, cCopyM, cIsM, cL3Row, cL4A, cSpcS, Tryz.results8, e3])))
    all_goals first | rfl | skip
  · have e1 : insR c rs m ds row = rs ++ [row] := by unfold insR; rw [hv]; rfl
    have e2 : insD c rs m ds row = insC c m row rs ds := by unfold insD; rw [hv]; rfl
    rw [e1, e2]
    clear e1 e2
    unfold insV at hv
    rw [Bool.and_eq_true, Bool.and_eq_true, decide_eq_true_eq] at hv
    obtain ⟨⟨v1, v2⟩, v3⟩ := hv
    obtain ⟨t1, t2, t3⟩ := isM_facts v1
    have e3 : (!isM c rs m ds || !rowOK row c || decide ((rs.length : Int) ≥ 40)) = false := by
      rw [v1, v2, decide_eq_false (by omega)]; rfl
    have tZ := tab_snoc t1 v2 v3
    obtain ⟨c, rfl, c1, c5, h40, hlen⟩ := tab_rows t1
    have hrl := rowOK_len v2
    have hrl' : row.length = c := by omega
    have q1 : ds.length ≤ 160 := by rw [t3]; exact (@mdL_facts (c : Int) rs m).1
    have hsm := fun i => @insC_small (c : Int) m row (rs.take i) ds q1
    have e0 : insC (c : Int) m row (rs.take 0) ds = ds := rfl
    have hzl : (rs ++ [row]).length = rs.length + 1 := by simp
    have hzi : ∀ i, i < rs.length → (rs ++ [row]).getD i [] = rs.getD i [] := fun i h => by simp [List.getD_eq_getElem?_getD, List.getElem?_append_left h]
    have hzn : (rs ++ [row]).getD rs.length [] = row := by simp [List.getD_eq_getElem?_getD]
    have hrm : row.length ≤ maxLen := by rw [hrl']; exact Nat.le_trans c5 (by decide)
    have hzy : ∀ r ∈ rs ++ [row], r.length ≤ maxLen := fun r h => by
      rcases List.mem_append.1 h with h | h
      · exact hy r h
      · rw [List.mem_singleton] at h; rw [h]; exact hrm
    have hzm : rs.length + 1 ≤ maxLen := Nat.le_trans (show rs.length + 1 ≤ 40 by omega) (by decide)
    generalize hZ : rs ++ [row] = Z at tZ hzl hzi hzn hzy ⊢
    clear v1 v2 t1 t2 t3 hlen
    (repeat' (first
      | (refine gate_a fun _ => ?_)
      | (refine fork_intro (fun hb => ?_) (fun hb => ?_) <;> (try simp only [ew, e3, sL_snoc, iL_allscal, hZ] at hb))
      | (simp only [go_sem, Nat.reduceLeDiff, Nat.reduceEqDiff, reduceIte, reduceCtorEq, Nat.reduceAdd, Nat.reduceMul, Nat.reduceSub, Nat.reduceLT, Int.reduceLT, Int.reduceLE, Int.reduceNeg, Int.reduceToNat, Nat.reduceBEq, Nat.reduceBNe, Int.reduceGE, Int.reduceGT, *, cIns, cCopyM, cIsM, cL3Row, cL4A, cSpcS, Tryz.results8, e3, sL_snoc, iL_allscal, hZ])))
    refine loop_intro { ι := Nat, rs := [(44, 63)], mods := [(8, fun i => .one (.d (.v (.int .i64 i))))], boxes := [(2, fun _ => [.d (.v (.int .i64 c)), .d (.sl 1 (sL rs)), .d (.v (.int .i64 m)), .d (.sl 2 (dL ds))]), (4, fun _ => [.d (.v (.int .i64 0)), .d (.v (.slice none 0 0)), .d (.v (.int .i64 0)), .d (.v (.slice none 0 0))]), (6, fun i => [.d (.v (.int .i64 c)), .own 1 (sL Z) 1, .d (.v (.int .i64 m)), .own 2 (dL (insC c m row (rs.take i) ds)) 1])], arrs := [], ok := fun i => i ≤ rs.length, mu := fun i => rs.length - i } rfl 0 (Nat.zero_le _) ?_ fun i hi => ?_
    · clear hsm hzi
      (repeat' (first
      | (refine gate_a fun _ => ?_)
      | (refine fork_intro (fun hb => ?_) (fun hb => ?_) <;> (try simp only [ew, e0, hZ] at hb))
      | (simp only [go_sem, Nat.reduceLeDiff, Nat.reduceEqDiff, reduceIte, reduceCtorEq, Nat.reduceAdd, Nat.reduceMul, Nat.reduceSub, Nat.reduceLT, Int.reduceLT, Int.reduceLE, Int.reduceNeg, Int.reduceToNat, Nat.reduceBEq, Nat.reduceBNe, Int.reduceGE, Int.reduceGT, *, cIns, cCopyM, cIsM, cL3Row, cL4A, cSpcS, Tryz.results8, e0, hZ])))
      all_goals first | rfl | skip
    · dsimp only at i hi
      have s1 := hsm i
      have s2 : (insC (c : Int) m row (rs.take i) ds).length ≤ maxLen := Nat.le_trans s1 (by decide)
      clear hsm
      by_cases h5 : i < rs.length
      · have eS := insC_take (c := (c : Int)) (m := m) (row := row) (q := ds) h5
        have hzi := hzi i h5
        rw [Int.toNat_natCast, agL_comm, spc_eq] at eS
        have eS' : spcS (c : Int) (agL m (rs.getD i []) row c) (insC (c : Int) m row (rs.take i) ds) = insC (c : Int) m row (rs.take (i + 1)) ds := eS.symm
        have hiZ : i < Z.length := by omega
        have hnZ : rs.length < Z.length := by omega
        clear eS hZ
        generalize hP : insC (c : Int) m row (rs.take i) ds = P at s1 s2 eS'
        generalize hQ : insC (c : Int) m row (rs.take (i + 1)) ds = Q at eS'
        (repeat' (first
      | (refine gate_a fun _ => ?_)
      | (refine fork_intro (fun hb => ?_) (fun hb => ?_) <;> (try simp only [ew, hP, hzn] at hb))
      | (simp only [go_sem, Nat.reduceLeDiff, Nat.reduceEqDiff, reduceIte, reduceCtorEq, Nat.reduceAdd, Nat.reduceMul, Nat.reduceSub, Nat.reduceLT, Int.reduceLT, Int.reduceLE, Int.reduceNeg, Int.reduceToNat, Nat.reduceBEq, Nat.reduceBNe, Int.reduceGE, Int.reduceGT, *, cIns, cCopyM, cIsM, cL3Row, cL4A, cSpcS, Tryz.results8, hP, hzn])))
        refine loop_next (i + 1) (by dsimp only; omega) (by dsimp only; omega) ?_
        (repeat' (first
      | (refine gate_a fun _ => ?_)
      | (refine fork_intro (fun hb => ?_) (fun hb => ?_) <;> (try simp only [ew, hP, hQ, hzn, eS'] at hb))
      | (simp only [go_sem, Nat.reduceLeDiff, Nat.reduceEqDiff, reduceIte, reduceCtorEq, Nat.reduceAdd, Nat.reduceMul, Nat.reduceSub, Nat.reduceLT, Int.reduceLT, Int.reduceLE, Int.reduceNeg, Int.reduceToNat, Nat.reduceBEq, Nat.reduceBNe, Int.reduceGE, Int.reduceGT, *, cIns, cCopyM, cIsM, cL3Row, cL4A, cSpcS, Tryz.results8, hP, hQ, hzn, eS'])))
      · have e5 : i = rs.length := by omega
        subst e5
        have eT : rs.take rs.length = rs := List.take_length
        rw [eT] at s1 s2
        clear hzi
        (repeat' (first
      | (refine gate_a fun _ => ?_)
      | (refine fork_intro (fun hb => ?_) (fun hb => ?_) <;> (try simp only [ew, eT] at hb))
      | (simp only [go_sem, Nat.reduceLeDiff, Nat.reduceEqDiff, reduceIte, reduceCtorEq, Nat.reduceAdd, Nat.reduceMul, Nat.reduceSub, Nat.reduceLT, Int.reduceLT, Int.reduceLE, Int.reduceNeg, Int.reduceToNat, Nat.reduceBEq, Nat.reduceBNe, Int.reduceGE, Int.reduceGT, *, cIns, cCopyM, cIsM, cL3Row, cL4A, cSpcS, Tryz.results8, eT])))
        all_goals first | rfl | skip

/-! The law of InsertRow. -/
def cLawIns : Contract := ⟨[], false, fun
  | [.agg [.v (.int .i64 c), .sl 1 l, .v (.int .i64 m), .sl 2 q], .one (.sl 1 r)] => some ((WfS l ∧ WfD q ∧ -9223372036854775808 ≤ c ∧ c ≤ 9223372036854775807) ∧ WfI r, [⟨false, [.d (.v (.bool true))]⟩], [])
  | _ => none⟩
theorem insR_facts {c : Int} {rs : List (List Int)} {m : Int} {ds : List (Int × Int)} {row : List Int} (h1 : rs.length ≤ 16777216) (h2 : ∀ r ∈ rs, r.length ≤ 16777216) (h4 : ds.length ≤ 16777216) :
    (insR c rs m ds row).length ≤ 16777216 ∧ (∀ r ∈ insR c rs m ds row, r.length ≤ 16777216) ∧ (insD c rs m ds row).length ≤ 16777216 := by
  unfold insR insD
  cases hv : insV c rs m ds row
  · rw [if_neg (by decide), if_neg (by decide)]
    exact ⟨by omega, h2, h4⟩
  · rw [if_pos rfl, if_pos rfl]
    unfold insV at hv
    rw [Bool.and_eq_true, Bool.and_eq_true, decide_eq_true_eq] at hv
    obtain ⟨t1, _, t3⟩ := isM_facts hv.1.1
    have q1 : ds.length ≤ 160 := by rw [t3]; exact (@mdL_facts c rs m).1
    have := @insC_small c m row rs ds q1
    have h5 := (tab_small (tab_snoc t1 hv.1.2 hv.2)).2
    refine ⟨by simp; omega, fun r hr => ?_, by omega⟩
    have := h5 r hr
    omega
theorem lawIns_ok : ContractOK E0 3 cLawIns := by
  refine contract_of_wpc (E := E0) (T := mkT Tryz.prog [(7, cSzMon), (9, cToMon), (10, cToIntS), (8, cIns), (11, cIns), (12, cEqMon), (13, cEqIntS), (14, cMarkM), (15, cMarkI), (16, cHeldM)] false (fun _ => false) true (fun _ => false)) (mkT_ok (E := E0) (.cons szMon_ok (.cons toMon_ok (.cons toIntS_ok (.cons insS_ok (.cons insI_ok (.cons eqMonL_ok (.cons eqIntS_ok (.cons markM_ok (.cons markI_ok (.cons heldM_ok .nil))))))))))) (fn := Tryz.f3) Tryz.func3 (by kernel_rfl) rfl mixedT (by kernel_rfl) rfl ?_
  intro args p rs ms hr
  unfold cLawIns at hr
  dsimp only at hr
  split at hr
  rotate_left
  · cases hr
  rename_i c l m q r
  simp only [Option.some.injEq, Prod.mk.injEq] at hr
  obtain ⟨rfl, rfl, rfl⟩ := hr
  refine ⟨rfl, rfl, Nat.le_of_ble_eq_true rfl, ?_⟩
  have hm : maxLen = 9223372036854775807 := rfl
  rintro ⟨⟨h1, h2, hc1, hc2⟩, h3⟩ bs
  obtain ⟨rs, rfl, hx, hy⟩ := h1.ex
  obtain ⟨ds, rfl, hd⟩ := h2.ex
  obtain ⟨row, rfl, hr⟩ := h3.ex
  clear h1 h2 h3
  by_cases hg : (row.length : Int) > 1048576
  · (repeat' (first
      | (refine gate_a fun _ => ?_)
      | (refine fork_intro (fun hb => ?_) (fun hb => ?_) <;> (try simp only [ew] at hb))
      | (simp only [go_sem, Nat.reduceLeDiff, Nat.reduceEqDiff, reduceIte, reduceCtorEq, Nat.reduceAdd, Nat.reduceMul, Nat.reduceSub, Nat.reduceLT, Int.reduceLT, Int.reduceLE, Int.reduceNeg, Int.reduceToNat, Nat.reduceBEq, Nat.reduceBNe, Int.reduceGE, Int.reduceGT, *, cLawIns, cSzMon, cToMon, cToIntS, cIns, cEqMon, cEqIntS, cMarkM, cMarkI, cHeldM, Tryz.results3])))
    all_goals first | contradiction | skip
  · by_cases hs : szM rs ds.length 1048576 < 0
    · (repeat' (first
      | (refine gate_a fun _ => ?_)
      | (refine fork_intro (fun hb => ?_) (fun hb => ?_) <;> (try simp only [ew] at hb))
      | (simp only [go_sem, Nat.reduceLeDiff, Nat.reduceEqDiff, reduceIte, reduceCtorEq, Nat.reduceAdd, Nat.reduceMul, Nat.reduceSub, Nat.reduceLT, Int.reduceLT, Int.reduceLE, Int.reduceNeg, Int.reduceToNat, Nat.reduceBEq, Nat.reduceBNe, Int.reduceGE, Int.reduceGT, *, cLawIns, cSzMon, cToMon, cToIntS, cIns, cEqMon, cEqIntS, cMarkM, cMarkI, cHeldM, Tryz.results3])))
      all_goals first | contradiction | skip
    · obtain ⟨⟨f1, f2⟩, f3, f4⟩ := szM_facts (Int.le_refl _) hs
      have g1 : row.length ≤ 16777216 := by omega
      obtain ⟨r1, r2, r3⟩ := @insR_facts c rs m ds row f1 f2 f3
      have b4 := tot_big f1 f2
      have b5 := tot_big r1 r2
      have b11 := tot_48 f1 f2
      have b12 := tot_48 r1 r2
      have t1 := @tot_nonneg rs
      generalize hz : insR c rs m ds row = zs at r1 r2 b5
      generalize hzb : insV c rs m ds row = b
      generalize hzq : insD c rs m ds row = q at r3
      have k1 : zs.length ≤ maxLen := Nat.le_trans r1 (by decide)
      have k2 : ∀ r ∈ zs, r.length ≤ maxLen := fun r hr => Nat.le_trans (r2 r hr) (by decide)
      have k3 : q.length ≤ maxLen := Nat.le_trans r3 (by decide)
      have t2 := @tot_nonneg zs
      have b6 : ∀ r ∈ markRows zs 1, r.length ≤ 16777216 := markRows_leB r2
      have b7 : ∀ r ∈ markRows zs 1, r.length ≤ maxLen := markRows_leB k2
      have b8 := @tot_markRowsB zs 1
      have b9 := @markRows_length zs 1
      have b10 := heldM_marks (rs := zs) (n := q.length) (k := 1) (by omega)
      (repeat' (first
      | (refine gate_intro (by first | omega | ((repeat' (first | apply And.intro | assumption | omega | intro _)); done) | ((repeat' (first | apply And.intro | assumption | omega | intro _)); done) | (simp only [maxLen]; omega) | simp_all | (simp_all [maxLen]; omega)) fun _ => ?_)
      | (refine fork_intro (fun hb => ?_) (fun hb => ?_) <;> (try simp only [ew, hz, hzb, hzq, markD_length] at hb))
      | (simp only [go_sem, Nat.reduceLeDiff, Nat.reduceEqDiff, reduceIte, reduceCtorEq, Nat.reduceAdd, Nat.reduceMul, Nat.reduceSub, Nat.reduceLT, Int.reduceLT, Int.reduceLE, Int.reduceNeg, Int.reduceToNat, Nat.reduceBEq, Nat.reduceBNe, Int.reduceGE, Int.reduceGT, *, cLawIns, cSzMon, cToMon, cToIntS, cIns, cEqMon, cEqIntS, cMarkM, cMarkI, cHeldM, Tryz.results3, hz, hzb, hzq, markD_length])))
      all_goals (first | (exfalso; omega) | skip)
end Go.Own

namespace Go.Own
open Go Go.Proofs
set_option linter.unusedSimpArgs false
set_option linter.unusedVariables false
set_option maxRecDepth 20000
set_option maxHeartbeats 2000000

attribute [local go_sem] unD_dL dL_length dL_get dL_set dL_inj wfD_dL scal2 beq2 pair_eta dL_scal

/-! UpdateCell. -/
def updV (c : Int) (rs : List (List Int)) (m : Int) (ds : List (Int × Int)) (a k v : Int) : Bool := isM c rs m ds && inB a 0 ((rs.length : Int) - 1) && inB k 0 (c - 1) && inB v (-1) 40
def updRow (rs : List (List Int)) (a k v : Int) : List Int := (rs.getD a.toNat []).set k.toNat v
def updR (c : Int) (rs : List (List Int)) (m : Int) (ds : List (Int × Int)) (a k v : Int) : List (List Int) := if updV c rs m ds a k v then insR c (delR c rs m ds a) m (delD c rs m ds a) (updRow rs a k v) else rs
def updD (c : Int) (rs : List (List Int)) (m : Int) (ds : List (Int × Int)) (a k v : Int) : List (Int × Int) := if updV c rs m ds a k v then insD c (delR c rs m ds a) m (delD c rs m ds a) (updRow rs a k v) else ds
def updB (c : Int) (rs : List (List Int)) (m : Int) (ds : List (Int × Int)) (a k v : Int) : Bool := updV c rs m ds a k v && insV c (delR c rs m ds a) m (delD c rs m ds a) (updRow rs a k v)
def cUpd : Contract := ⟨[], false, fun
  | [.agg [.v (.int .i64 c), .sl 1 l, .v (.int .i64 m), .sl 2 q], .one (.v (.int .i64 a)), .one (.v (.int .i64 k)), .one (.v (.int .i64 v))] => some (WfS l ∧ (l.length ≤ 16777216 ∧ ∀ r ∈ unS l, r.length ≤ 16777216) ∧ WfD q ∧ q.length ≤ 16777216 ∧ -9223372036854775808 ≤ c ∧ c ≤ 9223372036854775807,
      [⟨true, [.d (.v (.int .i64 c)), .own 1 (sL (updR c (unS l) m (unD q) a k v)) 1, .d (.v (.int .i64 m)), .own 2 (dL (updD c (unS l) m (unD q) a k v)) 1]⟩, ⟨false, [.d (.v (.bool (updB c (unS l) m (unD q) a k v)))]⟩], [])
  | _ => none⟩
theorem updI_ok : ContractOK E0 25 cUpd := by
  refine contract_of_wpc (E := E0) (T := mkT Tryz.prog [(34, cIsM), (61, cHasCol), (33, cCopyM), (38, cCopyI), (18, cDel), (11, cIns)] false (fun _ => false) true (fun _ => false)) (mkT_ok (E := E0) (.cons isMI_ok (.cons hasCol_ok (.cons copyMI_ok (.cons copyI_ok (.cons delI_ok (.cons insI_ok .nil))))))) (fn := Tryz.f25) Tryz.func25 (by kernel_rfl) rfl mixedT (by kernel_rfl) rfl ?_
  intro args p rs ms hr
  unfold cUpd at hr
  dsimp only at hr
  split at hr
  rotate_left
  · cases hr
  rename_i c l m q a k v
  simp only [Option.some.injEq, Prod.mk.injEq] at hr
  obtain ⟨rfl, rfl, rfl⟩ := hr
  refine ⟨rfl, rfl, Nat.le_of_ble_eq_true rfl, ?_⟩
  have hm : maxLen = 9223372036854775807 := rfl
  rintro ⟨h1, ⟨h2, h2'⟩, h3, h3', hc1, hc2⟩ bs
  obtain ⟨rs, rfl, hx, hy⟩ := h1.ex
  obtain ⟨ds, rfl, hd⟩ := h3.ex
  clear h1 h3
  rw [unS_sL] at h2' ⊢
  rw [unD_dL]
  rw [sL_length] at h2
  rw [dL_length] at h3'
  cases hv : updV c rs m ds a k v
  · have e1 : updR c rs m ds a k v = rs := by unfold updR; rw [hv]; rfl
    have e2 : updD c rs m ds a k v = ds := by unfold updD; rw [hv]; rfl
    have e4 : updB c rs m ds a k v = false := by unfold updB; rw [hv]; rfl
    have e3 : (!isM c rs m ds || decide (a < 0) || decide (a ≥ (rs.length : Int)) || !(decide (k ≥ 0) && decide (k < c)) || decide (v < -1) || decide (v > 40)) = true := by
      cases q : (!isM c rs m ds || decide (a < 0) || decide (a ≥ (rs.length : Int)) || !(decide (k ≥ 0) && decide (k < c)) || decide (v < -1) || decide (v > 40)) with
      | true => rfl
      | false =>
        simp only [Bool.or_eq_false_iff, Bool.not_eq_false', decide_eq_false_iff_not, Bool.and_eq_true, decide_eq_true_eq] at q
        unfold updV at hv
        have i1 : inB a 0 ((rs.length : Int) - 1) = true := inB_iff.2 ⟨by omega, by omega⟩
        have i2 : inB k 0 (c - 1) = true := inB_iff.2 ⟨by omega, by omega⟩
        have i3 : inB v (-1) 40 = true := inB_iff.2 ⟨by omega, by omega⟩
        rw [q.1.1.1.1.1, i1, i2, i3] at hv
        cases hv
    rw [e1, e2, e4]
    clear e1 e2 e4 hv
    (repeat' (first
      | (refine gate_a fun _ => ?_)
      | (refine fork_intro (fun hb => ?_) (fun hb => ?_) <;> (try simp only [ew, e3] at hb))
      | (simp only [go_sem, Nat.reduceLeDiff, Nat.reduceEqDiff, reduceIte, reduceCtorEq, Nat.reduceAdd, Nat.reduceMul, Nat.reduceSub, Nat.reduceLT, Int.reduceLT, Int.reduceLE, Int.reduceNeg, Int.reduceToNat, Nat.reduceBEq, Nat.reduceBNe, Int.reduceGE, Int.reduceGT, *, cUpd, cIsM, cHasCol, cCopyM, cCopyI, cDel, cIns, Tryz.results25, e3])))
    all_goals first | rfl | skip
  · have e1 : updR c rs m ds a k v = insR c (delR c rs m ds a) m (delD c rs m ds a) (updRow rs a k v) := by unfold updR; rw [hv]; rfl
    have e2 : updD c rs m ds a k v = insD c (delR c rs m ds a) m (delD c rs m ds a) (updRow rs a k v) := by unfold updD; rw [hv]; rfl
    have e4 : updB c rs m ds a k v = insV c (delR c rs m ds a) m (delD c rs m ds a) (updRow rs a k v) := by unfold updB; rw [hv]; rfl
    rw [e1, e2, e4]
    clear e1 e2 e4
    unfold updV at hv
    rw [Bool.and_eq_true, Bool.and_eq_true, Bool.and_eq_true, inB_iff, inB_iff, inB_iff] at hv
    obtain ⟨⟨⟨v1, v2, v3⟩, v4, v5⟩, v6, v7⟩ := hv
    have t1 := (isM_facts v1).1
    obtain ⟨n, rfl⟩ := Int.eq_ofNat_of_zero_le v2
    obtain ⟨j, rfl⟩ := Int.eq_ofNat_of_zero_le v4
    obtain ⟨c, rfl, c1, c5, h40, hlen⟩ := tab_rows t1
    have hn : n < rs.length := by omega
    have hln := hlen n hn
    have hj : j < (rs.getD n []).length := by omega
    have e3 : (!isM (c : Int) rs m ds || decide ((n : Int) < 0) || decide (rs.length ≤ n) || !decide (j < c) || decide (v < -1) || decide (v > 40)) = false := by
      rw [v1, decide_eq_false (show ¬ (n : Int) < 0 by omega), decide_eq_false (show ¬ rs.length ≤ n by omega), decide_eq_true (show j < c by omega), decide_eq_false (show ¬ v < -1 by omega), decide_eq_false (show ¬ v > 40 by omega)]; rfl
    obtain ⟨r1, r2, r3⟩ := @delR_facts (c : Int) rs m ds n h2 h2' h3'
    have k1 : (delR (c : Int) rs m ds n).length ≤ maxLen := Nat.le_trans r1 (by decide)
    have k2 : ∀ r ∈ delR (c : Int) rs m ds n, r.length ≤ maxLen := fun r hr => Nat.le_trans (r2 r hr) (by decide)
    have k3 : (delD (c : Int) rs m ds n).length ≤ maxLen := Nat.le_trans r3 (by decide)
    have eU : updRow rs n j v = (rs.getD n []).set j v := rfl
    have lU : (rs.getD n []).length ≤ 16777216 := by omega
    have lU2 : (rs.getD n []).length ≤ maxLen := Nat.le_trans lU (by decide)
    generalize hR : delR (c : Int) rs m ds n = R at r1 r2 k1 k2 ⊢
    generalize hD : delD (c : Int) rs m ds n = D0 at r3 k3 ⊢
    clear v1 t1 hlen
    (repeat' (first
      | (refine gate_a fun _ => ?_)
      | (refine fork_intro (fun hb => ?_) (fun hb => ?_) <;> (try simp only [ew, e3, hR, hD, eU, iL_allscal] at hb))
      | (simp only [go_sem, Nat.reduceLeDiff, Nat.reduceEqDiff, reduceIte, reduceCtorEq, Nat.reduceAdd, Nat.reduceMul, Nat.reduceSub, Nat.reduceLT, Int.reduceLT, Int.reduceLE, Int.reduceNeg, Int.reduceToNat, Nat.reduceBEq, Nat.reduceBNe, Int.reduceGE, Int.reduceGT, *, cUpd, cIsM, cHasCol, cCopyM, cCopyI, cDel, cIns, Tryz.results25, e3, hR, hD, eU, iL_allscal])))
    all_goals first | rfl | skip
theorem updS_ok : ContractOK E0 24 cUpd := by
  refine contract_of_wpc (E := E0) (T := mkT Tryz.prog [(28, cIsM), (44, cL1In), (27, cCopyM), (17, cDel), (8, cIns)] false (fun _ => false) true (fun _ => false)) (mkT_ok (E := E0) (.cons isMS_ok (.cons l1In_ok (.cons copyMS_ok (.cons delS_ok (.cons insS_ok .nil)))))) (fn := Tryz.f24) Tryz.func24 (by kernel_rfl) rfl mixedT (by kernel_rfl) rfl ?_
  intro args p rs ms hr
  unfold cUpd at hr
  dsimp only at hr
  split at hr
  rotate_left
  · cases hr
  rename_i c l m q a k v
  simp only [Option.some.injEq, Prod.mk.injEq] at hr
  obtain ⟨rfl, rfl, rfl⟩ := hr
  refine ⟨rfl, rfl, Nat.le_of_ble_eq_true rfl, ?_⟩
  have hm : maxLen = 9223372036854775807 := rfl
  rintro ⟨h1, ⟨h2, h2'⟩, h3, h3', hc1, hc2⟩ bs
  obtain ⟨rs, rfl, hx, hy⟩ := h1.ex
  obtain ⟨ds, rfl, hd⟩ := h3.ex
  clear h1 h3
  rw [unS_sL] at h2' ⊢
  rw [unD_dL]
  rw [sL_length] at h2
  rw [dL_length] at h3'
  have e3 : (!isM c rs m ds || !inB a 0 ((rs.length : Int) - 1) || !inB k 0 (c - 1) || !inB v (-1) 40) = !updV c rs m ds a k v := by
    unfold updV; simp only [Bool.not_and]
  cases hv : updV c rs m ds a k v
  · have e1 : updR c rs m ds a k v = rs := by unfold updR; rw [hv]; rfl
    have e2 : updD c rs m ds a k v = ds := by unfold updD; rw [hv]; rfl
    have e4 : updB c rs m ds a k v = false := by unfold updB; rw [hv]; rfl
    rw [hv] at e3
    rw [e1, e2, e4]
    have hcm : isM c rs m ds = true → 1 ≤ c := fun h => by
      obtain ⟨c', rfl, q, _⟩ := tab_rows (isM_facts h).1
      omega
    clear e1 e2 e4 hv
    cases hM : isM c rs m ds
    · clear hcm e3
      (repeat' (first
      | (refine gate_a fun _ => ?_)
      | (refine fork_intro (fun hb => ?_) (fun hb => ?_) <;> (try simp only [ew, hM] at hb))
      | (simp only [go_sem, Nat.reduceLeDiff, Nat.reduceEqDiff, reduceIte, reduceCtorEq, Nat.reduceAdd, Nat.reduceMul, Nat.reduceSub, Nat.reduceLT, Int.reduceLT, Int.reduceLE, Int.reduceNeg, Int.reduceToNat, Nat.reduceBEq, Nat.reduceBNe, Int.reduceGE, Int.reduceGT, *, cUpd, cIsM, cL1In, cCopyM, cDel, cIns, Tryz.results24, hM])))
      all_goals first | rfl | skip
    · have hc0 := hcm hM
      rw [hM, Bool.not_true, Bool.false_or, Bool.not_false] at e3
      clear hcm
      (repeat' (first
      | (refine gate_a fun _ => ?_)
      | (refine fork_intro (fun hb => ?_) (fun hb => ?_) <;> (try simp only [ew, e3, hM] at hb))
      | (simp only [go_sem, Nat.reduceLeDiff, Nat.reduceEqDiff, reduceIte, reduceCtorEq, Nat.reduceAdd, Nat.reduceMul, Nat.reduceSub, Nat.reduceLT, Int.reduceLT, Int.reduceLE, Int.reduceNeg, Int.reduceToNat, Nat.reduceBEq, Nat.reduceBNe, Int.reduceGE, Int.reduceGT, *, cUpd, cIsM, cL1In, cCopyM, cDel, cIns, Tryz.results24, e3, hM])))
      all_goals first | rfl | skip
  · have e1 : updR c rs m ds a k v = insR c (delR c rs m ds a) m (delD c rs m ds a) (updRow rs a k v) := by unfold updR; rw [hv]; rfl
    have e2 : updD c rs m ds a k v = insD c (delR c rs m ds a) m (delD c rs m ds a) (updRow rs a k v) := by unfold updD; rw [hv]; rfl
    have e4 : updB c rs m ds a k v = insV c (delR c rs m ds a) m (delD c rs m ds a) (updRow rs a k v) := by unfold updB; rw [hv]; rfl
    rw [hv] at e3
    rw [e1, e2, e4]
    clear e1 e2 e4
    unfold updV at hv
    rw [Bool.and_eq_true, Bool.and_eq_true, Bool.and_eq_true, inB_iff, inB_iff, inB_iff] at hv
    obtain ⟨⟨⟨v1, v2, v3⟩, v4, v5⟩, v6, v7⟩ := hv
    have t1 := (isM_facts v1).1
    obtain ⟨n, rfl⟩ := Int.eq_ofNat_of_zero_le v2
    obtain ⟨j, rfl⟩ := Int.eq_ofNat_of_zero_le v4
    obtain ⟨c, rfl, c1, c5, h40, hlen⟩ := tab_rows t1
    have hn : n < rs.length := by omega
    have hln := hlen n hn
    have hj : j < (rs.getD n []).length := by omega
    obtain ⟨r1, r2, r3⟩ := @delR_facts (c : Int) rs m ds n h2 h2' h3'
    have k1 : (delR (c : Int) rs m ds n).length ≤ maxLen := Nat.le_trans r1 (by decide)
    have k2 : ∀ r ∈ delR (c : Int) rs m ds n, r.length ≤ maxLen := fun r hr => Nat.le_trans (r2 r hr) (by decide)
    have k3 : (delD (c : Int) rs m ds n).length ≤ maxLen := Nat.le_trans r3 (by decide)
    have eU : updRow rs n j v = (rs.getD n []).set j v := rfl
    have lU : (rs.getD n []).length ≤ 16777216 := by omega
    have lU2 : (rs.getD n []).length ≤ maxLen := Nat.le_trans lU (by decide)
    generalize hR : delR (c : Int) rs m ds n = R at r1 r2 k1 k2 ⊢
    generalize hD : delD (c : Int) rs m ds n = D0 at r3 k3 ⊢
    clear v1 t1 hlen
    (repeat' (first
      | (refine gate_a fun _ => ?_)
      | (refine fork_intro (fun hb => ?_) (fun hb => ?_) <;> (try simp only [ew, e3, hR, hD, eU, iL_allscal] at hb))
      | (simp only [go_sem, Nat.reduceLeDiff, Nat.reduceEqDiff, reduceIte, reduceCtorEq, Nat.reduceAdd, Nat.reduceMul, Nat.reduceSub, Nat.reduceLT, Int.reduceLT, Int.reduceLE, Int.reduceNeg, Int.reduceToNat, Nat.reduceBEq, Nat.reduceBNe, Int.reduceGE, Int.reduceGT, *, cUpd, cIsM, cL1In, cCopyM, cDel, cIns, Tryz.results24, e3, hR, hD, eU, iL_allscal])))
    all_goals first | rfl | skip

/-! The law of UpdateCell. -/
def cLawUpd : Contract := ⟨[], false, fun
  | [.agg [.v (.int .i64 c), .sl 1 l, .v (.int .i64 m), .sl 2 q], .one (.v (.int .i64 a)), .one (.v (.int .i64 k)), .one (.v (.int .i64 v))] => some ((WfS l ∧ WfD q ∧ -9223372036854775808 ≤ c ∧ c ≤ 9223372036854775807) ∧ (-9223372036854775808 ≤ a ∧ a ≤ 9223372036854775807) ∧ (-9223372036854775808 ≤ k ∧ k ≤ 9223372036854775807) ∧ -9223372036854775808 ≤ v ∧ v ≤ 9223372036854775807, [⟨false, [.d (.v (.bool true))]⟩], [])
  | _ => none⟩
theorem updR_facts {c : Int} {rs : List (List Int)} {m : Int} {ds : List (Int × Int)} {a k v : Int} (h1 : rs.length ≤ 16777216) (h2 : ∀ r ∈ rs, r.length ≤ 16777216) (h4 : ds.length ≤ 16777216) :
    (updR c rs m ds a k v).length ≤ 16777216 ∧ (∀ r ∈ updR c rs m ds a k v, r.length ≤ 16777216) ∧ (updD c rs m ds a k v).length ≤ 16777216 := by
  obtain ⟨r1, r2, r3⟩ := @delR_facts c rs m ds a h1 h2 h4
  unfold updR updD
  cases hv : updV c rs m ds a k v
  · rw [if_neg (by decide), if_neg (by decide)]
    exact ⟨h1, h2, h4⟩
  · rw [if_pos rfl, if_pos rfl]
    exact insR_facts r1 r2 r3
theorem lawUpd_ok : ContractOK E0 6 cLawUpd := by
  refine contract_of_wpc (E := E0) (T := mkT Tryz.prog [(7, cSzMon), (9, cToMon), (24, cUpd), (25, cUpd), (12, cEqMon), (14, cMarkM), (16, cHeldM)] false (fun _ => false) true (fun _ => false)) (mkT_ok (E := E0) (.cons szMon_ok (.cons toMon_ok (.cons updS_ok (.cons updI_ok (.cons eqMonL_ok (.cons markM_ok (.cons heldM_ok .nil)))))))) (fn := Tryz.f6) Tryz.func6 (by kernel_rfl) rfl mixedT (by kernel_rfl) rfl ?_
  intro args p rs ms hr
  unfold cLawUpd at hr
  dsimp only at hr
  split at hr
  rotate_left
  · cases hr
  rename_i c l m q a k v
  simp only [Option.some.injEq, Prod.mk.injEq] at hr
  obtain ⟨rfl, rfl, rfl⟩ := hr
  refine ⟨rfl, rfl, Nat.le_of_ble_eq_true rfl, ?_⟩
  have hm : maxLen = 9223372036854775807 := rfl
  rintro ⟨⟨h1, h2, hc1, hc2⟩, ⟨ha1, ha2⟩, ⟨hk1, hk2⟩, hv1, hv2⟩ bs
  obtain ⟨rs, rfl, hx, hy⟩ := h1.ex
  obtain ⟨ds, rfl, hd⟩ := h2.ex
  clear h1 h2
  by_cases hs : szM rs ds.length 1048576 < 0
  · (repeat' (first
      | (refine gate_a fun _ => ?_)
      | (refine fork_intro (fun hb => ?_) (fun hb => ?_) <;> (try simp only [ew] at hb))
      | (simp only [go_sem, Nat.reduceLeDiff, Nat.reduceEqDiff, reduceIte, reduceCtorEq, Nat.reduceAdd, Nat.reduceMul, Nat.reduceSub, Nat.reduceLT, Int.reduceLT, Int.reduceLE, Int.reduceNeg, Int.reduceToNat, Nat.reduceBEq, Nat.reduceBNe, Int.reduceGE, Int.reduceGT, *, cLawUpd, cSzMon, cToMon, cUpd, cEqMon, cMarkM, cHeldM, Tryz.results6])))
    all_goals first | contradiction | skip
  · obtain ⟨⟨f1, f2⟩, f3, f4⟩ := szM_facts (Int.le_refl _) hs
    obtain ⟨r1, r2, r3⟩ := @updR_facts c rs m ds a k v f1 f2 f3
    have b4 := tot_big f1 f2
    have b5 := tot_big r1 r2
    have b11 := tot_48 f1 f2
    have b12 := tot_48 r1 r2
    have t1 := @tot_nonneg rs
    generalize hz : updR c rs m ds a k v = zs at r1 r2 b5 b12
    generalize hzb : updB c rs m ds a k v = b
    generalize hzq : updD c rs m ds a k v = q at r3
    have k1 : zs.length ≤ maxLen := Nat.le_trans r1 (by decide)
    have k2 : ∀ r ∈ zs, r.length ≤ maxLen := fun r hr => Nat.le_trans (r2 r hr) (by decide)
    have k3 : q.length ≤ maxLen := Nat.le_trans r3 (by decide)
    have t2 := @tot_nonneg zs
    have b6 : ∀ r ∈ markRows zs 1, r.length ≤ 16777216 := markRows_leB r2
    have b7 : ∀ r ∈ markRows zs 1, r.length ≤ maxLen := markRows_leB k2
    have b8 := @tot_markRowsB zs 1
    have b9 := @markRows_length zs 1
    have b10 := heldM_marks (rs := zs) (n := q.length) (k := 1) (by omega)
    (repeat' (first
      | (refine gate_intro (by first | omega | ((repeat' (first | apply And.intro | assumption | omega | intro _)); done) | ((repeat' (first | apply And.intro | assumption | omega | intro _)); done) | (simp only [maxLen]; omega) | simp_all | (simp_all [maxLen]; omega)) fun _ => ?_)
      | (refine fork_intro (fun hb => ?_) (fun hb => ?_) <;> (try simp only [ew, hz, hzb, hzq, markD_length] at hb))
      | (simp only [go_sem, Nat.reduceLeDiff, Nat.reduceEqDiff, reduceIte, reduceCtorEq, Nat.reduceAdd, Nat.reduceMul, Nat.reduceSub, Nat.reduceLT, Int.reduceLT, Int.reduceLE, Int.reduceNeg, Int.reduceToNat, Nat.reduceBEq, Nat.reduceBNe, Int.reduceGE, Int.reduceGT, *, cLawUpd, cSzMon, cToMon, cUpd, cEqMon, cMarkM, cHeldM, Tryz.results6, hz, hzb, hzq, markD_length])))
    all_goals (first | (exfalso; omega) | skip)
end Go.Own
