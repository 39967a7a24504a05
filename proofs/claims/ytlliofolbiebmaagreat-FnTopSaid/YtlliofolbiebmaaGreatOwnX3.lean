/- Own contracts. Conditions: as each theorem states them. -/
import Derived.Test.YtlliofolbiebmaaGreatOwnTd
import Derived.Test.YtlliofolbiebmaaGreatOwnX5
import Derived.Test.YtlliofolbiebmaaGreatOwnX1
import Derived.Test.YtlliofolbiebmaaGreatOwnI6
import Derived.Test.YtlliofolbiebmaaGreatOwnH8
import Derived.Test.YtlliofolbiebmaaGreatOwnT1
set_option linter.unusedSimpArgs false
set_option linter.unusedVariables false
set_option maxRecDepth 20000
set_option maxHeartbeats 2000000
namespace Go.Own
open Go Go.Proofs
attribute [local go_sem] unD_dL dL_length dL_get dL_set dL_inj wfD_dL scal2 beq2 pair_eta dL_scal
def cCopyM : Contract := ⟨[], false, fun
 | [.agg [.v (.int .i64 c), .sl 1 l, .v (.int .i64 m), .sl 2 q]] => some (WfS l ∧ (l.length ≤ 16777216 ∧ ∀ r ∈ unS l, r.length ≤ 16777216) ∧ WfD q ∧ q.length ≤ 16777216, [⟨true, [.d (.v (.int .i64 c)), .own 1 l 1, .d (.v (.int .i64 m)), .own 2 q 1]⟩], [])
 | _ => none⟩
theorem copyMI_ok : ContractOK E0 59 cCopyM := by
 refine contract_of_wpc (E := E0) (T := mkT Tryz.prog [(37, cCopyT), (77, cCopyD)] false (fun _ => false) true (fun _ => false)) (mkT_ok (E := E0) (.cons copyTI_ok (.cons copyD_ok .nil))) (fn := Tryz.f59) Tryz.func59 (by kernel_rfl) rfl mixedT (by kernel_rfl) rfl ?_
 intro args p rs ms hr
 unfold cCopyM at hr
 dsimp only at hr
 split at hr
 rotate_left
 ·cases hr
 rename_i c l m q
 simp only [Option.some.injEq, Prod.mk.injEq] at hr
 obtain ⟨rfl, rfl, rfl⟩ := hr
 refine ⟨rfl, rfl, Nat.le_of_ble_eq_true rfl, ?_⟩
 have hm : maxLen = 9223372036854775807 := rfl
 rintro ⟨h1, ⟨h2, h2'⟩, h3, h3'⟩ bs
 obtain ⟨rs, rfl, hx, hy⟩ := h1.ex
 obtain ⟨ds, rfl, hd⟩ := h3.ex
 clear h1 h3
 rw [unS_sL] at h2'
 rw [sL_length] at h2
 rw [dL_length] at h3'
 (repeat' (first | (refine gate_a fun _ => ?_) | (refine fork_intro (fun hb => ?_) (fun hb => ?_) <;> (try simp only [ew] at hb)) | (simp only [go_sem, Nat.reduceLeDiff, Nat.reduceEqDiff, reduceIte, reduceCtorEq, Nat.reduceAdd, Nat.reduceMul, Nat.reduceSub, Nat.reduceLT, Int.reduceLT, Int.reduceLE, Int.reduceNeg, Int.reduceToNat, Nat.reduceBEq, Nat.reduceBNe, Int.reduceGE, Int.reduceGT, *, cCopyM, cCopyT, cCopyD, Tryz.results59])))
 all_goals first | rfl | skip
def insC (c m : Int) (row : List Int) (rs : List (List Int)) (q : List (Int × Int)) : List (Int × Int) := rs.foldl (fun q r => spcF c (agL m row r c.toNat) q) q
theorem insC_take {c m : Int} {row : List Int} {rs : List (List Int)} {q : List (Int × Int)} {i : Nat} (h : i < rs.length) : insC c m row (rs.take (i + 1)) q = spcF c (agL m row (rs.getD i []) c.toNat) (insC c m row (rs.take i) q) := by
 unfold insC
 rw [take_succ_getD h [], List.foldl_append]; rfl
theorem spcF_small {n ag : Int} {ds : List (Int × Int)} (h : ds.length ≤ 160) : (spcF n ag ds).length ≤ 160 := by
 rw [spc_eq]
 unfold spcS
 split
 ·rename_i hv
  unfold spcV at hv
  rw [Bool.and_eq_true] at hv
  have h5 := (isAttr_le hv.2).2.1
  have := @s17_len (lowL (keptD n ag ds) (keptD n ag ds).length) (pbsI n) (@pbsI_facts n).1 n.toNat
  omega
 ·exact h
theorem insC_small {c m : Int} {row : List Int} : ∀ {rs : List (List Int)} {q : List (Int × Int)}, q.length ≤ 160 → (insC c m row rs q).length ≤ 160
 | [], q, h => h
 | r :: rs, q, h => @insC_small c m row rs _ (spcF_small h)
def insV (c : Int) (rs : List (List Int)) (m : Int) (ds : List (Int × Int)) (row : List Int) : Bool := isM c rs m ds && rowOK row c && decide (rs.length < 40)
def insR (c : Int) (rs : List (List Int)) (m : Int) (ds : List (Int × Int)) (row : List Int) : List (List Int) := if insV c rs m ds row then rs ++ [row] else rs
def insD (c : Int) (rs : List (List Int)) (m : Int) (ds : List (Int × Int)) (row : List Int) : List (Int × Int) := if insV c rs m ds row then insC c m row rs ds else ds
def cIns : Contract := ⟨[], false, fun
 | [.agg [.v (.int .i64 c), .sl 1 l, .v (.int .i64 m), .sl 2 q], .one (.sl 1 r)] => some (WfS l ∧ (l.length ≤ 16777216 ∧ ∀ r ∈ unS l, r.length ≤ 16777216) ∧ WfD q ∧ q.length ≤ 16777216 ∧ WfI r ∧ -9223372036854775808 ≤ c ∧ c ≤ 9223372036854775807,
   [⟨true, [.d (.v (.int .i64 c)), .own 1 (sL (insR c (unS l) m (unD q) (unI r))) 1, .d (.v (.int .i64 m)), .own 2 (dL (insD c (unS l) m (unD q) (unI r))) 1]⟩, ⟨false, [.d (.v (.bool (insV c (unS l) m (unD q) (unI r))))]⟩], [])
 | _ => none⟩
theorem isM_facts {c : Int} {rs : List (List Int)} {m : Int} {ds : List (Int × Int)} (h : isM c rs m ds = true) : tabOK c rs = true ∧ modeOK m = true ∧ ds = mdL c rs m := by
 unfold isM at h
 simp only [Bool.and_eq_true, beq_iff_eq] at h
 exact ⟨h.1.1, h.1.2, h.2⟩
theorem tab_snoc {c : Int} {rs : List (List Int)} {row : List Int} (h : tabOK c rs = true) (hr : rowOK row c = true) (hl : rs.length < 40) : tabOK c (rs ++ [row]) = true := by
 unfold tabOK at *
 simp only [Bool.and_eq_true, decide_eq_true_eq, List.all_append, List.length_append] at *
 refine ⟨⟨h.1, by simp [hr]⟩, h.2.1, ?_⟩
 simp only [List.length_singleton]
 omega
theorem rowOK_len {row : List Int} {c : Int} (h : rowOK row c = true) : (row.length : Int) = c := by
 unfold rowOK at h
 simp only [Bool.and_eq_true, decide_eq_true_eq] at h
 exact h.2
theorem insI_ok : ContractOK E0 22 cIns := by
 refine contract_of_wpc (E := E0) (T := mkT Tryz.prog [(59, cCopyM), (60, cIsM), (61, cL3Row), (50, cAgree), (62, cSpc), (63, cCopyI)] false (fun _ => false) true (fun _ => false)) (mkT_ok (E := E0) (.cons copyMI_ok (.cons isMI_ok (.cons isRow_ok (.cons agree_ok (.cons spcI_ok (.cons copyI_ok .nil))))))) (fn := Tryz.f22) Tryz.func22 (by kernel_rfl) rfl mixedT (by kernel_rfl) rfl ?_
 intro args p rs ms hr
 unfold cIns at hr
 dsimp only at hr
 split at hr
 rotate_left
 ·cases hr
 rename_i c l m q r
 simp only [Option.some.injEq, Prod.mk.injEq] at hr
 obtain ⟨rfl, rfl, rfl⟩ := hr
 refine ⟨rfl, rfl, Nat.le_of_ble_eq_true rfl, ?_⟩
 have hm : maxLen = 9223372036854775807 := rfl
 rintro ⟨h1, ⟨h2, h2'⟩, h3, h3', h4, hc1, hc2⟩ bs
 obtain ⟨rs, rfl, hx, hy⟩ := h1.ex
 obtain ⟨ds, rfl, hd⟩ := h3.ex
 obtain ⟨row, rfl, hr⟩ := h4.ex
 clear h1 h3 h4
 rw [unS_sL] at h2' ⊢
 rw [unD_dL, unI_iL]
 rw [sL_length] at h2
 rw [dL_length] at h3'
 cases hv : insV c rs m ds row
 ·have e1 : insR c rs m ds row = rs := by unfold insR; rw [hv]; rfl
  have e2 : insD c rs m ds row = ds := by unfold insD; rw [hv]; rfl
  have e3 : (!isM c rs m ds || !rowOK row c || (rs.length : Int) == 40) = true := by
   cases q : (!isM c rs m ds || !rowOK row c || (rs.length : Int) == 40) with
   | true => rfl
   | false =>
    simp only [Bool.or_eq_false_iff, Bool.not_eq_false', beq_eq_false_iff_ne] at q
    have := (tab_small (isM_facts q.1.1).1).1
    unfold insV at hv
    rw [q.1.1, q.1.2, decide_eq_true (by omega)] at hv
    cases hv
  rw [e1, e2]
  clear e1 e2 hv
  (repeat' (first | (refine gate_a fun _ => ?_) | (refine fork_intro (fun hb => ?_) (fun hb => ?_) <;> (try simp only [ew, e3] at hb)) | (simp only [go_sem, Nat.reduceLeDiff, Nat.reduceEqDiff, reduceIte, reduceCtorEq, Nat.reduceAdd, Nat.reduceMul, Nat.reduceSub, Nat.reduceLT, Int.reduceLT, Int.reduceLE, Int.reduceNeg, Int.reduceToNat, Nat.reduceBEq, Nat.reduceBNe, Int.reduceGE, Int.reduceGT, *, cIns, cCopyM, cIsM, cL3Row, cAgree, cSpc, cCopyI, Tryz.results22, e3])))
  all_goals first | rfl | skip
 ·have e1 : insR c rs m ds row = rs ++ [row] := by unfold insR; rw [hv]; rfl
  have e2 : insD c rs m ds row = insC c m row rs ds := by unfold insD; rw [hv]; rfl
  rw [e1, e2]
  clear e1 e2
  unfold insV at hv
  rw [Bool.and_eq_true, Bool.and_eq_true, decide_eq_true_eq] at hv
  obtain ⟨⟨v1, v2⟩, v3⟩ := hv
  obtain ⟨t1, t2, t3⟩ := isM_facts v1
  have e3 : (!isM c rs m ds || !rowOK row c || (rs.length : Int) == 40) = false := by
   rw [v1, v2, beq_eq_false_iff_ne.2 (by omega)]; rfl
  obtain ⟨c, rfl, c1, c5, h40, hlen⟩ := tab_rows t1
  have hrl := rowOK_len v2
  have hrl' : row.length = c := by omega
  have q1 : ds.length ≤ 160 := by rw [t3]; exact (@mdL_facts (c : Int) rs m).1
  have hsm := fun i => @insC_small (c : Int) m row (rs.take i) ds q1
  have e0 : insC (c : Int) m row (rs.take 0) ds = ds := rfl
  clear v1 v2 t1 t2 t3
  (repeat' (first | (refine gate_a fun _ => ?_) | (refine fork_intro (fun hb => ?_) (fun hb => ?_) <;> (try simp only [ew, e3] at hb)) | (simp only [go_sem, Nat.reduceLeDiff, Nat.reduceEqDiff, reduceIte, reduceCtorEq, Nat.reduceAdd, Nat.reduceMul, Nat.reduceSub, Nat.reduceLT, Int.reduceLT, Int.reduceLE, Int.reduceNeg, Int.reduceToNat, Nat.reduceBEq, Nat.reduceBNe, Int.reduceGE, Int.reduceGT, *, cIns, cCopyM, cIsM, cL3Row, cAgree, cSpc, cCopyI, Tryz.results22, e3])))
  refine loop_intro { ι := Nat, rs := [(8, 9), (35, 51)], mods := [(34, fun i => .one (.d (.v (.int .i64 i))))], boxes := [(2, fun _ => [.d (.v (.int .i64 c)), .d (.sl 1 (sL rs)), .d (.v (.int .i64 m)), .d (.sl 2 (dL ds))]), (4, fun _ => [.d (.v (.int .i64 0)), .d (.v (.slice none 0 0)), .d (.v (.int .i64 0)), .d (.v (.slice none 0 0))]), (6, fun i => [.d (.v (.int .i64 c)), .own 1 (sL rs) 1, .d (.v (.int .i64 m)), .own 2 (dL (insC c m row (rs.take i) ds)) 1])], arrs := [], ok := fun i => i ≤ rs.length, mu := fun i => rs.length - i } rfl 0 (Nat.zero_le _) ?_ fun i hi => ?_
  ·clear hsm hlen
   (repeat' (first | (refine gate_a fun _ => ?_) | (refine fork_intro (fun hb => ?_) (fun hb => ?_) <;> (try simp only [ew, e0] at hb)) | (simp only [go_sem, Nat.reduceLeDiff, Nat.reduceEqDiff, reduceIte, reduceCtorEq, Nat.reduceAdd, Nat.reduceMul, Nat.reduceSub, Nat.reduceLT, Int.reduceLT, Int.reduceLE, Int.reduceNeg, Int.reduceToNat, Nat.reduceBEq, Nat.reduceBNe, Int.reduceGE, Int.reduceGT, *, cIns, cCopyM, cIsM, cL3Row, cAgree, cSpc, cCopyI, Tryz.results22, e0])))
   all_goals first | rfl | skip
  ·dsimp only at i hi
   have s1 := hsm i
   have s2 : (insC (c : Int) m row (rs.take i) ds).length ≤ maxLen := Nat.le_trans s1 (by decide)
   clear hsm
   by_cases h5 : i < rs.length
   ·have eS := insC_take (c := (c : Int)) (m := m) (row := row) (q := ds) h5
    have hli := hlen i h5
    clear hlen
    rw [Int.toNat_natCast] at eS
    generalize hP : insC (c : Int) m row (rs.take i) ds = P at s1 s2 eS
    have hag := agL_range (m := m) (a := row) (b := rs.getD i []) c5
    clear hrl
    (repeat' (first | (refine gate_a fun _ => ?_) | (refine fork_intro (fun hb => ?_) (fun hb => ?_) <;> (try simp only [ew, hP] at hb)) | (simp only [go_sem, Nat.reduceLeDiff, Nat.reduceEqDiff, reduceIte, reduceCtorEq, Nat.reduceAdd, Nat.reduceMul, Nat.reduceSub, Nat.reduceLT, Int.reduceLT, Int.reduceLE, Int.reduceNeg, Int.reduceToNat, Nat.reduceBEq, Nat.reduceBNe, Int.reduceGE, Int.reduceGT, *, cIns, cCopyM, cIsM, cL3Row, cAgree, cSpc, cCopyI, Tryz.results22, hP])))
    refine loop_next (i + 1) (by dsimp only; omega) (by dsimp only; omega) ?_
    (repeat' (first | (refine gate_a fun _ => ?_) | (refine fork_intro (fun hb => ?_) (fun hb => ?_) <;> (try simp only [ew, hP, eS] at hb)) | (simp only [go_sem, Nat.reduceLeDiff, Nat.reduceEqDiff, reduceIte, reduceCtorEq, Nat.reduceAdd, Nat.reduceMul, Nat.reduceSub, Nat.reduceLT, Int.reduceLT, Int.reduceLE, Int.reduceNeg, Int.reduceToNat, Nat.reduceBEq, Nat.reduceBNe, Int.reduceGE, Int.reduceGT, *, cIns, cCopyM, cIsM, cL3Row, cAgree, cSpc, cCopyI, Tryz.results22, hP, eS])))
   ·have e5 : i = rs.length := by omega
    subst e5
    have eT : rs.take rs.length = rs := List.take_length
    rw [eT] at s1 s2
    have hr5 : row.length ≤ 16777216 := by omega
    clear hlen
    (repeat' (first | (refine gate_a fun _ => ?_) | (refine fork_intro (fun hb => ?_) (fun hb => ?_) <;> (try simp only [ew, eT, sL_snoc, iL_allscal] at hb)) | (simp only [go_sem, Nat.reduceLeDiff, Nat.reduceEqDiff, reduceIte, reduceCtorEq, Nat.reduceAdd, Nat.reduceMul, Nat.reduceSub, Nat.reduceLT, Int.reduceLT, Int.reduceLE, Int.reduceNeg, Int.reduceToNat, Nat.reduceBEq, Nat.reduceBNe, Int.reduceGE, Int.reduceGT, *, cIns, cCopyM, cIsM, cL3Row, cAgree, cSpc, cCopyI, Tryz.results22, eT, sL_snoc, iL_allscal])))
    all_goals first | rfl | skip
end Go.Own
namespace Go.Own
open Go Go.Proofs
attribute [local go_sem] unD_dL dL_length dL_get dL_set dL_inj wfD_dL scal2 beq2 pair_eta dL_scal
def delL (rs : List (List Int)) (a : Nat) : List (List Int) := rs.take a ++ rs.drop (a + 1)
theorem sL_drop' {rs : List (List Int)} {i : Nat} : (sL rs).drop i = sL (rs.drop i) := by simp [sL, List.map_drop]
theorem sL_app' {xs ys : List (List Int)} : sL xs ++ sL ys = sL (xs ++ ys) := by simp [sL]
def delV (c : Int) (rs : List (List Int)) (m : Int) (ds : List (Int × Int)) (a : Int) : Bool := isM c rs m ds && inB a 0 ((rs.length : Int) - 1)
def delR (c : Int) (rs : List (List Int)) (m : Int) (ds : List (Int × Int)) (a : Int) : List (List Int) := if delV c rs m ds a then delL rs a.toNat else rs
def delD (c : Int) (rs : List (List Int)) (m : Int) (ds : List (Int × Int)) (a : Int) : List (Int × Int) := if delV c rs m ds a then dagF c (agsF c (delL rs a.toNat) m) else ds
def cDel : Contract := ⟨[], false, fun
 | [.agg [.v (.int .i64 c), .sl 1 l, .v (.int .i64 m), .sl 2 q], .one (.v (.int .i64 a))] => some (WfS l ∧ (l.length ≤ 16777216 ∧ ∀ r ∈ unS l, r.length ≤ 16777216) ∧ WfD q ∧ q.length ≤ 16777216 ∧ -9223372036854775808 ≤ c ∧ c ≤ 9223372036854775807,
   [⟨true, [.d (.v (.int .i64 c)), .own 1 (sL (delR c (unS l) m (unD q) a)) 1, .d (.v (.int .i64 m)), .own 2 (dL (delD c (unS l) m (unD q) a)) 1]⟩, ⟨false, [.d (.v (.bool (delV c (unS l) m (unD q) a)))]⟩], [])
 | _ => none⟩
theorem delL_facts {rs : List (List Int)} {a : Nat} {B : Nat} (h : ∀ r ∈ rs, r.length ≤ B) : (delL rs a).length ≤ rs.length ∧ ∀ r ∈ delL rs a, r.length ≤ B := by
 unfold delL
 refine ⟨by rw [List.length_append, List.length_take, List.length_drop]; omega, fun r hr => ?_⟩
 rcases List.mem_append.1 hr with hr | hr
 ·exact h r (List.mem_of_mem_take hr)
 ·exact h r (List.mem_of_mem_drop hr)
theorem dagF_facts {n : Int} {xs : List Int} : (dagF n xs).length ≤ 160 := by
 unfold dagF
 split
 ·rename_i h
  rw [Bool.and_eq_true, inB_iff] at h
  have := @minT_length (dagB xs) n n.toNat
  unfold minDs
  omega
 ·simp
theorem delI_ok : ContractOK E0 23 cDel := by
 refine contract_of_wpc (E := E0) (T := mkT Tryz.prog [(59, cCopyM), (60, cIsM), (14, cAgs), (13, cDag)] false (fun _ => false) true (fun _ => false)) (mkT_ok (E := E0) (.cons copyMI_ok (.cons isMI_ok (.cons agsI_ok (.cons dagI_ok .nil))))) (fn := Tryz.f23) Tryz.func23 (by kernel_rfl) rfl mixedT (by kernel_rfl) rfl ?_
 intro args p rs ms hr
 unfold cDel at hr
 dsimp only at hr
 split at hr
 rotate_left
 ·cases hr
 rename_i c l m q a
 simp only [Option.some.injEq, Prod.mk.injEq] at hr
 obtain ⟨rfl, rfl, rfl⟩ := hr
 refine ⟨rfl, rfl, Nat.le_of_ble_eq_true rfl, ?_⟩
 have hm : maxLen = 9223372036854775807 := rfl
 rintro ⟨h1, ⟨h2, h2'⟩, h3, h3', hc1, hc2⟩ bs
 obtain ⟨rs, rfl, hx, hy⟩ := h1.ex
 obtain ⟨ds, rfl, hd⟩ := h3.ex
 clear h1 h3
 rw [unS_sL] at h2' ⊢
 rw [unD_dL]
 rw [sL_length] at h2
 rw [dL_length] at h3'
 cases hv : delV c rs m ds a
 ·have e1 : delR c rs m ds a = rs := by unfold delR; rw [hv]; rfl
  have e2 : delD c rs m ds a = ds := by unfold delD; rw [hv]; rfl
  have e3 : (!isM c rs m ds || decide (a < 0) || decide (a ≥ (rs.length : Int))) = true := by
   cases q : (!isM c rs m ds || decide (a < 0) || decide (a ≥ (rs.length : Int))) with
   | true => rfl
   | false =>
    simp only [Bool.or_eq_false_iff, Bool.not_eq_false', decide_eq_false_iff_not] at q
    unfold delV at hv
    rw [q.1.1, Bool.true_and, ← Bool.not_eq_true, inB_iff] at hv
    omega
  rw [e1, e2]
  clear e1 e2 hv
  (repeat' (first | (refine gate_a fun _ => ?_) | (refine fork_intro (fun hb => ?_) (fun hb => ?_) <;> (try simp only [ew, e3] at hb)) | (simp only [go_sem, Nat.reduceLeDiff, Nat.reduceEqDiff, reduceIte, reduceCtorEq, Nat.reduceAdd, Nat.reduceMul, Nat.reduceSub, Nat.reduceLT, Int.reduceLT, Int.reduceLE, Int.reduceNeg, Int.reduceToNat, Nat.reduceBEq, Nat.reduceBNe, Int.reduceGE, Int.reduceGT, *, cDel, cCopyM, cIsM, cAgs, cDag, Tryz.results23, e3])))
  all_goals first | rfl | skip
 ·have e1 : delR c rs m ds a = delL rs a.toNat := by unfold delR; rw [hv]; rfl
  have e2 : delD c rs m ds a = dagF c (agsF c (delL rs a.toNat) m) := by unfold delD; rw [hv]; rfl
  rw [e1, e2]
  clear e1 e2
  unfold delV at hv
  rw [Bool.and_eq_true, inB_iff] at hv
  obtain ⟨v1, v2, v3⟩ := hv
  have e3 : (!isM c rs m ds || decide (a < 0) || decide (a ≥ (rs.length : Int))) = false := by
   rw [v1, decide_eq_false (by omega), decide_eq_false (by omega)]; rfl
  obtain ⟨n, rfl⟩ := Int.eq_ofNat_of_zero_le v2
  rw [Int.toNat_natCast]
  have hn : n < rs.length := by omega
  have e3b : (!isM c rs m ds || decide ((n : Int) < 0) || decide (rs.length ≤ n)) = false := by
   rw [v1, decide_eq_false (by omega), decide_eq_false (by omega)]; rfl
  have hne : sL rs ≠ [] := fun e => by have := congrArg List.length e; rw [sL_length, List.length_nil] at this; omega
  have h40 := (tab_small (isM_facts v1).1).1
  obtain ⟨d1, d2⟩ := delL_facts (a := n) hy
  have d3 : (delL rs n).length ≤ maxLen := by omega
  have eD : rs.take n ++ rs.drop (n + 1) = delL rs n := rfl
  have d4 := (@ags_facts c (delL rs n) m).1
  have d5 : (agsF c (delL rs n) m).length ≤ maxLen := Nat.le_trans d4 (by decide)
  have et : ((n : Int) + 1).toNat = n + 1 := by omega
  generalize hZ : delL rs n = Z at d1 d2 d3 d4 d5 eD ⊢
  clear v1
  (repeat' (first | (refine gate_a fun _ => ?_) | (refine fork_intro (fun hb => ?_) (fun hb => ?_) <;> (try simp only [ew, e3, e3b, hne, et, sL_take', sL_drop', sL_app', eD] at hb)) | (simp only [go_sem, Nat.reduceLeDiff, Nat.reduceEqDiff, reduceIte, reduceCtorEq, Nat.reduceAdd, Nat.reduceMul, Nat.reduceSub, Nat.reduceLT, Int.reduceLT, Int.reduceLE, Int.reduceNeg, Int.reduceToNat, Nat.reduceBEq, Nat.reduceBNe, Int.reduceGE, Int.reduceGT, *, cDel, cCopyM, cIsM, cAgs, cDag, Tryz.results23, e3, e3b, hne, et, sL_take', sL_drop', sL_app', eD])))
  all_goals first | rfl | skip
theorem delR_facts {c : Int} {rs : List (List Int)} {m : Int} {ds : List (Int × Int)} {a : Int} (h1 : rs.length ≤ 16777216) (h2 : ∀ r ∈ rs, r.length ≤ 16777216) (h4 : ds.length ≤ 16777216) :
  (delR c rs m ds a).length ≤ 16777216 ∧ (∀ r ∈ delR c rs m ds a, r.length ≤ 16777216) ∧ (delD c rs m ds a).length ≤ 16777216 := by
 unfold delR delD
 cases hv : delV c rs m ds a
 ·rw [if_neg (by decide), if_neg (by decide)]
  exact ⟨h1, h2, h4⟩
 ·rw [if_pos rfl, if_pos rfl]
  obtain ⟨k1, k2⟩ := delL_facts (a := a.toNat) h2
  have := @dagF_facts c (agsF c (delL rs a.toNat) m)
  exact ⟨by omega, k2, by omega⟩
end Go.Own
namespace Go.Own
open Go Go.Proofs
attribute [local go_sem] unD_dL dL_length dL_get dL_set dL_inj wfD_dL scal2 beq2 pair_eta dL_scal
end Go.Own
namespace Go.Own
open Go Go.Proofs
attribute [local go_sem] unD_dL dL_length dL_get dL_set dL_inj wfD_dL scal2 beq2 pair_eta dL_scal
def updV (c : Int) (rs : List (List Int)) (m : Int) (ds : List (Int × Int)) (a k v : Int) : Bool := isM c rs m ds && inB a 0 ((rs.length : Int) - 1) && inB k 0 (c - 1) && inB v (-1) 40
def updRow (rs : List (List Int)) (a k v : Int) : List Int := (rs.getD a.toNat []).set k.toNat v
def updR (c : Int) (rs : List (List Int)) (m : Int) (ds : List (Int × Int)) (a k v : Int) : List (List Int) := if updV c rs m ds a k v then insR c (delR c rs m ds a) m (delD c rs m ds a) (updRow rs a k v) else rs
def updD (c : Int) (rs : List (List Int)) (m : Int) (ds : List (Int × Int)) (a k v : Int) : List (Int × Int) := if updV c rs m ds a k v then insD c (delR c rs m ds a) m (delD c rs m ds a) (updRow rs a k v) else ds
def updB (c : Int) (rs : List (List Int)) (m : Int) (ds : List (Int × Int)) (a k v : Int) : Bool := updV c rs m ds a k v && insV c (delR c rs m ds a) m (delD c rs m ds a) (updRow rs a k v)
def cUpd : Contract := ⟨[], false, fun
 | [.agg [.v (.int .i64 c), .sl 1 l, .v (.int .i64 m), .sl 2 q], .one (.v (.int .i64 a)), .one (.v (.int .i64 k)), .one (.v (.int .i64 v))] => some (WfS l ∧ (l.length ≤ 16777216 ∧ ∀ r ∈ unS l, r.length ≤ 16777216) ∧ WfD q ∧ q.length ≤ 16777216 ∧ -9223372036854775808 ≤ c ∧ c ≤ 9223372036854775807,
   [⟨true, [.d (.v (.int .i64 c)), .own 1 (sL (updR c (unS l) m (unD q) a k v)) 1, .d (.v (.int .i64 m)), .own 2 (dL (updD c (unS l) m (unD q) a k v)) 1]⟩, ⟨false, [.d (.v (.bool (updB c (unS l) m (unD q) a k v)))]⟩], [])
 | _ => none⟩
theorem updI_ok : ContractOK E0 24 cUpd := by
 refine contract_of_wpc (E := E0) (T := mkT Tryz.prog [(60, cIsM), (64, cHasCol), (59, cCopyM), (63, cCopyI), (23, cDel), (22, cIns)] false (fun _ => false) true (fun _ => false)) (mkT_ok (E := E0) (.cons isMI_ok (.cons hasCol_ok (.cons copyMI_ok (.cons copyI_ok (.cons delI_ok (.cons insI_ok .nil))))))) (fn := Tryz.f24) Tryz.func24 (by kernel_rfl) rfl mixedT (by kernel_rfl) rfl ?_
 intro args p rs ms hr
 unfold cUpd at hr
 dsimp only at hr
 split at hr
 rotate_left
 ·cases hr
 rename_i c l m q a k v
 simp only [Option.some.injEq, Prod.mk.injEq] at hr
 obtain ⟨rfl, rfl, rfl⟩ := hr
 refine ⟨rfl, rfl, Nat.le_of_ble_eq_true rfl, ?_⟩
 have hm : maxLen = 9223372036854775807 := rfl
 rintro ⟨h1, ⟨h2, h2'⟩, h3, h3', hc1, hc2⟩ bs
 obtain ⟨rs, rfl, hx, hy⟩ := h1.ex
 obtain ⟨ds, rfl, hd⟩ := h3.ex
 clear h1 h3
 rw [unS_sL] at h2' ⊢
 rw [unD_dL]
 rw [sL_length] at h2
 rw [dL_length] at h3'
 cases hv : updV c rs m ds a k v
 ·have e1 : updR c rs m ds a k v = rs := by unfold updR; rw [hv]; rfl
  have e2 : updD c rs m ds a k v = ds := by unfold updD; rw [hv]; rfl
  have e4 : updB c rs m ds a k v = false := by unfold updB; rw [hv]; rfl
  have e3 : (!isM c rs m ds || decide (a < 0) || decide (a ≥ (rs.length : Int)) || !(decide (k ≥ 0) && decide (k < c)) || decide (v < -1) || decide (v > 40)) = true := by
   cases q : (!isM c rs m ds || decide (a < 0) || decide (a ≥ (rs.length : Int)) || !(decide (k ≥ 0) && decide (k < c)) || decide (v < -1) || decide (v > 40)) with
   | true => rfl
   | false =>
    simp only [Bool.or_eq_false_iff, Bool.not_eq_false', decide_eq_false_iff_not, Bool.and_eq_true, decide_eq_true_eq] at q
    unfold updV at hv
    have i1 : inB a 0 ((rs.length : Int) - 1) = true := inB_iff.2 ⟨by omega, by omega⟩
    have i2 : inB k 0 (c - 1) = true := inB_iff.2 ⟨by omega, by omega⟩
    have i3 : inB v (-1) 40 = true := inB_iff.2 ⟨by omega, by omega⟩
    rw [q.1.1.1.1.1, i1, i2, i3] at hv
    cases hv
  rw [e1, e2, e4]
  clear e1 e2 e4 hv
  (repeat' (first | (refine gate_a fun _ => ?_) | (refine fork_intro (fun hb => ?_) (fun hb => ?_) <;> (try simp only [ew, e3] at hb)) | (simp only [go_sem, Nat.reduceLeDiff, Nat.reduceEqDiff, reduceIte, reduceCtorEq, Nat.reduceAdd, Nat.reduceMul, Nat.reduceSub, Nat.reduceLT, Int.reduceLT, Int.reduceLE, Int.reduceNeg, Int.reduceToNat, Nat.reduceBEq, Nat.reduceBNe, Int.reduceGE, Int.reduceGT, *, cUpd, cIsM, cHasCol, cCopyM, cCopyI, cDel, cIns, Tryz.results24, e3])))
  all_goals first | rfl | skip
 ·have e1 : updR c rs m ds a k v = insR c (delR c rs m ds a) m (delD c rs m ds a) (updRow rs a k v) := by unfold updR; rw [hv]; rfl
  have e2 : updD c rs m ds a k v = insD c (delR c rs m ds a) m (delD c rs m ds a) (updRow rs a k v) := by unfold updD; rw [hv]; rfl
  have e4 : updB c rs m ds a k v = insV c (delR c rs m ds a) m (delD c rs m ds a) (updRow rs a k v) := by unfold updB; rw [hv]; rfl
  rw [e1, e2, e4]
  clear e1 e2 e4
  unfold updV at hv
  rw [Bool.and_eq_true, Bool.and_eq_true, Bool.and_eq_true, inB_iff, inB_iff, inB_iff] at hv
  obtain ⟨⟨⟨v1, v2, v3⟩, v4, v5⟩, v6, v7⟩ := hv
  have t1 := (isM_facts v1).1
  obtain ⟨n, rfl⟩ := Int.eq_ofNat_of_zero_le v2
  obtain ⟨j, rfl⟩ := Int.eq_ofNat_of_zero_le v4
  obtain ⟨c, rfl, c1, c5, h40, hlen⟩ := tab_rows t1
  have hn : n < rs.length := by omega
  have hln := hlen n hn
  have hj : j < (rs.getD n []).length := by omega
  have e3 : (!isM (c : Int) rs m ds || decide ((n : Int) < 0) || decide (rs.length ≤ n) || !decide (j < c) || decide (v < -1) || decide (v > 40)) = false := by
   rw [v1, decide_eq_false (show ¬ (n : Int) < 0 by omega), decide_eq_false (show ¬ rs.length ≤ n by omega), decide_eq_true (show j < c by omega), decide_eq_false (show ¬ v < -1 by omega), decide_eq_false (show ¬ v > 40 by omega)]; rfl
  obtain ⟨r1, r2, r3⟩ := @delR_facts (c : Int) rs m ds n h2 h2' h3'
  have k1 : (delR (c : Int) rs m ds n).length ≤ maxLen := Nat.le_trans r1 (by decide)
  have k2 : ∀ r ∈ delR (c : Int) rs m ds n, r.length ≤ maxLen := fun r hr => Nat.le_trans (r2 r hr) (by decide)
  have k3 : (delD (c : Int) rs m ds n).length ≤ maxLen := Nat.le_trans r3 (by decide)
  have eU : updRow rs n j v = (rs.getD n []).set j v := rfl
  have lU : (rs.getD n []).length ≤ 16777216 := by omega
  have lU2 : (rs.getD n []).length ≤ maxLen := Nat.le_trans lU (by decide)
  generalize hR : delR (c : Int) rs m ds n = R at r1 r2 k1 k2 ⊢
  generalize hD : delD (c : Int) rs m ds n = D0 at r3 k3 ⊢
  clear v1 t1 hlen
  (repeat' (first | (refine gate_a fun _ => ?_) | (refine fork_intro (fun hb => ?_) (fun hb => ?_) <;> (try simp only [ew, e3, hR, hD, eU, iL_allscal] at hb)) | (simp only [go_sem, Nat.reduceLeDiff, Nat.reduceEqDiff, reduceIte, reduceCtorEq, Nat.reduceAdd, Nat.reduceMul, Nat.reduceSub, Nat.reduceLT, Int.reduceLT, Int.reduceLE, Int.reduceNeg, Int.reduceToNat, Nat.reduceBEq, Nat.reduceBNe, Int.reduceGE, Int.reduceGT, *, cUpd, cIsM, cHasCol, cCopyM, cCopyI, cDel, cIns, Tryz.results24, e3, hR, hD, eU, iL_allscal])))
  all_goals first | rfl | skip
end Go.Own
/-
  Plain laws: the smallest sets, one more agreeing set. Conditions: as each theorem states them.
-/
namespace Go.Own
open Go Go.Proofs
def monoP (p : Int → Int → Bool) (n : Nat) (r : Int) : Prop := ∀ x ∈ pbsI (n : Nat), ∀ y ∈ pbsI (n : Nat), insB x y = true → p x r = true → p y r = true
def isMin (p : Int → Int → Bool) (n : Nat) (r x : Int) : Prop := x ∈ pbsI (n : Nat) ∧ hasB x r = false ∧ p x r = true ∧ ∀ y ∈ pbsI (n : Nat), insB y x = true → p y r = true → y = x
theorem pbs_R {n x : Int} (h : x ∈ pbsI n) : R5 x := (@pbsI_facts n).2.1 x h
theorem min_low {p : Int → Int → Bool} {n : Nat} {r x : Int} (hn : 1 ≤ n ∧ n ≤ 5) (hr : 0 ≤ r ∧ r ≤ 4) (mono : monoP p n r) : (x ∈ pbsI (n : Nat) ∧ lowB p n r x = true) ↔ isMin p n r x := by
 unfold lowB
 simp only [Bool.and_eq_true, Bool.not_eq_true', lowN_iff]
 constructor
 ·rintro ⟨h1, ⟨h2, h3⟩, h4⟩
  refine ⟨h1, h2, h3, fun y hy hi hp => ?_⟩
  obtain ⟨x', rfl⟩ := (pbs_R h1).fin
  obtain ⟨y', rfl⟩ := (pbs_R hy).fin
  by_cases e : y' = x'
  ·rw [e]
  ·obtain ⟨i, hi1, hi2⟩ := del_between x' y' hi e
   have hx31 := (isAttr_le ((pbsI_mem (by omega)).1 h1))
   have hlt : i.val < n := by
    have hA := (pbsI_mem (by omega)).1 h1
    simp only [isAttr, Bool.and_eq_true, inB_iff, all2, Int.toNat_natCast] at hA
    refine bit_lt ⟨n, by omega⟩ x' i ?_ hi1
    have e2 : ((2 ^ n : Nat) : Int) = (2 : Int) ^ n := by simp
    have h5 := hA.2.2
    dsimp only
    omega
   have hmem : delB ((x'.val : Nat) : Int) ((i.val : Nat) : Int) ∈ pbsI (n : Nat) := by
    have := (pbs_ord ⟨n, by omega⟩).2.2 ((x'.val : Nat) : Int) (by rw [← pbsI_nat (by omega)]; exact h1) i
    rw [pbsI_nat (by omega)]; exact this
   have := mono _ hy _ hmem hi2 hp
   rw [h4 i.val hlt hi1] at this
   cases this
 ·rintro ⟨h1, h2, h3, h4⟩
  refine ⟨h1, ⟨h2, h3⟩, fun i hi hb => ?_⟩
  obtain ⟨x', rfl⟩ := (pbs_R h1).fin
  have hmem : delB ((x'.val : Nat) : Int) ((i : Nat) : Int) ∈ pbsI (n : Nat) := by
   have := (pbs_ord ⟨n, by omega⟩).2.2 ((x'.val : Nat) : Int) (by rw [← pbsI_nat (by omega)]; exact h1) ⟨i, by omega⟩
   rw [pbsI_nat (by omega)]; exact this
  have hd := del_sub x' ⟨i, by omega⟩
  cases hp : p (delB ((x'.val : Nat) : Int) (i : Nat)) r with
  | false => rfl
  | true =>
   have := h4 _ hmem hd.1 hp
   have h5 := hd.2 hb
   dsimp only at h5
   omega
theorem minC_mem {p : Int → Int → Bool} {n : Nat} {r : Int} {d : Int × Int} (hn : 1 ≤ n ∧ n ≤ 5) (hr : 0 ≤ r ∧ r ≤ 4) (mono : monoP p n r) : d ∈ minC p n r ↔ d.2 = r ∧ isMin p n r d.1 := by
 rw [minC_low hn.2 hr mono, List.mem_map]
 constructor
 ·rintro ⟨x, hx, rfl⟩
  rw [List.mem_filter] at hx
  exact ⟨rfl, (min_low hn hr mono).1 hx⟩
 ·rintro ⟨rfl, h⟩
  exact ⟨d.1, List.mem_filter.2 ((min_low hn hr mono).2 h), rfl⟩
theorem minT_iff {p : Int → Int → Bool} {n : Nat} {d : Int × Int} (hn : 1 ≤ n ∧ n ≤ 5) (mono : ∀ r : Int, 0 ≤ r ∧ r ≤ 4 → monoP p n r) : ∀ {k : Nat}, k ≤ n → (d ∈ minT p n k ↔ (0 ≤ d.2 ∧ d.2 < k) ∧ isMin p n d.2 d.1)
 | 0, _ => by simp only [minT, List.not_mem_nil, false_iff]; rintro ⟨h, _⟩; omega
 | k + 1, hk => by
  rw [minT, List.mem_append, @minT_iff p n d hn mono k (by omega), minC_mem hn ⟨by omega, by omega⟩ (mono _ ⟨by omega, by omega⟩)]
  constructor
  ·rintro (⟨h1, h2⟩ | ⟨h1, h2⟩)
   ·exact ⟨by omega, h2⟩
   ·rw [h1]; exact ⟨by omega, h2⟩
  ·rintro ⟨h1, h2⟩
   by_cases e : d.2 = (k : Nat)
   ·right; rw [← e]; exact ⟨rfl, h2⟩
   ·left; exact ⟨by omega, h2⟩
theorem minDs_iff {p : Int → Int → Bool} {n : Nat} {d : Int × Int} (hn : 1 ≤ n ∧ n ≤ 5) (mono : ∀ r : Int, 0 ≤ r ∧ r ≤ 4 → monoP p n r) : d ∈ minDs p n ↔ (0 ≤ d.2 ∧ d.2 < n) ∧ isMin p n d.2 d.1 := by
 unfold minDs
 rw [Int.toNat_natCast]
 exact minT_iff hn mono (Nat.le_refl _)
theorem minT_sorted {p : Int → Int → Bool} {n : Nat} (hn : 1 ≤ n ∧ n ≤ 5) (mono : ∀ r : Int, 0 ≤ r ∧ r ≤ 4 → monoP p n r) : ∀ {k : Nat}, k ≤ n → (minT p n k).Pairwise fun d e => keyD d < keyD e
 | 0, _ => .nil
 | k + 1, hk => by
  rw [minT, List.pairwise_append]
  have hk4 : (0 : Int) ≤ (k : Nat) ∧ ((k : Nat) : Int) ≤ 4 := ⟨by omega, by omega⟩
  refine ⟨@minT_sorted p n hn mono k (by omega), ?_, fun d hd e he => ?_⟩
  ·rw [minC_low hn.2 hk4 (mono _ hk4), List.pairwise_map]
   refine ((pbsI_keyed (n := (n : Nat)) (by omega)).filter _).imp fun {x y} h => ?_
   rw [keyD_eq hk4, keyD_eq hk4]
   omega
  ·rw [minT_iff hn mono (by omega)] at hd
   rw [minC_mem hn hk4 (mono _ hk4)] at he
   obtain ⟨d1, d2⟩ := d
   obtain ⟨e1, e2⟩ := e
   obtain ⟨rfl, he⟩ := he
   obtain ⟨hd1, hd⟩ := hd
   dsimp only at *
   rw [keyD_eq (by omega), keyD_eq hk4]
   have := keyS_le (toF d1)
   have : d2.toNat < k := by omega
   rw [Int.toNat_natCast]
   omega
theorem minDs_sorted {p : Int → Int → Bool} {n : Nat} (hn : 1 ≤ n ∧ n ≤ 5) (mono : ∀ r : Int, 0 ≤ r ∧ r ≤ 4 → monoP p n r) : (minDs p n).Pairwise fun d e => keyD d < keyD e := by
 unfold minDs
 rw [Int.toNat_natCast]
 exact minT_sorted hn mono (Nat.le_refl _)
theorem minDs_ext {p q : Int → Int → Bool} {n : Nat} (h : ∀ r : Int, 0 ≤ r ∧ r < n → ∀ x ∈ pbsI (n : Nat), p x r = q x r) : minDs p n = minDs q n := by
 have key : ∀ k : Nat, k ≤ n → minT p n k = minT q n k := by
  intro k
  induction k with
  | zero => intro _; rfl
  | succ k ih =>
   intro hk
   rw [minT, minT, ih (by omega)]
   congr 1
   unfold minC
   congr 1
   have : ∀ (xs : List Int) (tk : List Int), (∀ x ∈ xs, x ∈ pbsI (n : Nat)) → minR p (k : Nat) tk xs = minR q (k : Nat) tk xs := by
    intro xs
    induction xs with
    | nil => intro tk _; rfl
    | cons x xs ih2 =>
     intro tk hx
     rw [minR, minR, h (k : Nat) ⟨by omega, by omega⟩ x (hx x (by simp))]
     split
     ·exact ih2 _ fun y hy => hx y (by simp [hy])
     ·exact ih2 _ fun y hy => hx y (by simp [hy])
   exact this _ _ fun x h => h
 unfold minDs
 rw [Int.toNat_natCast]
 exact key n (Nat.le_refl _)
theorem exists_min {p : Int → Int → Bool} {n : Nat} {r z : Int} (hn : 1 ≤ n ∧ n ≤ 5) (hr : 0 ≤ r ∧ r ≤ 4) (mono : monoP p n r) (hz : z ∈ pbsI (n : Nat)) (hp : p z r = true) (hh : hasB z r = false) : ∃ y, insB y z = true ∧ isMin p n r y := by
 obtain ⟨y, h1, h2, h3⟩ := exists_low hn.2 hr hz (Nat.le_refl _) hp hh
 exact ⟨y, h2, (min_low hn hr mono).1 ⟨h1, h3⟩⟩
def andAg (ag : Int) (p : Int → Int → Bool) (x r : Int) : Bool := p x r && (!insB x ag || hasB ag r)
theorem andAg_mono {p : Int → Int → Bool} {n : Nat} {r ag : Int} (hag : R5 ag) (mono : monoP p n r) : monoP (andAg ag p) n r := by
 intro x hx y hy hxy h
 unfold andAg at *
 rw [Bool.and_eq_true, Bool.or_eq_true, Bool.not_eq_true'] at *
 refine ⟨mono x hx y hy hxy h.1, h.2.imp (fun h1 => ?_) id⟩
 cases h2 : insB y ag with
 | false => rfl
 | true => rw [insB_trans (pbs_R hx) (pbs_R hy) hag hxy h2] at h1; cases h1
theorem hasB_ne {x c r : Int} (h : hasB x c = true) (hr : hasB x r = false) : c ≠ r := fun e => by rw [e, hr] at h; cases h
theorem leB_bit {x y : Int} (hx : R5 x) (hy : R5 y) (h : insB x y = true) {c : Int} (hc : 0 ≤ c ∧ c ≤ 4) (hb : hasB x c = true) : hasB y c = true := by
 obtain ⟨k, rfl⟩ := Int.eq_ofNat_of_zero_le hc.1
 exact (insB_iff hx hy).1 h ⟨k, by omega⟩ hb
theorem not_ins {x y : Int} (hx : R5 x) (hy : R5 y) (h : insB x y = false) : ∃ k : Nat, k < 5 ∧ hasB x (k : Nat) = true ∧ hasB y (k : Nat) = false := by
 by_cases q : ∃ k : Nat, k < 5 ∧ hasB x (k : Nat) = true ∧ hasB y (k : Nat) = false
 ·exact q
 ·have : insB x y = true := (insB_iff hx hy).2 fun c hc => by
   cases hb : hasB y (c.val : Nat) with
   | true => rfl
   | false => exact absurd ⟨c.val, c.isLt, hc, hb⟩ q
  rw [this] at h; cases h
theorem addB_nat {x : Int} (hx : R5 x) {k c : Nat} (hk : k < 5) (hc : c < 5) : hasB (addB x (k : Nat)) (c : Nat) = (hasB x (c : Nat) || c == k) := by
 have := addB_has (r := ⟨k, hk⟩) hx ⟨c, hc⟩
 rw [this]
 congr 1
 by_cases e : c = k
 ·subst e; simp
 ·rw [beq_eq_false_iff_ne.2 e, beq_eq_false_iff_ne.2 (by simp [Fin.ext_iff, e])]
theorem ins_add {x : Int} (hx : R5 x) {k : Nat} (hk : k < 5) : insB x (addB x (k : Nat)) = true := (insB_iff hx (addB_R hx ⟨by omega, by omega⟩)).2 fun c hc => by rw [addB_nat hx hk c.isLt, hc, Bool.true_or]
theorem add_ins {x y : Int} (hx : R5 x) (hy : R5 y) {k : Nat} (hk : k < 5) (h : insB x y = true) (hb : hasB y (k : Nat) = true) : insB (addB x (k : Nat)) y = true := (insB_iff (addB_R hx ⟨by omega, by omega⟩) hy).2 fun c hc => by
 rw [addB_nat hx hk c.isLt, Bool.or_eq_true, beq_iff_eq] at hc
 rcases hc with hc | hc
 ·exact (insB_iff hx hy).1 h c hc
 ·rw [hc]; exact hb
theorem isAttr_bit {n : Nat} {x : Int} (hn : n ≤ 5) (h : isAttr (n : Nat) x = true) {k : Nat} (hk : k < 5) (hb : hasB x (k : Nat) = true) : k < n := by
 have h1 := isAttr_le h
 obtain ⟨x', rfl⟩ := (show R5 x from ⟨h1.2.2.1, h1.2.2.2⟩).fin
 simp only [isAttr, Bool.and_eq_true, inB_iff, all2, Int.toNat_natCast] at h
 refine bit_lt ⟨n, by omega⟩ x' ⟨k, hk⟩ ?_ hb
 have e2 : ((2 ^ n : Nat) : Int) = (2 : Int) ^ n := by simp
 dsimp only
 omega
theorem attr_key : ∀ n : Fin 6, ∀ x : Fin 32, ∀ k : Fin 5, x.val < 2 ^ n.val → k.val < n.val → addB ((x.val : Nat) : Int) ((k.val : Nat) : Int) ≤ 2 ^ n.val - 1 := by decide +kernel
theorem isAttr_add {n : Nat} {x : Int} (hn : n ≤ 5) (h : isAttr (n : Nat) x = true) {k : Nat} (hk : k < n) : isAttr (n : Nat) (addB x (k : Nat)) = true := by
 have h1 := isAttr_le h
 obtain ⟨x', rfl⟩ := (show R5 x from ⟨h1.2.2.1, h1.2.2.2⟩).fin
 have h2 := addB_R (x := ((x'.val : Nat) : Int)) (r := (k : Nat)) ⟨by omega, by omega⟩ ⟨by omega, by omega⟩
 simp only [isAttr, Bool.and_eq_true, inB_iff, all2, Int.toNat_natCast] at h ⊢
 have e2 : ((2 ^ n : Nat) : Int) = (2 : Int) ^ n := by simp
 have := attr_key ⟨n, by omega⟩ x' ⟨k, by omega⟩ (by dsimp only; omega) hk
 dsimp only at this
 exact ⟨by omega, h2.1, by omega⟩
theorem depOK_of {n : Nat} {x r : Int} (hn : 1 ≤ n ∧ n ≤ 5) (hx : x ∈ pbsI (n : Nat)) (hr : 0 ≤ r ∧ r < n) : depOK (n : Nat) x r = true := by
 unfold depOK
 rw [Bool.and_eq_true, Bool.and_eq_true, inB_iff, inB_iff]
 exact ⟨⟨by omega, (pbsI_mem (by omega)).1 hx⟩, by omega⟩
theorem ext_R5 {x y : Int} (hx : R5 x) (hy : R5 y) (h1 : insB x y = true) (h2 : insB y x = true) : x = y := leB_antisymm hx hy ((insB_iff hx hy).1 h1) ((insB_iff hy hx).1 h2)
theorem spc_min {p : Int → Int → Bool} {n : Nat} {ag : Int} (hn : 1 ≤ n ∧ n ≤ 5) (hag : isAttr (n : Nat) ag = true) (mono : ∀ r : Int, 0 ≤ r ∧ r ≤ 4 → monoP p n r) : spcF (n : Nat) ag (minDs p n) = minDs (andAg ag p) n := by
 have hag5 : R5 ag := by have := isAttr_le hag; exact ⟨this.2.2.1, this.2.2.2⟩
 have mono2 : ∀ r : Int, 0 ≤ r ∧ r ≤ 4 → monoP (andAg ag p) n r := fun r hr => andAg_mono hag5 (mono r hr)
 unfold spcF
 rw [if_pos (by unfold spcV; rw [hag, Bool.and_true, decide_eq_true_eq]; omega)]
 unfold spcM
 obtain ⟨L1, L2⟩ := @spcL_facts (n : Nat) ag (by omega) (minDs p n)
 obtain ⟨S1, S2⟩ := comp_srtD L2
 have mem : ∀ d : Int × Int, d ∈ spcL (n : Nat) ag (minDs p n) → (0 ≤ d.2 ∧ d.2 < n) ∧ d.1 ∈ pbsI (n : Nat) ∧ hasB d.1 d.2 = false ∧ andAg ag p d.1 d.2 = true := by
  intro d hd
  unfold spcL at hd
  rw [List.mem_flatMap] at hd
  obtain ⟨e, he, hd⟩ := hd
  rw [minDs_iff hn mono] at he
  obtain ⟨e1, e2, e3, e4, _⟩ := he
  unfold spcR at hd
  rw [if_pos (depOK_of hn e2 e1)] at hd
  split at hd
  ·rename_i hb
   rw [List.mem_singleton] at hd
   subst hd
   refine ⟨e1, e2, e3, ?_⟩
   unfold andAg
   rw [e4, hb]; rfl
  ·rename_i hb
   rw [Bool.or_eq_true, not_or, Bool.not_eq_true', Bool.not_eq_false, Bool.not_eq_true] at hb
   rw [Int.toNat_natCast, extN_mem] at hd
   obtain ⟨k, k1, k2, k3, rfl⟩ := hd
   have he5 := pbs_R e2
   have hA := (pbsI_mem (n := (n : Nat)) (by omega)).1 e2
   have hx : addB e.1 (k : Nat) ∈ pbsI (n : Nat) := (pbsI_mem (by omega)).2 (isAttr_add hn.2 hA k1)
   refine ⟨e1, hx, ?_, ?_⟩
   ·obtain ⟨j, hj⟩ := Int.eq_ofNat_of_zero_le e1.1
    dsimp only
    rw [hj] at e3 k3 e1 ⊢
    rw [addB_nat he5 (by omega) (by omega), e3, Bool.false_or, beq_eq_false_iff_ne]
    intro h; exact k3 (by rw [h])
   ·unfold andAg
    dsimp only
    rw [mono _ ⟨by omega, by omega⟩ _ e2 _ hx (ins_add he5 (by omega)) e4, Bool.true_and, Bool.or_eq_true, Bool.not_eq_true']
    left
    cases hq : insB (addB e.1 (k : Nat)) ag with
    | false => rfl
    | true =>
     have := leB_bit (pbs_R hx) hag5 hq (c := (k : Nat)) ⟨by omega, by omega⟩ (by rw [addB_nat he5 (by omega) (by omega)]; simp)
     rw [k2] at this; cases this
 have least : ∀ (x r : Int), (0 ≤ r ∧ r < n) → isMin (andAg ag p) n r x → (x, r) ∈ spcL (n : Nat) ag (minDs p n) := by
  rintro x r hr ⟨hx, hb, hq, hl⟩
  have hr4 : 0 ≤ r ∧ r ≤ 4 := ⟨by omega, by omega⟩
  have hq0 := hq
  unfold andAg at hq
  rw [Bool.and_eq_true, Bool.or_eq_true, Bool.not_eq_true'] at hq
  obtain ⟨y, hyx, hy⟩ := exists_min hn hr4 (mono r hr4) hx hq.1 hb
  have hyd : (y, r) ∈ minDs p n := (minDs_iff hn mono).2 ⟨hr, hy⟩
  obtain ⟨y1, y2, y3, y4⟩ := hy
  unfold spcL
  rw [List.mem_flatMap]
  refine ⟨(y, r), hyd, ?_⟩
  unfold spcR
  rw [if_pos (depOK_of hn y1 hr)]
  by_cases hbk : (!insB y ag || hasB ag r) = true
  ·rw [if_pos hbk, List.mem_singleton]
   have : y = x := hl y y1 hyx (by unfold andAg; rw [y3, hbk]; rfl)
   rw [this]
  ·rw [if_neg hbk, Int.toNat_natCast, extN_mem]
   rw [Bool.or_eq_true, not_or, Bool.not_eq_true', Bool.not_eq_false, Bool.not_eq_true] at hbk
   have hxa : insB x ag = false := by
    rcases hq.2 with h | h
    ·exact h
    ·rw [hbk.2] at h; cases h
   obtain ⟨k, k5, kx, kag⟩ := not_ins (pbs_R hx) hag5 hxa
   have kn := isAttr_bit hn.2 ((pbsI_mem (n := (n : Nat)) (by omega)).1 hx) k5 kx
   have y5 := pbs_R y1
   have hA := (pbsI_mem (n := (n : Nat)) (by omega)).1 y1
   have hm : addB y (k : Nat) ∈ pbsI (n : Nat) := (pbsI_mem (by omega)).2 (isAttr_add hn.2 hA kn)
   have hin : insB (addB y (k : Nat)) x = true := add_ins y5 (pbs_R hx) k5 hyx kx
   have : addB y (k : Nat) = x := hl _ hm hin (by
    unfold andAg
    rw [mono r hr4 y y1 _ hm (ins_add y5 k5) y3, Bool.true_and, Bool.or_eq_true, Bool.not_eq_true']
    left
    cases hz : insB (addB y (k : Nat)) ag with
    | false => rfl
    | true =>
     have := leB_bit (pbs_R hm) hag5 hz (c := (k : Nat)) ⟨by omega, by omega⟩ (by rw [addB_nat y5 k5 k5]; simp)
     rw [kag] at this; cases this)
   refine ⟨k, kn, kag, hasB_ne kx hb, ?_⟩
   rw [this]
 refine keyed_ext (key := keyD) (S1.filter _) (minDs_sorted hn mono2) fun d => ?_
 rw [List.mem_filter, S2, minDs_iff hn mono2, List.all_eq_true]
 constructor
 ·rintro ⟨h1, h2⟩
  obtain ⟨m1, m2, m3, m4⟩ := mem d h1
  refine ⟨m1, m2, m3, m4, fun y hy hyd hq => ?_⟩
  have hr4 : 0 ≤ d.2 ∧ d.2 ≤ 4 := ⟨by omega, by omega⟩
  have hyb : hasB y d.2 = false := by
   cases hb : hasB y d.2 with
   | false => rfl
   | true => rw [leB_bit (pbs_R hy) (pbs_R m2) hyd hr4 hb] at m3; cases m3
  obtain ⟨z, hzy, hz⟩ := exists_min hn hr4 (mono2 _ hr4) hy hq hyb
  have hzl := least z d.2 m1 hz
  have ht := h2 (z, d.2) ((S2 _).2 hzl)
  unfold lowT at ht
  have hzd := insB_trans (pbs_R hz.1) (pbs_R hy) (pbs_R m2) hzy hyd
  dsimp only at ht
  rw [hzd, Bool.not_true, Bool.or_false, Bool.or_eq_true, beq_iff_eq, bne_self_eq_false, Bool.false_eq_true, or_false] at ht
  have e : z = d.1 := congrArg Prod.fst ht
  rw [e] at hzy
  exact ext_R5 (pbs_R hy) (pbs_R m2) hyd hzy
 ·rintro ⟨h1, h2⟩
  refine ⟨least d.1 d.2 h1 h2, fun e he => ?_⟩
  rw [S2] at he
  obtain ⟨m1, m2, m3, m4⟩ := mem e he
  unfold lowT
  by_cases q1 : e.2 = d.2
  ·cases q2 : insB e.1 d.1 with
   | false => simp
   | true =>
    have := h2.2.2.2 e.1 m2 q2 (by rw [← q1]; exact m4)
    have : e = d := Prod.ext this q1
    rw [this]; simp
  ·simp [q1]
end Go.Own
/-
  Plain law: what is kept up to date is what would be found anew. Conditions: as each theorem states them.
-/
namespace Go.Own
open Go Go.Proofs
theorem agL_key : ∀ x : Fin 32, ∀ c : Fin 5, x.val < 2 ^ c.val → bitI .or .i64 ((x.val : Nat) : Int) (1 * 2 ^ c.val) ≤ 2 ^ (c.val + 1) - 1 := by decide +kernel
theorem agL_attr {m : Int} {a b : List Int} : ∀ {n : Nat}, n ≤ 5 → isAttr (n : Nat) (agL m a b n) = true := by
 have key : ∀ n : Nat, n ≤ 5 → 0 ≤ agL m a b n ∧ agL m a b n ≤ 2 ^ n - 1 := by
  intro n
  induction n with
  | zero => intro _; simp [agL]
  | succ c ih =>
   intro h
   have ih := ih (by omega)
   have e2 : ((2 ^ c : Nat) : Int) = (2 : Int) ^ c := by simp
   have e3 : (2 : Int) ^ (c + 1) = 2 ^ c * 2 := Int.pow_succ _ _
   have hp := p5 (c := c) (by omega)
   have hr := @agL_range m a b c (by omega)
   rw [agL]
   split
   ·have h1 := agL_key ⟨(agL m a b c).toNat, by omega⟩ ⟨c, by omega⟩ (by dsimp only; omega)
    have h2 := or_key ⟨(agL m a b c).toNat, by omega⟩ ⟨c, by omega⟩
    dsimp only at h1 h2
    rw [show (((agL m a b c).toNat : Nat) : Int) = agL m a b c by omega] at h1 h2
    exact ⟨h2.1, h1⟩
   ·omega
 intro n h
 simp only [isAttr, Bool.and_eq_true, inB_iff, all2, Int.toNat_natCast]
 have := key n h
 exact ⟨by omega, by omega⟩
def andAll (p : Int → Int → Bool) (ags : List Int) : Int → Int → Bool := ags.foldl (fun p ag => andAg ag p) p
theorem andAll_eq {x r : Int} : ∀ {ags : List Int} {p : Int → Int → Bool}, andAll p ags x r = (p x r && ags.all fun ag => !insB x ag || hasB ag r)
 | [], p => by simp [andAll]
 | ag :: ags, p => by
  have := @andAll_eq x r ags (andAg ag p)
  unfold andAll at *
  rw [List.foldl_cons, this, List.all_cons, andAg, Bool.and_assoc]
theorem insC_min {n : Nat} {m : Int} {row : List Int} (hn : 1 ≤ n ∧ n ≤ 5) : ∀ {rs : List (List Int)} {p : Int → Int → Bool}, (∀ r : Int, 0 ≤ r ∧ r ≤ 4 → monoP p n r) → insC (n : Nat) m row rs (minDs p n) = minDs (andAll p (rs.map fun o => agL m row o n)) n
 | [], p, _ => rfl
 | o :: rs, p, mono => by
  have hA := @agL_attr m row o n hn.2
  have hA5 : R5 (agL m row o n) := by have := isAttr_le hA; exact ⟨this.2.2.1, this.2.2.2⟩
  have := @insC_min n m row hn rs (andAg (agL m row o n) p) fun r hr => andAg_mono hA5 (mono r hr)
  rw [List.map_cons]
  unfold andAll at *
  rw [List.foldl_cons, ← this]
  unfold insC
  rw [List.foldl_cons, Int.toNat_natCast, spc_min hn hA mono]
theorem bad_not {x l r : Int} (hx : R5 x) (hl : R5 l) (hr : 0 ≤ r ∧ r ≤ 4) : badS x l r = !(!insB l x || hasB x r) := by
 rw [← bad_eq hx hl hr]
 unfold badI
 rw [← insB_def, Bool.not_or, Bool.not_not]
theorem hdB_snoc {n : Nat} {rs : List (List Int)} {row : List Int} {m x r : Int} (hn : 1 ≤ n ∧ n ≤ 5) (ht : tabOK (n : Nat) (rs ++ [row]) = true) (ht0 : tabOK (n : Nat) rs = true) (hx : R5 x) (hr : 0 ≤ r ∧ r < n) :
  hdB (n : Nat) (rs ++ [row]) m x r = (hdB (n : Nat) rs m x r && (rs.map fun o => agL m row o n).all fun ag => !insB x ag || hasB ag r) := by
 rw [Bool.eq_iff_iff, Bool.and_eq_true, hdB_iff, hdB_iff, List.all_eq_true]
 have hask : askOK (n : Nat) (rs ++ [row]) m x r = askOK (n : Nat) rs m x r := by unfold askOK; rw [ht, ht0]
 rw [hask, Int.toNat_natCast]
 have g1 : ∀ i, i < rs.length → (rs ++ [row]).getD i [] = rs.getD i [] := fun i h => by simp [List.getD_eq_getElem?_getD, List.getElem?_append_left h]
 have g2 : (rs ++ [row]).getD rs.length [] = row := by simp [List.getD_eq_getElem?_getD]
 have bb : ∀ o, badS (agL m row o n) x r = !(!insB x (agL m row o n) || hasB (agL m row o n) r) := fun o => bad_not (agL_range hn.2) hx ⟨by omega, by omega⟩
 constructor
 ·rintro ⟨h1, h2⟩
  refine ⟨⟨h1, fun i j hij hj => ?_⟩, fun ag hag => ?_⟩
  ·have := h2 i j hij (by simp; omega)
   rwa [g1 i (by omega), g1 j hj] at this
  ·rw [List.mem_map] at hag
   obtain ⟨o, ho, rfl⟩ := hag
   obtain ⟨i, hi, e⟩ := List.getElem_of_mem ho
   have := h2 i rs.length hi (by simp)
   rw [g1 i hi, g2, List.getD_eq_getElem?_getD, List.getElem?_eq_getElem hi, Option.getD_some, e, agL_sym, bb o] at this
   rwa [Bool.not_eq_false'] at this
 ·rintro ⟨⟨h1, h2⟩, h3⟩
  refine ⟨h1, fun i j hij hj => ?_⟩
  rw [List.length_append, List.length_singleton] at hj
  by_cases e : j = rs.length
  ·subst e
   rw [g1 i hij, g2, agL_sym, bb]
   have := h3 (agL m row (rs.getD i []) n) (List.mem_map.2 ⟨_, getD_mem hij [], rfl⟩)
   rw [this]; rfl
  ·rw [g1 i (by omega), g1 j (by omega)]
   exact h2 i j hij (by omega)
theorem mono_hd {c : Nat} {rs : List (List Int)} {m : Int} (hc : c ≤ 5) : ∀ r : Int, 0 ≤ r ∧ r ≤ 4 → monoP (hdB (c : Nat) rs m) c r := fun r _ => hdB_mono hc
theorem ins_md {n : Nat} {rs : List (List Int)} {row : List Int} {m : Int} (hn : 1 ≤ n ∧ n ≤ 5) (ht : tabOK (n : Nat) (rs ++ [row]) = true) (ht0 : tabOK (n : Nat) rs = true) (hm : modeOK m = true) : insC (n : Nat) m row rs (mdL (n : Nat) rs m) = mdL (n : Nat) (rs ++ [row]) m := by
 unfold mdL
 rw [ht, ht0, hm, Bool.and_true, if_pos rfl, if_pos rfl, insC_min hn (mono_hd hn.2)]
 refine minDs_ext fun r hr x hx => ?_
 rw [andAll_eq, hdB_snoc hn ht ht0 (pbs_R hx) hr]
theorem ins_isM {c : Int} {rs : List (List Int)} {m : Int} {ds : List (Int × Int)} {row : List Int} (h : insV c rs m ds row = true) : isM c (insR c rs m ds row) m (insD c rs m ds row) = true := by
 unfold insR insD
 rw [if_pos h, if_pos h]
 unfold insV at h
 rw [Bool.and_eq_true, Bool.and_eq_true, decide_eq_true_eq] at h
 obtain ⟨⟨h1, h2⟩, h3⟩ := h
 obtain ⟨t1, t2, t3⟩ := isM_facts h1
 have t4 := tab_snoc t1 h2 h3
 obtain ⟨n, rfl, n1, n5, _⟩ := tab_rows t1
 unfold isM
 rw [t4, t2, t3, ins_md ⟨n1, n5⟩ t4 t1 t2]
 simp
theorem dag_md {c : Int} {rs : List (List Int)} {m : Int} (ht : tabOK c rs = true) (hm : modeOK m = true) : dagF c (agsF c rs m) = mdL c rs m := by
 obtain ⟨n, rfl, n1, n5, h40, hlen⟩ := tab_rows ht
 unfold dagF mdL agsF
 rw [ht, hm, Bool.and_true, if_pos rfl, if_pos rfl, Int.toNat_natCast]
 have hmem : ∀ x, x ∈ dstI (agI m n rs rs.length) ↔ ∃ i k, k < i ∧ i < rs.length ∧ x = agL m (rs.getD i []) (rs.getD k []) n := fun x => by rw [dstI_mem, agI_mem (Nat.le_refl _)]
 have hall : (dstI (agI m n rs rs.length)).all (isAttr (n : Nat)) = true := by
  rw [List.all_eq_true]
  intro x hx
  rw [hmem] at hx
  obtain ⟨i, k, _, _, rfl⟩ := hx
  exact agL_attr n5
 rw [hall, Bool.and_true, if_pos (inB_iff.2 ⟨by omega, by omega⟩)]
 refine minDs_ext fun r hr x hx => ?_
 have hx5 := pbs_R hx
 rw [Bool.eq_iff_iff, hdB_iff]
 unfold dagB
 rw [List.all_eq_true]
 have hbb : ∀ a b, badS (agL m a b n) x r = !(dagT x r (agL m a b n)) := fun a b => by
  rw [bad_not (agL_range n5) hx5 ⟨by omega, by omega⟩]
  unfold dagT
  cases insB x (agL m a b n) <;> cases hasB (agL m a b n) r <;> rfl
 constructor
 ·intro h
  refine ⟨by unfold askOK; rw [ht, hm, depOK_of ⟨n1, n5⟩ hx hr]; rfl, fun i j hij hj => ?_⟩
  rw [Int.toNat_natCast, hbb, h _ ((hmem _).2 ⟨j, i, hij, hj, agL_sym⟩)]; rfl
 ·rintro ⟨_, h⟩ y hy
  rw [hmem] at hy
  obtain ⟨i, k, h1, h2, rfl⟩ := hy
  have := h k i h1 h2
  rw [Int.toNat_natCast, hbb, agL_sym] at this
  simpa using this
theorem del_tab {c : Int} {rs : List (List Int)} {a : Nat} (h : tabOK c rs = true) : tabOK c (delL rs a) = true := by
 have hm : ∀ r ∈ delL rs a, r ∈ rs := fun r hr => by
  unfold delL at hr
  rcases List.mem_append.1 hr with hr | hr
  ·exact List.mem_of_mem_take hr
  ·exact List.mem_of_mem_drop hr
 have hl : (delL rs a).length ≤ rs.length := by
  unfold delL
  rw [List.length_append, List.length_take, List.length_drop]; omega
 unfold tabOK at *
 simp only [Bool.and_eq_true, decide_eq_true_eq, List.all_eq_true] at *
 exact ⟨fun r hr => h.1 r (hm r hr), h.2.1, by omega⟩
theorem del_isM {c : Int} {rs : List (List Int)} {m : Int} {ds : List (Int × Int)} {a : Int} (h : delV c rs m ds a = true) : isM c (delR c rs m ds a) m (delD c rs m ds a) = true ∧ ((delR c rs m ds a).length : Int) = rs.length - 1 := by
 unfold delR delD
 rw [if_pos h, if_pos h]
 unfold delV at h
 rw [Bool.and_eq_true, inB_iff] at h
 obtain ⟨t1, t2, t3⟩ := isM_facts h.1
 have t4 := del_tab (a := a.toNat) t1
 refine ⟨?_, ?_⟩
 ·unfold isM
  rw [t4, t2, dag_md t4 t2]
  simp
 ·unfold delL
  rw [List.length_append, List.length_take, List.length_drop]
  omega
theorem ins_keep {c : Int} {rs : List (List Int)} {m : Int} {ds : List (Int × Int)} {row : List Int} (h : insV c rs m ds row = false) : insR c rs m ds row = rs ∧ insD c rs m ds row = ds := by
 unfold insR insD; rw [h]; exact ⟨rfl, rfl⟩
end Go.Own
