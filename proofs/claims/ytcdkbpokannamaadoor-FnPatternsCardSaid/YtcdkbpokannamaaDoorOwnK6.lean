/-
  The draws of tables and of pairs of columns. Conditions: as each theorem states them.
-/
import Derived.Test.YtcdkbpokannamaaDoorOwnK2
namespace Go.Own
open Go Go.Proofs
set_option linter.unusedSimpArgs false
set_option linter.unusedVariables false
set_option maxRecDepth 20000
set_option maxHeartbeats 4000000

attribute [local go_sem] cuO rI rB cuP unB_bL bL_length wfB_bL

def anyM : Dr (Int × List (List Int)) := fun bs s =>
  let t := tblM bs s
  let x := belowM 12 bs t.2
  if x.1 = 0 then (((pickM [0, 1, 5, 6] bs x.2).1, t.1.2), (pickM [0, 1, 5, 6] bs x.2).2)
  else if x.1 = 1 then ((t.1.1, t.1.2 ++ [[1, (pickM [-2, -1, 40, 41] bs x.2).1]]), (pickM [-2, -1, 40, 41] bs x.2).2)
  else (t.1, x.2)
theorem anyM_facts {bs : List Int} {s : Cu} : (0 ≤ (anyM bs s).1.1 ∧ (anyM bs s).1.1 ≤ 6) ∧ (anyM bs s).1.2.length ≤ 13 ∧ ∀ r ∈ (anyM bs s).1.2, r.length ≤ 4 ∧ ∀ v ∈ r, -2 ≤ v ∧ v ≤ 41 := by
  obtain ⟨h1, h2, h3⟩ := @tblM_facts bs s
  have h3' : ∀ r ∈ (tblM bs s).1.2, r.length ≤ 4 ∧ ∀ v ∈ r, -2 ≤ v ∧ v ≤ 41 := fun r hr => by
    obtain ⟨q1, q2⟩ := h3 r hr
    refine ⟨by omega, fun v hv => ?_⟩
    have := q2 v hv; omega
  unfold anyM
  dsimp only
  split
  · have := @pickM_mem [0, 1, 5, 6] bs (belowM 12 bs (tblM bs s).2).2 (by simp)
    simp only [List.mem_cons, List.not_mem_nil, or_false] at this
    dsimp only
    exact ⟨by omega, by omega, h3'⟩
  · split
    · have := @pickM_mem [-2, -1, 40, 41] bs (belowM 12 bs (tblM bs s).2).2 (by simp)
      simp only [List.mem_cons, List.not_mem_nil, or_false] at this
      dsimp only
      refine ⟨by omega, by simp; omega, fun r hr => ?_⟩
      rw [List.mem_append, List.mem_singleton] at hr
      rcases hr with hr | rfl
      · exact h3' r hr
      · refine ⟨by simp, fun v hv => ?_⟩
        simp only [List.mem_cons, List.not_mem_nil, or_false] at hv
        omega
    · dsimp only
      exact ⟨by omega, by omega, h3'⟩
def cAny : Contract := ⟨[true], false, fun
  | [.box [.sl 1 l, .v (.int .i64 i), .v (.int .i64 h)]] => some (WfB l ∧ 0 ≤ i, [⟨true, [.d (.v (.int .i64 (anyM (unB l) (i.toNat, h)).1.1)), .own 1 (sL (anyM (unB l) (i.toNat, h)).1.2) 1]⟩], cuO l (anyM (unB l) (i.toNat, h)).2)
  | _ => none⟩
theorem any_ok : ContractOK E0 82 cAny := by
  refine contract_of_wpcB (E := E0) (T := mkT Tryd.prog [(80, cTbl), (78, cBelow), (92, cPickI)] false (fun d => d == 11 || d == 19) false (fun d => d == 17 || d == 16 || d == 1000 || d == 1004)) (mkT_ok (E := E0) (.cons tbl_ok (.cons below_ok (.cons pickI_ok .nil)))) rfl (fn := Tryd.f82) Tryd.func82 (by kernel_rfl) rfl mixedT (by kernel_rfl) rfl rfl (Nat.le_of_ble_eq_true rfl) ?_
  intro args p rs ms hr
  unfold cAny at hr
  dsimp only at hr
  split at hr
  rotate_left
  · cases hr
  rename_i l i h
  simp only [Option.some.injEq, Prod.mk.injEq] at hr
  obtain ⟨rfl, rfl, rfl⟩ := hr
  refine ⟨_, _, _, rfl, rfl, rfl, rfl, Nat.le_of_ble_eq_true rfl, ?_⟩
  have hm : maxLen = 9223372036854775807 := rfl
  rintro ⟨h1, h2⟩ bs0
  obtain ⟨bs, rfl, hx⟩ := h1.ex
  clear h1
  rw [unB_bL]
  obtain ⟨i, rfl⟩ := Int.eq_ofNat_of_zero_le h2
  rw [Int.toNat_natCast]
  have e : anyM bs (i, h) = if (belowM 12 bs (tblM bs (i, h)).2).1 = 0 then (((pickM [0, 1, 5, 6] bs (belowM 12 bs (tblM bs (i, h)).2).2).1, (tblM bs (i, h)).1.2), (pickM [0, 1, 5, 6] bs (belowM 12 bs (tblM bs (i, h)).2).2).2)
    else if (belowM 12 bs (tblM bs (i, h)).2).1 = 1 then (((tblM bs (i, h)).1.1, (tblM bs (i, h)).1.2 ++ [[1, (pickM [-2, -1, 40, 41] bs (belowM 12 bs (tblM bs (i, h)).2).2).1]]), (pickM [-2, -1, 40, 41] bs (belowM 12 bs (tblM bs (i, h)).2).2).2)
    else ((tblM bs (i, h)).1, (belowM 12 bs (tblM bs (i, h)).2).2) := rfl
  rw [e]
  clear e
  obtain ⟨t1, t2, t3⟩ := @tblM_facts bs (i, h)
  generalize hT : tblM bs (i, h) = T at t1 t2 t3 ⊢
  have r1 := @belowM_range 12 bs T.2 (by decide)
  generalize hX : belowM 12 bs T.2 = X at r1 ⊢
  have m1 : T.1.2.length ≤ maxLen := Nat.le_trans t2 (by decide)
  have m2 : ∀ r ∈ T.1.2, r.length ≤ maxLen := fun r hr => by have := (t3 r hr).1; omega
  clear t3
  have eA : [[D.v (.int .i64 0)], [D.v (.int .i64 1)], [D.v (.int .i64 5)], [D.v (.int .i64 6)]] = iL [0, 1, 5, 6] := rfl
  have eB : [[D.v (.int .i64 (-2))], [D.v (.int .i64 (-1))], [D.v (.int .i64 40)], [D.v (.int .i64 41)]] = iL [-2, -1, 40, 41] := rfl
  have nA : ¬ iL [0, 1, 5, 6] = [] := by simp [iL]
  have nB : ¬ iL [-2, -1, 40, 41] = [] := by simp [iL]
  by_cases h0 : X.1 = 0
  · rw [if_pos h0]
    generalize hP : pickM [0, 1, 5, 6] bs X.2 = P
    (repeat' (first
      | (refine gate_a fun _ => ?_)
      | (refine fork_intro (fun hb => ?_) (fun hb => ?_) <;> (try simp only [ew, hT, hX, h0, eA, hP] at hb))
      | (simp only [go_sem, Nat.reduceLeDiff, Nat.reduceEqDiff, reduceIte, reduceCtorEq, Nat.reduceAdd, Nat.reduceMul, Nat.reduceSub, Nat.reduceLT, Int.reduceLT, Int.reduceLE, Int.reduceNeg, Int.reduceToNat, Nat.reduceBEq, Nat.reduceBNe, Int.reduceGE, Int.reduceGT, *, cAny, cTbl, cBelow, cPickI, Tryd.results82, hT, hX, h0, eA, hP])))
    all_goals first | rfl | skip
  · rw [if_neg h0]
    by_cases h1 : X.1 = 1
    · rw [if_pos h1]
      generalize hP : pickM [-2, -1, 40, 41] bs X.2 = P
      have q0 : (X.1 == 0) = false := by rw [h1]; rfl
      have q1 : (X.1 == 1) = true := by rw [h1]; rfl
      clear h0 h1
      have eC : [[D.v (.int .i64 1)], [D.v (.int .i64 P.1)]] = iL [1, P.1] := rfl
      (repeat' (first
      | (refine gate_a fun _ => ?_)
      | (refine fork_intro (fun hb => ?_) (fun hb => ?_) <;> (try simp only [ew, hT, hX, q0, q1, eB, hP, eC, sL_sn, iL_asc2] at hb))
      | (simp only [go_sem, Nat.reduceLeDiff, Nat.reduceEqDiff, reduceIte, reduceCtorEq, Nat.reduceAdd, Nat.reduceMul, Nat.reduceSub, Nat.reduceLT, Int.reduceLT, Int.reduceLE, Int.reduceNeg, Int.reduceToNat, Nat.reduceBEq, Nat.reduceBNe, Int.reduceGE, Int.reduceGT, *, cAny, cTbl, cBelow, cPickI, Tryd.results82, hT, hX, q0, q1, eB, hP, eC, sL_sn, iL_asc2])))
      all_goals first | rfl | skip
    · rw [if_neg h1]
      have q0 : (X.1 == 0) = false := beq_eq_false_iff_ne.2 h0
      have q1 : (X.1 == 1) = false := beq_eq_false_iff_ne.2 h1
      (repeat' (first
      | (refine gate_a fun _ => ?_)
      | (refine fork_intro (fun hb => ?_) (fun hb => ?_) <;> (try simp only [ew, hT, hX, q0, q1] at hb))
      | (simp only [go_sem, Nat.reduceLeDiff, Nat.reduceEqDiff, reduceIte, reduceCtorEq, Nat.reduceAdd, Nat.reduceMul, Nat.reduceSub, Nat.reduceLT, Int.reduceLT, Int.reduceLE, Int.reduceNeg, Int.reduceToNat, Nat.reduceBEq, Nat.reduceBNe, Int.reduceGE, Int.reduceGT, *, cAny, cTbl, cBelow, cPickI, Tryd.results82, hT, hX, q0, q1])))
      all_goals first | rfl | skip

def d15T (bs : List Int) : (Int × List (List Int)) × Cu := if (onceM 10 bs (tblM bs (newS bs)).2).1 then anyM bs (onceM 10 bs (tblM bs (newS bs)).2).2 else ((tblM bs (newS bs)).1, (onceM 10 bs (tblM bs (newS bs)).2).2)
def d15c (bs : List Int) : Int := (d15T bs).1.1
def d15r (bs : List Int) : List (List Int) := (d15T bs).1.2
def d15a (bs : List Int) : Int := (belowM 6 bs (d15T bs).2).1 - 1
def d15b (bs : List Int) : Int := (belowM 5 bs (belowM 6 bs (d15T bs).2).2).1
theorem d15_facts {bs : List Int} : (0 ≤ d15c bs ∧ d15c bs ≤ 6) ∧ ((d15r bs).length ≤ 13 ∧ ∀ r ∈ d15r bs, r.length ≤ 4) ∧ (-1 ≤ d15a bs ∧ d15a bs ≤ 4) ∧ 0 ≤ d15b bs ∧ d15b bs ≤ 4 := by
  have h1 := @belowM_range 6 bs (d15T bs).2 (by decide)
  have h2 := @belowM_range 5 bs (belowM 6 bs (d15T bs).2).2 (by decide)
  refine ⟨?_, ?_, by unfold d15a; omega, by unfold d15b; omega⟩
  · unfold d15c d15T
    split
    · exact anyM_facts.1
    · have := (@tblM_facts bs (newS bs)).1; dsimp only; omega
  · unfold d15r d15T
    split
    · exact ⟨anyM_facts.2.1, fun r hr => (anyM_facts.2.2 r hr).1⟩
    · obtain ⟨k1, k2, k3⟩ := @tblM_facts bs (newS bs)
      dsimp only
      exact ⟨by omega, fun r hr => by have := (k3 r hr).1; omega⟩
def c15 : Contract := ⟨[], false, fun
  | [.one (.sl 1 l)] => some (WfB l ∧ l.length ≤ 1048576 ∧ ∀ b ∈ unB l, 0 ≤ b ∧ b ≤ 255, [⟨true, [.d (.v (.int .i64 (d15c (unB l)))), .own 1 (sL (d15r (unB l))) 1]⟩, ⟨false, [.d (.v (.int .i64 (d15a (unB l))))]⟩, ⟨false, [.d (.v (.int .i64 (d15b (unB l))))]⟩], [])
  | _ => none⟩
def c15x : Contract := ⟨[], false, fun
  | [.one (.sl 1 l)] => some (WfB l ∧ l.length ≤ 1048576 ∧ ∀ b ∈ unB l, 0 ≤ b ∧ b ≤ 255, [⟨true, [.d (.v (.int .i64 (d15c (unB l)))), .own 1 (sL (d15r (unB l))) 1]⟩, ⟨true, [.d (.v (.int .i64 (d15a (unB l)))), .d (.v (.int .i64 (d15b (unB l))))]⟩], [])
  | _ => none⟩
def c15t : Contract := ⟨[], false, fun
  | [.one (.sl 1 l)] => some (WfB l ∧ l.length ≤ 1048576 ∧ ∀ b ∈ unB l, 0 ≤ b ∧ b ≤ 255, [⟨true, [.d (.v (.int .i64 (d15c (unB l)))), .own 1 (sL (d15r (unB l))) 1]⟩], [])
  | _ => none⟩
theorem d15_ok : ContractOK E0 51 c15 := by
  refine contract_of_wpc (E := E0) (T := mkT Tryd.prog [(75, cNewC), (80, cTbl), (81, cOnce), (82, cAny), (78, cBelow)] false (fun _ => false) true (fun d => d == 6 || d == 1000 || d == 1007)) (mkT_ok (E := E0) (.cons newC_ok (.cons tbl_ok (.cons once_ok (.cons any_ok (.cons below_ok .nil)))))) (fn := Tryd.f51) Tryd.func51 (by kernel_rfl) rfl mixedT (by kernel_rfl) rfl ?_
  intro args p rs ms hr
  unfold c15 at hr
  dsimp only at hr
  split at hr
  rotate_left
  · cases hr
  rename_i l
  simp only [Option.some.injEq, Prod.mk.injEq] at hr
  obtain ⟨rfl, rfl, rfl⟩ := hr
  refine ⟨rfl, rfl, Nat.le_of_ble_eq_true rfl, ?_⟩
  have hm : maxLen = 9223372036854775807 := rfl
  rintro ⟨h1, h2, h3⟩ bs0
  obtain ⟨bs, rfl, hx⟩ := h1.ex
  clear h1
  rw [bL_length] at h2
  rw [unB_bL] at h3 ⊢
  have eN : newS bs = (0, newH bs) := rfl
  have eT : d15T bs = if (onceM 10 bs (tblM bs (newS bs)).2).1 then anyM bs (onceM 10 bs (tblM bs (newS bs)).2).2 else ((tblM bs (newS bs)).1, (onceM 10 bs (tblM bs (newS bs)).2).2) := rfl
  have e1 : d15c bs = (d15T bs).1.1 := rfl
  have e2 : d15r bs = (d15T bs).1.2 := rfl
  have e3 : d15a bs = (belowM 6 bs (d15T bs).2).1 - 1 := rfl
  have e4 : d15b bs = (belowM 5 bs (belowM 6 bs (d15T bs).2).2).1 := rfl
  obtain ⟨k1, k2, _⟩ := @d15_facts bs
  rw [e1] at k1
  rw [e2] at k2
  rw [e1, e2, e3, e4]
  clear e1 e2 e3 e4
  rw [eN] at eT
  clear eN
  generalize hD : d15T bs = D0 at eT k1 k2 ⊢
  have r1 := @belowM_range 6 bs D0.2 (by decide)
  generalize hA : belowM 6 bs D0.2 = A at r1 ⊢
  have r2 := @belowM_range 5 bs A.2 (by decide)
  generalize hB : belowM 5 bs A.2 = B at r2 ⊢
  obtain ⟨t1, t2, t3⟩ := @tblM_facts bs (0, newH bs)
  generalize hT : tblM bs (0, newH bs) = T at eT t1 t2 t3
  generalize hO : onceM 10 bs T.2 = O at eT
  have m1 : T.1.2.length ≤ maxLen := Nat.le_trans t2 (by decide)
  have m2 : ∀ r ∈ T.1.2, r.length ≤ maxLen := fun r hr => by have := (t3 r hr).1; omega
  clear t3
  have m3 : D0.1.2.length ≤ maxLen := Nat.le_trans k2.1 (by decide)
  have m4 : ∀ r ∈ D0.1.2, r.length ≤ maxLen := fun r hr => by have := k2.2 r hr; omega
  cases ho : O.1
  · rw [ho, if_neg (by decide)] at eT
    have eT1 := congrArg Prod.fst eT
    have eT2 := congrArg Prod.snd eT
    dsimp only at eT1 eT2
    rw [eT2] at hA
    rw [eT1] at k1 k2 m3 m4 ⊢
    clear eT eT1 eT2
    (repeat' (first
      | (refine gate_a fun _ => ?_)
      | (refine fork_intro (fun hb => ?_) (fun hb => ?_) <;> (try simp only [ew, hT, hO, ho, hA, hB] at hb))
      | (simp only [go_sem, Nat.reduceLeDiff, Nat.reduceEqDiff, reduceIte, reduceCtorEq, Nat.reduceAdd, Nat.reduceMul, Nat.reduceSub, Nat.reduceLT, Int.reduceLT, Int.reduceLE, Int.reduceNeg, Int.reduceToNat, Nat.reduceBEq, Nat.reduceBNe, Int.reduceGE, Int.reduceGT, *, c15, cNewC, cTbl, cOnce, cAny, cBelow, Tryd.results51, hT, hO, ho, hA, hB])))
    all_goals first | rfl | skip
  · rw [ho, if_pos rfl] at eT
    have eT' := eT.symm
    clear eT
    (repeat' (first
      | (refine gate_a fun _ => ?_)
      | (refine fork_intro (fun hb => ?_) (fun hb => ?_) <;> (try simp only [ew, hT, hO, ho, eT', hA, hB] at hb))
      | (simp only [go_sem, Nat.reduceLeDiff, Nat.reduceEqDiff, reduceIte, reduceCtorEq, Nat.reduceAdd, Nat.reduceMul, Nat.reduceSub, Nat.reduceLT, Int.reduceLT, Int.reduceLE, Int.reduceNeg, Int.reduceToNat, Nat.reduceBEq, Nat.reduceBNe, Int.reduceGE, Int.reduceGT, *, c15, cNewC, cTbl, cOnce, cAny, cBelow, Tryd.results51, hT, hO, ho, eT', hA, hB])))
    all_goals first | rfl | skip
end Go.Own
