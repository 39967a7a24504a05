/-
  The draws of dependencies, and of tables with a mode. Conditions: as each theorem states them.
-/
import Derived.Test.YtcdkbpokannamaaDoorOwnK6
namespace Go.Own
open Go Go.Proofs
set_option linter.unusedSimpArgs false
set_option linter.unusedVariables false
set_option maxRecDepth 20000
set_option maxHeartbeats 4000000

theorem tf1b : (true == false) = false := rfl
theorem ft1b : (false == true) = false := rfl
attribute [local go_sem] tf1b ft1b cuO rI rB cuP unB_bL bL_length wfB_bL

def depM (n : Int) : Dr (Int × Int) := fun bs s => (((belowM (1 * 2 ^ n.toNat) bs s).1, (belowM n bs (belowM (1 * 2 ^ n.toNat) bs s).2).1), (belowM n bs (belowM (1 * 2 ^ n.toNat) bs s).2).2)
def cDep6 : Contract := ⟨[true], false, fun
  | [.box [.sl 1 l, .v (.int .i64 i), .v (.int .i64 h)], .one (.v (.int .i64 n))] => some (WfB l ∧ 0 ≤ i ∧ 1 ≤ n ∧ n ≤ 5, [⟨true, [.d (.v (.int .i64 (depM n (unB l) (i.toNat, h)).1.1)), .d (.v (.int .i64 (depM n (unB l) (i.toNat, h)).1.2))]⟩], cuO l (depM n (unB l) (i.toNat, h)).2)
  | _ => none⟩
theorem dep6_ok : ContractOK E0 93 cDep6 := by
  refine contract_of_wpcB (E := E0) (T := mkT Tryd.prog [(78, cBelow)] false (fun _ => false) false (fun _ => false)) (mkT_ok (E := E0) (.cons below_ok .nil)) rfl (fn := Tryd.f93) Tryd.func93 (by kernel_rfl) rfl mixedT (by kernel_rfl) rfl rfl (Nat.le_of_ble_eq_true rfl) ?_
  intro args p rs ms hr
  unfold cDep6 at hr
  dsimp only at hr
  split at hr
  rotate_left
  · cases hr
  rename_i l i h n
  simp only [Option.some.injEq, Prod.mk.injEq] at hr
  obtain ⟨rfl, rfl, rfl⟩ := hr
  refine ⟨_, _, _, rfl, rfl, rfl, rfl, Nat.le_of_ble_eq_true rfl, ?_⟩
  have hm : maxLen = 9223372036854775807 := rfl
  rintro ⟨h1, h2, n1, n5⟩ bs0
  obtain ⟨bs, rfl, hx⟩ := h1.ex
  clear h1
  rw [unB_bL]
  obtain ⟨i, rfl⟩ := Int.eq_ofNat_of_zero_le h2
  rw [Int.toNat_natCast]
  obtain ⟨n, rfl⟩ := Int.eq_ofNat_of_zero_le (show 0 ≤ n by omega)
  have hp : 1 ≤ (2 : Int) ^ n ∧ (2 : Int) ^ n ≤ 32 := by
    have : n = 1 ∨ n = 2 ∨ n = 3 ∨ n = 4 ∨ n = 5 := by omega
    rcases this with rfl | rfl | rfl | rfl | rfl <;> decide
  have e : depM ((n : Nat) : Int) bs (i, h) = (((belowM (1 * 2 ^ n) bs (i, h)).1, (belowM ((n : Nat) : Int) bs (belowM (1 * 2 ^ n) bs (i, h)).2).1), (belowM ((n : Nat) : Int) bs (belowM (1 * 2 ^ n) bs (i, h)).2).2) := rfl
  rw [e]
  clear e
  generalize hA : belowM (1 * 2 ^ n) bs (i, h) = A
  generalize hB : belowM ((n : Nat) : Int) bs A.2 = B
  (repeat' (first
      | (refine gate_a fun _ => ?_)
      | (refine fork_intro (fun hb => ?_) (fun hb => ?_) <;> (try simp only [ew, hA, hB] at hb))
      | (simp only [go_sem, Nat.reduceLeDiff, Nat.reduceEqDiff, reduceIte, reduceCtorEq, Nat.reduceAdd, Nat.reduceMul, Nat.reduceSub, Nat.reduceLT, Int.reduceLT, Int.reduceLE, Int.reduceNeg, Int.reduceToNat, Nat.reduceBEq, Nat.reduceBNe, Int.reduceGE, Int.reduceGT, *, cDep6, cBelow, Tryd.results93, hA, hB])))
  all_goals first | rfl | skip

/-! Tables with a mode. -/
def l4M : Dr ((Int × List (List Int)) × Int) := fun bs s =>
  let t := tblM bs s
  let o := onceM 14 bs t.2
  let u := if o.1 then anyM bs o.2 else (t.1, o.2)
  let m := belowM 2 bs u.2
  let q := onceM 20 bs m.2
  if q.1 then ((u.1, (pickM [-1, 2] bs q.2).1), (pickM [-1, 2] bs q.2).2) else ((u.1, m.1), q.2)
theorem l4M_facts {bs : List Int} {s : Cu} : (0 ≤ (l4M bs s).1.1.1 ∧ (l4M bs s).1.1.1 ≤ 6) ∧ (l4M bs s).1.1.2.length ≤ 13 ∧ ∀ r ∈ (l4M bs s).1.1.2, r.length ≤ 4 := by
  have key : ∀ u : (Int × List (List Int)) × Cu, u = (if (onceM 14 bs (tblM bs s).2).1 then anyM bs (onceM 14 bs (tblM bs s).2).2 else ((tblM bs s).1, (onceM 14 bs (tblM bs s).2).2)) → (0 ≤ u.1.1 ∧ u.1.1 ≤ 6) ∧ u.1.2.length ≤ 13 ∧ ∀ r ∈ u.1.2, r.length ≤ 4 := by
    intro u hu
    subst hu
    split
    · exact ⟨anyM_facts.1, anyM_facts.2.1, fun r hr => (anyM_facts.2.2 r hr).1⟩
    · obtain ⟨k1, k2, k3⟩ := @tblM_facts bs s
      dsimp only
      exact ⟨by omega, by omega, fun r hr => by have := (k3 r hr).1; omega⟩
  have := key _ rfl
  unfold l4M
  dsimp only
  generalize (if (onceM 14 bs (tblM bs s).2).1 = true then anyM bs (onceM 14 bs (tblM bs s).2).2 else ((tblM bs s).1, (onceM 14 bs (tblM bs s).2).2)) = u at this ⊢
  split <;> exact this
def cL4D : Contract := ⟨[true], false, fun
  | [.box [.sl 1 l, .v (.int .i64 i), .v (.int .i64 h)]] => some (WfB l ∧ 0 ≤ i, [⟨true, [.d (.v (.int .i64 (l4M (unB l) (i.toNat, h)).1.1.1)), .own 1 (sL (l4M (unB l) (i.toNat, h)).1.1.2) 1]⟩, ⟨false, [.d (.v (.int .i64 (l4M (unB l) (i.toNat, h)).1.2))]⟩], cuO l (l4M (unB l) (i.toNat, h)).2)
  | _ => none⟩
theorem l4D_ok : ContractOK E0 76 cL4D := by
  refine contract_of_wpcB (E := E0) (T := mkT Tryd.prog [(80, cTbl), (81, cOnce), (82, cAny), (78, cBelow), (92, cPickI)] false (fun d => d == 17) false (fun _ => false)) (mkT_ok (E := E0) (.cons tbl_ok (.cons once_ok (.cons any_ok (.cons below_ok (.cons pickI_ok .nil)))))) rfl (fn := Tryd.f76) Tryd.func76 (by kernel_rfl) rfl mixedT (by kernel_rfl) rfl rfl (Nat.le_of_ble_eq_true rfl) ?_
  intro args p rs ms hr
  unfold cL4D at hr
  dsimp only at hr
  split at hr
  rotate_left
  · cases hr
  rename_i l i h
  simp only [Option.some.injEq, Prod.mk.injEq] at hr
  obtain ⟨rfl, rfl, rfl⟩ := hr
  refine ⟨_, _, _, rfl, rfl, rfl, rfl, Nat.le_of_ble_eq_true rfl, ?_⟩
  have hm : maxLen = 9223372036854775807 := rfl
  rintro ⟨h1, h2⟩ bs0
  obtain ⟨bs, rfl, hx⟩ := h1.ex
  clear h1
  rw [unB_bL]
  obtain ⟨i, rfl⟩ := Int.eq_ofNat_of_zero_le h2
  rw [Int.toNat_natCast]
  have f1 := @tblM_facts bs (i, h)
  have f2 := @anyM_facts bs (onceM 14 bs (tblM bs (i, h)).2).2
  generalize hL : l4M bs (i, h) = L
  unfold l4M at hL
  dsimp only at hL
  generalize hT : tblM bs (i, h) = T at *
  obtain ⟨t1, t2, t3⟩ := f1
  have m1 : T.1.2.length ≤ maxLen := Nat.le_trans t2 (by decide)
  have m2 : ∀ r ∈ T.1.2, r.length ≤ maxLen := fun r hr => by have := (t3 r hr).1; omega
  clear t3
  generalize hO : onceM 14 bs T.2 = O at *
  have eB : [[D.v (.int .i64 (-1))], [D.v (.int .i64 2)]] = iL [-1, 2] := rfl
  have nB : ¬ iL [-1, 2] = [] := by simp [iL]
  cases ho : O.1
  · simp only [ho, Bool.false_eq_true, if_false] at hL
    clear f2
    generalize hM : belowM 2 bs O.2 = M at *
    generalize hQ : onceM 20 bs M.2 = Q at *
    cases hq : Q.1
    · simp only [hq, Bool.false_eq_true, if_false] at hL
      subst hL
      (repeat' (first
      | (refine gate_a fun _ => ?_)
      | (refine fork_intro (fun hb => ?_) (fun hb => ?_) <;> (try simp only [ew, hT, hO, ho, hM, hQ, hq] at hb))
      | (simp only [go_sem, Nat.reduceLeDiff, Nat.reduceEqDiff, reduceIte, reduceCtorEq, Nat.reduceAdd, Nat.reduceMul, Nat.reduceSub, Nat.reduceLT, Int.reduceLT, Int.reduceLE, Int.reduceNeg, Int.reduceToNat, Nat.reduceBEq, Nat.reduceBNe, Int.reduceGE, Int.reduceGT, *, cL4D, cTbl, cOnce, cAny, cBelow, cPickI, Tryd.results76, hT, hO, ho, hM, hQ, hq])))
      all_goals first | rfl | skip
    · simp only [hq, if_true] at hL
      generalize hP : pickM [-1, 2] bs Q.2 = P at *
      subst hL
      (repeat' (first
      | (refine gate_a fun _ => ?_)
      | (refine fork_intro (fun hb => ?_) (fun hb => ?_) <;> (try simp only [ew, hT, hO, ho, hM, hQ, hq, eB, hP] at hb))
      | (simp only [go_sem, Nat.reduceLeDiff, Nat.reduceEqDiff, reduceIte, reduceCtorEq, Nat.reduceAdd, Nat.reduceMul, Nat.reduceSub, Nat.reduceLT, Int.reduceLT, Int.reduceLE, Int.reduceNeg, Int.reduceToNat, Nat.reduceBEq, Nat.reduceBNe, Int.reduceGE, Int.reduceGT, *, cL4D, cTbl, cOnce, cAny, cBelow, cPickI, Tryd.results76, hT, hO, ho, hM, hQ, hq, eB, hP])))
      all_goals first | rfl | skip
  · simp only [ho, if_true] at hL
    generalize hA : anyM bs O.2 = A at *
    obtain ⟨a1, a2, a3⟩ := f2
    have m3 : A.1.2.length ≤ maxLen := Nat.le_trans a2 (by decide)
    have m4 : ∀ r ∈ A.1.2, r.length ≤ maxLen := fun r hr => by have := (a3 r hr).1; omega
    clear a3
    generalize hM : belowM 2 bs A.2 = M at *
    generalize hQ : onceM 20 bs M.2 = Q at *
    cases hq : Q.1
    · simp only [hq, Bool.false_eq_true, if_false] at hL
      subst hL
      (repeat' (first
      | (refine gate_a fun _ => ?_)
      | (refine fork_intro (fun hb => ?_) (fun hb => ?_) <;> (try simp only [ew, hT, hO, ho, hA, hM, hQ, hq] at hb))
      | (simp only [go_sem, Nat.reduceLeDiff, Nat.reduceEqDiff, reduceIte, reduceCtorEq, Nat.reduceAdd, Nat.reduceMul, Nat.reduceSub, Nat.reduceLT, Int.reduceLT, Int.reduceLE, Int.reduceNeg, Int.reduceToNat, Nat.reduceBEq, Nat.reduceBNe, Int.reduceGE, Int.reduceGT, *, cL4D, cTbl, cOnce, cAny, cBelow, cPickI, Tryd.results76, hT, hO, ho, hA, hM, hQ, hq])))
      all_goals first | rfl | skip
    · simp only [hq, if_true] at hL
      generalize hP : pickM [-1, 2] bs Q.2 = P at *
      subst hL
      (repeat' (first
      | (refine gate_a fun _ => ?_)
      | (refine fork_intro (fun hb => ?_) (fun hb => ?_) <;> (try simp only [ew, hT, hO, ho, hA, hM, hQ, hq, eB, hP] at hb))
      | (simp only [go_sem, Nat.reduceLeDiff, Nat.reduceEqDiff, reduceIte, reduceCtorEq, Nat.reduceAdd, Nat.reduceMul, Nat.reduceSub, Nat.reduceLT, Int.reduceLT, Int.reduceLE, Int.reduceNeg, Int.reduceToNat, Nat.reduceBEq, Nat.reduceBNe, Int.reduceGE, Int.reduceGT, *, cL4D, cTbl, cOnce, cAny, cBelow, cPickI, Tryd.results76, hT, hO, ho, hA, hM, hQ, hq, eB, hP])))
      all_goals first | rfl | skip
end Go.Own
