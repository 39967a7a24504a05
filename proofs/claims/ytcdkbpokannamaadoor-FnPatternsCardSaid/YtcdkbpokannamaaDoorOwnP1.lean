/-
  The draws of patterns. Conditions: as each theorem states them.
-/
import Derived.Test.YtcdkbpokannamaaDoorOwnK6b
namespace Go.Own
open Go Go.Proofs
set_option linter.unusedSimpArgs false
set_option linter.unusedVariables false
set_option maxRecDepth 20000
set_option maxHeartbeats 4000000

attribute [local go_sem] tf1b ft1b cuO rI rB cuP unB_bL bL_length wfB_bL

def any2M : Dr Int := fun bs s => if (onceM 8 bs s).1 then pickM [-1, 31, 32, 33] bs (onceM 8 bs s).2 else belowM 32 bs (onceM 8 bs s).2
def cAny2 : Contract := ⟨[true], false, fun
  | [.box [.sl 1 l, .v (.int .i64 i), .v (.int .i64 h)]] => some (WfB l ∧ 0 ≤ i, rI (any2M (unB l) (i.toNat, h)).1, cuO l (any2M (unB l) (i.toNat, h)).2)
  | _ => none⟩
theorem any2_ok : ContractOK E0 94 cAny2 := by
  refine contract_of_wpcB (E := E0) (T := mkT Tryd.prog [(81, cOnce), (92, cPickI), (78, cBelow)] false (fun d => d == 6) false (fun _ => false)) (mkT_ok (E := E0) (.cons once_ok (.cons pickI_ok (.cons below_ok .nil)))) rfl (fn := Tryd.f94) Tryd.func94 (by kernel_rfl) rfl mixedT (by kernel_rfl) rfl rfl (Nat.le_of_ble_eq_true rfl) ?_
  intro args p rs ms hr
  unfold cAny2 at hr
  dsimp only at hr
  split at hr
  rotate_left
  · cases hr
  rename_i l i h
  simp only [Option.some.injEq, Prod.mk.injEq] at hr
  obtain ⟨rfl, rfl, rfl⟩ := hr
  refine ⟨_, _, _, rfl, rfl, rfl, rfl, Nat.le_of_ble_eq_true rfl, ?_⟩
  have hm : maxLen = 9223372036854775807 := rfl
  rintro ⟨h1, h2⟩ bs0
  obtain ⟨bs, rfl, hx⟩ := h1.ex
  clear h1
  rw [unB_bL]
  obtain ⟨i, rfl⟩ := Int.eq_ofNat_of_zero_le h2
  rw [Int.toNat_natCast]
  have e : any2M bs (i, h) = if (onceM 8 bs (i, h)).1 then pickM [-1, 31, 32, 33] bs (onceM 8 bs (i, h)).2 else belowM 32 bs (onceM 8 bs (i, h)).2 := rfl
  rw [e]
  clear e
  have eA : [[D.v (.int .i64 (-1))], [D.v (.int .i64 31)], [D.v (.int .i64 32)], [D.v (.int .i64 33)]] = iL [-1, 31, 32, 33] := rfl
  have nA : ¬ iL [-1, 31, 32, 33] = [] := by simp [iL]
  generalize hO : onceM 8 bs (i, h) = O
  cases ho : O.1
  · rw [if_neg (by decide)]
    generalize hP : belowM 32 bs O.2 = P
    (repeat' (first
      | (refine gate_a fun _ => ?_)
      | (refine fork_intro (fun hb => ?_) (fun hb => ?_) <;> (try simp only [ew, hO, ho, hP] at hb))
      | (simp only [go_sem, Nat.reduceLeDiff, Nat.reduceEqDiff, reduceIte, reduceCtorEq, Nat.reduceAdd, Nat.reduceMul, Nat.reduceSub, Nat.reduceLT, Int.reduceLT, Int.reduceLE, Int.reduceNeg, Int.reduceToNat, Nat.reduceBEq, Nat.reduceBNe, Int.reduceGE, Int.reduceGT, *, cAny2, cOnce, cPickI, cBelow, Tryd.results94, hO, ho, hP])))
    all_goals first | rfl | skip
  · rw [if_pos rfl]
    generalize hP : pickM [-1, 31, 32, 33] bs O.2 = P
    (repeat' (first
      | (refine gate_a fun _ => ?_)
      | (refine fork_intro (fun hb => ?_) (fun hb => ?_) <;> (try simp only [ew, hO, ho, eA, hP] at hb))
      | (simp only [go_sem, Nat.reduceLeDiff, Nat.reduceEqDiff, reduceIte, reduceCtorEq, Nat.reduceAdd, Nat.reduceMul, Nat.reduceSub, Nat.reduceLT, Int.reduceLT, Int.reduceLE, Int.reduceNeg, Int.reduceToNat, Nat.reduceBEq, Nat.reduceBNe, Int.reduceGE, Int.reduceGT, *, cAny2, cOnce, cPickI, cBelow, Tryd.results94, hO, ho, eA, hP])))
    all_goals first | rfl | skip
def any6N (n : Int) : Int := if inB n 1 5 then n else 3
def any6M (n : Int) : Dr (Int × Int) := fun bs s =>
  let d := depM (any6N n) bs s
  let x := belowM 14 bs d.2
  if x.1 = 0 then (((any2M bs x.2).1, d.1.2), (any2M bs x.2).2)
  else if x.1 = 1 then ((d.1.1, (pickM [-1, 4, 5] bs x.2).1), (pickM [-1, 4, 5] bs x.2).2)
  else (d.1, x.2)
def cAny6 : Contract := ⟨[true], false, fun
  | [.box [.sl 1 l, .v (.int .i64 i), .v (.int .i64 h)], .one (.v (.int .i64 n))] => some (WfB l ∧ 0 ≤ i, [⟨true, [.d (.v (.int .i64 (any6M n (unB l) (i.toNat, h)).1.1)), .d (.v (.int .i64 (any6M n (unB l) (i.toNat, h)).1.2))]⟩], cuO l (any6M n (unB l) (i.toNat, h)).2)
  | _ => none⟩
theorem any6_ok : ContractOK E0 77 cAny6 := by
  refine contract_of_wpcB (E := E0) (T := mkT Tryd.prog [(30, cL1In), (93, cDep6), (78, cBelow), (94, cAny2), (92, cPickI)] false (fun d => d == 22) false (fun _ => false)) (mkT_ok (E := E0) (.cons l1In_ok (.cons dep6_ok (.cons below_ok (.cons any2_ok (.cons pickI_ok .nil)))))) rfl (fn := Tryd.f77) Tryd.func77 (by kernel_rfl) rfl mixedT (by kernel_rfl) rfl rfl (Nat.le_of_ble_eq_true rfl) ?_
  intro args p rs ms hr
  unfold cAny6 at hr
  dsimp only at hr
  split at hr
  rotate_left
  · cases hr
  rename_i l i h n
  simp only [Option.some.injEq, Prod.mk.injEq] at hr
  obtain ⟨rfl, rfl, rfl⟩ := hr
  refine ⟨_, _, _, rfl, rfl, rfl, rfl, Nat.le_of_ble_eq_true rfl, ?_⟩
  have hm : maxLen = 9223372036854775807 := rfl
  rintro ⟨h1, h2⟩ bs0
  obtain ⟨bs, rfl, hx⟩ := h1.ex
  clear h1
  rw [unB_bL]
  obtain ⟨i, rfl⟩ := Int.eq_ofNat_of_zero_le h2
  rw [Int.toNat_natCast]
  have eA : [[D.v (.int .i64 (-1))], [D.v (.int .i64 4)], [D.v (.int .i64 5)]] = iL [-1, 4, 5] := rfl
  have nA : ¬ iL [-1, 4, 5] = [] := by simp [iL]
  generalize hL : any6M n bs (i, h) = L
  unfold any6M at hL
  dsimp only at hL
  generalize hN : any6N n = N at hL
  unfold any6N at hN
  have main : ∀ b : Bool, inB n 1 5 = b → (1 ≤ N ∧ N ≤ 5) ∧ N = (if b then n else 3) := by
    intro b hb
    rw [hb] at hN
    subst hN
    cases b
    · exact ⟨by simp, rfl⟩
    · exact ⟨by simpa using inB_iff.1 hb, rfl⟩
  generalize hD : depM N bs (i, h) = D0 at hL
  generalize hX : belowM 14 bs D0.2 = X at hL
  clear hN
  cases hb : inB n 1 5
  · obtain ⟨⟨n1, n5⟩, rfl⟩ := main false hb
    clear main
    simp only [Bool.false_eq_true, if_false] at hD
    by_cases h0 : X.1 = 0
    · rw [if_pos h0] at hL
      have q0 : (X.1 == 0) = true := by rw [h0]; rfl
      clear h0
      generalize hP : any2M bs X.2 = P at hL
      subst hL
      (repeat' (first
      | (refine gate_a fun _ => ?_)
      | (refine fork_intro (fun hb => ?_) (fun hb => ?_) <;> (try simp only [ew, hb, hD, hX, q0, hP] at hb))
      | (simp only [go_sem, Nat.reduceLeDiff, Nat.reduceEqDiff, reduceIte, reduceCtorEq, Nat.reduceAdd, Nat.reduceMul, Nat.reduceSub, Nat.reduceLT, Int.reduceLT, Int.reduceLE, Int.reduceNeg, Int.reduceToNat, Nat.reduceBEq, Nat.reduceBNe, Int.reduceGE, Int.reduceGT, *, cAny6, cL1In, cDep6, cBelow, cAny2, cPickI, Tryd.results77, hb, hD, hX, q0, hP])))
      all_goals first | rfl | skip
    · rw [if_neg h0] at hL
      have q0 : (X.1 == 0) = false := beq_eq_false_iff_ne.2 h0
      clear h0
      by_cases h1 : X.1 = 1
      · rw [if_pos h1] at hL
        have q1 : (X.1 == 1) = true := by rw [h1]; rfl
        clear h1
        generalize hP : pickM [-1, 4, 5] bs X.2 = P at hL
        subst hL
        (repeat' (first
      | (refine gate_a fun _ => ?_)
      | (refine fork_intro (fun hb => ?_) (fun hb => ?_) <;> (try simp only [ew, hb, hD, hX, q0, q1, eA, hP] at hb))
      | (simp only [go_sem, Nat.reduceLeDiff, Nat.reduceEqDiff, reduceIte, reduceCtorEq, Nat.reduceAdd, Nat.reduceMul, Nat.reduceSub, Nat.reduceLT, Int.reduceLT, Int.reduceLE, Int.reduceNeg, Int.reduceToNat, Nat.reduceBEq, Nat.reduceBNe, Int.reduceGE, Int.reduceGT, *, cAny6, cL1In, cDep6, cBelow, cAny2, cPickI, Tryd.results77, hb, hD, hX, q0, q1, eA, hP])))
        all_goals first | rfl | skip
      · rw [if_neg h1] at hL
        have q1 : (X.1 == 1) = false := beq_eq_false_iff_ne.2 h1
        clear h1
        subst hL
        (repeat' (first
      | (refine gate_a fun _ => ?_)
      | (refine fork_intro (fun hb => ?_) (fun hb => ?_) <;> (try simp only [ew, hb, hD, hX, q0, q1] at hb))
      | (simp only [go_sem, Nat.reduceLeDiff, Nat.reduceEqDiff, reduceIte, reduceCtorEq, Nat.reduceAdd, Nat.reduceMul, Nat.reduceSub, Nat.reduceLT, Int.reduceLT, Int.reduceLE, Int.reduceNeg, Int.reduceToNat, Nat.reduceBEq, Nat.reduceBNe, Int.reduceGE, Int.reduceGT, *, cAny6, cL1In, cDep6, cBelow, cAny2, cPickI, Tryd.results77, hb, hD, hX, q0, q1])))
        all_goals first | rfl | skip
  · obtain ⟨⟨n1, n5⟩, rfl⟩ := main true hb
    clear main
    by_cases h0 : X.1 = 0
    · rw [if_pos h0] at hL
      have q0 : (X.1 == 0) = true := by rw [h0]; rfl
      clear h0
      generalize hP : any2M bs X.2 = P at hL
      subst hL
      (repeat' (first
      | (refine gate_a fun _ => ?_)
      | (refine fork_intro (fun hb => ?_) (fun hb => ?_) <;> (try simp only [ew, hb, hD, hX, q0, hP] at hb))
      | (simp only [go_sem, Nat.reduceLeDiff, Nat.reduceEqDiff, reduceIte, reduceCtorEq, Nat.reduceAdd, Nat.reduceMul, Nat.reduceSub, Nat.reduceLT, Int.reduceLT, Int.reduceLE, Int.reduceNeg, Int.reduceToNat, Nat.reduceBEq, Nat.reduceBNe, Int.reduceGE, Int.reduceGT, *, cAny6, cL1In, cDep6, cBelow, cAny2, cPickI, Tryd.results77, hb, hD, hX, q0, hP])))
      all_goals first | rfl | skip
    · rw [if_neg h0] at hL
      have q0 : (X.1 == 0) = false := beq_eq_false_iff_ne.2 h0
      clear h0
      by_cases h1 : X.1 = 1
      · rw [if_pos h1] at hL
        have q1 : (X.1 == 1) = true := by rw [h1]; rfl
        clear h1
        generalize hP : pickM [-1, 4, 5] bs X.2 = P at hL
        subst hL
        (repeat' (first
      | (refine gate_a fun _ => ?_)
      | (refine fork_intro (fun hb => ?_) (fun hb => ?_) <;> (try simp only [ew, hb, hD, hX, q0, q1, eA, hP] at hb))
      | (simp only [go_sem, Nat.reduceLeDiff, Nat.reduceEqDiff, reduceIte, reduceCtorEq, Nat.reduceAdd, Nat.reduceMul, Nat.reduceSub, Nat.reduceLT, Int.reduceLT, Int.reduceLE, Int.reduceNeg, Int.reduceToNat, Nat.reduceBEq, Nat.reduceBNe, Int.reduceGE, Int.reduceGT, *, cAny6, cL1In, cDep6, cBelow, cAny2, cPickI, Tryd.results77, hb, hD, hX, q0, q1, eA, hP])))
        all_goals first | rfl | skip
      · rw [if_neg h1] at hL
        have q1 : (X.1 == 1) = false := beq_eq_false_iff_ne.2 h1
        clear h1
        subst hL
        (repeat' (first
      | (refine gate_a fun _ => ?_)
      | (refine fork_intro (fun hb => ?_) (fun hb => ?_) <;> (try simp only [ew, hb, hD, hX, q0, q1] at hb))
      | (simp only [go_sem, Nat.reduceLeDiff, Nat.reduceEqDiff, reduceIte, reduceCtorEq, Nat.reduceAdd, Nat.reduceMul, Nat.reduceSub, Nat.reduceLT, Int.reduceLT, Int.reduceLE, Int.reduceNeg, Int.reduceToNat, Nat.reduceBEq, Nat.reduceBNe, Int.reduceGE, Int.reduceGT, *, cAny6, cL1In, cDep6, cBelow, cAny2, cPickI, Tryd.results77, hb, hD, hX, q0, q1])))
        all_goals first | rfl | skip

/-! What is drawn for the laws of patterns. -/
abbrev Pt := (Int × List (List Int)) × Int × (Int × Int) × Int × Int
def d16 (bs : List Int) : Pt :=
  let t := l4M bs (newS bs)
  let d := any6M t.1.1.1 bs t.2
  let k := belowM 6 bs d.2
  (t.1.1, t.1.2, d.1, k.1 - 1, (belowM 5 bs k.2).1 - 1)
theorem d16_facts {bs : List Int} : (0 ≤ (d16 bs).1.1 ∧ (d16 bs).1.1 ≤ 6) ∧ (d16 bs).1.2.length ≤ 13 ∧ ∀ r ∈ (d16 bs).1.2, r.length ≤ 4 := l4M_facts
def c16 : Contract := ⟨[], false, fun
  | [.one (.sl 1 l)] => some (WfB l ∧ l.length ≤ 1048576 ∧ ∀ b ∈ unB l, 0 ≤ b ∧ b ≤ 255, [⟨true, [.d (.v (.int .i64 (d16 (unB l)).1.1)), .own 1 (sL (d16 (unB l)).1.2) 1]⟩, ⟨false, [.d (.v (.int .i64 (d16 (unB l)).2.1))]⟩,
      ⟨true, [.d (.v (.int .i64 (d16 (unB l)).2.2.2.1)), .d (.v (.int .i64 (d16 (unB l)).2.2.2.2)), .d (.v (.int .i64 (d16 (unB l)).2.2.1.1)), .d (.v (.int .i64 (d16 (unB l)).2.2.1.2))]⟩], [])
  | _ => none⟩
def cDPo : Contract := ⟨[], false, fun
  | [.one (.sl 1 l)] => some (WfB l ∧ l.length ≤ 1048576 ∧ ∀ b ∈ unB l, 0 ≤ b ∧ b ≤ 255, [⟨true, [.d (.v (.int .i64 (d16 (unB l)).1.1)), .own 1 (sL (d16 (unB l)).1.2) 1]⟩, ⟨false, [.d (.v (.int .i64 (d16 (unB l)).2.1))]⟩,
      ⟨true, [.d (.v (.int .i64 (d16 (unB l)).2.2.1.1)), .d (.v (.int .i64 (d16 (unB l)).2.2.1.2))]⟩], [])
  | _ => none⟩
theorem d16_ok : ContractOK E0 46 c16 := by
  refine contract_of_wpc (E := E0) (T := mkT Tryd.prog [(75, cNewC), (76, cL4D), (77, cAny6), (78, cBelow)] false (fun _ => false) true (fun d => d == 6 || d == 8 || d == 25 || d == 1000 || d == 1007 || d == 1009 || d == 3003)) (mkT_ok (E := E0) (.cons newC_ok (.cons l4D_ok (.cons any6_ok (.cons below_ok .nil))))) (fn := Tryd.f46) Tryd.func46 (by kernel_rfl) rfl mixedT (by kernel_rfl) rfl ?_
  intro args p rs ms hr
  unfold c16 at hr
  dsimp only at hr
  split at hr
  rotate_left
  · cases hr
  rename_i l
  simp only [Option.some.injEq, Prod.mk.injEq] at hr
  obtain ⟨rfl, rfl, rfl⟩ := hr
  refine ⟨rfl, rfl, Nat.le_of_ble_eq_true rfl, ?_⟩
  have hm : maxLen = 9223372036854775807 := rfl
  rintro ⟨h1, h2, h3⟩ bs0
  obtain ⟨bs, rfl, hx⟩ := h1.ex
  clear h1
  rw [bL_length] at h2
  rw [unB_bL] at h3 ⊢
  obtain ⟨k1, k2, k3⟩ := @l4M_facts bs (newS bs)
  have eM : l4M bs (0, newH bs) = l4M bs (newS bs) := rfl
  generalize hL : d16 bs = L
  unfold d16 at hL
  dsimp only at hL
  generalize hT : l4M bs (newS bs) = T at *
  have m1 : T.1.1.2.length ≤ maxLen := Nat.le_trans k2 (by decide)
  have m2 : ∀ r ∈ T.1.1.2, r.length ≤ maxLen := fun r hr => by have := k3 r hr; omega
  clear k3
  generalize hD : any6M T.1.1.1 bs T.2 = D0 at *
  have r1 := @belowM_range 6 bs D0.2 (by decide)
  generalize hK : belowM 6 bs D0.2 = K0 at *
  have r2 := @belowM_range 5 bs K0.2 (by decide)
  generalize hV : belowM 5 bs K0.2 = V0 at *
  subst hL
  (repeat' (first
      | (refine gate_a fun _ => ?_)
      | (refine fork_intro (fun hb => ?_) (fun hb => ?_) <;> (try simp only [ew, eM, hD, hK, hV] at hb))
      | (simp only [go_sem, Nat.reduceLeDiff, Nat.reduceEqDiff, reduceIte, reduceCtorEq, Nat.reduceAdd, Nat.reduceMul, Nat.reduceSub, Nat.reduceLT, Int.reduceLT, Int.reduceLE, Int.reduceNeg, Int.reduceToNat, Nat.reduceBEq, Nat.reduceBNe, Int.reduceGE, Int.reduceGT, *, c16, cNewC, cL4D, cAny6, cBelow, Tryd.results46, eM, hD, hK, hV])))
  all_goals first | rfl | skip
theorem dPo_ok : ContractOK E0 16 cDPo := by
  refine contract_of_wpc (E := E0) (T := mkT Tryd.prog [(46, c16)] false (fun _ => false) true (fun d => d == 5 || d == 16 || d == 15 || d == 1000 || d == 1006 || d == 1008 || d == 3003)) (mkT_ok (E := E0) (.cons d16_ok .nil)) (fn := Tryd.f16) Tryd.func16 (by kernel_rfl) rfl mixedT (by kernel_rfl) rfl ?_
  intro args p rs ms hr
  unfold cDPo at hr
  dsimp only at hr
  split at hr
  rotate_left
  · cases hr
  rename_i l
  simp only [Option.some.injEq, Prod.mk.injEq] at hr
  obtain ⟨rfl, rfl, rfl⟩ := hr
  refine ⟨rfl, rfl, Nat.le_of_ble_eq_true rfl, ?_⟩
  have hm : maxLen = 9223372036854775807 := rfl
  rintro ⟨h1, h2, h3⟩ bs0
  obtain ⟨bs, rfl, hx⟩ := h1.ex
  clear h1
  rw [bL_length] at h2
  rw [unB_bL] at h3 ⊢
  obtain ⟨k1, k2, k3⟩ := @d16_facts bs
  generalize hL : d16 bs = L at *
  have m1 : L.1.2.length ≤ maxLen := Nat.le_trans k2 (by decide)
  have m2 : ∀ r ∈ L.1.2, r.length ≤ maxLen := fun r hr => by have := k3 r hr; omega
  clear k3
  (repeat' (first
      | (refine gate_a fun _ => ?_)
      | (refine fork_intro (fun hb => ?_) (fun hb => ?_) <;> (try simp only [ew, hL] at hb))
      | (simp only [go_sem, Nat.reduceLeDiff, Nat.reduceEqDiff, reduceIte, reduceCtorEq, Nat.reduceAdd, Nat.reduceMul, Nat.reduceSub, Nat.reduceLT, Int.reduceLT, Int.reduceLE, Int.reduceNeg, Int.reduceToNat, Nat.reduceBEq, Nat.reduceBNe, Int.reduceGE, Int.reduceGT, *, cDPo, c16, Tryd.results16, hL])))
  all_goals first | rfl | skip
theorem dHp_ok : ContractOK E0 21 c16 := by
  refine contract_of_wpc (E := E0) (T := mkT Tryd.prog [(46, c16)] false (fun _ => false) true (fun d => d == 5 || d == 7 || d == 15 || d == 1000 || d == 1006 || d == 1008 || d == 3003)) (mkT_ok (E := E0) (.cons d16_ok .nil)) (fn := Tryd.f21) Tryd.func21 (by kernel_rfl) rfl mixedT (by kernel_rfl) rfl ?_
  intro args p rs ms hr
  unfold c16 at hr
  dsimp only at hr
  split at hr
  rotate_left
  · cases hr
  rename_i l
  simp only [Option.some.injEq, Prod.mk.injEq] at hr
  obtain ⟨rfl, rfl, rfl⟩ := hr
  refine ⟨rfl, rfl, Nat.le_of_ble_eq_true rfl, ?_⟩
  have hm : maxLen = 9223372036854775807 := rfl
  rintro ⟨h1, h2, h3⟩ bs0
  obtain ⟨bs, rfl, hx⟩ := h1.ex
  clear h1
  rw [bL_length] at h2
  rw [unB_bL] at h3 ⊢
  obtain ⟨k1, k2, k3⟩ := @d16_facts bs
  generalize hL : d16 bs = L at *
  have m1 : L.1.2.length ≤ maxLen := Nat.le_trans k2 (by decide)
  have m2 : ∀ r ∈ L.1.2, r.length ≤ maxLen := fun r hr => by have := k3 r hr; omega
  clear k3
  (repeat' (first
      | (refine gate_a fun _ => ?_)
      | (refine fork_intro (fun hb => ?_) (fun hb => ?_) <;> (try simp only [ew, hL] at hb))
      | (simp only [go_sem, Nat.reduceLeDiff, Nat.reduceEqDiff, reduceIte, reduceCtorEq, Nat.reduceAdd, Nat.reduceMul, Nat.reduceSub, Nat.reduceLT, Int.reduceLT, Int.reduceLE, Int.reduceNeg, Int.reduceToNat, Nat.reduceBEq, Nat.reduceBNe, Int.reduceGE, Int.reduceGT, *, c16, Tryd.results21, hL])))
  all_goals first | rfl | skip
def c15s : Contract := ⟨[], false, fun
  | [.one (.sl 1 l)] => some (WfB l ∧ l.length ≤ 1048576 ∧ ∀ b ∈ unB l, 0 ≤ b ∧ b ≤ 255, [⟨true, [.d (.v (.int .i64 (d15c (unB l)))), .own 1 (sL (d15r (unB l))) 1]⟩, ⟨false, [.d (.v (.int .i64 (d15a (unB l))))]⟩, ⟨false, [.d (.v (.int .i64 (d15b (unB l) - 1)))]⟩], [])
  | _ => none⟩
theorem dSel_ok : ContractOK E0 22 c15s := by
  refine contract_of_wpc (E := E0) (T := mkT Tryd.prog [(51, c15)] false (fun _ => false) true (fun _ => false)) (mkT_ok (E := E0) (.cons d15_ok .nil)) (fn := Tryd.f22) Tryd.func22 (by kernel_rfl) rfl mixedT (by kernel_rfl) rfl ?_
  intro args p rs ms hr
  unfold c15s at hr
  dsimp only at hr
  split at hr
  rotate_left
  · cases hr
  rename_i l
  simp only [Option.some.injEq, Prod.mk.injEq] at hr
  obtain ⟨rfl, rfl, rfl⟩ := hr
  refine ⟨rfl, rfl, Nat.le_of_ble_eq_true rfl, ?_⟩
  have hm : maxLen = 9223372036854775807 := rfl
  rintro ⟨h1, h2, h3⟩ bs0
  obtain ⟨bs, rfl, hx⟩ := h1.ex
  clear h1
  rw [bL_length] at h2
  rw [unB_bL] at h3 ⊢
  obtain ⟨k1, k2, k3, k4⟩ := @d15_facts bs
  (repeat' (first
      | (refine gate_a fun _ => ?_)
      | (refine fork_intro (fun hb => ?_) (fun hb => ?_) <;> (try simp only [ew] at hb))
      | (simp only [go_sem, Nat.reduceLeDiff, Nat.reduceEqDiff, reduceIte, reduceCtorEq, Nat.reduceAdd, Nat.reduceMul, Nat.reduceSub, Nat.reduceLT, Int.reduceLT, Int.reduceLE, Int.reduceNeg, Int.reduceToNat, Nat.reduceBEq, Nat.reduceBNe, Int.reduceGE, Int.reduceGT, *, c15s, c15, Tryd.results22])))
  all_goals first | rfl | skip
end Go.Own
