/-
  The draws of lists of dependencies. Conditions: as each theorem states them.
-/
import Derived.Test.YtjembhkhgahhiaaGreatOwnTa
import Derived.Test.YtjembhkhgahhiaaGreatOwnY3
import Derived.Test.YtjembhkhgahhiaaGreatOwnC7
import Derived.Test.YtjembhkhgahhiaaGreatOwnT5
import Derived.Test.YtjembhkhgahhiaaGreatOwnT1
set_option linter.unusedSimpArgs false
set_option linter.unusedVariables false
set_option maxRecDepth 20000
set_option maxHeartbeats 4000000
namespace Go.Own
open Go Go.Proofs
attribute [local go_sem] tf1b ft1b cuO rI rB cuP unB_bL bL_length wfB_bL unD_dL dL_length dL_get dL_set dL_inj wfD_dL scal2 beq2 pair_eta
theorem dL_sn {ds : List (Int × Int)} {a b : Int} : dL ds ++ [[D.v (.int .i64 a), D.v (.int .i64 b)]] = dL (ds ++ [(a, b)]) := by simp [dL]
def dpsN (n : Int) : Nat → Dr (List (Int × Int))
 | 0 => fun _ s => ([], s)
 | k + 1 => fun bs s => ((dpsN n k bs s).1 ++ [(depM n bs (dpsN n k bs s).2).1], (depM n bs (dpsN n k bs s).2).2)
theorem dpsN_len {n : Int} {bs : List Int} {s : Cu} : ∀ {k : Nat}, (dpsN n k bs s).1.length = k
 | 0 => rfl
 | k + 1 => by simp [dpsN, @dpsN_len n bs s k]
def dpsM (n : Int) : Dr (List (Int × Int)) := fun bs s => dpsN n (belowM 5 bs s).1.toNat bs (belowM 5 bs s).2
def cDps : Contract := ⟨[true], false, fun
 | [.box [.sl 1 l, .v (.int .i64 i), .v (.int .i64 h)], .one (.v (.int .i64 n))] => some (WfB l ∧ 0 ≤ i ∧ 1 ≤ n ∧ n ≤ 5, [⟨false, [.own 2 (dL (dpsM n (unB l) (i.toNat, h)).1) 1]⟩], cuO l (dpsM n (unB l) (i.toNat, h)).2)
 | _ => none⟩
theorem dps_ok : ContractOK E0 125 cDps := by
 refine contract_of_wpcB (E := E0) (T := mkT Tryz.prog [(42, cBelow), (158, cDep6)] false (fun _ => false) false (fun _ => false)) (mkT_ok (E := E0) (.cons below_ok (.cons dep6_ok .nil))) rfl (fn := Tryz.f125) Tryz.func125 (by kernel_rfl) rfl mixedT (by kernel_rfl) rfl rfl (Nat.le_of_ble_eq_true rfl) ?_
 intro args p rs ms hr
 unfold cDps at hr
 dsimp only at hr
 split at hr
 rotate_left
 ·cases hr
 rename_i l i h n
 simp only [Option.some.injEq, Prod.mk.injEq] at hr
 obtain ⟨rfl, rfl, rfl⟩ := hr
 refine ⟨_, _, _, rfl, rfl, rfl, rfl, Nat.le_of_ble_eq_true rfl, ?_⟩
 have hm : maxLen = 9223372036854775807 := rfl
 rintro ⟨h1, h2, n1, n5⟩ bs0
 obtain ⟨bs, rfl, hx⟩ := h1.ex
 clear h1
 rw [unB_bL]
 obtain ⟨i, rfl⟩ := Int.eq_ofNat_of_zero_le h2
 rw [Int.toNat_natCast]
 have e : dpsM n bs (i, h) = dpsN n (belowM 5 bs (i, h)).1.toNat bs (belowM 5 bs (i, h)).2 := rfl
 rw [e]
 clear e
 have r1 := @belowM_range 5 bs (i, h) (by decide)
 generalize hA : belowM 5 bs (i, h) = A at r1 ⊢
 obtain ⟨N, hN⟩ := Int.eq_ofNat_of_zero_le r1.1
 have hN2 : A.1.toNat = N := by omega
 have hN6 : N ≤ 4 := by omega
 rw [hN2]
 have hF := fun k => @dpsN_len n bs A.2 k
 have e0 : dL [] = [] := rfl
 (repeat' (first | (refine gA fun _ => ?_) | (refine fkI (fun hb => ?_) (fun hb => ?_) <;> (try simp only [ew, hA, e0] at hb)) | (simp only [go_sem, Nat.reduceLeDiff, Nat.reduceEqDiff, reduceIte, reduceCtorEq, Nat.reduceAdd, Nat.reduceMul, Nat.reduceSub, Nat.reduceLT, Int.reduceLT, Int.reduceLE, Int.reduceNeg, Int.reduceToNat, Nat.reduceBEq, Nat.reduceBNe, Int.reduceGE, Int.reduceGT, *, cDps, cBelow, cDep6, Tryz.results125, hA, e0])))
 refine lpI { ι := Nat, rs := [(7, 8), (11, 22)], mods := [(6, fun k => .one (.d (.v (.int .i64 ((N : Int) - k))))), (5, fun k => .one (.own 2 (dL (dpsN n k bs A.2).1) 1))], boxes := [(0, fun k => cuP bs (dpsN n k bs A.2).2)], arrs := [], ok := fun k => k ≤ N, mu := fun k => N - k } rfl 0 (Nat.zero_le _) ?_ fun k hk => ?_
 ·have e1 : dpsN n 0 bs A.2 = ([], A.2) := rfl
  clear hF
  (repeat' (first | (refine gA fun _ => ?_) | (refine fkI (fun hb => ?_) (fun hb => ?_) <;> (try simp only [ew, e1, e0] at hb)) | (simp only [go_sem, Nat.reduceLeDiff, Nat.reduceEqDiff, reduceIte, reduceCtorEq, Nat.reduceAdd, Nat.reduceMul, Nat.reduceSub, Nat.reduceLT, Int.reduceLT, Int.reduceLE, Int.reduceNeg, Int.reduceToNat, Nat.reduceBEq, Nat.reduceBNe, Int.reduceGE, Int.reduceGT, *, cDps, cBelow, cDep6, Tryz.results125, e1, e0])))
  all_goals first | rfl | (simp; omega) | skip
 ·dsimp only at k hk
  have f1 := hF k
  clear hF
  by_cases h5 : k < N
  ·have eS : dpsN n (k + 1) bs A.2 = ((dpsN n k bs A.2).1 ++ [(depM n bs (dpsN n k bs A.2).2).1], (depM n bs (dpsN n k bs A.2).2).2) := rfl
   generalize hP : dpsN n k bs A.2 = P at f1 eS
   generalize hD : depM n bs P.2 = Q at eS
   have m1 : P.1.length ≤ maxLen := Nat.le_trans (show P.1.length ≤ 20 by omega) (by decide)
   have hpos : ((N : Int) - k) > 0 := by omega
   (repeat' (first | (refine gA fun _ => ?_) | (refine fkI (fun hb => ?_) (fun hb => ?_) <;> (try simp only [ew, hP, hD, dL_sn] at hb)) | (simp only [go_sem, Nat.reduceLeDiff, Nat.reduceEqDiff, reduceIte, reduceCtorEq, Nat.reduceAdd, Nat.reduceMul, Nat.reduceSub, Nat.reduceLT, Int.reduceLT, Int.reduceLE, Int.reduceNeg, Int.reduceToNat, Nat.reduceBEq, Nat.reduceBNe, Int.reduceGE, Int.reduceGT, *, cDps, cBelow, cDep6, Tryz.results125, hP, hD, dL_sn])))
   refine lpN (k + 1) (by dsimp only; omega) (by dsimp only; omega) ?_
   (repeat' (first | (refine gA fun _ => ?_) | (refine fkI (fun hb => ?_) (fun hb => ?_) <;> (try simp only [ew, eS, dL_sn] at hb)) | (simp only [go_sem, Nat.reduceLeDiff, Nat.reduceEqDiff, reduceIte, reduceCtorEq, Nat.reduceAdd, Nat.reduceMul, Nat.reduceSub, Nat.reduceLT, Int.reduceLT, Int.reduceLE, Int.reduceNeg, Int.reduceToNat, Nat.reduceBEq, Nat.reduceBNe, Int.reduceGE, Int.reduceGT, *, cDps, cBelow, cDep6, Tryz.results125, eS, dL_sn])))
   all_goals first | rfl | omega | skip
  ·have e5 : k = N := by omega
   subst e5
   generalize hP : dpsN n k bs A.2 = P at f1
   have z0 : ((k : Nat) : Int) - ((k : Nat) : Int) = 0 := by omega
   have m1 : P.1.length ≤ maxLen := Nat.le_trans (show P.1.length ≤ 20 by omega) (by decide)
   (repeat' (first | (refine gA fun _ => ?_) | (refine fkI (fun hb => ?_) (fun hb => ?_) <;> (try simp only [ew, hP, z0] at hb)) | (simp only [go_sem, Nat.reduceLeDiff, Nat.reduceEqDiff, reduceIte, reduceCtorEq, Nat.reduceAdd, Nat.reduceMul, Nat.reduceSub, Nat.reduceLT, Int.reduceLT, Int.reduceLE, Int.reduceNeg, Int.reduceToNat, Nat.reduceBEq, Nat.reduceBNe, Int.reduceGE, Int.reduceGT, *, cDps, cBelow, cDep6, Tryz.results125, hP, z0])))
   all_goals first | rfl | skip
end Go.Own
/-
  The draws of patterns. Conditions: as each theorem states them.
-/
namespace Go.Own
open Go Go.Proofs
attribute [local go_sem] tf1b ft1b cuO rI rB cuP unB_bL bL_length wfB_bL
def any2M : Dr Int := fun bs s => if (onceM 8 bs s).1 then pickM [-1, 31, 32, 33] bs (onceM 8 bs s).2 else belowM 32 bs (onceM 8 bs s).2
def cAny2 : Contract := ⟨[true], false, fun
 | [.box [.sl 1 l, .v (.int .i64 i), .v (.int .i64 h)]] => some (WfB l ∧ 0 ≤ i, rI (any2M (unB l) (i.toNat, h)).1, cuO l (any2M (unB l) (i.toNat, h)).2)
 | _ => none⟩
theorem any2_ok : ContractOK E0 140 cAny2 := by
 refine contract_of_wpcB (E := E0) (T := mkT Tryz.prog [(65, cOnce), (118, cPickI), (42, cBelow)] false (fun d => d == 6) false (fun _ => false)) (mkT_ok (E := E0) (.cons once_ok (.cons pickI_ok (.cons below_ok .nil)))) rfl (fn := Tryz.f140) Tryz.func140 (by kernel_rfl) rfl mixedT (by kernel_rfl) rfl rfl (Nat.le_of_ble_eq_true rfl) ?_
 intro args p rs ms hr
 unfold cAny2 at hr
 dsimp only at hr
 split at hr
 rotate_left
 ·cases hr
 rename_i l i h
 simp only [Option.some.injEq, Prod.mk.injEq] at hr
 obtain ⟨rfl, rfl, rfl⟩ := hr
 refine ⟨_, _, _, rfl, rfl, rfl, rfl, Nat.le_of_ble_eq_true rfl, ?_⟩
 have hm : maxLen = 9223372036854775807 := rfl
 rintro ⟨h1, h2⟩ bs0
 obtain ⟨bs, rfl, hx⟩ := h1.ex
 clear h1
 rw [unB_bL]
 obtain ⟨i, rfl⟩ := Int.eq_ofNat_of_zero_le h2
 rw [Int.toNat_natCast]
 have e : any2M bs (i, h) = if (onceM 8 bs (i, h)).1 then pickM [-1, 31, 32, 33] bs (onceM 8 bs (i, h)).2 else belowM 32 bs (onceM 8 bs (i, h)).2 := rfl
 rw [e]
 clear e
 have eA : [[D.v (.int .i64 (-1))], [D.v (.int .i64 31)], [D.v (.int .i64 32)], [D.v (.int .i64 33)]] = iL [-1, 31, 32, 33] := rfl
 have nA : ¬ iL [-1, 31, 32, 33] = [] := by simp [iL]
 generalize hO : onceM 8 bs (i, h) = O
 cases ho : O.1
 ·rw [if_neg (by decide)]
  generalize hP : belowM 32 bs O.2 = P
  (repeat' (first | (refine gA fun _ => ?_) | (refine fkI (fun hb => ?_) (fun hb => ?_) <;> (try simp only [ew, hO, ho, hP] at hb)) | (simp only [go_sem, Nat.reduceLeDiff, Nat.reduceEqDiff, reduceIte, reduceCtorEq, Nat.reduceAdd, Nat.reduceMul, Nat.reduceSub, Nat.reduceLT, Int.reduceLT, Int.reduceLE, Int.reduceNeg, Int.reduceToNat, Nat.reduceBEq, Nat.reduceBNe, Int.reduceGE, Int.reduceGT, *, cAny2, cOnce, cPickI, cBelow, Tryz.results140, hO, ho, hP])))
  all_goals first | rfl | skip
 ·rw [if_pos rfl]
  generalize hP : pickM [-1, 31, 32, 33] bs O.2 = P
  (repeat' (first | (refine gA fun _ => ?_) | (refine fkI (fun hb => ?_) (fun hb => ?_) <;> (try simp only [ew, hO, ho, eA, hP] at hb)) | (simp only [go_sem, Nat.reduceLeDiff, Nat.reduceEqDiff, reduceIte, reduceCtorEq, Nat.reduceAdd, Nat.reduceMul, Nat.reduceSub, Nat.reduceLT, Int.reduceLT, Int.reduceLE, Int.reduceNeg, Int.reduceToNat, Nat.reduceBEq, Nat.reduceBNe, Int.reduceGE, Int.reduceGT, *, cAny2, cOnce, cPickI, cBelow, Tryz.results140, hO, ho, eA, hP])))
  all_goals first | rfl | skip
def any6N (n : Int) : Int := if inB n 1 5 then n else 3
def any6M (n : Int) : Dr (Int × Int) := fun bs s =>
 let d := depM (any6N n) bs s
 let x := belowM 14 bs d.2
 if x.1 = 0 then (((any2M bs x.2).1, d.1.2), (any2M bs x.2).2)
 else if x.1 = 1 then ((d.1.1, (pickM [-1, 4, 5] bs x.2).1), (pickM [-1, 4, 5] bs x.2).2)
 else (d.1, x.2)
def cAny6 : Contract := ⟨[true], false, fun
 | [.box [.sl 1 l, .v (.int .i64 i), .v (.int .i64 h)], .one (.v (.int .i64 n))] => some (WfB l ∧ 0 ≤ i, [⟨true, [.d (.v (.int .i64 (any6M n (unB l) (i.toNat, h)).1.1)), .d (.v (.int .i64 (any6M n (unB l) (i.toNat, h)).1.2))]⟩], cuO l (any6M n (unB l) (i.toNat, h)).2)
 | _ => none⟩
theorem any6_ok : ContractOK E0 126 cAny6 := by
 refine contract_of_wpcB (E := E0) (T := mkT Tryz.prog [(67, cL1In), (158, cDep6), (42, cBelow), (140, cAny2), (118, cPickI)] false (fun d => d == 22) false (fun _ => false)) (mkT_ok (E := E0) (.cons l1In_ok (.cons dep6_ok (.cons below_ok (.cons any2_ok (.cons pickI_ok .nil)))))) rfl (fn := Tryz.f126) Tryz.func126 (by kernel_rfl) rfl mixedT (by kernel_rfl) rfl rfl (Nat.le_of_ble_eq_true rfl) ?_
 intro args p rs ms hr
 unfold cAny6 at hr
 dsimp only at hr
 split at hr
 rotate_left
 ·cases hr
 rename_i l i h n
 simp only [Option.some.injEq, Prod.mk.injEq] at hr
 obtain ⟨rfl, rfl, rfl⟩ := hr
 refine ⟨_, _, _, rfl, rfl, rfl, rfl, Nat.le_of_ble_eq_true rfl, ?_⟩
 have hm : maxLen = 9223372036854775807 := rfl
 rintro ⟨h1, h2⟩ bs0
 obtain ⟨bs, rfl, hx⟩ := h1.ex
 clear h1
 rw [unB_bL]
 obtain ⟨i, rfl⟩ := Int.eq_ofNat_of_zero_le h2
 rw [Int.toNat_natCast]
 have eA : [[D.v (.int .i64 (-1))], [D.v (.int .i64 4)], [D.v (.int .i64 5)]] = iL [-1, 4, 5] := rfl
 have nA : ¬ iL [-1, 4, 5] = [] := by simp [iL]
 generalize hL : any6M n bs (i, h) = L
 unfold any6M at hL
 dsimp only at hL
 generalize hN : any6N n = N at hL
 unfold any6N at hN
 have main : ∀ b : Bool, inB n 1 5 = b → (1 ≤ N ∧ N ≤ 5) ∧ N = (if b then n else 3) := by
  intro b hb
  rw [hb] at hN
  subst hN
  cases b
  ·exact ⟨by simp, rfl⟩
  ·exact ⟨by simpa using inB_iff.1 hb, rfl⟩
 generalize hD : depM N bs (i, h) = D0 at hL
 generalize hX : belowM 14 bs D0.2 = X at hL
 clear hN
 cases hb : inB n 1 5
 ·obtain ⟨⟨n1, n5⟩, rfl⟩ := main false hb
  clear main
  simp only [Bool.false_eq_true, if_false] at hD
  by_cases h0 : X.1 = 0
  ·rw [if_pos h0] at hL
   have q0 : (X.1 == 0) = true := by rw [h0]; rfl
   clear h0
   generalize hP : any2M bs X.2 = P at hL
   subst hL
   (repeat' (first | (refine gA fun _ => ?_) | (refine fkI (fun hb => ?_) (fun hb => ?_) <;> (try simp only [ew, hb, hD, hX, q0, hP] at hb)) | (simp only [go_sem, Nat.reduceLeDiff, Nat.reduceEqDiff, reduceIte, reduceCtorEq, Nat.reduceAdd, Nat.reduceMul, Nat.reduceSub, Nat.reduceLT, Int.reduceLT, Int.reduceLE, Int.reduceNeg, Int.reduceToNat, Nat.reduceBEq, Nat.reduceBNe, Int.reduceGE, Int.reduceGT, *, cAny6, cL1In, cDep6, cBelow, cAny2, cPickI, Tryz.results126, hb, hD, hX, q0, hP])))
   all_goals first | rfl | skip
  ·rw [if_neg h0] at hL
   have q0 : (X.1 == 0) = false := beq_eq_false_iff_ne.2 h0
   clear h0
   by_cases h1 : X.1 = 1
   ·rw [if_pos h1] at hL
    have q1 : (X.1 == 1) = true := by rw [h1]; rfl
    clear h1
    generalize hP : pickM [-1, 4, 5] bs X.2 = P at hL
    subst hL
    (repeat' (first | (refine gA fun _ => ?_) | (refine fkI (fun hb => ?_) (fun hb => ?_) <;> (try simp only [ew, hb, hD, hX, q0, q1, eA, hP] at hb)) | (simp only [go_sem, Nat.reduceLeDiff, Nat.reduceEqDiff, reduceIte, reduceCtorEq, Nat.reduceAdd, Nat.reduceMul, Nat.reduceSub, Nat.reduceLT, Int.reduceLT, Int.reduceLE, Int.reduceNeg, Int.reduceToNat, Nat.reduceBEq, Nat.reduceBNe, Int.reduceGE, Int.reduceGT, *, cAny6, cL1In, cDep6, cBelow, cAny2, cPickI, Tryz.results126, hb, hD, hX, q0, q1, eA, hP])))
    all_goals first | rfl | skip
   ·rw [if_neg h1] at hL
    have q1 : (X.1 == 1) = false := beq_eq_false_iff_ne.2 h1
    clear h1
    subst hL
    (repeat' (first | (refine gA fun _ => ?_) | (refine fkI (fun hb => ?_) (fun hb => ?_) <;> (try simp only [ew, hb, hD, hX, q0, q1] at hb)) | (simp only [go_sem, Nat.reduceLeDiff, Nat.reduceEqDiff, reduceIte, reduceCtorEq, Nat.reduceAdd, Nat.reduceMul, Nat.reduceSub, Nat.reduceLT, Int.reduceLT, Int.reduceLE, Int.reduceNeg, Int.reduceToNat, Nat.reduceBEq, Nat.reduceBNe, Int.reduceGE, Int.reduceGT, *, cAny6, cL1In, cDep6, cBelow, cAny2, cPickI, Tryz.results126, hb, hD, hX, q0, q1])))
    all_goals first | rfl | skip
 ·obtain ⟨⟨n1, n5⟩, rfl⟩ := main true hb
  clear main
  by_cases h0 : X.1 = 0
  ·rw [if_pos h0] at hL
   have q0 : (X.1 == 0) = true := by rw [h0]; rfl
   clear h0
   generalize hP : any2M bs X.2 = P at hL
   subst hL
   (repeat' (first | (refine gA fun _ => ?_) | (refine fkI (fun hb => ?_) (fun hb => ?_) <;> (try simp only [ew, hb, hD, hX, q0, hP] at hb)) | (simp only [go_sem, Nat.reduceLeDiff, Nat.reduceEqDiff, reduceIte, reduceCtorEq, Nat.reduceAdd, Nat.reduceMul, Nat.reduceSub, Nat.reduceLT, Int.reduceLT, Int.reduceLE, Int.reduceNeg, Int.reduceToNat, Nat.reduceBEq, Nat.reduceBNe, Int.reduceGE, Int.reduceGT, *, cAny6, cL1In, cDep6, cBelow, cAny2, cPickI, Tryz.results126, hb, hD, hX, q0, hP])))
   all_goals first | rfl | skip
  ·rw [if_neg h0] at hL
   have q0 : (X.1 == 0) = false := beq_eq_false_iff_ne.2 h0
   clear h0
   by_cases h1 : X.1 = 1
   ·rw [if_pos h1] at hL
    have q1 : (X.1 == 1) = true := by rw [h1]; rfl
    clear h1
    generalize hP : pickM [-1, 4, 5] bs X.2 = P at hL
    subst hL
    (repeat' (first | (refine gA fun _ => ?_) | (refine fkI (fun hb => ?_) (fun hb => ?_) <;> (try simp only [ew, hb, hD, hX, q0, q1, eA, hP] at hb)) | (simp only [go_sem, Nat.reduceLeDiff, Nat.reduceEqDiff, reduceIte, reduceCtorEq, Nat.reduceAdd, Nat.reduceMul, Nat.reduceSub, Nat.reduceLT, Int.reduceLT, Int.reduceLE, Int.reduceNeg, Int.reduceToNat, Nat.reduceBEq, Nat.reduceBNe, Int.reduceGE, Int.reduceGT, *, cAny6, cL1In, cDep6, cBelow, cAny2, cPickI, Tryz.results126, hb, hD, hX, q0, q1, eA, hP])))
    all_goals first | rfl | skip
   ·rw [if_neg h1] at hL
    have q1 : (X.1 == 1) = false := beq_eq_false_iff_ne.2 h1
    clear h1
    subst hL
    (repeat' (first | (refine gA fun _ => ?_) | (refine fkI (fun hb => ?_) (fun hb => ?_) <;> (try simp only [ew, hb, hD, hX, q0, q1] at hb)) | (simp only [go_sem, Nat.reduceLeDiff, Nat.reduceEqDiff, reduceIte, reduceCtorEq, Nat.reduceAdd, Nat.reduceMul, Nat.reduceSub, Nat.reduceLT, Int.reduceLT, Int.reduceLE, Int.reduceNeg, Int.reduceToNat, Nat.reduceBEq, Nat.reduceBNe, Int.reduceGE, Int.reduceGT, *, cAny6, cL1In, cDep6, cBelow, cAny2, cPickI, Tryz.results126, hb, hD, hX, q0, q1])))
    all_goals first | rfl | skip
end Go.Own
/-
  The draws of dependencies with columns, of lists of sets, of parts. Conditions: as each theorem states them.
-/
namespace Go.Own
open Go Go.Proofs
attribute [local go_sem] tf1b ft1b cuO rI rB cuP unB_bL bL_length wfB_bL unD_dL dL_length dL_get dL_set dL_inj wfD_dL scal2 beq2 pair_eta
def l10M : Dr (Int × List (Int × Int)) := fun bs s =>
 let a := belowM 3 bs s
 let l := dpsM (2 + a.1) bs a.2
 let x := belowM 14 bs l.2
 if x.1 = 0 then ((2 + a.1, l.1 ++ [(any6M (2 + a.1) bs x.2).1]), (any6M (2 + a.1) bs x.2).2)
 else if x.1 = 1 then (((pickM [0, 1, 5, 6] bs x.2).1, l.1), (pickM [0, 1, 5, 6] bs x.2).2)
 else ((2 + a.1, l.1), x.2)
theorem dpsM_len {n : Int} {bs : List Int} {s : Cu} : (dpsM n bs s).1.length ≤ 4 := by
 unfold dpsM
 rw [dpsN_len]
 have := @belowM_range 5 bs s (by decide)
 omega
theorem l10M_facts {bs : List Int} {s : Cu} : (0 ≤ (l10M bs s).1.1 ∧ (l10M bs s).1.1 ≤ 6) ∧ (l10M bs s).1.2.length ≤ 5 := by
 have h1 := @belowM_range 3 bs s (by decide)
 have h2 := @dpsM_len (2 + (belowM 3 bs s).1) bs (belowM 3 bs s).2
 unfold l10M
 dsimp only
 split
 ·dsimp only; exact ⟨⟨by omega, by omega⟩, by simp; omega⟩
 ·split
  ·dsimp only
   have h3 := @pickM_mem [0, 1, 5, 6] bs (belowM 14 bs (dpsM (2 + (belowM 3 bs s).1) bs (belowM 3 bs s).2).2).2 (by simp)
   simp only [List.mem_cons, List.not_mem_nil, or_false] at h3
   exact ⟨⟨by omega, by omega⟩, by omega⟩
  ·dsimp only; exact ⟨⟨by omega, by omega⟩, by omega⟩
def cL10 : Contract := ⟨[true], false, fun
 | [.box [.sl 1 l, .v (.int .i64 i), .v (.int .i64 h)]] => some (WfB l ∧ 0 ≤ i, [⟨false, [.d (.v (.int .i64 (l10M (unB l) (i.toNat, h)).1.1))]⟩, ⟨false, [.own 2 (dL (l10M (unB l) (i.toNat, h)).1.2) 1]⟩], cuO l (l10M (unB l) (i.toNat, h)).2)
 | _ => none⟩
theorem l10_ok : ContractOK E0 77 cL10 := by
 refine contract_of_wpcB (E := E0) (T := mkT Tryz.prog [(42, cBelow), (125, cDps), (126, cAny6), (118, cPickI)] false (fun d => d == 25) false (fun _ => false)) (mkT_ok (E := E0) (.cons below_ok (.cons dps_ok (.cons any6_ok (.cons pickI_ok .nil))))) rfl (fn := Tryz.f77) Tryz.func77 (by kernel_rfl) rfl mixedT (by kernel_rfl) rfl rfl (Nat.le_of_ble_eq_true rfl) ?_
 intro args p rs ms hr
 unfold cL10 at hr
 dsimp only at hr
 split at hr
 rotate_left
 ·cases hr
 rename_i l i h
 simp only [Option.some.injEq, Prod.mk.injEq] at hr
 obtain ⟨rfl, rfl, rfl⟩ := hr
 refine ⟨_, _, _, rfl, rfl, rfl, rfl, Nat.le_of_ble_eq_true rfl, ?_⟩
 have hm : maxLen = 9223372036854775807 := rfl
 rintro ⟨h1, h2⟩ bs0
 obtain ⟨bs, rfl, hx⟩ := h1.ex
 clear h1
 rw [unB_bL]
 obtain ⟨i, rfl⟩ := Int.eq_ofNat_of_zero_le h2
 rw [Int.toNat_natCast]
 have r1 := @belowM_range 3 bs (i, h) (by decide)
 generalize hL : l10M bs (i, h) = L
 unfold l10M at hL
 dsimp only at hL
 generalize hA : belowM 3 bs (i, h) = A at r1 hL
 have f1 := @dpsM_len (2 + A.1) bs A.2
 generalize hD : dpsM (2 + A.1) bs A.2 = Dd at f1 hL
 generalize hX : belowM 14 bs Dd.2 = X at hL
 have m1 : Dd.1.length ≤ maxLen := Nat.le_trans f1 (by decide)
 have eA : [[D.v (.int .i64 0)], [D.v (.int .i64 1)], [D.v (.int .i64 5)], [D.v (.int .i64 6)]] = iL [0, 1, 5, 6] := rfl
 have nA : ¬ iL [0, 1, 5, 6] = [] := by simp [iL]
 by_cases h0 : X.1 = 0
 ·rw [if_pos h0] at hL
  have q0 : (X.1 == 0) = true := by rw [h0]; rfl
  clear h0
  generalize hP : any6M (2 + A.1) bs X.2 = P at hL
  subst hL
  (repeat' (first | (refine gA fun _ => ?_) | (refine fkI (fun hb => ?_) (fun hb => ?_) <;> (try simp only [ew, hA, hD, hX, q0, hP, dL_sn] at hb)) | (simp only [go_sem, Nat.reduceLeDiff, Nat.reduceEqDiff, reduceIte, reduceCtorEq, Nat.reduceAdd, Nat.reduceMul, Nat.reduceSub, Nat.reduceLT, Int.reduceLT, Int.reduceLE, Int.reduceNeg, Int.reduceToNat, Nat.reduceBEq, Nat.reduceBNe, Int.reduceGE, Int.reduceGT, *, cL10, cBelow, cDps, cAny6, cPickI, Tryz.results77, hA, hD, hX, q0, hP, dL_sn])))
  all_goals first | rfl | skip
 ·rw [if_neg h0] at hL
  have q0 : (X.1 == 0) = false := beq_eq_false_iff_ne.2 h0
  clear h0
  by_cases h1 : X.1 = 1
  ·rw [if_pos h1] at hL
   have q1 : (X.1 == 1) = true := by rw [h1]; rfl
   clear h1
   generalize hP : pickM [0, 1, 5, 6] bs X.2 = P at hL
   subst hL
   (repeat' (first | (refine gA fun _ => ?_) | (refine fkI (fun hb => ?_) (fun hb => ?_) <;> (try simp only [ew, hA, hD, hX, q0, q1, eA, hP] at hb)) | (simp only [go_sem, Nat.reduceLeDiff, Nat.reduceEqDiff, reduceIte, reduceCtorEq, Nat.reduceAdd, Nat.reduceMul, Nat.reduceSub, Nat.reduceLT, Int.reduceLT, Int.reduceLE, Int.reduceNeg, Int.reduceToNat, Nat.reduceBEq, Nat.reduceBNe, Int.reduceGE, Int.reduceGT, *, cL10, cBelow, cDps, cAny6, cPickI, Tryz.results77, hA, hD, hX, q0, q1, eA, hP])))
   all_goals first | rfl | skip
  ·rw [if_neg h1] at hL
   have q1 : (X.1 == 1) = false := beq_eq_false_iff_ne.2 h1
   clear h1
   subst hL
   (repeat' (first | (refine gA fun _ => ?_) | (refine fkI (fun hb => ?_) (fun hb => ?_) <;> (try simp only [ew, hA, hD, hX, q0, q1] at hb)) | (simp only [go_sem, Nat.reduceLeDiff, Nat.reduceEqDiff, reduceIte, reduceCtorEq, Nat.reduceAdd, Nat.reduceMul, Nat.reduceSub, Nat.reduceLT, Int.reduceLT, Int.reduceLE, Int.reduceNeg, Int.reduceToNat, Nat.reduceBEq, Nat.reduceBNe, Int.reduceGE, Int.reduceGT, *, cL10, cBelow, cDps, cAny6, cPickI, Tryz.results77, hA, hD, hX, q0, q1])))
   all_goals first | rfl | skip
def ptsN (n : Int) : Nat → Dr (List Int)
 | 0 => fun _ s => ([], s)
 | k + 1 => fun bs s => ((ptsN n k bs s).1 ++ [1 + (belowM (1 * 2 ^ n.toNat - 1) bs (ptsN n k bs s).2).1], (belowM (1 * 2 ^ n.toNat - 1) bs (ptsN n k bs s).2).2)
theorem ptsN_len {n : Int} {bs : List Int} {s : Cu} : ∀ {k : Nat}, (ptsN n k bs s).1.length = k
 | 0 => rfl
 | k + 1 => by simp [ptsN, @ptsN_len n bs s k]
def ptsX (n x : Int) : Int := bitI .or .i64 (1 * 2 ^ n.toNat - bitI .andNot .i64 1 x) 1
def ptsM (n : Int) : Dr (List Int) := fun bs s =>
 let a := belowM 3 bs s
 let l := ptsN n (1 + a.1).toNat bs a.2
 if orAll 0 l.1 = all2 n then (l.1, l.2) else
 let o := onceM 8 bs l.2
 if o.1 then (l.1, o.2) else (l.1 ++ [ptsX n (orAll 0 l.1)], o.2)
theorem ptsM_len {n : Int} {bs : List Int} {s : Cu} : (ptsM n bs s).1.length ≤ 4 := by
 have h1 := @belowM_range 3 bs s (by decide)
 have h2 := @ptsN_len n bs (belowM 3 bs s).2 (1 + (belowM 3 bs s).1).toNat
 unfold ptsM
 dsimp only
 split
 ·dsimp only; omega
 ·split
  ·dsimp only; omega
  ·simp; omega
theorem orAll_snoc : ∀ {l : List Int} {a x : Int}, orAll a (l ++ [x]) = bitI .or .i64 (orAll a l) x
 | [], a, x => rfl
 | y :: l, a, x => by rw [List.cons_append, orAll, orAll, orAll_snoc]
theorem and1_key : ∀ x : Fin 32, 0 ≤ bitI .andNot .i64 1 ((x.val : Nat) : Int) ∧ bitI .andNot .i64 1 ((x.val : Nat) : Int) ≤ 1 := by decide +kernel
theorem orR32 : ∀ x y : Fin 32, 0 ≤ bitI .or .i64 ((x.val : Nat) : Int) ((y.val : Nat) : Int) ∧ bitI .or .i64 ((x.val : Nat) : Int) ((y.val : Nat) : Int) ≤ 31 := by decide +kernel
theorem ptsN_or {n : Nat} {bs : List Int} {s : Cu} (hn : 1 ≤ n ∧ n ≤ 5) : ∀ {k : Nat}, 0 ≤ orAll 0 (ptsN n k bs s).1 ∧ orAll 0 (ptsN n k bs s).1 ≤ 31
 | 0 => by simp [ptsN, orAll]
 | k + 1 => by
  have ih := @ptsN_or n bs s hn k
  rw [ptsN, orAll_snoc]
  have hp : 2 ≤ (2 : Int) ^ n ∧ (2 : Int) ^ n ≤ 32 := by
   have : n = 1 ∨ n = 2 ∨ n = 3 ∨ n = 4 ∨ n = 5 := by omega
   rcases this with rfl | rfl | rfl | rfl | rfl <;> decide
  have r := @belowM_range (1 * 2 ^ ((n : Nat) : Int).toNat - 1) bs (ptsN n k bs s).2 (by rw [Int.toNat_natCast]; omega)
  rw [Int.toNat_natCast] at r
  rw [Int.toNat_natCast]
  have := orR32 ⟨(orAll 0 (ptsN n k bs s).1).toNat, by omega⟩ ⟨(1 + (belowM (1 * 2 ^ n - 1) bs (ptsN n k bs s).2).1).toNat, by omega⟩
  dsimp only at this
  rwa [show (((orAll 0 (ptsN n k bs s).1).toNat : Nat) : Int) = orAll 0 (ptsN n k bs s).1 by omega, show (((1 + (belowM (1 * 2 ^ n - 1) bs (ptsN n k bs s).2).1).toNat : Nat) : Int) = 1 + (belowM (1 * 2 ^ n - 1) bs (ptsN n k bs s).2).1 by omega] at this
def cPts : Contract := ⟨[true], false, fun
 | [.box [.sl 1 l, .v (.int .i64 i), .v (.int .i64 h)], .one (.v (.int .i64 n))] => some (WfB l ∧ 0 ≤ i ∧ 1 ≤ n ∧ n ≤ 5, [⟨false, [.own 1 (iL (ptsM n (unB l) (i.toNat, h)).1) 1]⟩], cuO l (ptsM n (unB l) (i.toNat, h)).2)
 | _ => none⟩
theorem pts_ok : ContractOK E0 68 cPts := by
 refine contract_of_wpcB (E := E0) (T := mkT Tryz.prog [(42, cBelow), (65, cOnce)] false (fun _ => false) false (fun d => d == 999)) (mkT_ok (E := E0) (.cons below_ok (.cons once_ok .nil))) rfl (fn := Tryz.f68) Tryz.func68 (by kernel_rfl) rfl mixedT (by kernel_rfl) rfl rfl (Nat.le_of_ble_eq_true rfl) ?_
 intro args p rs ms hr
 unfold cPts at hr
 dsimp only at hr
 split at hr
 rotate_left
 ·cases hr
 rename_i l i h n
 simp only [Option.some.injEq, Prod.mk.injEq] at hr
 obtain ⟨rfl, rfl, rfl⟩ := hr
 refine ⟨_, _, _, rfl, rfl, rfl, rfl, Nat.le_of_ble_eq_true rfl, ?_⟩
 have hm : maxLen = 9223372036854775807 := rfl
 rintro ⟨h1, h2, n1, n5⟩ bs0
 obtain ⟨bs, rfl, hx⟩ := h1.ex
 clear h1
 rw [unB_bL]
 obtain ⟨i, rfl⟩ := Int.eq_ofNat_of_zero_le h2
 obtain ⟨n, rfl⟩ := Int.eq_ofNat_of_zero_le (show 0 ≤ n by omega)
 rw [Int.toNat_natCast]
 have hp : 2 ≤ (2 : Int) ^ n ∧ (2 : Int) ^ n ≤ 32 := by
  have : n = 1 ∨ n = 2 ∨ n = 3 ∨ n = 4 ∨ n = 5 := by omega
  rcases this with rfl | rfl | rfl | rfl | rfl <;> decide
 generalize hL : ptsM n bs (i, h) = L
 unfold ptsM ptsX all2 at hL
 dsimp only at hL
 rw [Int.toNat_natCast] at hL
 have r1 := @belowM_range 3 bs (i, h) (by decide)
 generalize hA : belowM 3 bs (i, h) = A at r1 hL
 obtain ⟨N, hN⟩ := Int.eq_ofNat_of_zero_le (show 0 ≤ 1 + A.1 by omega)
 have hN2 : (1 + A.1).toNat = N := by omega
 have hN6 : N ≤ 3 := by omega
 rw [hN2] at hL
 have hF := fun k => @ptsN_len n bs A.2 k
 have hO := fun k => @ptsN_or n bs A.2 ⟨by omega, by omega⟩ k
 have e0 : iL [] = [] := rfl
 (repeat' (first | (refine gA fun _ => ?_) | (refine fkI (fun hb => ?_) (fun hb => ?_) <;> (try simp only [ew, hA, e0] at hb)) | (simp only [go_sem, Nat.reduceLeDiff, Nat.reduceEqDiff, reduceIte, reduceCtorEq, Nat.reduceAdd, Nat.reduceMul, Nat.reduceSub, Nat.reduceLT, Int.reduceLT, Int.reduceLE, Int.reduceNeg, Int.reduceToNat, Nat.reduceBEq, Nat.reduceBNe, Int.reduceGE, Int.reduceGT, *, cPts, cBelow, cOnce, Tryz.results68, hA, e0])))
 refine lpI { ι := Nat, rs := [(8, 9), (13, 30)], mods := [(7, fun k => .one (.d (.v (.int .i64 ((N : Int) - k))))), (6, fun k => .one (.d (.v (.int .i64 (orAll 0 (ptsN n k bs A.2).1))))), (5, fun k => .one (.own 1 (iL (ptsN n k bs A.2).1) 1))], boxes := [(0, fun k => cuP bs (ptsN n k bs A.2).2)], arrs := [], ok := fun k => k ≤ N, mu := fun k => N - k } rfl 0 (Nat.zero_le _) ?_ fun k hk => ?_
 ·have e1 : ptsN n 0 bs A.2 = ([], A.2) := rfl
  have e2 : orAll 0 [] = 0 := rfl
  clear hF hO
  (repeat' (first | (refine gA fun _ => ?_) | (refine fkI (fun hb => ?_) (fun hb => ?_) <;> (try simp only [ew, e1, e0, e2] at hb)) | (simp only [go_sem, Nat.reduceLeDiff, Nat.reduceEqDiff, reduceIte, reduceCtorEq, Nat.reduceAdd, Nat.reduceMul, Nat.reduceSub, Nat.reduceLT, Int.reduceLT, Int.reduceLE, Int.reduceNeg, Int.reduceToNat, Nat.reduceBEq, Nat.reduceBNe, Int.reduceGE, Int.reduceGT, *, cPts, cBelow, cOnce, Tryz.results68, e1, e0, e2])))
  all_goals first | rfl | (simp; omega) | skip
 ·dsimp only at k hk
  have f1 := hF k
  have f2 := hO k
  have f3 := hO (k + 1)
  clear hF hO
  by_cases h5 : k < N
  ·have eS : ptsN n (k + 1) bs A.2 = ((ptsN n k bs A.2).1 ++ [1 + (belowM (1 * 2 ^ n - 1) bs (ptsN n k bs A.2).2).1], (belowM (1 * 2 ^ n - 1) bs (ptsN n k bs A.2).2).2) := rfl
   generalize hP : ptsN n k bs A.2 = P at f1 f2 eS
   have r2 := @belowM_range (1 * 2 ^ n - 1) bs P.2 (by omega)
   generalize hD : belowM (1 * 2 ^ n - 1) bs P.2 = Q at eS r2
   have m1 : P.1.length ≤ maxLen := Nat.le_trans (show P.1.length ≤ 20 by omega) (by decide)
   have hpos : ((N : Int) - k) > 0 := by omega
   have eO := @orAll_snoc P.1 0 (1 + Q.1)
   clear f3
   (repeat' (first | (refine gA fun _ => ?_) | (refine fkI (fun hb => ?_) (fun hb => ?_) <;> (try simp only [ew, hP, hD, iL_sn, bits64] at hb)) | (simp only [go_sem, Nat.reduceLeDiff, Nat.reduceEqDiff, reduceIte, reduceCtorEq, Nat.reduceAdd, Nat.reduceMul, Nat.reduceSub, Nat.reduceLT, Int.reduceLT, Int.reduceLE, Int.reduceNeg, Int.reduceToNat, Nat.reduceBEq, Nat.reduceBNe, Int.reduceGE, Int.reduceGT, *, cPts, cBelow, cOnce, Tryz.results68, hP, hD, iL_sn, bits64])))
   refine lpN (k + 1) (by dsimp only; omega) (by dsimp only; omega) ?_
   (repeat' (first | (refine gA fun _ => ?_) | (refine fkI (fun hb => ?_) (fun hb => ?_) <;> (try simp only [ew, eS, iL_sn, eO] at hb)) | (simp only [go_sem, Nat.reduceLeDiff, Nat.reduceEqDiff, reduceIte, reduceCtorEq, Nat.reduceAdd, Nat.reduceMul, Nat.reduceSub, Nat.reduceLT, Int.reduceLT, Int.reduceLE, Int.reduceNeg, Int.reduceToNat, Nat.reduceBEq, Nat.reduceBNe, Int.reduceGE, Int.reduceGT, *, cPts, cBelow, cOnce, Tryz.results68, eS, iL_sn, eO])))
   all_goals first | rfl | omega | skip
  ·have e5 : k = N := by omega
   subst e5
   clear f3
   generalize hP : ptsN n k bs A.2 = P at f1 f2 hL
   have z0 : ((k : Nat) : Int) - ((k : Nat) : Int) = 0 := by omega
   have m1 : P.1.length ≤ maxLen := Nat.le_trans (show P.1.length ≤ 20 by omega) (by decide)
   have hk1 := and1_key ⟨(orAll 0 P.1).toNat, by omega⟩
   dsimp only at hk1
   rw [show (((orAll 0 P.1).toNat : Nat) : Int) = orAll 0 P.1 by omega] at hk1
   generalize hX : orAll 0 P.1 = X at f2 hL hk1
   by_cases hall : X = 1 * 2 ^ n - 1
   ·rw [if_pos hall] at hL
    have q1 : (X != 1 * 2 ^ n - 1) = false := by rw [hall]; simp
    subst hL
    clear hall
    (repeat' (first | (refine gA fun _ => ?_) | (refine fkI (fun hb => ?_) (fun hb => ?_) <;> (try simp only [ew, hP, z0, hX, q1, bits64] at hb)) | (simp only [go_sem, Nat.reduceLeDiff, Nat.reduceEqDiff, reduceIte, reduceCtorEq, Nat.reduceAdd, Nat.reduceMul, Nat.reduceSub, Nat.reduceLT, Int.reduceLT, Int.reduceLE, Int.reduceNeg, Int.reduceToNat, Nat.reduceBEq, Nat.reduceBNe, Int.reduceGE, Int.reduceGT, *, cPts, cBelow, cOnce, Tryz.results68, hP, z0, hX, q1, bits64])))
    all_goals first | rfl | skip
   ·rw [if_neg hall] at hL
    have q1 : (X != 1 * 2 ^ n - 1) = true := by rw [bne_iff_ne]; exact hall
    clear hall
    generalize hO1 : onceM 8 bs P.2 = O at hL
    cases ho : O.1
    ·rw [ho, if_neg (by decide)] at hL
     subst hL
     (repeat' (first | (refine gA fun _ => ?_) | (refine fkI (fun hb => ?_) (fun hb => ?_) <;> (try simp only [ew, hP, z0, hX, q1, hO1, ho, bits64, iL_sn] at hb)) | (simp only [go_sem, Nat.reduceLeDiff, Nat.reduceEqDiff, reduceIte, reduceCtorEq, Nat.reduceAdd, Nat.reduceMul, Nat.reduceSub, Nat.reduceLT, Int.reduceLT, Int.reduceLE, Int.reduceNeg, Int.reduceToNat, Nat.reduceBEq, Nat.reduceBNe, Int.reduceGE, Int.reduceGT, *, cPts, cBelow, cOnce, Tryz.results68, hP, z0, hX, q1, hO1, ho, bits64, iL_sn])))
     all_goals first | rfl | skip
    ·rw [ho, if_pos rfl] at hL
     subst hL
     (repeat' (first | (refine gA fun _ => ?_) | (refine fkI (fun hb => ?_) (fun hb => ?_) <;> (try simp only [ew, hP, z0, hX, q1, hO1, ho, bits64] at hb)) | (simp only [go_sem, Nat.reduceLeDiff, Nat.reduceEqDiff, reduceIte, reduceCtorEq, Nat.reduceAdd, Nat.reduceMul, Nat.reduceSub, Nat.reduceLT, Int.reduceLT, Int.reduceLE, Int.reduceNeg, Int.reduceToNat, Nat.reduceBEq, Nat.reduceBNe, Int.reduceGE, Int.reduceGT, *, cPts, cBelow, cOnce, Tryz.results68, hP, z0, hX, q1, hO1, ho, bits64])))
     all_goals first | rfl | skip
def l14M : Dr (Int × List (Int × Int) × List Int) := fun bs s =>
 let a := l10M bs s
 if inB a.1.1 1 5 then ((a.1.1, a.1.2, (ptsM a.1.1 bs a.2).1), (ptsM a.1.1 bs a.2).2) else ((a.1.1, a.1.2, [1]), a.2)
theorem l14M_facts {bs : List Int} {s : Cu} : (0 ≤ (l14M bs s).1.1 ∧ (l14M bs s).1.1 ≤ 6) ∧ (l14M bs s).1.2.1.length ≤ 5 ∧ (l14M bs s).1.2.2.length ≤ 4 := by
 obtain ⟨h1, h2⟩ := @l10M_facts bs s
 have h3 := @ptsM_len (l10M bs s).1.1 bs (l10M bs s).2
 unfold l14M
 dsimp only
 split
 ·exact ⟨h1, h2, h3⟩
 ·exact ⟨h1, h2, by simp⟩
def cL14 : Contract := ⟨[true], false, fun
 | [.box [.sl 1 l, .v (.int .i64 i), .v (.int .i64 h)]] => some (WfB l ∧ 0 ≤ i, [⟨false, [.d (.v (.int .i64 (l14M (unB l) (i.toNat, h)).1.1))]⟩, ⟨false, [.own 2 (dL (l14M (unB l) (i.toNat, h)).1.2.1) 1]⟩, ⟨false, [.own 1 (iL (l14M (unB l) (i.toNat, h)).1.2.2) 1]⟩], cuO l (l14M (unB l) (i.toNat, h)).2)
 | _ => none⟩
theorem l14_ok : ContractOK E0 41 cL14 := by
 refine contract_of_wpcB (E := E0) (T := mkT Tryz.prog [(77, cL10), (67, cL1In), (68, cPts)] false (fun _ => false) false (fun _ => false)) (mkT_ok (E := E0) (.cons l10_ok (.cons l1In_ok (.cons pts_ok .nil)))) rfl (fn := Tryz.f41) Tryz.func41 (by kernel_rfl) rfl mixedT (by kernel_rfl) rfl rfl (Nat.le_of_ble_eq_true rfl) ?_
 intro args p rs ms hr
 unfold cL14 at hr
 dsimp only at hr
 split at hr
 rotate_left
 ·cases hr
 rename_i l i h
 simp only [Option.some.injEq, Prod.mk.injEq] at hr
 obtain ⟨rfl, rfl, rfl⟩ := hr
 refine ⟨_, _, _, rfl, rfl, rfl, rfl, Nat.le_of_ble_eq_true rfl, ?_⟩
 have hm : maxLen = 9223372036854775807 := rfl
 rintro ⟨h1, h2⟩ bs0
 obtain ⟨bs, rfl, hx⟩ := h1.ex
 clear h1
 rw [unB_bL]
 obtain ⟨i, rfl⟩ := Int.eq_ofNat_of_zero_le h2
 rw [Int.toNat_natCast]
 have f1 := @l10M_facts bs (i, h)
 generalize hL : l14M bs (i, h) = L
 unfold l14M at hL
 dsimp only at hL
 generalize hA : l10M bs (i, h) = A at f1 hL
 have m1 : A.1.2.length ≤ maxLen := Nat.le_trans f1.2 (by decide)
 have e1 : [[D.v (.int .i64 1)]] = iL [1] := rfl
 cases hb : inB A.1.1 1 5
 ·rw [hb, if_neg (by decide)] at hL
  subst hL
  (repeat' (first | (refine gA fun _ => ?_) | (refine fkI (fun hb => ?_) (fun hb => ?_) <;> (try simp only [ew, hA, hb, e1] at hb)) | (simp only [go_sem, Nat.reduceLeDiff, Nat.reduceEqDiff, reduceIte, reduceCtorEq, Nat.reduceAdd, Nat.reduceMul, Nat.reduceSub, Nat.reduceLT, Int.reduceLT, Int.reduceLE, Int.reduceNeg, Int.reduceToNat, Nat.reduceBEq, Nat.reduceBNe, Int.reduceGE, Int.reduceGT, *, cL14, cL10, cL1In, cPts, Tryz.results41, hA, hb, e1])))
  all_goals first | rfl | skip
 ·rw [hb, if_pos rfl] at hL
  have hb' := inB_iff.1 hb
  have f2 := @ptsM_len A.1.1 bs A.2
  generalize hP : ptsM A.1.1 bs A.2 = P at hL f2
  have m2 : P.1.length ≤ maxLen := Nat.le_trans f2 (by decide)
  subst hL
  (repeat' (first | (refine gA fun _ => ?_) | (refine fkI (fun hb => ?_) (fun hb => ?_) <;> (try simp only [ew, hA, hb, hP] at hb)) | (simp only [go_sem, Nat.reduceLeDiff, Nat.reduceEqDiff, reduceIte, reduceCtorEq, Nat.reduceAdd, Nat.reduceMul, Nat.reduceSub, Nat.reduceLT, Int.reduceLT, Int.reduceLE, Int.reduceNeg, Int.reduceToNat, Nat.reduceBEq, Nat.reduceBNe, Int.reduceGE, Int.reduceGT, *, cL14, cL10, cL1In, cPts, Tryz.results41, hA, hb, hP])))
  all_goals first | rfl | skip
end Go.Own
/-
  The draws of the law of lossless parts; lists of rows compared. Conditions: as each theorem states them.
-/
namespace Go.Own
open Go Go.Proofs
theorem lSameInts_ok : ContractOK E0 28 cEqIntS := by
 refine cWpc (E := E0) (T := mkT Tryz.prog [] false (fun _ => false) true (fun _ => false)) (mkT_ok (E := E0) .nil) (fn := Tryz.f28) Tryz.func28 (by kernel_rfl) rfl mixedT (by kernel_rfl) rfl ?_
 intro args p rs ms hr
 unfold cEqIntS at hr
 dsimp only at hr
 split at hr
 rotate_left
 ·cases hr
 rename_i a b
 simp only [Option.some.injEq, Prod.mk.injEq] at hr
 obtain ⟨rfl, rfl, rfl⟩ := hr
 refine ⟨rfl, rfl, Nat.le_of_ble_eq_true rfl, ?_⟩
 have hm : maxLen = 9223372036854775807 := rfl
 rintro ⟨h1, h2⟩ bs
 obtain ⟨xs, rfl, hx⟩ := h1.ex
 obtain ⟨ys, rfl, hy⟩ := h2.ex
 clear h1 h2
 rw [unI_iL, unI_iL]
 (repeat' (first | (refine gA fun _ => ?_) | (refine fkI (fun hb => ?_) (fun hb => ?_) <;> (try simp only [ew] at hb)) | (simp only [go_sem, Nat.reduceLeDiff, Nat.reduceEqDiff, reduceIte, reduceCtorEq, Nat.reduceAdd, Nat.reduceMul, Nat.reduceSub, Nat.reduceLT, Int.reduceLT, Int.reduceLE, Int.reduceNeg, Int.reduceToNat, Nat.reduceBEq, Nat.reduceBNe, Int.reduceGE, Int.reduceGT, *, cEqIntS, Tryz.results28])))
 ·exact (not_len ‹_›).symm
 ·refine lpI { ι := Nat, rs := [(4, 5), (11, 26)], mods := [(5, fun i => .one (.d (.v (.int .i64 i))))], boxes := [], arrs := [], ok := fun i => i ≤ xs.length ∧ xs.take i = ys.take i, mu := fun i => xs.length - i } rfl 0 ⟨Nat.zero_le _, rfl⟩ ?_ fun i hi => ?_
  ·(repeat' (first | (refine gA fun _ => ?_) | (refine fkI (fun hb => ?_) (fun hb => ?_) <;> (try simp only [ew] at hb)) | (simp only [go_sem, Nat.reduceLeDiff, Nat.reduceEqDiff, reduceIte, reduceCtorEq, Nat.reduceAdd, Nat.reduceMul, Nat.reduceSub, Nat.reduceLT, Int.reduceLT, Int.reduceLE, Int.reduceNeg, Int.reduceToNat, Nat.reduceBEq, Nat.reduceBNe, Int.reduceGE, Int.reduceGT, *, cEqIntS, Tryz.results28])))
  ·dsimp only at i hi
   obtain ⟨hi, ht⟩ := hi
   have hlen : xs.length = ys.length := by omega
   (repeat' (first | (refine gA fun _ => ?_) | (refine fkI (fun hb => ?_) (fun hb => ?_) <;> (try simp only [ew] at hb)) | (simp only [go_sem, Nat.reduceLeDiff, Nat.reduceEqDiff, reduceIte, reduceCtorEq, Nat.reduceAdd, Nat.reduceMul, Nat.reduceSub, Nat.reduceLT, Int.reduceLT, Int.reduceLE, Int.reduceNeg, Int.reduceToNat, Nat.reduceBEq, Nat.reduceBNe, Int.reduceGE, Int.reduceGT, *, cEqIntS, Tryz.results28])))
   ·exact (beq_eq_false_iff_ne.2 (ne_of_getD ‹_›)).symm
   ·have hq := ‹xs.getD i 0 = ys.getD i 0›
    refine lpN (i + 1) ⟨by omega, by rw [take_succ_getD (by omega) 0, take_succ_getD (by omega) 0, ht, hq]⟩ (by dsimp only; omega) ?_
    (repeat' (first | (refine gA fun _ => ?_) | (refine fkI (fun hb => ?_) (fun hb => ?_) <;> (try simp only [ew] at hb)) | (simp only [go_sem, Nat.reduceLeDiff, Nat.reduceEqDiff, reduceIte, reduceCtorEq, Nat.reduceAdd, Nat.reduceMul, Nat.reduceSub, Nat.reduceLT, Int.reduceLT, Int.reduceLE, Int.reduceNeg, Int.reduceToNat, Nat.reduceBEq, Nat.reduceBNe, Int.reduceGE, Int.reduceGT, *, cEqIntS, Tryz.results28])))
   ·have := eq_of_takes hlen (by omega) ht
    subst this; simp
def cSameP : Contract := ⟨[], false, fun
 | [.one (.sl 1 a), .one (.sl 1 b)] => some (WfS a ∧ WfS b, [⟨false, [.d (.v (.bool (unS a == unS b)))]⟩], [])
 | _ => none⟩
theorem sameP_ok : ContractOK E0 22 cSameP := by
 refine cWpc (E := E0) (T := mkT Tryz.prog [(28, cEqIntS)] false (fun _ => false) true (fun _ => false)) (mkT_ok (E := E0) (.cons lSameInts_ok .nil)) (fn := Tryz.f22) Tryz.func22 (by kernel_rfl) rfl mixedT (by kernel_rfl) rfl ?_
 intro args p rs ms hr
 unfold cSameP at hr
 dsimp only at hr
 split at hr
 rotate_left
 ·cases hr
 rename_i a b
 simp only [Option.some.injEq, Prod.mk.injEq] at hr
 obtain ⟨rfl, rfl, rfl⟩ := hr
 refine ⟨rfl, rfl, Nat.le_of_ble_eq_true rfl, ?_⟩
 have hm : maxLen = 9223372036854775807 := rfl
 rintro ⟨h1, h2⟩ bs
 obtain ⟨xs, rfl, hx, hx2⟩ := h1.ex
 obtain ⟨ys, rfl, hy, hy2⟩ := h2.ex
 clear h1 h2
 rw [unS_sL, unS_sL]
 (repeat' (first | (refine gA fun _ => ?_) | (refine fkI (fun hb => ?_) (fun hb => ?_) <;> (try simp only [ew] at hb)) | (simp only [go_sem, Nat.reduceLeDiff, Nat.reduceEqDiff, reduceIte, reduceCtorEq, Nat.reduceAdd, Nat.reduceMul, Nat.reduceSub, Nat.reduceLT, Int.reduceLT, Int.reduceLE, Int.reduceNeg, Int.reduceToNat, Nat.reduceBEq, Nat.reduceBNe, Int.reduceGE, Int.reduceGT, *, cSameP, cEqIntS, Tryz.results22])))
 ·refine (beq_eq_false_iff_ne.2 fun e => ?_).symm
  subst e
  omega
 ·refine lpI { ι := Nat, rs := [(4, 5), (11, 27)], mods := [(5, fun i => .one (.d (.v (.int .i64 i))))], boxes := [], arrs := [], ok := fun i => i ≤ xs.length ∧ xs.take i = ys.take i, mu := fun i => xs.length - i } rfl 0 ⟨Nat.zero_le _, rfl⟩ ?_ fun i hi => ?_
  ·(repeat' (first | (refine gA fun _ => ?_) | (refine fkI (fun hb => ?_) (fun hb => ?_) <;> (try simp only [ew] at hb)) | (simp only [go_sem, Nat.reduceLeDiff, Nat.reduceEqDiff, reduceIte, reduceCtorEq, Nat.reduceAdd, Nat.reduceMul, Nat.reduceSub, Nat.reduceLT, Int.reduceLT, Int.reduceLE, Int.reduceNeg, Int.reduceToNat, Nat.reduceBEq, Nat.reduceBNe, Int.reduceGE, Int.reduceGT, *, cSameP, cEqIntS, Tryz.results22])))
  ·dsimp only at i hi
   obtain ⟨hi, ht⟩ := hi
   have hlen : xs.length = ys.length := by omega
   have q1 := all_getD hx2 i
   have q2 := all_getD hy2 i
   (repeat' (first | (refine gA fun _ => ?_) | (refine fkI (fun hb => ?_) (fun hb => ?_) <;> (try simp only [ew] at hb)) | (simp only [go_sem, Nat.reduceLeDiff, Nat.reduceEqDiff, reduceIte, reduceCtorEq, Nat.reduceAdd, Nat.reduceMul, Nat.reduceSub, Nat.reduceLT, Int.reduceLT, Int.reduceLE, Int.reduceNeg, Int.reduceToNat, Nat.reduceBEq, Nat.reduceBNe, Int.reduceGE, Int.reduceGT, *, cSameP, cEqIntS, Tryz.results22])))
   ·exact (beq_eq_false_iff_ne.2 (ne_of_getD ‹_›)).symm
   ·have hq := ‹xs.getD i [] = ys.getD i []›
    clear q1 q2
    refine lpN (i + 1) ⟨by omega, by rw [take_succ_getD (by omega) [], take_succ_getD (by omega) [], ht, hq]⟩ (by dsimp only; omega) ?_
    (repeat' (first | (refine gA fun _ => ?_) | (refine fkI (fun hb => ?_) (fun hb => ?_) <;> (try simp only [ew] at hb)) | (simp only [go_sem, Nat.reduceLeDiff, Nat.reduceEqDiff, reduceIte, reduceCtorEq, Nat.reduceAdd, Nat.reduceMul, Nat.reduceSub, Nat.reduceLT, Int.reduceLT, Int.reduceLE, Int.reduceNeg, Int.reduceToNat, Nat.reduceBEq, Nat.reduceBNe, Int.reduceGE, Int.reduceGT, *, cSameP, cEqIntS, Tryz.results22])))
   ·have := eq_of_takes hlen (by omega) ht
    subst this; simp
attribute [local go_sem] tf1b ft1b cuO rI rB cuP unB_bL bL_length wfB_bL unD_dL dL_length dL_get dL_set dL_inj wfD_dL scal2 beq2 pair_eta
abbrev Lo := Int × List (Int × Int) × List Int
def rvLo (x : Lo) : List RV := [⟨false, [.d (.v (.int .i64 x.1))]⟩, ⟨false, [.own 2 (dL x.2.1) 1]⟩, ⟨false, [.own 1 (iL x.2.2) 1]⟩]
def d14 (bs : List Int) : Lo × Cu := l14M bs (newS bs)
theorem d14_facts {bs : List Int} : (0 ≤ (d14 bs).1.1 ∧ (d14 bs).1.1 ≤ 6) ∧ (d14 bs).1.2.1.length ≤ 5 ∧ (d14 bs).1.2.2.length ≤ 4 := l14M_facts
def cDCs : Contract := ⟨[], false, fun
 | [.one (.sl 1 l)] => some (WfB l ∧ l.length ≤ 1048576 ∧ ∀ b ∈ unB l, 0 ≤ b ∧ b ≤ 255, [⟨false, [.d (.v (.int .i64 (d14 (unB l)).1.1))]⟩, ⟨false, [.own 1 (iL (d14 (unB l)).1.2.2) 1]⟩], [])
 | _ => none⟩
theorem dCs_ok : ContractOK E0 20 cDCs := by
 refine cWpc (E := E0) (T := mkT Tryz.prog [(40, cNewC), (41, cL14)] false (fun _ => false) true (fun _ => false)) (mkT_ok (E := E0) (.cons newC_ok (.cons l14_ok .nil))) (fn := Tryz.f20) Tryz.func20 (by kernel_rfl) rfl mixedT (by kernel_rfl) rfl ?_
 intro args p rs ms hr
 unfold cDCs at hr
 dsimp only at hr
 split at hr
 rotate_left
 ·cases hr
 rename_i l
 simp only [Option.some.injEq, Prod.mk.injEq] at hr
 obtain ⟨rfl, rfl, rfl⟩ := hr
 refine ⟨rfl, rfl, Nat.le_of_ble_eq_true rfl, ?_⟩
 have hm : maxLen = 9223372036854775807 := rfl
 rintro ⟨h1, h2, h3⟩ bs0
 obtain ⟨bs, rfl, hx⟩ := h1.ex
 clear h1
 rw [bL_length] at h2
 rw [unB_bL] at h3 ⊢
 obtain ⟨k1, k2, k3⟩ := @d14_facts bs
 have eM : l14M bs (0, newH bs) = d14 bs := rfl
 generalize hM : d14 bs = M at *
 have m1 : M.1.2.1.length ≤ maxLen := Nat.le_trans k2 (by decide)
 have m2 : M.1.2.2.length ≤ maxLen := Nat.le_trans k3 (by decide)
 (repeat' (first | (refine gA fun _ => ?_) | (refine fkI (fun hb => ?_) (fun hb => ?_) <;> (try simp only [ew, eM, hM] at hb)) | (simp only [go_sem, Nat.reduceLeDiff, Nat.reduceEqDiff, reduceIte, reduceCtorEq, Nat.reduceAdd, Nat.reduceMul, Nat.reduceSub, Nat.reduceLT, Int.reduceLT, Int.reduceLE, Int.reduceNeg, Int.reduceToNat, Nat.reduceBEq, Nat.reduceBNe, Int.reduceGE, Int.reduceGT, *, cDCs, cNewC, cL14, Tryz.results20, eM, hM])))
 all_goals first | rfl | skip
def dStR (bs : List Int) : List (List Int) := if (onceM 10 bs (d14 bs).2).1 then csF (d14 bs).1.1 (d14 bs).1.2.2 ++ [[(belowM 3 bs (onceM 10 bs (d14 bs).2).2).1]] else csF (d14 bs).1.1 (d14 bs).1.2.2
theorem dStR_facts {bs : List Int} : (dStR bs).length ≤ 11 ∧ ∀ r ∈ dStR bs, r.length ≤ 5 := by
 obtain ⟨f1, f2, _⟩ := @csF_facts (d14 bs).1.1 (d14 bs).1.2.2
 unfold dStR
 split
 ·refine ⟨by simp; omega, fun r hr => ?_⟩
  rcases List.mem_append.1 hr with hr | hr
  ·exact f2 r hr
  ·rw [List.mem_singleton] at hr
   rw [hr]; simp
 ·exact ⟨by omega, f2⟩
def cDSt : Contract := ⟨[], false, fun
 | [.one (.sl 1 l)] => some (WfB l ∧ l.length ≤ 1048576 ∧ ∀ b ∈ unB l, 0 ≤ b ∧ b ≤ 255, [⟨false, [.d (.v (.int .i64 (d14 (unB l)).1.1))]⟩, ⟨false, [.own 2 (dL (d14 (unB l)).1.2.1) 1]⟩, ⟨false, [.own 1 (sL (dStR (unB l))) 1]⟩], [])
 | _ => none⟩
theorem dSt_ok : ContractOK E0 17 cDSt := by
 refine cWpc (E := E0) (T := mkT Tryz.prog [(40, cNewC), (41, cL14), (24, cCS), (65, cOnce), (42, cBelow)] false (fun _ => false) true (fun _ => false)) (mkT_ok (E := E0) (.cons newC_ok (.cons l14_ok (.cons csS_ok (.cons once_ok (.cons below_ok .nil)))))) (fn := Tryz.f17) Tryz.func17 (by kernel_rfl) rfl mixedT (by kernel_rfl) rfl ?_
 intro args p rs ms hr
 unfold cDSt at hr
 dsimp only at hr
 split at hr
 rotate_left
 ·cases hr
 rename_i l
 simp only [Option.some.injEq, Prod.mk.injEq] at hr
 obtain ⟨rfl, rfl, rfl⟩ := hr
 refine ⟨rfl, rfl, Nat.le_of_ble_eq_true rfl, ?_⟩
 have hm : maxLen = 9223372036854775807 := rfl
 rintro ⟨h1, h2, h3⟩ bs0
 obtain ⟨bs, rfl, hx⟩ := h1.ex
 clear h1
 rw [bL_length] at h2
 rw [unB_bL] at h3 ⊢
 obtain ⟨k1, k2, k3⟩ := @d14_facts bs
 have eM : l14M bs (0, newH bs) = d14 bs := rfl
 generalize hL : dStR bs = L
 unfold dStR at hL
 generalize hM : d14 bs = M at *
 have m1 : M.1.2.1.length ≤ maxLen := Nat.le_trans k2 (by decide)
 have m2 : M.1.2.2.length ≤ maxLen := Nat.le_trans k3 (by decide)
 obtain ⟨f1, f2, _⟩ := @csF_facts M.1.1 M.1.2.2
 generalize hR : csF M.1.1 M.1.2.2 = R at f1 f2 hL
 have m3 : R.length ≤ maxLen := Nat.le_trans f1 (by decide)
 have m4 : ∀ r ∈ R, r.length ≤ maxLen := fun r hr => Nat.le_trans (f2 r hr) (by decide)
 clear f2
 generalize hO : onceM 10 bs M.2 = O at hL
 cases ho : O.1
 ·rw [ho, if_neg (by decide)] at hL
  subst hL
  (repeat' (first | (refine gA fun _ => ?_) | (refine fkI (fun hb => ?_) (fun hb => ?_) <;> (try simp only [ew, eM, hM, hR, hO, ho] at hb)) | (simp only [go_sem, Nat.reduceLeDiff, Nat.reduceEqDiff, reduceIte, reduceCtorEq, Nat.reduceAdd, Nat.reduceMul, Nat.reduceSub, Nat.reduceLT, Int.reduceLT, Int.reduceLE, Int.reduceNeg, Int.reduceToNat, Nat.reduceBEq, Nat.reduceBNe, Int.reduceGE, Int.reduceGT, *, cDSt, cNewC, cL14, cCS, cOnce, cBelow, Tryz.results17, eM, hM, hR, hO, ho])))
  all_goals first | rfl | skip
 ·rw [ho, if_pos rfl] at hL
  generalize hV : belowM 3 bs O.2 = V at hL
  have e1 : [[D.v (.int .i64 V.1)]] = iL [V.1] := rfl
  subst hL
  (repeat' (first | (refine gA fun _ => ?_) | (refine fkI (fun hb => ?_) (fun hb => ?_) <;> (try simp only [ew, eM, hM, hR, hO, ho, hV, e1, sL_snoc'] at hb)) | (simp only [go_sem, Nat.reduceLeDiff, Nat.reduceEqDiff, reduceIte, reduceCtorEq, Nat.reduceAdd, Nat.reduceMul, Nat.reduceSub, Nat.reduceLT, Int.reduceLT, Int.reduceLE, Int.reduceNeg, Int.reduceToNat, Nat.reduceBEq, Nat.reduceBNe, Int.reduceGE, Int.reduceGT, *, cDSt, cNewC, cL14, cCS, cOnce, cBelow, Tryz.results17, eM, hM, hR, hO, ho, hV, e1, sL_snoc'])))
  all_goals first | rfl | skip
def dLo (bs : List Int) : Lo :=
 let m := d14 bs
 let x := belowM 4 bs m.2
 if x.1 = 0 then (m.1.1, m.1.2.1, decF m.1.1 m.1.2.1) else if x.1 = 1 then (m.1.1, m.1.2.1, synF m.1.1 m.1.2.1) else m.1
theorem dLo_facts {bs : List Int} : (0 ≤ (dLo bs).1 ∧ (dLo bs).1 ≤ 6) ∧ (dLo bs).2.1.length ≤ 5 ∧ (dLo bs).2.2.length ≤ 100 := by
 obtain ⟨k1, k2, k3⟩ := @d14_facts bs
 have h1 : (decF (d14 bs).1.1 (d14 bs).1.2.1).length ≤ 100 := by
  unfold decF
  split
  ·exact selS_length
  ·simp
 have h2 : (synF (d14 bs).1.1 (d14 bs).1.2.1).length ≤ 100 := by
  unfold synF
  split
  ·exact selS_length
  ·simp
 unfold dLo
 dsimp only
 split
 ·exact ⟨k1, k2, h1⟩
 ·split
  ·exact ⟨k1, k2, h2⟩
  ·exact ⟨k1, k2, by omega⟩
def cDLo : Contract := ⟨[], false, fun
 | [.one (.sl 1 l)] => some (WfB l ∧ l.length ≤ 1048576 ∧ ∀ b ∈ unB l, 0 ≤ b ∧ b ≤ 255, rvLo (dLo (unB l)), [])
 | _ => none⟩
theorem dLo_ok : ContractOK E0 6 cDLo := by
 refine cWpc (E := E0) (T := mkT Tryz.prog [(40, cNewC), (41, cL14), (42, cBelow), (30, cDec), (29, cSyn)] false (fun _ => false) true (fun _ => false)) (mkT_ok (E := E0) (.cons newC_ok (.cons l14_ok (.cons below_ok (.cons decS_ok (.cons synS_ok .nil)))))) (fn := Tryz.f6) Tryz.func6 (by kernel_rfl) rfl mixedT (by kernel_rfl) rfl ?_
 intro args p rs ms hr
 unfold cDLo at hr
 dsimp only at hr
 split at hr
 rotate_left
 ·cases hr
 rename_i l
 simp only [Option.some.injEq, Prod.mk.injEq] at hr
 obtain ⟨rfl, rfl, rfl⟩ := hr
 refine ⟨rfl, rfl, Nat.le_of_ble_eq_true rfl, ?_⟩
 have hm : maxLen = 9223372036854775807 := rfl
 rintro ⟨h1, h2, h3⟩ bs0
 obtain ⟨bs, rfl, hx⟩ := h1.ex
 clear h1
 rw [bL_length] at h2
 rw [unB_bL] at h3 ⊢
 obtain ⟨k1, k2, k3⟩ := @d14_facts bs
 obtain ⟨q1, q2, q3⟩ := @dLo_facts bs
 have eM : l14M bs (0, newH bs) = d14 bs := rfl
 generalize hL : dLo bs = L at q3
 unfold dLo at hL
 dsimp only at hL
 generalize hM : d14 bs = M at *
 have m1 : M.1.2.1.length ≤ maxLen := Nat.le_trans k2 (by decide)
 have m2 : M.1.2.2.length ≤ maxLen := Nat.le_trans k3 (by decide)
 clear q1 q2
 generalize hX : belowM 4 bs M.2 = X at hL
 by_cases h0 : X.1 = 0
 ·rw [if_pos h0] at hL
  have q0 : (X.1 == 0) = true := by rw [h0]; rfl
  clear h0
  generalize hP : decF M.1.1 M.1.2.1 = P at hL
  have m3 : P.length ≤ maxLen := by rw [← hL] at q3; exact Nat.le_trans q3 (by decide)
  subst hL
  (repeat' (first | (refine gA fun _ => ?_) | (refine fkI (fun hb => ?_) (fun hb => ?_) <;> (try simp only [ew, eM, hM, hX, q0, hP, rvLo] at hb)) | (simp only [go_sem, Nat.reduceLeDiff, Nat.reduceEqDiff, reduceIte, reduceCtorEq, Nat.reduceAdd, Nat.reduceMul, Nat.reduceSub, Nat.reduceLT, Int.reduceLT, Int.reduceLE, Int.reduceNeg, Int.reduceToNat, Nat.reduceBEq, Nat.reduceBNe, Int.reduceGE, Int.reduceGT, *, cDLo, cNewC, cL14, cBelow, cDec, cSyn, Tryz.results6, eM, hM, hX, q0, hP, rvLo])))
  all_goals first | rfl | skip
 ·rw [if_neg h0] at hL
  have q0 : (X.1 == 0) = false := beq_eq_false_iff_ne.2 h0
  clear h0
  by_cases h1 : X.1 = 1
  ·rw [if_pos h1] at hL
   have q1 : (X.1 == 1) = true := by rw [h1]; rfl
   clear h1
   generalize hP : synF M.1.1 M.1.2.1 = P at hL
   have m3 : P.length ≤ maxLen := by rw [← hL] at q3; exact Nat.le_trans q3 (by decide)
   subst hL
   (repeat' (first | (refine gA fun _ => ?_) | (refine fkI (fun hb => ?_) (fun hb => ?_) <;> (try simp only [ew, eM, hM, hX, q0, q1, hP, rvLo] at hb)) | (simp only [go_sem, Nat.reduceLeDiff, Nat.reduceEqDiff, reduceIte, reduceCtorEq, Nat.reduceAdd, Nat.reduceMul, Nat.reduceSub, Nat.reduceLT, Int.reduceLT, Int.reduceLE, Int.reduceNeg, Int.reduceToNat, Nat.reduceBEq, Nat.reduceBNe, Int.reduceGE, Int.reduceGT, *, cDLo, cNewC, cL14, cBelow, cDec, cSyn, Tryz.results6, eM, hM, hX, q0, q1, hP, rvLo])))
   all_goals first | rfl | skip
  ·rw [if_neg h1] at hL
   have q1 : (X.1 == 1) = false := beq_eq_false_iff_ne.2 h1
   clear h1
   subst hL
   (repeat' (first | (refine gA fun _ => ?_) | (refine fkI (fun hb => ?_) (fun hb => ?_) <;> (try simp only [ew, eM, hM, hX, q0, q1, rvLo] at hb)) | (simp only [go_sem, Nat.reduceLeDiff, Nat.reduceEqDiff, reduceIte, reduceCtorEq, Nat.reduceAdd, Nat.reduceMul, Nat.reduceSub, Nat.reduceLT, Int.reduceLT, Int.reduceLE, Int.reduceNeg, Int.reduceToNat, Nat.reduceBEq, Nat.reduceBNe, Int.reduceGE, Int.reduceGT, *, cDLo, cNewC, cL14, cBelow, cDec, cSyn, Tryz.results6, eM, hM, hX, q0, q1, rvLo])))
   all_goals first | rfl | skip
def dJn (bs : List Int) : (Int × List (List Int)) × List Int :=
 let t := tblM bs (newS bs)
 let o := onceM 14 bs t.2
 let u := if o.1 then anyM bs o.2 else (t.1, o.2)
 if inB u.1.1 1 5 then (u.1, (ptsM u.1.1 bs u.2).1) else (u.1, [1])
theorem dJn_facts {bs : List Int} : (0 ≤ (dJn bs).1.1 ∧ (dJn bs).1.1 ≤ 6) ∧ (dJn bs).1.2.length ≤ 13 ∧ (∀ r ∈ (dJn bs).1.2, r.length ≤ 4) ∧ (dJn bs).2.length ≤ 4 := by
 have key : ∀ u : (Int × List (List Int)) × Cu, u = (if (onceM 14 bs (tblM bs (newS bs)).2).1 then anyM bs (onceM 14 bs (tblM bs (newS bs)).2).2 else ((tblM bs (newS bs)).1, (onceM 14 bs (tblM bs (newS bs)).2).2)) → (0 ≤ u.1.1 ∧ u.1.1 ≤ 6) ∧ u.1.2.length ≤ 13 ∧ ∀ r ∈ u.1.2, r.length ≤ 4 := by
  intro u hu
  subst hu
  split
  ·exact ⟨anyM_facts.1, anyM_facts.2.1, fun r hr => (anyM_facts.2.2 r hr).1⟩
  ·obtain ⟨k1, k2, k3⟩ := @tblM_facts bs (newS bs)
   dsimp only
   exact ⟨by omega, by omega, fun r hr => by have := (k3 r hr).1; omega⟩
 have := key _ rfl
 unfold dJn
 dsimp only
 generalize (if (onceM 14 bs (tblM bs (newS bs)).2).1 = true then anyM bs (onceM 14 bs (tblM bs (newS bs)).2).2 else ((tblM bs (newS bs)).1, (onceM 14 bs (tblM bs (newS bs)).2).2)) = u at this ⊢
 split
 ·exact ⟨this.1, this.2.1, this.2.2, ptsM_len⟩
 ·exact ⟨this.1, this.2.1, this.2.2, by simp⟩
def cDJn : Contract := ⟨[], false, fun
 | [.one (.sl 1 l)] => some (WfB l ∧ l.length ≤ 1048576 ∧ ∀ b ∈ unB l, 0 ≤ b ∧ b ≤ 255, [⟨true, [.d (.v (.int .i64 (dJn (unB l)).1.1)), .own 1 (sL (dJn (unB l)).1.2) 1]⟩, ⟨false, [.own 1 (iL (dJn (unB l)).2) 1]⟩], [])
 | _ => none⟩
theorem dJn_ok : ContractOK E0 16 cDJn := by
 refine cWpc (E := E0) (T := mkT Tryz.prog [(40, cNewC), (64, cTbl), (65, cOnce), (66, cAny), (67, cL1In), (68, cPts)] false (fun _ => false) true (fun d => d == 5 || d == 22 || d == 1000 || d == 1006 || d == 3003)) (mkT_ok (E := E0) (.cons newC_ok (.cons tbl_ok (.cons once_ok (.cons any_ok (.cons l1In_ok (.cons pts_ok .nil))))))) (fn := Tryz.f16) Tryz.func16 (by kernel_rfl) rfl mixedT (by kernel_rfl) rfl ?_
 intro args p rs ms hr
 unfold cDJn at hr
 dsimp only at hr
 split at hr
 rotate_left
 ·cases hr
 rename_i l
 simp only [Option.some.injEq, Prod.mk.injEq] at hr
 obtain ⟨rfl, rfl, rfl⟩ := hr
 refine ⟨rfl, rfl, Nat.le_of_ble_eq_true rfl, ?_⟩
 have hm : maxLen = 9223372036854775807 := rfl
 rintro ⟨h1, h2, h3⟩ bs0
 obtain ⟨bs, rfl, hx⟩ := h1.ex
 clear h1
 rw [bL_length] at h2
 rw [unB_bL] at h3 ⊢
 obtain ⟨k1, k2, k3⟩ := @tblM_facts bs (newS bs)
 obtain ⟨q1, q2, q3, q4⟩ := @dJn_facts bs
 have eM : tblM bs (0, newH bs) = tblM bs (newS bs) := rfl
 generalize hL : dJn bs = L at q1 q2 q3 q4
 unfold dJn at hL
 dsimp only at hL
 generalize hM : tblM bs (newS bs) = M at *
 have m1 : M.1.2.length ≤ maxLen := Nat.le_trans k2 (by decide)
 have m2 : ∀ r ∈ M.1.2, r.length ≤ maxLen := fun r hr => by have := (k3 r hr).1; omega
 have e1 : [[D.v (.int .i64 1)]] = iL [1] := rfl
 clear k3
 generalize hO : onceM 14 bs M.2 = O at hL
 cases ho : O.1
 ·simp only [ho, Bool.false_eq_true, if_false] at hL
  cases hb : inB M.1.1 1 5
  ·rw [hb, if_neg (by decide)] at hL
   subst hL
   clear q3
   (repeat' (first | (refine gA fun _ => ?_) | (refine fkI (fun hb => ?_) (fun hb => ?_) <;> (try simp only [ew, eM, hM, hO, ho, hb, e1] at hb)) | (simp only [go_sem, Nat.reduceLeDiff, Nat.reduceEqDiff, reduceIte, reduceCtorEq, Nat.reduceAdd, Nat.reduceMul, Nat.reduceSub, Nat.reduceLT, Int.reduceLT, Int.reduceLE, Int.reduceNeg, Int.reduceToNat, Nat.reduceBEq, Nat.reduceBNe, Int.reduceGE, Int.reduceGT, *, cDJn, cNewC, cTbl, cOnce, cAny, cL1In, cPts, Tryz.results16, eM, hM, hO, ho, hb, e1])))
   all_goals first | rfl | skip
  ·rw [hb, if_pos rfl] at hL
   have hb' := inB_iff.1 hb
   generalize hP : ptsM M.1.1 bs O.2 = P at hL
   subst hL
   dsimp only at q4
   have m3 : P.1.length ≤ maxLen := Nat.le_trans q4 (by decide)
   clear q3
   (repeat' (first | (refine gA fun _ => ?_) | (refine fkI (fun hb => ?_) (fun hb => ?_) <;> (try simp only [ew, eM, hM, hO, ho, hb, hP] at hb)) | (simp only [go_sem, Nat.reduceLeDiff, Nat.reduceEqDiff, reduceIte, reduceCtorEq, Nat.reduceAdd, Nat.reduceMul, Nat.reduceSub, Nat.reduceLT, Int.reduceLT, Int.reduceLE, Int.reduceNeg, Int.reduceToNat, Nat.reduceBEq, Nat.reduceBNe, Int.reduceGE, Int.reduceGT, *, cDJn, cNewC, cTbl, cOnce, cAny, cL1In, cPts, Tryz.results16, eM, hM, hO, ho, hb, hP])))
   all_goals first | rfl | skip
 ·simp only [ho, if_true] at hL
  obtain ⟨a1, a2, a3⟩ := @anyM_facts bs O.2
  generalize hU : anyM bs O.2 = U at hL a1 a2 a3
  have m4 : U.1.2.length ≤ maxLen := Nat.le_trans a2 (by decide)
  have m5 : ∀ r ∈ U.1.2, r.length ≤ maxLen := fun r hr => by have := (a3 r hr).1; omega
  clear a3
  cases hb : inB U.1.1 1 5
  ·rw [hb, if_neg (by decide)] at hL
   subst hL
   clear q3
   (repeat' (first | (refine gA fun _ => ?_) | (refine fkI (fun hb => ?_) (fun hb => ?_) <;> (try simp only [ew, eM, hM, hO, ho, hU, hb, e1] at hb)) | (simp only [go_sem, Nat.reduceLeDiff, Nat.reduceEqDiff, reduceIte, reduceCtorEq, Nat.reduceAdd, Nat.reduceMul, Nat.reduceSub, Nat.reduceLT, Int.reduceLT, Int.reduceLE, Int.reduceNeg, Int.reduceToNat, Nat.reduceBEq, Nat.reduceBNe, Int.reduceGE, Int.reduceGT, *, cDJn, cNewC, cTbl, cOnce, cAny, cL1In, cPts, Tryz.results16, eM, hM, hO, ho, hU, hb, e1])))
   all_goals first | rfl | skip
  ·rw [hb, if_pos rfl] at hL
   have hb' := inB_iff.1 hb
   generalize hP : ptsM U.1.1 bs U.2 = P at hL
   subst hL
   dsimp only at q4
   have m3 : P.1.length ≤ maxLen := Nat.le_trans q4 (by decide)
   clear q3
   (repeat' (first | (refine gA fun _ => ?_) | (refine fkI (fun hb => ?_) (fun hb => ?_) <;> (try simp only [ew, eM, hM, hO, ho, hU, hb, hP] at hb)) | (simp only [go_sem, Nat.reduceLeDiff, Nat.reduceEqDiff, reduceIte, reduceCtorEq, Nat.reduceAdd, Nat.reduceMul, Nat.reduceSub, Nat.reduceLT, Int.reduceLT, Int.reduceLE, Int.reduceNeg, Int.reduceToNat, Nat.reduceBEq, Nat.reduceBNe, Int.reduceGE, Int.reduceGT, *, cDJn, cNewC, cTbl, cOnce, cAny, cL1In, cPts, Tryz.results16, eM, hM, hO, ho, hU, hb, hP])))
   all_goals first | rfl | skip
end Go.Own
