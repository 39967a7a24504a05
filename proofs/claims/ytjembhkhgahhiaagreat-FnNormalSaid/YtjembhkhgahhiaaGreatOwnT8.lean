/-
  The draws of lists of dependencies. Conditions: as each theorem states them.
-/
import Derived.Test.YtjembhkhgahhiaaGreatOwnTa
import Derived.Test.YtjembhkhgahhiaaGreatOwnY3
import Derived.Test.YtjembhkhgahhiaaGreatOwnC7
import Derived.Test.YtjembhkhgahhiaaGreatOwnT5
import Derived.Test.YtjembhkhgahhiaaGreatOwnT1
set_option linter.unusedSimpArgs false
set_option linter.unusedVariables false
set_option maxRecDepth 20000
set_option maxHeartbeats 4000000
namespace Go.Own
open Go Go.Proofs
attribute [local go_sem] tf1b ft1b cuO rI rB cuP unB_bL bL_length wfB_bL unD_dL dL_length dL_get dL_set dL_inj wfD_dL scal2 beq2 pair_eta
theorem dL_sn {ds : List (Int × Int)} {a b : Int} : dL ds ++ [[D.v (.int .i64 a), D.v (.int .i64 b)]] = dL (ds ++ [(a, b)]) := by simp [dL]
def dpsN (n : Int) : Nat → Dr (List (Int × Int))
 | 0 => fun _ s => ([], s)
 | k + 1 => fun bs s => ((dpsN n k bs s).1 ++ [(depM n bs (dpsN n k bs s).2).1], (depM n bs (dpsN n k bs s).2).2)
theorem dpsN_len {n : Int} {bs : List Int} {s : Cu} : ∀ {k : Nat}, (dpsN n k bs s).1.length = k
 | 0 => rfl
 | k + 1 => by simp [dpsN, @dpsN_len n bs s k]
def dpsM (n : Int) : Dr (List (Int × Int)) := fun bs s => dpsN n (belowM 5 bs s).1.toNat bs (belowM 5 bs s).2
def cDps : Contract := ⟨[true], false, fun
 | [.box [.sl 1 l, .v (.int .i64 i), .v (.int .i64 h)], .one (.v (.int .i64 n))] => some (WfB l ∧ 0 ≤ i ∧ 1 ≤ n ∧ n ≤ 5, [⟨false, [.own 2 (dL (dpsM n (unB l) (i.toNat, h)).1) 1]⟩], cuO l (dpsM n (unB l) (i.toNat, h)).2)
 | _ => none⟩
theorem dps_ok : ContractOK E0 125 cDps := by
 refine contract_of_wpcB (E := E0) (T := mkT Tryz.prog [(42, cBelow), (158, cDep6)] false (fun _ => false) false (fun _ => false)) (mkT_ok (E := E0) (.cons below_ok (.cons dep6_ok .nil))) rfl (fn := Tryz.f125) Tryz.func125 (by kernel_rfl) rfl mixedT (by kernel_rfl) rfl rfl (Nat.le_of_ble_eq_true rfl) ?_
 intro args p rs ms hr
 unfold cDps at hr
 dsimp only at hr
 split at hr
 rotate_left
 ·cases hr
 rename_i l i h n
 simp only [Option.some.injEq, Prod.mk.injEq] at hr
 obtain ⟨rfl, rfl, rfl⟩ := hr
 refine ⟨_, _, _, rfl, rfl, rfl, rfl, Nat.le_of_ble_eq_true rfl, ?_⟩
 have hm : maxLen = 9223372036854775807 := rfl
 rintro ⟨h1, h2, n1, n5⟩ bs0
 obtain ⟨bs, rfl, hx⟩ := h1.ex
 clear h1
 rw [unB_bL]
 obtain ⟨i, rfl⟩ := Int.eq_ofNat_of_zero_le h2
 rw [Int.toNat_natCast]
 have e : dpsM n bs (i, h) = dpsN n (belowM 5 bs (i, h)).1.toNat bs (belowM 5 bs (i, h)).2 := rfl
 rw [e]
 clear e
 have r1 := @belowM_range 5 bs (i, h) (by decide)
 generalize hA : belowM 5 bs (i, h) = A at r1 ⊢
 obtain ⟨N, hN⟩ := Int.eq_ofNat_of_zero_le r1.1
 have hN2 : A.1.toNat = N := by omega
 have hN6 : N ≤ 4 := by omega
 rw [hN2]
 have hF := fun k => @dpsN_len n bs A.2 k
 have e0 : dL [] = [] := rfl
 (repeat' (first | (refine gate_a fun _ => ?_) | (refine fork_intro (fun hb => ?_) (fun hb => ?_) <;> (try simp only [ew, hA, e0] at hb)) | (simp only [go_sem, Nat.reduceLeDiff, Nat.reduceEqDiff, reduceIte, reduceCtorEq, Nat.reduceAdd, Nat.reduceMul, Nat.reduceSub, Nat.reduceLT, Int.reduceLT, Int.reduceLE, Int.reduceNeg, Int.reduceToNat, Nat.reduceBEq, Nat.reduceBNe, Int.reduceGE, Int.reduceGT, *, cDps, cBelow, cDep6, Tryz.results125, hA, e0])))
 refine loop_intro { ι := Nat, rs := [(7, 8), (11, 22)], mods := [(6, fun k => .one (.d (.v (.int .i64 ((N : Int) - k))))), (5, fun k => .one (.own 2 (dL (dpsN n k bs A.2).1) 1))], boxes := [(0, fun k => cuP bs (dpsN n k bs A.2).2)], arrs := [], ok := fun k => k ≤ N, mu := fun k => N - k } rfl 0 (Nat.zero_le _) ?_ fun k hk => ?_
 ·have e1 : dpsN n 0 bs A.2 = ([], A.2) := rfl
  clear hF
  (repeat' (first | (refine gate_a fun _ => ?_) | (refine fork_intro (fun hb => ?_) (fun hb => ?_) <;> (try simp only [ew, e1, e0] at hb)) | (simp only [go_sem, Nat.reduceLeDiff, Nat.reduceEqDiff, reduceIte, reduceCtorEq, Nat.reduceAdd, Nat.reduceMul, Nat.reduceSub, Nat.reduceLT, Int.reduceLT, Int.reduceLE, Int.reduceNeg, Int.reduceToNat, Nat.reduceBEq, Nat.reduceBNe, Int.reduceGE, Int.reduceGT, *, cDps, cBelow, cDep6, Tryz.results125, e1, e0])))
  all_goals first | rfl | (simp; omega) | skip
 ·dsimp only at k hk
  have f1 := hF k
  clear hF
  by_cases h5 : k < N
  ·have eS : dpsN n (k + 1) bs A.2 = ((dpsN n k bs A.2).1 ++ [(depM n bs (dpsN n k bs A.2).2).1], (depM n bs (dpsN n k bs A.2).2).2) := rfl
   generalize hP : dpsN n k bs A.2 = P at f1 eS
   generalize hD : depM n bs P.2 = Q at eS
   have m1 : P.1.length ≤ maxLen := Nat.le_trans (show P.1.length ≤ 20 by omega) (by decide)
   have hpos : ((N : Int) - k) > 0 := by omega
   (repeat' (first | (refine gate_a fun _ => ?_) | (refine fork_intro (fun hb => ?_) (fun hb => ?_) <;> (try simp only [ew, hP, hD, dL_sn] at hb)) | (simp only [go_sem, Nat.reduceLeDiff, Nat.reduceEqDiff, reduceIte, reduceCtorEq, Nat.reduceAdd, Nat.reduceMul, Nat.reduceSub, Nat.reduceLT, Int.reduceLT, Int.reduceLE, Int.reduceNeg, Int.reduceToNat, Nat.reduceBEq, Nat.reduceBNe, Int.reduceGE, Int.reduceGT, *, cDps, cBelow, cDep6, Tryz.results125, hP, hD, dL_sn])))
   refine loop_next (k + 1) (by dsimp only; omega) (by dsimp only; omega) ?_
   (repeat' (first | (refine gate_a fun _ => ?_) | (refine fork_intro (fun hb => ?_) (fun hb => ?_) <;> (try simp only [ew, eS, dL_sn] at hb)) | (simp only [go_sem, Nat.reduceLeDiff, Nat.reduceEqDiff, reduceIte, reduceCtorEq, Nat.reduceAdd, Nat.reduceMul, Nat.reduceSub, Nat.reduceLT, Int.reduceLT, Int.reduceLE, Int.reduceNeg, Int.reduceToNat, Nat.reduceBEq, Nat.reduceBNe, Int.reduceGE, Int.reduceGT, *, cDps, cBelow, cDep6, Tryz.results125, eS, dL_sn])))
   all_goals first | rfl | omega | skip
  ·have e5 : k = N := by omega
   subst e5
   generalize hP : dpsN n k bs A.2 = P at f1
   have z0 : ((k : Nat) : Int) - ((k : Nat) : Int) = 0 := by omega
   have m1 : P.1.length ≤ maxLen := Nat.le_trans (show P.1.length ≤ 20 by omega) (by decide)
   (repeat' (first | (refine gate_a fun _ => ?_) | (refine fork_intro (fun hb => ?_) (fun hb => ?_) <;> (try simp only [ew, hP, z0] at hb)) | (simp only [go_sem, Nat.reduceLeDiff, Nat.reduceEqDiff, reduceIte, reduceCtorEq, Nat.reduceAdd, Nat.reduceMul, Nat.reduceSub, Nat.reduceLT, Int.reduceLT, Int.reduceLE, Int.reduceNeg, Int.reduceToNat, Nat.reduceBEq, Nat.reduceBNe, Int.reduceGE, Int.reduceGT, *, cDps, cBelow, cDep6, Tryz.results125, hP, z0])))
   all_goals first | rfl | skip
end Go.Own
/-
  The draws of patterns. Conditions: as each theorem states them.
-/
namespace Go.Own
open Go Go.Proofs
attribute [local go_sem] tf1b ft1b cuO rI rB cuP unB_bL bL_length wfB_bL
def any2M : Dr Int := fun bs s => if (onceM 8 bs s).1 then pickM [-1, 31, 32, 33] bs (onceM 8 bs s).2 else belowM 32 bs (onceM 8 bs s).2
def cAny2 : Contract := ⟨[true], false, fun
 | [.box [.sl 1 l, .v (.int .i64 i), .v (.int .i64 h)]] => some (WfB l ∧ 0 ≤ i, rI (any2M (unB l) (i.toNat, h)).1, cuO l (any2M (unB l) (i.toNat, h)).2)
 | _ => none⟩
theorem any2_ok : ContractOK E0 140 cAny2 := by
 refine contract_of_wpcB (E := E0) (T := mkT Tryz.prog [(65, cOnce), (118, cPickI), (42, cBelow)] false (fun d => d == 6) false (fun _ => false)) (mkT_ok (E := E0) (.cons once_ok (.cons pickI_ok (.cons below_ok .nil)))) rfl (fn := Tryz.f140) Tryz.func140 (by kernel_rfl) rfl mixedT (by kernel_rfl) rfl rfl (Nat.le_of_ble_eq_true rfl) ?_
 intro args p rs ms hr
 unfold cAny2 at hr
 dsimp only at hr
 split at hr
 rotate_left
 ·cases hr
 rename_i l i h
 simp only [Option.some.injEq, Prod.mk.injEq] at hr
 obtain ⟨rfl, rfl, rfl⟩ := hr
 refine ⟨_, _, _, rfl, rfl, rfl, rfl, Nat.le_of_ble_eq_true rfl, ?_⟩
 have hm : maxLen = 9223372036854775807 := rfl
 rintro ⟨h1, h2⟩ bs0
 obtain ⟨bs, rfl, hx⟩ := h1.ex
 clear h1
 rw [unB_bL]
 obtain ⟨i, rfl⟩ := Int.eq_ofNat_of_zero_le h2
 rw [Int.toNat_natCast]
 have e : any2M bs (i, h) = if (onceM 8 bs (i, h)).1 then pickM [-1, 31, 32, 33] bs (onceM 8 bs (i, h)).2 else belowM 32 bs (onceM 8 bs (i, h)).2 := rfl
 rw [e]
 clear e
 have eA : [[D.v (.int .i64 (-1))], [D.v (.int .i64 31)], [D.v (.int .i64 32)], [D.v (.int .i64 33)]] = iL [-1, 31, 32, 33] := rfl
 have nA : ¬ iL [-1, 31, 32, 33] = [] := by simp [iL]
 generalize hO : onceM 8 bs (i, h) = O
 cases ho : O.1
 ·rw [if_neg (by decide)]
  generalize hP : belowM 32 bs O.2 = P
  (repeat' (first | (refine gate_a fun _ => ?_) | (refine fork_intro (fun hb => ?_) (fun hb => ?_) <;> (try simp only [ew, hO, ho, hP] at hb)) | (simp only [go_sem, Nat.reduceLeDiff, Nat.reduceEqDiff, reduceIte, reduceCtorEq, Nat.reduceAdd, Nat.reduceMul, Nat.reduceSub, Nat.reduceLT, Int.reduceLT, Int.reduceLE, Int.reduceNeg, Int.reduceToNat, Nat.reduceBEq, Nat.reduceBNe, Int.reduceGE, Int.reduceGT, *, cAny2, cOnce, cPickI, cBelow, Tryz.results140, hO, ho, hP])))
  all_goals first | rfl | skip
 ·rw [if_pos rfl]
  generalize hP : pickM [-1, 31, 32, 33] bs O.2 = P
  (repeat' (first | (refine gate_a fun _ => ?_) | (refine fork_intro (fun hb => ?_) (fun hb => ?_) <;> (try simp only [ew, hO, ho, eA, hP] at hb)) | (simp only [go_sem, Nat.reduceLeDiff, Nat.reduceEqDiff, reduceIte, reduceCtorEq, Nat.reduceAdd, Nat.reduceMul, Nat.reduceSub, Nat.reduceLT, Int.reduceLT, Int.reduceLE, Int.reduceNeg, Int.reduceToNat, Nat.reduceBEq, Nat.reduceBNe, Int.reduceGE, Int.reduceGT, *, cAny2, cOnce, cPickI, cBelow, Tryz.results140, hO, ho, eA, hP])))
  all_goals first | rfl | skip
def any6N (n : Int) : Int := if inB n 1 5 then n else 3
def any6M (n : Int) : Dr (Int × Int) := fun bs s =>
 let d := depM (any6N n) bs s
 let x := belowM 14 bs d.2
 if x.1 = 0 then (((any2M bs x.2).1, d.1.2), (any2M bs x.2).2)
 else if x.1 = 1 then ((d.1.1, (pickM [-1, 4, 5] bs x.2).1), (pickM [-1, 4, 5] bs x.2).2)
 else (d.1, x.2)
def cAny6 : Contract := ⟨[true], false, fun
 | [.box [.sl 1 l, .v (.int .i64 i), .v (.int .i64 h)], .one (.v (.int .i64 n))] => some (WfB l ∧ 0 ≤ i, [⟨true, [.d (.v (.int .i64 (any6M n (unB l) (i.toNat, h)).1.1)), .d (.v (.int .i64 (any6M n (unB l) (i.toNat, h)).1.2))]⟩], cuO l (any6M n (unB l) (i.toNat, h)).2)
 | _ => none⟩
theorem any6_ok : ContractOK E0 126 cAny6 := by
 refine contract_of_wpcB (E := E0) (T := mkT Tryz.prog [(67, cL1In), (158, cDep6), (42, cBelow), (140, cAny2), (118, cPickI)] false (fun d => d == 22) false (fun _ => false)) (mkT_ok (E := E0) (.cons l1In_ok (.cons dep6_ok (.cons below_ok (.cons any2_ok (.cons pickI_ok .nil)))))) rfl (fn := Tryz.f126) Tryz.func126 (by kernel_rfl) rfl mixedT (by kernel_rfl) rfl rfl (Nat.le_of_ble_eq_true rfl) ?_
 intro args p rs ms hr
 unfold cAny6 at hr
 dsimp only at hr
 split at hr
 rotate_left
 ·cases hr
 rename_i l i h n
 simp only [Option.some.injEq, Prod.mk.injEq] at hr
 obtain ⟨rfl, rfl, rfl⟩ := hr
 refine ⟨_, _, _, rfl, rfl, rfl, rfl, Nat.le_of_ble_eq_true rfl, ?_⟩
 have hm : maxLen = 9223372036854775807 := rfl
 rintro ⟨h1, h2⟩ bs0
 obtain ⟨bs, rfl, hx⟩ := h1.ex
 clear h1
 rw [unB_bL]
 obtain ⟨i, rfl⟩ := Int.eq_ofNat_of_zero_le h2
 rw [Int.toNat_natCast]
 have eA : [[D.v (.int .i64 (-1))], [D.v (.int .i64 4)], [D.v (.int .i64 5)]] = iL [-1, 4, 5] := rfl
 have nA : ¬ iL [-1, 4, 5] = [] := by simp [iL]
 generalize hL : any6M n bs (i, h) = L
 unfold any6M at hL
 dsimp only at hL
 generalize hN : any6N n = N at hL
 unfold any6N at hN
 have main : ∀ b : Bool, inB n 1 5 = b → (1 ≤ N ∧ N ≤ 5) ∧ N = (if b then n else 3) := by
  intro b hb
  rw [hb] at hN
  subst hN
  cases b
  ·exact ⟨by simp, rfl⟩
  ·exact ⟨by simpa using inB_iff.1 hb, rfl⟩
 generalize hD : depM N bs (i, h) = D0 at hL
 generalize hX : belowM 14 bs D0.2 = X at hL
 clear hN
 cases hb : inB n 1 5
 ·obtain ⟨⟨n1, n5⟩, rfl⟩ := main false hb
  clear main
  simp only [Bool.false_eq_true, if_false] at hD
  by_cases h0 : X.1 = 0
  ·rw [if_pos h0] at hL
   have q0 : (X.1 == 0) = true := by rw [h0]; rfl
   clear h0
   generalize hP : any2M bs X.2 = P at hL
   subst hL
   (repeat' (first | (refine gate_a fun _ => ?_) | (refine fork_intro (fun hb => ?_) (fun hb => ?_) <;> (try simp only [ew, hb, hD, hX, q0, hP] at hb)) | (simp only [go_sem, Nat.reduceLeDiff, Nat.reduceEqDiff, reduceIte, reduceCtorEq, Nat.reduceAdd, Nat.reduceMul, Nat.reduceSub, Nat.reduceLT, Int.reduceLT, Int.reduceLE, Int.reduceNeg, Int.reduceToNat, Nat.reduceBEq, Nat.reduceBNe, Int.reduceGE, Int.reduceGT, *, cAny6, cL1In, cDep6, cBelow, cAny2, cPickI, Tryz.results126, hb, hD, hX, q0, hP])))
   all_goals first | rfl | skip
  ·rw [if_neg h0] at hL
   have q0 : (X.1 == 0) = false := beq_eq_false_iff_ne.2 h0
   clear h0
   by_cases h1 : X.1 = 1
   ·rw [if_pos h1] at hL
    have q1 : (X.1 == 1) = true := by rw [h1]; rfl
    clear h1
    generalize hP : pickM [-1, 4, 5] bs X.2 = P at hL
    subst hL
    (repeat' (first | (refine gate_a fun _ => ?_) | (refine fork_intro (fun hb => ?_) (fun hb => ?_) <;> (try simp only [ew, hb, hD, hX, q0, q1, eA, hP] at hb)) | (simp only [go_sem, Nat.reduceLeDiff, Nat.reduceEqDiff, reduceIte, reduceCtorEq, Nat.reduceAdd, Nat.reduceMul, Nat.reduceSub, Nat.reduceLT, Int.reduceLT, Int.reduceLE, Int.reduceNeg, Int.reduceToNat, Nat.reduceBEq, Nat.reduceBNe, Int.reduceGE, Int.reduceGT, *, cAny6, cL1In, cDep6, cBelow, cAny2, cPickI, Tryz.results126, hb, hD, hX, q0, q1, eA, hP])))
    all_goals first | rfl | skip
   ·rw [if_neg h1] at hL
    have q1 : (X.1 == 1) = false := beq_eq_false_iff_ne.2 h1
    clear h1
    subst hL
    (repeat' (first | (refine gate_a fun _ => ?_) | (refine fork_intro (fun hb => ?_) (fun hb => ?_) <;> (try simp only [ew, hb, hD, hX, q0, q1] at hb)) | (simp only [go_sem, Nat.reduceLeDiff, Nat.reduceEqDiff, reduceIte, reduceCtorEq, Nat.reduceAdd, Nat.reduceMul, Nat.reduceSub, Nat.reduceLT, Int.reduceLT, Int.reduceLE, Int.reduceNeg, Int.reduceToNat, Nat.reduceBEq, Nat.reduceBNe, Int.reduceGE, Int.reduceGT, *, cAny6, cL1In, cDep6, cBelow, cAny2, cPickI, Tryz.results126, hb, hD, hX, q0, q1])))
    all_goals first | rfl | skip
 ·obtain ⟨⟨n1, n5⟩, rfl⟩ := main true hb
  clear main
  by_cases h0 : X.1 = 0
  ·rw [if_pos h0] at hL
   have q0 : (X.1 == 0) = true := by rw [h0]; rfl
   clear h0
   generalize hP : any2M bs X.2 = P at hL
   subst hL
   (repeat' (first | (refine gate_a fun _ => ?_) | (refine fork_intro (fun hb => ?_) (fun hb => ?_) <;> (try simp only [ew, hb, hD, hX, q0, hP] at hb)) | (simp only [go_sem, Nat.reduceLeDiff, Nat.reduceEqDiff, reduceIte, reduceCtorEq, Nat.reduceAdd, Nat.reduceMul, Nat.reduceSub, Nat.reduceLT, Int.reduceLT, Int.reduceLE, Int.reduceNeg, Int.reduceToNat, Nat.reduceBEq, Nat.reduceBNe, Int.reduceGE, Int.reduceGT, *, cAny6, cL1In, cDep6, cBelow, cAny2, cPickI, Tryz.results126, hb, hD, hX, q0, hP])))
   all_goals first | rfl | skip
  ·rw [if_neg h0] at hL
   have q0 : (X.1 == 0) = false := beq_eq_false_iff_ne.2 h0
   clear h0
   by_cases h1 : X.1 = 1
   ·rw [if_pos h1] at hL
    have q1 : (X.1 == 1) = true := by rw [h1]; rfl
    clear h1
    generalize hP : pickM [-1, 4, 5] bs X.2 = P at hL
    subst hL
    (repeat' (first | (refine gate_a fun _ => ?_) | (refine fork_intro (fun hb => ?_) (fun hb => ?_) <;> (try simp only [ew, hb, hD, hX, q0, q1, eA, hP] at hb)) | (simp only [go_sem, Nat.reduceLeDiff, Nat.reduceEqDiff, reduceIte, reduceCtorEq, Nat.reduceAdd, Nat.reduceMul, Nat.reduceSub, Nat.reduceLT, Int.reduceLT, Int.reduceLE, Int.reduceNeg, Int.reduceToNat, Nat.reduceBEq, Nat.reduceBNe, Int.reduceGE, Int.reduceGT, *, cAny6, cL1In, cDep6, cBelow, cAny2, cPickI, Tryz.results126, hb, hD, hX, q0, q1, eA, hP])))
    all_goals first | rfl | skip
   ·rw [if_neg h1] at hL
    have q1 : (X.1 == 1) = false := beq_eq_false_iff_ne.2 h1
    clear h1
    subst hL
    (repeat' (first | (refine gate_a fun _ => ?_) | (refine fork_intro (fun hb => ?_) (fun hb => ?_) <;> (try simp only [ew, hb, hD, hX, q0, q1] at hb)) | (simp only [go_sem, Nat.reduceLeDiff, Nat.reduceEqDiff, reduceIte, reduceCtorEq, Nat.reduceAdd, Nat.reduceMul, Nat.reduceSub, Nat.reduceLT, Int.reduceLT, Int.reduceLE, Int.reduceNeg, Int.reduceToNat, Nat.reduceBEq, Nat.reduceBNe, Int.reduceGE, Int.reduceGT, *, cAny6, cL1In, cDep6, cBelow, cAny2, cPickI, Tryz.results126, hb, hD, hX, q0, q1])))
    all_goals first | rfl | skip
end Go.Own
/-
  The draws of dependencies with columns, of lists of sets, of parts. Conditions: as each theorem states them.
-/
namespace Go.Own
open Go Go.Proofs
attribute [local go_sem] tf1b ft1b cuO rI rB cuP unB_bL bL_length wfB_bL unD_dL dL_length dL_get dL_set dL_inj wfD_dL scal2 beq2 pair_eta
def l10M : Dr (Int × List (Int × Int)) := fun bs s =>
 let a := belowM 3 bs s
 let l := dpsM (2 + a.1) bs a.2
 let x := belowM 14 bs l.2
 if x.1 = 0 then ((2 + a.1, l.1 ++ [(any6M (2 + a.1) bs x.2).1]), (any6M (2 + a.1) bs x.2).2)
 else if x.1 = 1 then (((pickM [0, 1, 5, 6] bs x.2).1, l.1), (pickM [0, 1, 5, 6] bs x.2).2)
 else ((2 + a.1, l.1), x.2)
theorem dpsM_len {n : Int} {bs : List Int} {s : Cu} : (dpsM n bs s).1.length ≤ 4 := by
 unfold dpsM
 rw [dpsN_len]
 have := @belowM_range 5 bs s (by decide)
 omega
theorem l10M_facts {bs : List Int} {s : Cu} : (0 ≤ (l10M bs s).1.1 ∧ (l10M bs s).1.1 ≤ 6) ∧ (l10M bs s).1.2.length ≤ 5 := by
 have h1 := @belowM_range 3 bs s (by decide)
 have h2 := @dpsM_len (2 + (belowM 3 bs s).1) bs (belowM 3 bs s).2
 unfold l10M
 dsimp only
 split
 ·dsimp only; exact ⟨⟨by omega, by omega⟩, by simp; omega⟩
 ·split
  ·dsimp only
   have h3 := @pickM_mem [0, 1, 5, 6] bs (belowM 14 bs (dpsM (2 + (belowM 3 bs s).1) bs (belowM 3 bs s).2).2).2 (by simp)
   simp only [List.mem_cons, List.not_mem_nil, or_false] at h3
   exact ⟨⟨by omega, by omega⟩, by omega⟩
  ·dsimp only; exact ⟨⟨by omega, by omega⟩, by omega⟩
def cL10 : Contract := ⟨[true], false, fun
 | [.box [.sl 1 l, .v (.int .i64 i), .v (.int .i64 h)]] => some (WfB l ∧ 0 ≤ i, [⟨false, [.d (.v (.int .i64 (l10M (unB l) (i.toNat, h)).1.1))]⟩, ⟨false, [.own 2 (dL (l10M (unB l) (i.toNat, h)).1.2) 1]⟩], cuO l (l10M (unB l) (i.toNat, h)).2)
 | _ => none⟩
theorem l10_ok : ContractOK E0 77 cL10 := by
 refine contract_of_wpcB (E := E0) (T := mkT Tryz.prog [(42, cBelow), (125, cDps), (126, cAny6), (118, cPickI)] false (fun d => d == 25) false (fun _ => false)) (mkT_ok (E := E0) (.cons below_ok (.cons dps_ok (.cons any6_ok (.cons pickI_ok .nil))))) rfl (fn := Tryz.f77) Tryz.func77 (by kernel_rfl) rfl mixedT (by kernel_rfl) rfl rfl (Nat.le_of_ble_eq_true rfl) ?_
 intro args p rs ms hr
 unfold cL10 at hr
 dsimp only at hr
 split at hr
 rotate_left
 ·cases hr
 rename_i l i h
 simp only [Option.some.injEq, Prod.mk.injEq] at hr
 obtain ⟨rfl, rfl, rfl⟩ := hr
 refine ⟨_, _, _, rfl, rfl, rfl, rfl, Nat.le_of_ble_eq_true rfl, ?_⟩
 have hm : maxLen = 9223372036854775807 := rfl
 rintro ⟨h1, h2⟩ bs0
 obtain ⟨bs, rfl, hx⟩ := h1.ex
 clear h1
 rw [unB_bL]
 obtain ⟨i, rfl⟩ := Int.eq_ofNat_of_zero_le h2
 rw [Int.toNat_natCast]
 have r1 := @belowM_range 3 bs (i, h) (by decide)
 generalize hL : l10M bs (i, h) = L
 unfold l10M at hL
 dsimp only at hL
 generalize hA : belowM 3 bs (i, h) = A at r1 hL
 have f1 := @dpsM_len (2 + A.1) bs A.2
 generalize hD : dpsM (2 + A.1) bs A.2 = Dd at f1 hL
 generalize hX : belowM 14 bs Dd.2 = X at hL
 have m1 : Dd.1.length ≤ maxLen := Nat.le_trans f1 (by decide)
 have eA : [[D.v (.int .i64 0)], [D.v (.int .i64 1)], [D.v (.int .i64 5)], [D.v (.int .i64 6)]] = iL [0, 1, 5, 6] := rfl
 have nA : ¬ iL [0, 1, 5, 6] = [] := by simp [iL]
 by_cases h0 : X.1 = 0
 ·rw [if_pos h0] at hL
  have q0 : (X.1 == 0) = true := by rw [h0]; rfl
  clear h0
  generalize hP : any6M (2 + A.1) bs X.2 = P at hL
  subst hL
  (repeat' (first | (refine gate_a fun _ => ?_) | (refine fork_intro (fun hb => ?_) (fun hb => ?_) <;> (try simp only [ew, hA, hD, hX, q0, hP, dL_sn] at hb)) | (simp only [go_sem, Nat.reduceLeDiff, Nat.reduceEqDiff, reduceIte, reduceCtorEq, Nat.reduceAdd, Nat.reduceMul, Nat.reduceSub, Nat.reduceLT, Int.reduceLT, Int.reduceLE, Int.reduceNeg, Int.reduceToNat, Nat.reduceBEq, Nat.reduceBNe, Int.reduceGE, Int.reduceGT, *, cL10, cBelow, cDps, cAny6, cPickI, Tryz.results77, hA, hD, hX, q0, hP, dL_sn])))
  all_goals first | rfl | skip
 ·rw [if_neg h0] at hL
  have q0 : (X.1 == 0) = false := beq_eq_false_iff_ne.2 h0
  clear h0
  by_cases h1 : X.1 = 1
  ·rw [if_pos h1] at hL
   have q1 : (X.1 == 1) = true := by rw [h1]; rfl
   clear h1
   generalize hP : pickM [0, 1, 5, 6] bs X.2 = P at hL
   subst hL
   (repeat' (first | (refine gate_a fun _ => ?_) | (refine fork_intro (fun hb => ?_) (fun hb => ?_) <;> (try simp only [ew, hA, hD, hX, q0, q1, eA, hP] at hb)) | (simp only [go_sem, Nat.reduceLeDiff, Nat.reduceEqDiff, reduceIte, reduceCtorEq, Nat.reduceAdd, Nat.reduceMul, Nat.reduceSub, Nat.reduceLT, Int.reduceLT, Int.reduceLE, Int.reduceNeg, Int.reduceToNat, Nat.reduceBEq, Nat.reduceBNe, Int.reduceGE, Int.reduceGT, *, cL10, cBelow, cDps, cAny6, cPickI, Tryz.results77, hA, hD, hX, q0, q1, eA, hP])))
   all_goals first | rfl | skip
  ·rw [if_neg h1] at hL
   have q1 : (X.1 == 1) = false := beq_eq_false_iff_ne.2 h1
   clear h1
   subst hL
   (repeat' (first | (refine gate_a fun _ => ?_) | (refine fork_intro (fun hb => ?_) (fun hb => ?_) <;> (try simp only [ew, hA, hD, hX, q0, q1] at hb)) | (simp only [go_sem, Nat.reduceLeDiff, Nat.reduceEqDiff, reduceIte, reduceCtorEq, Nat.reduceAdd, Nat.reduceMul, Nat.reduceSub, Nat.reduceLT, Int.reduceLT, Int.reduceLE, Int.reduceNeg, Int.reduceToNat, Nat.reduceBEq, Nat.reduceBNe, Int.reduceGE, Int.reduceGT, *, cL10, cBelow, cDps, cAny6, cPickI, Tryz.results77, hA, hD, hX, q0, q1])))
   all_goals first | rfl | skip
def stsN : Nat → Dr (List Int)
 | 0 => fun _ s => ([], s)
 | k + 1 => fun bs s => ((stsN k bs s).1 ++ [(belowM 32 bs (stsN k bs s).2).1], (belowM 32 bs (stsN k bs s).2).2)
theorem stsN_len {bs : List Int} {s : Cu} : ∀ {k : Nat}, (stsN k bs s).1.length = k
 | 0 => rfl
 | k + 1 => by simp [stsN, @stsN_len bs s k]
def setsM : Dr (List Int) := fun bs s =>
 let a := belowM 7 bs s
 let l := stsN a.1.toNat bs a.2
 let o := onceM 14 bs l.2
 if o.1 then (l.1 ++ [(any2M bs o.2).1], (any2M bs o.2).2) else (l.1, o.2)
theorem setsM_len {bs : List Int} {s : Cu} : (setsM bs s).1.length ≤ 7 := by
 have h1 := @belowM_range 7 bs s (by decide)
 have h2 := @stsN_len bs (belowM 7 bs s).2 (belowM 7 bs s).1.toNat
 unfold setsM
 dsimp only
 split
 ·simp; omega
 ·dsimp only; omega
def cSetsM : Contract := ⟨[true], false, fun
 | [.box [.sl 1 l, .v (.int .i64 i), .v (.int .i64 h)]] => some (WfB l ∧ 0 ≤ i, [⟨false, [.own 1 (iL (setsM (unB l) (i.toNat, h)).1) 1]⟩], cuO l (setsM (unB l) (i.toNat, h)).2)
 | _ => none⟩
theorem sets4_ok : ContractOK E0 97 cSetsM := by
 refine contract_of_wpcB (E := E0) (T := mkT Tryz.prog [(42, cBelow), (65, cOnce), (140, cAny2)] false (fun _ => false) false (fun _ => false)) (mkT_ok (E := E0) (.cons below_ok (.cons once_ok (.cons any2_ok .nil)))) rfl (fn := Tryz.f97) Tryz.func97 (by kernel_rfl) rfl mixedT (by kernel_rfl) rfl rfl (Nat.le_of_ble_eq_true rfl) ?_
 intro args p rs ms hr
 unfold cSetsM at hr
 dsimp only at hr
 split at hr
 rotate_left
 ·cases hr
 rename_i l i h
 simp only [Option.some.injEq, Prod.mk.injEq] at hr
 obtain ⟨rfl, rfl, rfl⟩ := hr
 refine ⟨_, _, _, rfl, rfl, rfl, rfl, Nat.le_of_ble_eq_true rfl, ?_⟩
 have hm : maxLen = 9223372036854775807 := rfl
 rintro ⟨h1, h2⟩ bs0
 obtain ⟨bs, rfl, hx⟩ := h1.ex
 clear h1
 rw [unB_bL]
 obtain ⟨i, rfl⟩ := Int.eq_ofNat_of_zero_le h2
 rw [Int.toNat_natCast]
 generalize hL : setsM bs (i, h) = L
 unfold setsM at hL
 dsimp only at hL
 have r1 := @belowM_range 7 bs (i, h) (by decide)
 generalize hA : belowM 7 bs (i, h) = A at r1 hL
 obtain ⟨N, hN⟩ := Int.eq_ofNat_of_zero_le r1.1
 have hN2 : A.1.toNat = N := by omega
 have hN6 : N ≤ 6 := by omega
 rw [hN2] at hL
 have hF := fun k => @stsN_len bs A.2 k
 have e0 : iL [] = [] := rfl
 (repeat' (first | (refine gate_a fun _ => ?_) | (refine fork_intro (fun hb => ?_) (fun hb => ?_) <;> (try simp only [ew, hA, e0] at hb)) | (simp only [go_sem, Nat.reduceLeDiff, Nat.reduceEqDiff, reduceIte, reduceCtorEq, Nat.reduceAdd, Nat.reduceMul, Nat.reduceSub, Nat.reduceLT, Int.reduceLT, Int.reduceLE, Int.reduceNeg, Int.reduceToNat, Nat.reduceBEq, Nat.reduceBNe, Int.reduceGE, Int.reduceGT, *, cSetsM, cBelow, cOnce, cAny2, Tryz.results97, hA, e0])))
 refine loop_intro { ι := Nat, rs := [(5, 6), (9, 19)], mods := [(4, fun k => .one (.d (.v (.int .i64 ((N : Int) - k))))), (3, fun k => .one (.own 1 (iL (stsN k bs A.2).1) 1))], boxes := [(0, fun k => cuP bs (stsN k bs A.2).2)], arrs := [], ok := fun k => k ≤ N, mu := fun k => N - k } rfl 0 (Nat.zero_le _) ?_ fun k hk => ?_
 ·have e1 : stsN 0 bs A.2 = ([], A.2) := rfl
  clear hF
  (repeat' (first | (refine gate_a fun _ => ?_) | (refine fork_intro (fun hb => ?_) (fun hb => ?_) <;> (try simp only [ew, e1, e0] at hb)) | (simp only [go_sem, Nat.reduceLeDiff, Nat.reduceEqDiff, reduceIte, reduceCtorEq, Nat.reduceAdd, Nat.reduceMul, Nat.reduceSub, Nat.reduceLT, Int.reduceLT, Int.reduceLE, Int.reduceNeg, Int.reduceToNat, Nat.reduceBEq, Nat.reduceBNe, Int.reduceGE, Int.reduceGT, *, cSetsM, cBelow, cOnce, cAny2, Tryz.results97, e1, e0])))
  all_goals first | rfl | (simp; omega) | skip
 ·dsimp only at k hk
  have f1 := hF k
  clear hF
  by_cases h5 : k < N
  ·have eS : stsN (k + 1) bs A.2 = ((stsN k bs A.2).1 ++ [(belowM 32 bs (stsN k bs A.2).2).1], (belowM 32 bs (stsN k bs A.2).2).2) := rfl
   generalize hP : stsN k bs A.2 = P at f1 eS
   generalize hD : belowM 32 bs P.2 = Q at eS
   have m1 : P.1.length ≤ maxLen := Nat.le_trans (show P.1.length ≤ 20 by omega) (by decide)
   have hpos : ((N : Int) - k) > 0 := by omega
   (repeat' (first | (refine gate_a fun _ => ?_) | (refine fork_intro (fun hb => ?_) (fun hb => ?_) <;> (try simp only [ew, hP, hD, iL_sn] at hb)) | (simp only [go_sem, Nat.reduceLeDiff, Nat.reduceEqDiff, reduceIte, reduceCtorEq, Nat.reduceAdd, Nat.reduceMul, Nat.reduceSub, Nat.reduceLT, Int.reduceLT, Int.reduceLE, Int.reduceNeg, Int.reduceToNat, Nat.reduceBEq, Nat.reduceBNe, Int.reduceGE, Int.reduceGT, *, cSetsM, cBelow, cOnce, cAny2, Tryz.results97, hP, hD, iL_sn])))
   refine loop_next (k + 1) (by dsimp only; omega) (by dsimp only; omega) ?_
   (repeat' (first | (refine gate_a fun _ => ?_) | (refine fork_intro (fun hb => ?_) (fun hb => ?_) <;> (try simp only [ew, eS, iL_sn] at hb)) | (simp only [go_sem, Nat.reduceLeDiff, Nat.reduceEqDiff, reduceIte, reduceCtorEq, Nat.reduceAdd, Nat.reduceMul, Nat.reduceSub, Nat.reduceLT, Int.reduceLT, Int.reduceLE, Int.reduceNeg, Int.reduceToNat, Nat.reduceBEq, Nat.reduceBNe, Int.reduceGE, Int.reduceGT, *, cSetsM, cBelow, cOnce, cAny2, Tryz.results97, eS, iL_sn])))
   all_goals first | rfl | omega | skip
  ·have e5 : k = N := by omega
   subst e5
   generalize hP : stsN k bs A.2 = P at f1 hL
   have z0 : ((k : Nat) : Int) - ((k : Nat) : Int) = 0 := by omega
   have m1 : P.1.length ≤ maxLen := Nat.le_trans (show P.1.length ≤ 20 by omega) (by decide)
   generalize hO : onceM 14 bs P.2 = O at hL
   cases ho : O.1
   ·rw [ho, if_neg (by decide)] at hL
    subst hL
    (repeat' (first | (refine gate_a fun _ => ?_) | (refine fork_intro (fun hb => ?_) (fun hb => ?_) <;> (try simp only [ew, hP, z0, hO, ho] at hb)) | (simp only [go_sem, Nat.reduceLeDiff, Nat.reduceEqDiff, reduceIte, reduceCtorEq, Nat.reduceAdd, Nat.reduceMul, Nat.reduceSub, Nat.reduceLT, Int.reduceLT, Int.reduceLE, Int.reduceNeg, Int.reduceToNat, Nat.reduceBEq, Nat.reduceBNe, Int.reduceGE, Int.reduceGT, *, cSetsM, cBelow, cOnce, cAny2, Tryz.results97, hP, z0, hO, ho])))
    all_goals first | rfl | skip
   ·rw [ho, if_pos rfl] at hL
    generalize hQ : any2M bs O.2 = Q at hL
    subst hL
    (repeat' (first | (refine gate_a fun _ => ?_) | (refine fork_intro (fun hb => ?_) (fun hb => ?_) <;> (try simp only [ew, hP, z0, hO, ho, hQ, iL_sn] at hb)) | (simp only [go_sem, Nat.reduceLeDiff, Nat.reduceEqDiff, reduceIte, reduceCtorEq, Nat.reduceAdd, Nat.reduceMul, Nat.reduceSub, Nat.reduceLT, Int.reduceLT, Int.reduceLE, Int.reduceNeg, Int.reduceToNat, Nat.reduceBEq, Nat.reduceBNe, Int.reduceGE, Int.reduceGT, *, cSetsM, cBelow, cOnce, cAny2, Tryz.results97, hP, z0, hO, ho, hQ, iL_sn])))
    all_goals first | rfl | skip
theorem orAll_snoc : ∀ {l : List Int} {a x : Int}, orAll a (l ++ [x]) = bitI .or .i64 (orAll a l) x
 | [], a, x => rfl
 | y :: l, a, x => by rw [List.cons_append, orAll, orAll, orAll_snoc]
end Go.Own
/-
  The draws of the law of lossless parts; lists of rows compared. Conditions: as each theorem states them.
-/
namespace Go.Own
open Go Go.Proofs
theorem lSameInts_ok : ContractOK E0 28 cEqIntS := by
 refine contract_of_wpc (E := E0) (T := mkT Tryz.prog [] false (fun _ => false) true (fun _ => false)) (mkT_ok (E := E0) .nil) (fn := Tryz.f28) Tryz.func28 (by kernel_rfl) rfl mixedT (by kernel_rfl) rfl ?_
 intro args p rs ms hr
 unfold cEqIntS at hr
 dsimp only at hr
 split at hr
 rotate_left
 ·cases hr
 rename_i a b
 simp only [Option.some.injEq, Prod.mk.injEq] at hr
 obtain ⟨rfl, rfl, rfl⟩ := hr
 refine ⟨rfl, rfl, Nat.le_of_ble_eq_true rfl, ?_⟩
 have hm : maxLen = 9223372036854775807 := rfl
 rintro ⟨h1, h2⟩ bs
 obtain ⟨xs, rfl, hx⟩ := h1.ex
 obtain ⟨ys, rfl, hy⟩ := h2.ex
 clear h1 h2
 rw [unI_iL, unI_iL]
 (repeat' (first | (refine gate_a fun _ => ?_) | (refine fork_intro (fun hb => ?_) (fun hb => ?_) <;> (try simp only [ew] at hb)) | (simp only [go_sem, Nat.reduceLeDiff, Nat.reduceEqDiff, reduceIte, reduceCtorEq, Nat.reduceAdd, Nat.reduceMul, Nat.reduceSub, Nat.reduceLT, Int.reduceLT, Int.reduceLE, Int.reduceNeg, Int.reduceToNat, Nat.reduceBEq, Nat.reduceBNe, Int.reduceGE, Int.reduceGT, *, cEqIntS, Tryz.results28])))
 ·exact (not_len ‹_›).symm
 ·refine loop_intro { ι := Nat, rs := [(4, 5), (11, 26)], mods := [(5, fun i => .one (.d (.v (.int .i64 i))))], boxes := [], arrs := [], ok := fun i => i ≤ xs.length ∧ xs.take i = ys.take i, mu := fun i => xs.length - i } rfl 0 ⟨Nat.zero_le _, rfl⟩ ?_ fun i hi => ?_
  ·(repeat' (first | (refine gate_a fun _ => ?_) | (refine fork_intro (fun hb => ?_) (fun hb => ?_) <;> (try simp only [ew] at hb)) | (simp only [go_sem, Nat.reduceLeDiff, Nat.reduceEqDiff, reduceIte, reduceCtorEq, Nat.reduceAdd, Nat.reduceMul, Nat.reduceSub, Nat.reduceLT, Int.reduceLT, Int.reduceLE, Int.reduceNeg, Int.reduceToNat, Nat.reduceBEq, Nat.reduceBNe, Int.reduceGE, Int.reduceGT, *, cEqIntS, Tryz.results28])))
  ·dsimp only at i hi
   obtain ⟨hi, ht⟩ := hi
   have hlen : xs.length = ys.length := by omega
   (repeat' (first | (refine gate_a fun _ => ?_) | (refine fork_intro (fun hb => ?_) (fun hb => ?_) <;> (try simp only [ew] at hb)) | (simp only [go_sem, Nat.reduceLeDiff, Nat.reduceEqDiff, reduceIte, reduceCtorEq, Nat.reduceAdd, Nat.reduceMul, Nat.reduceSub, Nat.reduceLT, Int.reduceLT, Int.reduceLE, Int.reduceNeg, Int.reduceToNat, Nat.reduceBEq, Nat.reduceBNe, Int.reduceGE, Int.reduceGT, *, cEqIntS, Tryz.results28])))
   ·exact (beq_eq_false_iff_ne.2 (ne_of_getD ‹_›)).symm
   ·have hq := ‹xs.getD i 0 = ys.getD i 0›
    refine loop_next (i + 1) ⟨by omega, by rw [take_succ_getD (by omega) 0, take_succ_getD (by omega) 0, ht, hq]⟩ (by dsimp only; omega) ?_
    (repeat' (first | (refine gate_a fun _ => ?_) | (refine fork_intro (fun hb => ?_) (fun hb => ?_) <;> (try simp only [ew] at hb)) | (simp only [go_sem, Nat.reduceLeDiff, Nat.reduceEqDiff, reduceIte, reduceCtorEq, Nat.reduceAdd, Nat.reduceMul, Nat.reduceSub, Nat.reduceLT, Int.reduceLT, Int.reduceLE, Int.reduceNeg, Int.reduceToNat, Nat.reduceBEq, Nat.reduceBNe, Int.reduceGE, Int.reduceGT, *, cEqIntS, Tryz.results28])))
   ·have := eq_of_takes hlen (by omega) ht
    subst this; simp
attribute [local go_sem] tf1b ft1b cuO rI rB cuP unB_bL bL_length wfB_bL unD_dL dL_length dL_get dL_set dL_inj wfD_dL scal2 beq2 pair_eta
abbrev Lo := Int × List (Int × Int) × List Int
def rvLo (x : Lo) : List RV := [⟨false, [.d (.v (.int .i64 x.1))]⟩, ⟨false, [.own 2 (dL x.2.1) 1]⟩, ⟨false, [.own 1 (iL x.2.2) 1]⟩]
end Go.Own
