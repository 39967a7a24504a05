/-
  The draws of lists of dependencies. Conditions: as each theorem states them.
-/
import Derived.Test.YtaigpolfbonjgaaGreatDoorOwnTg
import Derived.Test.YtaigpolfbonjgaaGreatDoorOwnTb
import Derived.Test.YtaigpolfbonjgaaGreatDoorOwnTe
import Derived.Shelf.Sort.Plain
import Derived.Shelf.Slices.CompactI
import Derived.Shelf.Slices.In.SortNone
import Derived.Test.YtaigpolfbonjgaaGreatDoorProg
set_option linter.unusedSimpArgs false
set_option linter.unusedVariables false
set_option maxRecDepth 20000
set_option maxHeartbeats 4000000
namespace Go.Own
open Go Go.Proofs
attribute [local go_sem] tf1b ft1b cuO rI rB cuP unB_bL bL_length wfB_bL unD_dL dL_length dL_get dL_set dL_inj wfD_dL scal2 beq2 pair_eta
theorem dL_sn {ds : List (Int × Int)} {a b : Int} : dL ds ++ [[D.v (.int .i64 a), D.v (.int .i64 b)]] = dL (ds ++ [(a, b)]) := by simp [dL]
def dpsN (n : Int) : Nat → Dr (List (Int × Int))
 | 0 => fun _ s => ([], s)
 | k + 1 => fun bs s => ((dpsN n k bs s).1 ++ [(depM n bs (dpsN n k bs s).2).1], (depM n bs (dpsN n k bs s).2).2)
theorem dpsN_len {n : Int} {bs : List Int} {s : Cu} : ∀ {k : Nat}, (dpsN n k bs s).1.length = k
 | 0 => rfl
 | k + 1 => by simp [dpsN, @dpsN_len n bs s k]
def dpsM (n : Int) : Dr (List (Int × Int)) := fun bs s => dpsN n (belowM 5 bs s).1.toNat bs (belowM 5 bs s).2
def cDps : Contract := ⟨[true], false, fun
 | [.box [.sl 1 l, .v (.int .i64 i), .v (.int .i64 h)], .one (.v (.int .i64 n))] => some (WfB l ∧ 0 ≤ i ∧ 1 ≤ n ∧ n ≤ 5, [⟨false, [.own 2 (dL (dpsM n (unB l) (i.toNat, h)).1) 1]⟩], cuO l (dpsM n (unB l) (i.toNat, h)).2)
 | _ => none⟩
theorem dps_ok : ContractOK E0 24 cDps := by
 refine contract_of_wpcB (E := E0) (T := mkT Tryz.prog [(60, cBelow), (61, cDep6)] false (fun _ => false) false (fun _ => false)) (mkT_ok (E := E0) (.cons below_ok (.cons dep6_ok .nil))) rfl (fn := Tryz.f24) Tryz.func24 (by kernel_rfl) rfl mixedT (by kernel_rfl) rfl rfl (Nat.le_of_ble_eq_true rfl) ?_
 intro args p rs ms hr
 unfold cDps at hr
 dsimp only at hr
 split at hr
 rotate_left
 ·cases hr
 rename_i l i h n
 simp only [Option.some.injEq, Prod.mk.injEq] at hr
 obtain ⟨rfl, rfl, rfl⟩ := hr
 refine ⟨_, _, _, rfl, rfl, rfl, rfl, Nat.le_of_ble_eq_true rfl, ?_⟩
 have hm : maxLen = 9223372036854775807 := rfl
 rintro ⟨h1, h2, n1, n5⟩ bs0
 obtain ⟨bs, rfl, hx⟩ := h1.ex
 clear h1
 rw [unB_bL]
 obtain ⟨i, rfl⟩ := Int.eq_ofNat_of_zero_le h2
 rw [Int.toNat_natCast]
 have e : dpsM n bs (i, h) = dpsN n (belowM 5 bs (i, h)).1.toNat bs (belowM 5 bs (i, h)).2 := rfl
 rw [e]
 clear e
 have r1 := @belowM_range 5 bs (i, h) (by decide)
 generalize hA : belowM 5 bs (i, h) = A at r1 ⊢
 obtain ⟨N, hN⟩ := Int.eq_ofNat_of_zero_le r1.1
 have hN2 : A.1.toNat = N := by omega
 have hN6 : N ≤ 4 := by omega
 rw [hN2]
 have hF := fun k => @dpsN_len n bs A.2 k
 have e0 : dL [] = [] := rfl
 (repeat' first | refine gA fun _ => ?_ | refine fkI ?_ ?_ <;> intro hb <;> try simp only [ew, hA, e0] at hb | simp only [go_sem, simprocAttr, *, cDps, cBelow, cDep6, Tryz.results24, hA, e0])
 refine lpI { ι := Nat, rs := [(7, 8), (11, 22)], mods := [(6, fun k => .one (.d (.v (.int .i64 ((N : Int) - k))))), (5, fun k => .one (.own 2 (dL (dpsN n k bs A.2).1) 1))], boxes := [(0, fun k => cuP bs (dpsN n k bs A.2).2)], arrs := [], ok := fun k => k ≤ N, mu := fun k => N - k } rfl 0 (Nat.zero_le _) ?_ fun k hk => ?_
 ·have e1 : dpsN n 0 bs A.2 = ([], A.2) := rfl
  clear hF
  (repeat' first | refine gA fun _ => ?_ | refine fkI ?_ ?_ <;> intro hb <;> try simp only [ew, e1, e0] at hb | simp only [go_sem, simprocAttr, *, cDps, cBelow, cDep6, Tryz.results24, e1, e0])
  all_goals first | rfl | (simp; omega) | skip
 ·dsimp only at k hk
  have f1 := hF k
  clear hF
  by_cases h5 : k < N
  ·have eS : dpsN n (k + 1) bs A.2 = ((dpsN n k bs A.2).1 ++ [(depM n bs (dpsN n k bs A.2).2).1], (depM n bs (dpsN n k bs A.2).2).2) := rfl
   generalize hP : dpsN n k bs A.2 = P at f1 eS
   generalize hD : depM n bs P.2 = Q at eS
   have m1 : P.1.length ≤ maxLen := Nat.le_trans (show P.1.length ≤ 20 by omega) (by decide)
   have hpos : ((N : Int) - k) > 0 := by omega
   (repeat' first | refine gA fun _ => ?_ | refine fkI ?_ ?_ <;> intro hb <;> try simp only [ew, hP, hD, dL_sn] at hb | simp only [go_sem, simprocAttr, *, cDps, cBelow, cDep6, Tryz.results24, hP, hD, dL_sn])
   refine lpN (k + 1) (by dsimp only; omega) (by dsimp only; omega) ?_
   (repeat' first | refine gA fun _ => ?_ | refine fkI ?_ ?_ <;> intro hb <;> try simp only [ew, eS, dL_sn] at hb | simp only [go_sem, simprocAttr, *, cDps, cBelow, cDep6, Tryz.results24, eS, dL_sn])
   all_goals first | rfl | omega | skip
  ·have e5 : k = N := by omega
   subst e5
   generalize hP : dpsN n k bs A.2 = P at f1
   have z0 : ((k : Nat) : Int) - ((k : Nat) : Int) = 0 := by omega
   have m1 : P.1.length ≤ maxLen := Nat.le_trans (show P.1.length ≤ 20 by omega) (by decide)
   (repeat' first | refine gA fun _ => ?_ | refine fkI ?_ ?_ <;> intro hb <;> try simp only [ew, hP, z0] at hb | simp only [go_sem, simprocAttr, *, cDps, cBelow, cDep6, Tryz.results24, hP, z0])
   all_goals first | rfl | skip
end Go.Own
/-
  The draws of patterns. Conditions: as each theorem states them.
-/
namespace Go.Own
open Go Go.Proofs
attribute [local go_sem] tf1b ft1b cuO rI rB cuP unB_bL bL_length wfB_bL
def any2M : Dr Int := fun bs s => if (onceM 8 bs s).1 then pickM [-1, 31, 32, 33] bs (onceM 8 bs s).2 else belowM 32 bs (onceM 8 bs s).2
def cAny2 : Contract := ⟨[true], false, fun
 | [.box [.sl 1 l, .v (.int .i64 i), .v (.int .i64 h)]] => some (WfB l ∧ 0 ≤ i, rI (any2M (unB l) (i.toNat, h)).1, cuO l (any2M (unB l) (i.toNat, h)).2)
 | _ => none⟩
theorem any2_ok : ContractOK E0 63 cAny2 := by
 refine contract_of_wpcB (E := E0) (T := mkT Tryz.prog [(25, cOnce), (64, cPickI), (60, cBelow)] false (fun d => d == 6) false (fun _ => false)) (mkT_ok (E := E0) (.cons once_ok (.cons pickI_ok (.cons below_ok .nil)))) rfl (fn := Tryz.f63) Tryz.func63 (by kernel_rfl) rfl mixedT (by kernel_rfl) rfl rfl (Nat.le_of_ble_eq_true rfl) ?_
 intro args p rs ms hr
 unfold cAny2 at hr
 dsimp only at hr
 split at hr
 rotate_left
 ·cases hr
 rename_i l i h
 simp only [Option.some.injEq, Prod.mk.injEq] at hr
 obtain ⟨rfl, rfl, rfl⟩ := hr
 refine ⟨_, _, _, rfl, rfl, rfl, rfl, Nat.le_of_ble_eq_true rfl, ?_⟩
 have hm : maxLen = 9223372036854775807 := rfl
 rintro ⟨h1, h2⟩ bs0
 obtain ⟨bs, rfl, hx⟩ := h1.ex
 clear h1
 rw [unB_bL]
 obtain ⟨i, rfl⟩ := Int.eq_ofNat_of_zero_le h2
 rw [Int.toNat_natCast]
 have e : any2M bs (i, h) = if (onceM 8 bs (i, h)).1 then pickM [-1, 31, 32, 33] bs (onceM 8 bs (i, h)).2 else belowM 32 bs (onceM 8 bs (i, h)).2 := rfl
 rw [e]
 clear e
 have eA : [[D.v (.int .i64 (-1))], [D.v (.int .i64 31)], [D.v (.int .i64 32)], [D.v (.int .i64 33)]] = iL [-1, 31, 32, 33] := rfl
 have nA : ¬ iL [-1, 31, 32, 33] = [] := by simp [iL]
 generalize hO : onceM 8 bs (i, h) = O
 cases ho : O.1
 ·rw [if_neg (by decide)]
  generalize hP : belowM 32 bs O.2 = P
  (repeat' first | refine gA fun _ => ?_ | refine fkI ?_ ?_ <;> intro hb <;> try simp only [ew, hO, ho, hP] at hb | simp only [go_sem, simprocAttr, *, cAny2, cOnce, cPickI, cBelow, Tryz.results63, hO, ho, hP])
  all_goals first | rfl | skip
 ·rw [if_pos rfl]
  generalize hP : pickM [-1, 31, 32, 33] bs O.2 = P
  (repeat' first | refine gA fun _ => ?_ | refine fkI ?_ ?_ <;> intro hb <;> try simp only [ew, hO, ho, eA, hP] at hb | simp only [go_sem, simprocAttr, *, cAny2, cOnce, cPickI, cBelow, Tryz.results63, hO, ho, eA, hP])
  all_goals first | rfl | skip
def any6N (n : Int) : Int := if inB n 1 5 then n else 3
def any6M (n : Int) : Dr (Int × Int) := fun bs s =>
 let d := depM (any6N n) bs s
 let x := belowM 14 bs d.2
 if x.1 = 0 then (((any2M bs x.2).1, d.1.2), (any2M bs x.2).2)
 else if x.1 = 1 then ((d.1.1, (pickM [-1, 4, 5] bs x.2).1), (pickM [-1, 4, 5] bs x.2).2)
 else (d.1, x.2)
def cAny6 : Contract := ⟨[true], false, fun
 | [.box [.sl 1 l, .v (.int .i64 i), .v (.int .i64 h)], .one (.v (.int .i64 n))] => some (WfB l ∧ 0 ≤ i, [⟨true, [.d (.v (.int .i64 (any6M n (unB l) (i.toNat, h)).1.1)), .d (.v (.int .i64 (any6M n (unB l) (i.toNat, h)).1.2))]⟩], cuO l (any6M n (unB l) (i.toNat, h)).2)
 | _ => none⟩
theorem any6_ok : ContractOK E0 26 cAny6 := by
 refine contract_of_wpcB (E := E0) (T := mkT Tryz.prog [(62, cL1In), (61, cDep6), (60, cBelow), (63, cAny2), (64, cPickI)] false (fun d => d == 22) false (fun _ => false)) (mkT_ok (E := E0) (.cons l1In_ok (.cons dep6_ok (.cons below_ok (.cons any2_ok (.cons pickI_ok .nil)))))) rfl (fn := Tryz.f26) Tryz.func26 (by kernel_rfl) rfl mixedT (by kernel_rfl) rfl rfl (Nat.le_of_ble_eq_true rfl) ?_
 intro args p rs ms hr
 unfold cAny6 at hr
 dsimp only at hr
 split at hr
 rotate_left
 ·cases hr
 rename_i l i h n
 simp only [Option.some.injEq, Prod.mk.injEq] at hr
 obtain ⟨rfl, rfl, rfl⟩ := hr
 refine ⟨_, _, _, rfl, rfl, rfl, rfl, Nat.le_of_ble_eq_true rfl, ?_⟩
 have hm : maxLen = 9223372036854775807 := rfl
 rintro ⟨h1, h2⟩ bs0
 obtain ⟨bs, rfl, hx⟩ := h1.ex
 clear h1
 rw [unB_bL]
 obtain ⟨i, rfl⟩ := Int.eq_ofNat_of_zero_le h2
 rw [Int.toNat_natCast]
 have eA : [[D.v (.int .i64 (-1))], [D.v (.int .i64 4)], [D.v (.int .i64 5)]] = iL [-1, 4, 5] := rfl
 have nA : ¬ iL [-1, 4, 5] = [] := by simp [iL]
 generalize hL : any6M n bs (i, h) = L
 unfold any6M at hL
 dsimp only at hL
 generalize hN : any6N n = N at hL
 unfold any6N at hN
 have main : ∀ b : Bool, inB n 1 5 = b → (1 ≤ N ∧ N ≤ 5) ∧ N = (if b then n else 3) := by
  intro b hb
  rw [hb] at hN
  subst hN
  cases b
  ·exact ⟨by simp, rfl⟩
  ·exact ⟨by simpa using inB_iff.1 hb, rfl⟩
 generalize hD : depM N bs (i, h) = D0 at hL
 generalize hX : belowM 14 bs D0.2 = X at hL
 clear hN
 cases hb : inB n 1 5
 ·obtain ⟨⟨n1, n5⟩, rfl⟩ := main false hb
  clear main
  simp only [Bool.false_eq_true, if_false] at hD
  by_cases h0 : X.1 = 0
  ·rw [if_pos h0] at hL
   have q0 : (X.1 == 0) = true := by rw [h0]; rfl
   clear h0
   generalize hP : any2M bs X.2 = P at hL
   subst hL
   (repeat' first | refine gA fun _ => ?_ | refine fkI ?_ ?_ <;> intro hb <;> try simp only [ew, hb, hD, hX, q0, hP] at hb | simp only [go_sem, simprocAttr, *, cAny6, cL1In, cDep6, cBelow, cAny2, cPickI, Tryz.results26, hb, hD, hX, q0, hP])
   all_goals first | rfl | skip
  ·rw [if_neg h0] at hL
   have q0 : (X.1 == 0) = false := beq_eq_false_iff_ne.2 h0
   clear h0
   by_cases h1 : X.1 = 1
   ·rw [if_pos h1] at hL
    have q1 : (X.1 == 1) = true := by rw [h1]; rfl
    clear h1
    generalize hP : pickM [-1, 4, 5] bs X.2 = P at hL
    subst hL
    (repeat' first | refine gA fun _ => ?_ | refine fkI ?_ ?_ <;> intro hb <;> try simp only [ew, hb, hD, hX, q0, q1, eA, hP] at hb | simp only [go_sem, simprocAttr, *, cAny6, cL1In, cDep6, cBelow, cAny2, cPickI, Tryz.results26, hb, hD, hX, q0, q1, eA, hP])
    all_goals first | rfl | skip
   ·rw [if_neg h1] at hL
    have q1 : (X.1 == 1) = false := beq_eq_false_iff_ne.2 h1
    clear h1
    subst hL
    (repeat' first | refine gA fun _ => ?_ | refine fkI ?_ ?_ <;> intro hb <;> try simp only [ew, hb, hD, hX, q0, q1] at hb | simp only [go_sem, simprocAttr, *, cAny6, cL1In, cDep6, cBelow, cAny2, cPickI, Tryz.results26, hb, hD, hX, q0, q1])
    all_goals first | rfl | skip
 ·obtain ⟨⟨n1, n5⟩, rfl⟩ := main true hb
  clear main
  by_cases h0 : X.1 = 0
  ·rw [if_pos h0] at hL
   have q0 : (X.1 == 0) = true := by rw [h0]; rfl
   clear h0
   generalize hP : any2M bs X.2 = P at hL
   subst hL
   (repeat' first | refine gA fun _ => ?_ | refine fkI ?_ ?_ <;> intro hb <;> try simp only [ew, hb, hD, hX, q0, hP] at hb | simp only [go_sem, simprocAttr, *, cAny6, cL1In, cDep6, cBelow, cAny2, cPickI, Tryz.results26, hb, hD, hX, q0, hP])
   all_goals first | rfl | skip
  ·rw [if_neg h0] at hL
   have q0 : (X.1 == 0) = false := beq_eq_false_iff_ne.2 h0
   clear h0
   by_cases h1 : X.1 = 1
   ·rw [if_pos h1] at hL
    have q1 : (X.1 == 1) = true := by rw [h1]; rfl
    clear h1
    generalize hP : pickM [-1, 4, 5] bs X.2 = P at hL
    subst hL
    (repeat' first | refine gA fun _ => ?_ | refine fkI ?_ ?_ <;> intro hb <;> try simp only [ew, hb, hD, hX, q0, q1, eA, hP] at hb | simp only [go_sem, simprocAttr, *, cAny6, cL1In, cDep6, cBelow, cAny2, cPickI, Tryz.results26, hb, hD, hX, q0, q1, eA, hP])
    all_goals first | rfl | skip
   ·rw [if_neg h1] at hL
    have q1 : (X.1 == 1) = false := beq_eq_false_iff_ne.2 h1
    clear h1
    subst hL
    (repeat' first | refine gA fun _ => ?_ | refine fkI ?_ ?_ <;> intro hb <;> try simp only [ew, hb, hD, hX, q0, q1] at hb | simp only [go_sem, simprocAttr, *, cAny6, cL1In, cDep6, cBelow, cAny2, cPickI, Tryz.results26, hb, hD, hX, q0, q1])
    all_goals first | rfl | skip
end Go.Own
/-
  The draws of dependencies with columns, of lists of sets, of parts. Conditions: as each theorem states them.
-/
namespace Go.Own
open Go Go.Proofs
attribute [local go_sem] tf1b ft1b cuO rI rB cuP unB_bL bL_length wfB_bL unD_dL dL_length dL_get dL_set dL_inj wfD_dL scal2 beq2 pair_eta
def l10M : Dr (Int × List (Int × Int)) := fun bs s =>
 let a := belowM 3 bs s
 let l := dpsM (2 + a.1) bs a.2
 let x := belowM 14 bs l.2
 if x.1 = 0 then ((2 + a.1, l.1 ++ [(any6M (2 + a.1) bs x.2).1]), (any6M (2 + a.1) bs x.2).2)
 else if x.1 = 1 then (((pickM [0, 1, 5, 6] bs x.2).1, l.1), (pickM [0, 1, 5, 6] bs x.2).2)
 else ((2 + a.1, l.1), x.2)
theorem dpsM_len {n : Int} {bs : List Int} {s : Cu} : (dpsM n bs s).1.length ≤ 4 := by
 unfold dpsM
 rw [dpsN_len]
 have := @belowM_range 5 bs s (by decide)
 omega
theorem l10M_facts {bs : List Int} {s : Cu} : (0 ≤ (l10M bs s).1.1 ∧ (l10M bs s).1.1 ≤ 6) ∧ (l10M bs s).1.2.length ≤ 5 := by
 have h1 := @belowM_range 3 bs s (by decide)
 have h2 := @dpsM_len (2 + (belowM 3 bs s).1) bs (belowM 3 bs s).2
 unfold l10M
 dsimp only
 split
 ·dsimp only; exact ⟨⟨by omega, by omega⟩, by simp; omega⟩
 ·split
  ·dsimp only
   have h3 := @pickM_mem [0, 1, 5, 6] bs (belowM 14 bs (dpsM (2 + (belowM 3 bs s).1) bs (belowM 3 bs s).2).2).2 (by simp)
   simp only [List.mem_cons, List.not_mem_nil, or_false] at h3
   exact ⟨⟨by omega, by omega⟩, by omega⟩
  ·dsimp only; exact ⟨⟨by omega, by omega⟩, by omega⟩
def cL10 : Contract := ⟨[true], false, fun
 | [.box [.sl 1 l, .v (.int .i64 i), .v (.int .i64 h)]] => some (WfB l ∧ 0 ≤ i, [⟨false, [.d (.v (.int .i64 (l10M (unB l) (i.toNat, h)).1.1))]⟩, ⟨false, [.own 2 (dL (l10M (unB l) (i.toNat, h)).1.2) 1]⟩], cuO l (l10M (unB l) (i.toNat, h)).2)
 | _ => none⟩
theorem l10_ok : ContractOK E0 37 cL10 := by
 refine contract_of_wpcB (E := E0) (T := mkT Tryz.prog [(60, cBelow), (24, cDps), (26, cAny6), (64, cPickI)] false (fun d => d == 25) false (fun _ => false)) (mkT_ok (E := E0) (.cons below_ok (.cons dps_ok (.cons any6_ok (.cons pickI_ok .nil))))) rfl (fn := Tryz.f37) Tryz.func37 (by kernel_rfl) rfl mixedT (by kernel_rfl) rfl rfl (Nat.le_of_ble_eq_true rfl) ?_
 intro args p rs ms hr
 unfold cL10 at hr
 dsimp only at hr
 split at hr
 rotate_left
 ·cases hr
 rename_i l i h
 simp only [Option.some.injEq, Prod.mk.injEq] at hr
 obtain ⟨rfl, rfl, rfl⟩ := hr
 refine ⟨_, _, _, rfl, rfl, rfl, rfl, Nat.le_of_ble_eq_true rfl, ?_⟩
 have hm : maxLen = 9223372036854775807 := rfl
 rintro ⟨h1, h2⟩ bs0
 obtain ⟨bs, rfl, hx⟩ := h1.ex
 clear h1
 rw [unB_bL]
 obtain ⟨i, rfl⟩ := Int.eq_ofNat_of_zero_le h2
 rw [Int.toNat_natCast]
 have r1 := @belowM_range 3 bs (i, h) (by decide)
 generalize hL : l10M bs (i, h) = L
 unfold l10M at hL
 dsimp only at hL
 generalize hA : belowM 3 bs (i, h) = A at r1 hL
 have f1 := @dpsM_len (2 + A.1) bs A.2
 generalize hD : dpsM (2 + A.1) bs A.2 = Dd at f1 hL
 generalize hX : belowM 14 bs Dd.2 = X at hL
 have m1 : Dd.1.length ≤ maxLen := Nat.le_trans f1 (by decide)
 have eA : [[D.v (.int .i64 0)], [D.v (.int .i64 1)], [D.v (.int .i64 5)], [D.v (.int .i64 6)]] = iL [0, 1, 5, 6] := rfl
 have nA : ¬ iL [0, 1, 5, 6] = [] := by simp [iL]
 by_cases h0 : X.1 = 0
 ·rw [if_pos h0] at hL
  have q0 : (X.1 == 0) = true := by rw [h0]; rfl
  clear h0
  generalize hP : any6M (2 + A.1) bs X.2 = P at hL
  subst hL
  (repeat' first | refine gA fun _ => ?_ | refine fkI ?_ ?_ <;> intro hb <;> try simp only [ew, hA, hD, hX, q0, hP, dL_sn] at hb | simp only [go_sem, simprocAttr, *, cL10, cBelow, cDps, cAny6, cPickI, Tryz.results37, hA, hD, hX, q0, hP, dL_sn])
  all_goals first | rfl | skip
 ·rw [if_neg h0] at hL
  have q0 : (X.1 == 0) = false := beq_eq_false_iff_ne.2 h0
  clear h0
  by_cases h1 : X.1 = 1
  ·rw [if_pos h1] at hL
   have q1 : (X.1 == 1) = true := by rw [h1]; rfl
   clear h1
   generalize hP : pickM [0, 1, 5, 6] bs X.2 = P at hL
   subst hL
   (repeat' first | refine gA fun _ => ?_ | refine fkI ?_ ?_ <;> intro hb <;> try simp only [ew, hA, hD, hX, q0, q1, eA, hP] at hb | simp only [go_sem, simprocAttr, *, cL10, cBelow, cDps, cAny6, cPickI, Tryz.results37, hA, hD, hX, q0, q1, eA, hP])
   all_goals first | rfl | skip
  ·rw [if_neg h1] at hL
   have q1 : (X.1 == 1) = false := beq_eq_false_iff_ne.2 h1
   clear h1
   subst hL
   (repeat' first | refine gA fun _ => ?_ | refine fkI ?_ ?_ <;> intro hb <;> try simp only [ew, hA, hD, hX, q0, q1] at hb | simp only [go_sem, simprocAttr, *, cL10, cBelow, cDps, cAny6, cPickI, Tryz.results37, hA, hD, hX, q0, q1])
   all_goals first | rfl | skip
def stsN : Nat → Dr (List Int)
 | 0 => fun _ s => ([], s)
 | k + 1 => fun bs s => ((stsN k bs s).1 ++ [(belowM 32 bs (stsN k bs s).2).1], (belowM 32 bs (stsN k bs s).2).2)
theorem stsN_len {bs : List Int} {s : Cu} : ∀ {k : Nat}, (stsN k bs s).1.length = k
 | 0 => rfl
 | k + 1 => by simp [stsN, @stsN_len bs s k]
def setsM : Dr (List Int) := fun bs s =>
 let a := belowM 7 bs s
 let l := stsN a.1.toNat bs a.2
 let o := onceM 14 bs l.2
 if o.1 then (l.1 ++ [(any2M bs o.2).1], (any2M bs o.2).2) else (l.1, o.2)
theorem setsM_len {bs : List Int} {s : Cu} : (setsM bs s).1.length ≤ 7 := by
 have h1 := @belowM_range 7 bs s (by decide)
 have h2 := @stsN_len bs (belowM 7 bs s).2 (belowM 7 bs s).1.toNat
 unfold setsM
 dsimp only
 split
 ·simp; omega
 ·dsimp only; omega
def cSetsM : Contract := ⟨[true], false, fun
 | [.box [.sl 1 l, .v (.int .i64 i), .v (.int .i64 h)]] => some (WfB l ∧ 0 ≤ i, [⟨false, [.own 1 (iL (setsM (unB l) (i.toNat, h)).1) 1]⟩], cuO l (setsM (unB l) (i.toNat, h)).2)
 | _ => none⟩
theorem sets4_ok : ContractOK E0 27 cSetsM := by
 refine contract_of_wpcB (E := E0) (T := mkT Tryz.prog [(60, cBelow), (25, cOnce), (63, cAny2)] false (fun _ => false) false (fun _ => false)) (mkT_ok (E := E0) (.cons below_ok (.cons once_ok (.cons any2_ok .nil)))) rfl (fn := Tryz.f27) Tryz.func27 (by kernel_rfl) rfl mixedT (by kernel_rfl) rfl rfl (Nat.le_of_ble_eq_true rfl) ?_
 intro args p rs ms hr
 unfold cSetsM at hr
 dsimp only at hr
 split at hr
 rotate_left
 ·cases hr
 rename_i l i h
 simp only [Option.some.injEq, Prod.mk.injEq] at hr
 obtain ⟨rfl, rfl, rfl⟩ := hr
 refine ⟨_, _, _, rfl, rfl, rfl, rfl, Nat.le_of_ble_eq_true rfl, ?_⟩
 have hm : maxLen = 9223372036854775807 := rfl
 rintro ⟨h1, h2⟩ bs0
 obtain ⟨bs, rfl, hx⟩ := h1.ex
 clear h1
 rw [unB_bL]
 obtain ⟨i, rfl⟩ := Int.eq_ofNat_of_zero_le h2
 rw [Int.toNat_natCast]
 generalize hL : setsM bs (i, h) = L
 unfold setsM at hL
 dsimp only at hL
 have r1 := @belowM_range 7 bs (i, h) (by decide)
 generalize hA : belowM 7 bs (i, h) = A at r1 hL
 obtain ⟨N, hN⟩ := Int.eq_ofNat_of_zero_le r1.1
 have hN2 : A.1.toNat = N := by omega
 have hN6 : N ≤ 6 := by omega
 rw [hN2] at hL
 have hF := fun k => @stsN_len bs A.2 k
 have e0 : iL [] = [] := rfl
 (repeat' first | refine gA fun _ => ?_ | refine fkI ?_ ?_ <;> intro hb <;> try simp only [ew, hA, e0] at hb | simp only [go_sem, simprocAttr, *, cSetsM, cBelow, cOnce, cAny2, Tryz.results27, hA, e0])
 refine lpI { ι := Nat, rs := [(5, 6), (9, 19)], mods := [(4, fun k => .one (.d (.v (.int .i64 ((N : Int) - k))))), (3, fun k => .one (.own 1 (iL (stsN k bs A.2).1) 1))], boxes := [(0, fun k => cuP bs (stsN k bs A.2).2)], arrs := [], ok := fun k => k ≤ N, mu := fun k => N - k } rfl 0 (Nat.zero_le _) ?_ fun k hk => ?_
 ·have e1 : stsN 0 bs A.2 = ([], A.2) := rfl
  clear hF
  (repeat' first | refine gA fun _ => ?_ | refine fkI ?_ ?_ <;> intro hb <;> try simp only [ew, e1, e0] at hb | simp only [go_sem, simprocAttr, *, cSetsM, cBelow, cOnce, cAny2, Tryz.results27, e1, e0])
  all_goals first | rfl | (simp; omega) | skip
 ·dsimp only at k hk
  have f1 := hF k
  clear hF
  by_cases h5 : k < N
  ·have eS : stsN (k + 1) bs A.2 = ((stsN k bs A.2).1 ++ [(belowM 32 bs (stsN k bs A.2).2).1], (belowM 32 bs (stsN k bs A.2).2).2) := rfl
   generalize hP : stsN k bs A.2 = P at f1 eS
   generalize hD : belowM 32 bs P.2 = Q at eS
   have m1 : P.1.length ≤ maxLen := Nat.le_trans (show P.1.length ≤ 20 by omega) (by decide)
   have hpos : ((N : Int) - k) > 0 := by omega
   (repeat' first | refine gA fun _ => ?_ | refine fkI ?_ ?_ <;> intro hb <;> try simp only [ew, hP, hD, iL_sn] at hb | simp only [go_sem, simprocAttr, *, cSetsM, cBelow, cOnce, cAny2, Tryz.results27, hP, hD, iL_sn])
   refine lpN (k + 1) (by dsimp only; omega) (by dsimp only; omega) ?_
   (repeat' first | refine gA fun _ => ?_ | refine fkI ?_ ?_ <;> intro hb <;> try simp only [ew, eS, iL_sn] at hb | simp only [go_sem, simprocAttr, *, cSetsM, cBelow, cOnce, cAny2, Tryz.results27, eS, iL_sn])
   all_goals first | rfl | omega | skip
  ·have e5 : k = N := by omega
   subst e5
   generalize hP : stsN k bs A.2 = P at f1 hL
   have z0 : ((k : Nat) : Int) - ((k : Nat) : Int) = 0 := by omega
   have m1 : P.1.length ≤ maxLen := Nat.le_trans (show P.1.length ≤ 20 by omega) (by decide)
   generalize hO : onceM 14 bs P.2 = O at hL
   cases ho : O.1
   ·rw [ho, if_neg (by decide)] at hL
    subst hL
    (repeat' first | refine gA fun _ => ?_ | refine fkI ?_ ?_ <;> intro hb <;> try simp only [ew, hP, z0, hO, ho] at hb | simp only [go_sem, simprocAttr, *, cSetsM, cBelow, cOnce, cAny2, Tryz.results27, hP, z0, hO, ho])
    all_goals first | rfl | skip
   ·rw [ho, if_pos rfl] at hL
    generalize hQ : any2M bs O.2 = Q at hL
    subst hL
    (repeat' first | refine gA fun _ => ?_ | refine fkI ?_ ?_ <;> intro hb <;> try simp only [ew, hP, z0, hO, ho, hQ, iL_sn] at hb | simp only [go_sem, simprocAttr, *, cSetsM, cBelow, cOnce, cAny2, Tryz.results27, hP, z0, hO, ho, hQ, iL_sn])
    all_goals first | rfl | skip
end Go.Own
/-
  DERIVED: THE SHELF's CONTRACTS AT THIS DUMP, IN PLAIN WORDS (tools/lay-plain.mjs out of 'TryShelf.lean', which tools/lay-shelf.mjs wrote): THE SAME DECLARATIONS UNDER THE SAME NAMES: 'import', 'namespace', 'open', 'def', 'theorem' AND NOTHING ELSE: no command of the shelf's: FOR A HAND-IN. Each laying: the table of numbers ('.._ren') and one theorem, a field a fact of the dump's own or the kernel's comparison; each contract: ONE APPLICATION.
-/
namespace Go.Proofs
open Go.Shelf
def Tryz.lays189_ren : Go.Shelf.Ren := ⟨fun | 189 => 144 | 125 => 159 | 257 => 158 | 128 => 177 | 129 => 178 | 294 => 168 | 295 => 169 | 296 => 170 | 297 => 171 | 298 => 172 | 299 => 173 | 216 => 174 | 300 => 175 | 301 => 176 | 328 => 186 | 329 => 187 | 330 => 188 | 331 => 189 | 332 => 190 | 215 => 191 | 343 => 204 | n => n, fun | 28 => 26 | 3 => 3 | 46 => 134 | 0 => 0 | 51 => 162 | 53 => 146 | 4 => 4 | 183 => 155 | 182 => 154 | 131 => 159 | 5 => 5 | 9 => 9 | 218 => 167 | 222 => 171 | 228 => 178 | 229 => 102 | n => n, fun | n => n⟩
theorem Tryz.lays189 : Go.Proofs.Lays.n189 Tryz.prog Tryz.lays189_ren := {
 mixed := by kernel_rfl
 f125 := Tryz.func159.trans (congrArg some (by kernel_rfl))
 f128 := Tryz.func177.trans (congrArg some (by kernel_rfl))
 f129 := Tryz.func178.trans (congrArg some (by kernel_rfl))
 f189 := Tryz.func144.trans (congrArg some (by kernel_rfl))
 f215 := Tryz.func191.trans (congrArg some (by kernel_rfl))
 f216 := Tryz.func174.trans (congrArg some (by kernel_rfl))
 f257 := Tryz.func158.trans (congrArg some (by kernel_rfl))
 f294 := Tryz.func168.trans (congrArg some (by kernel_rfl))
 f295 := Tryz.func169.trans (congrArg some (by kernel_rfl))
 f296 := Tryz.func170.trans (congrArg some (by kernel_rfl))
 f297 := Tryz.func171.trans (congrArg some (by kernel_rfl))
 f298 := Tryz.func172.trans (congrArg some (by kernel_rfl))
 f299 := Tryz.func173.trans (congrArg some (by kernel_rfl))
 f300 := Tryz.func175.trans (congrArg some (by kernel_rfl))
 f301 := Tryz.func176.trans (congrArg some (by kernel_rfl))
 f328 := Tryz.func186.trans (congrArg some (by kernel_rfl))
 f329 := Tryz.func187.trans (congrArg some (by kernel_rfl))
 f330 := Tryz.func188.trans (congrArg some (by kernel_rfl))
 f331 := Tryz.func189.trans (congrArg some (by kernel_rfl))
 f332 := Tryz.func190.trans (congrArg some (by kernel_rfl))
 f343 := Tryz.func204.trans (congrArg some (by kernel_rfl))
 t0 := Tryz.underlying0
 a0 := Tryz.isAgg0
 z0 := Tryz.sizeOf0
 v0 := Tryz.zeroValue0
 t3 := Tryz.underlying3
 a3 := Tryz.isAgg3
 z3 := Tryz.sizeOf3
 v3 := Tryz.zeroValue3
 t4 := Tryz.underlying4
 a4 := Tryz.isAgg4
 z4 := Tryz.sizeOf4
 v4 := Tryz.zeroValue4
 t5 := Tryz.underlying5
 a5 := Tryz.isAgg5
 z5 := Tryz.sizeOf5
 v5 := Tryz.zeroValue5
 t9 := Tryz.underlying9
 a9 := Tryz.isAgg9
 z9 := Tryz.sizeOf9
 v9 := Tryz.zeroValue9
 t28 := Tryz.underlying26
 a28 := Tryz.isAgg26
 z28 := Tryz.sizeOf26
 v28 := Tryz.zeroValue26
 t46 := Tryz.underlying134
 a46 := Tryz.isAgg134
 z46 := Tryz.sizeOf134
 v46 := Tryz.zeroValue134
 t51 := Tryz.underlying162
 a51 := Tryz.isAgg162
 z51 := Tryz.sizeOf162
 v51 := Tryz.zeroValue162
 t53 := Tryz.underlying146
 a53 := Tryz.isAgg146
 z53 := Tryz.sizeOf146
 v53 := Tryz.zeroValue146
 t131 := Tryz.underlying159
 a131 := Tryz.isAgg159
 z131 := Tryz.sizeOf159
 v131 := Tryz.zeroValue159
 t182 := Tryz.underlying154
 a182 := Tryz.isAgg154
 z182 := Tryz.sizeOf154
 v182 := Tryz.zeroValue154
 t183 := Tryz.underlying155
 a183 := Tryz.isAgg155
 z183 := Tryz.sizeOf155
 v183 := Tryz.zeroValue155
 t218 := Tryz.underlying167
 a218 := Tryz.isAgg167
 z218 := Tryz.sizeOf167
 v218 := Tryz.zeroValue167
 t222 := Tryz.underlying171
 a222 := Tryz.isAgg171
 z222 := Tryz.sizeOf171
 v222 := Tryz.zeroValue171
 t228 := Tryz.underlying178
 a228 := Tryz.isAgg178
 z228 := Tryz.sizeOf178
 v228 := Tryz.zeroValue178
 t229 := Tryz.underlying102
 a229 := Tryz.isAgg102
 z229 := Tryz.sizeOf102
 v229 := Tryz.zeroValue102 }
def Tryz.laysC_ren : Go.Shelf.Ren := ⟨fun | 20 => 145 | n => n, fun | 22 => 26 | 3 => 3 | 4 => 4 | 0 => 0 | n => n, fun | n => n⟩
theorem Tryz.laysC : Go.Proofs.Lays2.n20 Tryz.prog Tryz.laysC_ren := {
 mixed := by kernel_rfl
 f20 := Tryz.func145.trans (congrArg some (by kernel_rfl))
 t0 := Tryz.underlying0
 a0 := Tryz.isAgg0
 z0 := Tryz.sizeOf0
 v0 := Tryz.zeroValue0
 t3 := Tryz.underlying3
 a3 := Tryz.isAgg3
 z3 := Tryz.sizeOf3
 v3 := Tryz.zeroValue3
 t4 := Tryz.underlying4
 a4 := Tryz.isAgg4
 z4 := Tryz.sizeOf4
 v4 := Tryz.zeroValue4
 t22 := Tryz.underlying26
 a22 := Tryz.isAgg26
 z22 := Tryz.sizeOf26
 v22 := Tryz.zeroValue26
 i3 := by kernel_rfl }
end Go.Proofs
