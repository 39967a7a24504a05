/- Own contracts. Conditions: as each theorem states them. -/
import Derived.Test.YtaigpolfbonjgaaGreatDoorOwnZ5
import Derived.Test.YtaigpolfbonjgaaGreatDoorOwnTa
set_option linter.unusedSimpArgs false
set_option linter.unusedVariables false
set_option maxRecDepth 20000
set_option maxHeartbeats 2000000
namespace Go.Own
open Go Go.Proofs
def dL (xs : List (Int × Int)) : List (List D) := xs.map fun q => [D.v (.int .i64 q.1), D.v (.int .i64 q.2)]
def unD (l : List (List D)) : List (Int × Int) := l.map fun
 | [.v (.int .i64 a), .v (.int .i64 b)] => (a, b)
 | _ => (0, 0)
theorem unD_dL (xs : List (Int × Int)) : unD (dL xs) = xs := by simp [unD, dL, Function.comp_def]
theorem dL_length (xs : List (Int × Int)) : (dL xs).length = xs.length := by simp [dL]
theorem dL_get {xs : List (Int × Int)} {i : Nat} (h : i < xs.length) : (dL xs).getD i [] = [D.v (.int .i64 (xs.getD i (0, 0)).1), D.v (.int .i64 (xs.getD i (0, 0)).2)] := by
 simp [dL, List.getD_eq_getElem?_getD, h]
theorem dL_set {xs : List (Int × Int)} {i : Nat} {a b : Int} : (dL xs).set i [D.v (.int .i64 a), D.v (.int .i64 b)] = dL (xs.set i (a, b)) := by
 simp [dL, List.map_set]
theorem dL_inj {xs ys : List (Int × Int)} : dL xs = dL ys ↔ xs = ys := by
 constructor
 ·intro h
  have := congrArg unD h
  simpa only [unD_dL] using this
 ·rintro rfl; rfl
def WfD (l : List (List D)) : Prop := l = dL (unD l) ∧ l.length ≤ maxLen
theorem wfD_dL {xs : List (Int × Int)} : WfD (dL xs) ↔ xs.length ≤ maxLen := by simp [WfD, unD_dL, dL_length]
theorem WfD.ex {l : List (List D)} (h : WfD l) : ∃ xs, l = dL xs ∧ xs.length ≤ maxLen := ⟨unD l, h.1, by have := h.2; rw [h.1, dL_length] at this; exact this⟩
theorem scal2 {a b : Value} : (∀ x ∈ [D.v a, D.v b], Scalar x) ↔ True := by
 refine ⟨fun _ => trivial, fun _ x hx => ?_⟩
 simp only [List.mem_cons, List.not_mem_nil, or_false] at hx
 rcases hx with rfl | rfl <;> trivial
theorem beq2 {a b c d : Int} : ([a, b] == [c, d]) = ((a, b) == (c, d)) := by
 rw [Bool.eq_iff_iff]; simp
theorem pair_eta {q : Int × Int} : (q.1, q.2) = q := rfl
attribute [local go_sem] unD_dL dL_length dL_get dL_set dL_inj wfD_dL scal2 beq2 pair_eta
def cEqDepS : Contract := ⟨[], false, fun
 | [.one (.sl 2 a), .one (.sl 2 b)] => some (WfD a ∧ WfD b, [⟨false, [.d (.v (.bool (unD a == unD b)))]⟩], [])
 | _ => none⟩
theorem not_lenD {xs ys : List (Int × Int)} (h : ¬ (xs.length : Int) = ys.length) : (xs == ys) = false := beq_eq_false_iff_ne.2 fun e => h (by rw [e])
theorem sameDepsS_ok : ContractOK E0 98 cEqDepS := by
 refine cWpc (E := E0) (T := mkT Tryz.prog [] false (fun _ => false) true (fun _ => false)) (mkT_ok (E := E0) .nil) (fn := Tryz.f98) Tryz.func98 (by kernel_rfl) rfl mixedT (by kernel_rfl) rfl ?_
 intro args p rs ms hr
 unfold cEqDepS at hr
 dsimp only at hr
 split at hr
 rotate_left
 ·cases hr
 rename_i a b
 simp only [Option.some.injEq, Prod.mk.injEq] at hr
 obtain ⟨rfl, rfl, rfl⟩ := hr
 refine ⟨rfl, rfl, Nat.le_of_ble_eq_true rfl, ?_⟩
 have hm : maxLen = 9223372036854775807 := rfl
 rintro ⟨h1, h2⟩ bs
 obtain ⟨xs, rfl, hx⟩ := h1.ex
 obtain ⟨ys, rfl, hy⟩ := h2.ex
 clear h1 h2
 rw [unD_dL, unD_dL]
 (repeat' first | refine gA fun _ => ?_ | refine fkI ?_ ?_ <;> intro hb <;> try simp only [ew] at hb | simp only [go_sem, simprocAttr, *, cEqDepS, Tryz.results98])
 ·exact (not_lenD ‹_›).symm
 ·refine lpI { ι := Nat, rs := [(4, 5), (11, 26)], mods := [(5, fun i => .one (.d (.v (.int .i64 i))))], boxes := [], arrs := [], ok := fun i => i ≤ xs.length ∧ xs.take i = ys.take i, mu := fun i => xs.length - i } rfl 0 ⟨Nat.zero_le _, rfl⟩ ?_ fun i hi => ?_
  ·(repeat' first | refine gA fun _ => ?_ | refine fkI ?_ ?_ <;> intro hb <;> try simp only [ew] at hb | simp only [go_sem, simprocAttr, *, cEqDepS, Tryz.results98])
  ·dsimp only at i hi
   obtain ⟨hi, ht⟩ := hi
   have hlen : xs.length = ys.length := by omega
   (repeat' first | refine gA fun _ => ?_ | refine fkI ?_ ?_ <;> intro hb <;> try simp only [ew] at hb | simp only [go_sem, simprocAttr, *, cEqDepS, Tryz.results98])
   ·exact (beq_eq_false_iff_ne.2 (ne_of_getD ‹_›)).symm
   ·have hq := ‹xs.getD i (0, 0) = ys.getD i (0, 0)›
    refine lpN (i + 1) ⟨by omega, by rw [take_succ_getD (by omega) (0, 0), take_succ_getD (by omega) (0, 0), ht, hq]⟩ (by dsimp only; omega) ?_
    (repeat' first | refine gA fun _ => ?_ | refine fkI ?_ ?_ <;> intro hb <;> try simp only [ew] at hb | simp only [go_sem, simprocAttr, *, cEqDepS, Tryz.results98])
   ·have := eq_of_takes hlen (by omega) ht
    subst this; simp
theorem sameDepsI_ok : ContractOK E0 95 cEqDepS := by
 refine cWpc (E := E0) (T := mkT Tryz.prog [] false (fun _ => false) true (fun _ => false)) (mkT_ok (E := E0) .nil) (fn := Tryz.f95) Tryz.func95 (by kernel_rfl) rfl mixedT (by kernel_rfl) rfl ?_
 intro args p rs ms hr
 unfold cEqDepS at hr
 dsimp only at hr
 split at hr
 rotate_left
 ·cases hr
 rename_i a b
 simp only [Option.some.injEq, Prod.mk.injEq] at hr
 obtain ⟨rfl, rfl, rfl⟩ := hr
 refine ⟨rfl, rfl, Nat.le_of_ble_eq_true rfl, ?_⟩
 have hm : maxLen = 9223372036854775807 := rfl
 rintro ⟨h1, h2⟩ bs
 obtain ⟨xs, rfl, hx⟩ := h1.ex
 obtain ⟨ys, rfl, hy⟩ := h2.ex
 clear h1 h2
 rw [unD_dL, unD_dL]
 (repeat' first | refine gA fun _ => ?_ | refine fkI ?_ ?_ <;> intro hb <;> try simp only [ew] at hb | simp only [go_sem, simprocAttr, *, cEqDepS, Tryz.results95])
 ·exact (not_lenD ‹_›).symm
 ·refine lpI { ι := Nat, rs := [(4, 6), (14, 26)], mods := [(13, fun i => .one (.d (.v (.int .i64 i))))], boxes := [], arrs := [], ok := fun i => i ≤ xs.length ∧ xs.take i = ys.take i, mu := fun i => xs.length - i } rfl 0 ⟨Nat.zero_le _, rfl⟩ ?_ fun i hi => ?_
  ·(repeat' first | refine gA fun _ => ?_ | refine fkI ?_ ?_ <;> intro hb <;> try simp only [ew] at hb | simp only [go_sem, simprocAttr, *, cEqDepS, Tryz.results95])
  ·dsimp only at i hi
   obtain ⟨hi, ht⟩ := hi
   have hlen : xs.length = ys.length := by omega
   (repeat' first | refine gA fun _ => ?_ | refine fkI ?_ ?_ <;> intro hb <;> try simp only [ew] at hb | simp only [go_sem, simprocAttr, *, cEqDepS, Tryz.results95])
   ·exact (beq_eq_false_iff_ne.2 (ne_of_getD ‹_›)).symm
   ·have hq := ‹xs.getD i (0, 0) = ys.getD i (0, 0)›
    refine lpN (i + 1) ⟨by omega, by rw [take_succ_getD (by omega) (0, 0), take_succ_getD (by omega) (0, 0), ht, hq]⟩ (by dsimp only; omega) ?_
    (repeat' first | refine gA fun _ => ?_ | refine fkI ?_ ?_ <;> intro hb <;> try simp only [ew] at hb | simp only [go_sem, simprocAttr, *, cEqDepS, Tryz.results95])
   ·have := eq_of_takes hlen (by omega) ht
    subst this; simp
end Go.Own
namespace Go.Own
open Go Go.Proofs
attribute [local go_sem] unD_dL dL_length dL_get dL_set dL_inj wfD_dL scal2 beq2 pair_eta
end Go.Own
namespace Go.Own
open Go Go.Proofs
end Go.Own
namespace Go.Own
open Go Go.Proofs
end Go.Own
namespace Go.Own
open Go Go.Proofs
theorem bits64 : ((IntKind.bits .i64 : Nat) : Int) = 64 := rfl
theorem pow5 {n : Int} (h0 : 0 ≤ n) (h5 : n ≤ 5) : 1 ≤ (2 : Int) ^ n.toNat ∧ (2 : Int) ^ n.toNat ≤ 32 := by
 have : n = 0 ∨ n = 1 ∨ n = 2 ∨ n = 3 ∨ n = 4 ∨ n = 5 := by omega
 rcases this with rfl | rfl | rfl | rfl | rfl | rfl <;> decide
def all2 (n : Int) : Int := 1 * 2 ^ n.toNat - 1
def isAttr (n x : Int) : Bool := inB n 0 5 && inB x 0 (all2 n)
def hasB (x c : Int) : Bool := bitI .and .i64 (x.fdiv (2 ^ c.toNat)) 1 == 1
theorem inB_iff {x lo hi : Int} : inB x lo hi = true ↔ lo ≤ x ∧ x ≤ hi := by simp [inB]
theorem isAttr_le {n x : Int} (h : isAttr n x = true) : 0 ≤ n ∧ n ≤ 5 ∧ 0 ≤ x ∧ x ≤ 31 := by
 simp only [isAttr, Bool.and_eq_true, inB_iff, all2] at h
 have := pow5 h.1.1 h.1.2
 omega
def cAll2 : Contract := ⟨[], false, fun
 | [.one (.v (.int .i64 n))] => some (0 ≤ n ∧ n ≤ 5, [⟨false, [.d (.v (.int .i64 (all2 n)))]⟩], [])
 | _ => none⟩
theorem all2_ok : ContractOK E0 106 cAll2 := by
 refine cWpc (E := E0) (T := mkT Tryz.prog [] false (fun _ => false) true (fun _ => false)) (mkT_ok (E := E0) .nil) (fn := Tryz.f106) Tryz.func106 (by kernel_rfl) rfl mixedT (by kernel_rfl) rfl ?_
 intro args p rs ms hr
 unfold cAll2 at hr
 dsimp only at hr
 split at hr
 rotate_left
 ·cases hr
 rename_i n
 simp only [Option.some.injEq, Prod.mk.injEq] at hr
 obtain ⟨rfl, rfl, rfl⟩ := hr
 refine ⟨rfl, rfl, Nat.le_of_ble_eq_true rfl, ?_⟩
 have hm : maxLen = 9223372036854775807 := rfl
 rintro ⟨h0, h5⟩ bs
 have hp := pow5 h0 h5
 unfold all2
 (repeat' first | refine gA fun _ => ?_ | refine fkI ?_ ?_ <;> intro hb <;> try simp only [ew, bits64] at hb | simp only [go_sem, simprocAttr, *, cAll2, Tryz.results106, bits64])
def cIsAttr : Contract := ⟨[], false, fun
 | [.one (.v (.int .i64 n)), .one (.v (.int .i64 x))] => some (True, [⟨false, [.d (.v (.bool (isAttr n x)))]⟩], [])
 | _ => none⟩
theorem isAttrS_ok : ContractOK E0 88 cIsAttr := by
 refine cWpc (E := E0) (T := mkT Tryz.prog [(62, cL1In), (106, cAll2)] false (fun _ => false) true (fun _ => false)) (mkT_ok (E := E0) (.cons l1In_ok (.cons all2_ok .nil))) (fn := Tryz.f88) Tryz.func88 (by kernel_rfl) rfl mixedT (by kernel_rfl) rfl ?_
 intro args p rs ms hr
 unfold cIsAttr at hr
 dsimp only at hr
 split at hr
 rotate_left
 ·cases hr
 rename_i n x
 simp only [Option.some.injEq, Prod.mk.injEq] at hr
 obtain ⟨rfl, rfl, rfl⟩ := hr
 refine ⟨rfl, rfl, Nat.le_of_ble_eq_true rfl, ?_⟩
 have hm : maxLen = 9223372036854775807 := rfl
 intro _ bs
 unfold isAttr
 (repeat' (first | (refine gate_intro (by first | omega | (intro h; rw [inB_iff] at h; exact h) | ((repeat' (first | apply And.intro | assumption | omega | intro _)); done) | (simp only [maxLen]; omega) | simp_all | (simp_all [maxLen]; omega)) fun _ => ?_) | (refine fkI (fun hb => ?_) (fun hb => ?_) <;> (try simp only [ew] at hb)) | (simp only [go_sem, simprocAttr, *, cIsAttr, cL1In, cAll2, Tryz.results88])))
theorem isAttrI_ok : ContractOK E0 116 cIsAttr := by
 refine cWpc (E := E0) (T := mkT Tryz.prog [] false (fun _ => false) true (fun _ => false)) (mkT_ok (E := E0) .nil) (fn := Tryz.f116) Tryz.func116 (by kernel_rfl) rfl mixedT (by kernel_rfl) rfl ?_
 intro args p rs ms hr
 unfold cIsAttr at hr
 dsimp only at hr
 split at hr
 rotate_left
 ·cases hr
 rename_i n x
 simp only [Option.some.injEq, Prod.mk.injEq] at hr
 obtain ⟨rfl, rfl, rfl⟩ := hr
 refine ⟨rfl, rfl, Nat.le_of_ble_eq_true rfl, ?_⟩
 have hm : maxLen = 9223372036854775807 := rfl
 intro _ bs
 unfold isAttr
 (repeat' (first | (refine gate_intro (by first | omega | (intro h; simp only [Bool.and_eq_true, decide_eq_true_eq] at h; have := pow5 h.1.1 h.1.2; omega) | ((repeat' (first | apply And.intro | assumption | omega | intro _)); done) | (simp only [maxLen]; omega) | simp_all | (simp_all [maxLen]; omega)) fun _ => ?_) | (refine fkI (fun hb => ?_) (fun hb => ?_) <;> (try simp only [ew, bits64] at hb)) | (simp only [go_sem, simprocAttr, *, cIsAttr, Tryz.results116, bits64])))
 unfold inB all2
 rw [Bool.eq_iff_iff]
 simp only [Bool.and_eq_true, decide_eq_true_eq]
 constructor
 ·rintro ⟨⟨⟨h1, h2⟩, h3⟩, h4⟩; exact ⟨⟨h1, h2⟩, h3, by omega⟩
 ·rintro ⟨⟨h1, h2⟩, h3, h4⟩; exact ⟨⟨⟨h1, h2⟩, h3⟩, by omega⟩
def cValid : Contract := ⟨[], false, fun
 | [.one (.v (.int .i64 x))] => some (True, [⟨false, [.d (.v (.bool (isAttr 5 x)))]⟩], [])
 | _ => none⟩
theorem validS_ok : ContractOK E0 72 cValid := by
 refine cWpc (E := E0) (T := mkT Tryz.prog [(88, cIsAttr)] false (fun _ => false) true (fun _ => false)) (mkT_ok (E := E0) (.cons isAttrS_ok .nil)) (fn := Tryz.f72) Tryz.func72 (by kernel_rfl) rfl mixedT (by kernel_rfl) rfl ?_
 intro args p rs ms hr
 unfold cValid at hr
 dsimp only at hr
 split at hr
 rotate_left
 ·cases hr
 rename_i x
 simp only [Option.some.injEq, Prod.mk.injEq] at hr
 obtain ⟨rfl, rfl, rfl⟩ := hr
 refine ⟨rfl, rfl, Nat.le_of_ble_eq_true rfl, ?_⟩
 have hm : maxLen = 9223372036854775807 := rfl
 intro _ bs
 (repeat' first | refine gA fun _ => ?_ | refine fkI ?_ ?_ <;> intro hb <;> try simp only [ew] at hb | simp only [go_sem, simprocAttr, *, cValid, cIsAttr, Tryz.results72])
theorem validI_ok : ContractOK E0 70 cValid := by
 refine cWpc (E := E0) (T := mkT Tryz.prog [(116, cIsAttr)] false (fun _ => false) true (fun _ => false)) (mkT_ok (E := E0) (.cons isAttrI_ok .nil)) (fn := Tryz.f70) Tryz.func70 (by kernel_rfl) rfl mixedT (by kernel_rfl) rfl ?_
 intro args p rs ms hr
 unfold cValid at hr
 dsimp only at hr
 split at hr
 rotate_left
 ·cases hr
 rename_i x
 simp only [Option.some.injEq, Prod.mk.injEq] at hr
 obtain ⟨rfl, rfl, rfl⟩ := hr
 refine ⟨rfl, rfl, Nat.le_of_ble_eq_true rfl, ?_⟩
 have hm : maxLen = 9223372036854775807 := rfl
 intro _ bs
 (repeat' first | refine gA fun _ => ?_ | refine fkI ?_ ?_ <;> intro hb <;> try simp only [ew] at hb | simp only [go_sem, simprocAttr, *, cValid, cIsAttr, Tryz.results70])
def cHasB : Contract := ⟨[], false, fun
 | [.one (.v (.int .i64 x)), .one (.v (.int .i64 c))] => some (0 ≤ c ∧ c < 64, [⟨false, [.d (.v (.bool (hasB x c)))]⟩], [])
 | _ => none⟩
theorem hasB_ok : ContractOK E0 67 cHasB := by
 refine cWpc (E := E0) (T := mkT Tryz.prog [] false (fun _ => false) true (fun _ => false)) (mkT_ok (E := E0) .nil) (fn := Tryz.f67) Tryz.func67 (by kernel_rfl) rfl mixedT (by kernel_rfl) rfl ?_
 intro args p rs ms hr
 unfold cHasB at hr
 dsimp only at hr
 split at hr
 rotate_left
 ·cases hr
 rename_i x c
 simp only [Option.some.injEq, Prod.mk.injEq] at hr
 obtain ⟨rfl, rfl, rfl⟩ := hr
 refine ⟨rfl, rfl, Nat.le_of_ble_eq_true rfl, ?_⟩
 have hm : maxLen = 9223372036854775807 := rfl
 rintro ⟨h0, h5⟩ bs
 unfold hasB
 (repeat' first | refine gA fun _ => ?_ | refine fkI ?_ ?_ <;> intro hb <;> try simp only [ew, bits64] at hb | simp only [go_sem, simprocAttr, *, cHasB, Tryz.results67, bits64])
end Go.Own
