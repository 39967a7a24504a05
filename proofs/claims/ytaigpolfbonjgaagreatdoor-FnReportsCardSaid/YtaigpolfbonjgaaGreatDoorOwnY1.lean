/- Own contracts. Conditions: as each theorem states them. -/
import Derived.Test.YtaigpolfbonjgaaGreatDoorOwnE2
import Derived.Test.YtaigpolfbonjgaaGreatDoorOwnTb
set_option linter.unusedSimpArgs false
set_option linter.unusedVariables false
set_option maxRecDepth 20000
set_option maxHeartbeats 2000000
namespace Go.Own
open Go Go.Proofs
def cInside : Contract := ⟨[], false, fun
 | [.one (.v (.int .i64 x)), .one (.v (.int .i64 y))] => some (True, [⟨false, [.d (.v (.bool (bitI .andNot .i64 x y == 0)))]⟩], [])
 | _ => none⟩
theorem inside_ok : ContractOK E0 68 cInside := by
 refine cWpc (E := E0) (T := mkT Tryz.prog [] false (fun _ => false) true (fun _ => false)) (mkT_ok (E := E0) .nil) (fn := Tryz.f68) Tryz.func68 (by kernel_rfl) rfl mixedT (by kernel_rfl) rfl ?_
 intro args p rs ms hr
 unfold cInside at hr
 dsimp only at hr
 split at hr
 rotate_left
 ·cases hr
 rename_i x y
 simp only [Option.some.injEq, Prod.mk.injEq] at hr
 obtain ⟨rfl, rfl, rfl⟩ := hr
 refine ⟨rfl, rfl, Nat.le_of_ble_eq_true rfl, ?_⟩
 have hm : maxLen = 9223372036854775807 := rfl
 intro _ bs
 (repeat' first | refine gA fun _ => ?_ | refine fkI ?_ ?_ <;> intro hb <;> try simp only [ew] at hb | simp only [go_sem, simprocAttr, *, cInside, Tryz.results68])
theorem ask_facts {c : Int} {rs : List (List Int)} {m l r : Int} (h : askOK c rs m l r = true) : tabOK c rs = true ∧ (0 ≤ l ∧ l ≤ 31) ∧ 0 ≤ r ∧ r ≤ 4 := by
 simp only [askOK, depOK, Bool.and_eq_true, inB_iff] at h
 have := isAttr_le h.2.1.2
 have h2 := tab_c h.1.1
 exact ⟨h.1.1, ⟨this.2.2.1, this.2.2.2⟩, h.2.2.1, by omega⟩
def cPair : Contract := ⟨[], false, fun
 | [.agg [.v (.int .i64 c), .sl 1 t], .one (.v (.int .i64 m)), .agg [.v (.int .i64 l), .v (.int .i64 r)]] => some (WfS t ∧ askOK c (unS t) m l r = true,
   [⟨false, [.d (.v (.int .i64 (prI (wtO c (unS t) m l r)).1))]⟩, ⟨false, [.d (.v (.int .i64 (prI (wtO c (unS t) m l r)).2))]⟩], [])
 | _ => none⟩
theorem pair_ok : ContractOK E0 89 cPair := by
 refine cWpc (E := E0) (T := mkT Tryz.prog [(91, cL4A)] false (fun _ => false) true (fun _ => false)) (mkT_ok (E := E0) (.cons l4A_ok .nil)) (fn := Tryz.f89) Tryz.func89 (by kernel_rfl) rfl mixedT (by kernel_rfl) rfl ?_
 intro args p rs ms hr
 unfold cPair at hr
 dsimp only at hr
 split at hr
 rotate_left
 ·cases hr
 rename_i c t m l r
 simp only [Option.some.injEq, Prod.mk.injEq] at hr
 obtain ⟨rfl, rfl, rfl⟩ := hr
 refine ⟨rfl, rfl, Nat.le_of_ble_eq_true rfl, ?_⟩
 have hm : maxLen = 9223372036854775807 := rfl
 rintro ⟨h1, hask⟩ bs
 obtain ⟨rs, rfl, hx, hy⟩ := h1.ex
 clear h1
 rw [unS_sL] at hask ⊢
 obtain ⟨ht, ⟨l0, l1⟩, r0, r1⟩ := ask_facts hask
 obtain ⟨c, rfl, c1, c5, h40, hlen⟩ := tab_rows ht
 clear hask
 unfold wtO
 rw [Int.toNat_natCast]
 generalize hR : dpI rs c m l r 0 rs.length = R
 (repeat' first | refine gA fun _ => ?_ | refine fkI ?_ ?_ <;> intro hb <;> try simp only [ew] at hb | simp only [go_sem, simprocAttr, *, cPair, cL4A, Tryz.results89])
 refine lpI { ι := Nat, rs := [(6, 8), (9, 49)], mods := [(8, fun i => .one (.d (.v (.int .i64 i))))], boxes := [(3, fun _ => [.d (.v (.int .i64 c)), .d (.sl 1 (sL rs))]), (5, fun _ => [.d (.v (.int .i64 l)), .d (.v (.int .i64 r))])], arrs := [], ok := fun i => i ≤ rs.length ∧ dpI rs c m l r i (rs.length - i) = R, mu := fun i => rs.length - i } rfl 0 ⟨Nat.zero_le _, hR⟩ ?_ fun i hi => ?_
 ·(repeat' first | refine gA fun _ => ?_ | refine fkI ?_ ?_ <;> intro hb <;> try simp only [ew] at hb | simp only [go_sem, simprocAttr, *, cPair, cL4A, Tryz.results89])
 ·dsimp only at i hi
  obtain ⟨hi, hd⟩ := hi
  by_cases h5 : i < rs.length
  ·rw [show rs.length - i = (rs.length - (i + 1)) + 1 by omega, dpI] at hd
   generalize hK : dpK rs c m l r i (i + 1) (rs.length - (i + 1)) = K at hd
   (repeat' first | refine gA fun _ => ?_ | refine fkI ?_ ?_ <;> intro hb <;> try simp only [ew] at hb | simp only [go_sem, simprocAttr, *, cPair, cL4A, Tryz.results89])
   refine lpI { ι := Nat, rs := [(6, 8), (10, 11), (20, 49)], mods := [(9, fun k => .one (.d (.v (.int .i64 k))))], boxes := [(3, fun _ => [.d (.v (.int .i64 c)), .d (.sl 1 (sL rs))]), (5, fun _ => [.d (.v (.int .i64 l)), .d (.v (.int .i64 r))])], arrs := [], ok := fun k => i + 1 ≤ k ∧ k ≤ rs.length ∧ dpK rs c m l r i k (rs.length - k) = K, mu := fun k => rs.length - k } rfl (i + 1) ⟨Nat.le_refl _, h5, hK⟩ ?_ fun k hk => ?_
   ·(repeat' first | refine gA fun _ => ?_ | refine fkI ?_ ?_ <;> intro hb <;> try simp only [ew] at hb | simp only [go_sem, simprocAttr, *, cPair, cL4A, Tryz.results89])
   ·dsimp only at k hk
    obtain ⟨hk0, hk, hdk⟩ := hk
    by_cases h6 : k < rs.length
    ·rw [show rs.length - k = (rs.length - (k + 1)) + 1 by omega, dpK] at hdk
     cases hb : dpC rs c m l r i k
     ·rw [hb, if_neg (by decide)] at hdk
      simp only [dpC, badS] at hb
      (repeat' first | refine gA fun _ => ?_ | refine fkI ?_ ?_ <;> intro hb <;> try simp only [ew, bits64] at hb | simp only [go_sem, simprocAttr, *, cPair, cL4A, Tryz.results89, bits64])
      refine lpN (k + 1) ⟨by omega, by omega, hdk⟩ (by dsimp only; omega) ?_
      clear hdk hd
      (repeat' first | refine gA fun _ => ?_ | refine fkI ?_ ?_ <;> intro hb <;> try simp only [ew] at hb | simp only [go_sem, simprocAttr, *, cPair, cL4A, Tryz.results89])
     ·rw [hb, if_pos rfl] at hdk
      simp only [dpC, badS] at hb
      subst hdk
      subst hd
      (repeat' first | refine gA fun _ => ?_ | refine fkI ?_ ?_ <;> intro hb <;> try simp only [ew, bits64] at hb | simp only [go_sem, simprocAttr, *, cPair, cL4A, Tryz.results89, bits64])
      all_goals first | exact ⟨rfl, rfl⟩ | skip
    ·rw [show rs.length - k = 0 by omega, dpK] at hdk
     subst hdk
     (repeat' first | refine gA fun _ => ?_ | refine fkI ?_ ?_ <;> intro hb <;> try simp only [ew] at hb | simp only [go_sem, simprocAttr, *, cPair, cL4A, Tryz.results89])
     refine lpN (i + 1) ⟨by omega, hd⟩ (by dsimp only; omega) ?_
     clear hd
     (repeat' first | refine gA fun _ => ?_ | refine fkI ?_ ?_ <;> intro hb <;> try simp only [ew] at hb | simp only [go_sem, simprocAttr, *, cPair, cL4A, Tryz.results89])
  ·rw [show rs.length - i = 0 by omega, dpI] at hd
   subst hd
   (repeat' first | refine gA fun _ => ?_ | refine fkI ?_ ?_ <;> intro hb <;> try simp only [ew] at hb | simp only [go_sem, simprocAttr, *, cPair, cL4A, Tryz.results89])
   all_goals first | exact ⟨rfl, rfl⟩ | skip
def cHold : Contract := ⟨[], false, fun
 | [.agg [.v (.int .i64 c), .sl 1 t], .one (.v (.int .i64 m)), .agg [.v (.int .i64 l), .v (.int .i64 r)]] => some (WfS t ∧ -9223372036854775808 ≤ c ∧ c ≤ 9223372036854775807, [⟨false, [.d (.v (.bool (hdB c (unS t) m l r)))]⟩], [])
 | _ => none⟩
def cWit : Contract := ⟨[], false, fun
 | [.agg [.v (.int .i64 c), .sl 1 t], .one (.v (.int .i64 m)), .agg [.v (.int .i64 l), .v (.int .i64 r)]] => some (WfS t ∧ -9223372036854775808 ≤ c ∧ c ≤ 9223372036854775807,
   [⟨false, [.d (.v (.int .i64 (prI (wtR c (unS t) m l r)).1))]⟩, ⟨false, [.d (.v (.int .i64 (prI (wtR c (unS t) m l r)).2))]⟩, ⟨false, [.d (.v (.bool (wtR c (unS t) m l r).isSome))]⟩], [])
 | _ => none⟩
theorem witI_ok : ContractOK E0 40 cWit := by
 refine cWpc (E := E0) (T := mkT Tryz.prog [(39, cAsk), (82, cAgree), (68, cInside), (67, cHasB)] false (fun _ => false) true (fun _ => false)) (mkT_ok (E := E0) (.cons ask_ok (.cons agree_ok (.cons inside_ok (.cons hasB_ok .nil))))) (fn := Tryz.f40) Tryz.func40 (by kernel_rfl) rfl mixedT (by kernel_rfl) rfl ?_
 intro args p rs ms hr
 unfold cWit at hr
 dsimp only at hr
 split at hr
 rotate_left
 ·cases hr
 rename_i c t m l r
 simp only [Option.some.injEq, Prod.mk.injEq] at hr
 obtain ⟨rfl, rfl, rfl⟩ := hr
 refine ⟨rfl, rfl, Nat.le_of_ble_eq_true rfl, ?_⟩
 have hm : maxLen = 9223372036854775807 := rfl
 rintro ⟨h1, hc1, hc2⟩ bs
 obtain ⟨rs, rfl, hx, hy⟩ := h1.ex
 clear h1
 rw [unS_sL]
 cases hask : askOK c rs m l r
 ·have e : wtR c rs m l r = none := by unfold wtR; rw [hask]; rfl
  rw [e]
  clear e
  (repeat' first | refine gA fun _ => ?_ | refine fkI ?_ ?_ <;> intro hb <;> try simp only [ew] at hb | simp only [go_sem, simprocAttr, *, cWit, cAsk, cAgree, cInside, cHasB, Tryz.results40])
  all_goals first | exact ⟨rfl, rfl, rfl⟩ | exact ⟨rfl, rfl⟩ | skip
 ·have e : wtR c rs m l r = wtO c rs m l r := by unfold wtR; rw [hask]; rfl
  rw [e]
  clear e
  obtain ⟨ht, ⟨l0, l1⟩, r0, r1⟩ := ask_facts hask
  obtain ⟨c, rfl, c1, c5, h40, hlen⟩ := tab_rows ht
  unfold wtO
  rw [Int.toNat_natCast]
  generalize hR : dpI rs c m l r 0 rs.length = R
  (repeat' first | refine gA fun _ => ?_ | refine fkI ?_ ?_ <;> intro hb <;> try simp only [ew] at hb | simp only [go_sem, simprocAttr, *, cWit, cAsk, cAgree, cInside, cHasB, Tryz.results40])
  clear hask
  refine lpI { ι := Nat, rs := [(6, 13), (22, 57)], mods := [(21, fun i => .one (.d (.v (.int .i64 i))))], boxes := [(3, fun _ => [.d (.v (.int .i64 c)), .d (.sl 1 (sL rs))]), (5, fun _ => [.d (.v (.int .i64 l)), .d (.v (.int .i64 r))])], arrs := [], ok := fun i => i ≤ rs.length ∧ dpI rs c m l r i (rs.length - i) = R, mu := fun i => rs.length - i } rfl 0 ⟨Nat.zero_le _, hR⟩ ?_ fun i hi => ?_
  ·(repeat' first | refine gA fun _ => ?_ | refine fkI ?_ ?_ <;> intro hb <;> try simp only [ew] at hb | simp only [go_sem, simprocAttr, *, cWit, cAsk, cAgree, cInside, cHasB, Tryz.results40])
  ·dsimp only at i hi
   obtain ⟨hi, hd⟩ := hi
   by_cases h5 : i < rs.length
   ·rw [show rs.length - i = (rs.length - (i + 1)) + 1 by omega, dpI] at hd
    generalize hK : dpK rs c m l r i (i + 1) (rs.length - (i + 1)) = K at hd
    have li := hlen i h5
    have lm := all_getD hy i
    (repeat' first | refine gA fun _ => ?_ | refine fkI ?_ ?_ <;> intro hb <;> try simp only [ew] at hb | simp only [go_sem, simprocAttr, *, cWit, cAsk, cAgree, cInside, cHasB, Tryz.results40])
    refine lpI { ι := Nat, rs := [(6, 9), (12, 13), (28, 56)], mods := [(11, fun k => .one (.d (.v (.int .i64 k))))], boxes := [(3, fun _ => [.d (.v (.int .i64 c)), .d (.sl 1 (sL rs))]), (5, fun _ => [.d (.v (.int .i64 l)), .d (.v (.int .i64 r))])], arrs := [], ok := fun k => i + 1 ≤ k ∧ k ≤ rs.length ∧ dpK rs c m l r i k (rs.length - k) = K, mu := fun k => rs.length - k } rfl (i + 1) ⟨Nat.le_refl _, h5, hK⟩ ?_ fun k hk => ?_
    ·(repeat' first | refine gA fun _ => ?_ | refine fkI ?_ ?_ <;> intro hb <;> try simp only [ew] at hb | simp only [go_sem, simprocAttr, *, cWit, cAsk, cAgree, cInside, cHasB, Tryz.results40])
    ·dsimp only at k hk
     obtain ⟨hk0, hk, hdk⟩ := hk
     by_cases h6 : k < rs.length
     ·rw [show rs.length - k = (rs.length - (k + 1)) + 1 by omega, dpK] at hdk
      have lk := hlen k h6
      have lm2 := all_getD hy k
      have hag := @agL_range m (rs.getD i []) (rs.getD k []) c c5
      cases hb : dpC rs c m l r i k
      ·rw [hb, if_neg (by decide)] at hdk
       simp only [dpC] at hb
       rw [← bad_eq hag ⟨l0, l1⟩ ⟨r0, r1⟩, badI] at hb
       clear hag
       (repeat' first | refine gA fun _ => ?_ | refine fkI ?_ ?_ <;> intro hb <;> try simp only [ew, bits64] at hb | simp only [go_sem, simprocAttr, *, cWit, cAsk, cAgree, cInside, cHasB, Tryz.results40, bits64])
       refine lpN (k + 1) ⟨by omega, by omega, hdk⟩ (by dsimp only; omega) ?_
       clear hdk hd hb lm2 lk li lm
       (repeat' first | refine gA fun _ => ?_ | refine fkI ?_ ?_ <;> intro hb <;> try simp only [ew] at hb | simp only [go_sem, simprocAttr, *, cWit, cAsk, cAgree, cInside, cHasB, Tryz.results40])
      ·rw [hb, if_pos rfl] at hdk
       simp only [dpC] at hb
       rw [← bad_eq hag ⟨l0, l1⟩ ⟨r0, r1⟩, badI] at hb
       clear hag
       subst hdk
       subst hd
       (repeat' first | refine gA fun _ => ?_ | refine fkI ?_ ?_ <;> intro hb <;> try simp only [ew, bits64] at hb | simp only [go_sem, simprocAttr, *, cWit, cAsk, cAgree, cInside, cHasB, Tryz.results40, bits64])
       all_goals first | exact ⟨rfl, rfl, rfl⟩ | exact ⟨rfl, rfl⟩ | skip
     ·rw [show rs.length - k = 0 by omega, dpK] at hdk
      subst hdk
      (repeat' first | refine gA fun _ => ?_ | refine fkI ?_ ?_ <;> intro hb <;> try simp only [ew] at hb | simp only [go_sem, simprocAttr, *, cWit, cAsk, cAgree, cInside, cHasB, Tryz.results40])
      refine lpN (i + 1) ⟨by omega, hd⟩ (by dsimp only; omega) ?_
      clear hd li lm
      (repeat' first | refine gA fun _ => ?_ | refine fkI ?_ ?_ <;> intro hb <;> try simp only [ew] at hb | simp only [go_sem, simprocAttr, *, cWit, cAsk, cAgree, cInside, cHasB, Tryz.results40])
   ·rw [show rs.length - i = 0 by omega, dpI] at hd
    subst hd
    (repeat' first | refine gA fun _ => ?_ | refine fkI ?_ ?_ <;> intro hb <;> try simp only [ew] at hb | simp only [go_sem, simprocAttr, *, cWit, cAsk, cAgree, cInside, cHasB, Tryz.results40])
    all_goals first | exact ⟨rfl, rfl, rfl⟩ | exact ⟨rfl, rfl⟩ | skip
theorem holdI_ok : ContractOK E0 133 cHold := by
 refine cWpc (E := E0) (T := mkT Tryz.prog [(40, cWit), (39, cAsk)] false (fun _ => false) true (fun _ => false)) (mkT_ok (E := E0) (.cons witI_ok (.cons ask_ok .nil))) (fn := Tryz.f133) Tryz.func133 (by kernel_rfl) rfl mixedT (by kernel_rfl) rfl ?_
 intro args p rs ms hr
 unfold cHold at hr
 dsimp only at hr
 split at hr
 rotate_left
 ·cases hr
 rename_i c t m l r
 simp only [Option.some.injEq, Prod.mk.injEq] at hr
 obtain ⟨rfl, rfl, rfl⟩ := hr
 refine ⟨rfl, rfl, Nat.le_of_ble_eq_true rfl, ?_⟩
 have hm : maxLen = 9223372036854775807 := rfl
 rintro ⟨h1, hc1, hc2⟩ bs
 obtain ⟨rs, rfl, hx, hy⟩ := h1.ex
 clear h1
 rw [unS_sL]
 have e : hdB c rs m l r = (askOK c rs m l r && !(wtR c rs m l r).isSome) := by
  unfold hdB wtR
  cases askOK c rs m l r
  ·rfl
  ·simp only [if_true, Bool.true_and]; cases wtO c rs m l r <;> rfl
 rw [e]
 clear e
 (repeat' first | refine gA fun _ => ?_ | refine fkI ?_ ?_ <;> intro hb <;> try simp only [ew] at hb | simp only [go_sem, simprocAttr, *, cHold, cWit, cAsk, Tryz.results133])
end Go.Own
namespace Go.Own
open Go Go.Proofs
attribute [local go_sem] unD_dL dL_length dL_get dL_set dL_inj wfD_dL scal2 beq2 pair_eta
def depsOK (n : Int) (ds : List (Int × Int)) : Bool := ds.all (fun d => depOK n d.1 d.2) && (inB n 1 5 && decide ((ds.length : Int) ≤ 20))
def cAreDeps : Contract := ⟨[], false, fun
 | [.one (.v (.int .i64 n)), .one (.sl 2 l)] => some (WfD l ∧ -9223372036854775808 ≤ n ∧ n ≤ 9223372036854775807, [⟨false, [.d (.v (.bool (depsOK n (unD l))))]⟩], [])
 | _ => none⟩
theorem areDepsI_ok : ContractOK E0 52 cAreDeps := by
 refine cWpc (E := E0) (T := mkT Tryz.prog [(81, cDep)] false (fun _ => false) true (fun _ => false)) (mkT_ok (E := E0) (.cons depI_ok .nil)) (fn := Tryz.f52) Tryz.func52 (by kernel_rfl) rfl mixedT (by kernel_rfl) rfl ?_
 intro args p rs ms hr
 unfold cAreDeps at hr
 dsimp only at hr
 split at hr
 rotate_left
 ·cases hr
 rename_i n l
 simp only [Option.some.injEq, Prod.mk.injEq] at hr
 obtain ⟨rfl, rfl, rfl⟩ := hr
 refine ⟨rfl, rfl, Nat.le_of_ble_eq_true rfl, ?_⟩
 have hm : maxLen = 9223372036854775807 := rfl
 rintro ⟨h1, hn1, hn2⟩ bs
 obtain ⟨ds, rfl, hx⟩ := h1.ex
 clear h1
 rw [unD_dL]
 (repeat' first | refine gA fun _ => ?_ | refine fkI ?_ ?_ <;> intro hb <;> try simp only [ew] at hb | simp only [go_sem, simprocAttr, *, cAreDeps, cDep, Tryz.results52])
 refine lpI { ι := Nat, rs := [(4, 5), (6, 7), (10, 18)], mods := [(9, fun i => .one (.d (.v (.int .i64 i))))], boxes := [], arrs := [], ok := fun i => i ≤ ds.length ∧ (ds.drop i).all (fun d => depOK n d.1 d.2) = ds.all (fun d => depOK n d.1 d.2), mu := fun i => ds.length - i } rfl 0 ⟨Nat.zero_le _, rfl⟩ ?_ fun i hi => ?_
 ·(repeat' first | refine gA fun _ => ?_ | refine fkI ?_ ?_ <;> intro hb <;> try simp only [ew] at hb | simp only [go_sem, simprocAttr, *, cAreDeps, cDep, Tryz.results52])
 ·dsimp only at i hi
  obtain ⟨hi, ht⟩ := hi
  by_cases h5 : i < ds.length
  ·rw [all_drop h5 (0, 0) _] at ht
   cases hq : depOK n (ds.getD i (0, 0)).1 (ds.getD i (0, 0)).2
   ·have e : depsOK n ds = false := by unfold depsOK; rw [← ht, hq]; rfl
    rw [e]
    clear e ht
    (repeat' first | refine gA fun _ => ?_ | refine fkI ?_ ?_ <;> intro hb <;> try simp only [ew, hq] at hb | simp only [go_sem, simprocAttr, *, cAreDeps, cDep, Tryz.results52, hq])
   ·rw [hq, Bool.true_and] at ht
    (repeat' first | refine gA fun _ => ?_ | refine fkI ?_ ?_ <;> intro hb <;> try simp only [ew, hq] at hb | simp only [go_sem, simprocAttr, *, cAreDeps, cDep, Tryz.results52, hq])
    refine lpN (i + 1) ⟨by omega, ht⟩ (by dsimp only; omega) ?_
    clear ht
    (repeat' first | refine gA fun _ => ?_ | refine fkI ?_ ?_ <;> intro hb <;> try simp only [ew] at hb | simp only [go_sem, simprocAttr, *, cAreDeps, cDep, Tryz.results52])
  ·have e5 : i = ds.length := by omega
   subst e5
   rw [List.drop_length, List.all_nil] at ht
   have e : depsOK n ds = (decide (n ≥ 1) && decide (n ≤ 5) && decide ((ds.length : Int) ≤ 20)) := by unfold depsOK; rw [← ht]; rfl
   rw [e]
   clear e ht
   (repeat' first | refine gA fun _ => ?_ | refine fkI ?_ ?_ <;> intro hb <;> try simp only [ew] at hb | simp only [go_sem, simprocAttr, *, cAreDeps, cDep, Tryz.results52])
theorem areDepsS_ok : ContractOK E0 56 cAreDeps := by
 refine cWpc (E := E0) (T := mkT Tryz.prog [(44, cDep), (62, cL1In)] false (fun _ => false) true (fun _ => false)) (mkT_ok (E := E0) (.cons depS_ok (.cons l1In_ok .nil))) (fn := Tryz.f56) Tryz.func56 (by kernel_rfl) rfl mixedT (by kernel_rfl) rfl ?_
 intro args p rs ms hr
 unfold cAreDeps at hr
 dsimp only at hr
 split at hr
 rotate_left
 ·cases hr
 rename_i n l
 simp only [Option.some.injEq, Prod.mk.injEq] at hr
 obtain ⟨rfl, rfl, rfl⟩ := hr
 refine ⟨rfl, rfl, Nat.le_of_ble_eq_true rfl, ?_⟩
 have hm : maxLen = 9223372036854775807 := rfl
 rintro ⟨h1, hn1, hn2⟩ bs
 obtain ⟨ds, rfl, hx⟩ := h1.ex
 clear h1
 rw [unD_dL]
 (repeat' first | refine gA fun _ => ?_ | refine fkI ?_ ?_ <;> intro hb <;> try simp only [ew] at hb | simp only [go_sem, simprocAttr, *, cAreDeps, cDep, cL1In, Tryz.results56])
 refine lpI { ι := Nat, rs := [(4, 5), (6, 19)], mods := [(5, fun i => .one (.d (.v (.int .i64 i))))], boxes := [], arrs := [], ok := fun i => i ≤ ds.length ∧ (ds.drop i).all (fun d => depOK n d.1 d.2) = ds.all (fun d => depOK n d.1 d.2), mu := fun i => ds.length - i } rfl 0 ⟨Nat.zero_le _, rfl⟩ ?_ fun i hi => ?_
 ·(repeat' first | refine gA fun _ => ?_ | refine fkI ?_ ?_ <;> intro hb <;> try simp only [ew] at hb | simp only [go_sem, simprocAttr, *, cAreDeps, cDep, cL1In, Tryz.results56])
 ·dsimp only at i hi
  obtain ⟨hi, ht⟩ := hi
  by_cases h5 : i < ds.length
  ·rw [all_drop h5 (0, 0) _] at ht
   cases hq : depOK n (ds.getD i (0, 0)).1 (ds.getD i (0, 0)).2
   ·have e : depsOK n ds = false := by unfold depsOK; rw [← ht, hq]; rfl
    rw [e]
    clear e ht
    (repeat' first | refine gA fun _ => ?_ | refine fkI ?_ ?_ <;> intro hb <;> try simp only [ew, hq] at hb | simp only [go_sem, simprocAttr, *, cAreDeps, cDep, cL1In, Tryz.results56, hq])
   ·rw [hq, Bool.true_and] at ht
    (repeat' first | refine gA fun _ => ?_ | refine fkI ?_ ?_ <;> intro hb <;> try simp only [ew, hq] at hb | simp only [go_sem, simprocAttr, *, cAreDeps, cDep, cL1In, Tryz.results56, hq])
    refine lpN (i + 1) ⟨by omega, ht⟩ (by dsimp only; omega) ?_
    clear ht
    (repeat' first | refine gA fun _ => ?_ | refine fkI ?_ ?_ <;> intro hb <;> try simp only [ew] at hb | simp only [go_sem, simprocAttr, *, cAreDeps, cDep, cL1In, Tryz.results56])
  ·have e5 : i = ds.length := by omega
   subst e5
   rw [List.drop_length, List.all_nil] at ht
   have e : depsOK n ds = (inB n 1 5 && decide ((ds.length : Int) ≤ 20)) := by unfold depsOK; rw [← ht]; rfl
   rw [e]
   clear e ht
   (repeat' first | refine gA fun _ => ?_ | refine fkI ?_ ?_ <;> intro hb <;> try simp only [ew] at hb | simp only [go_sem, simprocAttr, *, cAreDeps, cDep, cL1In, Tryz.results56])
def cCopyR : Contract := ⟨[], false, fun
 | [.one (.sl 1 t)] => some (WfS t ∧ t.length ≤ 16777216 ∧ ∀ r ∈ unS t, r.length ≤ 16777216, [⟨false, [.own 1 t 1]⟩], [])
 | _ => none⟩
theorem copyR_ok : ContractOK E0 153 cCopyR := by
 refine cWpc (E := E0) (T := mkT Tryz.prog [(143, cCopyI)] false (fun _ => false) true (fun _ => false)) (mkT_ok (E := E0) (.cons copyI_ok .nil)) (fn := Tryz.f153) Tryz.func153 (by kernel_rfl) rfl mixedT (by kernel_rfl) rfl ?_
 intro args p rs ms hr
 unfold cCopyR at hr
 dsimp only at hr
 split at hr
 rotate_left
 ·cases hr
 rename_i t
 simp only [Option.some.injEq, Prod.mk.injEq] at hr
 obtain ⟨rfl, rfl, rfl⟩ := hr
 refine ⟨rfl, rfl, Nat.le_of_ble_eq_true rfl, ?_⟩
 have hm : maxLen = 9223372036854775807 := rfl
 rintro ⟨h1, h2, h2'⟩ bs
 obtain ⟨rs, rfl, hx, hy⟩ := h1.ex
 clear h1
 rw [unS_sL] at h2'
 rw [sL_length] at h2
 (repeat' first | refine gA fun _ => ?_ | refine fkI ?_ ?_ <;> intro hb <;> try simp only [ew] at hb | simp only [go_sem, simprocAttr, *, cCopyR, cCopyI, Tryz.results153])
 refine lpI { ι := Nat, rs := [(5, 6), (10, 19)], mods := [(9, fun i => .one (.d (.v (.int .i64 i)))), (3, fun i => .one (.own 1 (sL (rs.take i)) 1))], boxes := [], arrs := [], ok := fun i => i ≤ rs.length, mu := fun i => rs.length - i } rfl 0 (Nat.zero_le _) ?_ fun i hi => ?_
 ·(repeat' first | refine gA fun _ => ?_ | refine fkI ?_ ?_ <;> intro hb <;> try simp only [ew] at hb | simp only [go_sem, simprocAttr, *, cCopyR, cCopyI, Tryz.results153])
  all_goals first | rfl | skip
 ·dsimp only at i hi
  have q1 := all_getD hy i
  have q2 := all_getD h2' i
  by_cases h5 : i < rs.length
  ·have e := take_succ_getD h5 []
   (repeat' first | refine gA fun _ => ?_ | refine fkI ?_ ?_ <;> intro hb <;> try simp only [ew, sL_snoc] at hb | simp only [go_sem, simprocAttr, *, cCopyR, cCopyI, Tryz.results153, sL_snoc])
   refine lpN (i + 1) (by dsimp only; omega) (by dsimp only; omega) ?_
   (repeat' first | refine gA fun _ => ?_ | refine fkI ?_ ?_ <;> intro hb <;> try simp only [ew, sL_snoc, e] at hb | simp only [go_sem, simprocAttr, *, cCopyR, cCopyI, Tryz.results153, sL_snoc, e])
  ·have e5 : i = rs.length := by omega
   subst e5
   (repeat' first | refine gA fun _ => ?_ | refine fkI ?_ ?_ <;> intro hb <;> try simp only [ew] at hb | simp only [go_sem, simprocAttr, *, cCopyR, cCopyI, Tryz.results153])
   all_goals first | (rw [List.take_length]; done) | skip
theorem getD_mem {α : Type} {l : List α} {i : Nat} (h : i < l.length) (d : α) : l.getD i d ∈ l := by simp [List.getD_eq_getElem?_getD, h]
end Go.Own
