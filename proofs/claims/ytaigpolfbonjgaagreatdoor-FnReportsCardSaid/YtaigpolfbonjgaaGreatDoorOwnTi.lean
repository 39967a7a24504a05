/- Own contracts. Conditions: as each theorem states them. -/
import Derived.Test.YtaigpolfbonjgaaGreatDoorOwnH2
set_option linter.unusedSimpArgs false
set_option linter.unusedVariables false
set_option maxRecDepth 20000
set_option maxHeartbeats 2000000
namespace Go.Own
open Go Go.Proofs
theorem maxS_ok : ContractOK E0 111 cMaxS := by
 refine cWpc (E := E0) (T := mkT Tryz.prog [(146, cSets), (110, cPut)] false (fun _ => false) true (fun _ => false)) (mkT_ok (E := E0) (.cons setsS_ok (.cons put_ok .nil))) (fn := Tryz.f111) Tryz.func111 (by kernel_rfl) rfl mixedT (by kernel_rfl) rfl ?_
 intro args p rs ms hr
 unfold cMaxS at hr
 dsimp only at hr
 split at hr
 rotate_left
 ·cases hr
 rename_i l
 simp only [Option.some.injEq, Prod.mk.injEq] at hr
 obtain ⟨rfl, rfl, rfl⟩ := hr
 refine ⟨rfl, rfl, Nat.le_of_ble_eq_true rfl, ?_⟩
 have hm : maxLen = 9223372036854775807 := rfl
 intro h1 bs
 obtain ⟨xs, rfl, hx⟩ := h1.ex
 clear h1
 rw [unI_iL]
 cases hv : setsOK xs
 ·have e : selS maxT1 xs = [] := by unfold selS; rw [hv]; rfl
  rw [e]
  clear e
  (repeat' first | refine gA fun _ => ?_ | refine fkI ?_ ?_ <;> intro hb <;> try simp only [ew, hv] at hb | simp only [go_sem, simprocAttr, *, cMaxS, cSets, cPut, Tryz.results111, hv])
  refine lpI { ι := Unit, rs := [(5, 7), (8, 59)], mods := [(4, fun _ => .one (.d (.v (.int .i64 0)))), (3, fun _ => .one (.own 1 [] 1))], boxes := [], arrs := [], ok := fun _ => True, mu := fun _ => 0 } rfl () trivial ?_ fun _ _ => ?_
  ·(repeat' first | refine gA fun _ => ?_ | refine fkI ?_ ?_ <;> intro hb <;> try simp only [ew, hv] at hb | simp only [go_sem, simprocAttr, *, cMaxS, cSets, cPut, Tryz.results111, hv])
  ·(repeat' first | refine gA fun _ => ?_ | refine fkI ?_ ?_ <;> intro hb <;> try simp only [ew, hv] at hb | simp only [go_sem, simprocAttr, *, cMaxS, cSets, cPut, Tryz.results111, hv])
   all_goals first | rfl | skip
 ·have e : selS maxT1 xs = dstI (xs.filter fun x => xs.all (maxT1 x)) := by unfold selS; rw [hv]; rfl
  have hat := fun i => @sets_at xs hv i
  have h100 : xs.length ≤ 100 := by
   have := hv
   simp only [setsOK, Bool.and_eq_true, decide_eq_true_eq] at this
   omega
  rw [e]
  clear e
  (repeat' first | refine gA fun _ => ?_ | refine fkI ?_ ?_ <;> intro hb <;> try simp only [ew, hv] at hb | simp only [go_sem, simprocAttr, *, cMaxS, cSets, cPut, Tryz.results111, hv])
  refine lpI { ι := Nat, rs := [(5, 7), (8, 59)], mods := [(4, fun i => .one (.d (.v (.int .i64 i)))), (3, fun i => .one (.own 1 (iL (dstI ((xs.take i).filter fun x => xs.all (maxT1 x)))) 1))], boxes := [], arrs := [], ok := fun i => i ≤ xs.length, mu := fun i => xs.length - i } rfl 0 (Nat.zero_le _) ?_ fun i hi => ?_
  ·(repeat' first | refine gA fun _ => ?_ | refine fkI ?_ ?_ <;> intro hb <;> try simp only [ew, hv] at hb | simp only [go_sem, simprocAttr, *, cMaxS, cSets, cPut, Tryz.results111, hv])
   all_goals first | rfl | skip
  ·dsimp only at i hi
   have l1 := @dstI_length ((xs.take i).filter fun x => xs.all (maxT1 x))
   have l2 := List.length_filter_le (fun x => xs.all (maxT1 x)) (xs.take i)
   rw [List.length_take] at l2
   have l3 : (dstI ((xs.take i).filter fun x => xs.all (maxT1 x))).length ≤ 100 := by omega
   have l4 : (dstI ((xs.take i).filter fun x => xs.all (maxT1 x))).length ≤ maxLen := Nat.le_trans l3 (by decide)
   clear l1 l2
   by_cases h5 : i < xs.length
   ·obtain ⟨x0, x31⟩ := hat i h5
    have hft := filter_take h5 (fun x => xs.all (maxT1 x))
    have hsn := fun x => @dstI_snoc ((xs.take i).filter fun x => xs.all (maxT1 x)) x
    generalize hZ : dstI ((xs.take i).filter fun x => xs.all (maxT1 x)) = Z at l3 l4 hsn
    generalize hX : xs.getD i 0 = x at x0 x31 hft
    (repeat' first | refine gA fun _ => ?_ | refine fkI ?_ ?_ <;> intro hb <;> try simp only [ew, hv, hZ] at hb | simp only [go_sem, simprocAttr, *, cMaxS, cSets, cPut, Tryz.results111, hv, hZ])
    generalize hF : xs.all (maxT1 x) = F at hft
    refine lpI { ι := Nat, rs := [(18, 52)], mods := [(6, fun k => .one (.d (.v (.int .i64 k)))), (5, fun k => .one (.d (.v (.bool ((xs.take k).all (maxT1 x))))))], boxes := [], arrs := [(3, fun _ => (1, iL Z, 1))], ok := fun k => k ≤ xs.length, mu := fun k => xs.length - k } rfl 0 (Nat.zero_le _) ?_ fun k hk => ?_
    ·(repeat' first | refine gA fun _ => ?_ | refine fkI ?_ ?_ <;> intro hb <;> try simp only [ew, hZ] at hb | simp only [go_sem, simprocAttr, *, cMaxS, cSets, cPut, Tryz.results111, hZ])
     all_goals first | rfl | skip
    ·dsimp only at k hk
     by_cases h6 : k < xs.length
     ·obtain ⟨y0, y31⟩ := hat k h6
      have ea := and_ins3 (l := x) (x := xs.getD k 0) ⟨x0, x31⟩ ⟨y0, y31⟩
      have et := all_take h6 0 (maxT1 x)
      have em : maxT1 x (xs.getD k 0) = (xs.getD k 0 == x || !insB x (xs.getD k 0)) := by
       unfold maxT1; rw [Bool.beq_comm]
      rw [em] at et
      clear em
      (repeat' first | refine gA fun _ => ?_ | refine fkI ?_ ?_ <;> intro hb <;> try simp only [ew, hX, ea] at hb | simp only [go_sem, simprocAttr, *, cMaxS, cSets, cPut, Tryz.results111, hX, ea])
      refine lpN (k + 1) (by dsimp only; omega) (by dsimp only; omega) ?_
      (repeat' first | refine gA fun _ => ?_ | refine fkI ?_ ?_ <;> intro hb <;> try simp only [ew, et, hX, ea] at hb | simp only [go_sem, simprocAttr, *, cMaxS, cSets, cPut, Tryz.results111, et, hX, ea])
     ·have e6 : k = xs.length := by omega
      subst e6
      have et : (xs.take xs.length).all (maxT1 x) = F := by rw [List.take_length, hF]
      cases hq : F
      ·rw [hq] at et hft
       rw [if_neg (by decide), List.append_nil] at hft
       clear hsn
       (repeat' first | refine gA fun _ => ?_ | refine fkI ?_ ?_ <;> intro hb <;> try simp only [ew, et, hX] at hb | simp only [go_sem, simprocAttr, *, cMaxS, cSets, cPut, Tryz.results111, et, hX])
       refine lpN (i + 1) (by dsimp only; omega) (by dsimp only; omega) ?_
       (repeat' first | refine gA fun _ => ?_ | refine fkI ?_ ?_ <;> intro hb <;> try simp only [ew, hft, hZ] at hb | simp only [go_sem, simprocAttr, *, cMaxS, cSets, cPut, Tryz.results111, hft, hZ])
      ·rw [hq] at et hft
       rw [if_pos rfl] at hft
       have hs := hsn x
       clear hsn
       (repeat' first | refine gA fun _ => ?_ | refine fkI ?_ ?_ <;> intro hb <;> try simp only [ew, et, hX] at hb | simp only [go_sem, simprocAttr, *, cMaxS, cSets, cPut, Tryz.results111, et, hX])
       refine lpN (i + 1) (by dsimp only; omega) (by dsimp only; omega) ?_
       (repeat' first | refine gA fun _ => ?_ | refine fkI ?_ ?_ <;> intro hb <;> try simp only [ew, hft, hs, hZ] at hb | simp only [go_sem, simprocAttr, *, cMaxS, cSets, cPut, Tryz.results111, hft, hs, hZ])
   ·have e5 : i = xs.length := by omega
    subst e5
    have et : xs.take xs.length = xs := List.take_length
    (repeat' first | refine gA fun _ => ?_ | refine fkI ?_ ?_ <;> intro hb <;> try simp only [ew, et, hv] at hb | simp only [go_sem, simprocAttr, *, cMaxS, cSets, cPut, Tryz.results111, et, hv])
    all_goals first | rfl | skip
theorem minSI_ok : ContractOK E0 100 cMinS := by
 refine cWpc (E := E0) (T := mkT Tryz.prog [(138, cSets), (105, cDst), (68, cInside)] false (fun _ => false) true (fun _ => false)) (mkT_ok (E := E0) (.cons setsI_ok (.cons dst_ok (.cons inside_ok .nil)))) (fn := Tryz.f100) Tryz.func100 (by kernel_rfl) rfl mixedT (by kernel_rfl) rfl ?_
 intro args p rs ms hr
 unfold cMinS at hr
 dsimp only at hr
 split at hr
 rotate_left
 ·cases hr
 rename_i l
 simp only [Option.some.injEq, Prod.mk.injEq] at hr
 obtain ⟨rfl, rfl, rfl⟩ := hr
 refine ⟨rfl, rfl, Nat.le_of_ble_eq_true rfl, ?_⟩
 have hm : maxLen = 9223372036854775807 := rfl
 intro h1 bs
 obtain ⟨xs, rfl, hx⟩ := h1.ex
 clear h1
 rw [unI_iL]
 cases hv : setsOK xs
 ·have e : selS minT1 xs = [] := by unfold selS; rw [hv]; rfl
  rw [e]
  clear e
  (repeat' first | refine gA fun _ => ?_ | refine fkI ?_ ?_ <;> intro hb <;> try simp only [ew, hv] at hb | simp only [go_sem, simprocAttr, *, cMinS, cSets, cDst, cInside, Tryz.results100, hv])
  all_goals first | rfl | skip
 ·have e : selS minT1 xs = (dstI xs).filter fun x => xs.all (minT1 x) := by unfold selS; rw [hv, dst_filter]; rfl
  have h100 : xs.length ≤ 100 := by
   have := hv
   simp only [setsOK, Bool.and_eq_true, decide_eq_true_eq] at this
   omega
  have d100 : (dstI xs).length ≤ 100 := Nat.le_trans dstI_length h100
  have dmx : (dstI xs).length ≤ maxLen := Nat.le_trans d100 (by decide)
  rw [e]
  clear e
  (repeat' first | refine gA fun _ => ?_ | refine fkI ?_ ?_ <;> intro hb <;> try simp only [ew, hv] at hb | simp only [go_sem, simprocAttr, *, cMinS, cSets, cDst, cInside, Tryz.results100, hv])
  generalize hD : dstI xs = D at d100 dmx
  refine lpI { ι := Nat, rs := [(5, 7), (8, 9), (18, 46)], mods := [(17, fun i => .one (.d (.v (.int .i64 i)))), (3, fun i => .one (.own 1 (iL ((D.take i).filter fun x => xs.all (minT1 x))) 1))], boxes := [], arrs := [(15, fun _ => (1, iL D, 1))], ok := fun i => i ≤ D.length, mu := fun i => D.length - i } rfl 0 (Nat.zero_le _) ?_ fun i hi => ?_
  ·(repeat' first | refine gA fun _ => ?_ | refine fkI ?_ ?_ <;> intro hb <;> try simp only [ew, hD] at hb | simp only [go_sem, simprocAttr, *, cMinS, cSets, cDst, cInside, Tryz.results100, hD])
   all_goals first | rfl | skip
  ·dsimp only at i hi
   have l2 := List.length_filter_le (fun x => xs.all (minT1 x)) (D.take i)
   rw [List.length_take] at l2
   have l3 : ((D.take i).filter fun x => xs.all (minT1 x)).length ≤ 100 := by omega
   clear l2
   by_cases h5 : i < D.length
   ·have hft := filter_take h5 (fun x => xs.all (minT1 x))
    generalize hZ : (D.take i).filter (fun x => xs.all (minT1 x)) = Z at l3 hft
    generalize hX : D.getD i 0 = x at hft
    (repeat' first | refine gA fun _ => ?_ | refine fkI ?_ ?_ <;> intro hb <;> try simp only [ew, hZ, hX] at hb | simp only [go_sem, simprocAttr, *, cMinS, cSets, cDst, cInside, Tryz.results100, hZ, hX])
    generalize hF : xs.all (minT1 x) = F at hft
    refine lpI { ι := Nat, rs := [(8, 9), (24, 40)], mods := [(23, fun k => .one (.d (.v (.int .i64 k)))), (6, fun k => .one (.d (.v (.bool ((xs.take k).all (minT1 x))))))], boxes := [], arrs := [(3, fun _ => (1, iL Z, 1)), (15, fun _ => (1, iL D, 1))], ok := fun k => k ≤ xs.length, mu := fun k => xs.length - k } rfl 0 (Nat.zero_le _) ?_ fun k hk => ?_
    ·(repeat' first | refine gA fun _ => ?_ | refine fkI ?_ ?_ <;> intro hb <;> try simp only [ew, hZ] at hb | simp only [go_sem, simprocAttr, *, cMinS, cSets, cDst, cInside, Tryz.results100, hZ])
     all_goals first | rfl | skip
    ·dsimp only at k hk
     by_cases h6 : k < xs.length
     ·have et := all_take h6 0 (minT1 x)
      have em : minT1 x (xs.getD k 0) = (x == xs.getD k 0 || !(bitI .andNot .i64 (xs.getD k 0) x == 0)) := rfl
      rw [em] at et
      clear em
      (repeat' first | refine gA fun _ => ?_ | refine fkI ?_ ?_ <;> intro hb <;> try simp only [ew] at hb | simp only [go_sem, simprocAttr, *, cMinS, cSets, cDst, cInside, Tryz.results100])
      refine lpN (k + 1) (by dsimp only; omega) (by dsimp only; omega) ?_
      (repeat' first | refine gA fun _ => ?_ | refine fkI ?_ ?_ <;> intro hb <;> try simp only [ew, et] at hb | simp only [go_sem, simprocAttr, *, cMinS, cSets, cDst, cInside, Tryz.results100, et])
     ·have e6 : k = xs.length := by omega
      subst e6
      have et : (xs.take xs.length).all (minT1 x) = F := by rw [List.take_length, hF]
      cases hq : F
      ·rw [hq] at et hft
       rw [if_neg (by decide), List.append_nil] at hft
       (repeat' first | refine gA fun _ => ?_ | refine fkI ?_ ?_ <;> intro hb <;> try simp only [ew, et] at hb | simp only [go_sem, simprocAttr, *, cMinS, cSets, cDst, cInside, Tryz.results100, et])
       refine lpN (i + 1) (by dsimp only; omega) (by dsimp only; omega) ?_
       (repeat' first | refine gA fun _ => ?_ | refine fkI ?_ ?_ <;> intro hb <;> try simp only [ew, hft, hZ] at hb | simp only [go_sem, simprocAttr, *, cMinS, cSets, cDst, cInside, Tryz.results100, hft, hZ])
      ·rw [hq] at et hft
       rw [if_pos rfl] at hft
       (repeat' first | refine gA fun _ => ?_ | refine fkI ?_ ?_ <;> intro hb <;> try simp only [ew, et, iL_snoc] at hb | simp only [go_sem, simprocAttr, *, cMinS, cSets, cDst, cInside, Tryz.results100, et, iL_snoc])
       refine lpN (i + 1) (by dsimp only; omega) (by dsimp only; omega) ?_
       (repeat' first | refine gA fun _ => ?_ | refine fkI ?_ ?_ <;> intro hb <;> try simp only [ew, hft, hZ, iL_snoc] at hb | simp only [go_sem, simprocAttr, *, cMinS, cSets, cDst, cInside, Tryz.results100, hft, hZ, iL_snoc])
   ·have e5 : i = D.length := by omega
    subst e5
    have et : D.take D.length = D := List.take_length
    (repeat' first | refine gA fun _ => ?_ | refine fkI ?_ ?_ <;> intro hb <;> try simp only [ew, et] at hb | simp only [go_sem, simprocAttr, *, cMinS, cSets, cDst, cInside, Tryz.results100, et])
    all_goals first | (rw [hD]; done) | rfl | skip
theorem maxSI_ok : ContractOK E0 103 cMaxS := by
 refine cWpc (E := E0) (T := mkT Tryz.prog [(138, cSets), (105, cDst), (68, cInside)] false (fun _ => false) true (fun _ => false)) (mkT_ok (E := E0) (.cons setsI_ok (.cons dst_ok (.cons inside_ok .nil)))) (fn := Tryz.f103) Tryz.func103 (by kernel_rfl) rfl mixedT (by kernel_rfl) rfl ?_
 intro args p rs ms hr
 unfold cMaxS at hr
 dsimp only at hr
 split at hr
 rotate_left
 ·cases hr
 rename_i l
 simp only [Option.some.injEq, Prod.mk.injEq] at hr
 obtain ⟨rfl, rfl, rfl⟩ := hr
 refine ⟨rfl, rfl, Nat.le_of_ble_eq_true rfl, ?_⟩
 have hm : maxLen = 9223372036854775807 := rfl
 intro h1 bs
 obtain ⟨xs, rfl, hx⟩ := h1.ex
 clear h1
 rw [unI_iL]
 cases hv : setsOK xs
 ·have e : selS maxT1 xs = [] := by unfold selS; rw [hv]; rfl
  rw [e]
  clear e
  (repeat' first | refine gA fun _ => ?_ | refine fkI ?_ ?_ <;> intro hb <;> try simp only [ew, hv] at hb | simp only [go_sem, simprocAttr, *, cMaxS, cSets, cDst, cInside, Tryz.results103, hv])
  all_goals first | rfl | skip
 ·have e : selS maxT1 xs = (dstI xs).filter fun x => xs.all (maxT1 x) := by unfold selS; rw [hv, dst_filter]; rfl
  have h100 : xs.length ≤ 100 := by
   have := hv
   simp only [setsOK, Bool.and_eq_true, decide_eq_true_eq] at this
   omega
  have d100 : (dstI xs).length ≤ 100 := Nat.le_trans dstI_length h100
  have dmx : (dstI xs).length ≤ maxLen := Nat.le_trans d100 (by decide)
  rw [e]
  clear e
  (repeat' first | refine gA fun _ => ?_ | refine fkI ?_ ?_ <;> intro hb <;> try simp only [ew, hv] at hb | simp only [go_sem, simprocAttr, *, cMaxS, cSets, cDst, cInside, Tryz.results103, hv])
  generalize hD : dstI xs = D at d100 dmx
  refine lpI { ι := Nat, rs := [(5, 7), (8, 9), (18, 46)], mods := [(17, fun i => .one (.d (.v (.int .i64 i)))), (3, fun i => .one (.own 1 (iL ((D.take i).filter fun x => xs.all (maxT1 x))) 1))], boxes := [], arrs := [(15, fun _ => (1, iL D, 1))], ok := fun i => i ≤ D.length, mu := fun i => D.length - i } rfl 0 (Nat.zero_le _) ?_ fun i hi => ?_
  ·(repeat' first | refine gA fun _ => ?_ | refine fkI ?_ ?_ <;> intro hb <;> try simp only [ew, hD] at hb | simp only [go_sem, simprocAttr, *, cMaxS, cSets, cDst, cInside, Tryz.results103, hD])
   all_goals first | rfl | skip
  ·dsimp only at i hi
   have l2 := List.length_filter_le (fun x => xs.all (maxT1 x)) (D.take i)
   rw [List.length_take] at l2
   have l3 : ((D.take i).filter fun x => xs.all (maxT1 x)).length ≤ 100 := by omega
   clear l2
   by_cases h5 : i < D.length
   ·have hft := filter_take h5 (fun x => xs.all (maxT1 x))
    generalize hZ : (D.take i).filter (fun x => xs.all (maxT1 x)) = Z at l3 hft
    generalize hX : D.getD i 0 = x at hft
    (repeat' first | refine gA fun _ => ?_ | refine fkI ?_ ?_ <;> intro hb <;> try simp only [ew, hZ, hX] at hb | simp only [go_sem, simprocAttr, *, cMaxS, cSets, cDst, cInside, Tryz.results103, hZ, hX])
    generalize hF : xs.all (maxT1 x) = F at hft
    refine lpI { ι := Nat, rs := [(8, 9), (24, 40)], mods := [(23, fun k => .one (.d (.v (.int .i64 k)))), (6, fun k => .one (.d (.v (.bool ((xs.take k).all (maxT1 x))))))], boxes := [], arrs := [(3, fun _ => (1, iL Z, 1)), (15, fun _ => (1, iL D, 1))], ok := fun k => k ≤ xs.length, mu := fun k => xs.length - k } rfl 0 (Nat.zero_le _) ?_ fun k hk => ?_
    ·(repeat' first | refine gA fun _ => ?_ | refine fkI ?_ ?_ <;> intro hb <;> try simp only [ew, hZ] at hb | simp only [go_sem, simprocAttr, *, cMaxS, cSets, cDst, cInside, Tryz.results103, hZ])
     all_goals first | rfl | skip
    ·dsimp only at k hk
     by_cases h6 : k < xs.length
     ·have et := all_take h6 0 (maxT1 x)
      have em : maxT1 x (xs.getD k 0) = (x == xs.getD k 0 || !(bitI .andNot .i64 x (xs.getD k 0) == 0)) := rfl
      rw [em] at et
      clear em
      (repeat' first | refine gA fun _ => ?_ | refine fkI ?_ ?_ <;> intro hb <;> try simp only [ew] at hb | simp only [go_sem, simprocAttr, *, cMaxS, cSets, cDst, cInside, Tryz.results103])
      refine lpN (k + 1) (by dsimp only; omega) (by dsimp only; omega) ?_
      (repeat' first | refine gA fun _ => ?_ | refine fkI ?_ ?_ <;> intro hb <;> try simp only [ew, et] at hb | simp only [go_sem, simprocAttr, *, cMaxS, cSets, cDst, cInside, Tryz.results103, et])
     ·have e6 : k = xs.length := by omega
      subst e6
      have et : (xs.take xs.length).all (maxT1 x) = F := by rw [List.take_length, hF]
      cases hq : F
      ·rw [hq] at et hft
       rw [if_neg (by decide), List.append_nil] at hft
       (repeat' first | refine gA fun _ => ?_ | refine fkI ?_ ?_ <;> intro hb <;> try simp only [ew, et] at hb | simp only [go_sem, simprocAttr, *, cMaxS, cSets, cDst, cInside, Tryz.results103, et])
       refine lpN (i + 1) (by dsimp only; omega) (by dsimp only; omega) ?_
       (repeat' first | refine gA fun _ => ?_ | refine fkI ?_ ?_ <;> intro hb <;> try simp only [ew, hft, hZ] at hb | simp only [go_sem, simprocAttr, *, cMaxS, cSets, cDst, cInside, Tryz.results103, hft, hZ])
      ·rw [hq] at et hft
       rw [if_pos rfl] at hft
       (repeat' first | refine gA fun _ => ?_ | refine fkI ?_ ?_ <;> intro hb <;> try simp only [ew, et, iL_snoc] at hb | simp only [go_sem, simprocAttr, *, cMaxS, cSets, cDst, cInside, Tryz.results103, et, iL_snoc])
       refine lpN (i + 1) (by dsimp only; omega) (by dsimp only; omega) ?_
       (repeat' first | refine gA fun _ => ?_ | refine fkI ?_ ?_ <;> intro hb <;> try simp only [ew, hft, hZ, iL_snoc] at hb | simp only [go_sem, simprocAttr, *, cMaxS, cSets, cDst, cInside, Tryz.results103, hft, hZ, iL_snoc])
   ·have e5 : i = D.length := by omega
    subst e5
    have et : D.take D.length = D := List.take_length
    (repeat' first | refine gA fun _ => ?_ | refine fkI ?_ ?_ <;> intro hb <;> try simp only [ew, et] at hb | simp only [go_sem, simprocAttr, *, cMaxS, cSets, cDst, cInside, Tryz.results103, et])
    all_goals first | (rw [hD]; done) | rfl | skip
end Go.Own
namespace Go.Own
open Go Go.Proofs
attribute [local go_sem] unD_dL dL_length dL_get dL_set dL_inj wfD_dL scal2 beq2 pair_eta
theorem orr_key : ∀ x y : Fin 32, 0 ≤ bitI .or .i64 ((x.val : Nat) : Int) ((y.val : Nat) : Int) ∧ bitI .or .i64 ((x.val : Nat) : Int) ((y.val : Nat) : Int) ≤ 31 := by decide +kernel
theorem or_R {x y : Int} (hx : R5 x) (hy : R5 y) : R5 (bitI .or .i64 x y) := by
 obtain ⟨x, rfl⟩ := hx.fin; obtain ⟨y, rfl⟩ := hy.fin
 exact orr_key x y
theorem rng_filter_succ {p : Int → Bool} {x : Nat} : (rng (x + 1)).filter p = (rng x).filter p ++ (if p x then [(x : Int)] else []) := by
 rw [rng_succ, List.filter_append, List.filter_cons, List.filter_nil]
theorem rng_filter_len {p : Int → Bool} {x : Nat} : ((rng x).filter p).length ≤ x := by
 have := List.length_filter_le p (rng x)
 rw [rng_length] at this
 exact this
end Go.Own
