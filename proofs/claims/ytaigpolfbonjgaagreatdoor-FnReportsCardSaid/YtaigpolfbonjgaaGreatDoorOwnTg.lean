/- Own contracts. Conditions: as each theorem states them. -/
import Derived.Test.YtaigpolfbonjgaaGreatDoorOwnK1
import Derived.Test.YtaigpolfbonjgaaGreatDoorOwnTa
set_option linter.unusedSimpArgs false
set_option linter.unusedVariables false
set_option maxRecDepth 20000
set_option maxHeartbeats 4000000
namespace Go.Own
open Go Go.Proofs
attribute [local go_sem] cuO rI rB cuP unB_bL bL_length wfB_bL
def cellM (wide : Int) : Dr Int := fun bs s => (if (onceM 12 bs (belowM wide bs s).2).1 then -1 else (belowM wide bs s).1, (onceM 12 bs (belowM wide bs s).2).2)
def rowM (wide : Int) : Nat → Dr (List Int)
 | 0 => fun _ s => ([], s)
 | n + 1 => fun bs s => ((rowM wide n bs s).1 ++ [(cellM wide bs (rowM wide n bs s).2).1], (cellM wide bs (rowM wide n bs s).2).2)
theorem rowM_len {wide : Int} {bs : List Int} {s : Cu} : ∀ {n : Nat}, (rowM wide n bs s).1.length = n
 | 0 => rfl
 | n + 1 => by simp [rowM, @rowM_len wide bs s n]
theorem cellM_range {wide : Int} {bs : List Int} {s : Cu} (h : 0 < wide) : -1 ≤ (cellM wide bs s).1 ∧ (cellM wide bs s).1 < wide := by
 have := @belowM_range wide bs s h
 unfold cellM
 dsimp only
 split <;> omega
theorem rowM_range {wide : Int} {bs : List Int} {s : Cu} (h : 0 < wide) : ∀ {n : Nat}, ∀ v ∈ (rowM wide n bs s).1, -1 ≤ v ∧ v < wide
 | 0, v, hv => nomatch hv
 | n + 1, v, hv => by
  rw [rowM] at hv
  rcases List.mem_append.1 hv with hv | hv
  ·exact rowM_range h v hv
  ·rw [List.mem_singleton] at hv; rw [hv]; exact cellM_range h
def cRow : Contract := ⟨[true], false, fun
 | [.box [.sl 1 l, .v (.int .i64 i), .v (.int .i64 h)], .one (.v (.int .i64 n)), .one (.v (.int .i64 w))] => some (WfB l ∧ 0 ≤ i ∧ n ≤ 1000, [⟨false, [.own 1 (iL (rowM w n.toNat (unB l) (i.toNat, h)).1) 1]⟩], cuO l (rowM w n.toNat (unB l) (i.toNat, h)).2)
 | _ => none⟩
theorem row_ok : ContractOK E0 117 cRow := by
 refine contract_of_wpcB (E := E0) (T := mkT Tryz.prog [(60, cBelow), (25, cOnce)] false (fun _ => false) false (fun _ => false)) (mkT_ok (E := E0) (.cons below_ok (.cons once_ok .nil))) rfl (fn := Tryz.f117) Tryz.func117 (by kernel_rfl) rfl mixedT (by kernel_rfl) rfl rfl (Nat.le_of_ble_eq_true rfl) ?_
 intro args p rs ms hr
 unfold cRow at hr
 dsimp only at hr
 split at hr
 rotate_left
 ·cases hr
 rename_i l i h n w
 simp only [Option.some.injEq, Prod.mk.injEq] at hr
 obtain ⟨rfl, rfl, rfl⟩ := hr
 refine ⟨_, _, _, rfl, rfl, rfl, rfl, Nat.le_of_ble_eq_true rfl, ?_⟩
 have hm : maxLen = 9223372036854775807 := rfl
 rintro ⟨h1, h2, h3⟩ bs0
 obtain ⟨bs, rfl, hx⟩ := h1.ex
 clear h1
 rw [unB_bL]
 obtain ⟨i, rfl⟩ := Int.eq_ofNat_of_zero_le h2
 rw [Int.toNat_natCast]
 have e0 : iL [] = [] := rfl
 have hl := fun k => @rowM_len w bs (i, h) k
 (repeat' first | refine gA fun _ => ?_ | refine fkI ?_ ?_ <;> intro hb <;> try simp only [ew, e0] at hb | simp only [go_sem, simprocAttr, *, cRow, cBelow, cOnce, Tryz.results117, e0])
 refine lpI { ι := Nat, rs := [(9, 10), (11, 25)], mods := [(8, fun k => .one (.d (.v (.int .i64 k)))), (7, fun k => .one (.own 1 (iL (rowM w k bs (i, h)).1) 1))], boxes := [(0, fun k => cuP bs (rowM w k bs (i, h)).2)], arrs := [], ok := fun k => k ≤ n.toNat, mu := fun k => n.toNat - k } rfl 0 (Nat.zero_le _) ?_ fun k hk => ?_
 ·have e1 : rowM w 0 bs (i, h) = ([], (i, h)) := rfl
  clear hl
  (repeat' first | refine gA fun _ => ?_ | refine fkI ?_ ?_ <;> intro hb <;> try simp only [ew, e0, e1] at hb | simp only [go_sem, simprocAttr, *, cRow, cBelow, cOnce, Tryz.results117, e0, e1])
  all_goals first | rfl | skip
 ·dsimp only at k hk
  have hk1 := hl k
  clear hl
  have eS : rowM w (k + 1) bs (i, h) = ((rowM w k bs (i, h)).1 ++ [(cellM w bs (rowM w k bs (i, h)).2).1], (cellM w bs (rowM w k bs (i, h)).2).2) := rfl
  have eC : cellM w bs (rowM w k bs (i, h)).2 = (if (onceM 12 bs (belowM w bs (rowM w k bs (i, h)).2).2).1 then -1 else (belowM w bs (rowM w k bs (i, h)).2).1, (onceM 12 bs (belowM w bs (rowM w k bs (i, h)).2).2).2) := rfl
  by_cases h5 : ((k : Nat) : Int) < n
  ·generalize hR : rowM w k bs (i, h) = R at hk1 eS eC
   generalize hB : belowM w bs R.2 = B at eC
   generalize hO : onceM 12 bs B.2 = O at eC
   have hm1 : R.1.length ≤ maxLen := by rw [hk1]; exact Nat.le_trans (show k ≤ 1000 by omega) (by decide)
   cases ho : O.1
   ·rw [ho, if_neg (by decide)] at eC
    rw [eC] at eS
    clear eC
    (repeat' first | refine gA fun _ => ?_ | refine fkI ?_ ?_ <;> intro hb <;> try simp only [ew, hR, hB, hO, ho, iL_sn] at hb | simp only [go_sem, simprocAttr, *, cRow, cBelow, cOnce, Tryz.results117, hR, hB, hO, ho, iL_sn])
    refine lpN (k + 1) (by dsimp only; omega) (by dsimp only; omega) ?_
    (repeat' first | refine gA fun _ => ?_ | refine fkI ?_ ?_ <;> intro hb <;> try simp only [ew, eS, iL_sn] at hb | simp only [go_sem, simprocAttr, *, cRow, cBelow, cOnce, Tryz.results117, eS, iL_sn])
    all_goals first | rfl | skip
   ·rw [ho, if_pos rfl] at eC
    rw [eC] at eS
    clear eC
    (repeat' first | refine gA fun _ => ?_ | refine fkI ?_ ?_ <;> intro hb <;> try simp only [ew, hR, hB, hO, ho, iL_sn] at hb | simp only [go_sem, simprocAttr, *, cRow, cBelow, cOnce, Tryz.results117, hR, hB, hO, ho, iL_sn])
    refine lpN (k + 1) (by dsimp only; omega) (by dsimp only; omega) ?_
    (repeat' first | refine gA fun _ => ?_ | refine fkI ?_ ?_ <;> intro hb <;> try simp only [ew, eS, iL_sn] at hb | simp only [go_sem, simprocAttr, *, cRow, cBelow, cOnce, Tryz.results117, eS, iL_sn])
    all_goals first | rfl | skip
  ·have e5 : n.toNat = k := by omega
   rw [e5]
   clear eS eC
   generalize hR : rowM w k bs (i, h) = R at hk1
   (repeat' first | refine gA fun _ => ?_ | refine fkI ?_ ?_ <;> intro hb <;> try simp only [ew, hR] at hb | simp only [go_sem, simprocAttr, *, cRow, cBelow, cOnce, Tryz.results117, hR])
   all_goals first | rfl | skip
def tblS (c w : Int) (rows : List (List Int)) : Dr (List (List Int)) := fun bs s =>
 if (onceM 3 bs (rowM w c.toNat bs s).2).1 then
  (rows ++ [(rowM w c.toNat bs s).1] ++ [(rowM w c.toNat bs s).1.set (belowM c bs (onceM 3 bs (rowM w c.toNat bs s).2).2).1.toNat (belowM w bs (belowM c bs (onceM 3 bs (rowM w c.toNat bs s).2).2).2).1], (belowM w bs (belowM c bs (onceM 3 bs (rowM w c.toNat bs s).2).2).2).2)
 else (rows ++ [(rowM w c.toNat bs s).1], (onceM 3 bs (rowM w c.toNat bs s).2).2)
def tblN (c w : Int) : Nat → Dr (List (List Int))
 | 0 => fun _ s => ([], s)
 | k + 1 => fun bs s => tblS c w (tblN c w k bs s).1 bs (tblN c w k bs s).2
def tblM : Dr (Int × List (List Int)) := fun bs s =>
 let a := belowM 3 bs s
 let b := belowM 3 bs a.2
 let n := belowM 7 bs b.2
 let t := tblN (2 + a.1) (2 + b.1) n.1.toNat bs n.2
 ((2 + a.1, t.1), t.2)
theorem tblN_facts {c w : Int} {bs : List Int} {s : Cu} (hw : 0 < w) : ∀ {k : Nat}, (tblN c w k bs s).1.length ≤ 2 * k ∧ ∀ r ∈ (tblN c w k bs s).1, r.length = c.toNat ∧ ∀ v ∈ r, -1 ≤ v ∧ v < w
 | 0 => by simp [tblN]
 | k + 1 => by
  obtain ⟨h1, h2⟩ := @tblN_facts c w bs s hw k
  rw [tblN]
  unfold tblS
  have hr := @rowM_len w bs (tblN c w k bs s).2 c.toNat
  have hv := @rowM_range w bs (tblN c w k bs s).2 hw c.toNat
  dsimp only
  split
  ·refine ⟨by simp; omega, fun r hm => ?_⟩
   simp only [List.mem_append, List.mem_singleton] at hm
   rcases hm with (hm | hm) | hm
   ·exact h2 r hm
   ·rw [hm]; exact ⟨hr, hv⟩
   ·rw [hm]
    refine ⟨by rw [List.length_set]; exact hr, fun v hm2 => ?_⟩
    rcases List.mem_or_eq_of_mem_set hm2 with h | h
    ·exact hv v h
    ·rw [h]
     have := @belowM_range w bs (belowM c bs (onceM 3 bs (rowM w c.toNat bs (tblN c w k bs s).2).2).2).2 hw
     omega
  ·refine ⟨by simp; omega, fun r hm => ?_⟩
   simp only [List.mem_append, List.mem_singleton] at hm
   rcases hm with hm | hm
   ·exact h2 r hm
   ·rw [hm]; exact ⟨hr, hv⟩
theorem tblM_facts {bs : List Int} {s : Cu} : (2 ≤ (tblM bs s).1.1 ∧ (tblM bs s).1.1 ≤ 4) ∧ (tblM bs s).1.2.length ≤ 12 ∧ ∀ r ∈ (tblM bs s).1.2, r.length = (tblM bs s).1.1.toNat ∧ ∀ v ∈ r, -1 ≤ v ∧ v ≤ 3 := by
 unfold tblM
 dsimp only
 have h1 := @belowM_range 3 bs s (by decide)
 have h2 := @belowM_range 3 bs (belowM 3 bs s).2 (by decide)
 have h3 := @belowM_range 7 bs (belowM 3 bs (belowM 3 bs s).2).2 (by decide)
 obtain ⟨h4, h5⟩ := @tblN_facts (2 + (belowM 3 bs s).1) (2 + (belowM 3 bs (belowM 3 bs s).2).1) bs (belowM 7 bs (belowM 3 bs (belowM 3 bs s).2).2).2 (by omega) (belowM 7 bs (belowM 3 bs (belowM 3 bs s).2).2).1.toNat
 refine ⟨by omega, by omega, fun r hr => ⟨(h5 r hr).1, fun v hv => ?_⟩⟩
 have := (h5 r hr).2 v hv
 omega
theorem sL_sn {rs : List (List Int)} {r : List Int} : sL rs ++ [[D.sl 1 (iL r)]] = sL (rs ++ [r]) := by simp [sL]
theorem sL_last {rs : List (List Int)} {r : List Int} {d : List D} : (sL (rs ++ [r])).getD rs.length d = [D.sl 1 (iL r)] := by simp [sL, List.getD_eq_getElem?_getD]
theorem iL_asc {xs : List Int} : ∀ e ∈ iL xs, ∀ x ∈ e, Scalar x := by
 intro e he x hx
 obtain ⟨n, _, rfl⟩ := List.mem_map.1 he
 rw [List.mem_singleton] at hx
 rw [hx]; trivial
theorem iL_asc2 {xs : List Int} : (∀ e ∈ iL xs, ∀ x ∈ e, Scalar x) ↔ True := ⟨fun _ => trivial, fun _ => iL_asc⟩
def cTbl : Contract := ⟨[true], false, fun
 | [.box [.sl 1 l, .v (.int .i64 i), .v (.int .i64 h)]] => some (WfB l ∧ 0 ≤ i, [⟨true, [.d (.v (.int .i64 (tblM (unB l) (i.toNat, h)).1.1)), .own 1 (sL (tblM (unB l) (i.toNat, h)).1.2) 1]⟩], cuO l (tblM (unB l) (i.toNat, h)).2)
 | _ => none⟩
theorem tbl_ok : ContractOK E0 73 cTbl := by
 refine contract_of_wpcB (E := E0) (T := mkT Tryz.prog [(60, cBelow), (117, cRow), (25, cOnce)] false (fun d => d == 30) false (fun _ => false)) (mkT_ok (E := E0) (.cons below_ok (.cons row_ok (.cons once_ok .nil)))) rfl (fn := Tryz.f73) Tryz.func73 (by kernel_rfl) rfl mixedT (by kernel_rfl) rfl rfl (Nat.le_of_ble_eq_true rfl) ?_
 intro args p rs ms hr
 unfold cTbl at hr
 dsimp only at hr
 split at hr
 rotate_left
 ·cases hr
 rename_i l i h
 simp only [Option.some.injEq, Prod.mk.injEq] at hr
 obtain ⟨rfl, rfl, rfl⟩ := hr
 refine ⟨_, _, _, rfl, rfl, rfl, rfl, Nat.le_of_ble_eq_true rfl, ?_⟩
 have hm : maxLen = 9223372036854775807 := rfl
 rintro ⟨h1, h2⟩ bs0
 obtain ⟨bs, rfl, hx⟩ := h1.ex
 clear h1
 rw [unB_bL]
 obtain ⟨i, rfl⟩ := Int.eq_ofNat_of_zero_le h2
 rw [Int.toNat_natCast]
 have e : tblM bs (i, h) = ((2 + (belowM 3 bs (i, h)).1, (tblN (2 + (belowM 3 bs (i, h)).1) (2 + (belowM 3 bs (belowM 3 bs (i, h)).2).1) (belowM 7 bs (belowM 3 bs (belowM 3 bs (i, h)).2).2).1.toNat bs (belowM 7 bs (belowM 3 bs (belowM 3 bs (i, h)).2).2).2).1), (tblN (2 + (belowM 3 bs (i, h)).1) (2 + (belowM 3 bs (belowM 3 bs (i, h)).2).1) (belowM 7 bs (belowM 3 bs (belowM 3 bs (i, h)).2).2).1.toNat bs (belowM 7 bs (belowM 3 bs (belowM 3 bs (i, h)).2).2).2).2) := rfl
 rw [e]
 clear e
 have r1 := @belowM_range 3 bs (i, h) (by decide)
 generalize hA : belowM 3 bs (i, h) = A at r1 ⊢
 have r2 := @belowM_range 3 bs A.2 (by decide)
 generalize hB : belowM 3 bs A.2 = B at r2 ⊢
 have r3 := @belowM_range 7 bs B.2 (by decide)
 generalize hC : belowM 7 bs B.2 = C at r3 ⊢
 obtain ⟨N, hN⟩ := Int.eq_ofNat_of_zero_le r3.1
 have hN2 : C.1.toNat = N := by omega
 have hN6 : N ≤ 6 := by omega
 rw [hN2]
 have hF := fun k => @tblN_facts (2 + A.1) (2 + B.1) bs C.2 (by omega) k
 (repeat' first | refine gA fun _ => ?_ | refine fkI ?_ ?_ <;> intro hb <;> try simp only [ew, hA, hB, hC] at hb | simp only [go_sem, simprocAttr, *, cTbl, cBelow, cRow, cOnce, Tryz.results73, hA, hB, hC])
 refine lpI { ι := Nat, rs := [(6, 8), (17, 52)], mods := [(5, fun k => .one (.d (.v (.int .i64 ((N : Int) - k)))))], boxes := [(0, fun k => cuP bs (tblN (2 + A.1) (2 + B.1) k bs C.2).2), (2, fun _ => [.d (.v (.int .i64 0)), .d (.v (.slice none 0 0))]), (3, fun k => [.d (.v (.int .i64 (2 + A.1))), .own 1 (sL (tblN (2 + A.1) (2 + B.1) k bs C.2).1) 1])], arrs := [], ok := fun k => k ≤ N, mu := fun k => N - k } rfl 0 (Nat.zero_le _) ?_ fun k hk => ?_
 ·have e1 : tblN (2 + A.1) (2 + B.1) 0 bs C.2 = ([], C.2) := rfl
  have e0 : sL [] = [] := rfl
  clear hF
  (repeat' first | refine gA fun _ => ?_ | refine fkI ?_ ?_ <;> intro hb <;> try simp only [ew, e1, e0] at hb | simp only [go_sem, simprocAttr, *, cTbl, cBelow, cRow, cOnce, Tryz.results73, e1, e0])
  all_goals first | rfl | (simp; omega) | skip
 ·dsimp only at k hk
  obtain ⟨f1, f2⟩ := hF k
  clear hF
  by_cases h5 : k < N
  ·have eS : tblN (2 + A.1) (2 + B.1) (k + 1) bs C.2 = tblS (2 + A.1) (2 + B.1) (tblN (2 + A.1) (2 + B.1) k bs C.2).1 bs (tblN (2 + A.1) (2 + B.1) k bs C.2).2 := rfl
   unfold tblS at eS
   generalize hP : tblN (2 + A.1) (2 + B.1) k bs C.2 = P at f1 f2 eS
   have q1 := @rowM_len (2 + B.1) bs P.2 (2 + A.1).toNat
   generalize hR : rowM (2 + B.1) (2 + A.1).toNat bs P.2 = R at q1 eS
   generalize hO : onceM 3 bs R.2 = O at eS
   have q2 := @belowM_range (2 + A.1) bs O.2 (by omega)
   generalize hJ : belowM (2 + A.1) bs O.2 = J at q2 eS
   generalize hV : belowM (2 + B.1) bs J.2 = V at eS
   have m1 : P.1.length ≤ maxLen := Nat.le_trans (show P.1.length ≤ 20 by omega) (by decide)
   have m2 : R.1.length ≤ maxLen := Nat.le_trans (show R.1.length ≤ 20 by omega) (by decide)
   have hpos : ((N : Int) - k) > 0 := by omega
   clear f2
   cases ho : O.1
   ·rw [ho, if_neg (by decide)] at eS
    (repeat' first | refine gA fun _ => ?_ | refine fkI ?_ ?_ <;> intro hb <;> try simp only [ew, hP, hR, hO, ho, sL_sn, iL_asc2] at hb | simp only [go_sem, simprocAttr, *, cTbl, cBelow, cRow, cOnce, Tryz.results73, hP, hR, hO, ho, sL_sn, iL_asc2])
    refine lpN (k + 1) (by dsimp only; omega) (by dsimp only; omega) ?_
    (repeat' first | refine gA fun _ => ?_ | refine fkI ?_ ?_ <;> intro hb <;> try simp only [ew, eS, sL_sn, iL_asc2] at hb | simp only [go_sem, simprocAttr, *, cTbl, cBelow, cRow, cOnce, Tryz.results73, eS, sL_sn, iL_asc2])
    all_goals first | rfl | omega | skip
   ·rw [ho, if_pos rfl] at eS
    (repeat' first | refine gA fun _ => ?_ | refine fkI ?_ ?_ <;> intro hb <;> try simp only [ew, hP, hR, hO, hJ, hV, ho, sL_sn, iL_asc2, sL_last] at hb | simp only [go_sem, simprocAttr, *, cTbl, cBelow, cRow, cOnce, Tryz.results73, hP, hR, hO, hJ, hV, ho, sL_sn, iL_asc2, sL_last])
    refine lpN (k + 1) (by dsimp only; omega) (by dsimp only; omega) ?_
    (repeat' first | refine gA fun _ => ?_ | refine fkI ?_ ?_ <;> intro hb <;> try simp only [ew, eS, sL_sn, iL_asc2] at hb | simp only [go_sem, simprocAttr, *, cTbl, cBelow, cRow, cOnce, Tryz.results73, eS, sL_sn, iL_asc2])
    all_goals first | rfl | omega | skip
  ·have e5 : k = N := by omega
   subst e5
   generalize hP : tblN (2 + A.1) (2 + B.1) k bs C.2 = P at f1 f2
   have z0 : ((k : Nat) : Int) - ((k : Nat) : Int) = 0 := by omega
   clear f2
   (repeat' first | refine gA fun _ => ?_ | refine fkI ?_ ?_ <;> intro hb <;> try simp only [ew, hP, z0] at hb | simp only [go_sem, simprocAttr, *, cTbl, cBelow, cRow, cOnce, Tryz.results73, hP, z0])
   all_goals first | rfl | skip
end Go.Own
/-
  The draws of tables and of pairs of columns. Conditions: as each theorem states them.
-/
namespace Go.Own
open Go Go.Proofs
attribute [local go_sem] cuO rI rB cuP unB_bL bL_length wfB_bL
def anyM : Dr (Int × List (List Int)) := fun bs s =>
 let t := tblM bs s
 let x := belowM 12 bs t.2
 if x.1 = 0 then (((pickM [0, 1, 5, 6] bs x.2).1, t.1.2), (pickM [0, 1, 5, 6] bs x.2).2)
 else if x.1 = 1 then ((t.1.1, t.1.2 ++ [[1, (pickM [-2, -1, 40, 41] bs x.2).1]]), (pickM [-2, -1, 40, 41] bs x.2).2)
 else (t.1, x.2)
theorem anyM_facts {bs : List Int} {s : Cu} : (0 ≤ (anyM bs s).1.1 ∧ (anyM bs s).1.1 ≤ 6) ∧ (anyM bs s).1.2.length ≤ 13 ∧ ∀ r ∈ (anyM bs s).1.2, r.length ≤ 4 ∧ ∀ v ∈ r, -2 ≤ v ∧ v ≤ 41 := by
 obtain ⟨h1, h2, h3⟩ := @tblM_facts bs s
 have h3' : ∀ r ∈ (tblM bs s).1.2, r.length ≤ 4 ∧ ∀ v ∈ r, -2 ≤ v ∧ v ≤ 41 := fun r hr => by
  obtain ⟨q1, q2⟩ := h3 r hr
  refine ⟨by omega, fun v hv => ?_⟩
  have := q2 v hv; omega
 unfold anyM
 dsimp only
 split
 ·have := @pickM_mem [0, 1, 5, 6] bs (belowM 12 bs (tblM bs s).2).2 (by simp)
  simp only [List.mem_cons, List.not_mem_nil, or_false] at this
  dsimp only
  exact ⟨by omega, by omega, h3'⟩
 ·split
  ·have := @pickM_mem [-2, -1, 40, 41] bs (belowM 12 bs (tblM bs s).2).2 (by simp)
   simp only [List.mem_cons, List.not_mem_nil, or_false] at this
   dsimp only
   refine ⟨by omega, by simp; omega, fun r hr => ?_⟩
   rw [List.mem_append, List.mem_singleton] at hr
   rcases hr with hr | rfl
   ·exact h3' r hr
   ·refine ⟨by simp, fun v hv => ?_⟩
    simp only [List.mem_cons, List.not_mem_nil, or_false] at hv
    omega
  ·dsimp only
   exact ⟨by omega, by omega, h3'⟩
def cAny : Contract := ⟨[true], false, fun
 | [.box [.sl 1 l, .v (.int .i64 i), .v (.int .i64 h)]] => some (WfB l ∧ 0 ≤ i, [⟨true, [.d (.v (.int .i64 (anyM (unB l) (i.toNat, h)).1.1)), .own 1 (sL (anyM (unB l) (i.toNat, h)).1.2) 1]⟩], cuO l (anyM (unB l) (i.toNat, h)).2)
 | _ => none⟩
theorem any_ok : ContractOK E0 114 cAny := by
 refine contract_of_wpcB (E := E0) (T := mkT Tryz.prog [(73, cTbl), (60, cBelow), (64, cPickI)] false (fun d => d == 11 || d == 19) false (fun d => d == 17 || d == 16 || d == 1000 || d == 1004)) (mkT_ok (E := E0) (.cons tbl_ok (.cons below_ok (.cons pickI_ok .nil)))) rfl (fn := Tryz.f114) Tryz.func114 (by kernel_rfl) rfl mixedT (by kernel_rfl) rfl rfl (Nat.le_of_ble_eq_true rfl) ?_
 intro args p rs ms hr
 unfold cAny at hr
 dsimp only at hr
 split at hr
 rotate_left
 ·cases hr
 rename_i l i h
 simp only [Option.some.injEq, Prod.mk.injEq] at hr
 obtain ⟨rfl, rfl, rfl⟩ := hr
 refine ⟨_, _, _, rfl, rfl, rfl, rfl, Nat.le_of_ble_eq_true rfl, ?_⟩
 have hm : maxLen = 9223372036854775807 := rfl
 rintro ⟨h1, h2⟩ bs0
 obtain ⟨bs, rfl, hx⟩ := h1.ex
 clear h1
 rw [unB_bL]
 obtain ⟨i, rfl⟩ := Int.eq_ofNat_of_zero_le h2
 rw [Int.toNat_natCast]
 have e : anyM bs (i, h) = if (belowM 12 bs (tblM bs (i, h)).2).1 = 0 then (((pickM [0, 1, 5, 6] bs (belowM 12 bs (tblM bs (i, h)).2).2).1, (tblM bs (i, h)).1.2), (pickM [0, 1, 5, 6] bs (belowM 12 bs (tblM bs (i, h)).2).2).2)
  else if (belowM 12 bs (tblM bs (i, h)).2).1 = 1 then (((tblM bs (i, h)).1.1, (tblM bs (i, h)).1.2 ++ [[1, (pickM [-2, -1, 40, 41] bs (belowM 12 bs (tblM bs (i, h)).2).2).1]]), (pickM [-2, -1, 40, 41] bs (belowM 12 bs (tblM bs (i, h)).2).2).2)
  else ((tblM bs (i, h)).1, (belowM 12 bs (tblM bs (i, h)).2).2) := rfl
 rw [e]
 clear e
 obtain ⟨t1, t2, t3⟩ := @tblM_facts bs (i, h)
 generalize hT : tblM bs (i, h) = T at t1 t2 t3 ⊢
 have r1 := @belowM_range 12 bs T.2 (by decide)
 generalize hX : belowM 12 bs T.2 = X at r1 ⊢
 have m1 : T.1.2.length ≤ maxLen := Nat.le_trans t2 (by decide)
 have m2 : ∀ r ∈ T.1.2, r.length ≤ maxLen := fun r hr => by have := (t3 r hr).1; omega
 clear t3
 have eA : [[D.v (.int .i64 0)], [D.v (.int .i64 1)], [D.v (.int .i64 5)], [D.v (.int .i64 6)]] = iL [0, 1, 5, 6] := rfl
 have eB : [[D.v (.int .i64 (-2))], [D.v (.int .i64 (-1))], [D.v (.int .i64 40)], [D.v (.int .i64 41)]] = iL [-2, -1, 40, 41] := rfl
 have nA : ¬ iL [0, 1, 5, 6] = [] := by simp [iL]
 have nB : ¬ iL [-2, -1, 40, 41] = [] := by simp [iL]
 by_cases h0 : X.1 = 0
 ·rw [if_pos h0]
  generalize hP : pickM [0, 1, 5, 6] bs X.2 = P
  (repeat' first | refine gA fun _ => ?_ | refine fkI ?_ ?_ <;> intro hb <;> try simp only [ew, hT, hX, h0, eA, hP] at hb | simp only [go_sem, simprocAttr, *, cAny, cTbl, cBelow, cPickI, Tryz.results114, hT, hX, h0, eA, hP])
  all_goals first | rfl | skip
 ·rw [if_neg h0]
  by_cases h1 : X.1 = 1
  ·rw [if_pos h1]
   generalize hP : pickM [-2, -1, 40, 41] bs X.2 = P
   have q0 : (X.1 == 0) = false := by rw [h1]; rfl
   have q1 : (X.1 == 1) = true := by rw [h1]; rfl
   clear h0 h1
   have eC : [[D.v (.int .i64 1)], [D.v (.int .i64 P.1)]] = iL [1, P.1] := rfl
   (repeat' first | refine gA fun _ => ?_ | refine fkI ?_ ?_ <;> intro hb <;> try simp only [ew, hT, hX, q0, q1, eB, hP, eC, sL_sn, iL_asc2] at hb | simp only [go_sem, simprocAttr, *, cAny, cTbl, cBelow, cPickI, Tryz.results114, hT, hX, q0, q1, eB, hP, eC, sL_sn, iL_asc2])
   all_goals first | rfl | skip
  ·rw [if_neg h1]
   have q0 : (X.1 == 0) = false := beq_eq_false_iff_ne.2 h0
   have q1 : (X.1 == 1) = false := beq_eq_false_iff_ne.2 h1
   (repeat' first | refine gA fun _ => ?_ | refine fkI ?_ ?_ <;> intro hb <;> try simp only [ew, hT, hX, q0, q1] at hb | simp only [go_sem, simprocAttr, *, cAny, cTbl, cBelow, cPickI, Tryz.results114, hT, hX, q0, q1])
   all_goals first | rfl | skip
end Go.Own
/-
  The draws of dependencies, and of tables with a mode. Conditions: as each theorem states them.
-/
namespace Go.Own
open Go Go.Proofs
theorem tf1b : (true == false) = false := rfl
theorem ft1b : (false == true) = false := rfl
attribute [local go_sem] tf1b ft1b cuO rI rB cuP unB_bL bL_length wfB_bL
def depM (n : Int) : Dr (Int × Int) := fun bs s => (((belowM (1 * 2 ^ n.toNat) bs s).1, (belowM n bs (belowM (1 * 2 ^ n.toNat) bs s).2).1), (belowM n bs (belowM (1 * 2 ^ n.toNat) bs s).2).2)
def cDep6 : Contract := ⟨[true], false, fun
 | [.box [.sl 1 l, .v (.int .i64 i), .v (.int .i64 h)], .one (.v (.int .i64 n))] => some (WfB l ∧ 0 ≤ i ∧ 1 ≤ n ∧ n ≤ 5, [⟨true, [.d (.v (.int .i64 (depM n (unB l) (i.toNat, h)).1.1)), .d (.v (.int .i64 (depM n (unB l) (i.toNat, h)).1.2))]⟩], cuO l (depM n (unB l) (i.toNat, h)).2)
 | _ => none⟩
theorem dep6_ok : ContractOK E0 61 cDep6 := by
 refine contract_of_wpcB (E := E0) (T := mkT Tryz.prog [(60, cBelow)] false (fun _ => false) false (fun _ => false)) (mkT_ok (E := E0) (.cons below_ok .nil)) rfl (fn := Tryz.f61) Tryz.func61 (by kernel_rfl) rfl mixedT (by kernel_rfl) rfl rfl (Nat.le_of_ble_eq_true rfl) ?_
 intro args p rs ms hr
 unfold cDep6 at hr
 dsimp only at hr
 split at hr
 rotate_left
 ·cases hr
 rename_i l i h n
 simp only [Option.some.injEq, Prod.mk.injEq] at hr
 obtain ⟨rfl, rfl, rfl⟩ := hr
 refine ⟨_, _, _, rfl, rfl, rfl, rfl, Nat.le_of_ble_eq_true rfl, ?_⟩
 have hm : maxLen = 9223372036854775807 := rfl
 rintro ⟨h1, h2, n1, n5⟩ bs0
 obtain ⟨bs, rfl, hx⟩ := h1.ex
 clear h1
 rw [unB_bL]
 obtain ⟨i, rfl⟩ := Int.eq_ofNat_of_zero_le h2
 rw [Int.toNat_natCast]
 obtain ⟨n, rfl⟩ := Int.eq_ofNat_of_zero_le (show 0 ≤ n by omega)
 have hp : 1 ≤ (2 : Int) ^ n ∧ (2 : Int) ^ n ≤ 32 := by
  have : n = 1 ∨ n = 2 ∨ n = 3 ∨ n = 4 ∨ n = 5 := by omega
  rcases this with rfl | rfl | rfl | rfl | rfl <;> decide
 have e : depM ((n : Nat) : Int) bs (i, h) = (((belowM (1 * 2 ^ n) bs (i, h)).1, (belowM ((n : Nat) : Int) bs (belowM (1 * 2 ^ n) bs (i, h)).2).1), (belowM ((n : Nat) : Int) bs (belowM (1 * 2 ^ n) bs (i, h)).2).2) := rfl
 rw [e]
 clear e
 generalize hA : belowM (1 * 2 ^ n) bs (i, h) = A
 generalize hB : belowM ((n : Nat) : Int) bs A.2 = B
 (repeat' first | refine gA fun _ => ?_ | refine fkI ?_ ?_ <;> intro hb <;> try simp only [ew, hA, hB] at hb | simp only [go_sem, simprocAttr, *, cDep6, cBelow, Tryz.results61, hA, hB])
 all_goals first | rfl | skip
def l4M : Dr ((Int × List (List Int)) × Int) := fun bs s =>
 let t := tblM bs s
 let o := onceM 14 bs t.2
 let u := if o.1 then anyM bs o.2 else (t.1, o.2)
 let m := belowM 2 bs u.2
 let q := onceM 20 bs m.2
 if q.1 then ((u.1, (pickM [-1, 2] bs q.2).1), (pickM [-1, 2] bs q.2).2) else ((u.1, m.1), q.2)
theorem l4M_facts {bs : List Int} {s : Cu} : (0 ≤ (l4M bs s).1.1.1 ∧ (l4M bs s).1.1.1 ≤ 6) ∧ (l4M bs s).1.1.2.length ≤ 13 ∧ ∀ r ∈ (l4M bs s).1.1.2, r.length ≤ 4 := by
 have key : ∀ u : (Int × List (List Int)) × Cu, u = (if (onceM 14 bs (tblM bs s).2).1 then anyM bs (onceM 14 bs (tblM bs s).2).2 else ((tblM bs s).1, (onceM 14 bs (tblM bs s).2).2)) → (0 ≤ u.1.1 ∧ u.1.1 ≤ 6) ∧ u.1.2.length ≤ 13 ∧ ∀ r ∈ u.1.2, r.length ≤ 4 := by
  intro u hu
  subst hu
  split
  ·exact ⟨anyM_facts.1, anyM_facts.2.1, fun r hr => (anyM_facts.2.2 r hr).1⟩
  ·obtain ⟨k1, k2, k3⟩ := @tblM_facts bs s
   dsimp only
   exact ⟨by omega, by omega, fun r hr => by have := (k3 r hr).1; omega⟩
 have := key _ rfl
 unfold l4M
 dsimp only
 generalize (if (onceM 14 bs (tblM bs s).2).1 = true then anyM bs (onceM 14 bs (tblM bs s).2).2 else ((tblM bs s).1, (onceM 14 bs (tblM bs s).2).2)) = u at this ⊢
 split <;> exact this
def cL4D : Contract := ⟨[true], false, fun
 | [.box [.sl 1 l, .v (.int .i64 i), .v (.int .i64 h)]] => some (WfB l ∧ 0 ≤ i, [⟨true, [.d (.v (.int .i64 (l4M (unB l) (i.toNat, h)).1.1.1)), .own 1 (sL (l4M (unB l) (i.toNat, h)).1.1.2) 1]⟩, ⟨false, [.d (.v (.int .i64 (l4M (unB l) (i.toNat, h)).1.2))]⟩], cuO l (l4M (unB l) (i.toNat, h)).2)
 | _ => none⟩
theorem l4D_ok : ContractOK E0 65 cL4D := by
 refine contract_of_wpcB (E := E0) (T := mkT Tryz.prog [(73, cTbl), (25, cOnce), (114, cAny), (60, cBelow), (64, cPickI)] false (fun d => d == 17) false (fun _ => false)) (mkT_ok (E := E0) (.cons tbl_ok (.cons once_ok (.cons any_ok (.cons below_ok (.cons pickI_ok .nil)))))) rfl (fn := Tryz.f65) Tryz.func65 (by kernel_rfl) rfl mixedT (by kernel_rfl) rfl rfl (Nat.le_of_ble_eq_true rfl) ?_
 intro args p rs ms hr
 unfold cL4D at hr
 dsimp only at hr
 split at hr
 rotate_left
 ·cases hr
 rename_i l i h
 simp only [Option.some.injEq, Prod.mk.injEq] at hr
 obtain ⟨rfl, rfl, rfl⟩ := hr
 refine ⟨_, _, _, rfl, rfl, rfl, rfl, Nat.le_of_ble_eq_true rfl, ?_⟩
 have hm : maxLen = 9223372036854775807 := rfl
 rintro ⟨h1, h2⟩ bs0
 obtain ⟨bs, rfl, hx⟩ := h1.ex
 clear h1
 rw [unB_bL]
 obtain ⟨i, rfl⟩ := Int.eq_ofNat_of_zero_le h2
 rw [Int.toNat_natCast]
 have f1 := @tblM_facts bs (i, h)
 have f2 := @anyM_facts bs (onceM 14 bs (tblM bs (i, h)).2).2
 generalize hL : l4M bs (i, h) = L
 unfold l4M at hL
 dsimp only at hL
 generalize hT : tblM bs (i, h) = T at *
 obtain ⟨t1, t2, t3⟩ := f1
 have m1 : T.1.2.length ≤ maxLen := Nat.le_trans t2 (by decide)
 have m2 : ∀ r ∈ T.1.2, r.length ≤ maxLen := fun r hr => by have := (t3 r hr).1; omega
 clear t3
 generalize hO : onceM 14 bs T.2 = O at *
 have eB : [[D.v (.int .i64 (-1))], [D.v (.int .i64 2)]] = iL [-1, 2] := rfl
 have nB : ¬ iL [-1, 2] = [] := by simp [iL]
 cases ho : O.1
 ·simp only [ho, Bool.false_eq_true, if_false] at hL
  clear f2
  generalize hM : belowM 2 bs O.2 = M at *
  generalize hQ : onceM 20 bs M.2 = Q at *
  cases hq : Q.1
  ·simp only [hq, Bool.false_eq_true, if_false] at hL
   subst hL
   (repeat' first | refine gA fun _ => ?_ | refine fkI ?_ ?_ <;> intro hb <;> try simp only [ew, hT, hO, ho, hM, hQ, hq] at hb | simp only [go_sem, simprocAttr, *, cL4D, cTbl, cOnce, cAny, cBelow, cPickI, Tryz.results65, hT, hO, ho, hM, hQ, hq])
   all_goals first | rfl | skip
  ·simp only [hq, if_true] at hL
   generalize hP : pickM [-1, 2] bs Q.2 = P at *
   subst hL
   (repeat' first | refine gA fun _ => ?_ | refine fkI ?_ ?_ <;> intro hb <;> try simp only [ew, hT, hO, ho, hM, hQ, hq, eB, hP] at hb | simp only [go_sem, simprocAttr, *, cL4D, cTbl, cOnce, cAny, cBelow, cPickI, Tryz.results65, hT, hO, ho, hM, hQ, hq, eB, hP])
   all_goals first | rfl | skip
 ·simp only [ho, if_true] at hL
  generalize hA : anyM bs O.2 = A at *
  obtain ⟨a1, a2, a3⟩ := f2
  have m3 : A.1.2.length ≤ maxLen := Nat.le_trans a2 (by decide)
  have m4 : ∀ r ∈ A.1.2, r.length ≤ maxLen := fun r hr => by have := (a3 r hr).1; omega
  clear a3
  generalize hM : belowM 2 bs A.2 = M at *
  generalize hQ : onceM 20 bs M.2 = Q at *
  cases hq : Q.1
  ·simp only [hq, Bool.false_eq_true, if_false] at hL
   subst hL
   (repeat' first | refine gA fun _ => ?_ | refine fkI ?_ ?_ <;> intro hb <;> try simp only [ew, hT, hO, ho, hA, hM, hQ, hq] at hb | simp only [go_sem, simprocAttr, *, cL4D, cTbl, cOnce, cAny, cBelow, cPickI, Tryz.results65, hT, hO, ho, hA, hM, hQ, hq])
   all_goals first | rfl | skip
  ·simp only [hq, if_true] at hL
   generalize hP : pickM [-1, 2] bs Q.2 = P at *
   subst hL
   (repeat' first | refine gA fun _ => ?_ | refine fkI ?_ ?_ <;> intro hb <;> try simp only [ew, hT, hO, ho, hA, hM, hQ, hq, eB, hP] at hb | simp only [go_sem, simprocAttr, *, cL4D, cTbl, cOnce, cAny, cBelow, cPickI, Tryz.results65, hT, hO, ho, hA, hM, hQ, hq, eB, hP])
   all_goals first | rfl | skip
end Go.Own
