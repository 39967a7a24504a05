import Derived.Test.YtaigpolfbonjgaaGreatDoorOwnTl
import Derived.Test.YtaigpolfbonjgaaGreatDoorOwnTd
import Derived.Test.YtaigpolfbonjgaaGreatDoorOwnTe
set_option linter.unusedSimpArgs false
set_option linter.unusedVariables false
set_option maxRecDepth 20000
set_option maxHeartbeats 2000000
namespace Go.Own
open Go Go.Proofs
attribute [local go_sem] unT_tL tL_length tL_snoc wfL_tL tL_get tL_set tL_inj tL_scal
attribute [local go_sem] unD_dL dL_length dL_get dL_set dL_inj wfD_dL scal2 beq2 pair_eta un3_d3L d3L_length d3L_get d3L_snoc scal3 unT_tL tL_length tL_snoc wfL_tL
theorem by_size : ByteArray.size ⟨#[32, 98, 121, 32]⟩ = 4 := rfl
theorem gives_size : ByteArray.size ⟨#[32, 103, 105, 118, 101, 115, 32]⟩ = 7 := rfl
def lnB (ds : List (Int × Int)) (s : Int × Int × Int) : ByteArray := (((fa s.2.1 ++ ⟨#[32, 98, 121, 32]⟩) ++ fd (ds.getD s.1.toNat (0, 0))) ++ ⟨#[32, 103, 105, 118, 101, 115, 32]⟩) ++ fa s.2.2
def dlnL (n : Int) (ds : List (Int × Int)) (a b : Int) : List ByteArray := (drL n ds a b).map (lnB ds)
theorem fd_sz {q : Int × Int} : (fd q).size ≤ 11 := by
 have s1 := @fa_size q.1
 have s2 := @fa_size (1 * 2 ^ q.2.toNat)
 unfold fd
 split
 ·rw [size_app, size_app, gt_size]; omega
 ·exact Nat.zero_le _
theorem drL_facts {n : Int} {ds : List (Int × Int)} {a b : Int} : (drL n ds a b).length ≤ 6 ∧ ∀ i, i < (drL n ds a b).length → 0 ≤ ((drL n ds a b).getD i (0, 0, 0)).1 ∧ ((drL n ds a b).getD i (0, 0, 0)).1 < ds.length := by
 unfold drL
 split
 ·rename_i hv
  simp only [impB, Bool.and_eq_true] at hv
  have hd := depsOK_R hv.1.1
  obtain ⟨h1, h2⟩ := derF_all (k := 6) (r := b) hd (depOK_R hv.1.2).1
  exact ⟨h1, fun i hi => (h2 _ (getD_mem hi (0, 0, 0))).1⟩
 ·simp
theorem dln_len {n : Int} {ds : List (Int × Int)} {a b : Int} : (dlnL n ds a b).length ≤ 6 := by
 unfold dlnL; rw [List.length_map]; exact drL_facts.1
def cDln : Contract := ⟨[], false, fun
 | [.one (.v (.int .i64 n)), .one (.sl 2 l), .agg [.v (.int .i64 a), .v (.int .i64 b)]] => some (WfD l ∧ -9223372036854775808 ≤ n ∧ n ≤ 9223372036854775807,
   [⟨false, [.own 1 (tL (dlnL n (unD l) a b)) 1]⟩], [])
 | _ => none⟩
theorem dlnI_ok : ContractOK E0 9 cDln := by
 refine cWpc (E := E0) (T := mkT Tryz.prog [(30, cDer), (31, cFA), (32, cFD)] false (fun _ => false) true (fun _ => false)) (mkT_ok (E := E0) (.cons derImpl_ok (.cons faI_ok (.cons fdI_ok .nil)))) (fn := Tryz.f9) Tryz.func9 (by kernel_rfl) rfl mixedT (by kernel_rfl) rfl ?_
 intro args p rs ms hr
 unfold cDln at hr
 dsimp only at hr
 split at hr
 rotate_left
 ·cases hr
 rename_i n l a b
 simp only [Option.some.injEq, Prod.mk.injEq] at hr
 obtain ⟨rfl, rfl, rfl⟩ := hr
 refine ⟨rfl, rfl, Nat.le_of_ble_eq_true rfl, ?_⟩
 have hm : maxLen = 9223372036854775807 := rfl
 rintro ⟨h1, hn1, hn2⟩ bs
 obtain ⟨ds, rfl, hx⟩ := h1.ex
 clear h1
 rw [unD_dL]
 unfold dlnL
 obtain ⟨f6, fdd⟩ := @drL_facts n ds a b
 (repeat' first | refine gA fun _ => ?_ | refine fkI ?_ ?_ <;> intro hb <;> try simp only [ew] at hb | simp only [go_sem, simprocAttr, *, cDln, cDer, cFA, cFD, Tryz.results9])
 generalize hF : drL n ds a b = F at f6 fdd ⊢
 clear hF
 refine lpI { ι := Nat, rs := [(11, 12), (23, 46)], mods := [(22, fun i => .one (.d (.v (.int .i64 i)))), (7, fun i => .one (.own 1 (tL ((F.take i).map (lnB ds))) 1))], boxes := [], arrs := [(8, fun _ => (3, d3L F, 1))], alis := [(20, 8)], ok := fun i => i ≤ F.length, mu := fun i => F.length - i } rfl 0 (Nat.zero_le _) ?_ fun i hi => ?_
 ·(repeat' first | refine gA fun _ => ?_ | refine fkI ?_ ?_ <;> intro hb <;> try simp only [ew] at hb | simp only [go_sem, simprocAttr, *, cDln, cDer, cFA, cFD, Tryz.results9])
  all_goals first | rfl | skip
 ·dsimp only at i hi
  by_cases h5 : i < F.length
  ·have e2 : (F.take (i + 1)).map (lnB ds) = (F.take i).map (lnB ds) ++ [lnB ds (F.getD i (0, 0, 0))] := by rw [take_succ_getD h5 (0, 0, 0)]; simp
   obtain ⟨p0, p1⟩ := fdd i h5
   clear fdd
   cases hq : F.getD i (0, 0, 0) with
   | mk q1 q =>
    cases q with
    | mk q2 q3 =>
     rw [hq] at p0 p1 e2
     dsimp only at p0 p1
     obtain ⟨q1, rfl⟩ := Int.eq_ofNat_of_zero_le p0
     have p1 : q1 < ds.length := by omega
     clear p0
     have e3 : lnB ds ((q1 : Int), q2, q3) = (((fa q2 ++ ⟨#[32, 98, 121, 32]⟩) ++ fd (ds.getD q1 (0, 0))) ++ ⟨#[32, 103, 105, 118, 101, 115, 32]⟩) ++ fa q3 := by unfold lnB; dsimp only; rw [Int.toNat_natCast]
     rw [e3] at e2
     clear e3
     have s1 := @fa_size q2
     have s2 := @fa_size q3
     have s3 := @fd_sz (ds.getD q1 (0, 0))
     (repeat' first | refine gA fun _ => ?_ | refine fkI ?_ ?_ <;> intro hb <;> try simp only [ew, hq, by_size, gives_size, size_app, List.length_map] at hb | simp only [go_sem, simprocAttr, *, cDln, cDer, cFA, cFD, Tryz.results9, hq, by_size, gives_size, size_app, List.length_map])
     refine lpN (i + 1) (by dsimp only; omega) (by dsimp only; omega) ?_
     clear s1 s2 s3
     (repeat' first | refine gA fun _ => ?_ | refine fkI ?_ ?_ <;> intro hb <;> try simp only [ew, hq, e2] at hb | simp only [go_sem, simprocAttr, *, cDln, cDer, cFA, cFD, Tryz.results9, hq, e2])
  ·have e5 : i = F.length := by omega
   subst e5
   have e6 : F.take F.length = F := List.take_length
   clear fdd
   (repeat' first | refine gA fun _ => ?_ | refine fkI ?_ ?_ <;> intro hb <;> try simp only [ew, e6] at hb | simp only [go_sem, simprocAttr, *, cDln, cDer, cFA, cFD, Tryz.results9, e6])
   all_goals first | rfl | skip
theorem dlnS_ok : ContractOK E0 10 cDln := by
 refine cWpc (E := E0) (T := mkT Tryz.prog [(33, cDer), (34, cFA), (35, cFD)] false (fun _ => false) true (fun _ => false)) (mkT_ok (E := E0) (.cons derSpec_ok (.cons faS_ok (.cons fdS_ok .nil)))) (fn := Tryz.f10) Tryz.func10 (by kernel_rfl) rfl mixedT (by kernel_rfl) rfl ?_
 intro args p rs ms hr
 unfold cDln at hr
 dsimp only at hr
 split at hr
 rotate_left
 ·cases hr
 rename_i n l a b
 simp only [Option.some.injEq, Prod.mk.injEq] at hr
 obtain ⟨rfl, rfl, rfl⟩ := hr
 refine ⟨rfl, rfl, Nat.le_of_ble_eq_true rfl, ?_⟩
 have hm : maxLen = 9223372036854775807 := rfl
 rintro ⟨h1, hn1, hn2⟩ bs
 obtain ⟨ds, rfl, hx⟩ := h1.ex
 clear h1
 rw [unD_dL]
 unfold dlnL
 obtain ⟨f6, fdd⟩ := @drL_facts n ds a b
 (repeat' first | refine gA fun _ => ?_ | refine fkI ?_ ?_ <;> intro hb <;> try simp only [ew] at hb | simp only [go_sem, simprocAttr, *, cDln, cDer, cFA, cFD, Tryz.results10])
 generalize hF : drL n ds a b = F at f6 fdd ⊢
 clear hF
 refine lpI { ι := Nat, rs := [(19, 53)], mods := [(10, fun i => .one (.d (.v (.int .i64 i)))), (7, fun i => .one (.own 1 (tL ((F.take i).map (lnB ds))) 1))], boxes := [], arrs := [(8, fun _ => (3, d3L F, 1))], ok := fun i => i ≤ F.length, mu := fun i => F.length - i } rfl 0 (Nat.zero_le _) ?_ fun i hi => ?_
 ·(repeat' first | refine gA fun _ => ?_ | refine fkI ?_ ?_ <;> intro hb <;> try simp only [ew] at hb | simp only [go_sem, simprocAttr, *, cDln, cDer, cFA, cFD, Tryz.results10])
  all_goals first | rfl | skip
 ·dsimp only at i hi
  by_cases h5 : i < F.length
  ·have e2 : (F.take (i + 1)).map (lnB ds) = (F.take i).map (lnB ds) ++ [lnB ds (F.getD i (0, 0, 0))] := by rw [take_succ_getD h5 (0, 0, 0)]; simp
   obtain ⟨p0, p1⟩ := fdd i h5
   clear fdd
   cases hq : F.getD i (0, 0, 0) with
   | mk q1 q =>
    cases q with
    | mk q2 q3 =>
     rw [hq] at p0 p1 e2
     dsimp only at p0 p1
     obtain ⟨q1, rfl⟩ := Int.eq_ofNat_of_zero_le p0
     have p1 : q1 < ds.length := by omega
     clear p0
     have e3 : lnB ds ((q1 : Int), q2, q3) = (((fa q2 ++ ⟨#[32, 98, 121, 32]⟩) ++ fd (ds.getD q1 (0, 0))) ++ ⟨#[32, 103, 105, 118, 101, 115, 32]⟩) ++ fa q3 := by unfold lnB; dsimp only; rw [Int.toNat_natCast]
     rw [e3] at e2
     clear e3
     have s1 := @fa_size q2
     have s2 := @fa_size q3
     have s3 := @fd_sz (ds.getD q1 (0, 0))
     (repeat' first | refine gA fun _ => ?_ | refine fkI ?_ ?_ <;> intro hb <;> try simp only [ew, hq, by_size, gives_size, size_app, List.length_map] at hb | simp only [go_sem, simprocAttr, *, cDln, cDer, cFA, cFD, Tryz.results10, hq, by_size, gives_size, size_app, List.length_map])
     refine lpN (i + 1) (by dsimp only; omega) (by dsimp only; omega) ?_
     clear s1 s2 s3
     (repeat' first | refine gA fun _ => ?_ | refine fkI ?_ ?_ <;> intro hb <;> try simp only [ew, hq, e2] at hb | simp only [go_sem, simprocAttr, *, cDln, cDer, cFA, cFD, Tryz.results10, hq, e2])
  ·have e5 : i = F.length := by omega
   subst e5
   have e6 : F.take F.length = F := List.take_length
   clear fdd
   (repeat' first | refine gA fun _ => ?_ | refine fkI ?_ ?_ <;> intro hb <;> try simp only [ew, e6] at hb | simp only [go_sem, simprocAttr, *, cDln, cDer, cFA, cFD, Tryz.results10, e6])
   all_goals first | rfl | skip
end Go.Own
