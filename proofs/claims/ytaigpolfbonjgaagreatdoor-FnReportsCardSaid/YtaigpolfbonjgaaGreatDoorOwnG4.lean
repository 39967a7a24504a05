import Derived.Test.YtaigpolfbonjgaaGreatDoorOwnY2
set_option linter.unusedSimpArgs false
set_option linter.unusedVariables false
set_option maxRecDepth 20000
set_option maxHeartbeats 2000000
namespace Go.Own
open Go Go.Proofs
attribute [local go_sem] unD_dL dL_length dL_get dL_set dL_inj wfD_dL scal2 beq2 pair_eta
def cClo : Contract := ⟨[], false, fun
 | [.one (.sl 2 l), .one (.v (.int .i64 x))] => some (WfD l ∧ (∀ d ∈ unD l, depR d) ∧ 0 ≤ x ∧ x ≤ 31, [⟨false, [.d (.v (.int .i64 (clo (unD l) x)))]⟩], [])
 | _ => none⟩
theorem depR_at {ds : List (Int × Int)} {i : Nat} (hd : ∀ d ∈ ds, depR d) (h : i < ds.length) : (0 ≤ (ds.getD i (0, 0)).1 ∧ (ds.getD i (0, 0)).1 ≤ 31) ∧ 0 ≤ (ds.getD i (0, 0)).2 ∧ (ds.getD i (0, 0)).2 ≤ 4 := by
 have := hd _ (getD_mem h (0, 0))
 exact ⟨this.1, this.2⟩
theorem insB_def {l x : Int} : insB l x = (bitI .andNot .i64 l x == 0) := rfl
theorem shl5 {r : Int} (h : 0 ≤ r ∧ r ≤ 4) : 1 ≤ (2 : Int) ^ r.toNat ∧ (2 : Int) ^ r.toNat ≤ 16 := p5 (c := r.toNat) (by omega)
theorem appB_closed {ds : List (Int × Int)} {x : Int} (hn : ∀ j, j < ds.length → appB x (ds.getD j (0, 0)) = false) : closedB ds x := by
 intro d hdm hi
 obtain ⟨j, hj, e⟩ := List.getElem_of_mem hdm
 have := hn j hj
 simp only [List.getD_eq_getElem?_getD, hj, List.getElem?_eq_getElem, Option.getD_some, e, appB, hi, Bool.true_and, Bool.not_eq_false'] at this
 exact this
theorem bits_R {x r : Int} (hx : R5 x) (hr : 0 ≤ r ∧ r ≤ 4) : 0 ≤ addB x r ∧ addB x r ≤ 31 := addB_R hx hr
def cloI (ds : List (Int × Int)) (x0 : Int) (i : Nat) (x : Int) : Prop := i ≤ ds.length ∧ R5 x ∧ leB x0 x ∧ leB x (clo ds x0) ∧ ∀ j, j < i → appB x (ds.getD j (0, 0)) = false
theorem cloI_add {ds : List (Int × Int)} {x0 x : Int} {i : Nat} (hd : ∀ d ∈ ds, depR d) (h0 : R5 x0) (h : cloI ds x0 i x) (h5 : i < ds.length) (ha : appB x (ds.getD i (0, 0)) = true) : cloI ds x0 0 (addB x (ds.getD i (0, 0)).2) := by
 obtain ⟨h1, h2, h3, h4, _⟩ := h
 have hm := hd _ (getD_mem h5 (0, 0))
 simp only [appB, Bool.and_eq_true, Bool.not_eq_true'] at ha
 refine ⟨Nat.zero_le _, addB_R h2 hm.2, h3.trans (leB_add h2 hm.2), leB_addr h2 hm.2 h4 ?_, fun j hj => absurd hj (Nat.not_lt_zero _)⟩
 exact clo_closed hd h0 _ (getD_mem h5 (0, 0)) ((insB_iff hm.1 (clo_R hd h0)).2 (((insB_iff hm.1 h2).1 ha.1).trans h4))
theorem cloI_step {ds : List (Int × Int)} {x0 x : Int} {i : Nat} (h : cloI ds x0 i x) (h5 : i < ds.length) (ha : appB x (ds.getD i (0, 0)) = false) : cloI ds x0 (i + 1) x := by
 obtain ⟨h1, h2, h3, h4, h6⟩ := h
 refine ⟨h5, h2, h3, h4, fun j hj => ?_⟩
 by_cases e : j = i
 ·subst e; exact ha
 ·exact h6 j (by omega)
theorem cloI_end {ds : List (Int × Int)} {x0 x : Int} (hd : ∀ d ∈ ds, depR d) (h0 : R5 x0) (h : cloI ds x0 ds.length x) : x = clo ds x0 := by
 obtain ⟨h1, h2, h3, h4, h6⟩ := h
 exact clo_eq hd h0 h2 h3 h4 (appB_closed h6)
def cmu (L : Nat) (i : Nat) (x : Int) : Nat := (5 - cntB x) * (L + 1) + (L - i)
theorem cmu_step {L i : Nat} {x : Int} (h : i < L) : cmu L (i + 1) x < cmu L i x := by unfold cmu; omega
theorem cmu_add {L i : Nat} {x y : Int} (h : cntB x < cntB y) (hi : i < L) : cmu L 0 y < cmu L i x := by
 unfold cmu
 have := cnt_le y
 have e : 5 - cntB x = (5 - cntB y) + (cntB y - cntB x) := by omega
 rw [e, Nat.add_mul]
 have : (L + 1) ≤ (cntB y - cntB x) * (L + 1) := Nat.le_mul_of_pos_left _ (by omega)
 omega
theorem cloImpl_ok : ContractOK E0 99 cClo := by
 refine cWpc (E := E0) (T := mkT Tryz.prog [(68, cInside), (67, cHasB)] false (fun _ => false) true (fun _ => false)) (mkT_ok (E := E0) (.cons inside_ok (.cons hasB_ok .nil))) (fn := Tryz.f99) Tryz.func99 (by kernel_rfl) rfl mixedT (by kernel_rfl) rfl ?_
 intro args p rs ms hr
 unfold cClo at hr
 dsimp only at hr
 split at hr
 rotate_left
 ·cases hr
 rename_i l x
 simp only [Option.some.injEq, Prod.mk.injEq] at hr
 obtain ⟨rfl, rfl, rfl⟩ := hr
 refine ⟨rfl, rfl, Nat.le_of_ble_eq_true rfl, ?_⟩
 have hm : maxLen = 9223372036854775807 := rfl
 rintro ⟨h1, hd, hx1, hx2⟩ bs
 obtain ⟨ds, rfl, hx⟩ := h1.ex
 clear h1
 rw [unD_dL] at hd ⊢
 (repeat' first | refine gA fun _ => ?_ | refine fkI ?_ ?_ <;> intro hb <;> try simp only [ew] at hb | simp only [go_sem, simprocAttr, *, cClo, cInside, cHasB, Tryz.results99])
 refine lpI { ι := Nat × Int, rs := [(6, 37)], mods := [(5, fun i => .one (.d (.v (.int .i64 i.1)))), (1, fun i => .one (.d (.v (.int .i64 i.2))))], boxes := [], arrs := [], ok := fun i => cloI ds x i.1 i.2, mu := fun i => cmu ds.length i.1 i.2 } rfl (0, x) ⟨Nat.zero_le _, ⟨hx1, hx2⟩, leB.refl _, clo_le hd ⟨hx1, hx2⟩, fun j hj => absurd hj (Nat.not_lt_zero _)⟩ ?_ ?_
 ·(repeat' first | refine gA fun _ => ?_ | refine fkI ?_ ?_ <;> intro hb <;> try simp only [ew] at hb | simp only [go_sem, simprocAttr, *, cClo, cInside, cHasB, Tryz.results99])
 ·rintro ⟨i, y⟩ hi
  dsimp only at hi
  have hi1 := hi.1
  obtain ⟨y1, y2⟩ := hi.2.1
  by_cases h5 : i < ds.length
  ·obtain ⟨⟨d1, d2⟩, d3, d4⟩ := depR_at hd h5
   have hs := shl5 ⟨d3, d4⟩
   cases ha : appB y (ds.getD i (0, 0))
   ·have hn := cloI_step hi h5 ha
    have ha2 : (insB (ds.getD i (0, 0)).1 y && !hasB y (ds.getD i (0, 0)).2) = false := ha
    rw [insB_def] at ha2
    clear hi ha hd hs
    (repeat' first | refine gA fun _ => ?_ | refine fkI ?_ ?_ <;> intro hb <;> try simp only [ew, ha2] at hb | simp only [go_sem, simprocAttr, *, cClo, cInside, cHasB, Tryz.results99, ha2])
    refine lpN (i + 1, y) hn (cmu_step h5) ?_
    clear hn
    (repeat' first | refine gA fun _ => ?_ | refine fkI ?_ ?_ <;> intro hb <;> try simp only [ew, ha2] at hb | simp only [go_sem, simprocAttr, *, cClo, cInside, cHasB, Tryz.results99, ha2])
   ·have hn := cloI_add hd ⟨hx1, hx2⟩ hi h5 ha
    have hc := (appB_cnt hd ⟨y1, y2⟩ h5 ha).1
    have hb := bits_R ⟨y1, y2⟩ ⟨d3, d4⟩
    have ha2 : (insB (ds.getD i (0, 0)).1 y && !hasB y (ds.getD i (0, 0)).2) = true := ha
    rw [insB_def] at ha2
    have e : bitI .or .i64 y (1 * 2 ^ (ds.getD i (0, 0)).2.toNat) = addB y (ds.getD i (0, 0)).2 := rfl
    clear hi ha hd
    (repeat' first | refine gA fun _ => ?_ | refine fkI ?_ ?_ <;> intro hb <;> try simp only [ew, ha2, e] at hb | simp only [go_sem, simprocAttr, *, cClo, cInside, cHasB, Tryz.results99, ha2, e])
    refine lpN (0, addB y (ds.getD i (0, 0)).2) hn (cmu_add hc h5) ?_
    clear hn hc
    (repeat' first | refine gA fun _ => ?_ | refine fkI ?_ ?_ <;> intro hb <;> try simp only [ew, ha2, e] at hb | simp only [go_sem, simprocAttr, *, cClo, cInside, cHasB, Tryz.results99, ha2, e])
    all_goals first | rfl | skip
  ·have e5 : i = ds.length := by omega
   subst e5
   have e := cloI_end hd ⟨hx1, hx2⟩ hi
   clear hi hd
   (repeat' first | refine gA fun _ => ?_ | refine fkI ?_ ?_ <;> intro hb <;> try simp only [ew] at hb | simp only [go_sem, simprocAttr, *, cClo, cInside, cHasB, Tryz.results99])
   all_goals first | exact e | skip
theorem cloSpec_ok : ContractOK E0 107 cClo := by
 refine cWpc (E := E0) (T := mkT Tryz.prog [] false (fun _ => false) true (fun _ => false)) (mkT_ok (E := E0) .nil) (fn := Tryz.f107) Tryz.func107 (by kernel_rfl) rfl mixedT (by kernel_rfl) rfl ?_
 intro args p rs ms hr
 unfold cClo at hr
 dsimp only at hr
 split at hr
 rotate_left
 ·cases hr
 rename_i l x
 simp only [Option.some.injEq, Prod.mk.injEq] at hr
 obtain ⟨rfl, rfl, rfl⟩ := hr
 refine ⟨rfl, rfl, Nat.le_of_ble_eq_true rfl, ?_⟩
 have hm : maxLen = 9223372036854775807 := rfl
 rintro ⟨h1, hd, hx1, hx2⟩ bs
 obtain ⟨ds, rfl, hx⟩ := h1.ex
 clear h1
 rw [unD_dL] at hd ⊢
 unfold clo
 generalize hF : passN ds 6 x = F
 (repeat' first | refine gA fun _ => ?_ | refine fkI ?_ ?_ <;> intro hb <;> try simp only [ew] at hb | simp only [go_sem, simprocAttr, *, cClo, Tryz.results107])
 refine lpI { ι := Nat × Int, rs := [(6, 38)], mods := [(5, fun i => .one (.d (.v (.int .i64 i.1)))), (1, fun i => .one (.d (.v (.int .i64 i.2))))], boxes := [], arrs := [], ok := fun i => i.1 ≤ 6 ∧ R5 i.2 ∧ passN ds (6 - i.1) i.2 = F, mu := fun i => 6 - i.1 } rfl (0, x) ⟨by omega, ⟨hx1, hx2⟩, hF⟩ ?_ ?_
 ·(repeat' first | refine gA fun _ => ?_ | refine fkI ?_ ?_ <;> intro hb <;> try simp only [ew] at hb | simp only [go_sem, simprocAttr, *, cClo, Tryz.results107])
 ·rintro ⟨k, y⟩ hi
  dsimp only at hi
  obtain ⟨hk, hy, ht⟩ := hi
  obtain ⟨y1, y2⟩ := hy
  clear hF
  by_cases h6 : k < 6
  ·have h6' : (k : Int) ≤ 5 := by omega
   rw [show 6 - k = 6 - (k + 1) + 1 by omega, passN] at ht
   generalize hP : pass1 ds y = P at ht
   have hPR : R5 P := hP ▸ pass1_R hd ⟨y1, y2⟩
   (repeat' first | refine gA fun _ => ?_ | refine fkI ?_ ?_ <;> intro hb <;> try simp only [ew] at hb | simp only [go_sem, simprocAttr, *, cClo, Tryz.results107])
   refine lpI { ι := Nat × Int, rs := [(11, 38)], mods := [(6, fun i => .one (.d (.v (.int .i64 i.1)))), (1, fun i => .one (.d (.v (.int .i64 i.2))))], boxes := [], arrs := [], ok := fun i => i.1 ≤ ds.length ∧ R5 i.2 ∧ pass1 (ds.drop i.1) i.2 = P, mu := fun i => ds.length - i.1 } rfl (0, y) ⟨Nat.zero_le _, ⟨y1, y2⟩, hP⟩ ?_ ?_
   ·clear ht
    (repeat' first | refine gA fun _ => ?_ | refine fkI ?_ ?_ <;> intro hb <;> try simp only [ew] at hb | simp only [go_sem, simprocAttr, *, cClo, Tryz.results107])
   ·rintro ⟨i, z⟩ hi
    dsimp only at hi
    obtain ⟨hi1, hz, hq⟩ := hi
    obtain ⟨z1, z2⟩ := hz
    clear hP
    by_cases h5 : i < ds.length
    ·obtain ⟨⟨d1, d2⟩, d3, d4⟩ := depR_at hd h5
     have hs := shl5 ⟨d3, d4⟩
     rw [drop_getD h5 (0, 0)] at hq
     have hq' : pass1 (ds.drop (i + 1)) (step1 z (ds.getD i (0, 0))) = P := hq
     have hR := step1_R (d := ds.getD i (0, 0)) (x := z) ⟨z1, z2⟩ ⟨⟨d1, d2⟩, d3, d4⟩
     have ea := and_ins (l := (ds.getD i (0, 0)).1) (x := z) ⟨d1, d2⟩ ⟨z1, z2⟩
     cases ha : insB (ds.getD i (0, 0)).1 z
     ·have e1 : step1 z (ds.getD i (0, 0)) = z := by unfold step1; rw [ha]; rfl
      rw [ha] at ea
      rw [e1] at hq' hR
      clear ha hd hs hq ht hPR e1
      (repeat' first | refine gA fun _ => ?_ | refine fkI ?_ ?_ <;> intro hb <;> try simp only [ew, ea] at hb | simp only [go_sem, simprocAttr, *, cClo, Tryz.results107, ea])
      refine lpN (i + 1, z) ⟨h5, hR, hq'⟩ (by dsimp only; omega) ?_
      clear hq'
      (repeat' first | refine gA fun _ => ?_ | refine fkI ?_ ?_ <;> intro hb <;> try simp only [ew, ea] at hb | simp only [go_sem, simprocAttr, *, cClo, Tryz.results107, ea])
     ·have e1 : step1 z (ds.getD i (0, 0)) = addB z (ds.getD i (0, 0)).2 := by unfold step1; rw [ha]; rfl
      rw [ha] at ea
      rw [e1] at hq' hR
      have hb := bits_R ⟨z1, z2⟩ ⟨d3, d4⟩
      have e : bitI .or .i64 z (1 * 2 ^ (ds.getD i (0, 0)).2.toNat) = addB z (ds.getD i (0, 0)).2 := rfl
      clear ha hd hq ht hPR e1
      (repeat' first | refine gA fun _ => ?_ | refine fkI ?_ ?_ <;> intro hb <;> try simp only [ew, ea, e] at hb | simp only [go_sem, simprocAttr, *, cClo, Tryz.results107, ea, e])
      refine lpN (i + 1, addB z (ds.getD i (0, 0)).2) ⟨h5, hR, hq'⟩ (by dsimp only; omega) ?_
      clear hq'
      (repeat' first | refine gA fun _ => ?_ | refine fkI ?_ ?_ <;> intro hb <;> try simp only [ew, ea, e] at hb | simp only [go_sem, simprocAttr, *, cClo, Tryz.results107, ea, e])
    ·have e5 : i = ds.length := by omega
     subst e5
     rw [List.drop_length] at hq
     have e : z = P := hq
     subst e
     (repeat' first | refine gA fun _ => ?_ | refine fkI ?_ ?_ <;> intro hb <;> try simp only [ew] at hb | simp only [go_sem, simprocAttr, *, cClo, Tryz.results107])
     refine lpN (k + 1, z) ⟨by dsimp only; omega, hPR, ht⟩ (by dsimp only; omega) ?_
     clear ht hq hPR
     (repeat' first | refine gA fun _ => ?_ | refine fkI ?_ ?_ <;> intro hb <;> try simp only [ew] at hb | simp only [go_sem, simprocAttr, *, cClo, Tryz.results107])
  ·have e6 : k = 6 := by omega
   subst e6
   have e : y = F := ht
   clear ht
   (repeat' first | refine gA fun _ => ?_ | refine fkI ?_ ?_ <;> intro hb <;> try simp only [ew] at hb | simp only [go_sem, simprocAttr, *, cClo, Tryz.results107])
   all_goals first | exact e | skip
def impB (n : Int) (ds : List (Int × Int)) (l r : Int) : Bool := depsOK n ds && depOK n l r && hasB (clo ds l) r
def cImp : Contract := ⟨[], false, fun
 | [.one (.v (.int .i64 n)), .one (.sl 2 l), .agg [.v (.int .i64 a), .v (.int .i64 b)]] => some (WfD l ∧ -9223372036854775808 ≤ n ∧ n ≤ 9223372036854775807, [⟨false, [.d (.v (.bool (impB n (unD l) a b)))]⟩], [])
 | _ => none⟩
def cImp1 : Contract := ⟨[], false, fun
 | [.one (.sl 2 l), .agg [.v (.int .i64 a), .v (.int .i64 b)]] => some (WfD l ∧ (∀ d ∈ unD l, depR d) ∧ (0 ≤ a ∧ a ≤ 31) ∧ 0 ≤ b ∧ b ≤ 4, [⟨false, [.d (.v (.bool (hasB (clo (unD l) a) b)))]⟩], [])
 | _ => none⟩
theorem imp1_ok : ContractOK E0 115 cImp1 := by
 refine cWpc (E := E0) (T := mkT Tryz.prog [(99, cClo), (67, cHasB)] false (fun _ => false) true (fun _ => false)) (mkT_ok (E := E0) (.cons cloImpl_ok (.cons hasB_ok .nil))) (fn := Tryz.f115) Tryz.func115 (by kernel_rfl) rfl mixedT (by kernel_rfl) rfl ?_
 intro args p rs ms hr
 unfold cImp1 at hr
 dsimp only at hr
 split at hr
 rotate_left
 ·cases hr
 rename_i l a b
 simp only [Option.some.injEq, Prod.mk.injEq] at hr
 obtain ⟨rfl, rfl, rfl⟩ := hr
 refine ⟨rfl, rfl, Nat.le_of_ble_eq_true rfl, ?_⟩
 have hm : maxLen = 9223372036854775807 := rfl
 rintro ⟨h1, hd, ⟨ha1, ha2⟩, hb1, hb2⟩ bs
 obtain ⟨ds, rfl, hx⟩ := h1.ex
 clear h1
 rw [unD_dL] at hd ⊢
 (repeat' first | refine gA fun _ => ?_ | refine fkI ?_ ?_ <;> intro hb <;> try simp only [ew] at hb | simp only [go_sem, simprocAttr, *, cImp1, cClo, cHasB, Tryz.results115])
theorem depOK_R {n l r : Int} (h : depOK n l r = true) : (0 ≤ l ∧ l ≤ 31) ∧ 0 ≤ r ∧ r ≤ 4 := by
 simp only [depOK, Bool.and_eq_true, inB_iff] at h
 have := isAttr_le h.1.2
 omega
theorem depsOK_R {n : Int} {ds : List (Int × Int)} (h : depsOK n ds = true) : ∀ d ∈ ds, depR d := by
 simp only [depsOK, Bool.and_eq_true] at h
 exact deps_R h.1
theorem impI_ok : ContractOK E0 66 cImp := by
 refine cWpc (E := E0) (T := mkT Tryz.prog [(52, cAreDeps), (81, cDep), (115, cImp1)] false (fun _ => false) true (fun _ => false)) (mkT_ok (E := E0) (.cons areDepsI_ok (.cons depI_ok (.cons imp1_ok .nil)))) (fn := Tryz.f66) Tryz.func66 (by kernel_rfl) rfl mixedT (by kernel_rfl) rfl ?_
 intro args p rs ms hr
 unfold cImp at hr
 dsimp only at hr
 split at hr
 rotate_left
 ·cases hr
 rename_i n l a b
 simp only [Option.some.injEq, Prod.mk.injEq] at hr
 obtain ⟨rfl, rfl, rfl⟩ := hr
 refine ⟨rfl, rfl, Nat.le_of_ble_eq_true rfl, ?_⟩
 have hm : maxLen = 9223372036854775807 := rfl
 rintro ⟨h1, hn1, hn2⟩ bs
 obtain ⟨ds, rfl, hx⟩ := h1.ex
 clear h1
 rw [unD_dL]
 unfold impB
 cases hv : (depsOK n ds && depOK n a b)
 ·(repeat' first | refine gA fun _ => ?_ | refine fkI ?_ ?_ <;> intro hb <;> try simp only [ew, hv] at hb | simp only [go_sem, simprocAttr, *, cImp, cAreDeps, cDep, cImp1, Tryz.results66, hv])
 ·rw [Bool.and_eq_true] at hv
  have hd := depsOK_R hv.1
  obtain ⟨⟨a1, a2⟩, b1, b2⟩ := depOK_R hv.2
  obtain ⟨v1, v2⟩ := hv
  (repeat' first | refine gA fun _ => ?_ | refine fkI ?_ ?_ <;> intro hb <;> try simp only [ew] at hb | simp only [go_sem, simprocAttr, *, cImp, cAreDeps, cDep, cImp1, Tryz.results66])
theorem impS_ok : ContractOK E0 71 cImp := by
 refine cWpc (E := E0) (T := mkT Tryz.prog [(56, cAreDeps), (44, cDep), (107, cClo)] false (fun _ => false) true (fun _ => false)) (mkT_ok (E := E0) (.cons areDepsS_ok (.cons depS_ok (.cons cloSpec_ok .nil)))) (fn := Tryz.f71) Tryz.func71 (by kernel_rfl) rfl mixedT (by kernel_rfl) rfl ?_
 intro args p rs ms hr
 unfold cImp at hr
 dsimp only at hr
 split at hr
 rotate_left
 ·cases hr
 rename_i n l a b
 simp only [Option.some.injEq, Prod.mk.injEq] at hr
 obtain ⟨rfl, rfl, rfl⟩ := hr
 refine ⟨rfl, rfl, Nat.le_of_ble_eq_true rfl, ?_⟩
 have hm : maxLen = 9223372036854775807 := rfl
 rintro ⟨h1, hn1, hn2⟩ bs
 obtain ⟨ds, rfl, hx⟩ := h1.ex
 clear h1
 rw [unD_dL]
 unfold impB
 cases hv : (depsOK n ds && depOK n a b)
 ·(repeat' first | refine gA fun _ => ?_ | refine fkI ?_ ?_ <;> intro hb <;> try simp only [ew, hv] at hb | simp only [go_sem, simprocAttr, *, cImp, cAreDeps, cDep, cClo, Tryz.results71, hv])
 ·rw [Bool.and_eq_true] at hv
  have hd := depsOK_R hv.1
  obtain ⟨⟨a1, a2⟩, b1, b2⟩ := depOK_R hv.2
  obtain ⟨v1, v2⟩ := hv
  unfold hasB
  (repeat' first | refine gA fun _ => ?_ | refine fkI ?_ ?_ <;> intro hb <;> try simp only [ew] at hb | simp only [go_sem, simprocAttr, *, cImp, cAreDeps, cDep, cClo, Tryz.results71])
end Go.Own
