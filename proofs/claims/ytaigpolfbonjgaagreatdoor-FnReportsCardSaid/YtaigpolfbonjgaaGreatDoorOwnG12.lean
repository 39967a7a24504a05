import Derived.Test.YtaigpolfbonjgaaGreatDoorOwnTe
set_option linter.unusedSimpArgs false
set_option linter.unusedVariables false
set_option maxRecDepth 20000
set_option maxHeartbeats 2000000
namespace Go.Own
open Go Go.Proofs
attribute [local go_sem] unD_dL dL_length dL_get dL_set dL_inj wfD_dL scal2 beq2 pair_eta
def brB (ds : List (Int × Int)) (set al : Int) (d : Int × Int) : Bool := !insB set (clo ds d.1) && !hasB al d.2
def brk (n : Int) (ds : List (Int × Int)) (set al : Int) : Option (Int × Int) := (pdL n ds set).find? (brB ds set al)
def oDep (o : Option (Int × Int)) : Int × Int := o.getD (0, 0)
theorem find_drop {α : Type} {xs : List α} {i : Nat} (h : i < xs.length) (d : α) (f : α → Bool) : (xs.drop i).find? f = if f (xs.getD i d) = true then some (xs.getD i d) else (xs.drop (i + 1)).find? f := by
 rw [drop_getD h d, List.find?_cons]
 cases f (xs.getD i d) <;> simp
theorem and_key2 : ∀ l x : Fin 32, (bitI .and .i64 ((x.val : Nat) : Int) ((l.val : Nat) : Int) != ((l.val : Nat) : Int)) = !insB ((l.val : Nat) : Int) ((x.val : Nat) : Int) := by decide +kernel
theorem and_ins2 {l x : Int} (hl : R5 l) (hx : R5 x) : (bitI .and .i64 x l != l) = !insB l x := by
 obtain ⟨l, rfl⟩ := hl.fin; obtain ⟨x, rfl⟩ := hx.fin
 exact and_key2 l x
theorem hasB_zero {c : Int} (h : 0 ≤ c ∧ c ≤ 4) : hasB 0 c = false := by
 obtain ⟨c, rfl⟩ := c5 h
 have : ∀ c : Fin 5, hasB 0 ((c.val : Nat) : Int) = false := by decide +kernel
 exact this c
def cBrk : Contract := ⟨[], false, fun
 | [.one (.v (.int .i64 n)), .one (.sl 2 l), .one (.v (.int .i64 set)), .one (.v (.int .i64 al))] => some (WfD l ∧ depsOK n (unD l) = true ∧ isAttr n set = true,
   [⟨true, [.d (.v (.int .i64 (oDep (brk n (unD l) set al)).1)), .d (.v (.int .i64 (oDep (brk n (unD l) set al)).2))]⟩, ⟨false, [.d (.v (.bool (brk n (unD l) set al).isSome))]⟩], [])
 | _ => none⟩
theorem brk_ok : ContractOK E0 104 cBrk := by
 refine cWpc (E := E0) (T := mkT Tryz.prog [(142, cPd), (99, cClo), (68, cInside), (67, cHasB)] false (fun _ => false) true (fun _ => false)) (mkT_ok (E := E0) (.cons pdI_ok (.cons cloImpl_ok (.cons inside_ok (.cons hasB_ok .nil))))) (fn := Tryz.f104) Tryz.func104 (by kernel_rfl) rfl mixedT (by kernel_rfl) rfl ?_
 intro args p rs ms hr
 unfold cBrk at hr
 dsimp only at hr
 split at hr
 rotate_left
 ·cases hr
 rename_i n l set al
 simp only [Option.some.injEq, Prod.mk.injEq] at hr
 obtain ⟨rfl, rfl, rfl⟩ := hr
 refine ⟨rfl, rfl, Nat.le_of_ble_eq_true rfl, ?_⟩
 have hm : maxLen = 9223372036854775807 := rfl
 rintro ⟨h1, hv1, hv2⟩ bs
 obtain ⟨ds, rfl, hx⟩ := h1.ex
 clear h1
 rw [unD_dL] at hv1 ⊢
 have hd := depsOK_R hv1
 obtain ⟨n0, n5, s0, s31⟩ := isAttr_le hv2
 obtain ⟨L1, L2, L3⟩ := @pdL_facts n ds set
 have L1' : (pdL n ds set).length ≤ maxLen := Nat.le_trans L1 (by decide)
 unfold brk
 clear hv1 hv2
 (repeat' first | refine gA fun _ => ?_ | refine fkI ?_ ?_ <;> intro hb <;> try simp only [ew] at hb | simp only [go_sem, simprocAttr, *, cBrk, cPd, cClo, cInside, cHasB, Tryz.results104])
 generalize hL : pdL n ds set = L at L1 L1' L2 L3 ⊢
 generalize hF : L.find? (brB ds set al) = F
 refine lpI { ι := Nat, rs := [(9, 10), (11, 12), (18, 37)], mods := [(17, fun i => .one (.d (.v (.int .i64 i))))], boxes := [(8, fun _ => [.d (.v (.int .i64 0)), .d (.v (.int .i64 0))])], arrs := [(15, fun _ => (2, dL L, 1))], ok := fun i => i ≤ L.length ∧ (L.drop i).find? (brB ds set al) = F, mu := fun i => L.length - i } rfl 0 ⟨Nat.zero_le _, hF⟩ ?_ fun i hi => ?_
 ·clear hF
  (repeat' first | refine gA fun _ => ?_ | refine fkI ?_ ?_ <;> intro hb <;> try simp only [ew, hL] at hb | simp only [go_sem, simprocAttr, *, cBrk, cPd, cClo, cInside, cHasB, Tryz.results104, hL])
 ·dsimp only at i hi
  obtain ⟨hi, ht⟩ := hi
  clear hF hL
  by_cases h5 : i < L.length
  ·rw [find_drop h5 (0, 0)] at ht
   obtain ⟨⟨x0, x31⟩, r0, r4⟩ := L3 i h5
   have hc : brB ds set al (L.getD i (0, 0)) = (!insB set (clo ds (L.getD i (0, 0)).1) && !hasB al (L.getD i (0, 0)).2) := rfl
   rw [insB_def] at hc
   cases hq : brB ds set al (L.getD i (0, 0))
   ·rw [hq, if_neg (by decide)] at ht
    rw [hq] at hc
    replace hc := hc.symm
    clear hq L2 L3
    (repeat' first | refine gA fun _ => ?_ | refine fkI ?_ ?_ <;> intro hb <;> try simp only [ew, hc] at hb | simp only [go_sem, simprocAttr, *, cBrk, cPd, cClo, cInside, cHasB, Tryz.results104, hc])
    refine lpN (i + 1) ⟨by omega, ht⟩ (by dsimp only; omega) ?_
    clear ht
    (repeat' first | refine gA fun _ => ?_ | refine fkI ?_ ?_ <;> intro hb <;> try simp only [ew, hc] at hb | simp only [go_sem, simprocAttr, *, cBrk, cPd, cClo, cInside, cHasB, Tryz.results104, hc])
   ·rw [hq, if_pos rfl] at ht
    subst ht
    rw [hq] at hc
    replace hc := hc.symm
    clear hq L2 L3
    have e1 : oDep (some (L.getD i (0, 0))) = L.getD i (0, 0) := rfl
    (repeat' first | refine gA fun _ => ?_ | refine fkI ?_ ?_ <;> intro hb <;> try simp only [ew, hc, e1] at hb | simp only [go_sem, simprocAttr, *, cBrk, cPd, cClo, cInside, cHasB, Tryz.results104, hc, e1])
    all_goals first | rfl | exact ⟨rfl, rfl⟩ | exact ⟨⟨rfl, rfl⟩, rfl⟩ | skip
  ·have e5 : i = L.length := by omega
   subst e5
   rw [List.drop_length, List.find?_nil] at ht
   subst ht
   clear L2 L3
   (repeat' first | refine gA fun _ => ?_ | refine fkI ?_ ?_ <;> intro hb <;> try simp only [ew] at hb | simp only [go_sem, simprocAttr, *, cBrk, cPd, cClo, cInside, cHasB, Tryz.results104])
   all_goals first | rfl | exact ⟨rfl, rfl⟩ | exact ⟨⟨rfl, rfl⟩, rfl⟩ | skip
def cBad : Contract := ⟨[], false, fun
 | [.one (.v (.int .i64 n)), .one (.sl 2 l), .one (.v (.int .i64 set))] => some (WfD l ∧ -9223372036854775808 ≤ n ∧ n ≤ 9223372036854775807,
   [⟨true, [.d (.v (.int .i64 (oDep (brk n (unD l) set 0)).1)), .d (.v (.int .i64 (oDep (brk n (unD l) set 0)).2))]⟩, ⟨false, [.d (.v (.bool (brk n (unD l) set 0).isSome))]⟩], [])
 | _ => none⟩
theorem bad_ok : ContractOK E0 149 cBad := by
 refine cWpc (E := E0) (T := mkT Tryz.prog [(160, cPd), (107, cClo)] false (fun _ => false) true (fun _ => false)) (mkT_ok (E := E0) (.cons pdS_ok (.cons cloSpec_ok .nil))) (fn := Tryz.f149) Tryz.func149 (by kernel_rfl) rfl mixedT (by kernel_rfl) rfl ?_
 intro args p rs ms hr
 unfold cBad at hr
 dsimp only at hr
 split at hr
 rotate_left
 ·cases hr
 rename_i n l set
 simp only [Option.some.injEq, Prod.mk.injEq] at hr
 obtain ⟨rfl, rfl, rfl⟩ := hr
 refine ⟨rfl, rfl, Nat.le_of_ble_eq_true rfl, ?_⟩
 have hm : maxLen = 9223372036854775807 := rfl
 rintro ⟨h1, hn1, hn2⟩ bs
 obtain ⟨ds, rfl, hx⟩ := h1.ex
 clear h1
 rw [unD_dL]
 obtain ⟨L1, L2, L3⟩ := @pdL_facts n ds set
 have L1' : (pdL n ds set).length ≤ maxLen := Nat.le_trans L1 (by decide)
 have hv : (pdL n ds set).length ≠ 0 → (∀ d ∈ ds, depR d) ∧ 0 ≤ set ∧ set ≤ 31 := by
  intro h
  unfold pdL at h
  split at h
  ·rename_i hv
   rw [Bool.and_eq_true] at hv
   have := isAttr_le hv.2
   exact ⟨depsOK_R hv.1, this.2.2⟩
  ·exact absurd rfl h
 unfold brk
 (repeat' first | refine gA fun _ => ?_ | refine fkI ?_ ?_ <;> intro hb <;> try simp only [ew] at hb | simp only [go_sem, simprocAttr, *, cBad, cPd, cClo, Tryz.results149])
 generalize hL : pdL n ds set = L at L1 L1' L2 L3 hv ⊢
 generalize hF : L.find? (brB ds set 0) = F
 refine lpI { ι := Nat, rs := [(7, 8), (14, 35)], mods := [(9, fun i => .one (.d (.v (.int .i64 i))))], boxes := [(6, fun _ => [.d (.v (.int .i64 0)), .d (.v (.int .i64 0))])], arrs := [(8, fun _ => (2, dL L, 1))], ok := fun i => i ≤ L.length ∧ (L.drop i).find? (brB ds set 0) = F, mu := fun i => L.length - i } rfl 0 ⟨Nat.zero_le _, hF⟩ ?_ fun i hi => ?_
 ·clear hF hv
  (repeat' first | refine gA fun _ => ?_ | refine fkI ?_ ?_ <;> intro hb <;> try simp only [ew, hL] at hb | simp only [go_sem, simprocAttr, *, cBad, cPd, cClo, Tryz.results149, hL])
 ·dsimp only at i hi
  obtain ⟨hi, ht⟩ := hi
  clear hF hL
  by_cases h5 : i < L.length
  ·rw [find_drop h5 (0, 0)] at ht
   obtain ⟨hd, s0, s31⟩ := hv (by omega)
   obtain ⟨⟨x0, x31⟩, r0, r4⟩ := L3 i h5
   have hR := clo_R hd ⟨x0, x31⟩
   have ea := and_ins2 (l := set) (x := clo ds (L.getD i (0, 0)).1) ⟨s0, s31⟩ hR
   have hz := @hasB_zero (L.getD i (0, 0)).2 ⟨r0, r4⟩
   have hc : brB ds set 0 (L.getD i (0, 0)) = !insB set (clo ds (L.getD i (0, 0)).1) := by unfold brB; rw [hz, Bool.not_false, Bool.and_true]
   rw [← hc] at ea
   clear hc hz
   cases hq : brB ds set 0 (L.getD i (0, 0))
   ·rw [hq, if_neg (by decide)] at ht
    rw [hq] at ea
    clear hq L2 L3
    (repeat' first | refine gA fun _ => ?_ | refine fkI ?_ ?_ <;> intro hb <;> try simp only [ew, ea] at hb | simp only [go_sem, simprocAttr, *, cBad, cPd, cClo, Tryz.results149, ea])
    refine lpN (i + 1) ⟨by omega, ht⟩ (by dsimp only; omega) ?_
    clear ht
    (repeat' first | refine gA fun _ => ?_ | refine fkI ?_ ?_ <;> intro hb <;> try simp only [ew, ea] at hb | simp only [go_sem, simprocAttr, *, cBad, cPd, cClo, Tryz.results149, ea])
   ·rw [hq, if_pos rfl] at ht
    subst ht
    rw [hq] at ea
    clear hq L2 L3
    have e1 : oDep (some (L.getD i (0, 0))) = L.getD i (0, 0) := rfl
    (repeat' first | refine gA fun _ => ?_ | refine fkI ?_ ?_ <;> intro hb <;> try simp only [ew, ea, e1] at hb | simp only [go_sem, simprocAttr, *, cBad, cPd, cClo, Tryz.results149, ea, e1])
    all_goals first | rfl | exact ⟨rfl, rfl⟩ | exact ⟨⟨rfl, rfl⟩, rfl⟩ | skip
  ·have e5 : i = L.length := by omega
   subst e5
   rw [List.drop_length, List.find?_nil] at ht
   subst ht
   clear L2 L3 hv
   (repeat' first | refine gA fun _ => ?_ | refine fkI ?_ ?_ <;> intro hb <;> try simp only [ew] at hb | simp only [go_sem, simprocAttr, *, cBad, cPd, cClo, Tryz.results149])
   all_goals first | rfl | exact ⟨rfl, rfl⟩ | exact ⟨⟨rfl, rfl⟩, rfl⟩ | skip
end Go.Own
