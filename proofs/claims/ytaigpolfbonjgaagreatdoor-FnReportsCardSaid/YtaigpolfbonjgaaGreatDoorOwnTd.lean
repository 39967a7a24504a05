/- Own contracts. Conditions: as each theorem states them. -/
import Derived.Test.YtaigpolfbonjgaaGreatDoorOwnG4
import Derived.Test.YtaigpolfbonjgaaGreatDoorOwnTc
import Derived.Test.YtaigpolfbonjgaaGreatDoorOwnTb
set_option linter.unusedSimpArgs false
set_option linter.unusedVariables false
set_option maxRecDepth 20000
set_option maxHeartbeats 2000000
namespace Go.Own
open Go Go.Proofs
attribute [local go_sem] unD_dL dL_length dL_get dL_set dL_inj wfD_dL scal2 beq2 pair_eta un3_d3L d3L_length d3L_get d3L_snoc scal3
def drL (n : Int) (ds : List (Int × Int)) (l r : Int) : List (Int × Int × Int) := if impB n ds l r then der ds r l else []
def cDer : Contract := ⟨[], false, fun
 | [.one (.v (.int .i64 n)), .one (.sl 2 l), .agg [.v (.int .i64 a), .v (.int .i64 b)]] => some (WfD l ∧ -9223372036854775808 ≤ n ∧ n ≤ 9223372036854775807,
   [⟨false, [.own 3 (d3L (drL n (unD l) a b)) 1]⟩, ⟨false, [.d (.v (.bool (impB n (unD l) a b)))]⟩], [])
 | _ => none⟩
def derI (ds : List (Int × Int)) (r : Int) (F : List (Int × Int × Int)) (i : Nat) (x : Int) (acc : List (Int × Int × Int)) : Prop := i ≤ ds.length ∧ R5 x ∧ (∀ j, j < i → appB x (ds.getD j (0, 0)) = false) ∧ acc ++ der ds r x = F
theorem derI_add {ds : List (Int × Int)} {r x : Int} {F acc : List (Int × Int × Int)} {i : Nat} (hd : ∀ d ∈ ds, depR d) (h : derI ds r F i x acc) (h5 : i < ds.length) (h0 : hasB x r = false) (ha : appB x (ds.getD i (0, 0)) = true) :
  derI ds r F 0 (addB x (ds.getD i (0, 0)).2) (acc ++ [((i : Int), x, addB x (ds.getD i (0, 0)).2)]) := by
 obtain ⟨h1, h2, h3, h4⟩ := h
 refine ⟨Nat.zero_le _, (appB_cnt hd h2 h5 ha).2, fun j hj => absurd hj (Nat.not_lt_zero _), ?_⟩
 rw [der_some hd h2 h0 (fstA_some h5 ha h3)] at h4
 rw [← h4]; simp
theorem derI_step {ds : List (Int × Int)} {r x : Int} {F acc : List (Int × Int × Int)} {i : Nat} (h : derI ds r F i x acc) (h5 : i < ds.length) (ha : appB x (ds.getD i (0, 0)) = false) : derI ds r F (i + 1) x acc := by
 obtain ⟨h1, h2, h3, h4⟩ := h
 refine ⟨h5, h2, fun j hj => ?_, h4⟩
 by_cases e : j = i
 ·subst e; exact ha
 ·exact h3 j (by omega)
theorem derI_has {ds : List (Int × Int)} {r x : Int} {F acc : List (Int × Int × Int)} {i : Nat} (h : derI ds r F i x acc) (h0 : hasB x r = true) : acc = F := by
 have := h.2.2.2
 rw [der_has h0, List.append_nil] at this; exact this
theorem derI_none {ds : List (Int × Int)} {r x : Int} {F acc : List (Int × Int × Int)} (h : derI ds r F ds.length x acc) : acc = F := by
 have := h.2.2.2
 rw [der_none (fstA_none h.2.2.1), List.append_nil] at this; exact this
theorem derI_len {ds : List (Int × Int)} {r x : Int} {F acc : List (Int × Int × Int)} {i : Nat} (h : derI ds r F i x acc) (hF : F.length ≤ 6) : acc.length ≤ 6 := by
 have := congrArg List.length h.2.2.2
 rw [List.length_append] at this
 omega
theorem der_len {ds : List (Int × Int)} {r x : Int} (hd : ∀ d ∈ ds, depR d) (hx : R5 x) : (der ds r x).length ≤ 6 := (derF_all hd hx).1
theorem derImpl_ok : ContractOK E0 30 cDer := by
 refine cWpc (E := E0) (T := mkT Tryz.prog [(66, cImp), (67, cHasB), (68, cInside)] false (fun _ => false) true (fun _ => false)) (mkT_ok (E := E0) (.cons impI_ok (.cons hasB_ok (.cons inside_ok .nil)))) (fn := Tryz.f30) Tryz.func30 (by kernel_rfl) rfl mixedT (by kernel_rfl) rfl ?_
 intro args p rs ms hr
 unfold cDer at hr
 dsimp only at hr
 split at hr
 rotate_left
 ·cases hr
 rename_i n l a b
 simp only [Option.some.injEq, Prod.mk.injEq] at hr
 obtain ⟨rfl, rfl, rfl⟩ := hr
 refine ⟨rfl, rfl, Nat.le_of_ble_eq_true rfl, ?_⟩
 have hm : maxLen = 9223372036854775807 := rfl
 rintro ⟨h1, hn1, hn2⟩ bs
 obtain ⟨ds, rfl, hx⟩ := h1.ex
 clear h1
 rw [unD_dL]
 unfold drL
 cases hv : impB n ds a b
 ·(repeat' first | refine gA fun _ => ?_ | refine fkI ?_ ?_ <;> intro hb <;> try simp only [ew, hv] at hb | simp only [go_sem, simprocAttr, *, cDer, cImp, cHasB, cInside, Tryz.results30, hv])
  all_goals first | rfl | exact ⟨rfl, rfl⟩ | skip
 ·have hv2 := hv
  simp only [impB, Bool.and_eq_true] at hv2
  have hd := depsOK_R hv2.1.1
  obtain ⟨⟨a1, a2⟩, b1, b2⟩ := depOK_R hv2.1.2
  clear hv2
  simp only [if_true]
  have hl := der_len (r := b) hd ⟨a1, a2⟩
  (repeat' first | refine gA fun _ => ?_ | refine fkI ?_ ?_ <;> intro hb <;> try simp only [ew, hv] at hb | simp only [go_sem, simprocAttr, *, cDer, cImp, cHasB, cInside, Tryz.results30, hv])
  clear hv
  generalize hF : der ds b a = F at hl
  refine lpI { ι := Nat × Int × List (Int × Int × Int), rs := [(11, 12), (20, 66)], mods := [(10, fun i => .one (.d (.v (.int .i64 i.1)))), (9, fun i => .one (.d (.v (.int .i64 i.2.1)))), (8, fun i => .one (.own 3 (d3L i.2.2) 1))], boxes := [(5, fun _ => [.d (.v (.int .i64 a)), .d (.v (.int .i64 b))])], arrs := [], ok := fun i => derI ds b F i.1 i.2.1 i.2.2, mu := fun i => cmu ds.length i.1 i.2.1 } rfl (0, a, []) ⟨Nat.zero_le _, ⟨a1, a2⟩, fun j hj => absurd hj (Nat.not_lt_zero _), hF⟩ ?_ ?_
  ·(repeat' first | refine gA fun _ => ?_ | refine fkI ?_ ?_ <;> intro hb <;> try simp only [ew] at hb | simp only [go_sem, simprocAttr, *, cDer, cImp, cHasB, cInside, Tryz.results30])
   all_goals first | rfl | skip
  ·rintro ⟨i, x, acc⟩ hi
   dsimp only at hi
   have hi1 := hi.1
   obtain ⟨x1, x2⟩ := hi.2.1
   have hal := derI_len hi hl
   clear hF
   by_cases h5 : i < ds.length
   ·cases h0 : hasB x b
    ·obtain ⟨⟨d1, d2⟩, d3, d4⟩ := depR_at hd h5
     have hs := shl5 ⟨d3, d4⟩
     cases ha : appB x (ds.getD i (0, 0))
     ·have hn := derI_step hi h5 ha
      have ha2 : (insB (ds.getD i (0, 0)).1 x && !hasB x (ds.getD i (0, 0)).2) = false := ha
      rw [insB_def] at ha2
      clear hi ha hd hs hl
      (repeat' first | refine gA fun _ => ?_ | refine fkI ?_ ?_ <;> intro hb <;> try simp only [ew, ha2, h0] at hb | simp only [go_sem, simprocAttr, *, cDer, cImp, cHasB, cInside, Tryz.results30, ha2, h0])
      refine lpN (i + 1, x, acc) hn (cmu_step h5) ?_
      clear hn
      (repeat' first | refine gA fun _ => ?_ | refine fkI ?_ ?_ <;> intro hb <;> try simp only [ew, ha2] at hb | simp only [go_sem, simprocAttr, *, cDer, cImp, cHasB, cInside, Tryz.results30, ha2])
     ·have hn := derI_add hd hi h5 h0 ha
      have hc := (appB_cnt hd ⟨x1, x2⟩ h5 ha).1
      have hb := bits_R ⟨x1, x2⟩ ⟨d3, d4⟩
      have ha2 : (insB (ds.getD i (0, 0)).1 x && !hasB x (ds.getD i (0, 0)).2) = true := ha
      rw [insB_def] at ha2
      have e : bitI .or .i64 x (1 * 2 ^ (ds.getD i (0, 0)).2.toNat) = addB x (ds.getD i (0, 0)).2 := rfl
      clear hi ha hd hl
      (repeat' first | refine gA fun _ => ?_ | refine fkI ?_ ?_ <;> intro hb <;> try simp only [ew, ha2, h0, e] at hb | simp only [go_sem, simprocAttr, *, cDer, cImp, cHasB, cInside, Tryz.results30, ha2, h0, e])
      refine lpN (0, addB x (ds.getD i (0, 0)).2, acc ++ [((i : Int), x, addB x (ds.getD i (0, 0)).2)]) hn (cmu_add hc h5) ?_
      clear hn hc
      (repeat' first | refine gA fun _ => ?_ | refine fkI ?_ ?_ <;> intro hb <;> try simp only [ew, ha2, e] at hb | simp only [go_sem, simprocAttr, *, cDer, cImp, cHasB, cInside, Tryz.results30, ha2, e])
      all_goals first | rfl | skip
    ·have e := derI_has hi h0
     clear hi hd
     subst e
     (repeat' first | refine gA fun _ => ?_ | refine fkI ?_ ?_ <;> intro hb <;> try simp only [ew, h0] at hb | simp only [go_sem, simprocAttr, *, cDer, cImp, cHasB, cInside, Tryz.results30, h0])
     all_goals first | rfl | exact ⟨rfl, rfl⟩ | skip
   ·have e5 : i = ds.length := by omega
    subst e5
    have e := derI_none hi
    clear hi hd
    subst e
    (repeat' first | refine gA fun _ => ?_ | refine fkI ?_ ?_ <;> intro hb <;> try simp only [ew] at hb | simp only [go_sem, simprocAttr, *, cDer, cImp, cHasB, cInside, Tryz.results30])
    all_goals first | rfl | exact ⟨rfl, rfl⟩ | skip
def derO (ds : List (Int × Int)) (a r : Int) (F : List (Int × Int × Int)) (x : Int) (acc : List (Int × Int × Int)) : Prop := R5 x ∧ leB a x ∧ acc ++ der ds r x = F
theorem has_eq0 {x r : Int} (hr : 0 ≤ r ∧ r ≤ 4) (hx : R5 x) : (bitI .and .i64 (x.fdiv (2 ^ r.toNat)) 1 == 0) = !hasB x r := by
 obtain ⟨r, rfl⟩ := c5 hr
 obtain ⟨x, rfl⟩ := hx.fin
 have : ∀ x : Fin 32, ∀ r : Fin 5, (bitI .and .i64 (((x.val : Nat) : Int).fdiv (2 ^ ((r.val : Nat) : Int).toNat)) 1 == 0) = !hasB ((x.val : Nat) : Int) ((r.val : Nat) : Int) := by decide +kernel
 exact this x r
theorem derSpec_ok : ContractOK E0 33 cDer := by
 refine cWpc (E := E0) (T := mkT Tryz.prog [(71, cImp)] false (fun _ => false) true (fun _ => false)) (mkT_ok (E := E0) (.cons impS_ok .nil)) (fn := Tryz.f33) Tryz.func33 (by kernel_rfl) rfl mixedT (by kernel_rfl) rfl ?_
 intro args p rs ms hr
 unfold cDer at hr
 dsimp only at hr
 split at hr
 rotate_left
 ·cases hr
 rename_i n l a b
 simp only [Option.some.injEq, Prod.mk.injEq] at hr
 obtain ⟨rfl, rfl, rfl⟩ := hr
 refine ⟨rfl, rfl, Nat.le_of_ble_eq_true rfl, ?_⟩
 have hm : maxLen = 9223372036854775807 := rfl
 rintro ⟨h1, hn1, hn2⟩ bs
 obtain ⟨ds, rfl, hx⟩ := h1.ex
 clear h1
 rw [unD_dL]
 unfold drL
 cases hv : impB n ds a b
 ·(repeat' first | refine gA fun _ => ?_ | refine fkI ?_ ?_ <;> intro hb <;> try simp only [ew, hv] at hb | simp only [go_sem, simprocAttr, *, cDer, cImp, Tryz.results33, hv])
  all_goals first | rfl | exact ⟨rfl, rfl⟩ | skip
 ·have hv2 := hv
  simp only [impB, Bool.and_eq_true] at hv2
  have hd := depsOK_R hv2.1.1
  obtain ⟨⟨a1, a2⟩, b1, b2⟩ := depOK_R hv2.1.2
  have hcl := hv2.2
  clear hv2
  simp only [if_true]
  have hl := der_len (r := b) hd ⟨a1, a2⟩
  (repeat' first | refine gA fun _ => ?_ | refine fkI ?_ ?_ <;> intro hb <;> try simp only [ew, hv] at hb | simp only [go_sem, simprocAttr, *, cDer, cImp, Tryz.results33, hv])
  clear hv
  generalize hF : der ds b a = F at hl
  refine lpI { ι := Int × List (Int × Int × Int), rs := [(10, 12), (21, 73)], mods := [(9, fun i => .one (.d (.v (.int .i64 i.1)))), (8, fun i => .one (.own 3 (d3L i.2) 1))], boxes := [(5, fun _ => [.d (.v (.int .i64 a)), .d (.v (.int .i64 b))])], arrs := [], ok := fun i => derO ds a b F i.1 i.2, mu := fun i => 5 - cntB i.1 } rfl (a, []) ⟨⟨a1, a2⟩, leB.refl _, hF⟩ ?_ ?_
  ·(repeat' first | refine gA fun _ => ?_ | refine fkI ?_ ?_ <;> intro hb <;> try simp only [ew] at hb | simp only [go_sem, simprocAttr, *, cDer, cImp, Tryz.results33])
   all_goals first | rfl | skip
  ·rintro ⟨x, acc⟩ hi
   dsimp only at hi
   obtain ⟨⟨x1, x2⟩, hle, hq⟩ := hi
   have hlen : acc.length ≤ 6 := by
    have := congrArg List.length hq
    rw [List.length_append] at this
    omega
   clear hF
   have e0 := has_eq0 (x := x) (r := b) ⟨b1, b2⟩ ⟨x1, x2⟩
   cases h0 : hasB x b
   ·rw [h0] at e0
    (repeat' first | refine gA fun _ => ?_ | refine fkI ?_ ?_ <;> intro hb <;> try simp only [ew, e0] at hb | simp only [go_sem, simprocAttr, *, cDer, cImp, Tryz.results33, e0])
    refine lpI { ι := Nat, rs := [(11, 12), (27, 73)], mods := [(10, fun i => .one (.d (.v (.int .i64 i)))), (9, fun _ => .one (.d (.v (.int .i64 x)))), (8, fun _ => .one (.own 3 (d3L acc) 1))], boxes := [(5, fun _ => [.d (.v (.int .i64 a)), .d (.v (.int .i64 b))])], arrs := [], ok := fun i => derI ds b F i x acc, mu := fun i => ds.length - i } rfl 0 ⟨Nat.zero_le _, ⟨x1, x2⟩, fun j hj => absurd hj (Nat.not_lt_zero _), hq⟩ ?_ ?_
    ·(repeat' first | refine gA fun _ => ?_ | refine fkI ?_ ?_ <;> intro hb <;> try simp only [ew] at hb | simp only [go_sem, simprocAttr, *, cDer, cImp, Tryz.results33])
     all_goals first | rfl | skip
    ·intro i hi
     dsimp only at i hi
     have hi1 := hi.1
     by_cases h5 : i < ds.length
     ·obtain ⟨⟨d1, d2⟩, d3, d4⟩ := depR_at hd h5
      have hs := shl5 ⟨d3, d4⟩
      have e1 := and_ins (l := (ds.getD i (0, 0)).1) (x := x) ⟨d1, d2⟩ ⟨x1, x2⟩
      have e2 := has_eq0 (x := x) (r := (ds.getD i (0, 0)).2) ⟨d3, d4⟩ ⟨x1, x2⟩
      cases ha : appB x (ds.getD i (0, 0))
      ·have hn := derI_step hi h5 ha
       have ha2 : (insB (ds.getD i (0, 0)).1 x && !hasB x (ds.getD i (0, 0)).2) = false := ha
       clear hi ha hd hs hl hq hle
       (repeat' first | refine gA fun _ => ?_ | refine fkI ?_ ?_ <;> intro hb <;> try simp only [ew, e1, e2, ha2] at hb | simp only [go_sem, simprocAttr, *, cDer, cImp, Tryz.results33, e1, e2, ha2])
       refine lpN (i + 1) hn (by dsimp only; omega) ?_
       clear hn
       (repeat' first | refine gA fun _ => ?_ | refine fkI ?_ ?_ <;> intro hb <;> try simp only [ew, e1, e2, ha2] at hb | simp only [go_sem, simprocAttr, *, cDer, cImp, Tryz.results33, e1, e2, ha2])
      ·have hn := derI_add hd hi h5 h0 ha
       have hc := (appB_cnt hd ⟨x1, x2⟩ h5 ha).1
       have hle2 := hle.trans (leB_add (r := (ds.getD i (0, 0)).2) ⟨x1, x2⟩ ⟨d3, d4⟩)
       have hb := bits_R ⟨x1, x2⟩ ⟨d3, d4⟩
       have ha2 : (insB (ds.getD i (0, 0)).1 x && !hasB x (ds.getD i (0, 0)).2) = true := ha
       have e : bitI .or .i64 x (1 * 2 ^ (ds.getD i (0, 0)).2.toNat) = addB x (ds.getD i (0, 0)).2 := rfl
       have hmu : 5 - cntB (addB x (ds.getD i (0, 0)).2) < 5 - cntB x := by
        have := cnt_le (addB x (ds.getD i (0, 0)).2)
        omega
       clear hi ha hd hl hq hle
       (repeat' first | refine gA fun _ => ?_ | refine fkI ?_ ?_ <;> intro hb <;> try simp only [ew, e1, e2, ha2, e] at hb | simp only [go_sem, simprocAttr, *, cDer, cImp, Tryz.results33, e1, e2, ha2, e])
       refine lpN (addB x (ds.getD i (0, 0)).2, acc ++ [((i : Int), x, addB x (ds.getD i (0, 0)).2)]) ⟨hn.2.1, hle2, hn.2.2.2⟩ hmu ?_
       clear hn hc hle2 hmu
       (repeat' first | refine gA fun _ => ?_ | refine fkI ?_ ?_ <;> intro hb <;> try simp only [ew, e1, e2, ha2, e] at hb | simp only [go_sem, simprocAttr, *, cDer, cImp, Tryz.results33, e1, e2, ha2, e])
     ·exfalso
      have e5 : i = ds.length := by omega
      subst e5
      have := app_ex hd ⟨a1, a2⟩ ⟨x1, x2⟩ ⟨b1, b2⟩ hle hcl hi.2.2.1
      rw [h0] at this; cases this
   ·rw [h0] at e0
    rw [der_has h0, List.append_nil] at hq
    clear hd hle
    subst hq
    (repeat' first | refine gA fun _ => ?_ | refine fkI ?_ ?_ <;> intro hb <;> try simp only [ew, e0] at hb | simp only [go_sem, simprocAttr, *, cDer, cImp, Tryz.results33, e0])
    all_goals first | rfl | exact ⟨rfl, rfl⟩ | skip
end Go.Own
namespace Go.Own
open Go Go.Proofs
attribute [local go_sem] unD_dL dL_length dL_get dL_set dL_inj wfD_dL scal2 beq2 pair_eta
theorem dL_snoc {xs : List (Int × Int)} {a b : Int} : dL xs ++ [[D.v (.int .i64 a), D.v (.int .i64 b)]] = dL (xs ++ [(a, b)]) := by simp [dL]
end Go.Own
