import Derived.Test.YtaigpolfbonjgaaGreatDoorOwnTc
import Derived.Test.YtaigpolfbonjgaaGreatDoorOwnTd
import Derived.Test.YtaigpolfbonjgaaGreatDoorOwnY1
set_option linter.unusedSimpArgs false
set_option linter.unusedVariables false
set_option maxRecDepth 20000
set_option maxHeartbeats 2000000
namespace Go.Own
open Go Go.Proofs
def cHasPart : Contract := ⟨[], false, fun
 | [.one (.sl 1 l), .one (.v (.int .i64 x))] => some (WfI l, [⟨false, [.d (.v (.bool (anyIn (unI l) x)))]⟩], [])
 | _ => none⟩
theorem anyb_drop {α : Type} {xs : List α} {i : Nat} (h : i < xs.length) (d : α) (f : α → Bool) : (xs.drop i).any f = (f (xs.getD i d) || (xs.drop (i + 1)).any f) := by rw [drop_getD h d, List.any_cons]
theorem hasPart_ok : ContractOK E0 102 cHasPart := by
 refine cWpc (E := E0) (T := mkT Tryz.prog [(68, cInside)] false (fun _ => false) true (fun _ => false)) (mkT_ok (E := E0) (.cons inside_ok .nil)) (fn := Tryz.f102) Tryz.func102 (by kernel_rfl) rfl mixedT (by kernel_rfl) rfl ?_
 intro args p rs ms hr
 unfold cHasPart at hr
 dsimp only at hr
 split at hr
 rotate_left
 ·cases hr
 rename_i l x
 simp only [Option.some.injEq, Prod.mk.injEq] at hr
 obtain ⟨rfl, rfl, rfl⟩ := hr
 refine ⟨rfl, rfl, Nat.le_of_ble_eq_true rfl, ?_⟩
 have hm : maxLen = 9223372036854775807 := rfl
 intro h1 bs
 obtain ⟨xs, rfl, hx⟩ := h1.ex
 clear h1
 rw [unI_iL]
 unfold anyIn
 (repeat' first | refine gA fun _ => ?_ | refine fkI ?_ ?_ <;> intro hb <;> try simp only [ew] at hb | simp only [go_sem, simprocAttr, *, cHasPart, cInside, Tryz.results102])
 refine lpI { ι := Nat, rs := [(4, 5), (6, 7), (10, 17)], mods := [(9, fun i => .one (.d (.v (.int .i64 i))))], boxes := [], arrs := [], ok := fun i => i ≤ xs.length ∧ (xs.drop i).any (fun y => insB y x) = xs.any (fun y => insB y x), mu := fun i => xs.length - i } rfl 0 ⟨Nat.zero_le _, rfl⟩ ?_ fun i hi => ?_
 ·(repeat' first | refine gA fun _ => ?_ | refine fkI ?_ ?_ <;> intro hb <;> try simp only [ew] at hb | simp only [go_sem, simprocAttr, *, cHasPart, cInside, Tryz.results102])
 ·dsimp only at i hi
  obtain ⟨hi, ht⟩ := hi
  by_cases h5 : i < xs.length
  ·rw [anyb_drop h5 0] at ht
   cases hq : insB (xs.getD i 0) x
   ·rw [hq, Bool.false_or] at ht
    rw [insB_def] at hq
    (repeat' first | refine gA fun _ => ?_ | refine fkI ?_ ?_ <;> intro hb <;> try simp only [ew, hq] at hb | simp only [go_sem, simprocAttr, *, cHasPart, cInside, Tryz.results102, hq])
    refine lpN (i + 1) ⟨by omega, ht⟩ (by dsimp only; omega) ?_
    clear ht
    (repeat' first | refine gA fun _ => ?_ | refine fkI ?_ ?_ <;> intro hb <;> try simp only [ew, hq] at hb | simp only [go_sem, simprocAttr, *, cHasPart, cInside, Tryz.results102, hq])
   ·rw [hq, Bool.true_or] at ht
    rw [← ht]
    rw [insB_def] at hq
    clear ht
    (repeat' first | refine gA fun _ => ?_ | refine fkI ?_ ?_ <;> intro hb <;> try simp only [ew, hq] at hb | simp only [go_sem, simprocAttr, *, cHasPart, cInside, Tryz.results102, hq])
  ·have e5 : i = xs.length := by omega
   subst e5
   rw [List.drop_length, List.any_nil] at ht
   rw [← ht]
   clear ht
   (repeat' first | refine gA fun _ => ?_ | refine fkI ?_ ?_ <;> intro hb <;> try simp only [ew] at hb | simp only [go_sem, simprocAttr, *, cHasPart, cInside, Tryz.results102])
attribute [local go_sem] unD_dL dL_length dL_get dL_set dL_inj wfD_dL scal2 beq2 pair_eta
def cCov : Contract := ⟨[], false, fun
 | [.one (.sl 2 l), .agg [.v (.int .i64 a), .v (.int .i64 b)]] => some (WfD l, [⟨false, [.d (.v (.bool (cov (unD l) (a, b))))]⟩], [])
 | _ => none⟩
theorem cov_ok : ContractOK E0 136 cCov := by
 refine cWpc (E := E0) (T := mkT Tryz.prog [] false (fun _ => false) true (fun _ => false)) (mkT_ok (E := E0) .nil) (fn := Tryz.f136) Tryz.func136 (by kernel_rfl) rfl mixedT (by kernel_rfl) rfl ?_
 intro args p rs ms hr
 unfold cCov at hr
 dsimp only at hr
 split at hr
 rotate_left
 ·cases hr
 rename_i l a b
 simp only [Option.some.injEq, Prod.mk.injEq] at hr
 obtain ⟨rfl, rfl, rfl⟩ := hr
 refine ⟨rfl, rfl, Nat.le_of_ble_eq_true rfl, ?_⟩
 have hm : maxLen = 9223372036854775807 := rfl
 intro h1 bs
 obtain ⟨ds, rfl, hx⟩ := h1.ex
 clear h1
 rw [unD_dL]
 unfold cov
 (repeat' first | refine gA fun _ => ?_ | refine fkI ?_ ?_ <;> intro hb <;> try simp only [ew] at hb | simp only [go_sem, simprocAttr, *, cCov, Tryz.results136])
 refine lpI { ι := Nat, rs := [(4, 5), (6, 36)], mods := [(5, fun i => .one (.d (.v (.int .i64 i))))], boxes := [(3, fun _ => [.d (.v (.int .i64 a)), .d (.v (.int .i64 b))])], arrs := [], ok := fun i => i ≤ ds.length ∧ (ds.drop i).any (covB (a, b)) = ds.any (covB (a, b)), mu := fun i => ds.length - i } rfl 0 ⟨Nat.zero_le _, rfl⟩ ?_ fun i hi => ?_
 ·(repeat' first | refine gA fun _ => ?_ | refine fkI ?_ ?_ <;> intro hb <;> try simp only [ew] at hb | simp only [go_sem, simprocAttr, *, cCov, Tryz.results136])
 ·dsimp only at i hi
  obtain ⟨hi, ht⟩ := hi
  by_cases h5 : i < ds.length
  ·rw [anyb_drop h5 (0, 0)] at ht
   have hc : covB (a, b) (ds.getD i (0, 0)) = ((ds.getD i (0, 0)).2 == b && (bitI .and .i64 (ds.getD i (0, 0)).1 a == (ds.getD i (0, 0)).1)) := rfl
   cases hq : covB (a, b) (ds.getD i (0, 0))
   ·rw [hq, Bool.false_or] at ht
    rw [hq] at hc
    replace hc := hc.symm
    clear hq
    (repeat' first | refine gA fun _ => ?_ | refine fkI ?_ ?_ <;> intro hb <;> try simp only [ew, hc] at hb | simp only [go_sem, simprocAttr, *, cCov, Tryz.results136, hc])
    refine lpN (i + 1) ⟨by omega, ht⟩ (by dsimp only; omega) ?_
    clear ht
    (repeat' first | refine gA fun _ => ?_ | refine fkI ?_ ?_ <;> intro hb <;> try simp only [ew, hc] at hb | simp only [go_sem, simprocAttr, *, cCov, Tryz.results136, hc])
   ·rw [hq, Bool.true_or] at ht
    rw [← ht]
    rw [hq] at hc
    replace hc := hc.symm
    clear hq ht
    (repeat' first | refine gA fun _ => ?_ | refine fkI ?_ ?_ <;> intro hb <;> try simp only [ew, hc] at hb | simp only [go_sem, simprocAttr, *, cCov, Tryz.results136, hc])
  ·have e5 : i = ds.length := by omega
   subst e5
   rw [List.drop_length, List.any_nil] at ht
   rw [← ht]
   clear ht
   (repeat' first | refine gA fun _ => ?_ | refine fkI ?_ ?_ <;> intro hb <;> try simp only [ew] at hb | simp only [go_sem, simprocAttr, *, cCov, Tryz.results136])
def cPd : Contract := ⟨[], false, fun
 | [.one (.v (.int .i64 n)), .one (.sl 2 l), .one (.v (.int .i64 x))] => some (WfD l ∧ -9223372036854775808 ≤ n ∧ n ≤ 9223372036854775807, [⟨false, [.own 2 (dL (pdL n (unD l) x)) 1]⟩], [])
 | _ => none⟩
def pdI (p : Int → Int → Bool) (n : Int) (r : Nat) (i : Nat) (tk : List Int) : Prop := i ≤ (pbsI n).length ∧ (∀ y ∈ tk, 0 ≤ y ∧ y ≤ 31) ∧ tk.length ≤ i ∧ minR p r tk ((pbsI n).drop i) = minR p r [] (pbsI n)
theorem pdI_start {p : Int → Int → Bool} {n : Int} {r : Nat} : pdI p n r 0 [] := ⟨Nat.zero_le _, by simp, Nat.le_refl _, rfl⟩
theorem pdI_skip {p : Int → Int → Bool} {n : Int} {r i : Nat} {tk : List Int} (h : pdI p n r i tk) (h5 : i < (pbsI n).length) (hc : (!hasB ((pbsI n).getD i 0) r && !anyIn tk ((pbsI n).getD i 0) && p ((pbsI n).getD i 0) r) = false) : pdI p n r (i + 1) tk := by
 obtain ⟨h1, h2, h3, h4⟩ := h
 refine ⟨h5, h2, by omega, ?_⟩
 rw [minR_go h5, hc, if_neg (by decide)] at h4
 exact h4
theorem pdI_take {p : Int → Int → Bool} {n : Int} {r i : Nat} {tk : List Int} (h : pdI p n r i tk) (h5 : i < (pbsI n).length) (hc : (!hasB ((pbsI n).getD i 0) r && !anyIn tk ((pbsI n).getD i 0) && p ((pbsI n).getD i 0) r) = true) : pdI p n r (i + 1) (tk ++ [(pbsI n).getD i 0]) := by
 obtain ⟨h1, h2, h3, h4⟩ := h
 refine ⟨h5, fun y hy => ?_, by rw [List.length_append]; simp; omega, ?_⟩
 ·rcases List.mem_append.1 hy with hy | hy
  ·exact h2 y hy
  ·rw [List.mem_singleton] at hy
   subst hy
   exact (@pbsI_facts n).2.2 i h5
 ·rw [minR_go h5, hc, if_pos rfl] at h4
  exact h4
theorem pdI_end {p : Int → Int → Bool} {n : Int} {r : Nat} {tk : List Int} (h : pdI p n r (pbsI n).length tk) : tk.map (fun x => (x, (r : Int))) = minC p n r := by
 obtain ⟨h1, h2, h3, h4⟩ := h
 rw [List.drop_length, minR] at h4
 unfold minC
 rw [← h4]
theorem minT_step {p : Int → Int → Bool} {n : Int} {r : Nat} {tk : List Int} (h : pdI p n r (pbsI n).length tk) : minT p n r ++ tk.map (fun x => (x, (r : Int))) = minT p n (r + 1) := by rw [pdI_end h]; rfl
theorem minT_skip {p : Int → Int → Bool} {n : Int} {r : Nat} (h : ∀ x, p x r = false) : minT p n r = minT p n (r + 1) := by rw [minT, minC_none h, List.append_nil]
theorem acc_snoc {T : List (Int × Int)} {tk : List Int} {x r : Int} : T ++ (tk ++ [x]).map (fun x => (x, r)) = (T ++ tk.map fun x => (x, r)) ++ [(x, r)] := by simp
theorem acc_len {p : Int → Int → Bool} {n : Int} {r i : Nat} {tk : List Int} (hr : r < 5) (h : pdI p n r i tk) : (minT p n r ++ tk.map fun x => (x, (r : Int))).length ≤ 256 ∧ tk.length ≤ 32 := by
 have h1 := @minT_length p n r
 have h2 := (@pbsI_facts n).1
 have h3 := h.1
 have h4 := h.2.2.1
 rw [List.length_append, List.length_map]
 omega
theorem pdS_ok : ContractOK E0 160 cPd := by
 refine cWpc (E := E0) (T := mkT Tryz.prog [(56, cAreDeps), (88, cIsAttr), (155, cPbs), (107, cClo), (136, cCov)] false (fun _ => false) true (fun _ => false)) (mkT_ok (E := E0) (.cons areDepsS_ok (.cons isAttrS_ok (.cons pbsS_ok (.cons cloSpec_ok (.cons cov_ok .nil)))))) (fn := Tryz.f160) Tryz.func160 (by kernel_rfl) rfl mixedT (by kernel_rfl) rfl ?_
 intro args p rs ms hr
 unfold cPd at hr
 dsimp only at hr
 split at hr
 rotate_left
 ·cases hr
 rename_i n l set
 simp only [Option.some.injEq, Prod.mk.injEq] at hr
 obtain ⟨rfl, rfl, rfl⟩ := hr
 refine ⟨rfl, rfl, Nat.le_of_ble_eq_true rfl, ?_⟩
 have hm : maxLen = 9223372036854775807 := rfl
 rintro ⟨h1, hn1, hn2⟩ bs
 obtain ⟨ds, rfl, hx⟩ := h1.ex
 clear h1
 rw [unD_dL]
 cases hv : (depsOK n ds && isAttr n set)
 ·have e3 : (!depsOK n ds || !isAttr n set) = true := by rw [← Bool.not_and, hv]; rfl
  have e : pdL n ds set = [] := by unfold pdL; rw [hv]; rfl
  have e0 : dL [] = [] := rfl
  rw [e]
  clear e hv
  (repeat' first | refine gA fun _ => ?_ | refine fkI ?_ ?_ <;> intro hb <;> try simp only [ew, e3, e0] at hb | simp only [go_sem, simprocAttr, *, cPd, cAreDeps, cIsAttr, cPbs, cClo, cCov, Tryz.results160, e3, e0])
 ·have e3 : (!depsOK n ds || !isAttr n set) = false := by rw [← Bool.not_and, hv]; rfl
  have e : pdL n ds set = minT (pjB ds set) n n.toNat := by unfold pdL; rw [hv]; rfl
  rw [e]
  rw [Bool.and_eq_true] at hv
  have hd := depsOK_R hv.1
  obtain ⟨n0, n5, s0, s31⟩ := isAttr_le hv.2
  clear hv e
  obtain ⟨c, rfl⟩ := Int.eq_ofNat_of_zero_le n0
  rw [Int.toNat_natCast]
  obtain ⟨P1, P2, P3⟩ := @pbsI_facts c
  have P1' : (pbsI c).length ≤ maxLen := Nat.le_trans P1 (by decide)
  (repeat' first | refine gA fun _ => ?_ | refine fkI ?_ ?_ <;> intro hb <;> try simp only [ew, e3] at hb | simp only [go_sem, simprocAttr, *, cPd, cAreDeps, cIsAttr, cPbs, cClo, cCov, Tryz.results160, e3])
  clear e3
  refine lpI { ι := Nat, rs := [(10, 12), (26, 91)], mods := [(9, fun r => .one (.d (.v (.int .i64 r)))), (7, fun r => .one (.own 2 (dL (minT (pjB ds set) c r)) 1))], boxes := [], arrs := [(8, fun _ => (1, iL (pbsI c), 1))], ok := fun r => r ≤ c, mu := fun r => c - r } rfl 0 (Nat.zero_le _) ?_ fun r hr => ?_
  ·(repeat' first | refine gA fun _ => ?_ | refine fkI ?_ ?_ <;> intro hb <;> try simp only [ew] at hb | simp only [go_sem, simprocAttr, *, cPd, cAreDeps, cIsAttr, cPbs, cClo, cCov, Tryz.results160])
   all_goals first | rfl | skip
  ·dsimp only at r hr
   by_cases h5 : r < c
   ·have hr5 : r < 5 := by omega
    have hp := p5 (c := r) hr5
    have e0 := has_eq0 (x := set) (r := (r : Nat)) ⟨by omega, by omega⟩ ⟨s0, s31⟩
    rw [Int.toNat_natCast] at e0
    have l0 := @minT_length (pjB ds set) c r
    have l1 : (minT (pjB ds set) c r).length ≤ 256 := by omega
    clear l0
    cases hs : hasB set (r : Nat)
    ·rw [hs] at e0
     have e2 : minT (pjB ds set) c r = minT (pjB ds set) c (r + 1) := minT_skip fun x => by unfold pjB; rw [hs, Bool.and_false, Bool.false_and]
     clear hs
     (repeat' first | refine gA fun _ => ?_ | refine fkI ?_ ?_ <;> intro hb <;> try simp only [ew, bits64, e0] at hb | simp only [go_sem, simprocAttr, *, cPd, cAreDeps, cIsAttr, cPbs, cClo, cCov, Tryz.results160, bits64, e0])
     refine lpN (r + 1) (by dsimp only; omega) (by dsimp only; omega) ?_
     clear e0
     (repeat' first | refine gA fun _ => ?_ | refine fkI ?_ ?_ <;> intro hb <;> try simp only [ew, e2] at hb | simp only [go_sem, simprocAttr, *, cPd, cAreDeps, cIsAttr, cPbs, cClo, cCov, Tryz.results160, e2])
    ·rw [hs] at e0
     (repeat' first | refine gA fun _ => ?_ | refine fkI ?_ ?_ <;> intro hb <;> try simp only [ew, bits64, e0] at hb | simp only [go_sem, simprocAttr, *, cPd, cAreDeps, cIsAttr, cPbs, cClo, cCov, Tryz.results160, bits64, e0])
     clear e0
     refine lpI { ι := Nat × List Int, rs := [(11, 12), (36, 91)], mods := [(10, fun i => .one (.d (.v (.int .i64 i.1)))), (7, fun i => .one (.own 2 (dL (minT (pjB ds set) c r ++ i.2.map fun x => (x, (r : Int)))) 1))], boxes := [], arrs := [(8, fun _ => (1, iL (pbsI c), 1))], ok := fun i => pdI (pjB ds set) c r i.1 i.2, mu := fun i => (pbsI c).length - i.1 } rfl (0, []) pdI_start ?_ ?_
     ·have e1 : minT (pjB ds set) c r ++ ([] : List Int).map (fun x => (x, (r : Int))) = minT (pjB ds set) c r := by simp
      (repeat' first | refine gA fun _ => ?_ | refine fkI ?_ ?_ <;> intro hb <;> try simp only [ew, e1] at hb | simp only [go_sem, simprocAttr, *, cPd, cAreDeps, cIsAttr, cPbs, cClo, cCov, Tryz.results160, e1])
     ·rintro ⟨i, tk⟩ hi
      dsimp only at hi
      have hi1 := hi.1
      have htk := hi.2.1
      obtain ⟨a1, a2⟩ := acc_len hr5 hi
      by_cases h6 : i < (pbsI c).length
      ·obtain ⟨x0, x31⟩ := P3 i h6
       have hcov := fun T hT => @cov_min T tk ((pbsI c).getD i 0) r hT htk ⟨x0, x31⟩
       have hcv := hcov (minT (pjB ds set) c r) fun d hd => (minT_mem hd).2.1.2
       have hsk := pdI_skip hi h6
       have htak := pdI_take hi h6
       generalize hX : (pbsI c).getD i 0 = x at x0 x31 hcv hsk htak
       have ex := and_ins (l := x) (x := set) ⟨x0, x31⟩ ⟨s0, s31⟩
       have eh := has_eq0 (x := x) (r := (r : Nat)) ⟨by omega, by omega⟩ ⟨x0, x31⟩
       have hclo : R5 (clo ds x) := clo_R hd ⟨x0, x31⟩
       obtain ⟨y0, y31⟩ := hclo
       have ec : (bitI .and .i64 ((clo ds x).fdiv (2 ^ r)) 1 == 1) = hasB (clo ds x) (r : Nat) := by unfold hasB; rw [Int.toNat_natCast]
       rw [Int.toNat_natCast] at eh
       have ep : pjB ds set x (r : Nat) = (insB x set && hasB (clo ds x) (r : Nat)) := by unfold pjB; rw [hs, Bool.and_true]
       rw [ep] at hsk htak
       clear hcov ep hi htk
       have eT := @acc_snoc (minT (pjB ds set) c r) tk x r
       generalize hA : minT (pjB ds set) c r ++ tk.map (fun x => (x, (r : Int))) = acc at a1 hcv eT
       cases hg : (!hasB x (r : Nat) && !anyIn tk x && (insB x set && hasB (clo ds x) (r : Nat)))
       ·have hsk := hsk hg
        have hg2 : (insB x set && !hasB x (r : Nat) && hasB (clo ds x) (r : Nat) && !anyIn tk x) = false := by
         rw [← hg]; cases hasB x (r : Nat) <;> cases anyIn tk x <;> cases insB x set <;> cases hasB (clo ds x) (r : Nat) <;> rfl
        clear htak hg eT
        (repeat' first | refine gA fun _ => ?_ | refine fkI ?_ ?_ <;> intro hb <;> try simp only [ew, bits64, hX, hA, ex, eh, ec, hcv, hg2] at hb | simp only [go_sem, simprocAttr, *, cPd, cAreDeps, cIsAttr, cPbs, cClo, cCov, Tryz.results160, bits64, hX, hA, ex, eh, ec, hcv, hg2])
        refine lpN (i + 1, tk) hsk (by dsimp only; omega) ?_
        clear hsk
        (repeat' first | refine gA fun _ => ?_ | refine fkI ?_ ?_ <;> intro hb <;> try simp only [ew, hA] at hb | simp only [go_sem, simprocAttr, *, cPd, cAreDeps, cIsAttr, cPbs, cClo, cCov, Tryz.results160, hA])
       ·have htak := htak hg
        have hg2 : (insB x set && !hasB x (r : Nat) && hasB (clo ds x) (r : Nat) && !anyIn tk x) = true := by
         rw [← hg]; cases hasB x (r : Nat) <;> cases anyIn tk x <;> cases insB x set <;> cases hasB (clo ds x) (r : Nat) <;> rfl
        clear hsk hg
        (repeat' first | refine gA fun _ => ?_ | refine fkI ?_ ?_ <;> intro hb <;> try simp only [ew, bits64, hX, hA, ex, eh, ec, hcv, hg2, dL_snoc] at hb | simp only [go_sem, simprocAttr, *, cPd, cAreDeps, cIsAttr, cPbs, cClo, cCov, Tryz.results160, bits64, hX, hA, ex, eh, ec, hcv, hg2, dL_snoc])
        refine lpN (i + 1, tk ++ [x]) htak (by dsimp only; omega) ?_
        clear htak
        (repeat' first | refine gA fun _ => ?_ | refine fkI ?_ ?_ <;> intro hb <;> try simp only [ew, hX, hA, eT, dL_snoc] at hb | simp only [go_sem, simprocAttr, *, cPd, cAreDeps, cIsAttr, cPbs, cClo, cCov, Tryz.results160, hX, hA, eT, dL_snoc])
      ·have e5 : i = (pbsI c).length := by omega
       subst e5
       have e2 := minT_step hi
       clear hi htk
       (repeat' first | refine gA fun _ => ?_ | refine fkI ?_ ?_ <;> intro hb <;> try simp only [ew] at hb | simp only [go_sem, simprocAttr, *, cPd, cAreDeps, cIsAttr, cPbs, cClo, cCov, Tryz.results160])
       refine lpN (r + 1) (by dsimp only; omega) (by dsimp only; omega) ?_
       (repeat' first | refine gA fun _ => ?_ | refine fkI ?_ ?_ <;> intro hb <;> try simp only [ew, e2] at hb | simp only [go_sem, simprocAttr, *, cPd, cAreDeps, cIsAttr, cPbs, cClo, cCov, Tryz.results160, e2])
   ·have e5 : r = c := by omega
    subst e5
    (repeat' first | refine gA fun _ => ?_ | refine fkI ?_ ?_ <;> intro hb <;> try simp only [ew] at hb | simp only [go_sem, simprocAttr, *, cPd, cAreDeps, cIsAttr, cPbs, cClo, cCov, Tryz.results160])
end Go.Own
