/-
  Searches: a step, what a search is. Conditions: as each theorem states them.
-/
import Derived.Test.YtaigpolfbonjgaaGreatDoorOwnTf
import Derived.Test.YtaigpolfbonjgaaGreatDoorOwnG9
set_option linter.unusedSimpArgs false
set_option linter.unusedVariables false
set_option maxRecDepth 20000
set_option maxHeartbeats 4000000
namespace Go.Own
open Go Go.Proofs
theorem rq1 : (true == false) = false := rfl
theorem rq2 : (false == true) = false := rfl
theorem rq3 : (true == true) = true := rfl
theorem rq4 : (false == false) = true := rfl
attribute [local go_sem] rq1 rq2 rq3 rq4 unD_dL dL_length dL_get dL_set dL_inj wfD_dL scal2 beq2 pair_eta dL_scal
theorem cd_ask {c a : Nat} {rs : List (List Int)} {m : Int} (hc : 1 ≤ c ∧ c ≤ 5) (ha : a < c * 2 ^ c) (h : (tabOK c rs && modeOK m) = true) : askOK c rs m (cdD c a).1 (cdD c a).2 = true := by
 obtain ⟨h1, h2⟩ := cd_at hc ha
 have h3 : (cdD c a).1 ∈ pbs c := by
  unfold cdD pbsI
  rw [if_pos (inB_iff.2 ⟨by omega, by omega⟩), Int.toNat_natCast]
  have : a / c < (pbs c).length := by
   unfold pbsI at h1
   rw [if_pos (inB_iff.2 ⟨by omega, by omega⟩), Int.toNat_natCast] at h1
   exact h1
  exact getD_mem this 0
 have h4 := (pbs_key ⟨c, by omega⟩).2 _ h3
 dsimp only at h4
 unfold askOK
 rw [h, Bool.true_and]
 simp only [depOK, isAttr, Bool.and_eq_true, inB_iff, all2, Int.toNat_natCast]
 have h5 : (cdD c a).2 = ((a % c : Nat) : Int) := rfl
 rw [h5]
 omega
theorem covB_ins {d e : Int × Int} (hd : R5 d.1) (he : R5 e.1) : covB d e = (e.2 == d.2 && insB e.1 d.1) := by
 unfold covB
 rw [and_ins he hd]
def cStep8 : Contract := ⟨[], true, fun
 | [.agg [.v (.int .i64 c), .sl 1 l, .v (.int .i64 m), .v (.int .i64 a), .sl 2 q, .v (.int .i64 t)]] => some ((WfS l ∧ WfD q) ∧ (tabOK c (unS l) && modeOK m) = true ∧ (0 ≤ a ∧ a < c * 2 ^ c.toNat) ∧ (∀ d ∈ unD q, depR d) ∧ q.length ≤ 160 ∧ 0 ≤ t ∧ t ≤ 160,
   [⟨true, [.d (.v (.int .i64 c)), .d (.sl 1 l), .d (.v (.int .i64 m)), .d (.v (.int .i64 (a + 1))), .d (.sl 2 (dL (srS c.toNat (unS l) m (cdD c.toNat a.toNat) (unD q, t.toNat)).1)), .d (.v (.int .i64 ((srS c.toNat (unS l) m (cdD c.toNat a.toNat) (unD q, t.toNat)).2 : Nat)))]⟩], [])
 | _ => none⟩
theorem step8_ok : ContractOK E0 94 cStep8 := by
 refine cWpc (E := E0) (T := mkT Tryz.prog [(132, cCd8), (67, cHasB), (68, cInside), (133, cHold), (134, cCopyD)] false (fun _ => false) true (fun d => d == 998 || d == 1 || d == 3)) (mkT_ok (E := E0) (.cons cdI8_ok (.cons hasB_ok (.cons inside_ok (.cons holdI_ok (.cons copyD_ok .nil)))))) (fn := Tryz.f94) Tryz.func94 (by kernel_rfl) rfl mixedT (by kernel_rfl) rfl ?_
 intro args p rs ms hr
 unfold cStep8 at hr
 dsimp only at hr
 split at hr
 rotate_left
 ·cases hr
 rename_i c l m a q t
 simp only [Option.some.injEq, Prod.mk.injEq] at hr
 obtain ⟨rfl, rfl, rfl⟩ := hr
 refine ⟨rfl, rfl, Nat.le_of_ble_eq_true rfl, ?_⟩
 have hm : maxLen = 9223372036854775807 := rfl
 rintro ⟨⟨h1, h2⟩, htm, ⟨ha0, ha1⟩, hq, hq1, ht0, ht1⟩ bs
 obtain ⟨rs, rfl, hx, hy⟩ := h1.ex
 obtain ⟨ds, rfl, hd⟩ := h2.ex
 clear h1 h2
 rw [unS_sL] at htm ⊢
 rw [unD_dL] at hq ⊢
 rw [dL_length] at hq1
 obtain ⟨n, rfl, hn, hr1, hr2⟩ := hd_tab htm
 obtain ⟨k, rfl⟩ := Int.eq_ofNat_of_zero_le ha0
 obtain ⟨u, rfl⟩ := Int.eq_ofNat_of_zero_le ht0
 rw [Int.toNat_natCast] at ha1
 rw [Int.toNat_natCast, Int.toNat_natCast, Int.toNat_natCast]
 have ha1' : k < n * 2 ^ n := by exact_mod_cast ha1
 have hb := cnt_bound hn.2
 have hask := cd_ask hn ha1' htm
 have hR := cd_R hn ha1'
 have hn' : (1 : Int) ≤ (n : Int) ∧ (n : Int) ≤ 5 := by omega
 generalize hD : cdD n k = d at hask hR ⊢
 obtain ⟨x, r⟩ := d
 obtain ⟨hx5, hr0, hr4⟩ := hR
 dsimp only at hask hx5 hr0 hr4
 have hcv : ∀ i, i < ds.length → covB (x, r) (ds.getD i (0, 0)) = ((ds.getD i (0, 0)).2 == r && insB (ds.getD i (0, 0)).1 x) := fun i hi => covB_ins hx5 (hq _ (getD_mem hi _)).1
 have es : srS n rs m (x, r) (ds, u) = if hasB x r || cov ds (x, r) then (ds, u) else if hdB (n : Int) rs m x r then (ds ++ [(x, r)], u + 1) else (ds, u + 1) := rfl
 rw [es]
 clear es hq
 cases hh : hasB x r
 ·rw [Bool.false_or]
  have e0 : dL [] = [] := rfl
  unfold cov
  (repeat' first | refine gA fun _ => ?_ | refine fkI ?_ ?_ <;> intro hb <;> try simp only [ew, hD, hh, e0] at hb | simp only [go_sem, simprocAttr, *, cStep8, cCd8, cHasB, cInside, cHold, cCopyD, Tryz.results94, hD, hh, e0])
  refine lpI { ι := Nat, rs := [(5, 6), (26, 43)], mods := [(25, fun i => .one (.d (.v (.int .i64 i))))], boxes := [(1, fun _ => [.d (.v (.int .i64 n)), .d (.sl 1 (sL rs)), .d (.v (.int .i64 m)), .d (.v (.int .i64 (k + 1))), .d (.sl 2 (dL ds)), .d (.v (.int .i64 u))]), (2, fun _ => [.d (.v (.int .i64 0)), .d (.v (.slice none 0 0)), .d (.v (.int .i64 0)), .d (.v (.int .i64 0)), .d (.v (.slice none 0 0)), .d (.v (.int .i64 0))]), (3, fun _ => [.d (.v (.int .i64 x)), .d (.v (.int .i64 r))])], arrs := [], ok := fun i => i ≤ ds.length ∧ (ds.drop i).any (covB (x, r)) = ds.any (covB (x, r)), mu := fun i => ds.length - i } rfl 0 ⟨Nat.zero_le _, rfl⟩ ?_ fun i hi => ?_
  ·(repeat' first | refine gA fun _ => ?_ | refine fkI ?_ ?_ <;> intro hb <;> try simp only [ew, e0] at hb | simp only [go_sem, simprocAttr, *, cStep8, cCd8, cHasB, cInside, cHold, cCopyD, Tryz.results94, e0])
   all_goals first | rfl | skip
  ·dsimp only at i hi
   obtain ⟨hi, ht⟩ := hi
   by_cases h5 : i < ds.length
   ·rw [anyb_drop h5 (0, 0)] at ht
    have hc := hcv i h5
    cases hv : covB (x, r) (ds.getD i (0, 0))
    ·rw [hv, Bool.false_or] at ht
     rw [hv, insB_def] at hc
     replace hc := hc.symm
     clear hv hcv
     (repeat' first | refine gA fun _ => ?_ | refine fkI ?_ ?_ <;> intro hb <;> try simp only [ew, hc] at hb | simp only [go_sem, simprocAttr, *, cStep8, cCd8, cHasB, cInside, cHold, cCopyD, Tryz.results94, hc])
     refine lpN (i + 1) ⟨by omega, ht⟩ (by dsimp only; omega) ?_
     clear ht
     (repeat' first | refine gA fun _ => ?_ | refine fkI ?_ ?_ <;> intro hb <;> try simp only [ew, hc] at hb | simp only [go_sem, simprocAttr, *, cStep8, cCd8, cHasB, cInside, cHold, cCopyD, Tryz.results94, hc])
    ·rw [hv, Bool.true_or] at ht
     rw [← ht, if_pos rfl]
     rw [hv, insB_def] at hc
     replace hc := hc.symm
     clear hv ht hcv
     (repeat' first | refine gA fun _ => ?_ | refine fkI ?_ ?_ <;> intro hb <;> try simp only [ew, hc] at hb | simp only [go_sem, simprocAttr, *, cStep8, cCd8, cHasB, cInside, cHold, cCopyD, Tryz.results94, hc])
     all_goals first | rfl | skip
   ·have e5 : i = ds.length := by omega
    subst e5
    rw [List.drop_length, List.any_nil] at ht
    rw [← ht, if_neg (by decide)]
    clear ht hcv
    cases hh2 : hdB (n : Int) rs m x r
    ·rw [if_neg (by decide)]
     (repeat' first | refine gA fun _ => ?_ | refine fkI ?_ ?_ <;> intro hb <;> try simp only [ew, hh2] at hb | simp only [go_sem, simprocAttr, *, cStep8, cCd8, cHasB, cInside, cHold, cCopyD, Tryz.results94, hh2])
     all_goals first | rfl | skip
    ·rw [if_pos rfl]
     (repeat' first | refine gA fun _ => ?_ | refine fkI ?_ ?_ <;> intro hb <;> try simp only [ew, hh2, dL_snoc] at hb | simp only [go_sem, simprocAttr, *, cStep8, cCd8, cHasB, cInside, cHold, cCopyD, Tryz.results94, hh2, dL_snoc])
     all_goals first | rfl | skip
 ·rw [Bool.true_or, if_pos rfl]
  clear hcv
  (repeat' first | refine gA fun _ => ?_ | refine fkI ?_ ?_ <;> intro hb <;> try simp only [ew, hD, hh] at hb | simp only [go_sem, simprocAttr, *, cStep8, cCd8, cHasB, cInside, cHold, cCopyD, Tryz.results94, hD, hh])
  all_goals first | rfl | skip
def nsC (c : Int) (rs : List (List Int)) (m : Int) : Int := if (tabOK c rs && modeOK m) then c else 0
def nsL (c : Int) (rs : List (List Int)) (m : Int) : List (List Int) := if (tabOK c rs && modeOK m) then rs else []
def nsM (c : Int) (rs : List (List Int)) (m : Int) : Int := if (tabOK c rs && modeOK m) then m else 0
def cNewS : Contract := ⟨[], false, fun
 | [.agg [.v (.int .i64 c), .sl 1 l], .one (.v (.int .i64 m))] => some (WfS l ∧ -9223372036854775808 ≤ c ∧ c ≤ 9223372036854775807,
   [⟨true, [.d (.v (.int .i64 (nsC c (unS l) m))), .d (.sl 1 (sL (nsL c (unS l) m))), .d (.v (.int .i64 (nsM c (unS l) m))), .d (.v (.int .i64 0)), .d (.sl 2 []), .d (.v (.int .i64 0))]⟩, ⟨false, [.d (.v (.bool (tabOK c (unS l) && modeOK m)))]⟩], [])
 | _ => none⟩
theorem newS_ok : ContractOK E0 92 cNewS := by
 refine cWpc (E := E0) (T := mkT Tryz.prog [(79, cIsTableS), (80, cMode), (131, cCopyT)] false (fun _ => false) true (fun _ => false)) (mkT_ok (E := E0) (.cons isTableI_ok (.cons modeI_ok (.cons copyTI_ok .nil)))) (fn := Tryz.f92) Tryz.func92 (by kernel_rfl) rfl mixedT (by kernel_rfl) rfl ?_
 intro args p rs ms hr
 unfold cNewS at hr
 dsimp only at hr
 split at hr
 rotate_left
 ·cases hr
 rename_i c l m
 simp only [Option.some.injEq, Prod.mk.injEq] at hr
 obtain ⟨rfl, rfl, rfl⟩ := hr
 refine ⟨rfl, rfl, Nat.le_of_ble_eq_true rfl, ?_⟩
 have hm : maxLen = 9223372036854775807 := rfl
 rintro ⟨h1, hc1, hc2⟩ bs
 obtain ⟨rs, rfl, hx, hy⟩ := h1.ex
 clear h1
 rw [unS_sL]
 have e0 : sL [] = [] := rfl
 unfold nsC nsL nsM
 cases h4 : tabOK c rs
 ·rw [Bool.false_and, if_neg (by decide), if_neg (by decide), if_neg (by decide)]
  (repeat' first | refine gA fun _ => ?_ | refine fkI ?_ ?_ <;> intro hb <;> try simp only [ew, h4, e0] at hb | simp only [go_sem, simprocAttr, *, cNewS, cIsTableS, cMode, cCopyT, Tryz.results92, h4, e0])
  all_goals first | rfl | skip
 ·cases h5 : modeOK m
  ·rw [Bool.and_false, if_neg (by decide), if_neg (by decide), if_neg (by decide)]
   (repeat' first | refine gA fun _ => ?_ | refine fkI ?_ ?_ <;> intro hb <;> try simp only [ew, h4, h5, e0] at hb | simp only [go_sem, simprocAttr, *, cNewS, cIsTableS, cMode, cCopyT, Tryz.results92, h4, h5, e0])
   all_goals first | rfl | skip
  ·rw [Bool.and_true, if_pos rfl, if_pos rfl, if_pos rfl]
   obtain ⟨k1, k2⟩ := tab_small h4
   have k3 : ∀ r ∈ rs, r.length ≤ 16777216 := fun r hr => by have := k2 r hr; omega
   have k4 : rs.length ≤ 16777216 := by omega
   clear k2
   (repeat' first | refine gA fun _ => ?_ | refine fkI ?_ ?_ <;> intro hb <;> try simp only [ew, h4, h5, e0] at hb | simp only [go_sem, simprocAttr, *, cNewS, cIsTableS, cMode, cCopyT, Tryz.results92, h4, h5, e0])
   all_goals first | rfl | skip
def cIsSr : Contract := ⟨[], false, fun
 | [.agg [.v (.int .i64 c), .sl 1 l, .v (.int .i64 m), .v (.int .i64 a), .sl 2 q, .v (.int .i64 t)]] => some ((WfS l ∧ WfD q) ∧ (-9223372036854775808 ≤ c ∧ c ≤ 9223372036854775807) ∧ (-9223372036854775808 ≤ a ∧ a ≤ 9223372036854775807) ∧ -9223372036854775808 ≤ t ∧ t ≤ 9223372036854775807,
   [⟨false, [.d (.v (.bool (isSr c (unS l) m a (unD q) t)))]⟩], [])
 | _ => none⟩
theorem isSrI_ok : ContractOK E0 48 cIsSr := by
 refine cWpc (E := E0) (T := mkT Tryz.prog [(92, cNewS), (93, cCnt8), (94, cStep8), (95, cEqDepS)] false (fun _ => false) true (fun d => d == 999)) (mkT_ok (E := E0) (.cons newS_ok (.cons cntI8_ok (.cons step8_ok (.cons sameDepsI_ok .nil))))) (fn := Tryz.f48) Tryz.func48 (by kernel_rfl) rfl mixedT (by kernel_rfl) rfl ?_
 intro args p rs ms hr
 unfold cIsSr at hr
 dsimp only at hr
 split at hr
 rotate_left
 ·cases hr
 rename_i c l m a q t
 simp only [Option.some.injEq, Prod.mk.injEq] at hr
 obtain ⟨rfl, rfl, rfl⟩ := hr
 refine ⟨rfl, rfl, Nat.le_of_ble_eq_true rfl, ?_⟩
 have hm : maxLen = 9223372036854775807 := rfl
 rintro ⟨⟨h1, h2⟩, ⟨hc1, hc2⟩, ⟨ha1, ha2⟩, ht1, ht2⟩ bs
 obtain ⟨rs, rfl, hx, hy⟩ := h1.ex
 obtain ⟨ds, rfl, hd⟩ := h2.ex
 clear h1 h2
 rw [unS_sL, unD_dL]
 have e0 : sL [] = [] := rfl
 have e0' : dL [] = [] := rfl
 cases h4 : (tabOK c rs && modeOK m)
 ·have e : isSr c rs m a ds t = false := by unfold isSr; rw [h4]; rfl
  have hns : (nsL c rs m).length ≤ maxLen ∧ ∀ r ∈ nsL c rs m, r.length ≤ maxLen := by unfold nsL; rw [h4, if_neg (by decide)]; simp
  generalize hn1 : nsL c rs m = nl at hns
  generalize hn2 : nsC c rs m = nc
  generalize hn3 : nsM c rs m = nm
  obtain ⟨hns1, hns2⟩ := hns
  rw [e]
  clear e
  (repeat' first | refine gA fun _ => ?_ | refine fkI ?_ ?_ <;> intro hb <;> try simp only [ew, h4, hn1, hn2, hn3] at hb | simp only [go_sem, simprocAttr, *, cIsSr, cNewS, cCnt8, cStep8, cEqDepS, Tryz.results48, h4, hn1, hn2, hn3])
  all_goals first | rfl | skip
 ·obtain ⟨n, rfl, hn, hr1, hr2⟩ := hd_tab h4
  have hn1 : nsC (n : Int) rs m = n := by unfold nsC; rw [h4, if_pos rfl]
  have hn2 : nsL (n : Int) rs m = rs := by unfold nsL; rw [h4, if_pos rfl]
  have hn3 : nsM (n : Int) rs m = m := by unfold nsM; rw [h4, if_pos rfl]
  have hn' : (1 : Int) ≤ (n : Int) ∧ (n : Int) ≤ 5 := by omega
  have hcb := cnt_bound hn.2
  have hcz : ((n : Int)) * 2 ^ n = ((n * 2 ^ n : Nat) : Int) := by push_cast; rfl
  have hgt0 : (0 : Int) ≤ (n : Int) := by omega
  generalize hN : n * 2 ^ n = N at hcb hcz
  by_cases hA : a < 0
  ·have e : isSr (n : Int) rs m a ds t = false := by
    have : inB a 0 ((n : Int) * 2 ^ n) = false := by
     cases h : inB a 0 ((n : Int) * 2 ^ n) with
     | false => rfl
     | true => rw [inB_iff] at h; omega
    unfold isSr; rw [h4, Int.toNat_natCast, this]; rfl
   have b1 : decide (a < 0) = true := decide_eq_true hA
   rw [e]
   clear e
   (repeat' first | refine gA fun _ => ?_ | refine fkI ?_ ?_ <;> intro hb <;> try simp only [ew, h4, hn1, hn2, hn3, b1] at hb | simp only [go_sem, simprocAttr, *, cIsSr, cNewS, cCnt8, cStep8, cEqDepS, Tryz.results48, h4, hn1, hn2, hn3, b1])
   all_goals first | rfl | skip
  ·have b1 : decide (a < 0) = false := decide_eq_false hA
   obtain ⟨k, rfl⟩ := Int.eq_ofNat_of_zero_le (show 0 ≤ a by omega)
   by_cases hB : N < k
   ·have e : isSr (n : Int) rs m k ds t = false := by
     have : inB (k : Int) 0 ((n : Int) * 2 ^ n) = false := by
      cases h : inB (k : Int) 0 ((n : Int) * 2 ^ n) with
      | false => rfl
      | true => rw [inB_iff, hcz] at h; omega
     unfold isSr; rw [h4, Int.toNat_natCast, this]; rfl
    have b2 : decide ((k : Int) > (N : Int)) = true := decide_eq_true (by omega)
    rw [e]
    clear e
    (repeat' first | refine gA fun _ => ?_ | refine fkI ?_ ?_ <;> intro hb <;> try simp only [ew, h4, hn1, hn2, hn3, b1, b2, hcz] at hb | simp only [go_sem, simprocAttr, *, cIsSr, cNewS, cCnt8, cStep8, cEqDepS, Tryz.results48, h4, hn1, hn2, hn3, b1, b2, hcz])
    all_goals first | rfl | skip
   ·have b2 : decide ((k : Int) > (N : Int)) = false := decide_eq_false (by omega)
    have e : isSr (n : Int) rs m k ds t = ((((srI n rs m k).2 : Nat) : Int) == t && (srI n rs m k).1 == ds) := by
     have : inB (k : Int) 0 ((n : Int) * 2 ^ n) = true := by rw [inB_iff, hcz]; omega
     have q1 : ∀ x y : List (Int × Int), (x == y) = (y == x) := fun x y => by rw [Bool.eq_iff_iff, beq_iff_eq, beq_iff_eq]; exact eq_comm
     have q2 : ∀ x y : Int, (x == y) = (y == x) := fun x y => by rw [Bool.eq_iff_iff, beq_iff_eq, beq_iff_eq]; exact eq_comm
     unfold isSr
     rw [h4, Int.toNat_natCast, Int.toNat_natCast, this, Bool.true_and, Bool.true_and, q1, q2, Bool.and_comm]
    rw [e]
    clear e
    have hfa : ∀ i, i ≤ k → (srI n rs m i).1.length ≤ 160 ∧ (srI n rs m i).2 ≤ 160 ∧ ∀ d ∈ (srI n rs m i).1, depR d := fun i hi => by
     obtain ⟨w1, w2, w3⟩ := @srI_facts n rs m hn i (by omega)
     exact ⟨by omega, by omega, w3⟩
    have u1 : (srI n rs m 0).1 = [] := rfl
    have u2 : (srI n rs m 0).2 = 0 := rfl
    (repeat' first | refine gA fun _ => ?_ | refine fkI ?_ ?_ <;> intro hb <;> try simp only [ew, h4, hn1, hn2, hn3, b1, b2, hcz, e0'] at hb | simp only [go_sem, simprocAttr, *, cIsSr, cNewS, cCnt8, cStep8, cEqDepS, Tryz.results48, h4, hn1, hn2, hn3, b1, b2, hcz, e0'])
    refine lpI { ι := Nat, rs := [(29, 36)], mods := [], boxes := [(1, fun _ => [.d (.v (.int .i64 n)), .d (.sl 1 (sL rs)), .d (.v (.int .i64 m)), .d (.v (.int .i64 k)), .d (.sl 2 (dL ds)), .d (.v (.int .i64 t))]), (3, fun i => [.d (.v (.int .i64 n)), .d (.sl 1 (sL rs)), .d (.v (.int .i64 m)), .d (.v (.int .i64 i)), .d (.sl 2 (dL (srI n rs m i).1)), .d (.v (.int .i64 ((srI n rs m i).2 : Nat)))])], arrs := [], ok := fun i => i ≤ k, mu := fun i => k - i } rfl 0 (Nat.zero_le _) ?_ fun i hi => ?_
    ·clear hfa
     (repeat' first | refine gA fun _ => ?_ | refine fkI ?_ ?_ <;> intro hb <;> try simp only [ew, e0', u1, u2] at hb | simp only [go_sem, simprocAttr, *, cIsSr, cNewS, cCnt8, cStep8, cEqDepS, Tryz.results48, e0', u1, u2])
     all_goals first | rfl | skip
    ·dsimp only at i hi
     obtain ⟨w1, w2, w3⟩ := hfa i hi
     by_cases h5 : i < k
     ·have es : srI n rs m (i + 1) = srS n rs m (cdD n i) (srI n rs m i) := rfl
      have es2 : ((srI n rs m i).1, (srI n rs m i).2) = srI n rs m i := rfl
      have hlt : ((i : Nat) : Int) < ((N : Nat) : Int) := by omega
      generalize hZ : srI n rs m i = Z at w1 w2 w3 es es2
      obtain ⟨zq, zt⟩ := Z
      dsimp only at w1 w2 w3
      have w4 : zq.length ≤ maxLen := Nat.le_trans w1 (by decide)
      clear hfa es2
      (repeat' first | refine gA fun _ => ?_ | refine fkI ?_ ?_ <;> intro hb <;> try simp only [ew, h4, hcz, hZ] at hb | simp only [go_sem, simprocAttr, *, cIsSr, cNewS, cCnt8, cStep8, cEqDepS, Tryz.results48, h4, hcz, hZ])
      refine lpN (i + 1) (by dsimp only; omega) (by dsimp only; omega) ?_
      rw [← es]
      (repeat' first | refine gA fun _ => ?_ | refine fkI ?_ ?_ <;> intro hb <;> try simp only [ew] at hb | simp only [go_sem, simprocAttr, *, cIsSr, cNewS, cCnt8, cStep8, cEqDepS, Tryz.results48])
      all_goals first | rfl | skip
     ·have e5 : i = k := by omega
      subst e5
      clear hfa
      generalize hZ : srI n rs m i = Z at w1 w2 w3 ⊢
      obtain ⟨zq, zt⟩ := Z
      dsimp only at w1 w2 w3
      have w4 : zq.length ≤ maxLen := Nat.le_trans w1 (by decide)
      cases hq1 : (((zt : Nat) : Int) == t)
      ·(repeat' first | refine gA fun _ => ?_ | refine fkI ?_ ?_ <;> intro hb <;> try simp only [ew, hZ, hq1] at hb | simp only [go_sem, simprocAttr, *, cIsSr, cNewS, cCnt8, cStep8, cEqDepS, Tryz.results48, hZ, hq1])
       all_goals first | rfl | skip
      ·(repeat' first | refine gA fun _ => ?_ | refine fkI ?_ ?_ <;> intro hb <;> try simp only [ew, hZ, hq1] at hb | simp only [go_sem, simprocAttr, *, cIsSr, cNewS, cCnt8, cStep8, cEqDepS, Tryz.results48, hZ, hq1])
       all_goals first | rfl | skip
def cRep8 : Contract := ⟨[], false, fun
 | [.agg [.v (.int .i64 c), .sl 1 l], .one (.v (.int .i64 m)), .one (.v (.int .i64 a))] => some (WfS l ∧ (tabOK c (unS l) && modeOK m) = true ∧ 0 ≤ a ∧ a ≤ c * 2 ^ c.toNat,
   [⟨false, [.own 2 (dL (srI c.toNat (unS l) m a.toNat).1) 1]⟩, ⟨false, [.d (.v (.int .i64 ((srI c.toNat (unS l) m a.toNat).2 : Nat)))]⟩], [])
 | _ => none⟩
theorem rep8_ok : ContractOK E0 97 cRep8 := by
 refine cWpc (E := E0) (T := mkT Tryz.prog [(135, cCd8), (136, cCov), (137, cHol7)] false (fun _ => false) true (fun _ => false)) (mkT_ok (E := E0) (.cons cdS8_ok (.cons cov_ok (.cons hol7_ok .nil)))) (fn := Tryz.f97) Tryz.func97 (by kernel_rfl) rfl mixedT (by kernel_rfl) rfl ?_
 intro args p rs ms hr
 unfold cRep8 at hr
 dsimp only at hr
 split at hr
 rotate_left
 ·cases hr
 rename_i c l m a
 simp only [Option.some.injEq, Prod.mk.injEq] at hr
 obtain ⟨rfl, rfl, rfl⟩ := hr
 refine ⟨rfl, rfl, Nat.le_of_ble_eq_true rfl, ?_⟩
 have hm : maxLen = 9223372036854775807 := rfl
 rintro ⟨h1, htm, ha0, ha1⟩ bs
 obtain ⟨rs, rfl, hx, hy⟩ := h1.ex
 clear h1
 rw [unS_sL] at htm ⊢
 obtain ⟨n, rfl, hn, hr1, hr2⟩ := hd_tab htm
 obtain ⟨k, rfl⟩ := Int.eq_ofNat_of_zero_le ha0
 rw [Int.toNat_natCast] at ha1
 rw [Int.toNat_natCast, Int.toNat_natCast]
 have ha1' : k ≤ n * 2 ^ n := by exact_mod_cast ha1
 have hcb := cnt_bound hn.2
 have hcz : ((n : Int)) * 2 ^ n = ((n * 2 ^ n : Nat) : Int) := by push_cast; rfl
 have hn' : (1 : Int) ≤ (n : Int) ∧ (n : Int) ≤ 5 := by omega
 have e0' : dL [] = [] := rfl
 have u1 : (srI n rs m 0).1 = [] := rfl
 have u2 : (srI n rs m 0).2 = 0 := rfl
 (repeat' first | refine gA fun _ => ?_ | refine fkI ?_ ?_ <;> intro hb <;> try simp only [ew, e0'] at hb | simp only [go_sem, simprocAttr, *, cRep8, cCd8, cCov, cHol7, Tryz.results97, e0'])
 refine lpI { ι := Nat, rs := [(11, 12), (13, 44)], mods := [(10, fun i => .one (.d (.v (.int .i64 i)))), (8, fun i => .one (.own 2 (dL (srI n rs m i).1) 1)), (9, fun i => .one (.d (.v (.int .i64 ((srI n rs m i).2 : Nat)))))], boxes := [(3, fun _ => [.d (.v (.int .i64 n)), .d (.sl 1 (sL rs))])], arrs := [], ok := fun i => i ≤ k, mu := fun i => k - i } rfl 0 (Nat.zero_le _) ?_ fun i hi => ?_
 ·(repeat' first | refine gA fun _ => ?_ | refine fkI ?_ ?_ <;> intro hb <;> try simp only [ew, e0', u1, u2] at hb | simp only [go_sem, simprocAttr, *, cRep8, cCd8, cCov, cHol7, Tryz.results97, e0', u1, u2])
  all_goals first | rfl | skip
 ·dsimp only at i hi
  obtain ⟨w1, w2, w3⟩ := @srI_facts n rs m hn i (by omega)
  by_cases h5 : i < k
  ·have hi' : i < n * 2 ^ n := by omega
   have es : srI n rs m (i + 1) = srS n rs m (cdD n i) (srI n rs m i) := rfl
   have hask := cd_ask hn hi' htm
   have hR := cd_R hn hi'
   have hlt : ((i : Nat) : Int) < (n : Int) * 2 ^ n := by rw [hcz]; omega
   generalize hZ : srI n rs m i = Z at w1 w2 w3 es
   obtain ⟨zq, zt⟩ := Z
   dsimp only at w1 w2 w3
   have w4 : zq.length ≤ maxLen := Nat.le_trans (show zq.length ≤ 160 by omega) (by decide)
   generalize hD : cdD n i = d at hask hR es
   obtain ⟨x, r⟩ := d
   obtain ⟨hx5, hr0, hr4⟩ := hR
   dsimp only at hask hx5 hr0 hr4
   have eh : (bitI .and .i64 (x.fdiv (2 ^ r.toNat)) 1 == 1) = hasB x r := rfl
   unfold srS at es
   dsimp only at es
   cases hh : hasB x r
   ·rw [hh, Bool.false_or] at es
    cases hc : cov zq (x, r)
    ·rw [hc, if_neg (by decide)] at es
     cases hh2 : hdB (n : Int) rs m x r
     ·rw [hh2, if_neg (by decide)] at es
      (repeat' first | refine gA fun _ => ?_ | refine fkI ?_ ?_ <;> intro hb <;> try simp only [ew, hZ, hD, eh, hh, hc, hh2, bits64] at hb | simp only [go_sem, simprocAttr, *, cRep8, cCd8, cCov, cHol7, Tryz.results97, hZ, hD, eh, hh, hc, hh2, bits64])
      refine lpN (i + 1) (by dsimp only; omega) (by dsimp only; omega) ?_
      (repeat' first | refine gA fun _ => ?_ | refine fkI ?_ ?_ <;> intro hb <;> try simp only [ew, es] at hb | simp only [go_sem, simprocAttr, *, cRep8, cCd8, cCov, cHol7, Tryz.results97, es])
      all_goals first | rfl | skip
     ·rw [hh2, if_pos rfl] at es
      (repeat' first | refine gA fun _ => ?_ | refine fkI ?_ ?_ <;> intro hb <;> try simp only [ew, hZ, hD, eh, hh, hc, hh2, bits64, dL_snoc] at hb | simp only [go_sem, simprocAttr, *, cRep8, cCd8, cCov, cHol7, Tryz.results97, hZ, hD, eh, hh, hc, hh2, bits64, dL_snoc])
      refine lpN (i + 1) (by dsimp only; omega) (by dsimp only; omega) ?_
      (repeat' first | refine gA fun _ => ?_ | refine fkI ?_ ?_ <;> intro hb <;> try simp only [ew, es, dL_snoc] at hb | simp only [go_sem, simprocAttr, *, cRep8, cCd8, cCov, cHol7, Tryz.results97, es, dL_snoc])
      all_goals first | rfl | skip
    ·rw [hc, if_pos rfl] at es
     (repeat' first | refine gA fun _ => ?_ | refine fkI ?_ ?_ <;> intro hb <;> try simp only [ew, hZ, hD, eh, hh, hc, bits64] at hb | simp only [go_sem, simprocAttr, *, cRep8, cCd8, cCov, cHol7, Tryz.results97, hZ, hD, eh, hh, hc, bits64])
     refine lpN (i + 1) (by dsimp only; omega) (by dsimp only; omega) ?_
     (repeat' first | refine gA fun _ => ?_ | refine fkI ?_ ?_ <;> intro hb <;> try simp only [ew, es] at hb | simp only [go_sem, simprocAttr, *, cRep8, cCd8, cCov, cHol7, Tryz.results97, es])
     all_goals first | rfl | skip
   ·rw [hh, Bool.true_or, if_pos rfl] at es
    (repeat' first | refine gA fun _ => ?_ | refine fkI ?_ ?_ <;> intro hb <;> try simp only [ew, hZ, hD, eh, hh, bits64] at hb | simp only [go_sem, simprocAttr, *, cRep8, cCd8, cCov, cHol7, Tryz.results97, hZ, hD, eh, hh, bits64])
    refine lpN (i + 1) (by dsimp only; omega) (by dsimp only; omega) ?_
    (repeat' first | refine gA fun _ => ?_ | refine fkI ?_ ?_ <;> intro hb <;> try simp only [ew, es] at hb | simp only [go_sem, simprocAttr, *, cRep8, cCd8, cCov, cHol7, Tryz.results97, es])
    all_goals first | rfl | skip
  ·have e5 : i = k := by omega
   subst e5
   (repeat' first | refine gA fun _ => ?_ | refine fkI ?_ ?_ <;> intro hb <;> try simp only [ew] at hb | simp only [go_sem, simprocAttr, *, cRep8, cCd8, cCov, cHol7, Tryz.results97])
   all_goals first | rfl | skip
theorem isSrS_ok : ContractOK E0 50 cIsSr := by
 refine cWpc (E := E0) (T := mkT Tryz.prog [(43, cFine), (96, cCnt8), (62, cL1In), (97, cRep8), (98, cEqDepS)] false (fun _ => false) true (fun d => d == 999)) (mkT_ok (E := E0) (.cons fine_ok (.cons cntS8_ok (.cons l1In_ok (.cons rep8_ok (.cons sameDepsS_ok .nil)))))) (fn := Tryz.f50) Tryz.func50 (by kernel_rfl) rfl mixedT (by kernel_rfl) rfl ?_
 intro args p rs ms hr
 unfold cIsSr at hr
 dsimp only at hr
 split at hr
 rotate_left
 ·cases hr
 rename_i c l m a q t
 simp only [Option.some.injEq, Prod.mk.injEq] at hr
 obtain ⟨rfl, rfl, rfl⟩ := hr
 refine ⟨rfl, rfl, Nat.le_of_ble_eq_true rfl, ?_⟩
 have hm : maxLen = 9223372036854775807 := rfl
 rintro ⟨⟨h1, h2⟩, ⟨hc1, hc2⟩, ⟨ha1, ha2⟩, ht1, ht2⟩ bs
 obtain ⟨rs, rfl, hx, hy⟩ := h1.ex
 obtain ⟨ds, rfl, hd⟩ := h2.ex
 clear h1 h2
 rw [unS_sL, unD_dL]
 cases h4 : (tabOK c rs && modeOK m)
 ·have e : isSr c rs m a ds t = false := by unfold isSr; rw [h4]; rfl
  rw [e]
  clear e
  (repeat' first | refine gA fun _ => ?_ | refine fkI ?_ ?_ <;> intro hb <;> try simp only [ew, h4] at hb | simp only [go_sem, simprocAttr, *, cIsSr, cFine, cCnt8, cL1In, cRep8, cEqDepS, Tryz.results50, h4])
  all_goals first | rfl | skip
 ·obtain ⟨n, rfl, hn, hr1, hr2⟩ := hd_tab h4
  have hn' : (1 : Int) ≤ (n : Int) ∧ (n : Int) ≤ 5 := by omega
  have hcb := cnt_bound hn.2
  have hcz : ((n : Int)) * 2 ^ n = ((n * 2 ^ n : Nat) : Int) := by push_cast; rfl
  generalize hNN : n * 2 ^ n = N at hcb hcz
  cases hB : inB a 0 (N : Int)
  ·have e : isSr (n : Int) rs m a ds t = false := by unfold isSr; rw [h4, Int.toNat_natCast, hcz, hB]; rfl
   rw [e]
   clear e
   (repeat' first | refine gA fun _ => ?_ | refine fkI ?_ ?_ <;> intro hb <;> try simp only [ew, h4, hB, hcz] at hb | simp only [go_sem, simprocAttr, *, cIsSr, cFine, cCnt8, cL1In, cRep8, cEqDepS, Tryz.results50, h4, hB, hcz])
   all_goals first | rfl | skip
  ·have hB' := hB
   rw [inB_iff] at hB'
   obtain ⟨k, rfl⟩ := Int.eq_ofNat_of_zero_le hB'.1
   have hk : k ≤ N := by omega
   obtain ⟨w1, w2, w3⟩ := @srI_facts n rs m hn k (by omega)
   have e : isSr (n : Int) rs m k ds t = (ds == (srI n rs m k).1 && t == (((srI n rs m k).2 : Nat) : Int)) := by
    unfold isSr; rw [h4, Int.toNat_natCast, Int.toNat_natCast, hcz, hB]; rfl
   have hk2 : (k : Int) ≤ (n : Int) * 2 ^ n := by rw [hcz]; omega
   rw [e]
   clear e w3
   generalize hZ : srI n rs m k = Z at w1 w2 ⊢
   obtain ⟨zq, zt⟩ := Z
   dsimp only at w1 w2
   have w4 : zq.length ≤ maxLen := Nat.le_trans (show zq.length ≤ 160 by omega) (by decide)
   cases hq1 : (ds == zq)
   ·(repeat' first | refine gA fun _ => ?_ | refine fkI ?_ ?_ <;> intro hb <;> try simp only [ew, h4, hB, hcz, hZ, hq1] at hb | simp only [go_sem, simprocAttr, *, cIsSr, cFine, cCnt8, cL1In, cRep8, cEqDepS, Tryz.results50, h4, hB, hcz, hZ, hq1])
    all_goals first | rfl | skip
   ·(repeat' first | refine gA fun _ => ?_ | refine fkI ?_ ?_ <;> intro hb <;> try simp only [ew, h4, hB, hcz, hZ, hq1] at hb | simp only [go_sem, simprocAttr, *, cIsSr, cFine, cCnt8, cL1In, cRep8, cEqDepS, Tryz.results50, h4, hB, hcz, hZ, hq1])
    all_goals first | rfl | skip
def isSd (c : Int) (rs : List (List Int)) (m a : Int) (qs : List (Int × Int)) (t : Int) : Bool := isSr c rs m a qs t && (a == c * 2 ^ c.toNat)
def cIsSd : Contract := ⟨[], false, fun
 | [.agg [.v (.int .i64 c), .sl 1 l, .v (.int .i64 m), .v (.int .i64 a), .sl 2 q, .v (.int .i64 t)]] => some ((WfS l ∧ WfD q) ∧ (-9223372036854775808 ≤ c ∧ c ≤ 9223372036854775807) ∧ (-9223372036854775808 ≤ a ∧ a ≤ 9223372036854775807) ∧ -9223372036854775808 ≤ t ∧ t ≤ 9223372036854775807,
   [⟨false, [.d (.v (.bool (isSd c (unS l) m a (unD q) t)))]⟩], [])
 | _ => none⟩
theorem isSr_facts {c : Int} {rs : List (List Int)} {m a : Int} {qs : List (Int × Int)} {t : Int} (h : isSr c rs m a qs t = true) : (1 ≤ c ∧ c ≤ 5) ∧ (0 ≤ a ∧ a ≤ 160) ∧ (0 ≤ t ∧ t ≤ 160) ∧ qs.length ≤ 160 := by
 unfold isSr at h
 rw [Bool.and_eq_true, Bool.and_eq_true, Bool.and_eq_true, beq_iff_eq, beq_iff_eq] at h
 obtain ⟨⟨⟨h1, h2⟩, h3⟩, h4⟩ := h
 obtain ⟨n, rfl, hn, _, _⟩ := hd_tab h1
 have hcb := cnt_bound hn.2
 have hcz : ((n : Int)) * 2 ^ n = ((n * 2 ^ n : Nat) : Int) := by push_cast; rfl
 rw [Int.toNat_natCast, inB_iff, hcz] at h2
 obtain ⟨k, rfl⟩ := Int.eq_ofNat_of_zero_le h2.1
 rw [Int.toNat_natCast, Int.toNat_natCast] at h3 h4
 obtain ⟨w1, w2, _⟩ := @srI_facts n rs m hn k (by omega)
 refine ⟨by omega, by omega, by rw [h4]; omega, by rw [h3]; omega⟩
theorem isSdI_ok : ContractOK E0 49 cIsSd := by
 refine cWpc (E := E0) (T := mkT Tryz.prog [(48, cIsSr), (93, cCnt8)] false (fun _ => false) true (fun d => d == 999)) (mkT_ok (E := E0) (.cons isSrI_ok (.cons cntI8_ok .nil))) (fn := Tryz.f49) Tryz.func49 (by kernel_rfl) rfl mixedT (by kernel_rfl) rfl ?_
 intro args p rs ms hr
 unfold cIsSd at hr
 dsimp only at hr
 split at hr
 rotate_left
 ·cases hr
 rename_i c l m a q t
 simp only [Option.some.injEq, Prod.mk.injEq] at hr
 obtain ⟨rfl, rfl, rfl⟩ := hr
 refine ⟨rfl, rfl, Nat.le_of_ble_eq_true rfl, ?_⟩
 have hm : maxLen = 9223372036854775807 := rfl
 rintro ⟨⟨h1, h2⟩, ⟨hc1, hc2⟩, ⟨ha1, ha2⟩, ht1, ht2⟩ bs
 obtain ⟨rs, rfl, hx, hy⟩ := h1.ex
 obtain ⟨ds, rfl, hd⟩ := h2.ex
 clear h1 h2
 rw [unS_sL, unD_dL]
 unfold isSd
 cases h : isSr c rs m a ds t
 ·rw [Bool.false_and]
  (repeat' first | refine gA fun _ => ?_ | refine fkI ?_ ?_ <;> intro hb <;> try simp only [ew, h] at hb | simp only [go_sem, simprocAttr, *, cIsSd, cIsSr, cCnt8, Tryz.results49, h])
  all_goals first | rfl | skip
 ·rw [Bool.true_and]
  obtain ⟨f1, f2, f3, f4⟩ := isSr_facts h
  (repeat' first | refine gA fun _ => ?_ | refine fkI ?_ ?_ <;> intro hb <;> try simp only [ew, h] at hb | simp only [go_sem, simprocAttr, *, cIsSd, cIsSr, cCnt8, Tryz.results49, h])
  all_goals first | rfl | skip
theorem isSdS_ok : ContractOK E0 51 cIsSd := by
 refine cWpc (E := E0) (T := mkT Tryz.prog [(50, cIsSr), (96, cCnt8)] false (fun _ => false) true (fun d => d == 999)) (mkT_ok (E := E0) (.cons isSrS_ok (.cons cntS8_ok .nil))) (fn := Tryz.f51) Tryz.func51 (by kernel_rfl) rfl mixedT (by kernel_rfl) rfl ?_
 intro args p rs ms hr
 unfold cIsSd at hr
 dsimp only at hr
 split at hr
 rotate_left
 ·cases hr
 rename_i c l m a q t
 simp only [Option.some.injEq, Prod.mk.injEq] at hr
 obtain ⟨rfl, rfl, rfl⟩ := hr
 refine ⟨rfl, rfl, Nat.le_of_ble_eq_true rfl, ?_⟩
 have hm : maxLen = 9223372036854775807 := rfl
 rintro ⟨⟨h1, h2⟩, ⟨hc1, hc2⟩, ⟨ha1, ha2⟩, ht1, ht2⟩ bs
 obtain ⟨rs, rfl, hx, hy⟩ := h1.ex
 obtain ⟨ds, rfl, hd⟩ := h2.ex
 clear h1 h2
 rw [unS_sL, unD_dL]
 unfold isSd
 cases h : isSr c rs m a ds t
 ·rw [Bool.false_and]
  (repeat' first | refine gA fun _ => ?_ | refine fkI ?_ ?_ <;> intro hb <;> try simp only [ew, h] at hb | simp only [go_sem, simprocAttr, *, cIsSd, cIsSr, cCnt8, Tryz.results51, h])
  all_goals first | rfl | skip
 ·rw [Bool.true_and]
  obtain ⟨f1, f2, f3, f4⟩ := isSr_facts h
  (repeat' first | refine gA fun _ => ?_ | refine fkI ?_ ?_ <;> intro hb <;> try simp only [ew, h] at hb | simp only [go_sem, simprocAttr, *, cIsSd, cIsSr, cCnt8, Tryz.results51, h])
  all_goals first | rfl | skip
end Go.Own
