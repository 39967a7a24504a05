/-
  The reference's searches: a copy, a step, a run. Conditions: as each theorem states them.
-/
import Derived.Test.YtaigpolfbonjgaaGreatDoorOwnR2
set_option linter.unusedSimpArgs false
set_option linter.unusedVariables false
set_option maxRecDepth 20000
set_option maxHeartbeats 4000000
namespace Go.Own
open Go Go.Proofs
attribute [local go_sem] rq1 rq2 rq3 rq4 unD_dL dL_length dL_get dL_set dL_inj wfD_dL scal2 beq2 pair_eta dL_scal
def cCp8 : Contract := ⟨[], false, fun
 | [.agg [.v (.int .i64 c), .sl 1 l, .v (.int .i64 m), .v (.int .i64 a), .sl 2 q, .v (.int .i64 t)]] => some ((WfS l ∧ WfD q) ∧ (l.length ≤ 16777216 ∧ ∀ r ∈ unS l, r.length ≤ 16777216) ∧ q.length ≤ 16777216,
   [⟨true, [.d (.v (.int .i64 c)), .own 1 l 1, .d (.v (.int .i64 m)), .d (.v (.int .i64 a)), .own 2 q 1, .d (.v (.int .i64 t))]⟩], [])
 | _ => none⟩
theorem cp8_ok : ContractOK E0 119 cCp8 := by
 refine cWpc (E := E0) (T := mkT Tryz.prog [(118, cCopyT)] false (fun _ => false) true (fun d => d == 3 || d == 6 || d == 8 || d == 11 || d == 14)) (mkT_ok (E := E0) (.cons copyTS_ok .nil)) (fn := Tryz.f119) Tryz.func119 (by kernel_rfl) rfl mixedT (by kernel_rfl) rfl ?_
 intro args p rs ms hr
 unfold cCp8 at hr
 dsimp only at hr
 split at hr
 rotate_left
 ·cases hr
 rename_i c l m a q t
 simp only [Option.some.injEq, Prod.mk.injEq] at hr
 obtain ⟨rfl, rfl, rfl⟩ := hr
 refine ⟨rfl, rfl, Nat.le_of_ble_eq_true rfl, ?_⟩
 have hm : maxLen = 9223372036854775807 := rfl
 rintro ⟨⟨h1, h2⟩, ⟨h3, h4⟩, h5⟩ bs
 obtain ⟨rs, rfl, hx, hy⟩ := h1.ex
 obtain ⟨ds, rfl, hd⟩ := h2.ex
 clear h1 h2
 rw [unS_sL] at h4
 rw [sL_length] at h3
 rw [dL_length] at h5
 (repeat' first | refine gA fun _ => ?_ | refine fkI ?_ ?_ <;> intro hb <;> try simp only [ew] at hb | simp only [go_sem, simprocAttr, *, cCp8, cCopyT, Tryz.results119])
 all_goals first | rfl | skip
def cStp8 : Contract := ⟨[true], false, fun
 | [.mbx [.inl (.v (.int .i64 c)), .inr (1, l, _), .inl (.v (.int .i64 m)), .inl (.v (.int .i64 a)), .inr (2, q, _), .inl (.v (.int .i64 t))]] => some ((WfS l ∧ WfD q) ∧ (tabOK c (unS l) && modeOK m) = true ∧ (0 ≤ a ∧ a < c * 2 ^ c.toNat) ∧ (∀ d ∈ unD q, depR d) ∧ q.length ≤ 160 ∧ 0 ≤ t ∧ t ≤ 160, [],
   [.mbx [.inl (.v (.int .i64 c)), .inr (1, l, 1), .inl (.v (.int .i64 m)), .inl (.v (.int .i64 (a + 1))), .inr (2, dL (srS c.toNat (unS l) m (cdD c.toNat a.toNat) (unD q, t.toNat)).1, 1), .inl (.v (.int .i64 ((srS c.toNat (unS l) m (cdD c.toNat a.toNat) (unD q, t.toNat)).2 : Nat)))]])
 | _ => none⟩
theorem stp8_ok : ContractOK E0 120 cStp8 := by
 refine contract_of_wpcX (E := E0) (T := mkT Tryz.prog [(135, cCd8), (136, cCov), (137, cHol7)] false (fun _ => false) false (fun d => d == 999 || d == 996)) (mkT_ok (E := E0) (.cons cdS8_ok (.cons cov_ok (.cons hol7_ok .nil)))) rfl (fn := Tryz.f120) Tryz.func120 (by kernel_rfl) rfl mixedT (by kernel_rfl) rfl rfl (Nat.le_of_ble_eq_true rfl) ?_
 intro args p rs ms hr
 unfold cStp8 at hr
 dsimp only at hr
 split at hr
 rotate_left
 ·cases hr
 rename_i c l dp m a q dq t
 simp only [Option.some.injEq, Prod.mk.injEq] at hr
 obtain ⟨rfl, rfl, rfl⟩ := hr
 refine ⟨_, _, _, rfl, rfl, rfl, ⟨rfl, rfl⟩, Nat.le_of_ble_eq_true rfl, ?_⟩
 have hm : maxLen = 9223372036854775807 := rfl
 rintro ⟨⟨h1, h2⟩, htm, ⟨ha0, ha1⟩, hq, hq1, ht0, ht1⟩ bs
 obtain ⟨rs, rfl, hx, hy⟩ := h1.ex
 obtain ⟨ds, rfl, hd⟩ := h2.ex
 clear h1 h2
 rw [unS_sL] at htm ⊢
 rw [unD_dL] at hq ⊢
 rw [dL_length] at hq1
 obtain ⟨n, rfl, hn, hr1, hr2⟩ := hd_tab htm
 obtain ⟨k, rfl⟩ := Int.eq_ofNat_of_zero_le ha0
 obtain ⟨u, rfl⟩ := Int.eq_ofNat_of_zero_le ht0
 rw [Int.toNat_natCast] at ha1
 rw [Int.toNat_natCast, Int.toNat_natCast, Int.toNat_natCast]
 have ha1' : k < n * 2 ^ n := by exact_mod_cast ha1
 have hb := cnt_bound hn.2
 have hask := cd_ask hn ha1' htm
 have hR := cd_R hn ha1'
 have hn' : (1 : Int) ≤ (n : Int) ∧ (n : Int) ≤ 5 := by omega
 generalize hD : cdD n k = d at hask hR ⊢
 obtain ⟨x, r⟩ := d
 obtain ⟨hx5, hr0, hr4⟩ := hR
 dsimp only at hask hx5 hr0 hr4
 have es : srS n rs m (x, r) (ds, u) = if hasB x r || cov ds (x, r) then (ds, u) else if hdB (n : Int) rs m x r then (ds ++ [(x, r)], u + 1) else (ds, u + 1) := rfl
 rw [es]
 clear es hq
 have m1 : ds.length ≤ maxLen := Nat.le_trans hq1 (by decide)
 cases hh : hasB x r
 ·rw [Bool.false_or]
  have hx1 : (bitI .and .i64 (x.fdiv (2 ^ r.toNat)) 1 == 1) = false := hh
  cases hc : cov ds (x, r)
  ·rw [if_neg (by decide)]
   cases hh2 : hdB (n : Int) rs m x r
   ·rw [if_neg (by decide)]
    (repeat' first | refine gA fun _ => ?_ | refine fkI ?_ ?_ <;> intro hb <;> try simp only [ew, hD, hx1, hc, hh2] at hb | simp only [go_sem, simprocAttr, *, cStp8, cCd8, cCov, cHol7, Tryz.results120, hD, hx1, hc, hh2])
    all_goals first | rfl | skip
   ·rw [if_pos rfl]
    (repeat' first | refine gA fun _ => ?_ | refine fkI ?_ ?_ <;> intro hb <;> try simp only [ew, hD, hx1, hc, hh2, dL_snoc] at hb | simp only [go_sem, simprocAttr, *, cStp8, cCd8, cCov, cHol7, Tryz.results120, hD, hx1, hc, hh2, dL_snoc])
    all_goals first | rfl | skip
  ·rw [if_pos rfl]
   (repeat' first | refine gA fun _ => ?_ | refine fkI ?_ ?_ <;> intro hb <;> try simp only [ew, hD, hx1, hc] at hb | simp only [go_sem, simprocAttr, *, cStp8, cCd8, cCov, cHol7, Tryz.results120, hD, hx1, hc])
   all_goals first | rfl | skip
 ·rw [Bool.true_or, if_pos rfl]
  have hx1 : (bitI .and .i64 (x.fdiv (2 ^ r.toNat)) 1 == 1) = true := hh
  (repeat' first | refine gA fun _ => ?_ | refine fkI ?_ ?_ <;> intro hb <;> try simp only [ew, hD, hx1] at hb | simp only [go_sem, simprocAttr, *, cStp8, cCd8, cCov, cHol7, Tryz.results120, hD, hx1])
  all_goals first | rfl | skip
def rnA (c : Nat) (rs : List (List Int)) (m b t0 : Int) : Nat → Nat → Nat
 | 0, a => a
 | k + 1, a => if ((srI c rs m a).2 : Int) - t0 < b then rnA c rs m b t0 k (a + 1) else a
theorem rnA_le {c : Nat} {rs : List (List Int)} {m b t0 : Int} : ∀ {k a : Nat}, a ≤ rnA c rs m b t0 k a ∧ rnA c rs m b t0 k a ≤ a + k
 | 0, a => ⟨Nat.le_refl _, Nat.le_refl _⟩
 | k + 1, a => by
  rw [rnA]
  split
  ·obtain ⟨h1, h2⟩ := @rnA_le c rs m b t0 k (a + 1)
   omega
  ·omega
def rn8 (c : Int) (rs : List (List Int)) (m a : Int) (qs : List (Int × Int)) (t b : Int) : Int × List (Int × Int) × Int :=
 if isSr c rs m a qs t then
  ((rnA c.toNat rs m b t (c.toNat * 2 ^ c.toNat - a.toNat) a.toNat : Nat), (srI c.toNat rs m (rnA c.toNat rs m b t (c.toNat * 2 ^ c.toNat - a.toNat) a.toNat)).1, ((srI c.toNat rs m (rnA c.toNat rs m b t (c.toNat * 2 ^ c.toNat - a.toNat) a.toNat)).2 : Nat))
 else (a, qs, t)
def cRn8 : Contract := ⟨[], false, fun
 | [.agg [.v (.int .i64 c), .sl 1 l, .v (.int .i64 m), .v (.int .i64 a), .sl 2 q, .v (.int .i64 t)], .one (.v (.int .i64 b))] => some (((WfS l ∧ WfD q) ∧ (-9223372036854775808 ≤ c ∧ c ≤ 9223372036854775807) ∧ (-9223372036854775808 ≤ a ∧ a ≤ 9223372036854775807) ∧ -9223372036854775808 ≤ t ∧ t ≤ 9223372036854775807) ∧
    (l.length ≤ 16777216 ∧ ∀ r ∈ unS l, r.length ≤ 16777216) ∧ q.length ≤ 16777216,
   [⟨true, [.d (.v (.int .i64 c)), .own 1 l 1, .d (.v (.int .i64 m)), .d (.v (.int .i64 (rn8 c (unS l) m a (unD q) t b).1)), .own 2 (dL (rn8 c (unS l) m a (unD q) t b).2.1) 1, .d (.v (.int .i64 (rn8 c (unS l) m a (unD q) t b).2.2))]⟩], [])
 | _ => none⟩
theorem rn8_ok : ContractOK E0 75 cRn8 := by
 refine cWpc (E := E0) (T := mkT Tryz.prog [(119, cCp8), (50, cIsSr), (96, cCnt8), (120, cStp8)] false (fun _ => false) true (fun d => d == 999)) (mkT_ok (E := E0) (.cons cp8_ok (.cons isSrS_ok (.cons cntS8_ok (.cons stp8_ok .nil))))) (fn := Tryz.f75) Tryz.func75 (by kernel_rfl) rfl mixedT (by kernel_rfl) rfl ?_
 intro args p rs ms hr
 unfold cRn8 at hr
 dsimp only at hr
 split at hr
 rotate_left
 ·cases hr
 rename_i c l m a q t b
 simp only [Option.some.injEq, Prod.mk.injEq] at hr
 obtain ⟨rfl, rfl, rfl⟩ := hr
 refine ⟨rfl, rfl, Nat.le_of_ble_eq_true rfl, ?_⟩
 have hm : maxLen = 9223372036854775807 := rfl
 rintro ⟨⟨⟨h1, h2⟩, ⟨hc1, hc2⟩, ⟨ha1, ha2⟩, ht1, ht2⟩, ⟨h3, h4⟩, h5⟩ bs
 obtain ⟨rs, rfl, hx, hy⟩ := h1.ex
 obtain ⟨ds, rfl, hd⟩ := h2.ex
 clear h1 h2
 rw [unS_sL] at h4
 rw [sL_length] at h3
 rw [dL_length] at h5
 rw [unS_sL, unD_dL]
 cases hi : isSr c rs m a ds t
 ·have e : rn8 c rs m a ds t b = (a, ds, t) := by unfold rn8; rw [hi]; rfl
  rw [e]
  clear e
  (repeat' first | refine gA fun _ => ?_ | refine fkI ?_ ?_ <;> intro hb <;> try simp only [ew, hi] at hb | simp only [go_sem, simprocAttr, *, cRn8, cCp8, cIsSr, cCnt8, cStp8, Tryz.results75, hi])
  all_goals first | rfl | skip
 ·have hi2 := hi
  unfold isSr at hi2
  rw [Bool.and_eq_true, Bool.and_eq_true, Bool.and_eq_true, beq_iff_eq, beq_iff_eq, inB_iff] at hi2
  obtain ⟨⟨⟨htm, hA⟩, hqs⟩, htt⟩ := hi2
  obtain ⟨n, rfl, hn, hr1, hr2⟩ := hd_tab htm
  rw [Int.toNat_natCast] at hA hqs htt
  obtain ⟨k, rfl⟩ := Int.eq_ofNat_of_zero_le hA.1
  rw [Int.toNat_natCast] at hqs htt
  have hcb := cnt_bound hn.2
  have hcz : ((n : Int)) * 2 ^ n = ((n * 2 ^ n : Nat) : Int) := by push_cast; rfl
  have hn' : (1 : Int) ≤ (n : Int) ∧ (n : Int) ≤ 5 := by omega
  rw [hcz] at hA
  have e : rn8 n rs m k ds t b = (((rnA n rs m b t (n * 2 ^ n - k) k : Nat) : Int), (srI n rs m (rnA n rs m b t (n * 2 ^ n - k) k)).1, (((srI n rs m (rnA n rs m b t (n * 2 ^ n - k) k)).2 : Nat) : Int)) := by
   unfold rn8; rw [hi, if_pos rfl, Int.toNat_natCast, Int.toNat_natCast]
  rw [e]
  clear e
  have hfa : ∀ i, i ≤ n * 2 ^ n → (srI n rs m i).1.length ≤ 160 ∧ (srI n rs m i).2 ≤ 160 ∧ ∀ d ∈ (srI n rs m i).1, depR d := fun i hi => by
   obtain ⟨w1, w2, w3⟩ := @srI_facts n rs m hn i hi
   exact ⟨by omega, by omega, w3⟩
  subst hqs
  subst htt
  generalize hN : n * 2 ^ n = N at hcb hcz hfa hA ⊢
  have hkN : k ≤ N := by omega
  generalize hT : ((srI n rs m k).2 : Int) = T0 at *
  have hT0 : 0 ≤ T0 ∧ T0 ≤ 160 := by have := (hfa k hkN).2.1; omega
  generalize hZ0 : rnA n rs m b T0 (N - k) k = A
  (repeat' first | refine gA fun _ => ?_ | refine fkI ?_ ?_ <;> intro hb <;> try simp only [ew, hi, hT, hcz] at hb | simp only [go_sem, simprocAttr, *, cRn8, cCp8, cIsSr, cCnt8, cStp8, Tryz.results75, hi, hT, hcz])
  refine lpI { ι := Nat, rs := [(12, 29)], mods := [], boxes := [(2, fun _ => [.d (.v (.int .i64 n)), .d (.sl 1 (sL rs)), .d (.v (.int .i64 m)), .d (.v (.int .i64 k)), .d (.sl 2 (dL (srI n rs m k).1)), .d (.v (.int .i64 T0))]), (4, fun _ => [.d (.v (.int .i64 0)), .d (.v (.slice none 0 0)), .d (.v (.int .i64 0)), .d (.v (.int .i64 0)), .d (.v (.slice none 0 0)), .d (.v (.int .i64 0))]), (5, fun i => [.d (.v (.int .i64 n)), .own 1 (sL rs) 1, .d (.v (.int .i64 m)), .d (.v (.int .i64 i)), .own 2 (dL (srI n rs m i).1) 1, .d (.v (.int .i64 ((srI n rs m i).2 : Nat)))])], arrs := [], ok := fun i => i ≤ N ∧ rnA n rs m b T0 (N - i) i = A, mu := fun i => N - i } rfl k ⟨hkN, hZ0⟩ ?_ fun i hi => ?_
  ·clear hfa
   (repeat' first | refine gA fun _ => ?_ | refine fkI ?_ ?_ <;> intro hb <;> try simp only [ew, hT] at hb | simp only [go_sem, simprocAttr, *, cRn8, cCp8, cIsSr, cCnt8, cStp8, Tryz.results75, hT])
   all_goals first | rfl | skip
  ·dsimp only at i hi
   obtain ⟨hi1, hi2⟩ := hi
   obtain ⟨w1, w2, w3⟩ := hfa i hi1
   by_cases h6 : i < N
   ·have es : srI n rs m (i + 1) = srS n rs m (cdD n i) (srI n rs m i) := rfl
    rw [show N - i = (N - (i + 1)) + 1 by omega, rnA] at hi2
    generalize hZ : srI n rs m i = Z at w1 w2 w3 es hi2
    obtain ⟨zq, zt⟩ := Z
    dsimp only at w1 w2 w3 hi2
    have w4 : zq.length ≤ maxLen := Nat.le_trans w1 (by decide)
    by_cases h7 : ((zt : Nat) : Int) - T0 < b
    ·rw [if_pos h7] at hi2
     have d7 := decide_eq_true h7
     clear hfa
     (repeat' first | refine gA fun _ => ?_ | refine fkI ?_ ?_ <;> intro hb <;> try simp only [ew, htm, hcz, hZ, d7] at hb | simp only [go_sem, simprocAttr, *, cRn8, cCp8, cIsSr, cCnt8, cStp8, Tryz.results75, htm, hcz, hZ, d7])
     refine lpN (i + 1) ⟨by dsimp only; omega, hi2⟩ (by dsimp only; omega) ?_
     rw [← es]
     (repeat' first | refine gA fun _ => ?_ | refine fkI ?_ ?_ <;> intro hb <;> try simp only [ew] at hb | simp only [go_sem, simprocAttr, *, cRn8, cCp8, cIsSr, cCnt8, cStp8, Tryz.results75])
     all_goals first | rfl | skip
    ·rw [if_neg h7] at hi2
     subst hi2
     have d7 := decide_eq_false h7
     rw [hZ]
     clear hfa
     (repeat' first | refine gA fun _ => ?_ | refine fkI ?_ ?_ <;> intro hb <;> try simp only [ew, htm, hcz, hZ, d7] at hb | simp only [go_sem, simprocAttr, *, cRn8, cCp8, cIsSr, cCnt8, cStp8, Tryz.results75, htm, hcz, hZ, d7])
     all_goals first | rfl | skip
   ·have e6 : i = N := by omega
    subst e6
    rw [Nat.sub_self] at hi2
    have e7 : i = A := hi2
    subst e7
    clear hfa
    generalize hZ : srI n rs m i = Z at w1 w2 w3 ⊢
    obtain ⟨zq, zt⟩ := Z
    dsimp only at w1 w2 w3
    have w4 : zq.length ≤ maxLen := Nat.le_trans w1 (by decide)
    (repeat' first | refine gA fun _ => ?_ | refine fkI ?_ ?_ <;> intro hb <;> try simp only [ew, hcz, hZ] at hb | simp only [go_sem, simprocAttr, *, cRn8, cCp8, cIsSr, cCnt8, cStp8, Tryz.results75, hcz, hZ])
    all_goals first | rfl | skip
end Go.Own
