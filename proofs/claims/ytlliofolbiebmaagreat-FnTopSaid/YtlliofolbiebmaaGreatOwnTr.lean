/-
  Searches: a step, what a search is. Conditions: as each theorem states them.
-/
import Derived.Test.YtlliofolbiebmaaGreatOwnTp
import Derived.Test.YtlliofolbiebmaaGreatOwnG9
import Derived.Test.YtlliofolbiebmaaGreatOwnY1
import Derived.Test.YtlliofolbiebmaaGreatOwnTa
set_option linter.unusedSimpArgs false
set_option linter.unusedVariables false
set_option maxRecDepth 20000
set_option maxHeartbeats 4000000
namespace Go.Own
open Go Go.Proofs
theorem rq1 : (true == false) = false := rfl
theorem rq2 : (false == true) = false := rfl
theorem rq3 : (true == true) = true := rfl
theorem rq4 : (false == false) = true := rfl
attribute [local go_sem] rq1 rq2 rq3 rq4 unD_dL dL_length dL_get dL_set dL_inj wfD_dL scal2 beq2 pair_eta dL_scal
theorem cd_ask {c a : Nat} {rs : List (List Int)} {m : Int} (hc : 1 ≤ c ∧ c ≤ 5) (ha : a < c * 2 ^ c) (h : (tabOK c rs && modeOK m) = true) : askOK c rs m (cdD c a).1 (cdD c a).2 = true := by
 obtain ⟨h1, h2⟩ := cd_at hc ha
 have h3 : (cdD c a).1 ∈ pbs c := by
  unfold cdD pbsI
  rw [if_pos (inB_iff.2 ⟨by omega, by omega⟩), Int.toNat_natCast]
  have : a / c < (pbs c).length := by
   unfold pbsI at h1
   rw [if_pos (inB_iff.2 ⟨by omega, by omega⟩), Int.toNat_natCast] at h1
   exact h1
  exact getD_mem this 0
 have h4 := (pbs_key ⟨c, by omega⟩).2 _ h3
 dsimp only at h4
 unfold askOK
 rw [h, Bool.true_and]
 simp only [depOK, isAttr, Bool.and_eq_true, inB_iff, all2, Int.toNat_natCast]
 have h5 : (cdD c a).2 = ((a % c : Nat) : Int) := rfl
 rw [h5]
 omega
theorem covB_ins {d e : Int × Int} (hd : R5 d.1) (he : R5 e.1) : covB d e = (e.2 == d.2 && insB e.1 d.1) := by
 unfold covB
 rw [and_ins he hd]
def cStep8 : Contract := ⟨[], true, fun
 | [.agg [.v (.int .i64 c), .sl 1 l, .v (.int .i64 m), .v (.int .i64 a), .sl 2 q, .v (.int .i64 t)]] => some ((WfS l ∧ WfD q) ∧ (tabOK c (unS l) && modeOK m) = true ∧ (0 ≤ a ∧ a < c * 2 ^ c.toNat) ∧ (∀ d ∈ unD q, depR d) ∧ q.length ≤ 160 ∧ 0 ≤ t ∧ t ≤ 160,
   [⟨true, [.d (.v (.int .i64 c)), .d (.sl 1 l), .d (.v (.int .i64 m)), .d (.v (.int .i64 (a + 1))), .d (.sl 2 (dL (srS c.toNat (unS l) m (cdD c.toNat a.toNat) (unD q, t.toNat)).1)), .d (.v (.int .i64 ((srS c.toNat (unS l) m (cdD c.toNat a.toNat) (unD q, t.toNat)).2 : Nat)))]⟩], [])
 | _ => none⟩
theorem step8_ok : ContractOK E0 41 cStep8 := by
 refine contract_of_wpc (E := E0) (T := mkT Tryz.prog [(79, cCd8), (49, cHasB), (48, cInside), (33, cHold), (77, cCopyD)] false (fun _ => false) true (fun d => d == 998 || d == 1 || d == 3)) (mkT_ok (E := E0) (.cons cdI8_ok (.cons hasB_ok (.cons inside_ok (.cons holdI_ok (.cons copyD_ok .nil)))))) (fn := Tryz.f41) Tryz.func41 (by kernel_rfl) rfl mixedT (by kernel_rfl) rfl ?_
 intro args p rs ms hr
 unfold cStep8 at hr
 dsimp only at hr
 split at hr
 rotate_left
 ·cases hr
 rename_i c l m a q t
 simp only [Option.some.injEq, Prod.mk.injEq] at hr
 obtain ⟨rfl, rfl, rfl⟩ := hr
 refine ⟨rfl, rfl, Nat.le_of_ble_eq_true rfl, ?_⟩
 have hm : maxLen = 9223372036854775807 := rfl
 rintro ⟨⟨h1, h2⟩, htm, ⟨ha0, ha1⟩, hq, hq1, ht0, ht1⟩ bs
 obtain ⟨rs, rfl, hx, hy⟩ := h1.ex
 obtain ⟨ds, rfl, hd⟩ := h2.ex
 clear h1 h2
 rw [unS_sL] at htm ⊢
 rw [unD_dL] at hq ⊢
 rw [dL_length] at hq1
 obtain ⟨n, rfl, hn, hr1, hr2⟩ := hd_tab htm
 obtain ⟨k, rfl⟩ := Int.eq_ofNat_of_zero_le ha0
 obtain ⟨u, rfl⟩ := Int.eq_ofNat_of_zero_le ht0
 rw [Int.toNat_natCast] at ha1
 rw [Int.toNat_natCast, Int.toNat_natCast, Int.toNat_natCast]
 have ha1' : k < n * 2 ^ n := by exact_mod_cast ha1
 have hb := cnt_bound hn.2
 have hask := cd_ask hn ha1' htm
 have hR := cd_R hn ha1'
 have hn' : (1 : Int) ≤ (n : Int) ∧ (n : Int) ≤ 5 := by omega
 generalize hD : cdD n k = d at hask hR ⊢
 obtain ⟨x, r⟩ := d
 obtain ⟨hx5, hr0, hr4⟩ := hR
 dsimp only at hask hx5 hr0 hr4
 have hcv : ∀ i, i < ds.length → covB (x, r) (ds.getD i (0, 0)) = ((ds.getD i (0, 0)).2 == r && insB (ds.getD i (0, 0)).1 x) := fun i hi => covB_ins hx5 (hq _ (getD_mem hi _)).1
 have es : srS n rs m (x, r) (ds, u) = if hasB x r || cov ds (x, r) then (ds, u) else if hdB (n : Int) rs m x r then (ds ++ [(x, r)], u + 1) else (ds, u + 1) := rfl
 rw [es]
 clear es hq
 cases hh : hasB x r
 ·rw [Bool.false_or]
  have e0 : dL [] = [] := rfl
  unfold cov
  (repeat' (first | (refine gate_a fun _ => ?_) | (refine fork_intro (fun hb => ?_) (fun hb => ?_) <;> (try simp only [ew, hD, hh, e0] at hb)) | (simp only [go_sem, Nat.reduceLeDiff, Nat.reduceEqDiff, reduceIte, reduceCtorEq, Nat.reduceAdd, Nat.reduceMul, Nat.reduceSub, Nat.reduceLT, Int.reduceLT, Int.reduceLE, Int.reduceNeg, Int.reduceToNat, Nat.reduceBEq, Nat.reduceBNe, Int.reduceGE, Int.reduceGT, *, cStep8, cCd8, cHasB, cInside, cHold, cCopyD, Tryz.results41, hD, hh, e0])))
  refine loop_intro { ι := Nat, rs := [(5, 6), (26, 43)], mods := [(25, fun i => .one (.d (.v (.int .i64 i))))], boxes := [(1, fun _ => [.d (.v (.int .i64 n)), .d (.sl 1 (sL rs)), .d (.v (.int .i64 m)), .d (.v (.int .i64 (k + 1))), .d (.sl 2 (dL ds)), .d (.v (.int .i64 u))]), (2, fun _ => [.d (.v (.int .i64 0)), .d (.v (.slice none 0 0)), .d (.v (.int .i64 0)), .d (.v (.int .i64 0)), .d (.v (.slice none 0 0)), .d (.v (.int .i64 0))]), (3, fun _ => [.d (.v (.int .i64 x)), .d (.v (.int .i64 r))])], arrs := [], ok := fun i => i ≤ ds.length ∧ (ds.drop i).any (covB (x, r)) = ds.any (covB (x, r)), mu := fun i => ds.length - i } rfl 0 ⟨Nat.zero_le _, rfl⟩ ?_ fun i hi => ?_
  ·(repeat' (first | (refine gate_a fun _ => ?_) | (refine fork_intro (fun hb => ?_) (fun hb => ?_) <;> (try simp only [ew, e0] at hb)) | (simp only [go_sem, Nat.reduceLeDiff, Nat.reduceEqDiff, reduceIte, reduceCtorEq, Nat.reduceAdd, Nat.reduceMul, Nat.reduceSub, Nat.reduceLT, Int.reduceLT, Int.reduceLE, Int.reduceNeg, Int.reduceToNat, Nat.reduceBEq, Nat.reduceBNe, Int.reduceGE, Int.reduceGT, *, cStep8, cCd8, cHasB, cInside, cHold, cCopyD, Tryz.results41, e0])))
   all_goals first | rfl | skip
  ·dsimp only at i hi
   obtain ⟨hi, ht⟩ := hi
   by_cases h5 : i < ds.length
   ·rw [anyb_drop h5 (0, 0)] at ht
    have hc := hcv i h5
    cases hv : covB (x, r) (ds.getD i (0, 0))
    ·rw [hv, Bool.false_or] at ht
     rw [hv, insB_def] at hc
     replace hc := hc.symm
     clear hv hcv
     (repeat' (first | (refine gate_a fun _ => ?_) | (refine fork_intro (fun hb => ?_) (fun hb => ?_) <;> (try simp only [ew, hc] at hb)) | (simp only [go_sem, Nat.reduceLeDiff, Nat.reduceEqDiff, reduceIte, reduceCtorEq, Nat.reduceAdd, Nat.reduceMul, Nat.reduceSub, Nat.reduceLT, Int.reduceLT, Int.reduceLE, Int.reduceNeg, Int.reduceToNat, Nat.reduceBEq, Nat.reduceBNe, Int.reduceGE, Int.reduceGT, *, cStep8, cCd8, cHasB, cInside, cHold, cCopyD, Tryz.results41, hc])))
     refine loop_next (i + 1) ⟨by omega, ht⟩ (by dsimp only; omega) ?_
     clear ht
     (repeat' (first | (refine gate_a fun _ => ?_) | (refine fork_intro (fun hb => ?_) (fun hb => ?_) <;> (try simp only [ew, hc] at hb)) | (simp only [go_sem, Nat.reduceLeDiff, Nat.reduceEqDiff, reduceIte, reduceCtorEq, Nat.reduceAdd, Nat.reduceMul, Nat.reduceSub, Nat.reduceLT, Int.reduceLT, Int.reduceLE, Int.reduceNeg, Int.reduceToNat, Nat.reduceBEq, Nat.reduceBNe, Int.reduceGE, Int.reduceGT, *, cStep8, cCd8, cHasB, cInside, cHold, cCopyD, Tryz.results41, hc])))
    ·rw [hv, Bool.true_or] at ht
     rw [← ht, if_pos rfl]
     rw [hv, insB_def] at hc
     replace hc := hc.symm
     clear hv ht hcv
     (repeat' (first | (refine gate_a fun _ => ?_) | (refine fork_intro (fun hb => ?_) (fun hb => ?_) <;> (try simp only [ew, hc] at hb)) | (simp only [go_sem, Nat.reduceLeDiff, Nat.reduceEqDiff, reduceIte, reduceCtorEq, Nat.reduceAdd, Nat.reduceMul, Nat.reduceSub, Nat.reduceLT, Int.reduceLT, Int.reduceLE, Int.reduceNeg, Int.reduceToNat, Nat.reduceBEq, Nat.reduceBNe, Int.reduceGE, Int.reduceGT, *, cStep8, cCd8, cHasB, cInside, cHold, cCopyD, Tryz.results41, hc])))
     all_goals first | rfl | skip
   ·have e5 : i = ds.length := by omega
    subst e5
    rw [List.drop_length, List.any_nil] at ht
    rw [← ht, if_neg (by decide)]
    clear ht hcv
    cases hh2 : hdB (n : Int) rs m x r
    ·rw [if_neg (by decide)]
     (repeat' (first | (refine gate_a fun _ => ?_) | (refine fork_intro (fun hb => ?_) (fun hb => ?_) <;> (try simp only [ew, hh2] at hb)) | (simp only [go_sem, Nat.reduceLeDiff, Nat.reduceEqDiff, reduceIte, reduceCtorEq, Nat.reduceAdd, Nat.reduceMul, Nat.reduceSub, Nat.reduceLT, Int.reduceLT, Int.reduceLE, Int.reduceNeg, Int.reduceToNat, Nat.reduceBEq, Nat.reduceBNe, Int.reduceGE, Int.reduceGT, *, cStep8, cCd8, cHasB, cInside, cHold, cCopyD, Tryz.results41, hh2])))
     all_goals first | rfl | skip
    ·rw [if_pos rfl]
     (repeat' (first | (refine gate_a fun _ => ?_) | (refine fork_intro (fun hb => ?_) (fun hb => ?_) <;> (try simp only [ew, hh2, dL_snoc] at hb)) | (simp only [go_sem, Nat.reduceLeDiff, Nat.reduceEqDiff, reduceIte, reduceCtorEq, Nat.reduceAdd, Nat.reduceMul, Nat.reduceSub, Nat.reduceLT, Int.reduceLT, Int.reduceLE, Int.reduceNeg, Int.reduceToNat, Nat.reduceBEq, Nat.reduceBNe, Int.reduceGE, Int.reduceGT, *, cStep8, cCd8, cHasB, cInside, cHold, cCopyD, Tryz.results41, hh2, dL_snoc])))
     all_goals first | rfl | skip
 ·rw [Bool.true_or, if_pos rfl]
  clear hcv
  (repeat' (first | (refine gate_a fun _ => ?_) | (refine fork_intro (fun hb => ?_) (fun hb => ?_) <;> (try simp only [ew, hD, hh] at hb)) | (simp only [go_sem, Nat.reduceLeDiff, Nat.reduceEqDiff, reduceIte, reduceCtorEq, Nat.reduceAdd, Nat.reduceMul, Nat.reduceSub, Nat.reduceLT, Int.reduceLT, Int.reduceLE, Int.reduceNeg, Int.reduceToNat, Nat.reduceBEq, Nat.reduceBNe, Int.reduceGE, Int.reduceGT, *, cStep8, cCd8, cHasB, cInside, cHold, cCopyD, Tryz.results41, hD, hh])))
  all_goals first | rfl | skip
def nsC (c : Int) (rs : List (List Int)) (m : Int) : Int := if (tabOK c rs && modeOK m) then c else 0
def nsL (c : Int) (rs : List (List Int)) (m : Int) : List (List Int) := if (tabOK c rs && modeOK m) then rs else []
def nsM (c : Int) (rs : List (List Int)) (m : Int) : Int := if (tabOK c rs && modeOK m) then m else 0
def cNewS : Contract := ⟨[], false, fun
 | [.agg [.v (.int .i64 c), .sl 1 l], .one (.v (.int .i64 m))] => some (WfS l ∧ -9223372036854775808 ≤ c ∧ c ≤ 9223372036854775807,
   [⟨true, [.d (.v (.int .i64 (nsC c (unS l) m))), .d (.sl 1 (sL (nsL c (unS l) m))), .d (.v (.int .i64 (nsM c (unS l) m))), .d (.v (.int .i64 0)), .d (.sl 2 []), .d (.v (.int .i64 0))]⟩, ⟨false, [.d (.v (.bool (tabOK c (unS l) && modeOK m)))]⟩], [])
 | _ => none⟩
theorem newS_ok : ContractOK E0 9 cNewS := by
 refine contract_of_wpc (E := E0) (T := mkT Tryz.prog [(29, cIsTableS), (30, cMode), (37, cCopyT)] false (fun _ => false) true (fun _ => false)) (mkT_ok (E := E0) (.cons isTableI_ok (.cons modeI_ok (.cons copyTI_ok .nil)))) (fn := Tryz.f9) Tryz.func9 (by kernel_rfl) rfl mixedT (by kernel_rfl) rfl ?_
 intro args p rs ms hr
 unfold cNewS at hr
 dsimp only at hr
 split at hr
 rotate_left
 ·cases hr
 rename_i c l m
 simp only [Option.some.injEq, Prod.mk.injEq] at hr
 obtain ⟨rfl, rfl, rfl⟩ := hr
 refine ⟨rfl, rfl, Nat.le_of_ble_eq_true rfl, ?_⟩
 have hm : maxLen = 9223372036854775807 := rfl
 rintro ⟨h1, hc1, hc2⟩ bs
 obtain ⟨rs, rfl, hx, hy⟩ := h1.ex
 clear h1
 rw [unS_sL]
 have e0 : sL [] = [] := rfl
 unfold nsC nsL nsM
 cases h4 : tabOK c rs
 ·rw [Bool.false_and, if_neg (by decide), if_neg (by decide), if_neg (by decide)]
  (repeat' (first | (refine gate_a fun _ => ?_) | (refine fork_intro (fun hb => ?_) (fun hb => ?_) <;> (try simp only [ew, h4, e0] at hb)) | (simp only [go_sem, Nat.reduceLeDiff, Nat.reduceEqDiff, reduceIte, reduceCtorEq, Nat.reduceAdd, Nat.reduceMul, Nat.reduceSub, Nat.reduceLT, Int.reduceLT, Int.reduceLE, Int.reduceNeg, Int.reduceToNat, Nat.reduceBEq, Nat.reduceBNe, Int.reduceGE, Int.reduceGT, *, cNewS, cIsTableS, cMode, cCopyT, Tryz.results9, h4, e0])))
  all_goals first | rfl | skip
 ·cases h5 : modeOK m
  ·rw [Bool.and_false, if_neg (by decide), if_neg (by decide), if_neg (by decide)]
   (repeat' (first | (refine gate_a fun _ => ?_) | (refine fork_intro (fun hb => ?_) (fun hb => ?_) <;> (try simp only [ew, h4, h5, e0] at hb)) | (simp only [go_sem, Nat.reduceLeDiff, Nat.reduceEqDiff, reduceIte, reduceCtorEq, Nat.reduceAdd, Nat.reduceMul, Nat.reduceSub, Nat.reduceLT, Int.reduceLT, Int.reduceLE, Int.reduceNeg, Int.reduceToNat, Nat.reduceBEq, Nat.reduceBNe, Int.reduceGE, Int.reduceGT, *, cNewS, cIsTableS, cMode, cCopyT, Tryz.results9, h4, h5, e0])))
   all_goals first | rfl | skip
  ·rw [Bool.and_true, if_pos rfl, if_pos rfl, if_pos rfl]
   obtain ⟨k1, k2⟩ := tab_small h4
   have k3 : ∀ r ∈ rs, r.length ≤ 16777216 := fun r hr => by have := k2 r hr; omega
   have k4 : rs.length ≤ 16777216 := by omega
   clear k2
   (repeat' (first | (refine gate_a fun _ => ?_) | (refine fork_intro (fun hb => ?_) (fun hb => ?_) <;> (try simp only [ew, h4, h5, e0] at hb)) | (simp only [go_sem, Nat.reduceLeDiff, Nat.reduceEqDiff, reduceIte, reduceCtorEq, Nat.reduceAdd, Nat.reduceMul, Nat.reduceSub, Nat.reduceLT, Int.reduceLT, Int.reduceLE, Int.reduceNeg, Int.reduceToNat, Nat.reduceBEq, Nat.reduceBNe, Int.reduceGE, Int.reduceGT, *, cNewS, cIsTableS, cMode, cCopyT, Tryz.results9, h4, h5, e0])))
   all_goals first | rfl | skip
def cIsSr : Contract := ⟨[], false, fun
 | [.agg [.v (.int .i64 c), .sl 1 l, .v (.int .i64 m), .v (.int .i64 a), .sl 2 q, .v (.int .i64 t)]] => some ((WfS l ∧ WfD q) ∧ (-9223372036854775808 ≤ c ∧ c ≤ 9223372036854775807) ∧ (-9223372036854775808 ≤ a ∧ a ≤ 9223372036854775807) ∧ -9223372036854775808 ≤ t ∧ t ≤ 9223372036854775807,
   [⟨false, [.d (.v (.bool (isSr c (unS l) m a (unD q) t)))]⟩], [])
 | _ => none⟩
theorem isSrI_ok : ContractOK E0 39 cIsSr := by
 refine contract_of_wpc (E := E0) (T := mkT Tryz.prog [(9, cNewS), (40, cCnt8), (41, cStep8), (78, cEqDepS)] false (fun _ => false) true (fun d => d == 999)) (mkT_ok (E := E0) (.cons newS_ok (.cons cntI8_ok (.cons step8_ok (.cons sameDepsI_ok .nil))))) (fn := Tryz.f39) Tryz.func39 (by kernel_rfl) rfl mixedT (by kernel_rfl) rfl ?_
 intro args p rs ms hr
 unfold cIsSr at hr
 dsimp only at hr
 split at hr
 rotate_left
 ·cases hr
 rename_i c l m a q t
 simp only [Option.some.injEq, Prod.mk.injEq] at hr
 obtain ⟨rfl, rfl, rfl⟩ := hr
 refine ⟨rfl, rfl, Nat.le_of_ble_eq_true rfl, ?_⟩
 have hm : maxLen = 9223372036854775807 := rfl
 rintro ⟨⟨h1, h2⟩, ⟨hc1, hc2⟩, ⟨ha1, ha2⟩, ht1, ht2⟩ bs
 obtain ⟨rs, rfl, hx, hy⟩ := h1.ex
 obtain ⟨ds, rfl, hd⟩ := h2.ex
 clear h1 h2
 rw [unS_sL, unD_dL]
 have e0 : sL [] = [] := rfl
 have e0' : dL [] = [] := rfl
 cases h4 : (tabOK c rs && modeOK m)
 ·have e : isSr c rs m a ds t = false := by unfold isSr; rw [h4]; rfl
  have hns : (nsL c rs m).length ≤ maxLen ∧ ∀ r ∈ nsL c rs m, r.length ≤ maxLen := by unfold nsL; rw [h4, if_neg (by decide)]; simp
  generalize hn1 : nsL c rs m = nl at hns
  generalize hn2 : nsC c rs m = nc
  generalize hn3 : nsM c rs m = nm
  obtain ⟨hns1, hns2⟩ := hns
  rw [e]
  clear e
  (repeat' (first | (refine gate_a fun _ => ?_) | (refine fork_intro (fun hb => ?_) (fun hb => ?_) <;> (try simp only [ew, h4, hn1, hn2, hn3] at hb)) | (simp only [go_sem, Nat.reduceLeDiff, Nat.reduceEqDiff, reduceIte, reduceCtorEq, Nat.reduceAdd, Nat.reduceMul, Nat.reduceSub, Nat.reduceLT, Int.reduceLT, Int.reduceLE, Int.reduceNeg, Int.reduceToNat, Nat.reduceBEq, Nat.reduceBNe, Int.reduceGE, Int.reduceGT, *, cIsSr, cNewS, cCnt8, cStep8, cEqDepS, Tryz.results39, h4, hn1, hn2, hn3])))
  all_goals first | rfl | skip
 ·obtain ⟨n, rfl, hn, hr1, hr2⟩ := hd_tab h4
  have hn1 : nsC (n : Int) rs m = n := by unfold nsC; rw [h4, if_pos rfl]
  have hn2 : nsL (n : Int) rs m = rs := by unfold nsL; rw [h4, if_pos rfl]
  have hn3 : nsM (n : Int) rs m = m := by unfold nsM; rw [h4, if_pos rfl]
  have hn' : (1 : Int) ≤ (n : Int) ∧ (n : Int) ≤ 5 := by omega
  have hcb := cnt_bound hn.2
  have hcz : ((n : Int)) * 2 ^ n = ((n * 2 ^ n : Nat) : Int) := by push_cast; rfl
  have hgt0 : (0 : Int) ≤ (n : Int) := by omega
  generalize hN : n * 2 ^ n = N at hcb hcz
  by_cases hA : a < 0
  ·have e : isSr (n : Int) rs m a ds t = false := by
    have : inB a 0 ((n : Int) * 2 ^ n) = false := by
     cases h : inB a 0 ((n : Int) * 2 ^ n) with
     | false => rfl
     | true => rw [inB_iff] at h; omega
    unfold isSr; rw [h4, Int.toNat_natCast, this]; rfl
   have b1 : decide (a < 0) = true := decide_eq_true hA
   rw [e]
   clear e
   (repeat' (first | (refine gate_a fun _ => ?_) | (refine fork_intro (fun hb => ?_) (fun hb => ?_) <;> (try simp only [ew, h4, hn1, hn2, hn3, b1] at hb)) | (simp only [go_sem, Nat.reduceLeDiff, Nat.reduceEqDiff, reduceIte, reduceCtorEq, Nat.reduceAdd, Nat.reduceMul, Nat.reduceSub, Nat.reduceLT, Int.reduceLT, Int.reduceLE, Int.reduceNeg, Int.reduceToNat, Nat.reduceBEq, Nat.reduceBNe, Int.reduceGE, Int.reduceGT, *, cIsSr, cNewS, cCnt8, cStep8, cEqDepS, Tryz.results39, h4, hn1, hn2, hn3, b1])))
   all_goals first | rfl | skip
  ·have b1 : decide (a < 0) = false := decide_eq_false hA
   obtain ⟨k, rfl⟩ := Int.eq_ofNat_of_zero_le (show 0 ≤ a by omega)
   by_cases hB : N < k
   ·have e : isSr (n : Int) rs m k ds t = false := by
     have : inB (k : Int) 0 ((n : Int) * 2 ^ n) = false := by
      cases h : inB (k : Int) 0 ((n : Int) * 2 ^ n) with
      | false => rfl
      | true => rw [inB_iff, hcz] at h; omega
     unfold isSr; rw [h4, Int.toNat_natCast, this]; rfl
    have b2 : decide ((k : Int) > (N : Int)) = true := decide_eq_true (by omega)
    rw [e]
    clear e
    (repeat' (first | (refine gate_a fun _ => ?_) | (refine fork_intro (fun hb => ?_) (fun hb => ?_) <;> (try simp only [ew, h4, hn1, hn2, hn3, b1, b2, hcz] at hb)) | (simp only [go_sem, Nat.reduceLeDiff, Nat.reduceEqDiff, reduceIte, reduceCtorEq, Nat.reduceAdd, Nat.reduceMul, Nat.reduceSub, Nat.reduceLT, Int.reduceLT, Int.reduceLE, Int.reduceNeg, Int.reduceToNat, Nat.reduceBEq, Nat.reduceBNe, Int.reduceGE, Int.reduceGT, *, cIsSr, cNewS, cCnt8, cStep8, cEqDepS, Tryz.results39, h4, hn1, hn2, hn3, b1, b2, hcz])))
    all_goals first | rfl | skip
   ·have b2 : decide ((k : Int) > (N : Int)) = false := decide_eq_false (by omega)
    have e : isSr (n : Int) rs m k ds t = ((((srI n rs m k).2 : Nat) : Int) == t && (srI n rs m k).1 == ds) := by
     have : inB (k : Int) 0 ((n : Int) * 2 ^ n) = true := by rw [inB_iff, hcz]; omega
     have q1 : ∀ x y : List (Int × Int), (x == y) = (y == x) := fun x y => by rw [Bool.eq_iff_iff, beq_iff_eq, beq_iff_eq]; exact eq_comm
     have q2 : ∀ x y : Int, (x == y) = (y == x) := fun x y => by rw [Bool.eq_iff_iff, beq_iff_eq, beq_iff_eq]; exact eq_comm
     unfold isSr
     rw [h4, Int.toNat_natCast, Int.toNat_natCast, this, Bool.true_and, Bool.true_and, q1, q2, Bool.and_comm]
    rw [e]
    clear e
    have hfa : ∀ i, i ≤ k → (srI n rs m i).1.length ≤ 160 ∧ (srI n rs m i).2 ≤ 160 ∧ ∀ d ∈ (srI n rs m i).1, depR d := fun i hi => by
     obtain ⟨w1, w2, w3⟩ := @srI_facts n rs m hn i (by omega)
     exact ⟨by omega, by omega, w3⟩
    have u1 : (srI n rs m 0).1 = [] := rfl
    have u2 : (srI n rs m 0).2 = 0 := rfl
    (repeat' (first | (refine gate_a fun _ => ?_) | (refine fork_intro (fun hb => ?_) (fun hb => ?_) <;> (try simp only [ew, h4, hn1, hn2, hn3, b1, b2, hcz, e0'] at hb)) | (simp only [go_sem, Nat.reduceLeDiff, Nat.reduceEqDiff, reduceIte, reduceCtorEq, Nat.reduceAdd, Nat.reduceMul, Nat.reduceSub, Nat.reduceLT, Int.reduceLT, Int.reduceLE, Int.reduceNeg, Int.reduceToNat, Nat.reduceBEq, Nat.reduceBNe, Int.reduceGE, Int.reduceGT, *, cIsSr, cNewS, cCnt8, cStep8, cEqDepS, Tryz.results39, h4, hn1, hn2, hn3, b1, b2, hcz, e0'])))
    refine loop_intro { ι := Nat, rs := [(29, 36)], mods := [], boxes := [(1, fun _ => [.d (.v (.int .i64 n)), .d (.sl 1 (sL rs)), .d (.v (.int .i64 m)), .d (.v (.int .i64 k)), .d (.sl 2 (dL ds)), .d (.v (.int .i64 t))]), (3, fun i => [.d (.v (.int .i64 n)), .d (.sl 1 (sL rs)), .d (.v (.int .i64 m)), .d (.v (.int .i64 i)), .d (.sl 2 (dL (srI n rs m i).1)), .d (.v (.int .i64 ((srI n rs m i).2 : Nat)))])], arrs := [], ok := fun i => i ≤ k, mu := fun i => k - i } rfl 0 (Nat.zero_le _) ?_ fun i hi => ?_
    ·clear hfa
     (repeat' (first | (refine gate_a fun _ => ?_) | (refine fork_intro (fun hb => ?_) (fun hb => ?_) <;> (try simp only [ew, e0', u1, u2] at hb)) | (simp only [go_sem, Nat.reduceLeDiff, Nat.reduceEqDiff, reduceIte, reduceCtorEq, Nat.reduceAdd, Nat.reduceMul, Nat.reduceSub, Nat.reduceLT, Int.reduceLT, Int.reduceLE, Int.reduceNeg, Int.reduceToNat, Nat.reduceBEq, Nat.reduceBNe, Int.reduceGE, Int.reduceGT, *, cIsSr, cNewS, cCnt8, cStep8, cEqDepS, Tryz.results39, e0', u1, u2])))
     all_goals first | rfl | skip
    ·dsimp only at i hi
     obtain ⟨w1, w2, w3⟩ := hfa i hi
     by_cases h5 : i < k
     ·have es : srI n rs m (i + 1) = srS n rs m (cdD n i) (srI n rs m i) := rfl
      have es2 : ((srI n rs m i).1, (srI n rs m i).2) = srI n rs m i := rfl
      have hlt : ((i : Nat) : Int) < ((N : Nat) : Int) := by omega
      generalize hZ : srI n rs m i = Z at w1 w2 w3 es es2
      obtain ⟨zq, zt⟩ := Z
      dsimp only at w1 w2 w3
      have w4 : zq.length ≤ maxLen := Nat.le_trans w1 (by decide)
      clear hfa es2
      (repeat' (first | (refine gate_a fun _ => ?_) | (refine fork_intro (fun hb => ?_) (fun hb => ?_) <;> (try simp only [ew, h4, hcz, hZ] at hb)) | (simp only [go_sem, Nat.reduceLeDiff, Nat.reduceEqDiff, reduceIte, reduceCtorEq, Nat.reduceAdd, Nat.reduceMul, Nat.reduceSub, Nat.reduceLT, Int.reduceLT, Int.reduceLE, Int.reduceNeg, Int.reduceToNat, Nat.reduceBEq, Nat.reduceBNe, Int.reduceGE, Int.reduceGT, *, cIsSr, cNewS, cCnt8, cStep8, cEqDepS, Tryz.results39, h4, hcz, hZ])))
      refine loop_next (i + 1) (by dsimp only; omega) (by dsimp only; omega) ?_
      rw [← es]
      (repeat' (first | (refine gate_a fun _ => ?_) | (refine fork_intro (fun hb => ?_) (fun hb => ?_) <;> (try simp only [ew] at hb)) | (simp only [go_sem, Nat.reduceLeDiff, Nat.reduceEqDiff, reduceIte, reduceCtorEq, Nat.reduceAdd, Nat.reduceMul, Nat.reduceSub, Nat.reduceLT, Int.reduceLT, Int.reduceLE, Int.reduceNeg, Int.reduceToNat, Nat.reduceBEq, Nat.reduceBNe, Int.reduceGE, Int.reduceGT, *, cIsSr, cNewS, cCnt8, cStep8, cEqDepS, Tryz.results39])))
      all_goals first | rfl | skip
     ·have e5 : i = k := by omega
      subst e5
      clear hfa
      generalize hZ : srI n rs m i = Z at w1 w2 w3 ⊢
      obtain ⟨zq, zt⟩ := Z
      dsimp only at w1 w2 w3
      have w4 : zq.length ≤ maxLen := Nat.le_trans w1 (by decide)
      cases hq1 : (((zt : Nat) : Int) == t)
      ·(repeat' (first | (refine gate_a fun _ => ?_) | (refine fork_intro (fun hb => ?_) (fun hb => ?_) <;> (try simp only [ew, hZ, hq1] at hb)) | (simp only [go_sem, Nat.reduceLeDiff, Nat.reduceEqDiff, reduceIte, reduceCtorEq, Nat.reduceAdd, Nat.reduceMul, Nat.reduceSub, Nat.reduceLT, Int.reduceLT, Int.reduceLE, Int.reduceNeg, Int.reduceToNat, Nat.reduceBEq, Nat.reduceBNe, Int.reduceGE, Int.reduceGT, *, cIsSr, cNewS, cCnt8, cStep8, cEqDepS, Tryz.results39, hZ, hq1])))
       all_goals first | rfl | skip
      ·(repeat' (first | (refine gate_a fun _ => ?_) | (refine fork_intro (fun hb => ?_) (fun hb => ?_) <;> (try simp only [ew, hZ, hq1] at hb)) | (simp only [go_sem, Nat.reduceLeDiff, Nat.reduceEqDiff, reduceIte, reduceCtorEq, Nat.reduceAdd, Nat.reduceMul, Nat.reduceSub, Nat.reduceLT, Int.reduceLT, Int.reduceLE, Int.reduceNeg, Int.reduceToNat, Nat.reduceBEq, Nat.reduceBNe, Int.reduceGE, Int.reduceGT, *, cIsSr, cNewS, cCnt8, cStep8, cEqDepS, Tryz.results39, hZ, hq1])))
       all_goals first | rfl | skip
end Go.Own
/-
  Agreeing columns of two rows, searches run to their end, lists of dependencies as sets, bytes of a code. Conditions: as each theorem states them.
-/
namespace Go.Own
open Go Go.Proofs
attribute [local go_sem] unD_dL dL_length dL_get dL_set dL_inj wfD_dL scal2 beq2 pair_eta dL_scal unB_bL bL_length wfB_bL
def cAo : Contract := ⟨[], false, fun
 | [.agg [.v (.int .i64 c), .sl 1 l], .one (.v (.int .i64 m)), .one (.v (.int .i64 i)), .one (.v (.int .i64 k))] => some (WfS l ∧ (tabOK c (unS l) && modeOK m) = true ∧ (0 ≤ i ∧ i < l.length) ∧ 0 ≤ k ∧ k < l.length, [⟨false, [.d (.v (.int .i64 (agL m ((unS l).getD i.toNat []) ((unS l).getD k.toNat []) c.toNat)))]⟩], [])
 | _ => none⟩
theorem ao_ok : ContractOK E0 18 cAo := by
 refine contract_of_wpc (E := E0) (T := mkT Tryz.prog [(29, cIsTableS), (30, cMode), (50, cAgree)] false (fun _ => false) true (fun d => d == 999)) (mkT_ok (E := E0) (.cons isTableI_ok (.cons modeI_ok (.cons agree_ok .nil)))) (fn := Tryz.f18) Tryz.func18 (by kernel_rfl) rfl mixedT (by kernel_rfl) rfl ?_
 intro args p rs ms hr
 unfold cAo at hr
 dsimp only at hr
 split at hr
 rotate_left
 ·cases hr
 rename_i c l m i k
 simp only [Option.some.injEq, Prod.mk.injEq] at hr
 obtain ⟨rfl, rfl, rfl⟩ := hr
 refine ⟨rfl, rfl, Nat.le_of_ble_eq_true rfl, ?_⟩
 have hm : maxLen = 9223372036854775807 := rfl
 rintro ⟨h1, htm, ⟨hi0, hi1⟩, hk0, hk1⟩ bs
 obtain ⟨rs, rfl, hx, hy⟩ := h1.ex
 clear h1
 rw [unS_sL] at htm ⊢
 rw [sL_length] at hi1 hk1
 rw [Bool.and_eq_true] at htm
 obtain ⟨ht, hm⟩ := htm
 obtain ⟨n, rfl, n1, n5, h40, hrow⟩ := tab_rows ht
 obtain ⟨i, rfl⟩ := Int.eq_ofNat_of_zero_le hi0
 obtain ⟨k, rfl⟩ := Int.eq_ofNat_of_zero_le hk0
 have q1 := hrow i (by omega)
 have q2 := hrow k (by omega)
 rw [Int.toNat_natCast, Int.toNat_natCast, Int.toNat_natCast]
 have d1 : decide (((i : Nat) : Int) < 0) = false := decide_eq_false (by omega)
 have d2 : decide (((k : Nat) : Int) < 0) = false := decide_eq_false (by omega)
 have d3 : decide (((i : Nat) : Int) ≥ (rs.length : Int)) = false := decide_eq_false (by omega)
 have d4 : decide (((k : Nat) : Int) ≥ (rs.length : Int)) = false := decide_eq_false (by omega)
 have d5 : decide (rs.length ≤ i) = false := decide_eq_false (by omega)
 have d6 : decide (rs.length ≤ k) = false := decide_eq_false (by omega)
 have i1 : i < rs.length := by omega
 have k1 : k < rs.length := by omega
 have q3 : (rs.getD i []).length = (rs.getD k []).length := by rw [q1, q2]
 have q4 : (rs.getD i []).length ≤ 5 := by omega
 clear hrow
 (repeat' (first | (refine gate_a fun _ => ?_) | (refine fork_intro (fun hb => ?_) (fun hb => ?_) <;> (try simp only [ew, ht, hm, d1, d2, d5, d6, q1] at hb)) | (simp only [go_sem, Nat.reduceLeDiff, Nat.reduceEqDiff, reduceIte, reduceCtorEq, Nat.reduceAdd, Nat.reduceMul, Nat.reduceSub, Nat.reduceLT, Int.reduceLT, Int.reduceLE, Int.reduceNeg, Int.reduceToNat, Nat.reduceBEq, Nat.reduceBNe, Int.reduceGE, Int.reduceGT, *, cAo, cIsTableS, cMode, cAgree, Tryz.results18, ht, hm, d1, d2, d5, d6, q1])))
 all_goals first | rfl | skip
def cHasD : Contract := ⟨[], false, fun
 | [.one (.sl 2 l), .agg [.v (.int .i64 x), .v (.int .i64 r)]] => some (WfD l, [⟨false, [.d (.v (.bool ((unD l).contains (x, r))))]⟩], [])
 | _ => none⟩
theorem containsD_drop {xs : List (Int × Int)} {i : Nat} {d : Int × Int} (h : i < xs.length) : (xs.drop i).contains d = (d == xs.getD i (0, 0) || (xs.drop (i + 1)).contains d) := by
 rw [List.drop_eq_getElem_cons h, List.contains_cons]
 simp [List.getD_eq_getElem?_getD, h]
theorem hasD_ok : ContractOK E0 52 cHasD := by
 refine contract_of_wpc (E := E0) (T := mkT Tryz.prog [] false (fun _ => false) true (fun d => d == 3)) (mkT_ok (E := E0) .nil) (fn := Tryz.f52) Tryz.func52 (by kernel_rfl) rfl mixedT (by kernel_rfl) rfl ?_
 intro args p rs ms hr
 unfold cHasD at hr
 dsimp only at hr
 split at hr
 rotate_left
 ·cases hr
 rename_i l x r
 simp only [Option.some.injEq, Prod.mk.injEq] at hr
 obtain ⟨rfl, rfl, rfl⟩ := hr
 refine ⟨rfl, rfl, Nat.le_of_ble_eq_true rfl, ?_⟩
 have hm : maxLen = 9223372036854775807 := rfl
 intro h1 bs
 obtain ⟨ds, rfl, hx⟩ := h1.ex
 clear h1
 rw [unD_dL]
 (repeat' (first | (refine gate_a fun _ => ?_) | (refine fork_intro (fun hb => ?_) (fun hb => ?_) <;> (try simp only [ew] at hb)) | (simp only [go_sem, Nat.reduceLeDiff, Nat.reduceEqDiff, reduceIte, reduceCtorEq, Nat.reduceAdd, Nat.reduceMul, Nat.reduceSub, Nat.reduceLT, Int.reduceLT, Int.reduceLE, Int.reduceNeg, Int.reduceToNat, Nat.reduceBEq, Nat.reduceBNe, Int.reduceGE, Int.reduceGT, *, cHasD, Tryz.results52])))
 refine loop_intro { ι := Nat, rs := [(4, 5), (6, 18)], mods := [(5, fun i => .one (.d (.v (.int .i64 i))))], boxes := [(3, fun _ => [.d (.v (.int .i64 x)), .d (.v (.int .i64 r))])], arrs := [], ok := fun i => i ≤ ds.length ∧ (ds.drop i).contains (x, r) = ds.contains (x, r), mu := fun i => ds.length - i } rfl 0 ⟨Nat.zero_le _, rfl⟩ ?_ fun i hi => ?_
 ·(repeat' (first | (refine gate_a fun _ => ?_) | (refine fork_intro (fun hb => ?_) (fun hb => ?_) <;> (try simp only [ew] at hb)) | (simp only [go_sem, Nat.reduceLeDiff, Nat.reduceEqDiff, reduceIte, reduceCtorEq, Nat.reduceAdd, Nat.reduceMul, Nat.reduceSub, Nat.reduceLT, Int.reduceLT, Int.reduceLE, Int.reduceNeg, Int.reduceToNat, Nat.reduceBEq, Nat.reduceBNe, Int.reduceGE, Int.reduceGT, *, cHasD, Tryz.results52])))
  all_goals first | rfl | skip
 ·dsimp only at i hi
  obtain ⟨hi, ht⟩ := hi
  by_cases h5 : i < ds.length
  ·rw [containsD_drop h5] at ht
   cases hq : (ds.getD i (0, 0) == (x, r))
   ·have hq' : ((x, r) == ds.getD i (0, 0)) = false := by
     rw [beq_eq_false_iff_ne] at hq ⊢
     exact fun e => hq e.symm
    rw [hq', Bool.false_or] at ht
    clear hq'
    (repeat' (first | (refine gate_a fun _ => ?_) | (refine fork_intro (fun hb => ?_) (fun hb => ?_) <;> (try simp only [ew, hq] at hb)) | (simp only [go_sem, Nat.reduceLeDiff, Nat.reduceEqDiff, reduceIte, reduceCtorEq, Nat.reduceAdd, Nat.reduceMul, Nat.reduceSub, Nat.reduceLT, Int.reduceLT, Int.reduceLE, Int.reduceNeg, Int.reduceToNat, Nat.reduceBEq, Nat.reduceBNe, Int.reduceGE, Int.reduceGT, *, cHasD, Tryz.results52, hq])))
    refine loop_next (i + 1) ⟨by omega, ht⟩ (by dsimp only; omega) ?_
    clear ht
    (repeat' (first | (refine gate_a fun _ => ?_) | (refine fork_intro (fun hb => ?_) (fun hb => ?_) <;> (try simp only [ew] at hb)) | (simp only [go_sem, Nat.reduceLeDiff, Nat.reduceEqDiff, reduceIte, reduceCtorEq, Nat.reduceAdd, Nat.reduceMul, Nat.reduceSub, Nat.reduceLT, Int.reduceLT, Int.reduceLE, Int.reduceNeg, Int.reduceToNat, Nat.reduceBEq, Nat.reduceBNe, Int.reduceGE, Int.reduceGT, *, cHasD, Tryz.results52])))
    all_goals first | rfl | skip
   ·have hq' : ((x, r) == ds.getD i (0, 0)) = true := by
     rw [beq_iff_eq] at hq ⊢
     exact hq.symm
    rw [hq', Bool.true_or] at ht
    rw [← ht]
    clear ht hq'
    (repeat' (first | (refine gate_a fun _ => ?_) | (refine fork_intro (fun hb => ?_) (fun hb => ?_) <;> (try simp only [ew, hq] at hb)) | (simp only [go_sem, Nat.reduceLeDiff, Nat.reduceEqDiff, reduceIte, reduceCtorEq, Nat.reduceAdd, Nat.reduceMul, Nat.reduceSub, Nat.reduceLT, Int.reduceLT, Int.reduceLE, Int.reduceNeg, Int.reduceToNat, Nat.reduceBEq, Nat.reduceBNe, Int.reduceGE, Int.reduceGT, *, cHasD, Tryz.results52, hq])))
    all_goals first | rfl | skip
  ·have e5 : i = ds.length := by omega
   subst e5
   rw [List.drop_length, List.contains_nil] at ht
   rw [← ht]
   clear ht
   (repeat' (first | (refine gate_a fun _ => ?_) | (refine fork_intro (fun hb => ?_) (fun hb => ?_) <;> (try simp only [ew] at hb)) | (simp only [go_sem, Nat.reduceLeDiff, Nat.reduceEqDiff, reduceIte, reduceCtorEq, Nat.reduceAdd, Nat.reduceMul, Nat.reduceSub, Nat.reduceLT, Int.reduceLT, Int.reduceLE, Int.reduceNeg, Int.reduceToNat, Nat.reduceBEq, Nat.reduceBNe, Int.reduceGE, Int.reduceGT, *, cHasD, Tryz.results52])))
   all_goals first | rfl | skip
def cSset : Contract := ⟨[], false, fun
 | [.one (.sl 2 a), .one (.sl 2 b)] => some (WfD a ∧ WfD b, [⟨false, [.d (.v (.bool ((unD a).all (fun d => (unD b).contains d) && ((unD a).length : Int) == ((unD b).length : Int))))]⟩], [])
 | _ => none⟩
theorem allD_drop {xs : List (Int × Int)} {f : Int × Int → Bool} {i : Nat} (h : i < xs.length) : (xs.drop i).all f = (f (xs.getD i (0, 0)) && (xs.drop (i + 1)).all f) := by
 rw [List.drop_eq_getElem_cons h, List.all_cons]
 simp [List.getD_eq_getElem?_getD, h]
theorem sset_ok : ContractOK E0 15 cSset := by
 refine contract_of_wpc (E := E0) (T := mkT Tryz.prog [(52, cHasD)] false (fun _ => false) true (fun _ => false)) (mkT_ok (E := E0) (.cons hasD_ok .nil)) (fn := Tryz.f15) Tryz.func15 (by kernel_rfl) rfl mixedT (by kernel_rfl) rfl ?_
 intro args p rs ms hr
 unfold cSset at hr
 dsimp only at hr
 split at hr
 rotate_left
 ·cases hr
 rename_i a b
 simp only [Option.some.injEq, Prod.mk.injEq] at hr
 obtain ⟨rfl, rfl, rfl⟩ := hr
 refine ⟨rfl, rfl, Nat.le_of_ble_eq_true rfl, ?_⟩
 have hm : maxLen = 9223372036854775807 := rfl
 rintro ⟨h1, h2⟩ bs
 obtain ⟨xs, rfl, hx⟩ := h1.ex
 obtain ⟨ys, rfl, hy⟩ := h2.ex
 clear h1 h2
 rw [unD_dL, unD_dL]
 (repeat' (first | (refine gate_a fun _ => ?_) | (refine fork_intro (fun hb => ?_) (fun hb => ?_) <;> (try simp only [ew] at hb)) | (simp only [go_sem, Nat.reduceLeDiff, Nat.reduceEqDiff, reduceIte, reduceCtorEq, Nat.reduceAdd, Nat.reduceMul, Nat.reduceSub, Nat.reduceLT, Int.reduceLT, Int.reduceLE, Int.reduceNeg, Int.reduceToNat, Nat.reduceBEq, Nat.reduceBNe, Int.reduceGE, Int.reduceGT, *, cSset, cHasD, Tryz.results15])))
 refine loop_intro { ι := Nat, rs := [(4, 5), (6, 19)], mods := [(5, fun i => .one (.d (.v (.int .i64 i))))], boxes := [], arrs := [], ok := fun i => i ≤ xs.length ∧ (xs.drop i).all (fun d => ys.contains d) = xs.all (fun d => ys.contains d), mu := fun i => xs.length - i } rfl 0 ⟨Nat.zero_le _, rfl⟩ ?_ fun i hi => ?_
 ·(repeat' (first | (refine gate_a fun _ => ?_) | (refine fork_intro (fun hb => ?_) (fun hb => ?_) <;> (try simp only [ew] at hb)) | (simp only [go_sem, Nat.reduceLeDiff, Nat.reduceEqDiff, reduceIte, reduceCtorEq, Nat.reduceAdd, Nat.reduceMul, Nat.reduceSub, Nat.reduceLT, Int.reduceLT, Int.reduceLE, Int.reduceNeg, Int.reduceToNat, Nat.reduceBEq, Nat.reduceBNe, Int.reduceGE, Int.reduceGT, *, cSset, cHasD, Tryz.results15])))
  all_goals first | rfl | skip
 ·dsimp only at i hi
  obtain ⟨hi, ht⟩ := hi
  by_cases h5 : i < xs.length
  ·rw [allD_drop h5] at ht
   cases hq : ys.contains (xs.getD i (0, 0))
   ·rw [hq, Bool.false_and] at ht
    rw [← ht]
    clear ht
    (repeat' (first | (refine gate_a fun _ => ?_) | (refine fork_intro (fun hb => ?_) (fun hb => ?_) <;> (try simp only [ew, hq] at hb)) | (simp only [go_sem, Nat.reduceLeDiff, Nat.reduceEqDiff, reduceIte, reduceCtorEq, Nat.reduceAdd, Nat.reduceMul, Nat.reduceSub, Nat.reduceLT, Int.reduceLT, Int.reduceLE, Int.reduceNeg, Int.reduceToNat, Nat.reduceBEq, Nat.reduceBNe, Int.reduceGE, Int.reduceGT, *, cSset, cHasD, Tryz.results15, hq])))
    all_goals first | rfl | skip
   ·rw [hq, Bool.true_and] at ht
    (repeat' (first | (refine gate_a fun _ => ?_) | (refine fork_intro (fun hb => ?_) (fun hb => ?_) <;> (try simp only [ew, hq] at hb)) | (simp only [go_sem, Nat.reduceLeDiff, Nat.reduceEqDiff, reduceIte, reduceCtorEq, Nat.reduceAdd, Nat.reduceMul, Nat.reduceSub, Nat.reduceLT, Int.reduceLT, Int.reduceLE, Int.reduceNeg, Int.reduceToNat, Nat.reduceBEq, Nat.reduceBNe, Int.reduceGE, Int.reduceGT, *, cSset, cHasD, Tryz.results15, hq])))
    refine loop_next (i + 1) ⟨by omega, ht⟩ (by dsimp only; omega) ?_
    clear ht
    (repeat' (first | (refine gate_a fun _ => ?_) | (refine fork_intro (fun hb => ?_) (fun hb => ?_) <;> (try simp only [ew] at hb)) | (simp only [go_sem, Nat.reduceLeDiff, Nat.reduceEqDiff, reduceIte, reduceCtorEq, Nat.reduceAdd, Nat.reduceMul, Nat.reduceSub, Nat.reduceLT, Int.reduceLT, Int.reduceLE, Int.reduceNeg, Int.reduceToNat, Nat.reduceBEq, Nat.reduceBNe, Int.reduceGE, Int.reduceGT, *, cSset, cHasD, Tryz.results15])))
    all_goals first | rfl | skip
  ·have e5 : i = xs.length := by omega
   subst e5
   rw [List.drop_length, List.all_nil] at ht
   rw [← ht]
   clear ht
   (repeat' (first | (refine gate_a fun _ => ?_) | (refine fork_intro (fun hb => ?_) (fun hb => ?_) <;> (try simp only [ew] at hb)) | (simp only [go_sem, Nat.reduceLeDiff, Nat.reduceEqDiff, reduceIte, reduceCtorEq, Nat.reduceAdd, Nat.reduceMul, Nat.reduceSub, Nat.reduceLT, Int.reduceLT, Int.reduceLE, Int.reduceNeg, Int.reduceToNat, Nat.reduceBEq, Nat.reduceBNe, Int.reduceGE, Int.reduceGT, *, cSset, cHasD, Tryz.results15])))
   all_goals first | rfl | skip
def atF (bs : List Int) (i : Nat) : Int := if i < bs.length then bs.getD i 0 else (i * 37 + bs.length * 11) % 256
theorem atF_range {bs : List Int} {i : Nat} (h : ∀ b ∈ bs, 0 ≤ b ∧ b ≤ 255) : 0 ≤ atF bs i ∧ atF bs i ≤ 255 := by
 unfold atF
 split
 ·rename_i hi
  exact h _ (getD_mem hi 0)
 ·omega
def cAt : Contract := ⟨[], false, fun
 | [.one (.sl 1 l), .one (.v (.int .i64 i))] => some (WfB l ∧ l.length ≤ 1048576 ∧ (∀ b ∈ unB l, 0 ≤ b ∧ b ≤ 255) ∧ 0 ≤ i ∧ i ≤ 1000, [⟨false, [.d (.v (.int .i64 (atF (unB l) i.toNat)))]⟩], [])
 | _ => none⟩
theorem at_ok : ContractOK E0 21 cAt := by
 refine contract_of_wpc (E := E0) (T := mkT Tryz.prog [] false (fun _ => false) true (fun _ => false)) (mkT_ok (E := E0) .nil) (fn := Tryz.f21) Tryz.func21 (by kernel_rfl) rfl mixedT (by kernel_rfl) rfl ?_
 intro args p rs ms hr
 unfold cAt at hr
 dsimp only at hr
 split at hr
 rotate_left
 ·cases hr
 rename_i l i
 simp only [Option.some.injEq, Prod.mk.injEq] at hr
 obtain ⟨rfl, rfl, rfl⟩ := hr
 refine ⟨rfl, rfl, Nat.le_of_ble_eq_true rfl, ?_⟩
 have hm : maxLen = 9223372036854775807 := rfl
 rintro ⟨h1, h2, h3, h4, h5⟩ bs0
 obtain ⟨bs, rfl, hx⟩ := h1.ex
 clear h1
 rw [unB_bL] at h3 ⊢
 rw [bL_length] at h2
 obtain ⟨i, rfl⟩ := Int.eq_ofNat_of_zero_le h4
 rw [Int.toNat_natCast]
 unfold atF
 by_cases h6 : i < bs.length
 ·rw [if_pos h6]
  have h7 := h3 _ (getD_mem h6 0)
  have h8 := wrap_u8 h7
  have h9 := bL_getE h6
  clear h3
  (repeat' (first | (refine gate_a fun _ => ?_) | (refine fork_intro (fun hb => ?_) (fun hb => ?_) <;> (try simp only [ew, h8, h9] at hb)) | (simp only [go_sem, Nat.reduceLeDiff, Nat.reduceEqDiff, reduceIte, reduceCtorEq, Nat.reduceAdd, Nat.reduceMul, Nat.reduceSub, Nat.reduceLT, Int.reduceLT, Int.reduceLE, Int.reduceNeg, Int.reduceToNat, Nat.reduceBEq, Nat.reduceBNe, Int.reduceGE, Int.reduceGT, *, cAt, Tryz.results21, h8, h9])))
  all_goals first | rfl | skip
 ·rw [if_neg h6]
  clear h3
  have e : Int.tmod (((i : Nat) : Int) * 37 + ((bs.length : Nat) : Int) * 11) 256 = (((i : Nat) : Int) * 37 + ((bs.length : Nat) : Int) * 11) % 256 := Int.tmod_eq_emod_of_nonneg (by omega)
  (repeat' (first | (refine gate_a fun _ => ?_) | (refine fork_intro (fun hb => ?_) (fun hb => ?_) <;> (try simp only [ew, e] at hb)) | (simp only [go_sem, Nat.reduceLeDiff, Nat.reduceEqDiff, reduceIte, reduceCtorEq, Nat.reduceAdd, Nat.reduceMul, Nat.reduceSub, Nat.reduceLT, Int.reduceLT, Int.reduceLE, Int.reduceNeg, Int.reduceToNat, Nat.reduceBEq, Nat.reduceBNe, Int.reduceGE, Int.reduceGT, *, cAt, Tryz.results21, e])))
  all_goals first | rfl | skip
end Go.Own
/-
  Searches run to their end. Conditions: as each theorem states them.
-/
namespace Go.Own
open Go Go.Proofs
attribute [local go_sem] unD_dL dL_length dL_get dL_set dL_inj wfD_dL scal2 beq2 pair_eta dL_scal
def cCpSr : Contract := ⟨[], false, fun
 | [.agg [.v (.int .i64 c), .sl 1 l, .v (.int .i64 m), .v (.int .i64 a), .sl 2 q, .v (.int .i64 t)]] => some ((WfS l ∧ WfD q) ∧ (l.length ≤ 16777216 ∧ ∀ r ∈ unS l, r.length ≤ 16777216) ∧ q.length ≤ 16777216,
   [⟨true, [.d (.v (.int .i64 c)), .d (.sl 1 l), .d (.v (.int .i64 m)), .d (.v (.int .i64 a)), .d (.sl 2 q), .d (.v (.int .i64 t))]⟩], [])
 | _ => none⟩
theorem cpSr_ok : ContractOK E0 38 cCpSr := by
 refine contract_of_wpc (E := E0) (T := mkT Tryz.prog [(37, cCopyT), (77, cCopyD)] false (fun _ => false) true (fun _ => false)) (mkT_ok (E := E0) (.cons copyTI_ok (.cons copyD_ok .nil))) (fn := Tryz.f38) Tryz.func38 (by kernel_rfl) rfl mixedT (by kernel_rfl) rfl ?_
 intro args p rs ms hr
 unfold cCpSr at hr
 dsimp only at hr
 split at hr
 rotate_left
 ·cases hr
 rename_i c l m a q t
 simp only [Option.some.injEq, Prod.mk.injEq] at hr
 obtain ⟨rfl, rfl, rfl⟩ := hr
 refine ⟨rfl, rfl, Nat.le_of_ble_eq_true rfl, ?_⟩
 have hm : maxLen = 9223372036854775807 := rfl
 rintro ⟨⟨h1, h2⟩, ⟨h3, h4⟩, h5⟩ bs
 obtain ⟨rs, rfl, hx, hy⟩ := h1.ex
 obtain ⟨ds, rfl, hd⟩ := h2.ex
 clear h1 h2
 rw [unS_sL] at h4
 rw [sL_length] at h3
 rw [dL_length] at h5
 (repeat' (first | (refine gate_a fun _ => ?_) | (refine fork_intro (fun hb => ?_) (fun hb => ?_) <;> (try simp only [ew] at hb)) | (simp only [go_sem, Nat.reduceLeDiff, Nat.reduceEqDiff, reduceIte, reduceCtorEq, Nat.reduceAdd, Nat.reduceMul, Nat.reduceSub, Nat.reduceLT, Int.reduceLT, Int.reduceLE, Int.reduceNeg, Int.reduceToNat, Nat.reduceBEq, Nat.reduceBNe, Int.reduceGE, Int.reduceGT, *, cCpSr, cCopyT, cCopyD, Tryz.results38])))
 all_goals first | rfl | skip
def cRunS : Contract := ⟨[], true, fun
 | [.agg [.v (.int .i64 c), .sl 1 l, .v (.int .i64 m), .v (.int .i64 a), .sl 2 q, .v (.int .i64 t)], .one (.v (.int .i64 b))] => some ((WfS l ∧ WfD q) ∧ (tabOK c (unS l) && modeOK m) = true ∧ a = 0 ∧ q = [] ∧ t = 0 ∧ b = 1000,
   [⟨true, [.d (.v (.int .i64 c)), .d (.sl 1 l), .d (.v (.int .i64 m)), .d (.v (.int .i64 (c * 2 ^ c.toNat))), .d (.sl 2 (dL (srI c.toNat (unS l) m (c.toNat * 2 ^ c.toNat)).1)), .d (.v (.int .i64 ((srI c.toNat (unS l) m (c.toNat * 2 ^ c.toNat)).2 : Nat)))]⟩], [])
 | _ => none⟩
theorem runS_ok : ContractOK E0 10 cRunS := by
 refine contract_of_wpc (E := E0) (T := mkT Tryz.prog [(38, cCpSr), (39, cIsSr), (40, cCnt8), (41, cStep8)] false (fun _ => false) true (fun d => d == 998 || d == 999)) (mkT_ok (E := E0) (.cons cpSr_ok (.cons isSrI_ok (.cons cntI8_ok (.cons step8_ok .nil))))) (fn := Tryz.f10) Tryz.func10 (by kernel_rfl) rfl mixedT (by kernel_rfl) rfl ?_
 intro args p rs ms hr
 unfold cRunS at hr
 dsimp only at hr
 split at hr
 rotate_left
 ·cases hr
 rename_i c l m a q t b
 simp only [Option.some.injEq, Prod.mk.injEq] at hr
 obtain ⟨rfl, rfl, rfl⟩ := hr
 refine ⟨rfl, rfl, Nat.le_of_ble_eq_true rfl, ?_⟩
 have hm : maxLen = 9223372036854775807 := rfl
 rintro ⟨⟨h1, h2⟩, htm, rfl, rfl, rfl, rfl⟩ bs
 obtain ⟨rs, rfl, hx, hy⟩ := h1.ex
 clear h1
 rw [unS_sL] at htm ⊢
 obtain ⟨n, rfl, hn, hr1, hr2⟩ := hd_tab htm
 have hcb := cnt_bound hn.2
 have hcz : ((n : Int)) * 2 ^ n = ((n * 2 ^ n : Nat) : Int) := by push_cast; rfl
 have hn' : (1 : Int) ≤ (n : Int) ∧ (n : Int) ≤ 5 := by omega
 rw [Int.toNat_natCast, hcz]
 have hfa : ∀ i, i ≤ n * 2 ^ n → (srI n rs m i).1.length ≤ 160 ∧ (srI n rs m i).2 ≤ 160 ∧ ∀ d ∈ (srI n rs m i).1, depR d := fun i hi => by
  obtain ⟨w1, w2, w3⟩ := @srI_facts n rs m hn i hi
  exact ⟨by omega, by omega, w3⟩
 have hun : unD [] = [] := rfl
 have e0' : dL [] = [] := rfl
 have hs0 : isSr (n : Int) rs m 0 [] 0 = true := by
  have : inB 0 0 ((n : Int) * 2 ^ n) = true := by rw [inB_iff, hcz]; omega
  unfold isSr
  rw [htm, Int.toNat_natCast, this]
  rfl
 have k3 : ∀ r ∈ rs, r.length ≤ 16777216 := fun r hr => by have := hr2 r hr; omega
 have k4 : rs.length ≤ 16777216 := by omega
 clear hr2
 generalize hN : n * 2 ^ n = N at hcb hcz hfa ⊢
 have u1 : (srI n rs m 0).1 = [] := rfl
 have u2 : (srI n rs m 0).2 = 0 := rfl
 (repeat' (first | (refine gate_a fun _ => ?_) | (refine fork_intro (fun hb => ?_) (fun hb => ?_) <;> (try simp only [ew, h2, hun, hs0, htm, e0'] at hb)) | (simp only [go_sem, Nat.reduceLeDiff, Nat.reduceEqDiff, reduceIte, reduceCtorEq, Nat.reduceAdd, Nat.reduceMul, Nat.reduceSub, Nat.reduceLT, Int.reduceLT, Int.reduceLE, Int.reduceNeg, Int.reduceToNat, Nat.reduceBEq, Nat.reduceBNe, Int.reduceGE, Int.reduceGT, *, cRunS, cCpSr, cIsSr, cCnt8, cStep8, Tryz.results10, h2, hun, hs0, htm, e0'])))
 refine loop_intro { ι := Nat, rs := [(12, 30)], mods := [], boxes := [(2, fun _ => [.d (.v (.int .i64 n)), .d (.sl 1 (sL rs)), .d (.v (.int .i64 m)), .d (.v (.int .i64 0)), .d (.sl 2 []), .d (.v (.int .i64 0))]), (4, fun _ => [.d (.v (.int .i64 0)), .d (.v (.slice none 0 0)), .d (.v (.int .i64 0)), .d (.v (.int .i64 0)), .d (.v (.slice none 0 0)), .d (.v (.int .i64 0))]), (5, fun i => [.d (.v (.int .i64 n)), .d (.sl 1 (sL rs)), .d (.v (.int .i64 m)), .d (.v (.int .i64 i)), .d (.sl 2 (dL (srI n rs m i).1)), .d (.v (.int .i64 ((srI n rs m i).2 : Nat)))])], arrs := [], ok := fun i => i ≤ N, mu := fun i => N - i } rfl 0 (Nat.zero_le _) ?_ fun i hi => ?_
 ·clear hfa
  (repeat' (first | (refine gate_a fun _ => ?_) | (refine fork_intro (fun hb => ?_) (fun hb => ?_) <;> (try simp only [ew, e0', u1, u2] at hb)) | (simp only [go_sem, Nat.reduceLeDiff, Nat.reduceEqDiff, reduceIte, reduceCtorEq, Nat.reduceAdd, Nat.reduceMul, Nat.reduceSub, Nat.reduceLT, Int.reduceLT, Int.reduceLE, Int.reduceNeg, Int.reduceToNat, Nat.reduceBEq, Nat.reduceBNe, Int.reduceGE, Int.reduceGT, *, cRunS, cCpSr, cIsSr, cCnt8, cStep8, Tryz.results10, e0', u1, u2])))
  all_goals first | rfl | skip
 ·dsimp only at i hi
  obtain ⟨w1, w2, w3⟩ := hfa i hi
  by_cases h5 : i < N
  ·have es : srI n rs m (i + 1) = srS n rs m (cdD n i) (srI n rs m i) := rfl
   have hlt : ((i : Nat) : Int) < ((N : Nat) : Int) := by omega
   generalize hZ : srI n rs m i = Z at w1 w2 w3 es
   obtain ⟨zq, zt⟩ := Z
   dsimp only at w1 w2 w3
   have w4 : zq.length ≤ maxLen := Nat.le_trans w1 (by decide)
   have d2 : ((zt : Nat) : Int) - 0 < 1000 := by omega
   clear hfa
   (repeat' (first | (refine gate_a fun _ => ?_) | (refine fork_intro (fun hb => ?_) (fun hb => ?_) <;> (try simp only [ew, htm, hcz, hZ, d2] at hb)) | (simp only [go_sem, Nat.reduceLeDiff, Nat.reduceEqDiff, reduceIte, reduceCtorEq, Nat.reduceAdd, Nat.reduceMul, Nat.reduceSub, Nat.reduceLT, Int.reduceLT, Int.reduceLE, Int.reduceNeg, Int.reduceToNat, Nat.reduceBEq, Nat.reduceBNe, Int.reduceGE, Int.reduceGT, *, cRunS, cCpSr, cIsSr, cCnt8, cStep8, Tryz.results10, htm, hcz, hZ, d2])))
   refine loop_next (i + 1) (by dsimp only; omega) (by dsimp only; omega) ?_
   rw [← es]
   (repeat' (first | (refine gate_a fun _ => ?_) | (refine fork_intro (fun hb => ?_) (fun hb => ?_) <;> (try simp only [ew] at hb)) | (simp only [go_sem, Nat.reduceLeDiff, Nat.reduceEqDiff, reduceIte, reduceCtorEq, Nat.reduceAdd, Nat.reduceMul, Nat.reduceSub, Nat.reduceLT, Int.reduceLT, Int.reduceLE, Int.reduceNeg, Int.reduceToNat, Nat.reduceBEq, Nat.reduceBNe, Int.reduceGE, Int.reduceGT, *, cRunS, cCpSr, cIsSr, cCnt8, cStep8, Tryz.results10])))
   all_goals first | rfl | skip
  ·have e5 : i = N := by omega
   subst e5
   clear hfa
   generalize hZ : srI n rs m i = Z at w1 w2 w3 ⊢
   obtain ⟨zq, zt⟩ := Z
   dsimp only at w1 w2 w3
   have w4 : zq.length ≤ maxLen := Nat.le_trans w1 (by decide)
   (repeat' (first | (refine gate_a fun _ => ?_) | (refine fork_intro (fun hb => ?_) (fun hb => ?_) <;> (try simp only [ew, hcz, hZ] at hb)) | (simp only [go_sem, Nat.reduceLeDiff, Nat.reduceEqDiff, reduceIte, reduceCtorEq, Nat.reduceAdd, Nat.reduceMul, Nat.reduceSub, Nat.reduceLT, Int.reduceLT, Int.reduceLE, Int.reduceNeg, Int.reduceToNat, Nat.reduceBEq, Nat.reduceBNe, Int.reduceGE, Int.reduceGT, *, cRunS, cCpSr, cIsSr, cCnt8, cStep8, Tryz.results10, hcz, hZ])))
   all_goals first | rfl | skip
end Go.Own
