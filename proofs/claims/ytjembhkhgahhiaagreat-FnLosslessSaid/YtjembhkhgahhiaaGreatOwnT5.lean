/- Own contracts. Conditions: as each theorem states them. -/
import Derived.Test.YtjembhkhgahhiaaGreatOwnT4
import Derived.Test.YtjembhkhgahhiaaGreatOwnT6
import Derived.Test.YtjembhkhgahhiaaGreatOwnTb
import Derived.Test.YtjembhkhgahhiaaGreatOwnT7
import Derived.Test.YtjembhkhgahhiaaGreatOwnY1
import Derived.Test.YtjembhkhgahhiaaGreatOwnG12
set_option linter.unusedSimpArgs false
set_option linter.unusedVariables false
set_option maxRecDepth 20000
set_option maxHeartbeats 2000000
namespace Go.Own
open Go Go.Proofs
attribute [local go_sem] unD_dL dL_length dL_get dL_set dL_inj wfD_dL scal2 beq2 pair_eta dL_scal
def kqB (M : Nat) (ds : List (Int × Int)) (x : Int) : Bool := clo ds x == (M : Int) - 1
def keyL (M : Nat) (ds : List (Int × Int)) : List Int := (rng M).filter (kqB M ds)
def keysF (n : Int) (ds : List (Int × Int)) : List Int := if depsOK n ds then selS minT1 (keyL (2 ^ n.toNat) ds) else []
def cKeys : Contract := ⟨[], false, fun
 | [.one (.v (.int .i64 n)), .one (.sl 2 l)] => some (WfD l ∧ -9223372036854775808 ≤ n ∧ n ≤ 9223372036854775807, [⟨false, [.own 1 (iL (keysF n (unD l))) 1]⟩], [])
 | _ => none⟩
theorem deps_n {n : Int} {ds : List (Int × Int)} (h : depsOK n ds = true) : 1 ≤ n ∧ n ≤ 5 ∧ ds.length ≤ 20 := by
 simp only [depsOK, Bool.and_eq_true, inB_iff, decide_eq_true_eq] at h
 omega
theorem selS_nil {t : Int → Int → Bool} : selS t [] = [] := rfl
theorem keysS_ok : ContractOK E0 87 cKeys := by
 refine cWpc (E := E0) (T := mkT Tryz.prog [(31, cAreDeps), (63, cAll2), (102, cClo), (136, cMinS)] false (fun _ => false) true (fun _ => false)) (mkT_ok (E := E0) (.cons areDepsS_ok (.cons all2_ok (.cons cloSpec_ok (.cons minS_ok .nil))))) (fn := Tryz.f87) Tryz.func87 (by kernel_rfl) rfl mixedT (by kernel_rfl) rfl ?_
 intro args p rs ms hr
 unfold cKeys at hr
 dsimp only at hr
 split at hr
 rotate_left
 ·cases hr
 rename_i n l
 simp only [Option.some.injEq, Prod.mk.injEq] at hr
 obtain ⟨rfl, rfl, rfl⟩ := hr
 refine ⟨rfl, rfl, Nat.le_of_ble_eq_true rfl, ?_⟩
 have hm : maxLen = 9223372036854775807 := rfl
 rintro ⟨h1, hn1, hn2⟩ bs
 obtain ⟨ds, rfl, hx⟩ := h1.ex
 clear h1
 rw [unD_dL]
 cases hv : depsOK n ds
 ·have e : keysF n ds = [] := by unfold keysF; rw [hv]; rfl
  have e2 := @selS_nil minT1
  rw [e]
  clear e
  (repeat' (first | (refine gA fun _ => ?_) | (refine fkI (fun hb => ?_) (fun hb => ?_) <;> (try simp only [ew, hv] at hb)) | (simp only [go_sem, Nat.reduceLeDiff, Nat.reduceEqDiff, reduceIte, reduceCtorEq, Nat.reduceAdd, Nat.reduceMul, Nat.reduceSub, Nat.reduceLT, Int.reduceLT, Int.reduceLE, Int.reduceNeg, Int.reduceToNat, Nat.reduceBEq, Nat.reduceBNe, Int.reduceGE, Int.reduceGT, *, cKeys, cAreDeps, cAll2, cClo, cMinS, Tryz.results87, hv])))
  refine lpI { ι := Unit, rs := [(8, 29)], mods := [(6, fun _ => .one (.d (.v (.int .i64 0)))), (5, fun _ => .one (.own 1 (iL []) 1))], boxes := [], arrs := [], ok := fun _ => True, mu := fun _ => 0 } rfl () trivial ?_ fun _ _ => ?_
  ·(repeat' (first | (refine gA fun _ => ?_) | (refine fkI (fun hb => ?_) (fun hb => ?_) <;> (try simp only [ew, hv] at hb)) | (simp only [go_sem, Nat.reduceLeDiff, Nat.reduceEqDiff, reduceIte, reduceCtorEq, Nat.reduceAdd, Nat.reduceMul, Nat.reduceSub, Nat.reduceLT, Int.reduceLT, Int.reduceLE, Int.reduceNeg, Int.reduceToNat, Nat.reduceBEq, Nat.reduceBNe, Int.reduceGE, Int.reduceGT, *, cKeys, cAreDeps, cAll2, cClo, cMinS, Tryz.results87, hv])))
   all_goals first | rfl | skip
  ·(repeat' (first | (refine gA fun _ => ?_) | (refine fkI (fun hb => ?_) (fun hb => ?_) <;> (try simp only [ew, hv, e2] at hb)) | (simp only [go_sem, Nat.reduceLeDiff, Nat.reduceEqDiff, reduceIte, reduceCtorEq, Nat.reduceAdd, Nat.reduceMul, Nat.reduceSub, Nat.reduceLT, Int.reduceLT, Int.reduceLE, Int.reduceNeg, Int.reduceToNat, Nat.reduceBEq, Nat.reduceBNe, Int.reduceGE, Int.reduceGT, *, cKeys, cAreDeps, cAll2, cClo, cMinS, Tryz.results87, hv, e2])))
   all_goals first | rfl | skip
 ·have hd := depsOK_R hv
  obtain ⟨n0, n5, _⟩ := deps_n hv
  have e : keysF n ds = selS minT1 (keyL (2 ^ n.toNat) ds) := by unfold keysF; rw [hv]; rfl
  rw [e]
  obtain ⟨c, rfl⟩ := Int.eq_ofNat_of_zero_le (show 0 ≤ n by omega)
  rw [Int.toNat_natCast]
  have hM2 : 2 ^ c ≤ 32 := Nat.le_trans (Nat.pow_le_pow_right (by omega) (show c ≤ 5 by omega)) (by decide)
  have hM : all2 c = ((2 ^ c : Nat) : Int) - 1 := by unfold all2; rw [Int.toNat_natCast, Int.one_mul]; simp
  have hM3 : 1 ≤ 2 ^ c := Nat.one_le_two_pow
  clear e
  generalize 2 ^ c = M at hM2 hM hM3 ⊢
  (repeat' (first | (refine gA fun _ => ?_) | (refine fkI (fun hb => ?_) (fun hb => ?_) <;> (try simp only [ew, hv] at hb)) | (simp only [go_sem, Nat.reduceLeDiff, Nat.reduceEqDiff, reduceIte, reduceCtorEq, Nat.reduceAdd, Nat.reduceMul, Nat.reduceSub, Nat.reduceLT, Int.reduceLT, Int.reduceLE, Int.reduceNeg, Int.reduceToNat, Nat.reduceBEq, Nat.reduceBNe, Int.reduceGE, Int.reduceGT, *, cKeys, cAreDeps, cAll2, cClo, cMinS, Tryz.results87, hv])))
  refine lpI { ι := Nat, rs := [(8, 29)], mods := [(6, fun x => .one (.d (.v (.int .i64 x)))), (5, fun x => .one (.own 1 (iL ((rng x).filter (kqB M ds))) 1))], boxes := [], arrs := [], ok := fun x => x ≤ M, mu := fun x => M - x } rfl 0 (Nat.zero_le _) ?_ fun x hx => ?_
  ·(repeat' (first | (refine gA fun _ => ?_) | (refine fkI (fun hb => ?_) (fun hb => ?_) <;> (try simp only [ew] at hb)) | (simp only [go_sem, Nat.reduceLeDiff, Nat.reduceEqDiff, reduceIte, reduceCtorEq, Nat.reduceAdd, Nat.reduceMul, Nat.reduceSub, Nat.reduceLT, Int.reduceLT, Int.reduceLE, Int.reduceNeg, Int.reduceToNat, Nat.reduceBEq, Nat.reduceBNe, Int.reduceGE, Int.reduceGT, *, cKeys, cAreDeps, cAll2, cClo, cMinS, Tryz.results87])))
   all_goals first | rfl | skip
  ·dsimp only at x hx
   have l1 := @rng_filter_len (kqB M ds) x
   by_cases h5 : x < M
   ·have h5' : decide ((x : Int) ≤ (M : Int) - 1) = true := decide_eq_true (by omega)
    have l2 : ((rng x).filter (kqB M ds)).length ≤ 32 := by omega
    have eS := @rng_filter_succ (kqB M ds) x
    generalize hZ : (rng x).filter (kqB M ds) = Z at l1 l2 eS
    have eq : kqB M ds x = (clo ds x == (M : Int) - 1) := rfl
    cases hq : kqB M ds x
    ·rw [hq] at eq eS
     rw [if_neg (by decide), List.append_nil] at eS
     replace eq := eq.symm
     clear hq
     (repeat' (first | (refine gA fun _ => ?_) | (refine fkI (fun hb => ?_) (fun hb => ?_) <;> (try simp only [ew, hv, hM, h5', hZ, eq] at hb)) | (simp only [go_sem, Nat.reduceLeDiff, Nat.reduceEqDiff, reduceIte, reduceCtorEq, Nat.reduceAdd, Nat.reduceMul, Nat.reduceSub, Nat.reduceLT, Int.reduceLT, Int.reduceLE, Int.reduceNeg, Int.reduceToNat, Nat.reduceBEq, Nat.reduceBNe, Int.reduceGE, Int.reduceGT, *, cKeys, cAreDeps, cAll2, cClo, cMinS, Tryz.results87, hv, hM, h5', hZ, eq])))
     refine lpN (x + 1) (by dsimp only; omega) (by dsimp only; omega) ?_
     clear eq
     (repeat' (first | (refine gA fun _ => ?_) | (refine fkI (fun hb => ?_) (fun hb => ?_) <;> (try simp only [ew, eS, hZ] at hb)) | (simp only [go_sem, Nat.reduceLeDiff, Nat.reduceEqDiff, reduceIte, reduceCtorEq, Nat.reduceAdd, Nat.reduceMul, Nat.reduceSub, Nat.reduceLT, Int.reduceLT, Int.reduceLE, Int.reduceNeg, Int.reduceToNat, Nat.reduceBEq, Nat.reduceBNe, Int.reduceGE, Int.reduceGT, *, cKeys, cAreDeps, cAll2, cClo, cMinS, Tryz.results87, eS, hZ])))
    ·rw [hq] at eq eS
     rw [if_pos rfl] at eS
     replace eq := eq.symm
     clear hq
     (repeat' (first | (refine gA fun _ => ?_) | (refine fkI (fun hb => ?_) (fun hb => ?_) <;> (try simp only [ew, hv, hM, h5', hZ, eq, iL_snoc] at hb)) | (simp only [go_sem, Nat.reduceLeDiff, Nat.reduceEqDiff, reduceIte, reduceCtorEq, Nat.reduceAdd, Nat.reduceMul, Nat.reduceSub, Nat.reduceLT, Int.reduceLT, Int.reduceLE, Int.reduceNeg, Int.reduceToNat, Nat.reduceBEq, Nat.reduceBNe, Int.reduceGE, Int.reduceGT, *, cKeys, cAreDeps, cAll2, cClo, cMinS, Tryz.results87, hv, hM, h5', hZ, eq, iL_snoc])))
     refine lpN (x + 1) (by dsimp only; omega) (by dsimp only; omega) ?_
     clear eq
     (repeat' (first | (refine gA fun _ => ?_) | (refine fkI (fun hb => ?_) (fun hb => ?_) <;> (try simp only [ew, eS, hZ, iL_snoc] at hb)) | (simp only [go_sem, Nat.reduceLeDiff, Nat.reduceEqDiff, reduceIte, reduceCtorEq, Nat.reduceAdd, Nat.reduceMul, Nat.reduceSub, Nat.reduceLT, Int.reduceLT, Int.reduceLE, Int.reduceNeg, Int.reduceToNat, Nat.reduceBEq, Nat.reduceBNe, Int.reduceGE, Int.reduceGT, *, cKeys, cAreDeps, cAll2, cClo, cMinS, Tryz.results87, eS, hZ, iL_snoc])))
   ·have e5 : x = M := by omega
    subst e5
    have h5' : decide ((x : Int) ≤ (x : Int) - 1) = false := decide_eq_false (by omega)
    have l2 : ((rng x).filter (kqB x ds)).length ≤ maxLen := Nat.le_trans l1 (Nat.le_trans hM2 (by decide))
    have e3 : (rng x).filter (kqB x ds) = keyL x ds := rfl
    rw [e3] at l2
    clear hd
    (repeat' (first | (refine gA fun _ => ?_) | (refine fkI (fun hb => ?_) (fun hb => ?_) <;> (try simp only [ew, hv, hM, h5', e3] at hb)) | (simp only [go_sem, Nat.reduceLeDiff, Nat.reduceEqDiff, reduceIte, reduceCtorEq, Nat.reduceAdd, Nat.reduceMul, Nat.reduceSub, Nat.reduceLT, Int.reduceLT, Int.reduceLE, Int.reduceNeg, Int.reduceToNat, Nat.reduceBEq, Nat.reduceBNe, Int.reduceGE, Int.reduceGT, *, cKeys, cAreDeps, cAll2, cClo, cMinS, Tryz.results87, hv, hM, h5', e3])))
def red1 (ds : List (Int × Int)) (r x c : Int) : Int := if hasB x c && hasB (clo ds (delB x c)) r then delB x c else x
def redN (ds : List (Int × Int)) (r x : Int) : Nat → Int
 | 0 => x
 | k + 1 => red1 ds r (redN ds r x k) (k : Nat)
theorem red1_R {ds : List (Int × Int)} {r x c : Int} (hx : R5 x) (hc : 0 ≤ c ∧ c ≤ 4) : R5 (red1 ds r x c) := by
 unfold red1; split
 ·exact del_R hx hc
 ·exact hx
theorem red1_le {ds : List (Int × Int)} {r x c : Int} (hx : R5 x) (hc : 0 ≤ c ∧ c ≤ 4) : red1 ds r x c ≤ x := by
 unfold red1; split
 ·exact (del_le hx hc).2
 ·exact Int.le_refl _
theorem red1_has {ds : List (Int × Int)} {r x c e : Int} (hx : R5 x) (hc : 0 ≤ c ∧ c ≤ 4) (he : 0 ≤ e ∧ e ≤ 4) (hne : e ≠ c) : hasB (red1 ds r x c) e = hasB x e := by
 unfold red1; split
 ·rw [del_has hx hc he, beq_eq_false_iff_ne.2 hne]; simp
 ·rfl
theorem redN_facts {ds : List (Int × Int)} {r x : Int} (hx : R5 x) : ∀ {k : Nat}, k ≤ 5 → R5 (redN ds r x k) ∧ redN ds r x k ≤ x ∧ ∀ e : Int, (k : Int) ≤ e → e ≤ 4 → hasB (redN ds r x k) e = hasB x e
 | 0, _ => ⟨hx, Int.le_refl _, fun _ _ _ => rfl⟩
 | k + 1, h => by
  obtain ⟨h1, h2, h3⟩ := redN_facts (ds := ds) (r := r) hx (k := k) (by omega)
  have hc : 0 ≤ (k : Int) ∧ (k : Int) ≤ 4 := ⟨by omega, by omega⟩
  refine ⟨red1_R h1 hc, Int.le_trans (red1_le h1 hc) h2, fun e he he4 => ?_⟩
  rw [redN, red1_has h1 hc ⟨by omega, he4⟩ (by omega), h3 e (by omega) he4]
def redD (n : Int) (ds : List (Int × Int)) (d : Int × Int) : Int × Int := if impB n ds d.1 d.2 then (redN ds d.2 d.1 5, d.2) else d
def cRed : Contract := ⟨[], false, fun
 | [.one (.v (.int .i64 n)), .one (.sl 2 l), .agg [.v (.int .i64 a), .v (.int .i64 b)]] => some (WfD l ∧ -9223372036854775808 ≤ n ∧ n ≤ 9223372036854775807,
   [⟨true, [.d (.v (.int .i64 (redD n (unD l) (a, b)).1)), .d (.v (.int .i64 (redD n (unD l) (a, b)).2))]⟩], [])
 | _ => none⟩
theorem redS_ok : ContractOK E0 133 cRed := by
 refine cWpc (E := E0) (T := mkT Tryz.prog [(135, cImp), (102, cClo)] false (fun _ => false) true (fun _ => false)) (mkT_ok (E := E0) (.cons impS_ok (.cons cloSpec_ok .nil))) (fn := Tryz.f133) Tryz.func133 (by kernel_rfl) rfl mixedT (by kernel_rfl) rfl ?_
 intro args p rs ms hr
 unfold cRed at hr
 dsimp only at hr
 split at hr
 rotate_left
 ·cases hr
 rename_i n l a b
 simp only [Option.some.injEq, Prod.mk.injEq] at hr
 obtain ⟨rfl, rfl, rfl⟩ := hr
 refine ⟨rfl, rfl, Nat.le_of_ble_eq_true rfl, ?_⟩
 have hm : maxLen = 9223372036854775807 := rfl
 rintro ⟨h1, hn1, hn2⟩ bs
 obtain ⟨ds, rfl, hx⟩ := h1.ex
 clear h1
 rw [unD_dL]
 cases hv : impB n ds a b
 ·have e : redD n ds (a, b) = (a, b) := by unfold redD; rw [hv]; rfl
  rw [e]
  clear e
  (repeat' (first | (refine gA fun _ => ?_) | (refine fkI (fun hb => ?_) (fun hb => ?_) <;> (try simp only [ew, hv] at hb)) | (simp only [go_sem, Nat.reduceLeDiff, Nat.reduceEqDiff, reduceIte, reduceCtorEq, Nat.reduceAdd, Nat.reduceMul, Nat.reduceSub, Nat.reduceLT, Int.reduceLT, Int.reduceLE, Int.reduceNeg, Int.reduceToNat, Nat.reduceBEq, Nat.reduceBNe, Int.reduceGE, Int.reduceGT, *, cRed, cImp, cClo, Tryz.results133, hv])))
  all_goals first | rfl | exact ⟨rfl, rfl⟩ | skip
 ·have e : redD n ds (a, b) = (redN ds b a 5, b) := by unfold redD; rw [hv]; rfl
  rw [e]
  clear e
  have hv2 := hv
  simp only [impB, Bool.and_eq_true] at hv2
  have hd := depsOK_R hv2.1.1
  obtain ⟨⟨a1, a2⟩, b1, b2⟩ := depOK_R hv2.1.2
  clear hv2
  have hN := fun k hk => @redN_facts ds b a ⟨a1, a2⟩ k hk
  (repeat' (first | (refine gA fun _ => ?_) | (refine fkI (fun hb => ?_) (fun hb => ?_) <;> (try simp only [ew, hv] at hb)) | (simp only [go_sem, Nat.reduceLeDiff, Nat.reduceEqDiff, reduceIte, reduceCtorEq, Nat.reduceAdd, Nat.reduceMul, Nat.reduceSub, Nat.reduceLT, Int.reduceLT, Int.reduceLE, Int.reduceNeg, Int.reduceToNat, Nat.reduceBEq, Nat.reduceBNe, Int.reduceGE, Int.reduceGT, *, cRed, cImp, cClo, Tryz.results133, hv])))
  refine lpI { ι := Nat, rs := [(8, 9), (15, 40)], mods := [(7, fun k => .one (.d (.v (.int .i64 k))))], boxes := [(5, fun k => [.d (.v (.int .i64 (redN ds b a k))), .d (.v (.int .i64 b))]), (6, fun _ => [.d (.v (.int .i64 0)), .d (.v (.int .i64 0))])], arrs := [], ok := fun k => k ≤ 5, mu := fun k => 5 - k } rfl 0 (Nat.zero_le _) ?_ fun k hk => ?_
  ·(repeat' (first | (refine gA fun _ => ?_) | (refine fkI (fun hb => ?_) (fun hb => ?_) <;> (try simp only [ew] at hb)) | (simp only [go_sem, Nat.reduceLeDiff, Nat.reduceEqDiff, reduceIte, reduceCtorEq, Nat.reduceAdd, Nat.reduceMul, Nat.reduceSub, Nat.reduceLT, Int.reduceLT, Int.reduceLE, Int.reduceNeg, Int.reduceToNat, Nat.reduceBEq, Nat.reduceBNe, Int.reduceGE, Int.reduceGT, *, cRed, cImp, cClo, Tryz.results133])))
   all_goals first | rfl | skip
  ·dsimp only at k hk
   by_cases h5 : k < 5
   ·have hp := p5 (c := k) h5
    have h5' : decide ((k : Int) < 5) = true := decide_eq_true (by omega)
    obtain ⟨⟨y0, y31⟩, _, _⟩ := hN k hk
    have e1 : redN ds b a (k + 1) = red1 ds b (redN ds b a k) (k : Nat) := rfl
    generalize hy : redN ds b a k = y at y0 y31 e1
    have hk4 : 0 ≤ (k : Int) ∧ (k : Int) ≤ 4 := ⟨by omega, by omega⟩
    obtain ⟨z0, z1⟩ := del_le (x := y) ⟨y0, y31⟩ hk4
    have en := del_ne (x := y) ⟨y0, y31⟩ hk4
    have ed : bitI .andNot .i64 y (1 * 2 ^ k) = delB y k := by unfold delB; rw [Int.toNat_natCast]
    have hcl := clo_R hd (show R5 (delB y k) from ⟨z0, by omega⟩)
    have eh : (bitI .and .i64 ((clo ds (delB y k)).fdiv (2 ^ b.toNat)) 1 == 1) = hasB (clo ds (delB y k)) b := rfl
    unfold red1 at e1
    cases hq : (hasB y k && hasB (clo ds (delB y k)) b)
    ·rw [hq, if_neg (by decide)] at e1
     clear hN
     (repeat' (first | (refine gA fun _ => ?_) | (refine fkI (fun hb => ?_) (fun hb => ?_) <;> (try simp only [ew, bits64, hy, ed, en, eh, hq] at hb)) | (simp only [go_sem, Nat.reduceLeDiff, Nat.reduceEqDiff, reduceIte, reduceCtorEq, Nat.reduceAdd, Nat.reduceMul, Nat.reduceSub, Nat.reduceLT, Int.reduceLT, Int.reduceLE, Int.reduceNeg, Int.reduceToNat, Nat.reduceBEq, Nat.reduceBNe, Int.reduceGE, Int.reduceGT, *, cRed, cImp, cClo, Tryz.results133, bits64, hy, ed, en, eh, hq])))
     refine lpN (k + 1) (by dsimp only; omega) (by dsimp only; omega) ?_
     (repeat' (first | (refine gA fun _ => ?_) | (refine fkI (fun hb => ?_) (fun hb => ?_) <;> (try simp only [ew, hy, e1] at hb)) | (simp only [go_sem, Nat.reduceLeDiff, Nat.reduceEqDiff, reduceIte, reduceCtorEq, Nat.reduceAdd, Nat.reduceMul, Nat.reduceSub, Nat.reduceLT, Int.reduceLT, Int.reduceLE, Int.reduceNeg, Int.reduceToNat, Nat.reduceBEq, Nat.reduceBNe, Int.reduceGE, Int.reduceGT, *, cRed, cImp, cClo, Tryz.results133, hy, e1])))
    ·rw [hq, if_pos rfl] at e1
     clear hN
     (repeat' (first | (refine gA fun _ => ?_) | (refine fkI (fun hb => ?_) (fun hb => ?_) <;> (try simp only [ew, bits64, hy, ed, en, eh, hq] at hb)) | (simp only [go_sem, Nat.reduceLeDiff, Nat.reduceEqDiff, reduceIte, reduceCtorEq, Nat.reduceAdd, Nat.reduceMul, Nat.reduceSub, Nat.reduceLT, Int.reduceLT, Int.reduceLE, Int.reduceNeg, Int.reduceToNat, Nat.reduceBEq, Nat.reduceBNe, Int.reduceGE, Int.reduceGT, *, cRed, cImp, cClo, Tryz.results133, bits64, hy, ed, en, eh, hq])))
     refine lpN (k + 1) (by dsimp only; omega) (by dsimp only; omega) ?_
     (repeat' (first | (refine gA fun _ => ?_) | (refine fkI (fun hb => ?_) (fun hb => ?_) <;> (try simp only [ew, hy, e1] at hb)) | (simp only [go_sem, Nat.reduceLeDiff, Nat.reduceEqDiff, reduceIte, reduceCtorEq, Nat.reduceAdd, Nat.reduceMul, Nat.reduceSub, Nat.reduceLT, Int.reduceLT, Int.reduceLE, Int.reduceNeg, Int.reduceToNat, Nat.reduceBEq, Nat.reduceBNe, Int.reduceGE, Int.reduceGT, *, cRed, cImp, cClo, Tryz.results133, hy, e1])))
   ·have e5 : k = 5 := by omega
    subst e5
    clear hN
    (repeat' (first | (refine gA fun _ => ?_) | (refine fkI (fun hb => ?_) (fun hb => ?_) <;> (try simp only [ew] at hb)) | (simp only [go_sem, Nat.reduceLeDiff, Nat.reduceEqDiff, reduceIte, reduceCtorEq, Nat.reduceAdd, Nat.reduceMul, Nat.reduceSub, Nat.reduceLT, Int.reduceLT, Int.reduceLE, Int.reduceNeg, Int.reduceToNat, Nat.reduceBEq, Nat.reduceBNe, Int.reduceGE, Int.reduceGT, *, cRed, cImp, cClo, Tryz.results133])))
    all_goals first | rfl | exact ⟨rfl, rfl⟩ | skip
def wo (ds : List (Int × Int)) (i : Nat) : List (Int × Int) := ds.take i ++ ds.drop (i + 1)
def cWo : Contract := ⟨[], false, fun
 | [.one (.sl 2 l), .one (.v (.int .i64 i))] => some (WfD l ∧ l.length ≤ 16777216 ∧ 0 ≤ i ∧ i < l.length, [⟨false, [.own 2 (dL (wo (unD l) i.toNat)) 1]⟩], [])
 | _ => none⟩
theorem woS_ok : ContractOK E0 134 cWo := by
 refine cWpc (E := E0) (T := mkT Tryz.prog [] false (fun _ => false) true (fun _ => false)) (mkT_ok (E := E0) .nil) (fn := Tryz.f134) Tryz.func134 (by kernel_rfl) rfl mixedT (by kernel_rfl) rfl ?_
 intro args p rs ms hr
 unfold cWo at hr
 dsimp only at hr
 split at hr
 rotate_left
 ·cases hr
 rename_i l i
 simp only [Option.some.injEq, Prod.mk.injEq] at hr
 obtain ⟨rfl, rfl, rfl⟩ := hr
 refine ⟨rfl, rfl, Nat.le_of_ble_eq_true rfl, ?_⟩
 have hm : maxLen = 9223372036854775807 := rfl
 rintro ⟨h1, h2, h3, h4⟩ bs
 obtain ⟨ds, rfl, hx⟩ := h1.ex
 clear h1
 rw [dL_length] at h2 h4
 rw [unD_dL]
 obtain ⟨i, rfl⟩ := Int.eq_ofNat_of_zero_le h3
 rw [Int.toNat_natCast]
 have h4' : i < ds.length := by omega
 have e : ((i : Int) + 1).toNat = i + 1 := by omega
 have e2 : ds.take i ++ ds.drop (i + 1) = wo ds i := rfl
 (repeat' (first | (refine gA fun _ => ?_) | (refine fkI (fun hb => ?_) (fun hb => ?_) <;> (try simp only [ew, e, dL_take, dL_drop, dL_app, e2, List.take_length, List.length_drop] at hb)) | (simp only [go_sem, Nat.reduceLeDiff, Nat.reduceEqDiff, reduceIte, reduceCtorEq, Nat.reduceAdd, Nat.reduceMul, Nat.reduceSub, Nat.reduceLT, Int.reduceLT, Int.reduceLE, Int.reduceNeg, Int.reduceToNat, Nat.reduceBEq, Nat.reduceBNe, Int.reduceGE, Int.reduceGT, *, cWo, Tryz.results134, e, dL_take, dL_drop, dL_app, e2, List.take_length, List.length_drop])))
end Go.Own
namespace Go.Own
open Go Go.Proofs
attribute [local go_sem] unD_dL dL_length dL_get dL_set dL_inj wfD_dL scal2 beq2 pair_eta dL_scal
def covS (n : Int) (ds : List (Int × Int)) (C : List (Int × Int)) (d : Int × Int) : List (Int × Int) := if (C.any fun e => e == redD n ds d) then C else C ++ [redD n ds d]
def covA (n : Int) (ds l : List (Int × Int)) : List (Int × Int) := l.foldl (covS n ds) []
def covN : Nat → List (Int × Int) → Nat → List (Int × Int)
 | 0, C, _ => C
 | f + 1, C, i => if hasB (clo (wo C i) (C.getD i (0, 0)).1) (C.getD i (0, 0)).2 then covN f (wo C i) i else covN f C (i + 1)
def covF (n : Int) (ds : List (Int × Int)) : List (Int × Int) := if depsOK n ds then covN (covA n ds ds).length (covA n ds ds) 0 else []
theorem redD_OK {n : Int} {ds : List (Int × Int)} {d : Int × Int} (h : depOK n d.1 d.2 = true) : depOK n (redD n ds d).1 (redD n ds d).2 = true := by
 have hR := depOK_R h
 obtain ⟨h1, h2, _⟩ := redN_facts (ds := ds) (r := d.2) hR.1 (k := 5) (by omega)
 unfold redD
 split
 ·simp only [depOK, isAttr, Bool.and_eq_true, inB_iff] at h ⊢
  exact ⟨⟨h.1.1, h.1.2.1, h1.1, Int.le_trans h2 h.1.2.2.2⟩, h.2⟩
 ·exact h
theorem covS_length {n : Int} {ds C : List (Int × Int)} {d : Int × Int} : (covS n ds C d).length ≤ C.length + 1 := by
 unfold covS; split <;> simp
theorem covA_succ {n : Int} {ds l : List (Int × Int)} {i : Nat} (h : i < l.length) : covA n ds (l.take (i + 1)) = covS n ds (covA n ds (l.take i)) (l.getD i (0, 0)) := by
 unfold covA; rw [take_succ_getD h (0, 0), List.foldl_append]; rfl
theorem covA_length {n : Int} {ds l : List (Int × Int)} : ∀ {i : Nat}, i ≤ l.length → (covA n ds (l.take i)).length ≤ i
 | 0, _ => by simp [covA]
 | i + 1, h => by
  rw [covA_succ h]
  exact Nat.le_trans covS_length (Nat.succ_le_succ (covA_length (by omega)))
theorem covA_OK {n : Int} {ds l : List (Int × Int)} (hl : ∀ d ∈ l, depOK n d.1 d.2 = true) : ∀ {i : Nat}, i ≤ l.length → ∀ d ∈ covA n ds (l.take i), depOK n d.1 d.2 = true
 | 0, _ => by simp [covA]
 | i + 1, h => by
  have ih := covA_OK (ds := ds) hl (i := i) (by omega)
  have hm := hl _ (getD_mem (l := l) (i := i) h (0, 0))
  rw [covA_succ h]
  unfold covS
  split
  ·exact ih
  ·intro d hd
   rcases List.mem_append.1 hd with h1 | h1
   ·exact ih d h1
   ·rw [List.mem_singleton] at h1
    rw [h1]
    exact redD_OK hm
theorem wo_length {C : List (Int × Int)} {i : Nat} (h : i < C.length) : (wo C i).length + 1 = C.length := by
 simp [wo, List.length_take, List.length_drop]; omega
theorem wo_mem {C : List (Int × Int)} {i : Nat} : ∀ d ∈ wo C i, d ∈ C := by
 intro d hd
 rcases List.mem_append.1 hd with h | h
 ·exact List.mem_of_mem_take h
 ·exact List.mem_of_mem_drop h
theorem covN_facts : ∀ {f : Nat} {C : List (Int × Int)} {i : Nat}, (∀ d ∈ covN f C i, d ∈ C) ∧ (i + f ≤ C.length → (covN f C i).length ≤ C.length)
 | 0, C, i => ⟨fun _ h => h, fun _ => Nat.le_refl _⟩
 | f + 1, C, i => by
  rw [covN]
  split
  ·obtain ⟨h1, h2⟩ := @covN_facts f (wo C i) i
   refine ⟨fun d hd => wo_mem d (h1 d hd), fun h => ?_⟩
   have hw := wo_length (C := C) (i := i) (by omega)
   have := h2 (by omega)
   omega
  ·obtain ⟨h1, h2⟩ := @covN_facts f C (i + 1)
   exact ⟨h1, fun h => h2 (by omega)⟩
def covP (n : Int) (R : List (Int × Int)) (C : List (Int × Int)) (i : Nat) : Prop := i ≤ C.length ∧ C.length ≤ 20 ∧ (∀ d ∈ C, depOK n d.1 d.2 = true) ∧ covN (C.length - i) C i = R
theorem covP_wo {n : Int} {R C : List (Int × Int)} {i : Nat} (h : covP n R C i) (hi : i < C.length) (hq : hasB (clo (wo C i) (C.getD i (0, 0)).1) (C.getD i (0, 0)).2 = true) : covP n R (wo C i) i := by
 obtain ⟨h1, h2, h3, h4⟩ := h
 have hw := wo_length hi
 refine ⟨by omega, by omega, fun d hd => h3 d (wo_mem d hd), ?_⟩
 obtain ⟨f, hf⟩ : ∃ f, C.length - i = f + 1 := ⟨C.length - i - 1, by omega⟩
 rw [hf, covN, hq, if_pos rfl] at h4
 rw [← h4]
 congr 1
 omega
theorem covP_next {n : Int} {R C : List (Int × Int)} {i : Nat} (h : covP n R C i) (hi : i < C.length) (hq : hasB (clo (wo C i) (C.getD i (0, 0)).1) (C.getD i (0, 0)).2 = false) : covP n R C (i + 1) := by
 obtain ⟨h1, h2, h3, h4⟩ := h
 refine ⟨by omega, h2, h3, ?_⟩
 obtain ⟨f, hf⟩ : ∃ f, C.length - i = f + 1 := ⟨C.length - i - 1, by omega⟩
 rw [hf, covN, hq, if_neg (by decide)] at h4
 rw [← h4]
 congr 1
 omega
theorem covP_end {n : Int} {R C : List (Int × Int)} {i : Nat} (h : covP n R C i) (hi : ¬i < C.length) : R = C := by
 obtain ⟨h1, h2, h3, h4⟩ := h
 have : C.length - i = 0 := by omega
 rw [this] at h4
 exact h4.symm
theorem covP_start {n : Int} {ds : List (Int × Int)} (hv : depsOK n ds = true) : covP n (covF n ds) (covA n ds ds) 0 := by
 have h20 := (deps_n hv).2.2
 have hv2 := hv
 simp only [depsOK, Bool.and_eq_true, List.all_eq_true] at hv2
 have hl := @covA_length n ds ds ds.length (Nat.le_refl _)
 have hk := @covA_OK n ds ds hv2.1 ds.length (Nat.le_refl _)
 rw [List.take_length] at hl hk
 refine ⟨Nat.zero_le _, by omega, hk, ?_⟩
 unfold covF
 rw [hv, if_pos rfl]
 rfl
theorem covP_depsOK {n : Int} {R C : List (Int × Int)} {i : Nat} (hn : 1 ≤ n ∧ n ≤ 5) (h : covP n R C i) (hi : i < C.length) : depsOK n (wo C i) = true ∧ depOK n (C.getD i (0, 0)).1 (C.getD i (0, 0)).2 = true := by
 obtain ⟨h1, h2, h3, h4⟩ := h
 have hw := wo_length hi
 refine ⟨?_, h3 _ (getD_mem hi (0, 0))⟩
 simp only [depsOK, Bool.and_eq_true, List.all_eq_true, inB_iff, decide_eq_true_eq]
 exact ⟨fun d hd => h3 d (wo_mem d hd), hn, by omega⟩
theorem covF_facts {n : Int} {ds : List (Int × Int)} : (∀ d ∈ covF n ds, depOK n d.1 d.2 = true) ∧ (covF n ds).length ≤ 20 := by
 cases hv : depsOK n ds
 ·unfold covF
  rw [hv]
  simp
 ·obtain ⟨_, h2, h3, h4⟩ := covP_start hv
  rw [← h4]
  obtain ⟨f1, f2⟩ := @covN_facts ((covA n ds ds).length - 0) (covA n ds ds) 0
  exact ⟨fun d hd => h3 d (f1 d hd), Nat.le_trans (f2 (by omega)) h2⟩
def cCvr : Contract := ⟨[], false, fun
 | [.one (.v (.int .i64 n)), .one (.sl 2 l)] => some (WfD l ∧ -9223372036854775808 ≤ n ∧ n ≤ 9223372036854775807, [⟨false, [.own 2 (dL (covF n (unD l))) 1]⟩], [])
 | _ => none⟩
theorem any_succ {α : Type} {xs : List α} {i : Nat} (h : i < xs.length) (d : α) (f : α → Bool) : (xs.take (i + 1)).any f = ((xs.take i).any f || f (xs.getD i d)) := by
 rw [take_succ_getD h d, List.any_append]; simp
theorem covS_ok : ContractOK E0 85 cCvr := by
 refine cWpc (E := E0) (T := mkT Tryz.prog [(31, cAreDeps), (133, cRed), (134, cWo), (135, cImp)] false (fun _ => false) true (fun _ => false)) (mkT_ok (E := E0) (.cons areDepsS_ok (.cons redS_ok (.cons woS_ok (.cons impS_ok .nil))))) (fn := Tryz.f85) Tryz.func85 (by kernel_rfl) rfl mixedT (by kernel_rfl) rfl ?_
 intro args p rs ms hr
 unfold cCvr at hr
 dsimp only at hr
 split at hr
 rotate_left
 ·cases hr
 rename_i n l
 simp only [Option.some.injEq, Prod.mk.injEq] at hr
 obtain ⟨rfl, rfl, rfl⟩ := hr
 refine ⟨rfl, rfl, Nat.le_of_ble_eq_true rfl, ?_⟩
 have hm : maxLen = 9223372036854775807 := rfl
 rintro ⟨h1, hn1, hn2⟩ bs
 obtain ⟨ds, rfl, hx⟩ := h1.ex
 clear h1
 rw [unD_dL]
 cases hv : depsOK n ds
 ·have e : covF n ds = [] := by unfold covF; rw [hv]; rfl
  rw [e]
  clear e
  (repeat' (first | (refine gA fun _ => ?_) | (refine fkI (fun hb => ?_) (fun hb => ?_) <;> (try simp only [ew, hv] at hb)) | (simp only [go_sem, Nat.reduceLeDiff, Nat.reduceEqDiff, reduceIte, reduceCtorEq, Nat.reduceAdd, Nat.reduceMul, Nat.reduceSub, Nat.reduceLT, Int.reduceLT, Int.reduceLE, Int.reduceNeg, Int.reduceToNat, Nat.reduceBEq, Nat.reduceBNe, Int.reduceGE, Int.reduceGT, *, cCvr, cAreDeps, cRed, cWo, cImp, Tryz.results85, hv])))
  all_goals first | rfl | skip
 ·have hst := covP_start hv
  obtain ⟨n1, n5, l20⟩ := deps_n hv
  generalize covF n ds = R at hst ⊢
  have hC := fun i h => @covA_length n ds ds i h
  have l20' : ds.length ≤ maxLen := Nat.le_trans l20 (by decide)
  have e0 : covA n ds (ds.take 0) = [] := rfl
  (repeat' (first | (refine gA fun _ => ?_) | (refine fkI (fun hb => ?_) (fun hb => ?_) <;> (try simp only [ew, hv] at hb)) | (simp only [go_sem, Nat.reduceLeDiff, Nat.reduceEqDiff, reduceIte, reduceCtorEq, Nat.reduceAdd, Nat.reduceMul, Nat.reduceSub, Nat.reduceLT, Int.reduceLT, Int.reduceLE, Int.reduceNeg, Int.reduceToNat, Nat.reduceBEq, Nat.reduceBNe, Int.reduceGE, Int.reduceGT, *, cCvr, cAreDeps, cRed, cWo, cImp, Tryz.results85, hv])))
  refine lpI { ι := Nat, rs := [(7, 10), (18, 52)], mods := [(6, fun i => .one (.d (.v (.int .i64 i)))), (5, fun i => .one (.own 2 (dL (covA n ds (ds.take i))) 1))], boxes := [], arrs := [], ok := fun i => i ≤ ds.length, mu := fun i => ds.length - i } rfl 0 (Nat.zero_le _) ?_ fun i hi => ?_
  ·clear hC hst
   (repeat' (first | (refine gA fun _ => ?_) | (refine fkI (fun hb => ?_) (fun hb => ?_) <;> (try simp only [ew, e0] at hb)) | (simp only [go_sem, Nat.reduceLeDiff, Nat.reduceEqDiff, reduceIte, reduceCtorEq, Nat.reduceAdd, Nat.reduceMul, Nat.reduceSub, Nat.reduceLT, Int.reduceLT, Int.reduceLE, Int.reduceNeg, Int.reduceToNat, Nat.reduceBEq, Nat.reduceBNe, Int.reduceGE, Int.reduceGT, *, cCvr, cAreDeps, cRed, cWo, cImp, Tryz.results85, e0])))
   all_goals first | rfl | skip
  ·dsimp only at i hi
   have hl := hC i hi
   have hl2 : (covA n ds (ds.take i)).length ≤ maxLen := Nat.le_trans hl (Nat.le_trans hi l20')
   by_cases h5 : i < ds.length
   ·have eS := covA_succ (n := n) (ds := ds) h5
    generalize hK : covA n ds (ds.take i) = C at hl hl2 eS
    generalize hr : redD n ds (ds.getD i (0, 0)) = r
    unfold covS at eS
    rw [hr] at eS
    clear hC hst
    (repeat' (first | (refine gA fun _ => ?_) | (refine fkI (fun hb => ?_) (fun hb => ?_) <;> (try simp only [ew, hK, hr] at hb)) | (simp only [go_sem, Nat.reduceLeDiff, Nat.reduceEqDiff, reduceIte, reduceCtorEq, Nat.reduceAdd, Nat.reduceMul, Nat.reduceSub, Nat.reduceLT, Int.reduceLT, Int.reduceLE, Int.reduceNeg, Int.reduceToNat, Nat.reduceBEq, Nat.reduceBNe, Int.reduceGE, Int.reduceGT, *, cCvr, cAreDeps, cRed, cWo, cImp, Tryz.results85, hK, hr])))
    refine lpI { ι := Nat, rs := [(31, 46)], mods := [(9, fun k => .one (.d (.v (.int .i64 k)))), (8, fun k => .one (.d (.v (.bool ((C.take k).any fun e => e == r)))))], boxes := [(7, fun _ => [.d (.v (.int .i64 r.1)), .d (.v (.int .i64 r.2))])], arrs := [(5, fun _ => (2, dL C, 1))], ok := fun k => k ≤ C.length, mu := fun k => C.length - k } rfl 0 (Nat.zero_le _) ?_ fun k hk => ?_
    ·(repeat' (first | (refine gA fun _ => ?_) | (refine fkI (fun hb => ?_) (fun hb => ?_) <;> (try simp only [ew, hK, hr] at hb)) | (simp only [go_sem, Nat.reduceLeDiff, Nat.reduceEqDiff, reduceIte, reduceCtorEq, Nat.reduceAdd, Nat.reduceMul, Nat.reduceSub, Nat.reduceLT, Int.reduceLT, Int.reduceLE, Int.reduceNeg, Int.reduceToNat, Nat.reduceBEq, Nat.reduceBNe, Int.reduceGE, Int.reduceGT, *, cCvr, cAreDeps, cRed, cWo, cImp, Tryz.results85, hK, hr])))
     all_goals first | rfl | skip
    ·dsimp only at k hk
     by_cases h6 : k < C.length
     ·have eA := any_succ h6 (0, 0) fun e => e == r
      generalize hf : ((C.take k).any fun e => e == r) = b0 at eA
      generalize hg : (C.getD k (0, 0) == r) = b1 at eA
      cases b0
      ·rw [Bool.false_or] at eA
       (repeat' (first | (refine gA fun _ => ?_) | (refine fkI (fun hb => ?_) (fun hb => ?_) <;> (try simp only [ew, hf, hg] at hb)) | (simp only [go_sem, Nat.reduceLeDiff, Nat.reduceEqDiff, reduceIte, reduceCtorEq, Nat.reduceAdd, Nat.reduceMul, Nat.reduceSub, Nat.reduceLT, Int.reduceLT, Int.reduceLE, Int.reduceNeg, Int.reduceToNat, Nat.reduceBEq, Nat.reduceBNe, Int.reduceGE, Int.reduceGT, *, cCvr, cAreDeps, cRed, cWo, cImp, Tryz.results85, hf, hg])))
       refine lpN (k + 1) (by dsimp only; omega) (by dsimp only; omega) ?_
       (repeat' (first | (refine gA fun _ => ?_) | (refine fkI (fun hb => ?_) (fun hb => ?_) <;> (try simp only [ew, hf, hg, eA] at hb)) | (simp only [go_sem, Nat.reduceLeDiff, Nat.reduceEqDiff, reduceIte, reduceCtorEq, Nat.reduceAdd, Nat.reduceMul, Nat.reduceSub, Nat.reduceLT, Int.reduceLT, Int.reduceLE, Int.reduceNeg, Int.reduceToNat, Nat.reduceBEq, Nat.reduceBNe, Int.reduceGE, Int.reduceGT, *, cCvr, cAreDeps, cRed, cWo, cImp, Tryz.results85, hf, hg, eA])))
      ·rw [Bool.true_or] at eA
       (repeat' (first | (refine gA fun _ => ?_) | (refine fkI (fun hb => ?_) (fun hb => ?_) <;> (try simp only [ew, hf, hg] at hb)) | (simp only [go_sem, Nat.reduceLeDiff, Nat.reduceEqDiff, reduceIte, reduceCtorEq, Nat.reduceAdd, Nat.reduceMul, Nat.reduceSub, Nat.reduceLT, Int.reduceLT, Int.reduceLE, Int.reduceNeg, Int.reduceToNat, Nat.reduceBEq, Nat.reduceBNe, Int.reduceGE, Int.reduceGT, *, cCvr, cAreDeps, cRed, cWo, cImp, Tryz.results85, hf, hg])))
       refine lpN (k + 1) (by dsimp only; omega) (by dsimp only; omega) ?_
       (repeat' (first | (refine gA fun _ => ?_) | (refine fkI (fun hb => ?_) (fun hb => ?_) <;> (try simp only [ew, hf, hg, eA] at hb)) | (simp only [go_sem, Nat.reduceLeDiff, Nat.reduceEqDiff, reduceIte, reduceCtorEq, Nat.reduceAdd, Nat.reduceMul, Nat.reduceSub, Nat.reduceLT, Int.reduceLT, Int.reduceLE, Int.reduceNeg, Int.reduceToNat, Nat.reduceBEq, Nat.reduceBNe, Int.reduceGE, Int.reduceGT, *, cCvr, cAreDeps, cRed, cWo, cImp, Tryz.results85, hf, hg, eA])))
     ·have e6 : k = C.length := by omega
      subst e6
      have eT : C.take C.length = C := List.take_length
      cases hq : (C.any fun e => e == r)
      ·rw [hq, if_neg (by decide)] at eS
       (repeat' (first | (refine gA fun _ => ?_) | (refine fkI (fun hb => ?_) (fun hb => ?_) <;> (try simp only [ew, eT, hq, dL_snoc] at hb)) | (simp only [go_sem, Nat.reduceLeDiff, Nat.reduceEqDiff, reduceIte, reduceCtorEq, Nat.reduceAdd, Nat.reduceMul, Nat.reduceSub, Nat.reduceLT, Int.reduceLT, Int.reduceLE, Int.reduceNeg, Int.reduceToNat, Nat.reduceBEq, Nat.reduceBNe, Int.reduceGE, Int.reduceGT, *, cCvr, cAreDeps, cRed, cWo, cImp, Tryz.results85, eT, hq, dL_snoc])))
       refine lpN (i + 1) (by dsimp only; omega) (by dsimp only; omega) ?_
       (repeat' (first | (refine gA fun _ => ?_) | (refine fkI (fun hb => ?_) (fun hb => ?_) <;> (try simp only [ew, eT, eS, hq, dL_snoc] at hb)) | (simp only [go_sem, Nat.reduceLeDiff, Nat.reduceEqDiff, reduceIte, reduceCtorEq, Nat.reduceAdd, Nat.reduceMul, Nat.reduceSub, Nat.reduceLT, Int.reduceLT, Int.reduceLE, Int.reduceNeg, Int.reduceToNat, Nat.reduceBEq, Nat.reduceBNe, Int.reduceGE, Int.reduceGT, *, cCvr, cAreDeps, cRed, cWo, cImp, Tryz.results85, eT, eS, hq, dL_snoc])))
      ·rw [hq, if_pos rfl] at eS
       (repeat' (first | (refine gA fun _ => ?_) | (refine fkI (fun hb => ?_) (fun hb => ?_) <;> (try simp only [ew, eT, hq] at hb)) | (simp only [go_sem, Nat.reduceLeDiff, Nat.reduceEqDiff, reduceIte, reduceCtorEq, Nat.reduceAdd, Nat.reduceMul, Nat.reduceSub, Nat.reduceLT, Int.reduceLT, Int.reduceLE, Int.reduceNeg, Int.reduceToNat, Nat.reduceBEq, Nat.reduceBNe, Int.reduceGE, Int.reduceGT, *, cCvr, cAreDeps, cRed, cWo, cImp, Tryz.results85, eT, hq])))
       refine lpN (i + 1) (by dsimp only; omega) (by dsimp only; omega) ?_
       (repeat' (first | (refine gA fun _ => ?_) | (refine fkI (fun hb => ?_) (fun hb => ?_) <;> (try simp only [ew, eT, eS, hq] at hb)) | (simp only [go_sem, Nat.reduceLeDiff, Nat.reduceEqDiff, reduceIte, reduceCtorEq, Nat.reduceAdd, Nat.reduceMul, Nat.reduceSub, Nat.reduceLT, Int.reduceLT, Int.reduceLE, Int.reduceNeg, Int.reduceToNat, Nat.reduceBEq, Nat.reduceBNe, Int.reduceGE, Int.reduceGT, *, cCvr, cAreDeps, cRed, cWo, cImp, Tryz.results85, eT, eS, hq])))
   ·have e5 : i = ds.length := by omega
    subst e5
    have eP : ds.take ds.length = ds := List.take_length
    rw [eP] at hl hl2
    clear hC
    generalize hK : covA n ds ds = K at hl hl2 hst
    (repeat' (first | (refine gA fun _ => ?_) | (refine fkI (fun hb => ?_) (fun hb => ?_) <;> (try simp only [ew, eP, hK] at hb)) | (simp only [go_sem, Nat.reduceLeDiff, Nat.reduceEqDiff, reduceIte, reduceCtorEq, Nat.reduceAdd, Nat.reduceMul, Nat.reduceSub, Nat.reduceLT, Int.reduceLT, Int.reduceLE, Int.reduceNeg, Int.reduceToNat, Nat.reduceBEq, Nat.reduceBNe, Int.reduceGE, Int.reduceGT, *, cCvr, cAreDeps, cRed, cWo, cImp, Tryz.results85, eP, hK])))
    refine lpI { ι := Nat × List (Int × Int), rs := [(11, 12), (52, 69)], mods := [(10, fun i => .one (.d (.v (.int .i64 i.1)))), (5, fun i => .one (.own 2 (dL i.2) 1))], boxes := [], arrs := [], ok := fun i => covP n R i.2 i.1, mu := fun i => i.2.length - i.1 } rfl (0, K) hst ?_ ?_
    ·clear hst
     (repeat' (first | (refine gA fun _ => ?_) | (refine fkI (fun hb => ?_) (fun hb => ?_) <;> (try simp only [ew, eP, hK] at hb)) | (simp only [go_sem, Nat.reduceLeDiff, Nat.reduceEqDiff, reduceIte, reduceCtorEq, Nat.reduceAdd, Nat.reduceMul, Nat.reduceSub, Nat.reduceLT, Int.reduceLT, Int.reduceLE, Int.reduceNeg, Int.reduceToNat, Nat.reduceBEq, Nat.reduceBNe, Int.reduceGE, Int.reduceGT, *, cCvr, cAreDeps, cRed, cWo, cImp, Tryz.results85, eP, hK])))
    ·rintro ⟨j, C⟩ hj
     dsimp only at hj
     have hj1 := hj.1
     have hj2 := hj.2.1
     by_cases h6 : j < C.length
     ·obtain ⟨o1, o2⟩ := covP_depsOK ⟨n1, n5⟩ hj h6
      have hw := wo_length h6
      have hq1 := covP_wo hj h6
      have hq0 := covP_next hj h6
      have eI : impB n (wo C j) (C.getD j (0, 0)).1 (C.getD j (0, 0)).2 = hasB (clo (wo C j) (C.getD j (0, 0)).1) (C.getD j (0, 0)).2 := by unfold impB; rw [o1, o2]; rfl
      clear hst hj o1 o2
      cases hq : hasB (clo (wo C j) (C.getD j (0, 0)).1) (C.getD j (0, 0)).2
      ·rw [hq] at eI
       have hq0 := hq0 hq
       clear hq1 hq
       (repeat' (first | (refine gA fun _ => ?_) | (refine fkI (fun hb => ?_) (fun hb => ?_) <;> (try simp only [ew, eI] at hb)) | (simp only [go_sem, Nat.reduceLeDiff, Nat.reduceEqDiff, reduceIte, reduceCtorEq, Nat.reduceAdd, Nat.reduceMul, Nat.reduceSub, Nat.reduceLT, Int.reduceLT, Int.reduceLE, Int.reduceNeg, Int.reduceToNat, Nat.reduceBEq, Nat.reduceBNe, Int.reduceGE, Int.reduceGT, *, cCvr, cAreDeps, cRed, cWo, cImp, Tryz.results85, eI])))
       refine lpN (j + 1, C) hq0 (by dsimp only; omega) ?_
       clear hq0
       (repeat' (first | (refine gA fun _ => ?_) | (refine fkI (fun hb => ?_) (fun hb => ?_) <;> (try simp only [ew, eI] at hb)) | (simp only [go_sem, Nat.reduceLeDiff, Nat.reduceEqDiff, reduceIte, reduceCtorEq, Nat.reduceAdd, Nat.reduceMul, Nat.reduceSub, Nat.reduceLT, Int.reduceLT, Int.reduceLE, Int.reduceNeg, Int.reduceToNat, Nat.reduceBEq, Nat.reduceBNe, Int.reduceGE, Int.reduceGT, *, cCvr, cAreDeps, cRed, cWo, cImp, Tryz.results85, eI])))
      ·rw [hq] at eI
       have hq1 := hq1 hq
       clear hq0 hq
       (repeat' (first | (refine gA fun _ => ?_) | (refine fkI (fun hb => ?_) (fun hb => ?_) <;> (try simp only [ew, eI] at hb)) | (simp only [go_sem, Nat.reduceLeDiff, Nat.reduceEqDiff, reduceIte, reduceCtorEq, Nat.reduceAdd, Nat.reduceMul, Nat.reduceSub, Nat.reduceLT, Int.reduceLT, Int.reduceLE, Int.reduceNeg, Int.reduceToNat, Nat.reduceBEq, Nat.reduceBNe, Int.reduceGE, Int.reduceGT, *, cCvr, cAreDeps, cRed, cWo, cImp, Tryz.results85, eI])))
       refine lpN (j, wo C j) hq1 (by dsimp only; omega) ?_
       clear hq1
       (repeat' (first | (refine gA fun _ => ?_) | (refine fkI (fun hb => ?_) (fun hb => ?_) <;> (try simp only [ew, eI] at hb)) | (simp only [go_sem, Nat.reduceLeDiff, Nat.reduceEqDiff, reduceIte, reduceCtorEq, Nat.reduceAdd, Nat.reduceMul, Nat.reduceSub, Nat.reduceLT, Int.reduceLT, Int.reduceLE, Int.reduceNeg, Int.reduceToNat, Nat.reduceBEq, Nat.reduceBNe, Int.reduceGE, Int.reduceGT, *, cCvr, cAreDeps, cRed, cWo, cImp, Tryz.results85, eI])))
     ·have e6 := covP_end hj h6
      subst e6
      clear hst hj
      (repeat' (first | (refine gA fun _ => ?_) | (refine fkI (fun hb => ?_) (fun hb => ?_) <;> (try simp only [ew] at hb)) | (simp only [go_sem, Nat.reduceLeDiff, Nat.reduceEqDiff, reduceIte, reduceCtorEq, Nat.reduceAdd, Nat.reduceMul, Nat.reduceSub, Nat.reduceLT, Int.reduceLT, Int.reduceLE, Int.reduceNeg, Int.reduceToNat, Nat.reduceBEq, Nat.reduceBNe, Int.reduceGE, Int.reduceGT, *, cCvr, cAreDeps, cRed, cWo, cImp, Tryz.results85])))
end Go.Own
namespace Go.Own
open Go Go.Proofs
attribute [local go_sem] unD_dL dL_length dL_get dL_set dL_inj wfD_dL scal2 beq2 pair_eta dL_scal
theorem full_key : ∀ k : Fin 5, ∀ r : Fin 5, r.val ≤ k.val → hasB (((2 ^ (k.val + 1) : Nat) : Int) - 1) ((r.val : Nat) : Int) = true := by decide +kernel
theorem exists_minL : ∀ {l : List Int}, l ≠ [] → ∃ m ∈ l, ∀ y ∈ l, m ≤ y
 | [], h => absurd rfl h
 | [x], _ => ⟨x, by simp, by simp⟩
 | x :: y :: l, _ => by
  obtain ⟨m, h1, h2⟩ := @exists_minL (y :: l) (by simp)
  by_cases h : x ≤ m
  ·exact ⟨x, by simp, fun z hz => by
    rcases List.mem_cons.1 hz with rfl | hz
    ·exact Int.le_refl _
    ·exact Int.le_trans h (h2 z hz)⟩
  ·exact ⟨m, by simp [h1], fun z hz => by
    rcases List.mem_cons.1 hz with rfl | hz
    ·omega
    ·exact h2 z hz⟩
theorem keyL_ne {n : Int} {ds : List (Int × Int)} (hv : depsOK n ds = true) : (2 ^ n.toNat - 1 : Nat) < 2 ^ n.toNat ∧ (((2 ^ n.toNat : Nat) : Int) - 1) ∈ keyL (2 ^ n.toNat) ds := by
 obtain ⟨n1, n5, _⟩ := deps_n hv
 have hd := depsOK_R hv
 obtain ⟨c, rfl⟩ := Int.eq_ofNat_of_zero_le (show 0 ≤ n by omega)
 rw [Int.toNat_natCast]
 have hM2 : 2 ^ c ≤ 32 := Nat.le_trans (Nat.pow_le_pow_right (by omega) (show c ≤ 5 by omega)) (by decide)
 have hM3 : 1 ≤ 2 ^ c := Nat.one_le_two_pow
 have hx : R5 (((2 ^ c : Nat) : Int) - 1) := ⟨by omega, by omega⟩
 refine ⟨by omega, ?_⟩
 unfold keyL
 rw [List.mem_filter]
 constructor
 ·have : ((2 ^ c : Nat) : Int) - 1 = ((2 ^ c - 1 : Nat) : Int) := by omega
  rw [this]
  unfold rng
  exact List.mem_map.2 ⟨2 ^ c - 1, List.mem_range.2 (by omega), rfl⟩
 ·unfold kqB
  rw [beq_iff_eq]
  refine (clo_eq hd hx hx (leB.refl _) (clo_le hd hx) ?_).symm
  intro d hdm _
  have hv2 := hv
  simp only [depsOK, Bool.and_eq_true, List.all_eq_true] at hv2
  have h := hv2.1 d hdm
  simp only [depOK, Bool.and_eq_true, inB_iff] at h
  have := full_key ⟨c - 1, by omega⟩ ⟨d.2.toNat, by omega⟩ (by dsimp only; omega)
  dsimp only at this
  rw [show c - 1 + 1 = c by omega, show ((d.2.toNat : Nat) : Int) = d.2 by omega] at this
  exact this
theorem keyL_mem {M : Nat} {ds : List (Int × Int)} {x : Int} (h : x ∈ keyL M ds) : 0 ≤ x ∧ x < M := by
 unfold keyL at h
 rw [List.mem_filter] at h
 unfold rng at h
 obtain ⟨i, hi, rfl⟩ := List.mem_map.1 h.1
 rw [List.mem_range] at hi
 exact ⟨by omega, by omega⟩
theorem keysF_facts {n : Int} {ds : List (Int × Int)} : (keysF n ds).length ≤ 100 ∧ (∀ x ∈ keysF n ds, R5 x) ∧ (depsOK n ds = true → 0 < (keysF n ds).length) := by
 unfold keysF
 split
 ·rename_i hv
  refine ⟨selS_length, fun x hx => ?_, fun _ => ?_⟩
  ·have := (selS_mem hx).2
   exact (isAttr_le this).2.2
  ·obtain ⟨_, hm⟩ := keyL_ne hv
   obtain ⟨n1, n5, _⟩ := deps_n hv
   have hM2 : 2 ^ n.toNat ≤ 32 := Nat.le_trans (Nat.pow_le_pow_right (by omega) (show n.toNat ≤ 5 by omega)) (by decide)
   have hlen : (keyL (2 ^ n.toNat) ds).length ≤ 2 ^ n.toNat := rng_filter_len
   have hmem := fun x h => @keyL_mem (2 ^ n.toNat) ds x h
   generalize keyL (2 ^ n.toNat) ds = L at hm hlen hmem
   have hs : setsOK L = true := by
    simp only [setsOK, Bool.and_eq_true, List.all_eq_true, decide_eq_true_eq, isAttr, inB_iff, all2]
    refine ⟨fun x hx => ⟨by decide, ?_, ?_⟩, by omega⟩
    ·exact (hmem x hx).1
    ·have := (hmem x hx).2
     show x ≤ 31
     omega
   obtain ⟨m, m1, m2⟩ := exists_minL (l := L) (by intro e; rw [e] at hm; cases hm)
   have hin : m ∈ selS minT1 L := by
    unfold selS
    rw [hs, if_pos rfl, dstI_mem, List.mem_filter]
    refine ⟨m1, List.all_eq_true.2 fun y hy => ?_⟩
    unfold minT1
    cases hq : insB y m
    ·simp
    ·have r1 := hmem y hy
     have r2 := hmem m m1
     have := ins_le (x := y) (s := m) ⟨by omega, by omega⟩ ⟨by omega, by omega⟩ hq
     have := m2 y hy
     have e : m = y := by omega
     simp [e]
   exact List.length_pos_of_mem hin
 ·rename_i hv
  exact ⟨by simp, by simp, fun h => absurd h hv⟩
def synS (a : Int) (x : Int) (e : Int × Int) : Int := if e.1 == a then addB x e.2 else x
def synX (C : List (Int × Int)) (a : Int) : Int := C.foldl (synS a) a
def synL (C l : List (Int × Int)) : List Int := l.map fun d => synX C d.1
def synA (K S : List Int) : List Int := S ++ (if S.any (anyIn K) then [] else [K.getD 0 0])
def synF (n : Int) (ds : List (Int × Int)) : List Int := if depsOK n ds then selS maxT1 (synA (keysF n ds) (synL (covF n ds) (covF n ds))) else []
theorem synS_R {a x : Int} {e : Int × Int} (hx : R5 x) (he : 0 ≤ e.2 ∧ e.2 ≤ 4) : R5 (synS a x e) := by
 unfold synS; split
 ·exact addB_R hx he
 ·exact hx
theorem synX_R {a : Int} (ha : R5 a) : ∀ {C : List (Int × Int)}, (∀ d ∈ C, depR d) → R5 (synX C a) := by
 intro C h
 unfold synX
 suffices H : ∀ (C : List (Int × Int)) (x : Int), R5 x → (∀ d ∈ C, depR d) → R5 (C.foldl (synS a) x) from H C a ha h
 intro C
 induction C with
 | nil => intro x hx _; exact hx
 | cons d C ih => intro x hx h; exact ih _ (synS_R hx (h d (by simp)).2) fun e he => h e (by simp [he])
theorem synX_succ {C : List (Int × Int)} {a : Int} {k : Nat} (h : k < C.length) : synX (C.take (k + 1)) a = synS a (synX (C.take k) a) (C.getD k (0, 0)) := by
 unfold synX; rw [take_succ_getD h (0, 0), List.foldl_append]; rfl
theorem synL_succ {C l : List (Int × Int)} {i : Nat} (h : i < l.length) : synL C (l.take (i + 1)) = synL C (l.take i) ++ [synX C (l.getD i (0, 0)).1] := by
 unfold synL; rw [take_succ_getD h (0, 0), List.map_append]; rfl
theorem synL_length {C l : List (Int × Int)} : (synL C l).length = l.length := by simp [synL]
theorem synL_R {C l : List (Int × Int)} (hC : ∀ d ∈ C, depR d) (hl : ∀ d ∈ l, depR d) : ∀ x ∈ synL C l, R5 x := by
 intro x hx
 obtain ⟨d, hd, rfl⟩ := List.mem_map.1 hx
 exact synX_R (hl d hd).1 hC
theorem setsOK_dst {l : List Int} (h : l.length ≤ 100) : setsOK (dstI l) = setsOK l := by
 unfold setsOK
 have h2 := @dstI_length l
 rw [decide_eq_true (show ((dstI l).length : Int) ≤ 100 by omega), decide_eq_true (show (l.length : Int) ≤ 100 by omega), Bool.and_true, Bool.and_true, Bool.eq_iff_iff, List.all_eq_true, List.all_eq_true]
 exact ⟨fun h x hx => h x (dstI_mem.2 hx), fun h x hx => h x (dstI_mem.1 hx)⟩
theorem selS_dst {t : Int → Int → Bool} {l : List Int} (h : l.length ≤ 100) : selS t (dstI l) = selS t l := by
 unfold selS
 rw [setsOK_dst h]
 have e : ∀ x, (dstI l).all (t x) = l.all (t x) := fun x => by
  rw [Bool.eq_iff_iff, List.all_eq_true, List.all_eq_true]
  exact ⟨fun h y hy => h y (dstI_mem.2 hy), fun h y hy => h y (dstI_mem.1 hy)⟩
 simp only [e]
 split
 ·rw [dst_filter]
  refine sorted_ext dstI_sorted dstI_sorted fun z => ?_
  simp only [dstI_mem]
 ·rfl
theorem any_dst {l : List Int} {p : Int → Bool} : (dstI l).any p = l.any p := by
 rw [Bool.eq_iff_iff, List.any_eq_true, List.any_eq_true]
 constructor
 ·rintro ⟨x, h1, h2⟩; exact ⟨x, dstI_mem.1 h1, h2⟩
 ·rintro ⟨x, h1, h2⟩; exact ⟨x, dstI_mem.2 h1, h2⟩
def cSyn : Contract := ⟨[], false, fun
 | [.one (.v (.int .i64 n)), .one (.sl 2 l)] => some (WfD l ∧ -9223372036854775808 ≤ n ∧ n ≤ 9223372036854775807, [⟨false, [.own 1 (iL (synF n (unD l))) 1]⟩], [])
 | _ => none⟩
theorem synS_ok : ContractOK E0 29 cSyn := by
 refine cWpc (E := E0) (T := mkT Tryz.prog [(31, cAreDeps), (85, cCvr), (86, cPut), (87, cKeys), (88, cMaxS)] false (fun _ => false) true (fun _ => false)) (mkT_ok (E := E0) (.cons areDepsS_ok (.cons covS_ok (.cons put_ok (.cons keysS_ok (.cons maxS_ok .nil)))))) (fn := Tryz.f29) Tryz.func29 (by kernel_rfl) rfl mixedT (by kernel_rfl) rfl ?_
 intro args p rs ms hr
 unfold cSyn at hr
 dsimp only at hr
 split at hr
 rotate_left
 ·cases hr
 rename_i n l
 simp only [Option.some.injEq, Prod.mk.injEq] at hr
 obtain ⟨rfl, rfl, rfl⟩ := hr
 refine ⟨rfl, rfl, Nat.le_of_ble_eq_true rfl, ?_⟩
 have hm : maxLen = 9223372036854775807 := rfl
 rintro ⟨h1, hn1, hn2⟩ bs
 obtain ⟨ds, rfl, hx⟩ := h1.ex
 clear h1
 rw [unD_dL]
 cases hv : depsOK n ds
 ·have e : synF n ds = [] := by unfold synF; rw [hv]; rfl
  rw [e]
  clear e
  (repeat' (first | (refine gA fun _ => ?_) | (refine fkI (fun hb => ?_) (fun hb => ?_) <;> (try simp only [ew, hv] at hb)) | (simp only [go_sem, Nat.reduceLeDiff, Nat.reduceEqDiff, reduceIte, reduceCtorEq, Nat.reduceAdd, Nat.reduceMul, Nat.reduceSub, Nat.reduceLT, Int.reduceLT, Int.reduceLE, Int.reduceNeg, Int.reduceToNat, Nat.reduceBEq, Nat.reduceBNe, Int.reduceGE, Int.reduceGT, *, cSyn, cAreDeps, cCvr, cPut, cKeys, cMaxS, Tryz.results29, hv])))
  all_goals first | rfl | skip
 ·have e : synF n ds = selS maxT1 (synA (keysF n ds) (synL (covF n ds) (covF n ds))) := by unfold synF; rw [hv]; rfl
  rw [e]
  clear e
  obtain ⟨k1, k2, k3⟩ := @keysF_facts n ds
  have k3 := k3 hv
  obtain ⟨c1, c2⟩ := @covF_facts n ds
  have cR : ∀ d ∈ covF n ds, depR d := fun d hd => depOK_R (c1 d hd)
  clear c1
  have c3 : (covF n ds).length ≤ maxLen := Nat.le_trans c2 (by decide)
  (repeat' (first | (refine gA fun _ => ?_) | (refine fkI (fun hb => ?_) (fun hb => ?_) <;> (try simp only [ew, hv] at hb)) | (simp only [go_sem, Nat.reduceLeDiff, Nat.reduceEqDiff, reduceIte, reduceCtorEq, Nat.reduceAdd, Nat.reduceMul, Nat.reduceSub, Nat.reduceLT, Int.reduceLT, Int.reduceLE, Int.reduceNeg, Int.reduceToNat, Nat.reduceBEq, Nat.reduceBNe, Int.reduceGE, Int.reduceGT, *, cSyn, cAreDeps, cCvr, cPut, cKeys, cMaxS, Tryz.results29, hv])))
  generalize hC : covF n ds = C at c2 c3 cR
  generalize hK : keysF n ds = K at k1 k2 k3
  have kmx : K.length ≤ maxLen := Nat.le_trans k1 (by decide)
  have hSL := fun i => @synL_length C (C.take i)
  refine lpI { ι := Nat, rs := [(8, 10), (23, 62)], mods := [(7, fun i => .one (.d (.v (.int .i64 i)))), (5, fun i => .one (.own 1 (iL (dstI (synL C (C.take i)))) 1))], boxes := [], arrs := [(6, fun _ => (2, dL C, 1))], ok := fun i => i ≤ C.length, mu := fun i => C.length - i } rfl 0 (Nat.zero_le _) ?_ fun i hi => ?_
  ·clear cR k2
   (repeat' (first | (refine gA fun _ => ?_) | (refine fkI (fun hb => ?_) (fun hb => ?_) <;> (try simp only [ew, hC] at hb)) | (simp only [go_sem, Nat.reduceLeDiff, Nat.reduceEqDiff, reduceIte, reduceCtorEq, Nat.reduceAdd, Nat.reduceMul, Nat.reduceSub, Nat.reduceLT, Int.reduceLT, Int.reduceLE, Int.reduceNeg, Int.reduceToNat, Nat.reduceBEq, Nat.reduceBNe, Int.reduceGE, Int.reduceGT, *, cSyn, cAreDeps, cCvr, cPut, cKeys, cMaxS, Tryz.results29, hC])))
   all_goals first | rfl | skip
  ·dsimp only at i hi
   have s0 := @dstI_length (synL C (C.take i))
   have s1 := hSL i
   rw [List.length_take] at s1
   have s2 : (dstI (synL C (C.take i))).length ≤ 20 := by omega
   clear s1 s0
   have s3 : (dstI (synL C (C.take i))).length ≤ maxLen := Nat.le_trans s2 (by decide)
   by_cases h5 : i < C.length
   ·have eS := congrArg dstI (synL_succ (C := C) h5)
    rw [dstI_snoc] at eS
    obtain ⟨⟨a1, a2⟩, b1, b2⟩ := cR _ (getD_mem h5 (0, 0))
    generalize hZ : dstI (synL C (C.take i)) = Z at s2 s3 eS
    generalize hg : C.getD i (0, 0) = g at eS a1 a2 b1 b2
    obtain ⟨a, b⟩ := g
    dsimp only at eS a1 a2 b1 b2
    clear k2
    have e0 : synX (C.take 0) a = a := rfl
    (repeat' (first | (refine gA fun _ => ?_) | (refine fkI (fun hb => ?_) (fun hb => ?_) <;> (try simp only [ew, hZ, hg] at hb)) | (simp only [go_sem, Nat.reduceLeDiff, Nat.reduceEqDiff, reduceIte, reduceCtorEq, Nat.reduceAdd, Nat.reduceMul, Nat.reduceSub, Nat.reduceLT, Int.reduceLT, Int.reduceLE, Int.reduceNeg, Int.reduceToNat, Nat.reduceBEq, Nat.reduceBNe, Int.reduceGE, Int.reduceGT, *, cSyn, cAreDeps, cCvr, cPut, cKeys, cMaxS, Tryz.results29, hZ, hg])))
    refine lpI { ι := Nat, rs := [(34, 59)], mods := [(9, fun k => .one (.d (.v (.int .i64 k)))), (8, fun k => .one (.d (.v (.int .i64 (synX (C.take k) a)))))], boxes := [], arrs := [(6, fun _ => (2, dL C, 1)), (5, fun _ => (1, iL Z, 1))], ok := fun k => k ≤ C.length, mu := fun k => C.length - k } rfl 0 (Nat.zero_le _) ?_ fun k hk => ?_
    ·clear cR
     (repeat' (first | (refine gA fun _ => ?_) | (refine fkI (fun hb => ?_) (fun hb => ?_) <;> (try simp only [ew, hZ, hg, e0] at hb)) | (simp only [go_sem, Nat.reduceLeDiff, Nat.reduceEqDiff, reduceIte, reduceCtorEq, Nat.reduceAdd, Nat.reduceMul, Nat.reduceSub, Nat.reduceLT, Int.reduceLT, Int.reduceLE, Int.reduceNeg, Int.reduceToNat, Nat.reduceBEq, Nat.reduceBNe, Int.reduceGE, Int.reduceGT, *, cSyn, cAreDeps, cCvr, cPut, cKeys, cMaxS, Tryz.results29, hZ, hg, e0])))
     all_goals first | rfl | skip
    ·dsimp only at k hk
     have hX := @synX_R a ⟨a1, a2⟩ (C.take k) fun d hd => cR d (List.mem_of_mem_take hd)
     by_cases h6 : k < C.length
     ·have eX := synX_succ (a := a) h6
      obtain ⟨_, d1, d2⟩ := cR _ (getD_mem h6 (0, 0))
      generalize hx : synX (C.take k) a = x at hX eX
      generalize hh : C.getD k (0, 0) = h at eX d1 d2
      obtain ⟨u, v⟩ := h
      dsimp only at eX d1 d2
      obtain ⟨x0, x31⟩ := hX
      have hp := shl5 ⟨d1, d2⟩
      have eo : bitI .or .i64 x (1 * 2 ^ v.toNat) = addB x v := rfl
      unfold synS at eX
      dsimp only at eX
      cases hq : (u == a)
      ·rw [hq, if_neg (by decide)] at eX
       clear cR
       (repeat' (first | (refine gA fun _ => ?_) | (refine fkI (fun hb => ?_) (fun hb => ?_) <;> (try simp only [ew, hx, hh, hg, hq] at hb)) | (simp only [go_sem, Nat.reduceLeDiff, Nat.reduceEqDiff, reduceIte, reduceCtorEq, Nat.reduceAdd, Nat.reduceMul, Nat.reduceSub, Nat.reduceLT, Int.reduceLT, Int.reduceLE, Int.reduceNeg, Int.reduceToNat, Nat.reduceBEq, Nat.reduceBNe, Int.reduceGE, Int.reduceGT, *, cSyn, cAreDeps, cCvr, cPut, cKeys, cMaxS, Tryz.results29, hx, hh, hg, hq])))
       refine lpN (k + 1) (by dsimp only; omega) (by dsimp only; omega) ?_
       (repeat' (first | (refine gA fun _ => ?_) | (refine fkI (fun hb => ?_) (fun hb => ?_) <;> (try simp only [ew, hx, eX, hh, hq] at hb)) | (simp only [go_sem, Nat.reduceLeDiff, Nat.reduceEqDiff, reduceIte, reduceCtorEq, Nat.reduceAdd, Nat.reduceMul, Nat.reduceSub, Nat.reduceLT, Int.reduceLT, Int.reduceLE, Int.reduceNeg, Int.reduceToNat, Nat.reduceBEq, Nat.reduceBNe, Int.reduceGE, Int.reduceGT, *, cSyn, cAreDeps, cCvr, cPut, cKeys, cMaxS, Tryz.results29, hx, eX, hh, hq])))
      ·rw [hq, if_pos rfl] at eX
       clear cR
       (repeat' (first | (refine gA fun _ => ?_) | (refine fkI (fun hb => ?_) (fun hb => ?_) <;> (try simp only [ew, bits64, hx, hh, hg, hq, eo] at hb)) | (simp only [go_sem, Nat.reduceLeDiff, Nat.reduceEqDiff, reduceIte, reduceCtorEq, Nat.reduceAdd, Nat.reduceMul, Nat.reduceSub, Nat.reduceLT, Int.reduceLT, Int.reduceLE, Int.reduceNeg, Int.reduceToNat, Nat.reduceBEq, Nat.reduceBNe, Int.reduceGE, Int.reduceGT, *, cSyn, cAreDeps, cCvr, cPut, cKeys, cMaxS, Tryz.results29, bits64, hx, hh, hg, hq, eo])))
       refine lpN (k + 1) (by dsimp only; omega) (by dsimp only; omega) ?_
       (repeat' (first | (refine gA fun _ => ?_) | (refine fkI (fun hb => ?_) (fun hb => ?_) <;> (try simp only [ew, hx, eX, hh, hq, eo] at hb)) | (simp only [go_sem, Nat.reduceLeDiff, Nat.reduceEqDiff, reduceIte, reduceCtorEq, Nat.reduceAdd, Nat.reduceMul, Nat.reduceSub, Nat.reduceLT, Int.reduceLT, Int.reduceLE, Int.reduceNeg, Int.reduceToNat, Nat.reduceBEq, Nat.reduceBNe, Int.reduceGE, Int.reduceGT, *, cSyn, cAreDeps, cCvr, cPut, cKeys, cMaxS, Tryz.results29, hx, eX, hh, hq, eo])))
     ·have e6 : k = C.length := by omega
      subst e6
      have eT : C.take C.length = C := List.take_length
      clear cR
      (repeat' (first | (refine gA fun _ => ?_) | (refine fkI (fun hb => ?_) (fun hb => ?_) <;> (try simp only [ew, eT] at hb)) | (simp only [go_sem, Nat.reduceLeDiff, Nat.reduceEqDiff, reduceIte, reduceCtorEq, Nat.reduceAdd, Nat.reduceMul, Nat.reduceSub, Nat.reduceLT, Int.reduceLT, Int.reduceLE, Int.reduceNeg, Int.reduceToNat, Nat.reduceBEq, Nat.reduceBNe, Int.reduceGE, Int.reduceGT, *, cSyn, cAreDeps, cCvr, cPut, cKeys, cMaxS, Tryz.results29, eT])))
      refine lpN (i + 1) (by dsimp only; omega) (by dsimp only; omega) ?_
      (repeat' (first | (refine gA fun _ => ?_) | (refine fkI (fun hb => ?_) (fun hb => ?_) <;> (try simp only [ew, hZ, eS, eT] at hb)) | (simp only [go_sem, Nat.reduceLeDiff, Nat.reduceEqDiff, reduceIte, reduceCtorEq, Nat.reduceAdd, Nat.reduceMul, Nat.reduceSub, Nat.reduceLT, Int.reduceLT, Int.reduceLE, Int.reduceNeg, Int.reduceToNat, Nat.reduceBEq, Nat.reduceBNe, Int.reduceGE, Int.reduceGT, *, cSyn, cAreDeps, cCvr, cPut, cKeys, cMaxS, Tryz.results29, hZ, eS, eT])))
   ·have e5 : i = C.length := by omega
    subst e5
    have eP : C.take C.length = C := List.take_length
    rw [eP] at s2 s3
    have sl := @synL_length C C
    have sR : ∀ x ∈ synL C C, R5 x := synL_R cR cR
    generalize hY : synL C C = Y at s2 s3 sl sR
    have y100 : (synA K Y).length ≤ 100 := by
     unfold synA
     rw [List.length_append]
     split <;> simp <;> omega
    have hsel : selS maxT1 (dstI (synA K Y)) = selS maxT1 (synA K Y) := selS_dst y100
    have zR : ∀ x ∈ dstI Y, R5 x := fun x hx => sR x (dstI_mem.1 hx)
    have hany := @any_dst Y (anyIn K)
    have hput := @dstI_snoc Y (K.getD 0 0)
    clear cR hSL sR y100
    rw [← hsel]
    have hA : dstI (synA K Y) = if (dstI Y).any (anyIn K) then dstI Y else putS (dstI Y) (K.getD 0 0) := by
     unfold synA
     rw [hany]
     split
     ·rw [List.append_nil]
     ·rw [hput]
    rw [hA]
    clear hA hsel hany hput
    generalize hZ : dstI Y = Z at s2 s3 zR
    (repeat' (first | (refine gA fun _ => ?_) | (refine fkI (fun hb => ?_) (fun hb => ?_) <;> (try simp only [ew, eP, hY, hZ, hK] at hb)) | (simp only [go_sem, Nat.reduceLeDiff, Nat.reduceEqDiff, reduceIte, reduceCtorEq, Nat.reduceAdd, Nat.reduceMul, Nat.reduceSub, Nat.reduceLT, Int.reduceLT, Int.reduceLE, Int.reduceNeg, Int.reduceToNat, Nat.reduceBEq, Nat.reduceBNe, Int.reduceGE, Int.reduceGT, *, cSyn, cAreDeps, cCvr, cPut, cKeys, cMaxS, Tryz.results29, eP, hY, hZ, hK])))
    refine lpI { ι := Nat, rs := [(13, 14), (65, 94)], mods := [(12, fun k => .one (.d (.v (.int .i64 k)))), (11, fun k => .one (.d (.v (.bool ((Z.take k).any (anyIn K))))))], boxes := [], arrs := [(5, fun _ => (1, iL Z, 1)), (10, fun _ => (1, iL K, 1))], ok := fun k => k ≤ Z.length, mu := fun k => Z.length - k } rfl 0 (Nat.zero_le _) ?_ fun k hk => ?_
    ·clear k2 zR
     (repeat' (first | (refine gA fun _ => ?_) | (refine fkI (fun hb => ?_) (fun hb => ?_) <;> (try simp only [ew, eP, hY, hZ, hK] at hb)) | (simp only [go_sem, Nat.reduceLeDiff, Nat.reduceEqDiff, reduceIte, reduceCtorEq, Nat.reduceAdd, Nat.reduceMul, Nat.reduceSub, Nat.reduceLT, Int.reduceLT, Int.reduceLE, Int.reduceNeg, Int.reduceToNat, Nat.reduceBEq, Nat.reduceBNe, Int.reduceGE, Int.reduceGT, *, cSyn, cAreDeps, cCvr, cPut, cKeys, cMaxS, Tryz.results29, eP, hY, hZ, hK])))
     all_goals first | rfl | skip
    ·dsimp only at k hk
     by_cases h6 : k < Z.length
     ·have eA := any_succ h6 0 (anyIn K)
      have zr := zR _ (getD_mem h6 0)
      clear zR
      generalize hf : (Z.take k).any (anyIn K) = b0 at eA
      generalize hg : Z.getD k 0 = z at eA zr
      have e0 : (b0 || (K.take 0).any fun y => insB y z) = b0 := by simp
      have eE : (b0 || (K.take K.length).any fun y => insB y z) = (b0 || anyIn K z) := by rw [List.take_length]; rfl
      have hkr := fun j h => k2 _ (getD_mem (l := K) (i := j) h 0)
      clear k2
      (repeat' (first | (refine gA fun _ => ?_) | (refine fkI (fun hb => ?_) (fun hb => ?_) <;> (try simp only [ew, hf, hg] at hb)) | (simp only [go_sem, Nat.reduceLeDiff, Nat.reduceEqDiff, reduceIte, reduceCtorEq, Nat.reduceAdd, Nat.reduceMul, Nat.reduceSub, Nat.reduceLT, Int.reduceLT, Int.reduceLE, Int.reduceNeg, Int.reduceToNat, Nat.reduceBEq, Nat.reduceBNe, Int.reduceGE, Int.reduceGT, *, cSyn, cAreDeps, cCvr, cPut, cKeys, cMaxS, Tryz.results29, hf, hg])))
      refine lpI { ι := Nat, rs := [(71, 94)], mods := [(13, fun j => .one (.d (.v (.int .i64 j)))), (11, fun j => .one (.d (.v (.bool (b0 || (K.take j).any fun y => insB y z)))))], boxes := [], arrs := [(5, fun _ => (1, iL Z, 1)), (10, fun _ => (1, iL K, 1))], ok := fun j => j ≤ K.length, mu := fun j => K.length - j } rfl 0 (Nat.zero_le _) ?_ fun j hj => ?_
      ·clear hkr
       (repeat' (first | (refine gA fun _ => ?_) | (refine fkI (fun hb => ?_) (fun hb => ?_) <;> (try simp only [ew, hf, hg, e0] at hb)) | (simp only [go_sem, Nat.reduceLeDiff, Nat.reduceEqDiff, reduceIte, reduceCtorEq, Nat.reduceAdd, Nat.reduceMul, Nat.reduceSub, Nat.reduceLT, Int.reduceLT, Int.reduceLE, Int.reduceNeg, Int.reduceToNat, Nat.reduceBEq, Nat.reduceBNe, Int.reduceGE, Int.reduceGT, *, cSyn, cAreDeps, cCvr, cPut, cKeys, cMaxS, Tryz.results29, hf, hg, e0])))
       all_goals first | rfl | skip
      ·dsimp only at j hj
       by_cases h7 : j < K.length
       ·have eB := any_succ h7 0 fun y => insB y z
        have ei := and_ins (hkr j h7) zr
        clear hkr
        generalize hq : ((K.take j).any fun y => insB y z) = b1 at eB
        generalize hw : K.getD j 0 = w at eB ei
        generalize hi3 : insB w z = b2 at eB ei
        generalize hb3 : (b0 || b1) = b3
        have eC : (b0 || (K.take (j + 1)).any fun y => insB y z) = (b3 || b2) := by rw [eB, ← hb3, Bool.or_assoc]
        clear eB
        cases b3
        ·rw [Bool.false_or] at eC
         (repeat' (first | (refine gA fun _ => ?_) | (refine fkI (fun hb => ?_) (fun hb => ?_) <;> (try simp only [ew, hq, hw, hg, ei, hb3] at hb)) | (simp only [go_sem, Nat.reduceLeDiff, Nat.reduceEqDiff, reduceIte, reduceCtorEq, Nat.reduceAdd, Nat.reduceMul, Nat.reduceSub, Nat.reduceLT, Int.reduceLT, Int.reduceLE, Int.reduceNeg, Int.reduceToNat, Nat.reduceBEq, Nat.reduceBNe, Int.reduceGE, Int.reduceGT, *, cSyn, cAreDeps, cCvr, cPut, cKeys, cMaxS, Tryz.results29, hq, hw, hg, ei, hb3])))
         refine lpN (j + 1) (by dsimp only; omega) (by dsimp only; omega) ?_
         (repeat' (first | (refine gA fun _ => ?_) | (refine fkI (fun hb => ?_) (fun hb => ?_) <;> (try simp only [ew, hq, hw, hg, ei, hb3, eC] at hb)) | (simp only [go_sem, Nat.reduceLeDiff, Nat.reduceEqDiff, reduceIte, reduceCtorEq, Nat.reduceAdd, Nat.reduceMul, Nat.reduceSub, Nat.reduceLT, Int.reduceLT, Int.reduceLE, Int.reduceNeg, Int.reduceToNat, Nat.reduceBEq, Nat.reduceBNe, Int.reduceGE, Int.reduceGT, *, cSyn, cAreDeps, cCvr, cPut, cKeys, cMaxS, Tryz.results29, hq, hw, hg, ei, hb3, eC])))
        ·rw [Bool.true_or] at eC
         (repeat' (first | (refine gA fun _ => ?_) | (refine fkI (fun hb => ?_) (fun hb => ?_) <;> (try simp only [ew, hq, hw, hg, ei, hb3] at hb)) | (simp only [go_sem, Nat.reduceLeDiff, Nat.reduceEqDiff, reduceIte, reduceCtorEq, Nat.reduceAdd, Nat.reduceMul, Nat.reduceSub, Nat.reduceLT, Int.reduceLT, Int.reduceLE, Int.reduceNeg, Int.reduceToNat, Nat.reduceBEq, Nat.reduceBNe, Int.reduceGE, Int.reduceGT, *, cSyn, cAreDeps, cCvr, cPut, cKeys, cMaxS, Tryz.results29, hq, hw, hg, ei, hb3])))
         refine lpN (j + 1) (by dsimp only; omega) (by dsimp only; omega) ?_
         (repeat' (first | (refine gA fun _ => ?_) | (refine fkI (fun hb => ?_) (fun hb => ?_) <;> (try simp only [ew, hq, hw, hg, ei, hb3, eC] at hb)) | (simp only [go_sem, Nat.reduceLeDiff, Nat.reduceEqDiff, reduceIte, reduceCtorEq, Nat.reduceAdd, Nat.reduceMul, Nat.reduceSub, Nat.reduceLT, Int.reduceLT, Int.reduceLE, Int.reduceNeg, Int.reduceToNat, Nat.reduceBEq, Nat.reduceBNe, Int.reduceGE, Int.reduceGT, *, cSyn, cAreDeps, cCvr, cPut, cKeys, cMaxS, Tryz.results29, hq, hw, hg, ei, hb3, eC])))
       ·have e7 : j = K.length := by omega
        subst e7
        clear hkr
        (repeat' (first | (refine gA fun _ => ?_) | (refine fkI (fun hb => ?_) (fun hb => ?_) <;> (try simp only [ew] at hb)) | (simp only [go_sem, Nat.reduceLeDiff, Nat.reduceEqDiff, reduceIte, reduceCtorEq, Nat.reduceAdd, Nat.reduceMul, Nat.reduceSub, Nat.reduceLT, Int.reduceLT, Int.reduceLE, Int.reduceNeg, Int.reduceToNat, Nat.reduceBEq, Nat.reduceBNe, Int.reduceGE, Int.reduceGT, *, cSyn, cAreDeps, cCvr, cPut, cKeys, cMaxS, Tryz.results29])))
        refine lpN (k + 1) (by dsimp only; omega) (by dsimp only; omega) ?_
        (repeat' (first | (refine gA fun _ => ?_) | (refine fkI (fun hb => ?_) (fun hb => ?_) <;> (try simp only [ew, eA, eE] at hb)) | (simp only [go_sem, Nat.reduceLeDiff, Nat.reduceEqDiff, reduceIte, reduceCtorEq, Nat.reduceAdd, Nat.reduceMul, Nat.reduceSub, Nat.reduceLT, Int.reduceLT, Int.reduceLE, Int.reduceNeg, Int.reduceToNat, Nat.reduceBEq, Nat.reduceBNe, Int.reduceGE, Int.reduceGT, *, cSyn, cAreDeps, cCvr, cPut, cKeys, cMaxS, Tryz.results29, eA, eE])))
     ·have e6 : k = Z.length := by omega
      subst e6
      have eT : Z.take Z.length = Z := List.take_length
      clear zR k2
      cases hq : Z.any (anyIn K)
      ·rw [if_neg (by decide)]
       obtain ⟨k0, hk0⟩ : ∃ k0, K[0]'k3 = k0 := ⟨_, rfl⟩
       have hpl := @putS_length Z k0
       have hpm : (putS Z k0).length ≤ maxLen := Nat.le_trans hpl (Nat.le_trans (Nat.succ_le_succ s2) (by decide))
       (repeat' (first | (refine gA fun _ => ?_) | (refine fkI (fun hb => ?_) (fun hb => ?_) <;> (try simp only [ew, eT, hq, hk0] at hb)) | (simp only [go_sem, Nat.reduceLeDiff, Nat.reduceEqDiff, reduceIte, reduceCtorEq, Nat.reduceAdd, Nat.reduceMul, Nat.reduceSub, Nat.reduceLT, Int.reduceLT, Int.reduceLE, Int.reduceNeg, Int.reduceToNat, Nat.reduceBEq, Nat.reduceBNe, Int.reduceGE, Int.reduceGT, *, cSyn, cAreDeps, cCvr, cPut, cKeys, cMaxS, Tryz.results29, eT, hq, hk0])))
      ·rw [if_pos rfl]
       (repeat' (first | (refine gA fun _ => ?_) | (refine fkI (fun hb => ?_) (fun hb => ?_) <;> (try simp only [ew, eT, hq] at hb)) | (simp only [go_sem, Nat.reduceLeDiff, Nat.reduceEqDiff, reduceIte, reduceCtorEq, Nat.reduceAdd, Nat.reduceMul, Nat.reduceSub, Nat.reduceLT, Int.reduceLT, Int.reduceLE, Int.reduceNeg, Int.reduceToNat, Nat.reduceBEq, Nat.reduceBNe, Int.reduceGE, Int.reduceGT, *, cSyn, cAreDeps, cCvr, cPut, cKeys, cMaxS, Tryz.results29, eT, hq])))
end Go.Own
namespace Go.Own
open Go Go.Proofs
attribute [local go_sem] unD_dL dL_length dL_get dL_set dL_inj wfD_dL scal2 beq2 pair_eta dL_scal
section
variable {p : Int → Int → Bool} {n : Nat} {r : Int}
end
end Go.Own
namespace Go.Own
open Go Go.Proofs
attribute [local go_sem] unD_dL dL_length dL_get dL_set dL_inj wfD_dL scal2 beq2 pair_eta dL_scal
def sc1 (ds : List (Int × Int)) (set : Int) (d : Int × Int) : Int := bitI .and .i64 set (clo ds d.1)
def sc2 (ds : List (Int × Int)) (set : Int) (d : Int × Int) : Int := bitI .or .i64 d.1 (bitI .andNot .i64 set (clo ds d.1))
theorem and_comm_key : ∀ x y : Fin 32, bitI .and .i64 ((x.val : Nat) : Int) ((y.val : Nat) : Int) = bitI .and .i64 ((y.val : Nat) : Int) ((x.val : Nat) : Int) := by decide +kernel
theorem or_comm_key : ∀ x y : Fin 32, bitI .or .i64 ((x.val : Nat) : Int) ((y.val : Nat) : Int) = bitI .or .i64 ((y.val : Nat) : Int) ((x.val : Nat) : Int) := by decide +kernel
theorem andNot_and_key : ∀ s z : Fin 32, bitI .andNot .i64 ((s.val : Nat) : Int) (bitI .and .i64 ((s.val : Nat) : Int) ((z.val : Nat) : Int)) = bitI .andNot .i64 ((s.val : Nat) : Int) ((z.val : Nat) : Int) := by decide +kernel
theorem and_lt_key : ∀ s z : Fin 32, 0 ≤ bitI .and .i64 ((s.val : Nat) : Int) ((z.val : Nat) : Int) ∧ bitI .and .i64 ((s.val : Nat) : Int) ((z.val : Nat) : Int) ≤ ((s.val : Nat) : Int) ∧ (insB ((s.val : Nat) : Int) ((z.val : Nat) : Int) = false → bitI .and .i64 ((s.val : Nat) : Int) ((z.val : Nat) : Int) < ((s.val : Nat) : Int)) ∧ insB (bitI .and .i64 ((s.val : Nat) : Int) ((z.val : Nat) : Int)) ((s.val : Nat) : Int) = true := by decide +kernel
theorem andNot_key : ∀ s z : Fin 32, (0 ≤ bitI .andNot .i64 ((s.val : Nat) : Int) ((z.val : Nat) : Int) ∧ bitI .andNot .i64 ((s.val : Nat) : Int) ((z.val : Nat) : Int) ≤ 31) ∧ ∀ c : Fin 5, hasB (bitI .andNot .i64 ((s.val : Nat) : Int) ((z.val : Nat) : Int)) ((c.val : Nat) : Int) = (hasB ((s.val : Nat) : Int) ((c.val : Nat) : Int) && !hasB ((z.val : Nat) : Int) ((c.val : Nat) : Int)) := by decide +kernel
theorem or_has_key : ∀ x y : Fin 32, ∀ c : Fin 5, hasB (bitI .or .i64 ((x.val : Nat) : Int) ((y.val : Nat) : Int)) ((c.val : Nat) : Int) = (hasB ((x.val : Nat) : Int) ((c.val : Nat) : Int) || hasB ((y.val : Nat) : Int) ((c.val : Nat) : Int)) := by decide +kernel
theorem andc {x y : Int} (hx : R5 x) (hy : R5 y) : bitI .and .i64 x y = bitI .and .i64 y x := by
 obtain ⟨x, rfl⟩ := hx.fin; obtain ⟨y, rfl⟩ := hy.fin
 exact and_comm_key x y
theorem orc {x y : Int} (hx : R5 x) (hy : R5 y) : bitI .or .i64 x y = bitI .or .i64 y x := by
 obtain ⟨x, rfl⟩ := hx.fin; obtain ⟨y, rfl⟩ := hy.fin
 exact or_comm_key x y
theorem andNot_R {x y : Int} (hx : R5 x) (hy : R5 y) : R5 (bitI .andNot .i64 x y) := by
 obtain ⟨x, rfl⟩ := hx.fin; obtain ⟨y, rfl⟩ := hy.fin
 exact (andNot_key x y).1
theorem andNot_and {x y : Int} (hx : R5 x) (hy : R5 y) : bitI .andNot .i64 x (bitI .and .i64 y x) = bitI .andNot .i64 x y := by
 rw [andc hy hx]
 obtain ⟨x, rfl⟩ := hx.fin; obtain ⟨y, rfl⟩ := hy.fin
 exact andNot_and_key x y
theorem brk_facts {n : Int} {ds : List (Int × Int)} {set : Int} {d : Int × Int} (h : brk n ds set 0 = some d) : (depsOK n ds = true ∧ isAttr n set = true) ∧ depR d ∧ insB set (clo ds d.1) = false ∧ insB d.1 set = true ∧ hasB set d.2 = true ∧ hasB (clo ds d.1) d.2 = true ∧ hasB d.1 d.2 = false := by
 unfold brk at h
 have h1 := List.find?_some h
 have h2 := List.mem_of_find?_eq_some h
 have hR := (@pdL_facts n ds set).2.1 d h2
 unfold pdL at h2
 split at h2
 ·rename_i hv
  rw [Bool.and_eq_true] at hv
  unfold minDs at h2
  obtain ⟨_, _, m3, m4⟩ := minT_mem h2
  unfold pjB at m4
  simp only [Bool.and_eq_true] at m4
  unfold brB at h1
  simp only [Bool.and_eq_true, Bool.not_eq_true'] at h1
  exact ⟨hv, hR, h1.1, m4.1.1, m4.1.2, m4.2, m3⟩
 ·cases h2
theorem sc_facts {n : Int} {ds : List (Int × Int)} {set : Int} {d : Int × Int} (h : brk n ds set 0 = some d) : (0 ≤ sc1 ds set d ∧ sc1 ds set d < set ∧ insB (sc1 ds set d) set = true) ∧ 0 ≤ sc2 ds set d ∧ sc2 ds set d < set ∧ insB (sc2 ds set d) set = true := by
 obtain ⟨⟨v1, v2⟩, hR, b1, b2, b3, b4, b5⟩ := brk_facts h
 have hd := depsOK_R v1
 obtain ⟨_, _, s0, s31⟩ := isAttr_le v2
 have hs : R5 set := ⟨s0, s31⟩
 have hz := clo_R hd hR.1
 unfold sc1 sc2
 have hl := hR.1
 have hr := hR.2
 generalize clo ds d.1 = z at hz b1 b4
 constructor
 ·obtain ⟨x, rfl⟩ := hs.fin; obtain ⟨y, rfl⟩ := hz.fin
  obtain ⟨k1, k2, k3, k4⟩ := and_lt_key x y
  exact ⟨k1, k3 b1, k4⟩
 ·have hN := andNot_R hs hz
  have hO := or_R hl hN
  have hsub : leB (bitI .or .i64 d.1 (bitI .andNot .i64 set z)) set := by
   intro c hc
   have hl2 := (insB_iff hl hs).1 b2 c
   obtain ⟨x, hx⟩ := hs.fin; obtain ⟨y, hy⟩ := hz.fin; obtain ⟨w, hw⟩ := hl.fin; obtain ⟨q, hq⟩ := hN.fin
   have e1 := or_has_key w q c
   rw [← hw, ← hq] at e1
   have e2 := (andNot_key x y).2 c
   rw [← hx, ← hy] at e2
   rw [e1, e2] at hc
   simp only [Bool.or_eq_true, Bool.and_eq_true] at hc
   rcases hc with hc | hc
   ·exact hl2 hc
   ·exact hc.1
  have hne : bitI .or .i64 d.1 (bitI .andNot .i64 set z) ≠ set := by
   intro e
   obtain ⟨x, hx⟩ := hs.fin; obtain ⟨y, hy⟩ := hz.fin; obtain ⟨w, hw⟩ := hl.fin; obtain ⟨q, hq⟩ := hN.fin
   obtain ⟨c, hc⟩ := c5 hr
   have e1 := or_has_key w q c
   rw [← hw, ← hq, ← hc] at e1
   have e2 := (andNot_key x y).2 c
   rw [← hx, ← hy, ← hc] at e2
   rw [e, b3, b5, e2, b4] at e1
   simp at e1
  have h2 := (insB_iff hO hs).2 hsub
  have := ins_le hO hs h2
  exact ⟨hO.1, by omega, h2⟩
theorem sc_attr {n : Int} {ds : List (Int × Int)} {set : Int} {d : Int × Int} (h : brk n ds set 0 = some d) : isAttr n (sc1 ds set d) = true ∧ isAttr n (sc2 ds set d) = true := by
 obtain ⟨h1, h2⟩ := sc_facts h
 have hv := (brk_facts h).1.2
 simp only [isAttr, Bool.and_eq_true, inB_iff] at hv ⊢
 have h1' := h1.2.1
 have h2' := h2.2.1
 exact ⟨⟨hv.1, h1.1, by omega⟩, hv.1, h2.1, by omega⟩
def lvs (n : Int) (ds : List (Int × Int)) : Nat → Int → List Int
 | 0, set => [set]
 | f + 1, set => match brk n ds set 0 with
  | none => [set]
  | some d => lvs n ds f (sc1 ds set d) ++ lvs n ds f (sc2 ds set d)
def lvF (n : Int) (ds : List (Int × Int)) (set : Int) : List Int := lvs n ds set.toNat set
theorem brk_zero {n : Int} {ds : List (Int × Int)} {set : Int} (h : set ≤ 0) : brk n ds set 0 = none := by
 cases hb : brk n ds set 0 with
 | none => rfl
 | some d =>
  have := (sc_facts hb).1
  omega
theorem lvs_fuel {n : Int} {ds : List (Int × Int)} : ∀ {f g : Nat} {set : Int}, set.toNat ≤ f → set.toNat ≤ g → lvs n ds f set = lvs n ds g set
 | 0, 0, set, _, _ => rfl
 | 0, g + 1, set, h, _ => by rw [lvs, lvs, brk_zero (by omega)]
 | f + 1, 0, set, _, h => by rw [lvs, lvs, brk_zero (by omega)]
 | f + 1, g + 1, set, h1, h2 => by
  rw [lvs, lvs]
  cases hb : brk n ds set 0 with
  | none => rfl
  | some d =>
   have := sc_facts hb
   dsimp only
   rw [lvs_fuel (f := f) (g := g) (by omega) (by omega), lvs_fuel (f := f) (g := g) (set := sc2 ds set d) (by omega) (by omega)]
theorem lvF_none {n : Int} {ds : List (Int × Int)} {set : Int} (h : brk n ds set 0 = none) : lvF n ds set = [set] := by
 unfold lvF
 cases set.toNat with
 | zero => rfl
 | succ f => rw [lvs, h]
theorem lvF_some {n : Int} {ds : List (Int × Int)} {set : Int} {d : Int × Int} (h : brk n ds set 0 = some d) : lvF n ds set = lvF n ds (sc1 ds set d) ++ lvF n ds (sc2 ds set d) := by
 have := sc_facts h
 unfold lvF
 rw [lvs_fuel (f := set.toNat) (g := set.toNat + 1) (by omega) (by omega), lvs, h]
 dsimp only
 rw [lvs_fuel (f := set.toNat) (g := (sc1 ds set d).toNat) (by omega) (by omega), lvs_fuel (f := set.toNat) (g := (sc2 ds set d).toNat) (by omega) (by omega)]
def decF (n : Int) (ds : List (Int × Int)) : List Int := if depsOK n ds then selS maxT1 (dstI (lvF n ds (all2 n))) else []
theorem sorted_len : ∀ {l : List Int} {a b : Int}, l.Pairwise (· < ·) → (∀ x ∈ l, a ≤ x ∧ x ≤ b) → (l.length : Int) ≤ max 0 (b + 1 - a)
 | [], a, b, _, _ => by simp; omega
 | x :: l, a, b, h, hx => by
  rw [List.pairwise_cons] at h
  have h1 := hx x (by simp)
  have ih := sorted_len (l := l) (a := x + 1) (b := b) h.2 fun y hy => by
   have h2 := h.1 y hy
   have h3 := hx y (by simp [hy])
   omega
  rw [List.length_cons]
  omega
def srt5 (l : List Int) : Prop := l.Pairwise (· < ·) ∧ ∀ x ∈ l, R5 x
theorem srt5_len {l : List Int} (h : srt5 l) : l.length ≤ 32 := by
 have := sorted_len (a := 0) (b := 31) h.1 fun x hx => h.2 x hx
 omega
theorem srt5_put {l : List Int} {x : Int} (h : srt5 l) (hx : R5 x) : srt5 (putS l x) := by
 refine ⟨putS_sorted h.1, fun z hz => ?_⟩
 rcases putS_mem.1 hz with rfl | hz
 ·exact hx
 ·exact h.2 z hz
theorem srt5_foldl : ∀ {xs l : List Int}, srt5 l → (∀ x ∈ xs, R5 x) → srt5 (xs.foldl putS l)
 | [], l, h, _ => h
 | x :: xs, l, h, hx => srt5_foldl (xs := xs) (srt5_put h (hx x (by simp))) fun y hy => hx y (by simp [hy])
theorem lvs_R {n : Int} {ds : List (Int × Int)} : ∀ {f : Nat} {set : Int}, R5 set → ∀ x ∈ lvs n ds f set, R5 x
 | 0, set, h, x, hx => by rw [lvs, List.mem_singleton] at hx; rw [hx]; exact h
 | f + 1, set, h, x, hx => by
  rw [lvs] at hx
  cases hb : brk n ds set 0 with
  | none => rw [hb] at hx; rw [List.mem_singleton] at hx; rw [hx]; exact h
  | some d =>
   rw [hb] at hx
   have hf := sc_facts hb
   have h' : 0 ≤ set ∧ set ≤ 31 := h
   rcases List.mem_append.1 hx with hx | hx
   ·exact lvs_R (f := f) ⟨hf.1.1, by omega⟩ x hx
   ·exact lvs_R (f := f) ⟨hf.2.1, by omega⟩ x hx
def cSplitK (k : Nat) : Contract := ⟨[false, false, false, true], true, fun
 | [.one (.v (.int .i64 n)), .one (.sl 2 l), .one (.v (.int .i64 set)), .arr 1 out _] => some (WfD l ∧ depsOK n (unD l) = true ∧ isAttr n set = true ∧ set.toNat < k ∧ WfI out ∧ srt5 (unI out), [⟨false, [.own 1 (iL ((lvF n (unD l) set).foldl putS (unI out))) 1]⟩], [.gone])
 | _ => none⟩
theorem splitK_step {k : Nat} (ih : ContractOK E0 89 (cSplitK k)) : ContractOK E0 89 (cSplitK (k + 1)) := by
 refine contract_of_wpcL (E := E0) (T := mkT Tryz.prog [(89, (cSplitK k)), (98, cBad), (86, cPut), (102, cClo)] false (fun _ => false) false (fun _ => false)) (mkT_ok (E := E0) (.cons ih (.cons bad_ok (.cons put_ok (.cons cloSpec_ok .nil))))) rfl (fn := Tryz.f89) Tryz.func89 (by kernel_rfl) rfl mixedT (by kernel_rfl) rfl (Nat.le_of_ble_eq_true rfl) ?_
 intro args p rs ms hr
 unfold cSplitK at hr
 dsimp only at hr
 split at hr
 rotate_left
 ·cases hr
 rename_i n l set out dp
 simp only [Option.some.injEq, Prod.mk.injEq] at hr
 obtain ⟨rfl, rfl, rfl⟩ := hr
 refine ⟨_, [.one (.v (.int .i64 n)), .one (.sl 2 l), .one (.v (.int .i64 set))], rfl, by simp, rfl, rfl, rfl, rfl, Nat.le_of_ble_eq_true rfl, ?_⟩
 have hm : maxLen = 9223372036854775807 := rfl
 rintro ⟨h1, hv1, hv2, hk, h4, h5⟩ bs
 obtain ⟨ds, rfl, hx⟩ := h1.ex
 obtain ⟨os, rfl, hy⟩ := h4.ex
 clear h1 h4
 rw [unI_iL] at h5 ⊢
 rw [unD_dL] at hv1 ⊢
 obtain ⟨n0, n5, s0, s31⟩ := isAttr_le hv2
 have o32 := srt5_len h5
 have omx : os.length ≤ maxLen := Nat.le_trans o32 (by decide)
 cases hb : brk n ds set 0 with
 | none =>
  have e1 : (brk n ds set 0).isSome = false := by rw [hb]; rfl
  have e2 := lvF_none hb
  rw [e2]
  clear e2 hv1 hv2
  have e3 : [set].foldl putS os = putS os set := rfl
  rw [e3]
  clear e3
  (repeat' (first | (refine gA fun _ => ?_) | (refine fkI (fun hb => ?_) (fun hb => ?_) <;> (try simp only [ew, e1] at hb)) | (simp only [go_sem, Nat.reduceLeDiff, Nat.reduceEqDiff, reduceIte, reduceCtorEq, Nat.reduceAdd, Nat.reduceMul, Nat.reduceSub, Nat.reduceLT, Int.reduceLT, Int.reduceLE, Int.reduceNeg, Int.reduceToNat, Nat.reduceBEq, Nat.reduceBNe, Int.reduceGE, Int.reduceGT, *, cSplitK, cBad, cPut, cClo, Tryz.results89, e1])))
  all_goals first | rfl | skip
 | some d =>
  obtain ⟨_, ⟨⟨d0, d31⟩, r0, r4⟩, _⟩ := brk_facts hb
  obtain ⟨⟨p0, p1, _⟩, q0, q1, _⟩ := sc_facts hb
  obtain ⟨a1, a2⟩ := sc_attr hb
  have e1 : (brk n ds set 0).isSome = true := by rw [hb]; rfl
  have e4 : oDep (brk n ds set 0) = d := by rw [hb]; rfl
  have e2 := lvF_some hb
  rw [e2, List.foldl_append]
  clear e2
  have hd := depsOK_R hv1
  have hcl := clo_R hd (show R5 d.1 from ⟨d0, d31⟩)
  have hS : R5 set := ⟨s0, s31⟩
  have eA : bitI .and .i64 (clo ds d.1) set = sc1 ds set d := andc hcl hS
  have eB : bitI .or .i64 (bitI .andNot .i64 set (sc1 ds set d)) d.1 = sc2 ds set d := by
   unfold sc1 sc2
   rw [andc hS hcl, andNot_and hS hcl, orc (andNot_R hS hcl) ⟨d0, d31⟩]
  have z1 := srt5_foldl h5 (lvs_R (n := n) (ds := ds) (f := (sc1 ds set d).toNat) (set := sc1 ds set d) ⟨p0, by omega⟩)
  have z1l := srt5_len z1
  have z1m : ((lvF n ds (sc1 ds set d)).foldl putS os).length ≤ maxLen := Nat.le_trans z1l (by decide)
  clear z1l
  generalize hu1 : sc1 ds set d = u1 at *
  generalize hu2 : sc2 ds set d = u2 at *
  generalize hg : (lvF n ds u1).foldl putS os = os1 at z1m ⊢
  have z1' : srt5 os1 := by rw [← hg]; exact z1
  have t1 : u1.toNat < k := by omega
  have t2 : u2.toNat < k := by omega
  have t3 : u1 < (k : Int) := by omega
  have t4 : u2 < (k : Int) := by omega
  clear z1 hu1 hu2 hb
  (repeat' (first | (refine gA fun _ => ?_) | (refine fkI (fun hb => ?_) (fun hb => ?_) <;> (try simp only [ew, bits64, e1, e4, eA, eB, hg] at hb)) | (simp only [go_sem, Nat.reduceLeDiff, Nat.reduceEqDiff, reduceIte, reduceCtorEq, Nat.reduceAdd, Nat.reduceMul, Nat.reduceSub, Nat.reduceLT, Int.reduceLT, Int.reduceLE, Int.reduceNeg, Int.reduceToNat, Nat.reduceBEq, Nat.reduceBNe, Int.reduceGE, Int.reduceGT, *, cSplitK, cBad, cPut, cClo, Tryz.results89, bits64, e1, e4, eA, eB, hg])))
  all_goals first | rfl | skip
theorem splitK_ok : ∀ k, ContractOK E0 89 (cSplitK k) := by
 intro k
 induction k with
 | zero =>
  refine ⟨⟨Tryz.f89, Tryz.func89, by kernel_rfl, rfl⟩, ?_⟩
  intro args p rs ms hr hp
  exfalso
  unfold cSplitK at hr
  dsimp only at hr
  split at hr
  ·simp only [Option.some.injEq, Prod.mk.injEq] at hr
   obtain ⟨rfl, _, _⟩ := hr
   have := hp.2.2.2.1
   omega
  ·cases hr
 | succ k ih => exact splitK_step ih
def cSplit : Contract := ⟨[false, false, false, true], true, fun
 | [.one (.v (.int .i64 n)), .one (.sl 2 l), .one (.v (.int .i64 set)), .arr 1 out _] => some (WfD l ∧ depsOK n (unD l) = true ∧ isAttr n set = true ∧ WfI out ∧ srt5 (unI out), [⟨false, [.own 1 (iL ((lvF n (unD l) set).foldl putS (unI out))) 1]⟩], [.gone])
 | _ => none⟩
theorem split_ok : ContractOK E0 89 cSplit := by
 refine ⟨(splitK_ok 32).1, ?_⟩
 intro args p rs ms hr hp
 unfold cSplit at hr
 dsimp only at hr
 split at hr
 ·rename_i n l set out dp
  simp only [Option.some.injEq, Prod.mk.injEq] at hr
  obtain ⟨rfl, rfl, rfl⟩ := hr
  obtain ⟨h1, h2, h3, h4⟩ := hp
  have := isAttr_le h3
  exact (splitK_ok 32).2 _ _ _ _ rfl ⟨h1, h2, h3, by omega, h4⟩
 ·cases hr
def cDec : Contract := ⟨[], false, fun
 | [.one (.v (.int .i64 n)), .one (.sl 2 l)] => some (WfD l ∧ -9223372036854775808 ≤ n ∧ n ≤ 9223372036854775807, [⟨false, [.own 1 (iL (decF n (unD l))) 1]⟩], [])
 | _ => none⟩
theorem all2_attr {n : Int} (h : 1 ≤ n ∧ n ≤ 5) : isAttr n (all2 n) = true := by
 obtain ⟨c, rfl⟩ := Int.eq_ofNat_of_zero_le (show 0 ≤ n by omega)
 have : ∀ c : Fin 6, isAttr ((c.val : Nat) : Int) (all2 ((c.val : Nat) : Int)) = true := by decide +kernel
 exact this ⟨c, by omega⟩
theorem decS_ok : ContractOK E0 30 cDec := by
 refine cWpc (E := E0) (T := mkT Tryz.prog [(31, cAreDeps), (63, cAll2), (89, cSplit), (88, cMaxS)] false (fun _ => false) true (fun _ => false)) (mkT_ok (E := E0) (.cons areDepsS_ok (.cons all2_ok (.cons split_ok (.cons maxS_ok .nil))))) (fn := Tryz.f30) Tryz.func30 (by kernel_rfl) rfl mixedT (by kernel_rfl) rfl ?_
 intro args p rs ms hr
 unfold cDec at hr
 dsimp only at hr
 split at hr
 rotate_left
 ·cases hr
 rename_i n l
 simp only [Option.some.injEq, Prod.mk.injEq] at hr
 obtain ⟨rfl, rfl, rfl⟩ := hr
 refine ⟨rfl, rfl, Nat.le_of_ble_eq_true rfl, ?_⟩
 have hm : maxLen = 9223372036854775807 := rfl
 rintro ⟨h1, hn1, hn2⟩ bs
 obtain ⟨ds, rfl, hx⟩ := h1.ex
 clear h1
 rw [unD_dL]
 cases hv : depsOK n ds
 ·have e : decF n ds = [] := by unfold decF; rw [hv]; rfl
  rw [e]
  clear e
  (repeat' (first | (refine gA fun _ => ?_) | (refine fkI (fun hb => ?_) (fun hb => ?_) <;> (try simp only [ew, hv] at hb)) | (simp only [go_sem, Nat.reduceLeDiff, Nat.reduceEqDiff, reduceIte, reduceCtorEq, Nat.reduceAdd, Nat.reduceMul, Nat.reduceSub, Nat.reduceLT, Int.reduceLT, Int.reduceLE, Int.reduceNeg, Int.reduceToNat, Nat.reduceBEq, Nat.reduceBNe, Int.reduceGE, Int.reduceGT, *, cDec, cAreDeps, cAll2, cSplit, cMaxS, Tryz.results30, hv])))
  all_goals first | rfl | skip
 ·have e : decF n ds = selS maxT1 (dstI (lvF n ds (all2 n))) := by unfold decF; rw [hv]; rfl
  rw [e]
  clear e
  obtain ⟨n1, n5, _⟩ := deps_n hv
  have ha := all2_attr ⟨n1, n5⟩
  obtain ⟨_, _, s0, s31⟩ := isAttr_le ha
  have hz : srt5 (dstI (lvF n ds (all2 n))) := srt5_foldl ⟨.nil, by simp⟩ (lvs_R ⟨s0, s31⟩)
  have hl := srt5_len hz
  have hlm : (dstI (lvF n ds (all2 n))).length ≤ maxLen := Nat.le_trans hl (by decide)
  have e1 : (lvF n ds (all2 n)).foldl putS [] = dstI (lvF n ds (all2 n)) := rfl
  have e2 : srt5 ([] : List Int) := ⟨.nil, by simp⟩
  have e3 : unI [] = [] := rfl
  have e4 : (iL [] : List (List D)) = [] := rfl
  have e5 : WfI ([] : List (List D)) := (wfI_iL (xs := [])).2 (Nat.zero_le _)
  clear hz
  generalize hZ : dstI (lvF n ds (all2 n)) = Z at hl hlm e1 ⊢
  generalize hA : all2 n = A at ha s0 s31 e1
  (repeat' (first | (refine gA fun _ => ?_) | (refine fkI (fun hb => ?_) (fun hb => ?_) <;> (try simp only [ew, hv, hA, e1, e3] at hb)) | (simp only [go_sem, Nat.reduceLeDiff, Nat.reduceEqDiff, reduceIte, reduceCtorEq, Nat.reduceAdd, Nat.reduceMul, Nat.reduceSub, Nat.reduceLT, Int.reduceLT, Int.reduceLE, Int.reduceNeg, Int.reduceToNat, Nat.reduceBEq, Nat.reduceBNe, Int.reduceGE, Int.reduceGT, *, cDec, cAreDeps, cAll2, cSplit, cMaxS, Tryz.results30, hv, hA, e1, e3])))
  all_goals first | rfl | skip
end Go.Own
