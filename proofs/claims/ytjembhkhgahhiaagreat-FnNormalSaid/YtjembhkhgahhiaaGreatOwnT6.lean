/- Own contracts. Conditions: as each theorem states them. -/
import Derived.Test.YtjembhkhgahhiaaGreatOwnT7
import Derived.Test.YtjembhkhgahhiaaGreatOwnC5
import Derived.Test.YtjembhkhgahhiaaGreatOwnG12
import Derived.Test.YtjembhkhgahhiaaGreatOwnTb
set_option linter.unusedSimpArgs false
set_option linter.unusedVariables false
set_option maxRecDepth 20000
set_option maxHeartbeats 2000000
namespace Go.Own
open Go Go.Proofs
attribute [local go_sem] unD_dL dL_length dL_get dL_set dL_inj wfD_dL scal2 beq2 pair_eta
def cChase : Contract := ⟨[], false, fun
 | [.one (.v (.int .i64 n)), .one (.sl 2 l), .one (.sl 1 p)] => some (WfD l ∧ WfI p ∧ -9223372036854775808 ≤ n ∧ n ≤ 9223372036854775807,
   [⟨false, [.own 1 (sL (chF n (unD l) (unI p))) 1]⟩], [])
 | _ => none⟩
theorem small_rows {rs : List (List Int)} (h : ∀ r ∈ rs, r.length ≤ 5) : (∀ r ∈ rs, r.length ≤ maxLen) ∧ ∀ r ∈ rs, r.length ≤ 16777216 := ⟨fun r hr => Nat.le_trans (h r hr) (by decide), fun r hr => Nat.le_trans (h r hr) (by decide)⟩
theorem csOut_small {n : Int} {ds : List (Int × Int)} {rs y : List (List Int)} (hs : csStep n ds rs = some y) (h1 : rs.length ≤ 10) (h2 : ∀ r ∈ rs, r.length ≤ 5) : csOut n ds rs = y ∧ y.length ≤ 10 ∧ ∀ r ∈ y, r.length ≤ 5 := by
 have e : csOut n ds rs = y := by unfold csOut; rw [hs]; rfl
 obtain ⟨p1, p2, p3⟩ := lens_facts (e ▸ @csOut_lens n ds rs)
 exact ⟨e, by omega, p3 _ h2⟩
theorem chEnd_ok : ContractOK E0 45 cChase := by
 refine contract_of_wpc (E := E0) (T := mkT Tryz.prog [(23, cCS), (18, cStep)] false (fun _ => false) true (fun _ => false)) (mkT_ok (E := E0) (.cons csI_ok (.cons chStepI_ok .nil))) (fn := Tryz.f45) Tryz.func45 (by kernel_rfl) rfl mixedT (by kernel_rfl) rfl ?_
 intro args p rs ms hr
 unfold cChase at hr
 dsimp only at hr
 split at hr
 rotate_left
 ·cases hr
 rename_i n l p
 simp only [Option.some.injEq, Prod.mk.injEq] at hr
 obtain ⟨rfl, rfl, rfl⟩ := hr
 refine ⟨rfl, rfl, Nat.le_of_ble_eq_true rfl, ?_⟩
 have hm : maxLen = 9223372036854775807 := rfl
 rintro ⟨h1, h2, hn1, hn2⟩ bs
 obtain ⟨ds, rfl, hx⟩ := h1.ex
 obtain ⟨ps, rfl, hy⟩ := h2.ex
 clear h1 h2
 rw [unD_dL, unI_iL]
 obtain ⟨q1, q2, q3⟩ := @csF_facts n ps
 have m0 := @muC_start n ps
 unfold chF
 (repeat' (first | (refine gate_a fun _ => ?_) | (refine fork_intro (fun hb => ?_) (fun hb => ?_) <;> (try simp only [ew] at hb)) | (simp only [go_sem, Nat.reduceLeDiff, Nat.reduceEqDiff, reduceIte, reduceCtorEq, Nat.reduceAdd, Nat.reduceMul, Nat.reduceSub, Nat.reduceLT, Int.reduceLT, Int.reduceLE, Int.reduceNeg, Int.reduceToNat, Nat.reduceBEq, Nat.reduceBNe, Int.reduceGE, Int.reduceGT, *, cChase, cCS, cStep, Tryz.results45])))
 generalize hF : chN n ds 200 (csF n ps) = F
 refine loop_intro { ι := List (List Int), rs := [(6, 7), (8, 10), (13, 24)], mods := [(7, fun rs => .one (.own 1 (sL rs) 1))], boxes := [], arrs := [], ok := fun rs => (rs.length ≤ 10 ∧ ∀ r ∈ rs, r.length ≤ 5) ∧ muC rs ≤ 200 ∧ chN n ds 200 rs = F, mu := muC } rfl (csF n ps) ⟨⟨q1, q2⟩, by omega, hF⟩ ?_ fun rs hi => ?_
 ·(repeat' (first | (refine gate_a fun _ => ?_) | (refine fork_intro (fun hb => ?_) (fun hb => ?_) <;> (try simp only [ew] at hb)) | (simp only [go_sem, Nat.reduceLeDiff, Nat.reduceEqDiff, reduceIte, reduceCtorEq, Nat.reduceAdd, Nat.reduceMul, Nat.reduceSub, Nat.reduceLT, Int.reduceLT, Int.reduceLE, Int.reduceNeg, Int.reduceToNat, Nat.reduceBEq, Nat.reduceBNe, Int.reduceGE, Int.reduceGT, *, cChase, cCS, cStep, Tryz.results45])))
 ·dsimp only at rs hi
  obtain ⟨⟨k1, k2⟩, hm2, ht⟩ := hi
  clear hF q1 q2 q3 m0
  obtain ⟨k3, k4⟩ := small_rows k2
  cases hs : csStep n ds rs with
  | none =>
   have e2 : csOut n ds rs = rs := by unfold csOut; rw [hs]; rfl
   rw [chN_none hs] at ht
   subst ht
   clear k2
   (repeat' (first | (refine gate_a fun _ => ?_) | (refine fork_intro (fun hb => ?_) (fun hb => ?_) <;> (try simp only [ew, hs, e2] at hb)) | (simp only [go_sem, Nat.reduceLeDiff, Nat.reduceEqDiff, reduceIte, reduceCtorEq, Nat.reduceAdd, Nat.reduceMul, Nat.reduceSub, Nat.reduceLT, Int.reduceLT, Int.reduceLE, Int.reduceNeg, Int.reduceToNat, Nat.reduceBEq, Nat.reduceBNe, Int.reduceGE, Int.reduceGT, *, cChase, cCS, cStep, Tryz.results45, hs, e2])))
  | some y =>
   obtain ⟨e2, y1, y2⟩ := csOut_small hs k1 k2
   have hmu := csStep_mu hs
   rw [chN_some hs hm2] at ht
   clear k2
   (repeat' (first | (refine gate_a fun _ => ?_) | (refine fork_intro (fun hb => ?_) (fun hb => ?_) <;> (try simp only [ew, hs, e2] at hb)) | (simp only [go_sem, Nat.reduceLeDiff, Nat.reduceEqDiff, reduceIte, reduceCtorEq, Nat.reduceAdd, Nat.reduceMul, Nat.reduceSub, Nat.reduceLT, Int.reduceLT, Int.reduceLE, Int.reduceNeg, Int.reduceToNat, Nat.reduceBEq, Nat.reduceBNe, Int.reduceGE, Int.reduceGT, *, cChase, cCS, cStep, Tryz.results45, hs, e2])))
   refine loop_next y ⟨⟨y1, y2⟩, by omega, ht⟩ (by dsimp only; omega) ?_
   clear ht
   (repeat' (first | (refine gate_a fun _ => ?_) | (refine fork_intro (fun hb => ?_) (fun hb => ?_) <;> (try simp only [ew, hs, e2] at hb)) | (simp only [go_sem, Nat.reduceLeDiff, Nat.reduceEqDiff, reduceIte, reduceCtorEq, Nat.reduceAdd, Nat.reduceMul, Nat.reduceSub, Nat.reduceLT, Int.reduceLT, Int.reduceLE, Int.reduceNeg, Int.reduceToNat, Nat.reduceBEq, Nat.reduceBNe, Int.reduceGE, Int.reduceGT, *, cChase, cCS, cStep, Tryz.results45, hs, e2])))
def zeroR (n : Nat) : List Int := List.replicate n 0
def loB (n : Int) (ds : List (Int × Int)) (ps : List Int) : Bool := depsOK n ds && partsOK n ps && (chF n ds ps).any (fun r => r == zeroR n.toNat)
theorem repI {n : Nat} : List.replicate n [D.v (.int .i64 0)] = iL (zeroR n) := by simp [iL, zeroR]
theorem zeroR_length {n : Nat} : (zeroR n).length = n := by simp [zeroR]
theorem any_drop {α : Type} {xs : List α} {i : Nat} (h : i < xs.length) (d : α) (f : α → Bool) : (xs.drop i).any f = (f (xs.getD i d) || (xs.drop (i + 1)).any f) := by rw [drop_getD h d, List.any_cons]
def cLo : Contract := ⟨[], false, fun
 | [.one (.v (.int .i64 n)), .one (.sl 2 l), .one (.sl 1 p)] => some (WfD l ∧ WfI p ∧ -9223372036854775808 ≤ n ∧ n ≤ 9223372036854775807,
   [⟨false, [.d (.v (.bool (loB n (unD l) (unI p))))]⟩], [])
 | _ => none⟩
theorem loI_ok : ContractOK E0 7 cLo := by
 refine contract_of_wpc (E := E0) (T := mkT Tryz.prog [(43, cAreDeps), (44, cParts), (45, cChase), (46, cEqIntS)] false (fun _ => false) true (fun _ => false)) (mkT_ok (E := E0) (.cons areDepsI_ok (.cons partsI_ok (.cons chEnd_ok (.cons sameInts_ok .nil))))) (fn := Tryz.f7) Tryz.func7 (by kernel_rfl) rfl mixedT (by kernel_rfl) rfl ?_
 intro args p rs ms hr
 unfold cLo at hr
 dsimp only at hr
 split at hr
 rotate_left
 ·cases hr
 rename_i n l p
 simp only [Option.some.injEq, Prod.mk.injEq] at hr
 obtain ⟨rfl, rfl, rfl⟩ := hr
 refine ⟨rfl, rfl, Nat.le_of_ble_eq_true rfl, ?_⟩
 have hm : maxLen = 9223372036854775807 := rfl
 rintro ⟨h1, h2, hn1, hn2⟩ bs
 obtain ⟨ds, rfl, hx⟩ := h1.ex
 obtain ⟨ps, rfl, hy⟩ := h2.ex
 clear h1 h2
 rw [unD_dL, unI_iL]
 cases hv : (depsOK n ds && partsOK n ps)
 ·have e3 : (!depsOK n ds || !partsOK n ps) = true := by rw [← Bool.not_and, hv]; rfl
  have e : loB n ds ps = false := by unfold loB; rw [hv]; rfl
  rw [e]
  clear e hv
  (repeat' (first | (refine gate_a fun _ => ?_) | (refine fork_intro (fun hb => ?_) (fun hb => ?_) <;> (try simp only [ew, e3] at hb)) | (simp only [go_sem, Nat.reduceLeDiff, Nat.reduceEqDiff, reduceIte, reduceCtorEq, Nat.reduceAdd, Nat.reduceMul, Nat.reduceSub, Nat.reduceLT, Int.reduceLT, Int.reduceLE, Int.reduceNeg, Int.reduceToNat, Nat.reduceBEq, Nat.reduceBNe, Int.reduceGE, Int.reduceGT, *, cLo, cAreDeps, cParts, cChase, cEqIntS, Tryz.results7, e3])))
 ·have e3 : (!depsOK n ds || !partsOK n ps) = false := by rw [← Bool.not_and, hv]; rfl
  rw [Bool.and_eq_true] at hv
  obtain ⟨f1, f2, f3, f4⟩ := parts_facts hv.2
  obtain ⟨c, rfl⟩ := Int.eq_ofNat_of_zero_le (show 0 ≤ n by omega)
  have e : loB c ds ps = (chF c ds ps).any (fun r => r == zeroR c) := by unfold loB; rw [hv.1, hv.2]; rfl
  rw [e]
  obtain ⟨r1, r2, r3⟩ := @chF_facts c ds ps
  obtain ⟨k3, k4⟩ := small_rows r2
  clear e hv r2 r3
  (repeat' (first | (refine gate_a fun _ => ?_) | (refine fork_intro (fun hb => ?_) (fun hb => ?_) <;> (try simp only [ew, e3] at hb)) | (simp only [go_sem, Nat.reduceLeDiff, Nat.reduceEqDiff, reduceIte, reduceCtorEq, Nat.reduceAdd, Nat.reduceMul, Nat.reduceSub, Nat.reduceLT, Int.reduceLT, Int.reduceLE, Int.reduceNeg, Int.reduceToNat, Nat.reduceBEq, Nat.reduceBNe, Int.reduceGE, Int.reduceGT, *, cLo, cAreDeps, cParts, cChase, cEqIntS, Tryz.results7, e3])))
  clear e3
  generalize hR : chF c ds ps = rs at r1 k3 k4
  clear hR
  refine loop_intro { ι := Nat, rs := [(6, 7), (8, 9), (25, 33)], mods := [(24, fun i => .one (.d (.v (.int .i64 i))))], boxes := [], arrs := [(22, fun _ => (1, sL rs, 2))], ok := fun i => i ≤ rs.length ∧ (rs.drop i).any (fun r => r == zeroR c) = rs.any (fun r => r == zeroR c), mu := fun i => rs.length - i } rfl 0 ⟨Nat.zero_le _, rfl⟩ ?_ fun i hi => ?_
  ·(repeat' (first | (refine gate_a fun _ => ?_) | (refine fork_intro (fun hb => ?_) (fun hb => ?_) <;> (try simp only [ew] at hb)) | (simp only [go_sem, Nat.reduceLeDiff, Nat.reduceEqDiff, reduceIte, reduceCtorEq, Nat.reduceAdd, Nat.reduceMul, Nat.reduceSub, Nat.reduceLT, Int.reduceLT, Int.reduceLE, Int.reduceNeg, Int.reduceToNat, Nat.reduceBEq, Nat.reduceBNe, Int.reduceGE, Int.reduceGT, *, cLo, cAreDeps, cParts, cChase, cEqIntS, Tryz.results7])))
  ·dsimp only at i hi
   obtain ⟨hi, ht⟩ := hi
   have hri := all_getD k3 i
   by_cases h5 : i < rs.length
   ·rw [any_drop h5 [] _] at ht
    cases hq : ((rs.getD i []) == zeroR c)
    ·rw [hq, Bool.false_or] at ht
     (repeat' (first | (refine gate_a fun _ => ?_) | (refine fork_intro (fun hb => ?_) (fun hb => ?_) <;> (try simp only [ew, hq, repI, zeroR_length] at hb)) | (simp only [go_sem, Nat.reduceLeDiff, Nat.reduceEqDiff, reduceIte, reduceCtorEq, Nat.reduceAdd, Nat.reduceMul, Nat.reduceSub, Nat.reduceLT, Int.reduceLT, Int.reduceLE, Int.reduceNeg, Int.reduceToNat, Nat.reduceBEq, Nat.reduceBNe, Int.reduceGE, Int.reduceGT, *, cLo, cAreDeps, cParts, cChase, cEqIntS, Tryz.results7, hq, repI, zeroR_length])))
     refine loop_next (i + 1) ⟨by omega, ht⟩ (by dsimp only; omega) ?_
     clear ht
     (repeat' (first | (refine gate_a fun _ => ?_) | (refine fork_intro (fun hb => ?_) (fun hb => ?_) <;> (try simp only [ew, hq, repI, zeroR_length] at hb)) | (simp only [go_sem, Nat.reduceLeDiff, Nat.reduceEqDiff, reduceIte, reduceCtorEq, Nat.reduceAdd, Nat.reduceMul, Nat.reduceSub, Nat.reduceLT, Int.reduceLT, Int.reduceLE, Int.reduceNeg, Int.reduceToNat, Nat.reduceBEq, Nat.reduceBNe, Int.reduceGE, Int.reduceGT, *, cLo, cAreDeps, cParts, cChase, cEqIntS, Tryz.results7, hq, repI, zeroR_length])))
    ·rw [hq, Bool.true_or] at ht
     rw [← ht]
     clear ht
     (repeat' (first | (refine gate_a fun _ => ?_) | (refine fork_intro (fun hb => ?_) (fun hb => ?_) <;> (try simp only [ew, hq, repI, zeroR_length] at hb)) | (simp only [go_sem, Nat.reduceLeDiff, Nat.reduceEqDiff, reduceIte, reduceCtorEq, Nat.reduceAdd, Nat.reduceMul, Nat.reduceSub, Nat.reduceLT, Int.reduceLT, Int.reduceLE, Int.reduceNeg, Int.reduceToNat, Nat.reduceBEq, Nat.reduceBNe, Int.reduceGE, Int.reduceGT, *, cLo, cAreDeps, cParts, cChase, cEqIntS, Tryz.results7, hq, repI, zeroR_length])))
   ·have e5 : i = rs.length := by omega
    subst e5
    rw [List.drop_length, List.any_nil] at ht
    rw [← ht]
    clear ht
    (repeat' (first | (refine gate_a fun _ => ?_) | (refine fork_intro (fun hb => ?_) (fun hb => ?_) <;> (try simp only [ew] at hb)) | (simp only [go_sem, Nat.reduceLeDiff, Nat.reduceEqDiff, reduceIte, reduceCtorEq, Nat.reduceAdd, Nat.reduceMul, Nat.reduceSub, Nat.reduceLT, Int.reduceLT, Int.reduceLE, Int.reduceNeg, Int.reduceToNat, Nat.reduceBEq, Nat.reduceBNe, Int.reduceGE, Int.reduceGT, *, cLo, cAreDeps, cParts, cChase, cEqIntS, Tryz.results7])))
end Go.Own
namespace Go.Own
open Go Go.Proofs
attribute [local go_sem] unD_dL dL_length dL_get dL_set dL_inj wfD_dL scal2 beq2 pair_eta
end Go.Own
namespace Go.Own
open Go Go.Proofs
attribute [local go_sem] unD_dL dL_length dL_get dL_set dL_inj wfD_dL scal2 beq2 pair_eta dL_scal
def cHasD : Contract := ⟨[], false, fun
 | [.one (.sl 2 l), .agg [.v (.int .i64 a), .v (.int .i64 b)]] => some (WfD l, [⟨false, [.d (.v (.bool ((unD l).any fun e => e == (a, b))))]⟩], [])
 | _ => none⟩
theorem hasD_ok : ContractOK E0 94 cHasD := by
 refine contract_of_wpc (E := E0) (T := mkT Tryz.prog [] false (fun _ => false) true (fun _ => false)) (mkT_ok (E := E0) .nil) (fn := Tryz.f94) Tryz.func94 (by kernel_rfl) rfl mixedT (by kernel_rfl) rfl ?_
 intro args p rs ms hr
 unfold cHasD at hr
 dsimp only at hr
 split at hr
 rotate_left
 ·cases hr
 rename_i l a b
 simp only [Option.some.injEq, Prod.mk.injEq] at hr
 obtain ⟨rfl, rfl, rfl⟩ := hr
 refine ⟨rfl, rfl, Nat.le_of_ble_eq_true rfl, ?_⟩
 have hm : maxLen = 9223372036854775807 := rfl
 intro h1 bs
 obtain ⟨ds, rfl, hx⟩ := h1.ex
 clear h1
 rw [unD_dL]
 (repeat' (first | (refine gate_a fun _ => ?_) | (refine fork_intro (fun hb => ?_) (fun hb => ?_) <;> (try simp only [ew] at hb)) | (simp only [go_sem, Nat.reduceLeDiff, Nat.reduceEqDiff, reduceIte, reduceCtorEq, Nat.reduceAdd, Nat.reduceMul, Nat.reduceSub, Nat.reduceLT, Int.reduceLT, Int.reduceLE, Int.reduceNeg, Int.reduceToNat, Nat.reduceBEq, Nat.reduceBNe, Int.reduceGE, Int.reduceGT, *, cHasD, Tryz.results94])))
 refine loop_intro { ι := Nat, rs := [(4, 5), (6, 7), (10, 17)], mods := [(9, fun i => .one (.d (.v (.int .i64 i))))], boxes := [(3, fun _ => [.d (.v (.int .i64 a)), .d (.v (.int .i64 b))])], arrs := [], ok := fun i => i ≤ ds.length ∧ (ds.drop i).any (fun e => e == (a, b)) = ds.any (fun e => e == (a, b)), mu := fun i => ds.length - i } rfl 0 ⟨Nat.zero_le _, rfl⟩ ?_ fun i hi => ?_
 ·(repeat' (first | (refine gate_a fun _ => ?_) | (refine fork_intro (fun hb => ?_) (fun hb => ?_) <;> (try simp only [ew] at hb)) | (simp only [go_sem, Nat.reduceLeDiff, Nat.reduceEqDiff, reduceIte, reduceCtorEq, Nat.reduceAdd, Nat.reduceMul, Nat.reduceSub, Nat.reduceLT, Int.reduceLT, Int.reduceLE, Int.reduceNeg, Int.reduceToNat, Nat.reduceBEq, Nat.reduceBNe, Int.reduceGE, Int.reduceGT, *, cHasD, Tryz.results94])))
 ·dsimp only at i hi
  obtain ⟨hi, ht⟩ := hi
  by_cases h5 : i < ds.length
  ·rw [anyb_drop h5 (0, 0)] at ht
   cases hq : (ds.getD i (0, 0) == (a, b))
   ·rw [hq, Bool.false_or] at ht
    (repeat' (first | (refine gate_a fun _ => ?_) | (refine fork_intro (fun hb => ?_) (fun hb => ?_) <;> (try simp only [ew, hq] at hb)) | (simp only [go_sem, Nat.reduceLeDiff, Nat.reduceEqDiff, reduceIte, reduceCtorEq, Nat.reduceAdd, Nat.reduceMul, Nat.reduceSub, Nat.reduceLT, Int.reduceLT, Int.reduceLE, Int.reduceNeg, Int.reduceToNat, Nat.reduceBEq, Nat.reduceBNe, Int.reduceGE, Int.reduceGT, *, cHasD, Tryz.results94, hq])))
    refine loop_next (i + 1) ⟨by omega, ht⟩ (by dsimp only; omega) ?_
    clear ht
    (repeat' (first | (refine gate_a fun _ => ?_) | (refine fork_intro (fun hb => ?_) (fun hb => ?_) <;> (try simp only [ew, hq] at hb)) | (simp only [go_sem, Nat.reduceLeDiff, Nat.reduceEqDiff, reduceIte, reduceCtorEq, Nat.reduceAdd, Nat.reduceMul, Nat.reduceSub, Nat.reduceLT, Int.reduceLT, Int.reduceLE, Int.reduceNeg, Int.reduceToNat, Nat.reduceBEq, Nat.reduceBNe, Int.reduceGE, Int.reduceGT, *, cHasD, Tryz.results94, hq])))
   ·rw [hq, Bool.true_or] at ht
    rw [← ht]
    clear ht
    (repeat' (first | (refine gate_a fun _ => ?_) | (refine fork_intro (fun hb => ?_) (fun hb => ?_) <;> (try simp only [ew, hq] at hb)) | (simp only [go_sem, Nat.reduceLeDiff, Nat.reduceEqDiff, reduceIte, reduceCtorEq, Nat.reduceAdd, Nat.reduceMul, Nat.reduceSub, Nat.reduceLT, Int.reduceLT, Int.reduceLE, Int.reduceNeg, Int.reduceToNat, Nat.reduceBEq, Nat.reduceBNe, Int.reduceGE, Int.reduceGT, *, cHasD, Tryz.results94, hq])))
  ·have e5 : i = ds.length := by omega
   subst e5
   rw [List.drop_length, List.any_nil] at ht
   rw [← ht]
   clear ht
   (repeat' (first | (refine gate_a fun _ => ?_) | (refine fork_intro (fun hb => ?_) (fun hb => ?_) <;> (try simp only [ew] at hb)) | (simp only [go_sem, Nat.reduceLeDiff, Nat.reduceEqDiff, reduceIte, reduceCtorEq, Nat.reduceAdd, Nat.reduceMul, Nat.reduceSub, Nat.reduceLT, Int.reduceLT, Int.reduceLE, Int.reduceNeg, Int.reduceToNat, Nat.reduceBEq, Nat.reduceBNe, Int.reduceGE, Int.reduceGT, *, cHasD, Tryz.results94])))
theorem clo_congr {A B : List (Int × Int)} {x : Int} (hA : ∀ d ∈ A, depR d) (h : ∀ d, d ∈ A ↔ d ∈ B) (hx : R5 x) : clo A x = clo B x := by
 have hB : ∀ d ∈ B, depR d := fun d hd => hA d ((h d).2 hd)
 refine clo_eq hB hx (clo_R hA hx) (clo_le hA hx) (clo_under hA hx (clo_R hB hx) (clo_le hB hx) ?_) ?_
 ·intro d hd hi
  exact clo_closed hB hx d ((h d).1 hd) hi
 ·intro d hd hi
  exact clo_closed hA hx d ((h d).2 hd) hi
def kpL (n : Int) (ds : List (Int × Int)) (ps : List Int) : List (Int × Int) := ps.flatMap (pdL n ds)
def prsB (n : Int) (ds : List (Int × Int)) (ps : List Int) : Bool := depsOK n ds && (ps.all (isAttr n) && ds.all fun d => hasB (clo (kpL n ds ps) d.1) d.2)
theorem kpL_take {n : Int} {ds : List (Int × Int)} {ps : List Int} {i : Nat} (h : i < ps.length) : kpL n ds (ps.take (i + 1)) = kpL n ds (ps.take i) ++ pdL n ds (ps.getD i 0) := by
 unfold kpL; rw [take_succ_getD h 0, List.flatMap_append]; simp
theorem kpL_length {n : Int} {ds : List (Int × Int)} : ∀ {ps : List Int}, (kpL n ds ps).length ≤ 160 * ps.length
 | [] => Nat.zero_le _
 | p :: ps => by
  have h1 := @kpL_length n ds ps
  have h2 := (@pdL_facts n ds p).1
  unfold kpL at *
  rw [List.flatMap_cons, List.length_append, List.length_cons]; omega
theorem kpL_R {n : Int} {ds : List (Int × Int)} {ps : List Int} : ∀ d ∈ kpL n ds ps, depR d := by
 intro d hd
 unfold kpL at hd
 obtain ⟨p, _, hp⟩ := List.mem_flatMap.1 hd
 exact (@pdL_facts n ds p).2.1 d hp
def cPrs : Contract := ⟨[], false, fun
 | [.one (.v (.int .i64 n)), .one (.sl 2 l), .one (.sl 1 p)] => some (WfD l ∧ WfI p ∧ p.length ≤ 16777216 ∧ -9223372036854775808 ≤ n ∧ n ≤ 9223372036854775807, [⟨false, [.d (.v (.bool (prsB n (unD l) (unI p))))]⟩], [])
 | _ => none⟩
theorem prsS_ok : ContractOK E0 39 cPrs := by
 refine contract_of_wpc (E := E0) (T := mkT Tryz.prog [(31, cAreDeps), (59, cIsAttr), (101, cPd), (102, cClo)] false (fun _ => false) true (fun _ => false)) (mkT_ok (E := E0) (.cons areDepsS_ok (.cons isAttrS_ok (.cons pdS_ok (.cons cloSpec_ok .nil))))) (fn := Tryz.f39) Tryz.func39 (by kernel_rfl) rfl mixedT (by kernel_rfl) rfl ?_
 intro args p rs ms hr
 unfold cPrs at hr
 dsimp only at hr
 split at hr
 rotate_left
 ·cases hr
 rename_i n l p
 simp only [Option.some.injEq, Prod.mk.injEq] at hr
 obtain ⟨rfl, rfl, rfl⟩ := hr
 refine ⟨rfl, rfl, Nat.le_of_ble_eq_true rfl, ?_⟩
 have hm : maxLen = 9223372036854775807 := rfl
 rintro ⟨h1, h2, h3, hn1, hn2⟩ bs
 obtain ⟨ds, rfl, hx⟩ := h1.ex
 obtain ⟨ps, rfl, hy⟩ := h2.ex
 clear h1 h2
 rw [unD_dL, unI_iL]
 rw [iL_length] at h3
 cases hv : depsOK n ds
 ·have e : prsB n ds ps = false := by unfold prsB; rw [hv]; rfl
  rw [e]
  clear e
  (repeat' (first | (refine gate_a fun _ => ?_) | (refine fork_intro (fun hb => ?_) (fun hb => ?_) <;> (try simp only [ew] at hb)) | (simp only [go_sem, Nat.reduceLeDiff, Nat.reduceEqDiff, reduceIte, reduceCtorEq, Nat.reduceAdd, Nat.reduceMul, Nat.reduceSub, Nat.reduceLT, Int.reduceLT, Int.reduceLE, Int.reduceNeg, Int.reduceToNat, Nat.reduceBEq, Nat.reduceBNe, Int.reduceGE, Int.reduceGT, *, cPrs, cAreDeps, cIsAttr, cPd, cClo, Tryz.results39])))
 ·have e : prsB n ds ps = (ps.all (isAttr n) && ds.all fun d => hasB (clo (kpL n ds ps) d.1) d.2) := by unfold prsB; rw [hv, Bool.true_and]
  rw [e]
  clear e
  have hd := depsOK_R hv
  have e0 : kpL n ds (ps.take 0) = [] := rfl
  (repeat' (first | (refine gate_a fun _ => ?_) | (refine fork_intro (fun hb => ?_) (fun hb => ?_) <;> (try simp only [ew] at hb)) | (simp only [go_sem, Nat.reduceLeDiff, Nat.reduceEqDiff, reduceIte, reduceCtorEq, Nat.reduceAdd, Nat.reduceMul, Nat.reduceSub, Nat.reduceLT, Int.reduceLT, Int.reduceLE, Int.reduceNeg, Int.reduceToNat, Nat.reduceBEq, Nat.reduceBNe, Int.reduceGE, Int.reduceGT, *, cPrs, cAreDeps, cIsAttr, cPd, cClo, Tryz.results39])))
  refine loop_intro { ι := Nat, rs := [(6, 7), (15, 37)], mods := [(8, fun i => .one (.d (.v (.int .i64 i)))), (7, fun i => .one (.own 2 (dL (kpL n ds (ps.take i))) 1))], boxes := [], arrs := [], ok := fun i => i ≤ ps.length ∧ (ps.drop i).all (isAttr n) = ps.all (isAttr n), mu := fun i => ps.length - i } rfl 0 ⟨Nat.zero_le _, rfl⟩ ?_ fun i hi => ?_
  ·(repeat' (first | (refine gate_a fun _ => ?_) | (refine fork_intro (fun hb => ?_) (fun hb => ?_) <;> (try simp only [ew] at hb)) | (simp only [go_sem, Nat.reduceLeDiff, Nat.reduceEqDiff, reduceIte, reduceCtorEq, Nat.reduceAdd, Nat.reduceMul, Nat.reduceSub, Nat.reduceLT, Int.reduceLT, Int.reduceLE, Int.reduceNeg, Int.reduceToNat, Nat.reduceBEq, Nat.reduceBNe, Int.reduceGE, Int.reduceGT, *, cPrs, cAreDeps, cIsAttr, cPd, cClo, Tryz.results39])))
   all_goals first | rfl | skip
  ·dsimp only at i hi
   obtain ⟨hi, ht⟩ := hi
   have k1 := @kpL_length n ds (ps.take i)
   rw [List.length_take] at k1
   have k2 : (kpL n ds (ps.take i)).length ≤ 2684354560 := by omega
   clear k1
   by_cases h5 : i < ps.length
   ·rw [all_drop h5 0] at ht
    have eT := kpL_take (n := n) (ds := ds) h5
    have L1 := (@pdL_facts n ds (ps.getD i 0)).1
    have L1' : (pdL n ds (ps.getD i 0)).length ≤ maxLen := Nat.le_trans L1 (by decide)
    cases hq : isAttr n (ps.getD i 0)
    ·rw [hq, Bool.false_and] at ht
     rw [← ht, Bool.false_and]
     clear ht hd
     (repeat' (first | (refine gate_a fun _ => ?_) | (refine fork_intro (fun hb => ?_) (fun hb => ?_) <;> (try simp only [ew, hq] at hb)) | (simp only [go_sem, Nat.reduceLeDiff, Nat.reduceEqDiff, reduceIte, reduceCtorEq, Nat.reduceAdd, Nat.reduceMul, Nat.reduceSub, Nat.reduceLT, Int.reduceLT, Int.reduceLE, Int.reduceNeg, Int.reduceToNat, Nat.reduceBEq, Nat.reduceBNe, Int.reduceGE, Int.reduceGT, *, cPrs, cAreDeps, cIsAttr, cPd, cClo, Tryz.results39, hq])))
    ·rw [hq, Bool.true_and] at ht
     have eD : ∀ xs ys : List (Int × Int), dL xs ++ dL ys = dL (xs ++ ys) := fun xs ys => by simp [dL]
     (repeat' (first | (refine gate_a fun _ => ?_) | (refine fork_intro (fun hb => ?_) (fun hb => ?_) <;> (try simp only [ew, hq, eD] at hb)) | (simp only [go_sem, Nat.reduceLeDiff, Nat.reduceEqDiff, reduceIte, reduceCtorEq, Nat.reduceAdd, Nat.reduceMul, Nat.reduceSub, Nat.reduceLT, Int.reduceLT, Int.reduceLE, Int.reduceNeg, Int.reduceToNat, Nat.reduceBEq, Nat.reduceBNe, Int.reduceGE, Int.reduceGT, *, cPrs, cAreDeps, cIsAttr, cPd, cClo, Tryz.results39, hq, eD])))
     refine loop_next (i + 1) ⟨by omega, ht⟩ (by dsimp only; omega) ?_
     clear ht
     (repeat' (first | (refine gate_a fun _ => ?_) | (refine fork_intro (fun hb => ?_) (fun hb => ?_) <;> (try simp only [ew, hq, eD, eT] at hb)) | (simp only [go_sem, Nat.reduceLeDiff, Nat.reduceEqDiff, reduceIte, reduceCtorEq, Nat.reduceAdd, Nat.reduceMul, Nat.reduceSub, Nat.reduceLT, Int.reduceLT, Int.reduceLE, Int.reduceNeg, Int.reduceToNat, Nat.reduceBEq, Nat.reduceBNe, Int.reduceGE, Int.reduceGT, *, cPrs, cAreDeps, cIsAttr, cPd, cClo, Tryz.results39, hq, eD, eT])))
   ·have e5 : i = ps.length := by omega
    subst e5
    rw [List.drop_length, List.all_nil] at ht
    rw [← ht, Bool.true_and]
    rw [List.take_length] at k2
    have eP : ps.take ps.length = ps := List.take_length
    clear ht
    have hK := @kpL_R n ds ps
    have hK2 : (kpL n ds ps).length ≤ maxLen := Nat.le_trans k2 (by decide)
    (repeat' (first | (refine gate_a fun _ => ?_) | (refine fork_intro (fun hb => ?_) (fun hb => ?_) <;> (try simp only [ew, eP] at hb)) | (simp only [go_sem, Nat.reduceLeDiff, Nat.reduceEqDiff, reduceIte, reduceCtorEq, Nat.reduceAdd, Nat.reduceMul, Nat.reduceSub, Nat.reduceLT, Int.reduceLT, Int.reduceLE, Int.reduceNeg, Int.reduceToNat, Nat.reduceBEq, Nat.reduceBNe, Int.reduceGE, Int.reduceGT, *, cPrs, cAreDeps, cIsAttr, cPd, cClo, Tryz.results39, eP])))
    clear eP
    generalize hF : (ds.all fun d => hasB (clo (kpL n ds ps) d.1) d.2) = F
    generalize hk : kpL n ds ps = K at hK hK2 k2 hF
    refine loop_intro { ι := Nat, rs := [(6, 7), (37, 58)], mods := [(9, fun i => .one (.d (.v (.int .i64 i))))], boxes := [], arrs := [(7, fun _ => (2, dL K, 1))], ok := fun i => i ≤ ds.length ∧ (ds.drop i).all (fun d => hasB (clo K d.1) d.2) = F, mu := fun i => ds.length - i } rfl 0 ⟨Nat.zero_le _, hF⟩ ?_ fun j hj => ?_
    ·clear hF
     (repeat' (first | (refine gate_a fun _ => ?_) | (refine fork_intro (fun hb => ?_) (fun hb => ?_) <;> (try simp only [ew, hk] at hb)) | (simp only [go_sem, Nat.reduceLeDiff, Nat.reduceEqDiff, reduceIte, reduceCtorEq, Nat.reduceAdd, Nat.reduceMul, Nat.reduceSub, Nat.reduceLT, Int.reduceLT, Int.reduceLE, Int.reduceNeg, Int.reduceToNat, Nat.reduceBEq, Nat.reduceBNe, Int.reduceGE, Int.reduceGT, *, cPrs, cAreDeps, cIsAttr, cPd, cClo, Tryz.results39, hk])))
    ·dsimp only at j hj
     obtain ⟨hj, ht⟩ := hj
     clear hF hk
     by_cases h6 : j < ds.length
     ·rw [all_drop h6 (0, 0)] at ht
      obtain ⟨⟨d1, d2⟩, d3, d4⟩ := depR_at hd h6
      obtain ⟨c1, c2⟩ := clo_R hK ⟨d1, d2⟩
      have eh := has_eq0 (x := clo K (ds.getD j (0, 0)).1) (r := (ds.getD j (0, 0)).2) ⟨d3, d4⟩ ⟨c1, c2⟩
      cases hq : hasB (clo K (ds.getD j (0, 0)).1) (ds.getD j (0, 0)).2
      ·rw [hq, Bool.false_and] at ht
       subst ht
       rw [hq] at eh
       clear hd
       (repeat' (first | (refine gate_a fun _ => ?_) | (refine fork_intro (fun hb => ?_) (fun hb => ?_) <;> (try simp only [ew, bits64, eh] at hb)) | (simp only [go_sem, Nat.reduceLeDiff, Nat.reduceEqDiff, reduceIte, reduceCtorEq, Nat.reduceAdd, Nat.reduceMul, Nat.reduceSub, Nat.reduceLT, Int.reduceLT, Int.reduceLE, Int.reduceNeg, Int.reduceToNat, Nat.reduceBEq, Nat.reduceBNe, Int.reduceGE, Int.reduceGT, *, cPrs, cAreDeps, cIsAttr, cPd, cClo, Tryz.results39, bits64, eh])))
      ·rw [hq, Bool.true_and] at ht
       rw [hq] at eh
       clear hd
       (repeat' (first | (refine gate_a fun _ => ?_) | (refine fork_intro (fun hb => ?_) (fun hb => ?_) <;> (try simp only [ew, bits64, eh] at hb)) | (simp only [go_sem, Nat.reduceLeDiff, Nat.reduceEqDiff, reduceIte, reduceCtorEq, Nat.reduceAdd, Nat.reduceMul, Nat.reduceSub, Nat.reduceLT, Int.reduceLT, Int.reduceLE, Int.reduceNeg, Int.reduceToNat, Nat.reduceBEq, Nat.reduceBNe, Int.reduceGE, Int.reduceGT, *, cPrs, cAreDeps, cIsAttr, cPd, cClo, Tryz.results39, bits64, eh])))
       refine loop_next (j + 1) ⟨by omega, ht⟩ (by dsimp only; omega) ?_
       clear ht
       (repeat' (first | (refine gate_a fun _ => ?_) | (refine fork_intro (fun hb => ?_) (fun hb => ?_) <;> (try simp only [ew, eh] at hb)) | (simp only [go_sem, Nat.reduceLeDiff, Nat.reduceEqDiff, reduceIte, reduceCtorEq, Nat.reduceAdd, Nat.reduceMul, Nat.reduceSub, Nat.reduceLT, Int.reduceLT, Int.reduceLE, Int.reduceNeg, Int.reduceToNat, Nat.reduceBEq, Nat.reduceBNe, Int.reduceGE, Int.reduceGT, *, cPrs, cAreDeps, cIsAttr, cPd, cClo, Tryz.results39, eh])))
     ·have e6 : j = ds.length := by omega
      subst e6
      rw [List.drop_length, List.all_nil] at ht
      subst ht
      clear hd hK
      (repeat' (first | (refine gate_a fun _ => ?_) | (refine fork_intro (fun hb => ?_) (fun hb => ?_) <;> (try simp only [ew] at hb)) | (simp only [go_sem, Nat.reduceLeDiff, Nat.reduceEqDiff, reduceIte, reduceCtorEq, Nat.reduceAdd, Nat.reduceMul, Nat.reduceSub, Nat.reduceLT, Int.reduceLT, Int.reduceLE, Int.reduceNeg, Int.reduceToNat, Nat.reduceBEq, Nat.reduceBNe, Int.reduceGE, Int.reduceGT, *, cPrs, cAreDeps, cIsAttr, cPd, cClo, Tryz.results39])))
def kpI (n : Int) (ds : List (Int × Int)) (ps : List Int) (i : Nat) (K : List (Int × Int)) : Prop := K.length ≤ 160 * i ∧ ∀ d, d ∈ K ↔ d ∈ kpL n ds (ps.take i)
def kpJ (n : Int) (ds : List (Int × Int)) (ps : List Int) (i : Nat) (L : List (Int × Int)) (j : Nat) (K : List (Int × Int)) : Prop := j ≤ L.length ∧ K.length ≤ 160 * i + j ∧ ∀ d, d ∈ K ↔ d ∈ kpL n ds (ps.take i) ∨ d ∈ L.take j
theorem any_mem {K : List (Int × Int)} {d : Int × Int} : (K.any fun e => e == d) = true ↔ d ∈ K := by
 rw [List.any_eq_true]
 constructor
 ·rintro ⟨e, he, h⟩
  rw [beq_iff_eq] at h
  rw [← h]; exact he
 ·intro h
  exact ⟨d, h, by simp⟩
theorem kpJ_skip {n : Int} {ds : List (Int × Int)} {ps : List Int} {i : Nat} {L : List (Int × Int)} {j : Nat} {K : List (Int × Int)} (h : kpJ n ds ps i L j K) (h6 : j < L.length) (hm : (K.any fun e => e == L.getD j (0, 0)) = true) : kpJ n ds ps i L (j + 1) K := by
 obtain ⟨h1, h2, h3⟩ := h
 refine ⟨h6, by omega, fun d => ?_⟩
 rw [take_succ_getD h6 (0, 0), List.mem_append, List.mem_singleton, ← or_assoc, ← h3]
 constructor
 ·exact Or.inl
 ·rintro (h | rfl)
  ·exact h
  ·exact any_mem.1 hm
theorem kpJ_add {n : Int} {ds : List (Int × Int)} {ps : List Int} {i : Nat} {L : List (Int × Int)} {j : Nat} {K : List (Int × Int)} (h : kpJ n ds ps i L j K) (h6 : j < L.length) : kpJ n ds ps i L (j + 1) (K ++ [L.getD j (0, 0)]) := by
 obtain ⟨h1, h2, h3⟩ := h
 refine ⟨h6, by rw [List.length_append]; simp; omega, fun d => ?_⟩
 rw [take_succ_getD h6 (0, 0), List.mem_append, List.mem_append, List.mem_singleton, ← or_assoc, ← h3]
theorem kpJ_end {n : Int} {ds : List (Int × Int)} {ps : List Int} {i : Nat} {K : List (Int × Int)} (h5 : i < ps.length) (h : kpJ n ds ps i (pdL n ds (ps.getD i 0)) (pdL n ds (ps.getD i 0)).length K) : kpI n ds ps (i + 1) K := by
 obtain ⟨h1, h2, h3⟩ := h
 have := (@pdL_facts n ds (ps.getD i 0)).1
 refine ⟨by omega, fun d => ?_⟩
 rw [kpL_take h5, List.mem_append, h3, List.take_length]
theorem prsI_ok : ContractOK E0 34 cPrs := by
 refine contract_of_wpc (E := E0) (T := mkT Tryz.prog [(43, cAreDeps), (91, cIsAttr), (93, cPd), (94, cHasD), (95, cImp1)] false (fun _ => false) true (fun _ => false)) (mkT_ok (E := E0) (.cons areDepsI_ok (.cons isAttrI_ok (.cons pdI_ok (.cons hasD_ok (.cons imp1_ok .nil)))))) (fn := Tryz.f34) Tryz.func34 (by kernel_rfl) rfl mixedT (by kernel_rfl) rfl ?_
 intro args p rs ms hr
 unfold cPrs at hr
 dsimp only at hr
 split at hr
 rotate_left
 ·cases hr
 rename_i n l p
 simp only [Option.some.injEq, Prod.mk.injEq] at hr
 obtain ⟨rfl, rfl, rfl⟩ := hr
 refine ⟨rfl, rfl, Nat.le_of_ble_eq_true rfl, ?_⟩
 have hm : maxLen = 9223372036854775807 := rfl
 rintro ⟨h1, h2, h3, hn1, hn2⟩ bs
 obtain ⟨ds, rfl, hx⟩ := h1.ex
 obtain ⟨ps, rfl, hy⟩ := h2.ex
 clear h1 h2
 rw [unD_dL, unI_iL]
 rw [iL_length] at h3
 cases hv : depsOK n ds
 ·have e : prsB n ds ps = false := by unfold prsB; rw [hv]; rfl
  rw [e]
  clear e
  (repeat' (first | (refine gate_a fun _ => ?_) | (refine fork_intro (fun hb => ?_) (fun hb => ?_) <;> (try simp only [ew] at hb)) | (simp only [go_sem, Nat.reduceLeDiff, Nat.reduceEqDiff, reduceIte, reduceCtorEq, Nat.reduceAdd, Nat.reduceMul, Nat.reduceSub, Nat.reduceLT, Int.reduceLT, Int.reduceLE, Int.reduceNeg, Int.reduceToNat, Nat.reduceBEq, Nat.reduceBNe, Int.reduceGE, Int.reduceGT, *, cPrs, cAreDeps, cIsAttr, cPd, cHasD, cImp1, Tryz.results34])))
 ·have e : prsB n ds ps = (ps.all (isAttr n) && ds.all fun d => hasB (clo (kpL n ds ps) d.1) d.2) := by unfold prsB; rw [hv, Bool.true_and]
  rw [e]
  clear e
  have hd := depsOK_R hv
  (repeat' (first | (refine gate_a fun _ => ?_) | (refine fork_intro (fun hb => ?_) (fun hb => ?_) <;> (try simp only [ew] at hb)) | (simp only [go_sem, Nat.reduceLeDiff, Nat.reduceEqDiff, reduceIte, reduceCtorEq, Nat.reduceAdd, Nat.reduceMul, Nat.reduceSub, Nat.reduceLT, Int.reduceLT, Int.reduceLE, Int.reduceNeg, Int.reduceToNat, Nat.reduceBEq, Nat.reduceBNe, Int.reduceGE, Int.reduceGT, *, cPrs, cAreDeps, cIsAttr, cPd, cHasD, cImp1, Tryz.results34])))
  refine loop_intro { ι := Nat × List (Int × Int), rs := [(6, 7), (9, 10), (11, 12), (22, 48)], mods := [(21, fun i => .one (.d (.v (.int .i64 i.1)))), (7, fun i => .one (.own 2 (dL i.2) 1))], boxes := [], arrs := [], ok := fun i => i.1 ≤ ps.length ∧ kpI n ds ps i.1 i.2 ∧ (ps.drop i.1).all (isAttr n) = ps.all (isAttr n), mu := fun i => ps.length - i.1 } rfl (0, []) ⟨Nat.zero_le _, ⟨Nat.zero_le _, fun d => Iff.rfl⟩, rfl⟩ ?_ ?_
  ·(repeat' (first | (refine gate_a fun _ => ?_) | (refine fork_intro (fun hb => ?_) (fun hb => ?_) <;> (try simp only [ew] at hb)) | (simp only [go_sem, Nat.reduceLeDiff, Nat.reduceEqDiff, reduceIte, reduceCtorEq, Nat.reduceAdd, Nat.reduceMul, Nat.reduceSub, Nat.reduceLT, Int.reduceLT, Int.reduceLE, Int.reduceNeg, Int.reduceToNat, Nat.reduceBEq, Nat.reduceBNe, Int.reduceGE, Int.reduceGT, *, cPrs, cAreDeps, cIsAttr, cPd, cHasD, cImp1, Tryz.results34])))
   all_goals first | rfl | skip
  ·rintro ⟨i, K⟩ hi
   dsimp only at hi
   obtain ⟨hi, ⟨hK1, hK2⟩, ht⟩ := hi
   have k2 : K.length ≤ 2684354560 := by omega
   by_cases h5 : i < ps.length
   ·rw [all_drop h5 0] at ht
    have L1 := (@pdL_facts n ds (ps.getD i 0)).1
    have L1' : (pdL n ds (ps.getD i 0)).length ≤ maxLen := Nat.le_trans L1 (by decide)
    cases hq : isAttr n (ps.getD i 0)
    ·rw [hq, Bool.false_and] at ht
     rw [← ht, Bool.false_and]
     clear ht hd hK2
     (repeat' (first | (refine gate_a fun _ => ?_) | (refine fork_intro (fun hb => ?_) (fun hb => ?_) <;> (try simp only [ew, hq] at hb)) | (simp only [go_sem, Nat.reduceLeDiff, Nat.reduceEqDiff, reduceIte, reduceCtorEq, Nat.reduceAdd, Nat.reduceMul, Nat.reduceSub, Nat.reduceLT, Int.reduceLT, Int.reduceLE, Int.reduceNeg, Int.reduceToNat, Nat.reduceBEq, Nat.reduceBNe, Int.reduceGE, Int.reduceGT, *, cPrs, cAreDeps, cIsAttr, cPd, cHasD, cImp1, Tryz.results34, hq])))
    ·rw [hq, Bool.true_and] at ht
     have hend := fun K' => @kpJ_end n ds ps i K' h5
     have hst : kpJ n ds ps i (pdL n ds (ps.getD i 0)) 0 K := ⟨Nat.zero_le _, by omega, fun d => by rw [hK2]; simp⟩
     clear hK2
     (repeat' (first | (refine gate_a fun _ => ?_) | (refine fork_intro (fun hb => ?_) (fun hb => ?_) <;> (try simp only [ew, hq] at hb)) | (simp only [go_sem, Nat.reduceLeDiff, Nat.reduceEqDiff, reduceIte, reduceCtorEq, Nat.reduceAdd, Nat.reduceMul, Nat.reduceSub, Nat.reduceLT, Int.reduceLT, Int.reduceLE, Int.reduceNeg, Int.reduceToNat, Nat.reduceBEq, Nat.reduceBNe, Int.reduceGE, Int.reduceGT, *, cPrs, cAreDeps, cIsAttr, cPd, cHasD, cImp1, Tryz.results34, hq])))
     generalize hL : pdL n ds (ps.getD i 0) = L at L1 L1' hend hst
     refine loop_intro { ι := Nat × List (Int × Int), rs := [(11, 12), (35, 47)], mods := [(34, fun j => .one (.d (.v (.int .i64 j.1)))), (7, fun j => .one (.own 2 (dL j.2) 1))], boxes := [], arrs := [(32, fun _ => (2, dL L, 1))], ok := fun j => kpJ n ds ps i L j.1 j.2, mu := fun j => L.length - j.1 } rfl (0, K) hst ?_ ?_
     ·clear ht
      (repeat' (first | (refine gate_a fun _ => ?_) | (refine fork_intro (fun hb => ?_) (fun hb => ?_) <;> (try simp only [ew, hL] at hb)) | (simp only [go_sem, Nat.reduceLeDiff, Nat.reduceEqDiff, reduceIte, reduceCtorEq, Nat.reduceAdd, Nat.reduceMul, Nat.reduceSub, Nat.reduceLT, Int.reduceLT, Int.reduceLE, Int.reduceNeg, Int.reduceToNat, Nat.reduceBEq, Nat.reduceBNe, Int.reduceGE, Int.reduceGT, *, cPrs, cAreDeps, cIsAttr, cPd, cHasD, cImp1, Tryz.results34, hL])))
     ·rintro ⟨j, M⟩ hj
      dsimp only at hj
      have hj1 := hj.1
      have hj2 := hj.2.1
      have k3 : M.length ≤ 2684355000 := by omega
      clear hL
      by_cases h6 : j < L.length
      ·have hsk := kpJ_skip hj h6
       have had := kpJ_add hj h6
       cases hm : (M.any fun e => e == L.getD j (0, 0))
       ·clear hsk hj ht hend hst
        (repeat' (first | (refine gate_a fun _ => ?_) | (refine fork_intro (fun hb => ?_) (fun hb => ?_) <;> (try simp only [ew, hm, dL_snoc] at hb)) | (simp only [go_sem, Nat.reduceLeDiff, Nat.reduceEqDiff, reduceIte, reduceCtorEq, Nat.reduceAdd, Nat.reduceMul, Nat.reduceSub, Nat.reduceLT, Int.reduceLT, Int.reduceLE, Int.reduceNeg, Int.reduceToNat, Nat.reduceBEq, Nat.reduceBNe, Int.reduceGE, Int.reduceGT, *, cPrs, cAreDeps, cIsAttr, cPd, cHasD, cImp1, Tryz.results34, hm, dL_snoc])))
        refine loop_next (j + 1, M ++ [L.getD j (0, 0)]) had (by dsimp only; omega) ?_
        clear had
        (repeat' (first | (refine gate_a fun _ => ?_) | (refine fork_intro (fun hb => ?_) (fun hb => ?_) <;> (try simp only [ew, hm, dL_snoc] at hb)) | (simp only [go_sem, Nat.reduceLeDiff, Nat.reduceEqDiff, reduceIte, reduceCtorEq, Nat.reduceAdd, Nat.reduceMul, Nat.reduceSub, Nat.reduceLT, Int.reduceLT, Int.reduceLE, Int.reduceNeg, Int.reduceToNat, Nat.reduceBEq, Nat.reduceBNe, Int.reduceGE, Int.reduceGT, *, cPrs, cAreDeps, cIsAttr, cPd, cHasD, cImp1, Tryz.results34, hm, dL_snoc])))
       ·have hsk := hsk hm
        clear had hj ht hend hst
        (repeat' (first | (refine gate_a fun _ => ?_) | (refine fork_intro (fun hb => ?_) (fun hb => ?_) <;> (try simp only [ew, hm] at hb)) | (simp only [go_sem, Nat.reduceLeDiff, Nat.reduceEqDiff, reduceIte, reduceCtorEq, Nat.reduceAdd, Nat.reduceMul, Nat.reduceSub, Nat.reduceLT, Int.reduceLT, Int.reduceLE, Int.reduceNeg, Int.reduceToNat, Nat.reduceBEq, Nat.reduceBNe, Int.reduceGE, Int.reduceGT, *, cPrs, cAreDeps, cIsAttr, cPd, cHasD, cImp1, Tryz.results34, hm])))
        refine loop_next (j + 1, M) hsk (by dsimp only; omega) ?_
        clear hsk
        (repeat' (first | (refine gate_a fun _ => ?_) | (refine fork_intro (fun hb => ?_) (fun hb => ?_) <;> (try simp only [ew, hm] at hb)) | (simp only [go_sem, Nat.reduceLeDiff, Nat.reduceEqDiff, reduceIte, reduceCtorEq, Nat.reduceAdd, Nat.reduceMul, Nat.reduceSub, Nat.reduceLT, Int.reduceLT, Int.reduceLE, Int.reduceNeg, Int.reduceToNat, Nat.reduceBEq, Nat.reduceBNe, Int.reduceGE, Int.reduceGT, *, cPrs, cAreDeps, cIsAttr, cPd, cHasD, cImp1, Tryz.results34, hm])))
      ·have e6 : j = L.length := by omega
       subst e6
       have hn := hend M hj
       clear hj hend hst
       (repeat' (first | (refine gate_a fun _ => ?_) | (refine fork_intro (fun hb => ?_) (fun hb => ?_) <;> (try simp only [ew] at hb)) | (simp only [go_sem, Nat.reduceLeDiff, Nat.reduceEqDiff, reduceIte, reduceCtorEq, Nat.reduceAdd, Nat.reduceMul, Nat.reduceSub, Nat.reduceLT, Int.reduceLT, Int.reduceLE, Int.reduceNeg, Int.reduceToNat, Nat.reduceBEq, Nat.reduceBNe, Int.reduceGE, Int.reduceGT, *, cPrs, cAreDeps, cIsAttr, cPd, cHasD, cImp1, Tryz.results34])))
       refine loop_next (i + 1, M) ⟨by omega, hn, ht⟩ (by dsimp only; omega) ?_
       clear ht hn
       (repeat' (first | (refine gate_a fun _ => ?_) | (refine fork_intro (fun hb => ?_) (fun hb => ?_) <;> (try simp only [ew] at hb)) | (simp only [go_sem, Nat.reduceLeDiff, Nat.reduceEqDiff, reduceIte, reduceCtorEq, Nat.reduceAdd, Nat.reduceMul, Nat.reduceSub, Nat.reduceLT, Int.reduceLT, Int.reduceLE, Int.reduceNeg, Int.reduceToNat, Nat.reduceBEq, Nat.reduceBNe, Int.reduceGE, Int.reduceGT, *, cPrs, cAreDeps, cIsAttr, cPd, cHasD, cImp1, Tryz.results34])))
   ·have e5 : i = ps.length := by omega
    subst e5
    rw [List.drop_length, List.all_nil] at ht
    rw [← ht, Bool.true_and]
    rw [List.take_length] at hK2
    clear ht
    have hK : ∀ d ∈ K, depR d := fun d hd => kpL_R d ((hK2 d).1 hd)
    have hF : (ds.all fun d => hasB (clo (kpL n ds ps) d.1) d.2) = ds.all fun d => hasB (clo K d.1) d.2 := by
     rw [Bool.eq_iff_iff, List.all_eq_true, List.all_eq_true]
     have e : ∀ d ∈ ds, clo (kpL n ds ps) d.1 = clo K d.1 := fun d h => (clo_congr hK hK2 (hd d h).1).symm
     constructor
     ·intro h d hd
      rw [← e d hd]; exact h d hd
     ·intro h d hd
      rw [e d hd]; exact h d hd
    rw [hF]
    have hKl : K.length ≤ maxLen := Nat.le_trans k2 (by decide)
    clear hF hK2 hK1
    generalize hF : (ds.all fun d => hasB (clo K d.1) d.2) = F
    (repeat' (first | (refine gate_a fun _ => ?_) | (refine fork_intro (fun hb => ?_) (fun hb => ?_) <;> (try simp only [ew] at hb)) | (simp only [go_sem, Nat.reduceLeDiff, Nat.reduceEqDiff, reduceIte, reduceCtorEq, Nat.reduceAdd, Nat.reduceMul, Nat.reduceSub, Nat.reduceLT, Int.reduceLT, Int.reduceLE, Int.reduceNeg, Int.reduceToNat, Nat.reduceBEq, Nat.reduceBNe, Int.reduceGE, Int.reduceGT, *, cPrs, cAreDeps, cIsAttr, cPd, cHasD, cImp1, Tryz.results34])))
    refine loop_intro { ι := Nat, rs := [(6, 7), (13, 14), (51, 59)], mods := [(50, fun i => .one (.d (.v (.int .i64 i))))], boxes := [], arrs := [(7, fun _ => (2, dL K, 1))], ok := fun i => i ≤ ds.length ∧ (ds.drop i).all (fun d => hasB (clo K d.1) d.2) = F, mu := fun i => ds.length - i } rfl 0 ⟨Nat.zero_le _, hF⟩ ?_ fun j hj => ?_
    ·clear hF
     (repeat' (first | (refine gate_a fun _ => ?_) | (refine fork_intro (fun hb => ?_) (fun hb => ?_) <;> (try simp only [ew] at hb)) | (simp only [go_sem, Nat.reduceLeDiff, Nat.reduceEqDiff, reduceIte, reduceCtorEq, Nat.reduceAdd, Nat.reduceMul, Nat.reduceSub, Nat.reduceLT, Int.reduceLT, Int.reduceLE, Int.reduceNeg, Int.reduceToNat, Nat.reduceBEq, Nat.reduceBNe, Int.reduceGE, Int.reduceGT, *, cPrs, cAreDeps, cIsAttr, cPd, cHasD, cImp1, Tryz.results34])))
    ·dsimp only at j hj
     obtain ⟨hj, ht⟩ := hj
     clear hF
     by_cases h6 : j < ds.length
     ·rw [all_drop h6 (0, 0)] at ht
      obtain ⟨⟨d1, d2⟩, d3, d4⟩ := depR_at hd h6
      cases hq : hasB (clo K (ds.getD j (0, 0)).1) (ds.getD j (0, 0)).2
      ·rw [hq, Bool.false_and] at ht
       subst ht
       clear hd
       (repeat' (first | (refine gate_a fun _ => ?_) | (refine fork_intro (fun hb => ?_) (fun hb => ?_) <;> (try simp only [ew, hq] at hb)) | (simp only [go_sem, Nat.reduceLeDiff, Nat.reduceEqDiff, reduceIte, reduceCtorEq, Nat.reduceAdd, Nat.reduceMul, Nat.reduceSub, Nat.reduceLT, Int.reduceLT, Int.reduceLE, Int.reduceNeg, Int.reduceToNat, Nat.reduceBEq, Nat.reduceBNe, Int.reduceGE, Int.reduceGT, *, cPrs, cAreDeps, cIsAttr, cPd, cHasD, cImp1, Tryz.results34, hq])))
      ·rw [hq, Bool.true_and] at ht
       clear hd
       (repeat' (first | (refine gate_a fun _ => ?_) | (refine fork_intro (fun hb => ?_) (fun hb => ?_) <;> (try simp only [ew, hq] at hb)) | (simp only [go_sem, Nat.reduceLeDiff, Nat.reduceEqDiff, reduceIte, reduceCtorEq, Nat.reduceAdd, Nat.reduceMul, Nat.reduceSub, Nat.reduceLT, Int.reduceLT, Int.reduceLE, Int.reduceNeg, Int.reduceToNat, Nat.reduceBEq, Nat.reduceBNe, Int.reduceGE, Int.reduceGT, *, cPrs, cAreDeps, cIsAttr, cPd, cHasD, cImp1, Tryz.results34, hq])))
       refine loop_next (j + 1) ⟨by omega, ht⟩ (by dsimp only; omega) ?_
       clear ht
       (repeat' (first | (refine gate_a fun _ => ?_) | (refine fork_intro (fun hb => ?_) (fun hb => ?_) <;> (try simp only [ew, hq] at hb)) | (simp only [go_sem, Nat.reduceLeDiff, Nat.reduceEqDiff, reduceIte, reduceCtorEq, Nat.reduceAdd, Nat.reduceMul, Nat.reduceSub, Nat.reduceLT, Int.reduceLT, Int.reduceLE, Int.reduceNeg, Int.reduceToNat, Nat.reduceBEq, Nat.reduceBNe, Int.reduceGE, Int.reduceGT, *, cPrs, cAreDeps, cIsAttr, cPd, cHasD, cImp1, Tryz.results34, hq])))
     ·have e6 : j = ds.length := by omega
      subst e6
      rw [List.drop_length, List.all_nil] at ht
      subst ht
      clear hd hK
      (repeat' (first | (refine gate_a fun _ => ?_) | (refine fork_intro (fun hb => ?_) (fun hb => ?_) <;> (try simp only [ew] at hb)) | (simp only [go_sem, Nat.reduceLeDiff, Nat.reduceEqDiff, reduceIte, reduceCtorEq, Nat.reduceAdd, Nat.reduceMul, Nat.reduceSub, Nat.reduceLT, Int.reduceLT, Int.reduceLE, Int.reduceNeg, Int.reduceToNat, Nat.reduceBEq, Nat.reduceBNe, Int.reduceGE, Int.reduceGT, *, cPrs, cAreDeps, cIsAttr, cPd, cHasD, cImp1, Tryz.results34])))
end Go.Own
