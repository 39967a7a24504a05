/-
  The joining of a table's parts, on both sides. Conditions: as each theorem states them.
-/
import Derived.Test.YtjembhkhgahhiaaGreatOwnQ7
import Derived.Test.YtjembhkhgahhiaaGreatOwnQ3b
set_option linter.unusedSimpArgs false
set_option linter.unusedVariables false
set_option maxRecDepth 20000
set_option maxHeartbeats 4000000
namespace Go.Own
open Go Go.Proofs
attribute [local go_sem] bq1 bq2 bq3 bq4
attribute [local go_sem ↓ 10000] wpc_regionL
theorem jnS_ok : ContractOK E0 21 cJn := by
 refine cWpc (E := E0) (T := mkT Tryz.prog [(58, cIsTableS), (47, cParts), (14, cPrj), (60, cMem), (75, cExt)] false (fun _ => false) true (fun d => d == 999)) (mkT_ok (E := E0) (.cons isTableS_ok (.cons partsS_ok (.cons prjS_ok (.cons memS_ok (.cons ext_ok .nil)))))) (fn := Tryz.f21) Tryz.func21 (by kernel_rfl) rfl mixedT (by kernel_rfl) rfl ?_
 intro args p rs ms hr
 unfold cJn at hr
 dsimp only at hr
 split at hr
 rotate_left
 ·cases hr
 rename_i c l p
 simp only [Option.some.injEq, Prod.mk.injEq] at hr
 obtain ⟨rfl, rfl, rfl⟩ := hr
 refine ⟨rfl, rfl, Nat.le_of_ble_eq_true rfl, ?_⟩
 have hm : maxLen = 9223372036854775807 := rfl
 rintro ⟨h1, h2, hc1, hc2⟩ bs
 obtain ⟨rs, rfl, hx, hy⟩ := h1.ex
 obtain ⟨ps, rfl, hp⟩ := h2.ex
 clear h1 h2
 rw [unS_sL, unI_iL]
 unfold jnC jnT
 have e0 : sL [] = [] := rfl
 have e0' : iL [] = [] := rfl
 cases hok : jnOK c rs ps
 ·have hok' := hok
  unfold jnOK at hok'
  cases ht : tabOK c rs
  ·(repeat' (first | (refine gA fun _ => ?_) | (refine RS_let ?_; intro Kx) | (refine fkI (fun hb => ?_) (fun hb => ?_) <;> (try simp only [ew, e0] at hb)) | (simp only [go_sem, Nat.reduceLeDiff, Nat.reduceEqDiff, reduceIte, reduceCtorEq, Nat.reduceAdd, Nat.reduceMul, Nat.reduceSub, Nat.reduceLT, Int.reduceLT, Int.reduceLE, Int.reduceNeg, Int.reduceToNat, Nat.reduceBEq, Nat.reduceBNe, Int.reduceGE, Int.reduceGT, *, cJn, cIsTableS, cParts, cPrj, cMem, cExt, Tryz.results21, e0]) | (dsimp only [Kx]; try clear Kx)))
   all_goals first | rfl | skip
  ·cases hi : partsOK c ps
   ·(repeat' (first | (refine gA fun _ => ?_) | (refine RS_let ?_; intro Kx) | (refine fkI (fun hb => ?_) (fun hb => ?_) <;> (try simp only [ew, e0] at hb)) | (simp only [go_sem, Nat.reduceLeDiff, Nat.reduceEqDiff, reduceIte, reduceCtorEq, Nat.reduceAdd, Nat.reduceMul, Nat.reduceSub, Nat.reduceLT, Int.reduceLT, Int.reduceLE, Int.reduceNeg, Int.reduceToNat, Nat.reduceBEq, Nat.reduceBNe, Int.reduceGE, Int.reduceGT, *, cJn, cIsTableS, cParts, cPrj, cMem, cExt, Tryz.results21, e0]) | (dsimp only [Kx]; try clear Kx)))
    all_goals first | rfl | skip
   ·rw [ht, hi] at hok'
    have hz : decide ((rs.length : Int) > 10) = true := by
     have : ¬ rs.length ≤ 10 := by simpa using hok'
     exact decide_eq_true (by omega)
    (repeat' (first | (refine gA fun _ => ?_) | (refine RS_let ?_; intro Kx) | (refine fkI (fun hb => ?_) (fun hb => ?_) <;> (try simp only [ew, e0, hz] at hb)) | (simp only [go_sem, Nat.reduceLeDiff, Nat.reduceEqDiff, reduceIte, reduceCtorEq, Nat.reduceAdd, Nat.reduceMul, Nat.reduceSub, Nat.reduceLT, Int.reduceLT, Int.reduceLE, Int.reduceNeg, Int.reduceToNat, Nat.reduceBEq, Nat.reduceBNe, Int.reduceGE, Int.reduceGT, *, cJn, cIsTableS, cParts, cPrj, cMem, cExt, Tryz.results21, e0, hz]) | (dsimp only [Kx]; try clear Kx)))
    all_goals first | rfl | skip
 ·obtain ⟨n, rfl, hP, hp10, hnz⟩ := jnP_of hok
  have hok' := hok
  unfold jnOK at hok'
  rw [Bool.and_eq_true, Bool.and_eq_true, decide_eq_true_eq] at hok'
  obtain ⟨⟨ht, hi⟩, h10⟩ := hok'
  have hz : decide ((rs.length : Int) > 10) = false := decide_eq_false (by omega)
  rw [if_pos rfl, if_pos rfl, Int.toNat_natCast]
  clear hok
  obtain ⟨n1, n5⟩ := hP.n5
  have u0 : jnS rs n (ps.take 0) = [List.replicate n (-2)] := rfl
  have hstep : ∀ i, i < ps.length → (prOK n rs (ps.getD i 0) = true ∧ ExB (jnS rs n (ps.take i)) (prL rs (ps.getD i 0)) (mem (ps.getD i 0)) n ∧ (prL rs (ps.getD i 0)).length ≤ 40 ∧ (∀ r ∈ prL rs (ps.getD i 0), r.length ≤ maxLen) ∧ (mem (ps.getD i 0)).length ≤ 5) := fun i hi5 => by
   have hm : ps.getD i 0 ∈ ps := getD_mem hi5 0
   obtain ⟨p1, p2, p3, p4, p5⟩ := hP.p hm
   obtain ⟨q1, q2⟩ := jnS_facts (hP.take i)
   refine ⟨?_, ⟨fun k hk => p3 _ (getD_mem hk 0), mem_facts.1, n5, q2, fun v hv => (p4 v hv).1, by omega, by omega⟩, by omega, fun r hr => ?_, mem_facts.1⟩
   ·unfold prOK
    rw [ht, hP.att _ hm, hnz _ hm]; rfl
   ·rw [(p4 r hr).1]; exact Nat.le_trans mem_facts.1 (by decide)
  have hfin : ∀ i, (jnS rs n (ps.take i)).length ≤ 161051 ∧ ∀ r ∈ jnS rs n (ps.take i), r.length ≤ maxLen := fun i => by
   obtain ⟨q1, q2⟩ := jnS_facts (hP.take i)
   exact ⟨q1, fun r hr => by rw [q2 r hr]; exact Nat.le_trans n5 (by decide)⟩
  clear hP hnz
  (repeat' (first | (refine gA fun _ => ?_) | (refine RS_let ?_; intro Kx) | (refine fkI (fun hb => ?_) (fun hb => ?_) <;> (try simp only [ew, e0, e0', hz] at hb)) | (simp only [go_sem, Nat.reduceLeDiff, Nat.reduceEqDiff, reduceIte, reduceCtorEq, Nat.reduceAdd, Nat.reduceMul, Nat.reduceSub, Nat.reduceLT, Int.reduceLT, Int.reduceLE, Int.reduceNeg, Int.reduceToNat, Nat.reduceBEq, Nat.reduceBNe, Int.reduceGE, Int.reduceGT, *, cJn, cIsTableS, cParts, cPrj, cMem, cExt, Tryz.results21, e0, e0', hz]) | (dsimp only [Kx]; try clear Kx)))
  refine lpI { ι := Nat, rs := [(27, 36)], mods := [(6, fun k => .one (.d (.v (.int .i64 k)))), (5, fun k => .one (.own 1 (iL (List.replicate k (-2))) 1))], boxes := [(2, fun _ => [.d (.v (.int .i64 n)), .d (.sl 1 (sL rs))]), (4, fun _ => [.d (.v (.int .i64 0)), .d (.v (.slice none 0 0))])], arrs := [], ok := fun k => k ≤ n, mu := fun k => n - k } rfl 0 (Nat.zero_le _) ?_ fun k hk => ?_
  ·clear hstep hfin
   (repeat' (first | (refine gA fun _ => ?_) | (refine RS_let ?_; intro Kx) | (refine fkI (fun hb => ?_) (fun hb => ?_) <;> (try simp only [ew, e0'] at hb)) | (simp only [go_sem, Nat.reduceLeDiff, Nat.reduceEqDiff, reduceIte, reduceCtorEq, Nat.reduceAdd, Nat.reduceMul, Nat.reduceSub, Nat.reduceLT, Int.reduceLT, Int.reduceLE, Int.reduceNeg, Int.reduceToNat, Nat.reduceBEq, Nat.reduceBNe, Int.reduceGE, Int.reduceGT, *, cJn, cIsTableS, cParts, cPrj, cMem, cExt, Tryz.results21, e0']) | (dsimp only [Kx]; try clear Kx)))
   all_goals first | rfl | skip
  ·dsimp only at k hk
   by_cases h5 : k < n
   ·clear hstep hfin
    (repeat' (first | (refine gA fun _ => ?_) | (refine RS_let ?_; intro Kx) | (refine fkI (fun hb => ?_) (fun hb => ?_) <;> (try simp only [ew, iL_snoc, rep_snoc] at hb)) | (simp only [go_sem, Nat.reduceLeDiff, Nat.reduceEqDiff, reduceIte, reduceCtorEq, Nat.reduceAdd, Nat.reduceMul, Nat.reduceSub, Nat.reduceLT, Int.reduceLT, Int.reduceLE, Int.reduceNeg, Int.reduceToNat, Nat.reduceBEq, Nat.reduceBNe, Int.reduceGE, Int.reduceGT, *, cJn, cIsTableS, cParts, cPrj, cMem, cExt, Tryz.results21, iL_snoc, rep_snoc]) | (dsimp only [Kx]; try clear Kx)))
    refine lpN (k + 1) (by dsimp only; omega) (by dsimp only; omega) ?_
    (repeat' (first | (refine gA fun _ => ?_) | (refine RS_let ?_; intro Kx) | (refine fkI (fun hb => ?_) (fun hb => ?_) <;> (try simp only [ew, iL_snoc, rep_snoc] at hb)) | (simp only [go_sem, Nat.reduceLeDiff, Nat.reduceEqDiff, reduceIte, reduceCtorEq, Nat.reduceAdd, Nat.reduceMul, Nat.reduceSub, Nat.reduceLT, Int.reduceLT, Int.reduceLE, Int.reduceNeg, Int.reduceToNat, Nat.reduceBEq, Nat.reduceBNe, Int.reduceGE, Int.reduceGT, *, cJn, cIsTableS, cParts, cPrj, cMem, cExt, Tryz.results21, iL_snoc, rep_snoc]) | (dsimp only [Kx]; try clear Kx)))
   ·have e5 : k = n := by omega
    subst e5
    have e8 : [[D.sl 1 (iL (List.replicate k (-2)))]] = sL [List.replicate k (-2)] := rfl
    (repeat' (first | (refine gA fun _ => ?_) | (refine RS_let ?_; intro Kx) | (refine fkI (fun hb => ?_) (fun hb => ?_) <;> (try simp only [ew, e8] at hb)) | (simp only [go_sem, Nat.reduceLeDiff, Nat.reduceEqDiff, reduceIte, reduceCtorEq, Nat.reduceAdd, Nat.reduceMul, Nat.reduceSub, Nat.reduceLT, Int.reduceLT, Int.reduceLE, Int.reduceNeg, Int.reduceToNat, Nat.reduceBEq, Nat.reduceBNe, Int.reduceGE, Int.reduceGT, *, cJn, cIsTableS, cParts, cPrj, cMem, cExt, Tryz.results21, e8]) | (dsimp only [Kx]; try clear Kx)))
    refine lpI { ι := Nat, rs := [(38, 57)], mods := [(8, fun i => .one (.d (.v (.int .i64 i)))), (7, fun i => .one (.n (.sl 1 (sL (jnS rs k (ps.take i))))))], boxes := [(2, fun _ => [.d (.v (.int .i64 k)), .d (.sl 1 (sL rs))]), (4, fun _ => [.d (.v (.int .i64 0)), .d (.v (.slice none 0 0))])], arrs := [], ok := fun i => i ≤ ps.length, mu := fun i => ps.length - i } rfl 0 (Nat.zero_le _) ?_ fun i hi6 => ?_
    ·clear hstep hfin
     (repeat' (first | (refine gA fun _ => ?_) | (refine RS_let ?_; intro Kx) | (refine fkI (fun hb => ?_) (fun hb => ?_) <;> (try simp only [ew, u0] at hb)) | (simp only [go_sem, Nat.reduceLeDiff, Nat.reduceEqDiff, reduceIte, reduceCtorEq, Nat.reduceAdd, Nat.reduceMul, Nat.reduceSub, Nat.reduceLT, Int.reduceLT, Int.reduceLE, Int.reduceNeg, Int.reduceToNat, Nat.reduceBEq, Nat.reduceBNe, Int.reduceGE, Int.reduceGT, *, cJn, cIsTableS, cParts, cPrj, cMem, cExt, Tryz.results21, u0]) | (dsimp only [Kx]; try clear Kx)))
     all_goals first | rfl | skip
    ·dsimp only at i hi6
     by_cases h6 : i < ps.length
     ·obtain ⟨s1, s2, s3, s4, s5⟩ := hstep i h6
      obtain ⟨f1, f2⟩ := hfin i
      have e9 := @jnS_take rs k ps i h6
      clear hstep hfin
      generalize hL : jnS rs k (ps.take i) = L at s2 e9 f1 f2
      generalize hx0 : ps.getD i 0 = x at s1 s2 s3 s4 s5 e9
      have r1 : prR k rs x = prL rs x := by unfold prR; rw [s1, if_pos rfl]
      have r2 : -9223372036854775808 ≤ prC k rs x ∧ prC k rs x ≤ 9223372036854775807 := by unfold prC; rw [s1, if_pos rfl]; omega
      generalize hc3 : prC k rs x = c3 at r2
      generalize hpl : prL rs x = pl at s2 s3 s4 e9 r1
      generalize hmx : mem x = mx at s2 s5 e9
      have f3 : L.length ≤ maxLen := Nat.le_trans f1 (by decide)
      have f4 : pl.length ≤ maxLen := Nat.le_trans s3 (by decide)
      have f5 : mx.length ≤ maxLen := Nat.le_trans s5 (by decide)
      have s2' : ∃ n, ExB L pl mx n := ⟨k, s2⟩
      clear s2
      (repeat' (first | (refine gA fun _ => ?_) | (refine RS_let ?_; intro Kx) | (refine fkI (fun hb => ?_) (fun hb => ?_) <;> (try simp only [ew, hL, hx0, hc3, r1, hpl, hmx] at hb)) | (simp only [go_sem, Nat.reduceLeDiff, Nat.reduceEqDiff, reduceIte, reduceCtorEq, Nat.reduceAdd, Nat.reduceMul, Nat.reduceSub, Nat.reduceLT, Int.reduceLT, Int.reduceLE, Int.reduceNeg, Int.reduceToNat, Nat.reduceBEq, Nat.reduceBNe, Int.reduceGE, Int.reduceGT, *, cJn, cIsTableS, cParts, cPrj, cMem, cExt, Tryz.results21, hL, hx0, hc3, r1, hpl, hmx]) | (dsimp only [Kx]; try clear Kx)))
      refine lpN (i + 1) (by dsimp only; omega) (by dsimp only; omega) ?_
      (repeat' (first | (refine gA fun _ => ?_) | (refine RS_let ?_; intro Kx) | (refine fkI (fun hb => ?_) (fun hb => ?_) <;> (try simp only [ew, e9] at hb)) | (simp only [go_sem, Nat.reduceLeDiff, Nat.reduceEqDiff, reduceIte, reduceCtorEq, Nat.reduceAdd, Nat.reduceMul, Nat.reduceSub, Nat.reduceLT, Int.reduceLT, Int.reduceLE, Int.reduceNeg, Int.reduceToNat, Nat.reduceBEq, Nat.reduceBNe, Int.reduceGE, Int.reduceGT, *, cJn, cIsTableS, cParts, cPrj, cMem, cExt, Tryz.results21, e9]) | (dsimp only [Kx]; try clear Kx)))
     ·have e6 : i = ps.length := by omega
      subst e6
      have e7 : ps.take ps.length = ps := List.take_length
      clear hstep hfin
      (repeat' (first | (refine gA fun _ => ?_) | (refine RS_let ?_; intro Kx) | (refine fkI (fun hb => ?_) (fun hb => ?_) <;> (try simp only [ew, e7] at hb)) | (simp only [go_sem, Nat.reduceLeDiff, Nat.reduceEqDiff, reduceIte, reduceCtorEq, Nat.reduceAdd, Nat.reduceMul, Nat.reduceSub, Nat.reduceLT, Int.reduceLT, Int.reduceLE, Int.reduceNeg, Int.reduceToNat, Nat.reduceBEq, Nat.reduceBNe, Int.reduceGE, Int.reduceGT, *, cJn, cIsTableS, cParts, cPrj, cMem, cExt, Tryz.results21, e7]) | (dsimp only [Kx]; try clear Kx)))
      all_goals first | rfl | skip
end Go.Own
