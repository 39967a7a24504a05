/-
  The program's joining of a table's parts. Conditions: as each theorem states them.
-/
import Derived.Test.YtjembhkhgahhiaaGreatOwnQ7
import Derived.Test.YtjembhkhgahhiaaGreatOwnQ3b
set_option linter.unusedSimpArgs false
set_option linter.unusedVariables false
set_option maxRecDepth 20000
set_option maxHeartbeats 8000000
namespace Go.Own
open Go Go.Proofs
theorem jnRow_opt {r m v : List Int} : (jnRow r m v).toList = if jnB r m v then [jnO r m v] else [] := by
 unfold jnO
 rw [jnRow_eq]
 cases jnB r m v <;> rfl
attribute [local go_sem ↓ 10000] wpc_regionL
theorem jnPI_ok : ContractOK E0 12 cJnI := by
 refine cWpc (E := E0) (T := mkT Tryz.prog [(50, cIsTableS), (44, cParts), (51, cMem), (52, cPrj), (53, cJnR), (54, cSortR)] false (fun _ => false) true (fun _ => false)) (mkT_ok (E := E0) (.cons isTableI_ok (.cons partsI_ok (.cons memI_ok (.cons prjI_ok (.cons jnRow_ok (.cons sortR_ok .nil))))))) (fn := Tryz.f12) Tryz.func12 (by kernel_rfl) rfl mixedT (by kernel_rfl) rfl ?_
 intro args p rs ms hr
 unfold cJnI at hr
 dsimp only at hr
 split at hr
 rotate_left
 ·cases hr
 rename_i c l p
 simp only [Option.some.injEq, Prod.mk.injEq] at hr
 obtain ⟨rfl, rfl, rfl⟩ := hr
 refine ⟨rfl, rfl, Nat.le_of_ble_eq_true rfl, ?_⟩
 have hm : maxLen = 9223372036854775807 := rfl
 rintro ⟨h1, h2, hc1, hc2⟩ bs
 obtain ⟨rs, rfl, hx, hy⟩ := h1.ex
 obtain ⟨ps, rfl, hp⟩ := h2.ex
 clear h1 h2
 rw [unS_sL, unI_iL]
 unfold jnC jnT
 have e0 : sL [] = [] := rfl
 have e0' : iL [] = [] := rfl
 cases hok : jnOK c rs ps
 ·have hok' := hok
  unfold jnOK at hok'
  cases ht : tabOK c rs
  ·(repeat' (first | (refine gA fun _ => ?_) | (refine RS_let ?_; intro Kx) | (refine fkI (fun hb => ?_) (fun hb => ?_) <;> (try simp only [ew, e0] at hb)) | (simp only [go_sem, Nat.reduceLeDiff, Nat.reduceEqDiff, reduceIte, reduceCtorEq, Nat.reduceAdd, Nat.reduceMul, Nat.reduceSub, Nat.reduceLT, Int.reduceLT, Int.reduceLE, Int.reduceNeg, Int.reduceToNat, Nat.reduceBEq, Nat.reduceBNe, Int.reduceGE, Int.reduceGT, *, cJnI, cIsTableS, cParts, cMem, cPrj, cJnR, cSortR, Tryz.results12, e0]) | (dsimp only [Kx]; try clear Kx)))
   all_goals first | rfl | skip
  ·cases hi : partsOK c ps
   ·(repeat' (first | (refine gA fun _ => ?_) | (refine RS_let ?_; intro Kx) | (refine fkI (fun hb => ?_) (fun hb => ?_) <;> (try simp only [ew, e0] at hb)) | (simp only [go_sem, Nat.reduceLeDiff, Nat.reduceEqDiff, reduceIte, reduceCtorEq, Nat.reduceAdd, Nat.reduceMul, Nat.reduceSub, Nat.reduceLT, Int.reduceLT, Int.reduceLE, Int.reduceNeg, Int.reduceToNat, Nat.reduceBEq, Nat.reduceBNe, Int.reduceGE, Int.reduceGT, *, cJnI, cIsTableS, cParts, cMem, cPrj, cJnR, cSortR, Tryz.results12, e0]) | (dsimp only [Kx]; try clear Kx)))
    all_goals first | rfl | skip
   ·rw [ht, hi] at hok'
    have hz : decide ((rs.length : Int) > 10) = true := by
     have : ¬ rs.length ≤ 10 := by simpa using hok'
     exact decide_eq_true (by omega)
    (repeat' (first | (refine gA fun _ => ?_) | (refine RS_let ?_; intro Kx) | (refine fkI (fun hb => ?_) (fun hb => ?_) <;> (try simp only [ew, e0, hz] at hb)) | (simp only [go_sem, Nat.reduceLeDiff, Nat.reduceEqDiff, reduceIte, reduceCtorEq, Nat.reduceAdd, Nat.reduceMul, Nat.reduceSub, Nat.reduceLT, Int.reduceLT, Int.reduceLE, Int.reduceNeg, Int.reduceToNat, Nat.reduceBEq, Nat.reduceBNe, Int.reduceGE, Int.reduceGT, *, cJnI, cIsTableS, cParts, cMem, cPrj, cJnR, cSortR, Tryz.results12, e0, hz]) | (dsimp only [Kx]; try clear Kx)))
    all_goals first | rfl | skip
 ·obtain ⟨n, rfl, hP, hp10, hnz⟩ := jnP_of hok
  have hok' := hok
  unfold jnOK at hok'
  rw [Bool.and_eq_true, Bool.and_eq_true, decide_eq_true_eq] at hok'
  obtain ⟨⟨ht, hi⟩, h10⟩ := hok'
  have hz : decide ((rs.length : Int) > 10) = false := decide_eq_false (by omega)
  rw [if_pos rfl, if_pos rfl, Int.toNat_natCast]
  clear hok
  obtain ⟨n1, n5⟩ := hP.n5
  have u0 : jnI rs n (ps.take 0) = [List.replicate n (-2)] := rfl
  have hend := jn_end hP
  have hstep : ∀ i, i < ps.length → (prOK n rs (ps.getD i 0) = true ∧ ExB (jnI rs n (ps.take i)) (prL rs (ps.getD i 0)) (mem (ps.getD i 0)) n ∧ (prL rs (ps.getD i 0)).length ≤ 10) := fun i hi5 => by
   have hm : ps.getD i 0 ∈ ps := getD_mem hi5 0
   obtain ⟨p1, p2, p3, p4, p5⟩ := hP.p hm
   have q1 := jnI_few (hP.take i)
   have q2 := (jnI_ok (hP.take i) start_ok).len
   refine ⟨?_, ⟨fun k hk => p3 _ (getD_mem hk 0), mem_facts.1, n5, q2, fun v hv => (p4 v hv).1, by omega, by omega⟩, by omega⟩
   unfold prOK
   rw [ht, hP.att _ hm, hnz _ hm]; rfl
  have hfin : ∀ i, (jnI rs n (ps.take i)).length ≤ 161051 ∧ ∀ r ∈ jnI rs n (ps.take i), r.length = n := fun i => ⟨jnI_few (hP.take i), (jnI_ok (hP.take i) start_ok).len⟩
  clear hP hnz
  (repeat' (first | (refine gA fun _ => ?_) | (refine RS_let ?_; intro Kx) | (refine fkI (fun hb => ?_) (fun hb => ?_) <;> (try simp only [ew, e0, e0', hz] at hb)) | (simp only [go_sem, Nat.reduceLeDiff, Nat.reduceEqDiff, reduceIte, reduceCtorEq, Nat.reduceAdd, Nat.reduceMul, Nat.reduceSub, Nat.reduceLT, Int.reduceLT, Int.reduceLE, Int.reduceNeg, Int.reduceToNat, Nat.reduceBEq, Nat.reduceBNe, Int.reduceGE, Int.reduceGT, *, cJnI, cIsTableS, cParts, cMem, cPrj, cJnR, cSortR, Tryz.results12, e0, e0', hz]) | (dsimp only [Kx]; try clear Kx)))
  refine lpI { ι := Nat, rs := [(35, 43)], mods := [(5, fun k => .one (.own 1 (iL (List.replicate k (-2))) 1))], boxes := [(2, fun _ => [.d (.v (.int .i64 n)), .d (.sl 1 (sL rs))]), (4, fun _ => [.d (.v (.int .i64 0)), .d (.v (.slice none 0 0))])], arrs := [], ok := fun k => k ≤ n, mu := fun k => n - k } rfl 0 (Nat.zero_le _) ?_ fun k hk => ?_
  ·clear hstep hfin
   (repeat' (first | (refine gA fun _ => ?_) | (refine RS_let ?_; intro Kx) | (refine fkI (fun hb => ?_) (fun hb => ?_) <;> (try simp only [ew, e0'] at hb)) | (simp only [go_sem, Nat.reduceLeDiff, Nat.reduceEqDiff, reduceIte, reduceCtorEq, Nat.reduceAdd, Nat.reduceMul, Nat.reduceSub, Nat.reduceLT, Int.reduceLT, Int.reduceLE, Int.reduceNeg, Int.reduceToNat, Nat.reduceBEq, Nat.reduceBNe, Int.reduceGE, Int.reduceGT, *, cJnI, cIsTableS, cParts, cMem, cPrj, cJnR, cSortR, Tryz.results12, e0']) | (dsimp only [Kx]; try clear Kx)))
   all_goals first | rfl | skip
  ·dsimp only at k hk
   by_cases h5 : k < n
   ·clear hstep hfin
    (repeat' (first | (refine gA fun _ => ?_) | (refine RS_let ?_; intro Kx) | (refine fkI (fun hb => ?_) (fun hb => ?_) <;> (try simp only [ew, iL_snoc, rep_snoc, List.length_replicate] at hb)) | (simp only [go_sem, Nat.reduceLeDiff, Nat.reduceEqDiff, reduceIte, reduceCtorEq, Nat.reduceAdd, Nat.reduceMul, Nat.reduceSub, Nat.reduceLT, Int.reduceLT, Int.reduceLE, Int.reduceNeg, Int.reduceToNat, Nat.reduceBEq, Nat.reduceBNe, Int.reduceGE, Int.reduceGT, *, cJnI, cIsTableS, cParts, cMem, cPrj, cJnR, cSortR, Tryz.results12, iL_snoc, rep_snoc, List.length_replicate]) | (dsimp only [Kx]; try clear Kx)))
    refine lpN (k + 1) (by dsimp only; omega) (by dsimp only; omega) ?_
    (repeat' (first | (refine gA fun _ => ?_) | (refine RS_let ?_; intro Kx) | (refine fkI (fun hb => ?_) (fun hb => ?_) <;> (try simp only [ew, iL_snoc, rep_snoc] at hb)) | (simp only [go_sem, Nat.reduceLeDiff, Nat.reduceEqDiff, reduceIte, reduceCtorEq, Nat.reduceAdd, Nat.reduceMul, Nat.reduceSub, Nat.reduceLT, Int.reduceLT, Int.reduceLE, Int.reduceNeg, Int.reduceToNat, Nat.reduceBEq, Nat.reduceBNe, Int.reduceGE, Int.reduceGT, *, cJnI, cIsTableS, cParts, cMem, cPrj, cJnR, cSortR, Tryz.results12, iL_snoc, rep_snoc]) | (dsimp only [Kx]; try clear Kx)))
   ·have e5 : k = n := by omega
    subst e5
    have e8 : [[D.sl 1 (iL (List.replicate k (-2)))]] = sL [List.replicate k (-2)] := rfl
    (repeat' (first | (refine gA fun _ => ?_) | (refine RS_let ?_; intro Kx) | (refine fkI (fun hb => ?_) (fun hb => ?_) <;> (try simp only [ew, e8, List.length_replicate] at hb)) | (simp only [go_sem, Nat.reduceLeDiff, Nat.reduceEqDiff, reduceIte, reduceCtorEq, Nat.reduceAdd, Nat.reduceMul, Nat.reduceSub, Nat.reduceLT, Int.reduceLT, Int.reduceLE, Int.reduceNeg, Int.reduceToNat, Nat.reduceBEq, Nat.reduceBNe, Int.reduceGE, Int.reduceGT, *, cJnI, cIsTableS, cParts, cMem, cPrj, cJnR, cSortR, Tryz.results12, e8, List.length_replicate]) | (dsimp only [Kx]; try clear Kx)))
    refine lpI { ι := Nat, rs := [(8, 11), (12, 13), (14, 17), (48, 85)], mods := [(47, fun i => .one (.d (.v (.int .i64 i)))), (6, fun i => .one (.own 1 (sL (jnI rs k (ps.take i))) 1))], boxes := [(2, fun _ => [.d (.v (.int .i64 k)), .d (.sl 1 (sL rs))]), (4, fun _ => [.d (.v (.int .i64 0)), .d (.v (.slice none 0 0))])], arrs := [], ok := fun i => i ≤ ps.length, mu := fun i => ps.length - i } rfl 0 (Nat.zero_le _) ?_ fun i hi6 => ?_
    ·clear hstep hfin
     (repeat' (first | (refine gA fun _ => ?_) | (refine RS_let ?_; intro Kx) | (refine fkI (fun hb => ?_) (fun hb => ?_) <;> (try simp only [ew, u0, e8] at hb)) | (simp only [go_sem, Nat.reduceLeDiff, Nat.reduceEqDiff, reduceIte, reduceCtorEq, Nat.reduceAdd, Nat.reduceMul, Nat.reduceSub, Nat.reduceLT, Int.reduceLT, Int.reduceLE, Int.reduceNeg, Int.reduceToNat, Nat.reduceBEq, Nat.reduceBNe, Int.reduceGE, Int.reduceGT, *, cJnI, cIsTableS, cParts, cMem, cPrj, cJnR, cSortR, Tryz.results12, u0, e8]) | (dsimp only [Kx]; try clear Kx)))
     all_goals first | rfl | skip
    ·dsimp only at i hi6
     by_cases h6 : i < ps.length
     ·obtain ⟨s1, s2, s3⟩ := hstep i h6
      obtain ⟨f1, f2⟩ := hfin i
      have e9 := @jnI_take rs k ps i h6
      clear hstep hfin hend u0
      generalize hL : jnI rs k (ps.take i) = L at s2 e9 f1 f2
      generalize hx0 : ps.getD i 0 = x at s1 s2 s3 e9
      have r1 : prR k rs x = prL rs x := by unfold prR; rw [s1, if_pos rfl]
      generalize hc3 : prC k rs x = c3
      generalize hpl : prL rs x = pl at s2 s3 e9 r1
      generalize hmx : mem x = mx at s2 e9
      obtain ⟨m1, m2, -, l1, p1, l2, p2⟩ := s2
      have f3 : L.length ≤ maxLen := Nat.le_trans f1 (by decide)
      have f5 : mx.length ≤ maxLen := Nat.le_trans m2 (by decide)
      have l1' : ∀ i, i < L.length → (L.getD i []).length = k := fun i hi => l1 _ (getD_mem hi [])
      have p1' : ∀ i, i < pl.length → (pl.getD i []).length = mx.length := fun i hi => p1 _ (getD_mem hi [])
      have f4 : pl.length ≤ maxLen := Nat.le_trans s3 (by decide)
      have f6 : ∀ r ∈ pl, r.length ≤ maxLen := fun r hr => by rw [p1 r hr]; exact f5
      clear l1 p1 f2
      (repeat' (first | (refine gA fun _ => ?_) | (refine RS_let ?_; intro Kx) | (refine fkI (fun hb => ?_) (fun hb => ?_) <;> (try simp only [ew, e0, hL, hx0, hc3, r1, hpl, hmx] at hb)) | (simp only [go_sem, Nat.reduceLeDiff, Nat.reduceEqDiff, reduceIte, reduceCtorEq, Nat.reduceAdd, Nat.reduceMul, Nat.reduceSub, Nat.reduceLT, Int.reduceLT, Int.reduceLE, Int.reduceNeg, Int.reduceToNat, Nat.reduceBEq, Nat.reduceBNe, Int.reduceGE, Int.reduceGT, *, cJnI, cIsTableS, cParts, cMem, cPrj, cJnR, cSortR, Tryz.results12, e0, hL, hx0, hc3, r1, hpl, hmx]) | (dsimp only [Kx]; try clear Kx)))
      refine lpI { ι := Nat, rs := [(12, 13), (14, 17), (57, 83)], mods := [(56, fun a => .one (.d (.v (.int .i64 a)))), (10, fun a => .one (.own 1 (sL (extI (L.take a) pl mx)) 1))], boxes := [(2, fun _ => [.d (.v (.int .i64 k)), .d (.sl 1 (sL rs))]), (4, fun _ => [.d (.v (.int .i64 0)), .d (.v (.slice none 0 0))])], arrs := [(6, fun _ => (1, sL L, 0)), (9, fun _ => (1, iL mx, 1))], ok := fun a => a ≤ L.length, mu := fun a => L.length - a, alis := [(54, 6)] } rfl 0 (Nat.zero_le _) ?_ fun a ha => ?_
      ·(repeat' (first | (refine gA fun _ => ?_) | (refine RS_let ?_; intro Kx) | (refine fkI (fun hb => ?_) (fun hb => ?_) <;> (try simp only [ew, e0] at hb)) | (simp only [go_sem, Nat.reduceLeDiff, Nat.reduceEqDiff, reduceIte, reduceCtorEq, Nat.reduceAdd, Nat.reduceMul, Nat.reduceSub, Nat.reduceLT, Int.reduceLT, Int.reduceLE, Int.reduceNeg, Int.reduceToNat, Nat.reduceBEq, Nat.reduceBNe, Int.reduceGE, Int.reduceGT, *, cJnI, cIsTableS, cParts, cMem, cPrj, cJnR, cSortR, Tryz.results12, e0]) | (dsimp only [Kx]; try clear Kx)))
       all_goals first | rfl | skip
      ·dsimp only at a ha
       by_cases h7 : a < L.length
       ·have q1 := l1' a h7
        have e1 := @ext_take L pl mx a h7
        have b1 := @extI_length (L.take a) pl mx
        have b2 : (L.take a).length * pl.length ≤ 161051 * 10 := Nat.mul_le_mul (by rw [List.length_take]; omega) s3
        generalize hO : extI (L.take a) pl mx = O at e1 b1
        generalize hr0 : L.getD a [] = r0 at q1 e1
        have hr0m : r0.length ≤ maxLen := by rw [q1]; exact Nat.le_trans n5 (by decide)
        (repeat' (first | (refine gA fun _ => ?_) | (refine RS_let ?_; intro Kx) | (refine fkI (fun hb => ?_) (fun hb => ?_) <;> (try simp only [ew, e0, hO, hr0, hx0, hc3, r1, hpl, hmx] at hb)) | (simp only [go_sem, Nat.reduceLeDiff, Nat.reduceEqDiff, reduceIte, reduceCtorEq, Nat.reduceAdd, Nat.reduceMul, Nat.reduceSub, Nat.reduceLT, Int.reduceLT, Int.reduceLE, Int.reduceNeg, Int.reduceToNat, Nat.reduceBEq, Nat.reduceBNe, Int.reduceGE, Int.reduceGT, *, cJnI, cIsTableS, cParts, cMem, cPrj, cJnR, cSortR, Tryz.results12, e0, hO, hr0, hx0, hc3, r1, hpl, hmx]) | (dsimp only [Kx]; try clear Kx)))
        refine lpI { ι := Nat, rs := [(14, 17), (66, 82)], mods := [(65, fun b => .one (.d (.v (.int .i64 b)))), (10, fun b => .one (.own 1 (sL (O ++ (pl.take b).filterMap fun v => jnRow r0 mx v)) 1))], boxes := [(2, fun _ => [.d (.v (.int .i64 k)), .d (.sl 1 (sL rs))]), (4, fun _ => [.d (.v (.int .i64 0)), .d (.v (.slice none 0 0))])], arrs := [(6, fun _ => (1, sL L, 0)), (9, fun _ => (1, iL mx, 1))], ok := fun b => b ≤ pl.length, mu := fun b => pl.length - b, alis := [(54, 6)] } rfl 0 (Nat.zero_le _) ?_ fun b hb => ?_
        ·have e2 : (pl.take 0).filterMap (fun v => jnRow r0 mx v) = [] := by simp
         have e3 : O ++ ([] : List (List Int)) = O := List.append_nil _
         (repeat' (first | (refine gA fun _ => ?_) | (refine RS_let ?_; intro Kx) | (refine fkI (fun hb => ?_) (fun hb => ?_) <;> (try simp only [ew, e0, e2, e3] at hb)) | (simp only [go_sem, Nat.reduceLeDiff, Nat.reduceEqDiff, reduceIte, reduceCtorEq, Nat.reduceAdd, Nat.reduceMul, Nat.reduceSub, Nat.reduceLT, Int.reduceLT, Int.reduceLE, Int.reduceNeg, Int.reduceToNat, Nat.reduceBEq, Nat.reduceBNe, Int.reduceGE, Int.reduceGT, *, cJnI, cIsTableS, cParts, cMem, cPrj, cJnR, cSortR, Tryz.results12, e0, e2, e3]) | (dsimp only [Kx]; try clear Kx)))
         all_goals first | rfl | skip
        ·dsimp only at b hb
         by_cases h8 : b < pl.length
         ·have q2 := p1' b h8
          have e2 := @fm_take pl (fun v => jnRow r0 mx v) b h8
          try dsimp only at e2
          have b3 := List.length_filterMap_le (fun v => jnRow r0 mx v) (pl.take b)
          rw [List.length_take] at b3
          generalize hv : pl.getD b [] = v at q2 e2
          have hvm : v.length ≤ maxLen := by rw [q2]; exact f5
          generalize hA : (pl.take b).filterMap (fun v => jnRow r0 mx v) = A at e2 b3
          rw [jnRow_opt] at e2
          have mm : ∀ k, k < mx.length → 0 ≤ mx.getD k 0 ∧ (mx.getD k 0).toNat < r0.length := fun k hk => by rw [q1]; exact m1 k hk
          generalize hj : jnO r0 mx v = o at e2
          have hol : o.length ≤ 16777216 := by
           rw [← hj]; unfold jnO; split
           ·rw [jnR_length]; omega
           ·simp
          cases hB : jnB r0 mx v
          ·rw [hB, if_neg (by decide), List.append_nil] at e2
           (repeat' (first | (refine gA fun _ => ?_) | (refine RS_let ?_; intro Kx) | (refine fkI (fun hb => ?_) (fun hb => ?_) <;> (try simp only [ew, hA, hr0, hv, hj, hB, sL_snoc] at hb)) | (simp only [go_sem, Nat.reduceLeDiff, Nat.reduceEqDiff, reduceIte, reduceCtorEq, Nat.reduceAdd, Nat.reduceMul, Nat.reduceSub, Nat.reduceLT, Int.reduceLT, Int.reduceLE, Int.reduceNeg, Int.reduceToNat, Nat.reduceBEq, Nat.reduceBNe, Int.reduceGE, Int.reduceGT, *, cJnI, cIsTableS, cParts, cMem, cPrj, cJnR, cSortR, Tryz.results12, hA, hr0, hv, hj, hB, sL_snoc]) | (dsimp only [Kx]; try clear Kx)))
           refine lpN (b + 1) (by dsimp only; omega) (by dsimp only; omega) ?_
           (repeat' (first | (refine gA fun _ => ?_) | (refine RS_let ?_; intro Kx) | (refine fkI (fun hb => ?_) (fun hb => ?_) <;> (try simp only [ew, e2] at hb)) | (simp only [go_sem, Nat.reduceLeDiff, Nat.reduceEqDiff, reduceIte, reduceCtorEq, Nat.reduceAdd, Nat.reduceMul, Nat.reduceSub, Nat.reduceLT, Int.reduceLT, Int.reduceLE, Int.reduceNeg, Int.reduceToNat, Nat.reduceBEq, Nat.reduceBNe, Int.reduceGE, Int.reduceGT, *, cJnI, cIsTableS, cParts, cMem, cPrj, cJnR, cSortR, Tryz.results12, e2]) | (dsimp only [Kx]; try clear Kx)))
          ·rw [hB, if_pos rfl] at e2
           have e4 : O ++ (A ++ [o]) = (O ++ A) ++ [o] := (List.append_assoc _ _ _).symm
           (repeat' (first | (refine gA fun _ => ?_) | (refine RS_let ?_; intro Kx) | (refine fkI (fun hb => ?_) (fun hb => ?_) <;> (try simp only [ew, hA, hr0, hv, hj, hB, sL_snoc] at hb)) | (simp only [go_sem, Nat.reduceLeDiff, Nat.reduceEqDiff, reduceIte, reduceCtorEq, Nat.reduceAdd, Nat.reduceMul, Nat.reduceSub, Nat.reduceLT, Int.reduceLT, Int.reduceLE, Int.reduceNeg, Int.reduceToNat, Nat.reduceBEq, Nat.reduceBNe, Int.reduceGE, Int.reduceGT, *, cJnI, cIsTableS, cParts, cMem, cPrj, cJnR, cSortR, Tryz.results12, hA, hr0, hv, hj, hB, sL_snoc]) | (dsimp only [Kx]; try clear Kx)))
           refine lpN (b + 1) (by dsimp only; omega) (by dsimp only; omega) ?_
           (repeat' (first | (refine gA fun _ => ?_) | (refine RS_let ?_; intro Kx) | (refine fkI (fun hb => ?_) (fun hb => ?_) <;> (try simp only [ew, e2, e4, sL_snoc] at hb)) | (simp only [go_sem, Nat.reduceLeDiff, Nat.reduceEqDiff, reduceIte, reduceCtorEq, Nat.reduceAdd, Nat.reduceMul, Nat.reduceSub, Nat.reduceLT, Int.reduceLT, Int.reduceLE, Int.reduceNeg, Int.reduceToNat, Nat.reduceBEq, Nat.reduceBNe, Int.reduceGE, Int.reduceGT, *, cJnI, cIsTableS, cParts, cMem, cPrj, cJnR, cSortR, Tryz.results12, e2, e4, sL_snoc]) | (dsimp only [Kx]; try clear Kx)))
         ·have e6 : b = pl.length := by omega
          subst e6
          have e7 : pl.take pl.length = pl := List.take_length
          (repeat' (first | (refine gA fun _ => ?_) | (refine RS_let ?_; intro Kx) | (refine fkI (fun hb => ?_) (fun hb => ?_) <;> (try simp only [ew, e7] at hb)) | (simp only [go_sem, Nat.reduceLeDiff, Nat.reduceEqDiff, reduceIte, reduceCtorEq, Nat.reduceAdd, Nat.reduceMul, Nat.reduceSub, Nat.reduceLT, Int.reduceLT, Int.reduceLE, Int.reduceNeg, Int.reduceToNat, Nat.reduceBEq, Nat.reduceBNe, Int.reduceGE, Int.reduceGT, *, cJnI, cIsTableS, cParts, cMem, cPrj, cJnR, cSortR, Tryz.results12, e7]) | (dsimp only [Kx]; try clear Kx)))
          refine lpN (a + 1) (by dsimp only; omega) (by dsimp only; omega) ?_
          (repeat' (first | (refine gA fun _ => ?_) | (refine RS_let ?_; intro Kx) | (refine fkI (fun hb => ?_) (fun hb => ?_) <;> (try simp only [ew, e7, e1] at hb)) | (simp only [go_sem, Nat.reduceLeDiff, Nat.reduceEqDiff, reduceIte, reduceCtorEq, Nat.reduceAdd, Nat.reduceMul, Nat.reduceSub, Nat.reduceLT, Int.reduceLT, Int.reduceLE, Int.reduceNeg, Int.reduceToNat, Nat.reduceBEq, Nat.reduceBNe, Int.reduceGE, Int.reduceGT, *, cJnI, cIsTableS, cParts, cMem, cPrj, cJnR, cSortR, Tryz.results12, e7, e1]) | (dsimp only [Kx]; try clear Kx)))
       ·have e6 : a = L.length := by omega
        subst e6
        have e7 : L.take L.length = L := List.take_length
        (repeat' (first | (refine gA fun _ => ?_) | (refine RS_let ?_; intro Kx) | (refine fkI (fun hb => ?_) (fun hb => ?_) <;> (try simp only [ew, e7] at hb)) | (simp only [go_sem, Nat.reduceLeDiff, Nat.reduceEqDiff, reduceIte, reduceCtorEq, Nat.reduceAdd, Nat.reduceMul, Nat.reduceSub, Nat.reduceLT, Int.reduceLT, Int.reduceLE, Int.reduceNeg, Int.reduceToNat, Nat.reduceBEq, Nat.reduceBNe, Int.reduceGE, Int.reduceGT, *, cJnI, cIsTableS, cParts, cMem, cPrj, cJnR, cSortR, Tryz.results12, e7]) | (dsimp only [Kx]; try clear Kx)))
        refine lpN (i + 1) (by dsimp only; omega) (by dsimp only; omega) ?_
        (repeat' (first | (refine gA fun _ => ?_) | (refine RS_let ?_; intro Kx) | (refine fkI (fun hb => ?_) (fun hb => ?_) <;> (try simp only [ew, e7, e9] at hb)) | (simp only [go_sem, Nat.reduceLeDiff, Nat.reduceEqDiff, reduceIte, reduceCtorEq, Nat.reduceAdd, Nat.reduceMul, Nat.reduceSub, Nat.reduceLT, Int.reduceLT, Int.reduceLE, Int.reduceNeg, Int.reduceToNat, Nat.reduceBEq, Nat.reduceBNe, Int.reduceGE, Int.reduceGT, *, cJnI, cIsTableS, cParts, cMem, cPrj, cJnR, cSortR, Tryz.results12, e7, e9]) | (dsimp only [Kx]; try clear Kx)))
     ·have e6 : i = ps.length := by omega
      subst e6
      have e7 : ps.take ps.length = ps := List.take_length
      obtain ⟨f1, f2⟩ := hfin ps.length
      rw [e7] at f1 f2
      clear hstep hfin
      generalize hL : jnI rs k ps = L at f1 f2 hend
      have f3 : ∀ r ∈ L, r.length ≤ maxLen := fun r hr => by rw [f2 r hr]; exact Nat.le_trans n5 (by decide)
      have f4 : L.length ≤ maxLen := Nat.le_trans f1 (by decide)
      clear f2
      (repeat' (first | (refine gA fun _ => ?_) | (refine RS_let ?_; intro Kx) | (refine fkI (fun hb => ?_) (fun hb => ?_) <;> (try simp only [ew, e7, hL, hend] at hb)) | (simp only [go_sem, Nat.reduceLeDiff, Nat.reduceEqDiff, reduceIte, reduceCtorEq, Nat.reduceAdd, Nat.reduceMul, Nat.reduceSub, Nat.reduceLT, Int.reduceLT, Int.reduceLE, Int.reduceNeg, Int.reduceToNat, Nat.reduceBEq, Nat.reduceBNe, Int.reduceGE, Int.reduceGT, *, cJnI, cIsTableS, cParts, cMem, cPrj, cJnR, cSortR, Tryz.results12, e7, hL, hend]) | (dsimp only [Kx]; try clear Kx)))
      all_goals first | rfl | skip
end Go.Own
