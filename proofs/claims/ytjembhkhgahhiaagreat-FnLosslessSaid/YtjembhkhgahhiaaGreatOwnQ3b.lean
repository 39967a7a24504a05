/-
  A step of the joining: the reference. Conditions: as each theorem states them.
-/
import Derived.Test.YtjembhkhgahhiaaGreatOwnQ3
import Derived.Test.YtjembhkhgahhiaaGreatOwnLt
set_option linter.unusedSimpArgs false
set_option linter.unusedVariables false
set_option maxRecDepth 20000
set_option maxHeartbeats 4000000
namespace Go.Own
open Go Go.Proofs
attribute [local go_sem] bq1 bq2 bq3 bq4
attribute [local go_sem ↓ 10000] wpc_regionL
structure ExB (l p : List (List Int)) (m : List Int) (n : Nat) : Prop where
  m1 : ∀ k, k < m.length → 0 ≤ m.getD k 0 ∧ (m.getD k 0).toNat < n
  m2 : m.length ≤ 5
  n5 : n ≤ 5
  l1 : ∀ r ∈ l, r.length = n
  p1 : ∀ v ∈ p, v.length = m.length
  l2 : l.length ≤ 200000
  p2 : p.length ≤ 40
def cExt : Contract := ⟨[], false, fun
 | [.one (.sl 1 l), .agg [.v (.int .i64 c), .sl 1 p], .one (.sl 1 m)] => some (WfS l ∧ WfS p ∧ WfI m ∧ (∃ n, ExB (unS l) (unS p) (unI m) n) ∧ -9223372036854775808 ≤ c ∧ c ≤ 9223372036854775807,
   [⟨false, [.d (.sl 1 (sL (onceL (extI (unS l) (unS p) (unI m)))))]⟩], [])
 | _ => none⟩
theorem ext_take {l p : List (List Int)} {m : List Int} {i : Nat} (h : i < l.length) : extI (l.take (i + 1)) p m = extI (l.take i) p m ++ p.filterMap fun v => jnRow (l.getD i []) m v := by
 unfold extI; rw [take_succ_getD h [], List.flatMap_append]; simp
theorem fm_take {p : List (List Int)} {f : List Int → Option (List Int)} {k : Nat} (h : k < p.length) : (p.take (k + 1)).filterMap f = (p.take k).filterMap f ++ (f (p.getD k [])).toList := by
 rw [take_succ_getD h [], List.filterMap_append]
 congr 1
structure JI (n : Nat) (r0 m v : List Int) (z : Nat × List Int × Bool) : Prop where
  j : z.1 ≤ m.length
  len : z.2.1.length = n
  row : jnR z.2.1 (m.drop z.1) (v.drop z.1) = jnR r0 m v
  ok : (z.2.2 && jnB z.2.1 (m.drop z.1) (v.drop z.1)) = jnB r0 m v
theorem JI.step {n : Nat} {r0 m v r : List Int} {j : Nat} {f : Bool} (h : JI n r0 m v (j, r, f)) (hj : j < m.length) (hl : v.length = m.length) :
  JI n r0 m v (j + 1, r.set (m.getD j 0).toNat (v.getD j 0), f && (r.getD (m.getD j 0).toNat 0 == -2 || r.getD (m.getD j 0).toNat 0 == v.getD j 0)) := by
 obtain ⟨h1, h2, h3, h4⟩ := h
 dsimp only at h1 h2 h3 h4
 rw [drop_getD hj 0, drop_getD (show j < v.length by omega) 0] at h3 h4
 rw [jnR] at h3
 rw [jnB] at h4
 exact ⟨by dsimp only; omega, by dsimp only; rw [List.length_set]; exact h2, h3, by dsimp only; rw [Bool.and_assoc]; exact h4⟩
theorem JI.done {n : Nat} {r0 m v r : List Int} {f : Bool} (h : JI n r0 m v (m.length, r, f)) (hl : v.length = m.length) : r = jnR r0 m v ∧ f = jnB r0 m v := by
 obtain ⟨h1, h2, h3, h4⟩ := h
 dsimp only at h3 h4
 rw [List.drop_length] at h3 h4
 exact ⟨by rw [← h3, jnR]; simp, by rw [← h4, jnB, Bool.and_true]; simp⟩
theorem ext_ok : ContractOK E0 75 cExt := by
 refine cWpc (E := E0) (T := mkT Tryz.prog [(61, cOnceL)] false (fun _ => false) true (fun _ => false)) (mkT_ok (E := E0) (.cons once_L_ok .nil)) (fn := Tryz.f75) Tryz.func75 (by kernel_rfl) rfl mixedT (by kernel_rfl) rfl ?_
 intro args p rs ms hr
 unfold cExt at hr
 dsimp only at hr
 split at hr
 rotate_left
 ·cases hr
 rename_i l c p m
 simp only [Option.some.injEq, Prod.mk.injEq] at hr
 obtain ⟨rfl, rfl, rfl⟩ := hr
 refine ⟨rfl, rfl, Nat.le_of_ble_eq_true rfl, ?_⟩
 have hm : maxLen = 9223372036854775807 := rfl
 rintro ⟨h1, h2, h3, ⟨n, hb⟩, hc1, hc2⟩ bs
 obtain ⟨ls, rfl, hx1, hy1⟩ := h1.ex
 obtain ⟨ps, rfl, hx2, hy2⟩ := h2.ex
 obtain ⟨ms, rfl, hx3⟩ := h3.ex
 clear h1 h2 h3
 rw [unS_sL, unS_sL, unI_iL] at *
 obtain ⟨m1, m2, n5, l1, p1, l2, p2⟩ := hb
 have e0 : sL [] = [] := rfl
 have l1' : ∀ i, i < ls.length → (ls.getD i []).length = n := fun i hi => l1 _ (getD_mem hi [])
 have p1' : ∀ i, i < ps.length → (ps.getD i []).length = ms.length := fun i hi => p1 _ (getD_mem hi [])
 have hall : ∀ r ∈ extI ls ps ms, r.length = n := fun r hr => by
  obtain ⟨q, hq, v, hv, hj⟩ := extI_mem.1 hr
  rw [(jnRow_some hj).2, jnR_length]; exact l1 q hq
 clear l1 p1
 have hel := @extI_length ls ps ms
 have hel2 : ls.length * ps.length ≤ 200000 * 40 := Nat.mul_le_mul l2 p2
 (repeat' (first | (refine gA fun _ => ?_) | (refine RS_let ?_; intro Kx) | (refine fkI (fun hb => ?_) (fun hb => ?_) <;> (try simp only [ew, e0] at hb)) | (simp only [go_sem, Nat.reduceLeDiff, Nat.reduceEqDiff, reduceIte, reduceCtorEq, Nat.reduceAdd, Nat.reduceMul, Nat.reduceSub, Nat.reduceLT, Int.reduceLT, Int.reduceLE, Int.reduceNeg, Int.reduceToNat, Nat.reduceBEq, Nat.reduceBNe, Int.reduceGE, Int.reduceGT, *, cExt, cOnceL, Tryz.results75, e0]) | (dsimp only [Kx]; try clear Kx)))
 refine lpI { ι := Nat, rs := [(9, 13), (14, 87)], mods := [(8, fun i => .one (.d (.v (.int .i64 i)))), (7, fun i => .one (.own 1 (sL (extI (ls.take i) ps ms)) 1))], boxes := [(4, fun _ => [.d (.v (.int .i64 c)), .d (.sl 1 (sL ps))])], arrs := [], ok := fun i => i ≤ ls.length, mu := fun i => ls.length - i } rfl 0 (Nat.zero_le _) ?_ fun i hi => ?_
 ·clear hall
  (repeat' (first | (refine gA fun _ => ?_) | (refine RS_let ?_; intro Kx) | (refine fkI (fun hb => ?_) (fun hb => ?_) <;> (try simp only [ew, e0] at hb)) | (simp only [go_sem, Nat.reduceLeDiff, Nat.reduceEqDiff, reduceIte, reduceCtorEq, Nat.reduceAdd, Nat.reduceMul, Nat.reduceSub, Nat.reduceLT, Int.reduceLT, Int.reduceLE, Int.reduceNeg, Int.reduceToNat, Nat.reduceBEq, Nat.reduceBNe, Int.reduceGE, Int.reduceGT, *, cExt, cOnceL, Tryz.results75, e0]) | (dsimp only [Kx]; try clear Kx)))
  all_goals first | rfl | skip
 ·dsimp only at i hi
  by_cases h5 : i < ls.length
  ·have q1 := l1' i h5
   have e1 := @ext_take ls ps ms i h5
   have b1 := @extI_length (ls.take i) ps ms
   have b2 : (ls.take i).length * ps.length ≤ 200000 * 40 := Nat.mul_le_mul (by rw [List.length_take]; omega) p2
   clear hall hel hel2
   generalize hO : extI (ls.take i) ps ms = O at e1 b1
   have hr0m := all_getD hy1 i
   generalize hr0 : ls.getD i [] = r0 at q1 e1 hr0m
   (repeat' (first | (refine gA fun _ => ?_) | (refine RS_let ?_; intro Kx) | (refine fkI (fun hb => ?_) (fun hb => ?_) <;> (try simp only [ew, e0, hO] at hb)) | (simp only [go_sem, Nat.reduceLeDiff, Nat.reduceEqDiff, reduceIte, reduceCtorEq, Nat.reduceAdd, Nat.reduceMul, Nat.reduceSub, Nat.reduceLT, Int.reduceLT, Int.reduceLE, Int.reduceNeg, Int.reduceToNat, Nat.reduceBEq, Nat.reduceBNe, Int.reduceGE, Int.reduceGT, *, cExt, cOnceL, Tryz.results75, e0, hO]) | (dsimp only [Kx]; try clear Kx)))
   refine lpI { ι := Nat, rs := [(10, 13), (20, 87)], mods := [(9, fun k => .one (.d (.v (.int .i64 k)))), (7, fun k => .one (.own 1 (sL (O ++ (ps.take k).filterMap fun v => jnRow r0 ms v)) 1))], boxes := [(4, fun _ => [.d (.v (.int .i64 c)), .d (.sl 1 (sL ps))])], arrs := [], ok := fun k => k ≤ ps.length, mu := fun k => ps.length - k } rfl 0 (Nat.zero_le _) ?_ fun k hk => ?_
   ·have e2 : (ps.take 0).filterMap (fun v => jnRow r0 ms v) = [] := by simp
    have e3 : O ++ ([] : List (List Int)) = O := List.append_nil _
    (repeat' (first | (refine gA fun _ => ?_) | (refine RS_let ?_; intro Kx) | (refine fkI (fun hb => ?_) (fun hb => ?_) <;> (try simp only [ew, e0, e2, e3] at hb)) | (simp only [go_sem, Nat.reduceLeDiff, Nat.reduceEqDiff, reduceIte, reduceCtorEq, Nat.reduceAdd, Nat.reduceMul, Nat.reduceSub, Nat.reduceLT, Int.reduceLT, Int.reduceLE, Int.reduceNeg, Int.reduceToNat, Nat.reduceBEq, Nat.reduceBNe, Int.reduceGE, Int.reduceGT, *, cExt, cOnceL, Tryz.results75, e0, e2, e3]) | (dsimp only [Kx]; try clear Kx)))
    all_goals first | rfl | skip
   ·as_aux_lemma =>
    dsimp only at k hk
    by_cases h6 : k < ps.length
    ·have q2 := p1' k h6
     have e2 := @fm_take ps (fun v => jnRow r0 ms v) k h6
     try dsimp only at e2
     have b3 := List.length_filterMap_le (fun v => jnRow r0 ms v) (ps.take k)
     rw [List.length_take] at b3
     have hvm := all_getD hy2 k
     generalize hv : ps.getD k [] = v at q2 e2 hvm
     generalize hA : (ps.take k).filterMap (fun v => jnRow r0 ms v) = A at e2 b3
     (repeat' (first | (refine gA fun _ => ?_) | (refine RS_let ?_; intro Kx) | (refine fkI (fun hb => ?_) (fun hb => ?_) <;> (try simp only [ew, hA, hr0, iL_allscal] at hb)) | (simp only [go_sem, Nat.reduceLeDiff, Nat.reduceEqDiff, reduceIte, reduceCtorEq, Nat.reduceAdd, Nat.reduceMul, Nat.reduceSub, Nat.reduceLT, Int.reduceLT, Int.reduceLE, Int.reduceNeg, Int.reduceToNat, Nat.reduceBEq, Nat.reduceBNe, Int.reduceGE, Int.reduceGT, *, cExt, cOnceL, Tryz.results75, hA, hr0, iL_allscal]) | (dsimp only [Kx]; try clear Kx)))
     refine lpI { ι := Nat × List Int × Bool, rs := [(33, 82)], mods := [(12, fun z => .one (.d (.v (.int .i64 z.1)))), (11, fun z => .one (.d (.v (.bool z.2.2))))], boxes := [(4, fun _ => [.d (.v (.int .i64 c)), .d (.sl 1 (sL ps))])], arrs := [(7, fun _ => (1, sL (O ++ A), 1)), (10, fun z => (1, iL z.2.1, 1))], ok := JI n r0 ms v, mu := fun z => ms.length - z.1 } rfl (0, r0, true) ⟨Nat.zero_le _, q1, rfl, by simp⟩ ?_ ?_
     ·(repeat' (first | (refine gA fun _ => ?_) | (refine RS_let ?_; intro Kx) | (refine fkI (fun hb => ?_) (fun hb => ?_) <;> (try simp only [ew] at hb)) | (simp only [go_sem, Nat.reduceLeDiff, Nat.reduceEqDiff, reduceIte, reduceCtorEq, Nat.reduceAdd, Nat.reduceMul, Nat.reduceSub, Nat.reduceLT, Int.reduceLT, Int.reduceLE, Int.reduceNeg, Int.reduceToNat, Nat.reduceBEq, Nat.reduceBNe, Int.reduceGE, Int.reduceGT, *, cExt, cOnceL, Tryz.results75]) | (dsimp only [Kx]; try clear Kx)))
      all_goals first | rfl | skip
     ·as_aux_lemma =>
      rintro ⟨j, r, f⟩ hj
      refine round_let ?_
      intro Qx sx
      have s2 : sx.sl 2 = .one (.d (.sl 1 (iL ms))) := by simp only [sx, go_sem, Nat.reduceLeDiff, Nat.reduceEqDiff, reduceIte, reduceCtorEq, Nat.reduceAdd, Nat.reduceMul, Nat.reduceSub, Nat.reduceLT, Int.reduceLT, Int.reduceLE, Int.reduceNeg, Int.reduceToNat, Nat.reduceBEq, Nat.reduceBNe, Int.reduceGE, Int.reduceGT]
      have s9 : sx.sl 9 = .one (.d (.v (.int .i64 k))) := by simp only [sx, go_sem, Nat.reduceLeDiff, Nat.reduceEqDiff, reduceIte, reduceCtorEq, Nat.reduceAdd, Nat.reduceMul, Nat.reduceSub, Nat.reduceLT, Int.reduceLT, Int.reduceLE, Int.reduceNeg, Int.reduceToNat, Nat.reduceBEq, Nat.reduceBNe, Int.reduceGE, Int.reduceGT]
      have s85 : sx.sl 85 = .any := by simp only [sx, go_sem, Nat.reduceLeDiff, Nat.reduceEqDiff, reduceIte, reduceCtorEq, Nat.reduceAdd, Nat.reduceMul, Nat.reduceSub, Nat.reduceLT, Int.reduceLT, Int.reduceLE, Int.reduceNeg, Int.reduceToNat, Nat.reduceBEq, Nat.reduceBNe, Int.reduceGE, Int.reduceGT]
      have s86 : sx.sl 86 = .any := by simp only [sx, go_sem, Nat.reduceLeDiff, Nat.reduceEqDiff, reduceIte, reduceCtorEq, Nat.reduceAdd, Nat.reduceMul, Nat.reduceSub, Nat.reduceLT, Int.reduceLT, Int.reduceLE, Int.reduceNeg, Int.reduceToNat, Nat.reduceBEq, Nat.reduceBNe, Int.reduceGE, Int.reduceGT]
      clear_value sx
      have hj1 := hj.j
      have hj2 := hj.len
      dsimp only at hj1 hj2
      by_cases h7 : j < ms.length
      ·obtain ⟨q3, q4⟩ := m1 j h7
       have hst := hj.step h7 q2
       clear hj
       obtain ⟨a, ha⟩ := Int.eq_ofNat_of_zero_le q3
       rw [ha] at q3 q4 hst
       rw [Int.toNat_natCast] at q4 hst
       have q5 : a < r.length := by omega
       have q6 : j < v.length := by omega
       clear m1 l1' p1'
       as_aux_lemma =>
       (repeat' (first | (refine gA fun _ => ?_) | (refine RS_let ?_; intro Kx) | (refine fkI (fun hb => ?_) (fun hb => ?_) <;> (try simp only [ew, ha, hv] at hb)) | (simp only [go_sem, Nat.reduceLeDiff, Nat.reduceEqDiff, reduceIte, reduceCtorEq, Nat.reduceAdd, Nat.reduceMul, Nat.reduceSub, Nat.reduceLT, Int.reduceLT, Int.reduceLE, Int.reduceNeg, Int.reduceToNat, Nat.reduceBEq, Nat.reduceBNe, Int.reduceGE, Int.reduceGT, *, cExt, cOnceL, Tryz.results75, ha, hv]) | (dsimp only [Kx]; try clear Kx)))
       refine lpN (j + 1, r.set a (v.getD j 0), f && (r.getD a 0 == -2 || r.getD a 0 == v.getD j 0)) hst (by dsimp only; omega) ?_
       clear hst
       as_aux_lemma =>
       (repeat' (first | (refine gA fun _ => ?_) | (refine RS_let ?_; intro Kx) | (refine fkI (fun hb => ?_) (fun hb => ?_) <;> (try simp only [ew, ha, hv] at hb)) | (simp only [go_sem, Nat.reduceLeDiff, Nat.reduceEqDiff, reduceIte, reduceCtorEq, Nat.reduceAdd, Nat.reduceMul, Nat.reduceSub, Nat.reduceLT, Int.reduceLT, Int.reduceLE, Int.reduceNeg, Int.reduceToNat, Nat.reduceBEq, Nat.reduceBNe, Int.reduceGE, Int.reduceGT, *, cExt, cOnceL, Tryz.results75, ha, hv]) | (dsimp only [Kx]; try clear Kx)))
       all_goals first | rfl | skip
      ·have e6 : j = ms.length := by omega
       subst e6
       obtain ⟨d1, d2⟩ := hj.done q2
       clear hj
       rw [jnRow_eq, ← d1, ← d2] at e2
       cases f
       ·rw [if_neg (by decide)] at e2
        have e3 : A ++ Option.toList (none : Option (List Int)) = A := by simp
        rw [e3] at e2
        clear m1 l1' p1' d1 d2
        as_aux_lemma =>
        (repeat' (first | (refine gA fun _ => ?_) | (refine RS_let ?_; intro Kx) | (refine fkI (fun hb => ?_) (fun hb => ?_) <;> (try simp only [ew] at hb)) | (simp only [go_sem, Nat.reduceLeDiff, Nat.reduceEqDiff, reduceIte, reduceCtorEq, Nat.reduceAdd, Nat.reduceMul, Nat.reduceSub, Nat.reduceLT, Int.reduceLT, Int.reduceLE, Int.reduceNeg, Int.reduceToNat, Nat.reduceBEq, Nat.reduceBNe, Int.reduceGE, Int.reduceGT, *, cExt, cOnceL, Tryz.results75]) | (dsimp only [Kx]; try clear Kx)))
        dsimp only [Qx]
        clear Qx
        as_aux_lemma =>
        (repeat' (first | (refine gA fun _ => ?_) | (refine RS_let ?_; intro Kx) | (refine fkI (fun hb => ?_) (fun hb => ?_) <;> (try simp only [ew] at hb)) | (simp only [go_sem, Nat.reduceLeDiff, Nat.reduceEqDiff, reduceIte, reduceCtorEq, Nat.reduceAdd, Nat.reduceMul, Nat.reduceSub, Nat.reduceLT, Int.reduceLT, Int.reduceLE, Int.reduceNeg, Int.reduceToNat, Nat.reduceBEq, Nat.reduceBNe, Int.reduceGE, Int.reduceGT, *, cExt, cOnceL, Tryz.results75])
))
        dsimp only [Kx]
        clear Kx
        as_aux_lemma =>
        (repeat' (first | (refine gA fun _ => ?_) | (refine RS_let ?_; intro Kx) | (refine fkI (fun hb => ?_) (fun hb => ?_) <;> (try simp only [ew] at hb)) | (simp only [go_sem, Nat.reduceLeDiff, Nat.reduceEqDiff, reduceIte, reduceCtorEq, Nat.reduceAdd, Nat.reduceMul, Nat.reduceSub, Nat.reduceLT, Int.reduceLT, Int.reduceLE, Int.reduceNeg, Int.reduceToNat, Nat.reduceBEq, Nat.reduceBNe, Int.reduceGE, Int.reduceGT, *, cExt, cOnceL, Tryz.results75]) | (dsimp only [Kx]; try clear Kx)))
        refine lpN (k + 1) (by dsimp only; omega) (by dsimp only; omega) ?_
        as_aux_lemma =>
        (repeat' (first | (refine gA fun _ => ?_) | (refine RS_let ?_; intro Kx) | (refine fkI (fun hb => ?_) (fun hb => ?_) <;> (try simp only [ew, e2] at hb)) | (simp only [go_sem, Nat.reduceLeDiff, Nat.reduceEqDiff, reduceIte, reduceCtorEq, Nat.reduceAdd, Nat.reduceMul, Nat.reduceSub, Nat.reduceLT, Int.reduceLT, Int.reduceLE, Int.reduceNeg, Int.reduceToNat, Nat.reduceBEq, Nat.reduceBNe, Int.reduceGE, Int.reduceGT, *, cExt, cOnceL, Tryz.results75, e2]) | (dsimp only [Kx]; try clear Kx)))
       ·rw [if_pos rfl] at e2
        have e3 : A ++ Option.toList (some r) = A ++ [r] := rfl
        rw [e3] at e2
        have e4 : O ++ (A ++ [r]) = (O ++ A) ++ [r] := (List.append_assoc _ _ _).symm
        clear m1 l1' p1' d1 d2
        as_aux_lemma =>
        (repeat' (first | (refine gA fun _ => ?_) | (refine RS_let ?_; intro Kx) | (refine fkI (fun hb => ?_) (fun hb => ?_) <;> (try simp only [ew, sL_snoc] at hb)) | (simp only [go_sem, Nat.reduceLeDiff, Nat.reduceEqDiff, reduceIte, reduceCtorEq, Nat.reduceAdd, Nat.reduceMul, Nat.reduceSub, Nat.reduceLT, Int.reduceLT, Int.reduceLE, Int.reduceNeg, Int.reduceToNat, Nat.reduceBEq, Nat.reduceBNe, Int.reduceGE, Int.reduceGT, *, cExt, cOnceL, Tryz.results75, sL_snoc]) | (dsimp only [Kx]; try clear Kx)))
        dsimp only [Qx]
        clear Qx
        as_aux_lemma =>
        (repeat' (first | (refine gA fun _ => ?_) | (refine RS_let ?_; intro Kx) | (refine fkI (fun hb => ?_) (fun hb => ?_) <;> (try simp only [ew, sL_snoc] at hb)) | (simp only [go_sem, Nat.reduceLeDiff, Nat.reduceEqDiff, reduceIte, reduceCtorEq, Nat.reduceAdd, Nat.reduceMul, Nat.reduceSub, Nat.reduceLT, Int.reduceLT, Int.reduceLE, Int.reduceNeg, Int.reduceToNat, Nat.reduceBEq, Nat.reduceBNe, Int.reduceGE, Int.reduceGT, *, cExt, cOnceL, Tryz.results75, sL_snoc])
))
        dsimp only [Kx]
        clear Kx
        as_aux_lemma =>
        (repeat' (first | (refine gA fun _ => ?_) | (refine RS_let ?_; intro Kx) | (refine fkI (fun hb => ?_) (fun hb => ?_) <;> (try simp only [ew, sL_snoc] at hb)) | (simp only [go_sem, Nat.reduceLeDiff, Nat.reduceEqDiff, reduceIte, reduceCtorEq, Nat.reduceAdd, Nat.reduceMul, Nat.reduceSub, Nat.reduceLT, Int.reduceLT, Int.reduceLE, Int.reduceNeg, Int.reduceToNat, Nat.reduceBEq, Nat.reduceBNe, Int.reduceGE, Int.reduceGT, *, cExt, cOnceL, Tryz.results75, sL_snoc]) | (dsimp only [Kx]; try clear Kx)))
        refine lpN (k + 1) (by dsimp only; omega) (by dsimp only; omega) ?_
        as_aux_lemma =>
        (repeat' (first | (refine gA fun _ => ?_) | (refine RS_let ?_; intro Kx) | (refine fkI (fun hb => ?_) (fun hb => ?_) <;> (try simp only [ew, e2, e4, sL_snoc] at hb)) | (simp only [go_sem, Nat.reduceLeDiff, Nat.reduceEqDiff, reduceIte, reduceCtorEq, Nat.reduceAdd, Nat.reduceMul, Nat.reduceSub, Nat.reduceLT, Int.reduceLT, Int.reduceLE, Int.reduceNeg, Int.reduceToNat, Nat.reduceBEq, Nat.reduceBNe, Int.reduceGE, Int.reduceGT, *, cExt, cOnceL, Tryz.results75, e2, e4, sL_snoc]) | (dsimp only [Kx]; try clear Kx)))
    ·have e6 : k = ps.length := by omega
     subst e6
     have e7 : ps.take ps.length = ps := List.take_length
     (repeat' (first | (refine gA fun _ => ?_) | (refine RS_let ?_; intro Kx) | (refine fkI (fun hb => ?_) (fun hb => ?_) <;> (try simp only [ew, e7] at hb)) | (simp only [go_sem, Nat.reduceLeDiff, Nat.reduceEqDiff, reduceIte, reduceCtorEq, Nat.reduceAdd, Nat.reduceMul, Nat.reduceSub, Nat.reduceLT, Int.reduceLT, Int.reduceLE, Int.reduceNeg, Int.reduceToNat, Nat.reduceBEq, Nat.reduceBNe, Int.reduceGE, Int.reduceGT, *, cExt, cOnceL, Tryz.results75, e7]) | (dsimp only [Kx]; try clear Kx)))
     refine lpN (i + 1) (by dsimp only; omega) (by dsimp only; omega) ?_
     (repeat' (first | (refine gA fun _ => ?_) | (refine RS_let ?_; intro Kx) | (refine fkI (fun hb => ?_) (fun hb => ?_) <;> (try simp only [ew, e7, e1] at hb)) | (simp only [go_sem, Nat.reduceLeDiff, Nat.reduceEqDiff, reduceIte, reduceCtorEq, Nat.reduceAdd, Nat.reduceMul, Nat.reduceSub, Nat.reduceLT, Int.reduceLT, Int.reduceLE, Int.reduceNeg, Int.reduceToNat, Nat.reduceBEq, Nat.reduceBNe, Int.reduceGE, Int.reduceGT, *, cExt, cOnceL, Tryz.results75, e7, e1]) | (dsimp only [Kx]; try clear Kx)))
  ·have e5 : i = ls.length := by omega
   subst e5
   have e7 : ls.take ls.length = ls := List.take_length
   generalize hO : extI ls ps ms = O at hall hel ⊢
   have g3 : ∀ r ∈ O, r.length ≤ 16777216 := fun r hr => by have := hall r hr; omega
   have g4 : ∀ r ∈ O, r.length ≤ maxLen := fun r hr => by have := hall r hr; omega
   have g5 : O.length ≤ 16777216 := by omega
   have g6 : O.length ≤ maxLen := Nat.le_trans g5 (by decide)
   clear hall m1 l1' p1'
   (repeat' (first | (refine gA fun _ => ?_) | (refine RS_let ?_; intro Kx) | (refine fkI (fun hb => ?_) (fun hb => ?_) <;> (try simp only [ew, e7, hO] at hb)) | (simp only [go_sem, Nat.reduceLeDiff, Nat.reduceEqDiff, reduceIte, reduceCtorEq, Nat.reduceAdd, Nat.reduceMul, Nat.reduceSub, Nat.reduceLT, Int.reduceLT, Int.reduceLE, Int.reduceNeg, Int.reduceToNat, Nat.reduceBEq, Nat.reduceBNe, Int.reduceGE, Int.reduceGT, *, cExt, cOnceL, Tryz.results75, e7, hO]) | (dsimp only [Kx]; try clear Kx)))
   all_goals first | rfl | skip
end Go.Own
