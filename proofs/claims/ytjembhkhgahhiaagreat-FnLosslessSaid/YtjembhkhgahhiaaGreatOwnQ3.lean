/-
  Projection of a table and the joining of its parts: the reference. Conditions: as each theorem states them.
-/
import Derived.Test.YtjembhkhgahhiaaGreatOwnQ2
import Derived.Test.YtjembhkhgahhiaaGreatOwnG8
import Derived.Test.YtjembhkhgahhiaaGreatOwnE2
set_option linter.unusedSimpArgs false
set_option linter.unusedVariables false
set_option maxRecDepth 20000
set_option maxHeartbeats 4000000
namespace Go.Own
open Go Go.Proofs
attribute [local go_sem] bq1 bq2 bq3 bq4
def prRow (m r : List Int) : List Int := m.map fun k => r.getD k.toNat 0
def prOK (c : Int) (rs : List (List Int)) (x : Int) : Bool := tabOK c rs && isAttr c x && !(x == 0)
def prC (c : Int) (rs : List (List Int)) (x : Int) : Int := if prOK c rs x then ((mem x).length : Int) else 0
def prL (rs : List (List Int)) (x : Int) : List (List Int) := onceL (rs.map (prRow (mem x)))
def prR (c : Int) (rs : List (List Int)) (x : Int) : List (List Int) := if prOK c rs x then prL rs x else []
theorem prRow_take {m r : List Int} {k : Nat} (h : k < m.length) : prRow (m.take (k + 1)) r = prRow (m.take k) r ++ [r.getD (m.getD k 0).toNat 0] := by
 unfold prRow; rw [take_succ_getD h 0, List.map_append]; rfl
theorem prMap_take {m : List Int} {rs : List (List Int)} {i : Nat} (h : i < rs.length) : (rs.take (i + 1)).map (prRow m) = (rs.take i).map (prRow m) ++ [prRow m (rs.getD i [])] := by
 rw [take_succ_getD h [], List.map_append]; rfl
theorem mem_facts {x : Int} : (mem x).length ≤ 5 ∧ (∀ k ∈ mem x, 0 ≤ k ∧ k < 5) := by
 unfold mem
 split
 ·exact ⟨memN_length, fun k hk => by have := memN_range k hk; omega⟩
 ·simp
theorem memN_pair {x : Int} : ∀ {n : Nat}, (memN x n).Pairwise (· < ·)
 | 0 => List.Pairwise.nil
 | n + 1 => by
  rw [memN, List.pairwise_append]
  refine ⟨memN_pair, by split <;> simp, fun a ha b hb => ?_⟩
  have := memN_range a ha
  split at hb
  ·simp at hb; omega
  ·cases hb
theorem mem_pair {x : Int} : (mem x).Pairwise (· < ·) := by
 unfold mem
 split
 ·exact memN_pair
 ·exact List.Pairwise.nil
theorem memN_hasB {x : Int} : ∀ {n : Nat}, ∀ k ∈ memN x n, hasB x k = true
 | 0, k, h => by cases h
 | n + 1, k, h => by
  simp only [memN, List.mem_append] at h
  rcases h with h | h
  ·exact memN_hasB k h
  ·split at h
   ·simp at h; subst h; assumption
   ·cases h
theorem has_lim : ∀ x : Fin 32, ∀ c : Fin 6, x.val < 2 ^ c.val → ∀ k : Fin 5, hasB ((x.val : Nat) : Int) ((k.val : Nat) : Int) = true → k.val < c.val := by decide +kernel
theorem mem_lt {c x : Int} (hc : 1 ≤ c ∧ c ≤ 5) (h : isAttr c x = true) : ∀ k ∈ mem x, 0 ≤ k ∧ k.toNat < c.toNat := by
 intro k hk
 have hf := (@mem_facts x).2 k hk
 have hx := isAttr_le h
 unfold mem at hk
 split at hk
 ·have hb := memN_hasB k hk
  refine ⟨hf.1, ?_⟩
  obtain ⟨a1, a2, a3, a4⟩ := hx
  have hlt : x.toNat < 2 ^ c.toNat := by
   simp only [isAttr, Bool.and_eq_true, inB_iff, all2] at h
   have e2 : ((2 ^ c.toNat : Nat) : Int) = (2 : Int) ^ c.toNat := by simp
   have := h.2
   omega
  have := has_lim ⟨x.toNat, by omega⟩ ⟨c.toNat, by omega⟩ hlt ⟨k.toNat, by omega⟩
  dsimp only at this
  rw [show ((x.toNat : Nat) : Int) = x by omega, show ((k.toNat : Nat) : Int) = k by omega] at this
  exact this hb
 ·cases hk
def cPrj : Contract := ⟨[], false, fun
 | [.agg [.v (.int .i64 c), .sl 1 l], .one (.v (.int .i64 x))] => some (WfS l ∧ -9223372036854775808 ≤ c ∧ c ≤ 9223372036854775807,
   [⟨true, [.d (.v (.int .i64 (prC c (unS l) x))), .d (.sl 1 (sL (prR c (unS l) x)))]⟩], [])
 | _ => none⟩
theorem prjS_ok : ContractOK E0 14 cPrj := by
 refine cWpc (E := E0) (T := mkT Tryz.prog [(58, cIsTableS), (59, cIsAttr), (60, cMem), (61, cOnceL)] false (fun _ => false) true (fun _ => false)) (mkT_ok (E := E0) (.cons isTableS_ok (.cons isAttrS_ok (.cons memS_ok (.cons once_L_ok .nil))))) (fn := Tryz.f14) Tryz.func14 (by kernel_rfl) rfl mixedT (by kernel_rfl) rfl ?_
 intro args p rs ms hr
 unfold cPrj at hr
 dsimp only at hr
 split at hr
 rotate_left
 ·cases hr
 rename_i c l x
 simp only [Option.some.injEq, Prod.mk.injEq] at hr
 obtain ⟨rfl, rfl, rfl⟩ := hr
 refine ⟨rfl, rfl, Nat.le_of_ble_eq_true rfl, ?_⟩
 have hm : maxLen = 9223372036854775807 := rfl
 rintro ⟨h1, hc1, hc2⟩ bs
 obtain ⟨rs, rfl, hx, hy⟩ := h1.ex
 clear h1
 rw [unS_sL]
 unfold prC prR
 have e0 : sL [] = [] := rfl
 cases hok : prOK c rs x
 ·have hok' := hok
  unfold prOK at hok'
  cases ht : tabOK c rs
  ·(repeat' (first | (refine gA fun _ => ?_) | (refine fkI (fun hb => ?_) (fun hb => ?_) <;> (try simp only [ew, e0] at hb)) | (simp only [go_sem, Nat.reduceLeDiff, Nat.reduceEqDiff, reduceIte, reduceCtorEq, Nat.reduceAdd, Nat.reduceMul, Nat.reduceSub, Nat.reduceLT, Int.reduceLT, Int.reduceLE, Int.reduceNeg, Int.reduceToNat, Nat.reduceBEq, Nat.reduceBNe, Int.reduceGE, Int.reduceGT, *, cPrj, cIsTableS, cIsAttr, cMem, cOnceL, Tryz.results14, e0])))
   all_goals first | rfl | skip
  ·cases hi : isAttr c x
   ·(repeat' (first | (refine gA fun _ => ?_) | (refine fkI (fun hb => ?_) (fun hb => ?_) <;> (try simp only [ew, e0] at hb)) | (simp only [go_sem, Nat.reduceLeDiff, Nat.reduceEqDiff, reduceIte, reduceCtorEq, Nat.reduceAdd, Nat.reduceMul, Nat.reduceSub, Nat.reduceLT, Int.reduceLT, Int.reduceLE, Int.reduceNeg, Int.reduceToNat, Nat.reduceBEq, Nat.reduceBNe, Int.reduceGE, Int.reduceGT, *, cPrj, cIsTableS, cIsAttr, cMem, cOnceL, Tryz.results14, e0])))
    all_goals first | rfl | skip
   ·rw [ht, hi] at hok'
    have hz : (x == 0) = true := by simpa using hok'
    (repeat' (first | (refine gA fun _ => ?_) | (refine fkI (fun hb => ?_) (fun hb => ?_) <;> (try simp only [ew, e0, hz] at hb)) | (simp only [go_sem, Nat.reduceLeDiff, Nat.reduceEqDiff, reduceIte, reduceCtorEq, Nat.reduceAdd, Nat.reduceMul, Nat.reduceSub, Nat.reduceLT, Int.reduceLT, Int.reduceLE, Int.reduceNeg, Int.reduceToNat, Nat.reduceBEq, Nat.reduceBNe, Int.reduceGE, Int.reduceGT, *, cPrj, cIsTableS, cIsAttr, cMem, cOnceL, Tryz.results14, e0, hz])))
    all_goals first | rfl | skip
 ·have hok' := hok
  unfold prOK at hok'
  rw [Bool.and_eq_true, Bool.and_eq_true] at hok'
  obtain ⟨⟨ht, hi⟩, hz⟩ := hok'
  have hz : (x == 0) = false := by simpa using hz
  have hc := tab_c ht
  have h40 : rs.length ≤ 40 := by
   have := ht
   simp only [tabOK, Bool.and_eq_true, decide_eq_true_eq] at this
   omega
  have hlen : ∀ i, i < rs.length → ((rs.getD i []).length : Int) = c := fun i h => by
   obtain ⟨c', rfl, _, _, _, q⟩ := tab_rows ht
   rw [q i h]
  obtain ⟨f1, f2⟩ := @mem_facts x
  have f3 := mem_lt hc hi
  rw [if_pos rfl, if_pos rfl]
  unfold prL
  clear hok
  generalize hm : mem x = m at f1 f2 f3 ⊢
  have f4 : ∀ k, k < m.length → 0 ≤ m.getD k 0 ∧ (m.getD k 0).toNat < c.toNat := fun k hk => f3 _ (getD_mem hk 0)
  clear f2 f3
  have g1 : (rs.map (prRow m)).length = rs.length := by simp
  have g2 : ∀ r ∈ rs.map (prRow m), r.length ≤ 5 := fun r hr => by
   obtain ⟨q, _, rfl⟩ := List.mem_map.1 hr
   unfold prRow; simpa using f1
  (repeat' (first | (refine gA fun _ => ?_) | (refine fkI (fun hb => ?_) (fun hb => ?_) <;> (try simp only [ew, e0, hz, hm] at hb)) | (simp only [go_sem, Nat.reduceLeDiff, Nat.reduceEqDiff, reduceIte, reduceCtorEq, Nat.reduceAdd, Nat.reduceMul, Nat.reduceSub, Nat.reduceLT, Int.reduceLT, Int.reduceLE, Int.reduceNeg, Int.reduceToNat, Nat.reduceBEq, Nat.reduceBNe, Int.reduceGE, Int.reduceGT, *, cPrj, cIsTableS, cIsAttr, cMem, cOnceL, Tryz.results14, e0, hz, hm])))
  refine lpI { ι := Nat, rs := [(8, 10), (28, 60)], mods := [(7, fun i => .one (.d (.v (.int .i64 i)))), (6, fun i => .one (.own 1 (sL ((rs.take i).map (prRow m))) 1))], boxes := [(2, fun _ => [.d (.v (.int .i64 c)), .d (.sl 1 (sL rs))]), (4, fun _ => [.d (.v (.int .i64 0)), .d (.v (.slice none 0 0))])], arrs := [(5, fun _ => (1, iL m, 1))], ok := fun i => i ≤ rs.length, mu := fun i => rs.length - i } rfl 0 (Nat.zero_le _) ?_ fun i hi => ?_
  ·clear g2
   (repeat' (first | (refine gA fun _ => ?_) | (refine fkI (fun hb => ?_) (fun hb => ?_) <;> (try simp only [ew, e0] at hb)) | (simp only [go_sem, Nat.reduceLeDiff, Nat.reduceEqDiff, reduceIte, reduceCtorEq, Nat.reduceAdd, Nat.reduceMul, Nat.reduceSub, Nat.reduceLT, Int.reduceLT, Int.reduceLE, Int.reduceNeg, Int.reduceToNat, Nat.reduceBEq, Nat.reduceBNe, Int.reduceGE, Int.reduceGT, *, cPrj, cIsTableS, cIsAttr, cMem, cOnceL, Tryz.results14, e0])))
   all_goals first | rfl | skip
  ·dsimp only at i hi
   by_cases h5 : i < rs.length
   ·have hl := hlen i h5
    have e1 := @prMap_take m rs i h5
    have g3 : ((rs.take i).map (prRow m)).length = i := by simp; omega
    generalize hO : (rs.take i).map (prRow m) = O at e1 g3
    clear g1 g2
    generalize hr : rs.getD i [] = r at e1 hl
    have hrm : r.length ≤ maxLen := by rw [← hr]; exact all_getD hy i
    (repeat' (first | (refine gA fun _ => ?_) | (refine fkI (fun hb => ?_) (fun hb => ?_) <;> (try simp only [ew, e0, hO] at hb)) | (simp only [go_sem, Nat.reduceLeDiff, Nat.reduceEqDiff, reduceIte, reduceCtorEq, Nat.reduceAdd, Nat.reduceMul, Nat.reduceSub, Nat.reduceLT, Int.reduceLT, Int.reduceLE, Int.reduceNeg, Int.reduceToNat, Nat.reduceBEq, Nat.reduceBNe, Int.reduceGE, Int.reduceGT, *, cPrj, cIsTableS, cIsAttr, cMem, cOnceL, Tryz.results14, e0, hO])))
    refine lpI { ι := Nat, rs := [(36, 56)], mods := [(9, fun k => .one (.d (.v (.int .i64 k)))), (8, fun k => .one (.own 1 (iL (prRow (m.take k) r)) 1))], boxes := [(2, fun _ => [.d (.v (.int .i64 c)), .d (.sl 1 (sL rs))]), (4, fun _ => [.d (.v (.int .i64 0)), .d (.v (.slice none 0 0))])], arrs := [(5, fun _ => (1, iL m, 1)), (6, fun _ => (1, sL O, 1))], ok := fun k => k ≤ m.length, mu := fun k => m.length - k } rfl 0 (Nat.zero_le _) ?_ fun k hk => ?_
    ·(repeat' (first | (refine gA fun _ => ?_) | (refine fkI (fun hb => ?_) (fun hb => ?_) <;> (try simp only [ew, e0] at hb)) | (simp only [go_sem, Nat.reduceLeDiff, Nat.reduceEqDiff, reduceIte, reduceCtorEq, Nat.reduceAdd, Nat.reduceMul, Nat.reduceSub, Nat.reduceLT, Int.reduceLT, Int.reduceLE, Int.reduceNeg, Int.reduceToNat, Nat.reduceBEq, Nat.reduceBNe, Int.reduceGE, Int.reduceGT, *, cPrj, cIsTableS, cIsAttr, cMem, cOnceL, Tryz.results14, e0])))
     all_goals first | rfl | skip
    ·dsimp only at k hk
     by_cases h6 : k < m.length
     ·obtain ⟨q1, q2⟩ := f4 k h6
      have e2 := @prRow_take m r k h6
      have g4 : (prRow (m.take k) r).length = k := by unfold prRow; simp; omega
      generalize hP : prRow (m.take k) r = P at e2 g4
      have q3 : (m.getD k 0).toNat < r.length := by omega
      obtain ⟨a, ha⟩ := Int.eq_ofNat_of_zero_le q1
      rw [ha] at q1 q2 q3 e2
      rw [Int.toNat_natCast] at q2 q3 e2
      clear hm f4
      (repeat' (first | (refine gA fun _ => ?_) | (refine fkI (fun hb => ?_) (fun hb => ?_) <;> (try simp only [ew, hr, ha, hP, iL_snoc] at hb)) | (simp only [go_sem, Nat.reduceLeDiff, Nat.reduceEqDiff, reduceIte, reduceCtorEq, Nat.reduceAdd, Nat.reduceMul, Nat.reduceSub, Nat.reduceLT, Int.reduceLT, Int.reduceLE, Int.reduceNeg, Int.reduceToNat, Nat.reduceBEq, Nat.reduceBNe, Int.reduceGE, Int.reduceGT, *, cPrj, cIsTableS, cIsAttr, cMem, cOnceL, Tryz.results14, hr, ha, hP, iL_snoc])))
      refine lpN (k + 1) (by dsimp only; omega) (by dsimp only; omega) ?_
      (repeat' (first | (refine gA fun _ => ?_) | (refine fkI (fun hb => ?_) (fun hb => ?_) <;> (try simp only [ew, e2, iL_snoc] at hb)) | (simp only [go_sem, Nat.reduceLeDiff, Nat.reduceEqDiff, reduceIte, reduceCtorEq, Nat.reduceAdd, Nat.reduceMul, Nat.reduceSub, Nat.reduceLT, Int.reduceLT, Int.reduceLE, Int.reduceNeg, Int.reduceToNat, Nat.reduceBEq, Nat.reduceBNe, Int.reduceGE, Int.reduceGT, *, cPrj, cIsTableS, cIsAttr, cMem, cOnceL, Tryz.results14, e2, iL_snoc])))
     ·have e6 : k = m.length := by omega
      subst e6
      have e7 : m.take m.length = m := List.take_length
      (repeat' (first | (refine gA fun _ => ?_) | (refine fkI (fun hb => ?_) (fun hb => ?_) <;> (try simp only [ew, e7, sL_snoc] at hb)) | (simp only [go_sem, Nat.reduceLeDiff, Nat.reduceEqDiff, reduceIte, reduceCtorEq, Nat.reduceAdd, Nat.reduceMul, Nat.reduceSub, Nat.reduceLT, Int.reduceLT, Int.reduceLE, Int.reduceNeg, Int.reduceToNat, Nat.reduceBEq, Nat.reduceBNe, Int.reduceGE, Int.reduceGT, *, cPrj, cIsTableS, cIsAttr, cMem, cOnceL, Tryz.results14, e7, sL_snoc])))
      refine lpN (i + 1) (by dsimp only; omega) (by dsimp only; omega) ?_
      (repeat' (first | (refine gA fun _ => ?_) | (refine fkI (fun hb => ?_) (fun hb => ?_) <;> (try simp only [ew, e1, sL_snoc] at hb)) | (simp only [go_sem, Nat.reduceLeDiff, Nat.reduceEqDiff, reduceIte, reduceCtorEq, Nat.reduceAdd, Nat.reduceMul, Nat.reduceSub, Nat.reduceLT, Int.reduceLT, Int.reduceLE, Int.reduceNeg, Int.reduceToNat, Nat.reduceBEq, Nat.reduceBNe, Int.reduceGE, Int.reduceGT, *, cPrj, cIsTableS, cIsAttr, cMem, cOnceL, Tryz.results14, e1, sL_snoc])))
   ·have e5 : i = rs.length := by omega
    subst e5
    have e7 : rs.take rs.length = rs := List.take_length
    generalize hO : rs.map (prRow m) = O at g1 g2 ⊢
    have g3 : ∀ r ∈ O, r.length ≤ 16777216 := fun r hr => by have := g2 r hr; omega
    have g4 : ∀ r ∈ O, r.length ≤ maxLen := fun r hr => Nat.le_trans (g2 r hr) (by decide)
    have g5 : O.length ≤ maxLen := Nat.le_trans (show O.length ≤ 40 by omega) (by decide)
    (repeat' (first | (refine gA fun _ => ?_) | (refine fkI (fun hb => ?_) (fun hb => ?_) <;> (try simp only [ew, e7, hO] at hb)) | (simp only [go_sem, Nat.reduceLeDiff, Nat.reduceEqDiff, reduceIte, reduceCtorEq, Nat.reduceAdd, Nat.reduceMul, Nat.reduceSub, Nat.reduceLT, Int.reduceLT, Int.reduceLE, Int.reduceNeg, Int.reduceToNat, Nat.reduceBEq, Nat.reduceBNe, Int.reduceGE, Int.reduceGT, *, cPrj, cIsTableS, cIsAttr, cMem, cOnceL, Tryz.results14, e7, hO])))
    all_goals first | rfl | skip
end Go.Own
