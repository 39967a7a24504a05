/- Own contracts. Conditions: as each theorem states them. -/
import Derived.Test.YtjembhkhgahhiaaGreatOwnY1
import Derived.Test.YtjembhkhgahhiaaGreatOwnE1
import Derived.Test.YtjembhkhgahhiaaGreatOwnC7
set_option linter.unusedSimpArgs false
set_option linter.unusedVariables false
set_option maxRecDepth 20000
set_option maxHeartbeats 2000000
namespace Go.Own
open Go Go.Proofs
attribute [local go_sem] unD_dL dL_length dL_get dL_set dL_inj wfD_dL scal2 beq2 pair_eta
def csOut (n : Int) (ds : List (Int × Int)) (rs : List (List Int)) : List (List Int) := (csStep n ds rs).getD rs
def cStep : Contract := ⟨[], false, fun
 | [.one (.v (.int .i64 n)), .one (.sl 2 l), .one (.sl 1 t)] => some (WfD l ∧ WfS t ∧ (t.length ≤ 16777216 ∧ ∀ r ∈ unS t, r.length ≤ 16777216) ∧ -9223372036854775808 ≤ n ∧ n ≤ 9223372036854775807,
   [⟨false, [.own 1 (sL (csOut n (unD l) (unS t))) 1]⟩, ⟨false, [.d (.v (.bool (csStep n (unD l) (unS t)).isSome))]⟩], [])
 | _ => none⟩
theorem rows_facts {n : Int} {ds : List (Int × Int)} {rs : List (List Int)} (h : (depsOK n ds && rowsOK n rs) = true) : ∃ c : Nat, n = c ∧ 1 ≤ c ∧ c ≤ 5 ∧ rs.length ≤ 40 ∧ ds.length ≤ 20 ∧ (∀ r ∈ rs, r.length = c) ∧
  (∀ i, i < rs.length → (rs.getD i []).length = c) ∧ (∀ i, i < ds.length → askOK n rs 0 (ds.getD i (0, 0)).1 (ds.getD i (0, 0)).2 = true ∧ 0 ≤ (ds.getD i (0, 0)).2 ∧ (ds.getD i (0, 0)).2 < n) := by
 simp only [Bool.and_eq_true] at h
 obtain ⟨h1, h2⟩ := h
 simp only [depsOK, rowsOK, Bool.and_eq_true, inB_iff, decide_eq_true_eq, List.all_eq_true] at h1 h2
 obtain ⟨h1, ⟨h3, h4⟩, h5⟩ := h1
 obtain ⟨h6, h7⟩ := h2
 obtain ⟨c, rfl⟩ := Int.eq_ofNat_of_zero_le (show 0 ≤ n by omega)
 have hr : ∀ r ∈ rs, rowOK r c = true := fun r hr => by
  have := h6 r hr
  simp only [rowG, Bool.and_eq_true] at this
  exact this.1
 have ht : tabOK c rs = true := by
  simp only [tabOK, Bool.and_eq_true, inB_iff, decide_eq_true_eq, List.all_eq_true]
  exact ⟨hr, ⟨h3, h4⟩, h7⟩
 have hl : ∀ r ∈ rs, r.length = c := fun r h => by
  have := hr r h
  simp only [rowOK, Bool.and_eq_true, decide_eq_true_eq] at this
  omega
 refine ⟨c, rfl, by omega, by omega, by omega, by omega, hl, fun i hi => hl _ (getD_mem hi []), fun i hi => ?_⟩
 have hd := h1 _ (getD_mem hi (0, 0))
 refine ⟨?_, ?_⟩
 ·simp only [askOK, Bool.and_eq_true]
  exact ⟨⟨ht, rfl⟩, hd⟩
 ·simp only [depOK, Bool.and_eq_true, inB_iff] at hd
  omega
theorem dpK_lt {rs : List (List Int)} {c : Nat} {m l r : Int} {i : Nat} : ∀ {n k q : Nat}, dpK rs c m l r i k n = some q → k ≤ q ∧ q < k + n
 | 0, k, q, h => by simp [dpK] at h
 | n + 1, k, q, h => by
  rw [dpK] at h
  split at h
  ·simp at h; omega
  ·have := dpK_lt h; omega
theorem dpI_lt {rs : List (List Int)} {c : Nat} {m l r : Int} : ∀ {n i a b : Nat}, dpI rs c m l r i n = some (a, b) → a < i + n ∧ b < rs.length
 | 0, i, a, b, h => by simp [dpI] at h
 | n + 1, i, a, b, h => by
  rw [dpI] at h
  split at h
  ·rename_i k hk
   have := dpK_lt hk
   simp at h; omega
  ·have := dpI_lt h; omega
theorem wtO_lt {n : Int} {rs : List (List Int)} {m l r : Int} {a b : Nat} (h : wtO n rs m l r = some (a, b)) : a < rs.length ∧ b < rs.length := by
 have := dpI_lt h; omega
theorem chStepS_ok : ContractOK E0 19 cStep := by
 refine cWpc (E := E0) (T := mkT Tryz.prog [(31, cAreDeps), (72, cAreRows), (73, cPair), (74, cEquate)] false (fun _ => false) true (fun _ => false)) (mkT_ok (E := E0) (.cons areDepsS_ok (.cons areRowsS_ok (.cons pair_ok (.cons equate_ok .nil))))) (fn := Tryz.f19) Tryz.func19 (by kernel_rfl) rfl mixedT (by kernel_rfl) rfl ?_
 intro args p rs ms hr
 unfold cStep at hr
 dsimp only at hr
 split at hr
 rotate_left
 ·cases hr
 rename_i n l t
 simp only [Option.some.injEq, Prod.mk.injEq] at hr
 obtain ⟨rfl, rfl, rfl⟩ := hr
 refine ⟨rfl, rfl, Nat.le_of_ble_eq_true rfl, ?_⟩
 have hm : maxLen = 9223372036854775807 := rfl
 rintro ⟨h1, h2, ⟨h3, h3'⟩, hn1, hn2⟩ bs
 obtain ⟨ds, rfl, hx⟩ := h1.ex
 obtain ⟨rs, rfl, hy, hy'⟩ := h2.ex
 clear h1 h2
 rw [unS_sL] at h3' ⊢
 rw [sL_length] at h3
 rw [unD_dL]
 (repeat' (first | (refine gA fun _ => ?_) | (refine fkI (fun hb => ?_) (fun hb => ?_) <;> (try simp only [ew] at hb)) | (simp only [go_sem, Nat.reduceLeDiff, Nat.reduceEqDiff, reduceIte, reduceCtorEq, Nat.reduceAdd, Nat.reduceMul, Nat.reduceSub, Nat.reduceLT, Int.reduceLT, Int.reduceLE, Int.reduceNeg, Int.reduceToNat, Nat.reduceBEq, Nat.reduceBNe, Int.reduceGE, Int.reduceGT, *, cStep, cAreDeps, cAreRows, cPair, cEquate, Tryz.results19])))
 refine lpI { ι := Nat, rs := [(16, 31)], mods := [(9, fun i => .one (.d (.v (.int .i64 i)))), (8, fun i => .one (.own 1 (sL (rs.take i)) 1))], boxes := [], arrs := [], ok := fun i => i ≤ rs.length, mu := fun i => rs.length - i } rfl 0 (Nat.zero_le _) ?_ fun i hi => ?_
 ·(repeat' (first | (refine gA fun _ => ?_) | (refine fkI (fun hb => ?_) (fun hb => ?_) <;> (try simp only [ew] at hb)) | (simp only [go_sem, Nat.reduceLeDiff, Nat.reduceEqDiff, reduceIte, reduceCtorEq, Nat.reduceAdd, Nat.reduceMul, Nat.reduceSub, Nat.reduceLT, Int.reduceLT, Int.reduceLE, Int.reduceNeg, Int.reduceToNat, Nat.reduceBEq, Nat.reduceBNe, Int.reduceGE, Int.reduceGT, *, cStep, cAreDeps, cAreRows, cPair, cEquate, Tryz.results19])))
  all_goals first | rfl | skip
 ·dsimp only at i hi
  have q1 := all_getD hy' i
  have q2 := all_getD h3' i
  by_cases h5 : i < rs.length
  ·have e := take_succ_getD h5 []
   (repeat' (first | (refine gA fun _ => ?_) | (refine fkI (fun hb => ?_) (fun hb => ?_) <;> (try simp only [ew, sL_snoc, iL_allscal] at hb)) | (simp only [go_sem, Nat.reduceLeDiff, Nat.reduceEqDiff, reduceIte, reduceCtorEq, Nat.reduceAdd, Nat.reduceMul, Nat.reduceSub, Nat.reduceLT, Int.reduceLT, Int.reduceLE, Int.reduceNeg, Int.reduceToNat, Nat.reduceBEq, Nat.reduceBNe, Int.reduceGE, Int.reduceGT, *, cStep, cAreDeps, cAreRows, cPair, cEquate, Tryz.results19, sL_snoc, iL_allscal])))
   refine lpN (i + 1) (by dsimp only; omega) (by dsimp only; omega) ?_
   (repeat' (first | (refine gA fun _ => ?_) | (refine fkI (fun hb => ?_) (fun hb => ?_) <;> (try simp only [ew, sL_snoc, e] at hb)) | (simp only [go_sem, Nat.reduceLeDiff, Nat.reduceEqDiff, reduceIte, reduceCtorEq, Nat.reduceAdd, Nat.reduceMul, Nat.reduceSub, Nat.reduceLT, Int.reduceLT, Int.reduceLE, Int.reduceNeg, Int.reduceToNat, Nat.reduceBEq, Nat.reduceBNe, Int.reduceGE, Int.reduceGT, *, cStep, cAreDeps, cAreRows, cPair, cEquate, Tryz.results19, sL_snoc, e])))
  ·have e5 : i = rs.length := by omega
   subst e5
   clear q1 q2
   cases hv : (depsOK n ds && rowsOK n rs)
   ·have e1 : csStep n ds rs = none := by unfold csStep; rw [hv]; rfl
    have e2 : csOut n ds rs = rs := by unfold csOut; rw [e1]; rfl
    have e3 : (!depsOK n ds || !rowsOK n rs) = true := by rw [← Bool.not_and, hv]; rfl
    rw [e1, e2]
    clear e1 e2 hv
    (repeat' (first | (refine gA fun _ => ?_) | (refine fkI (fun hb => ?_) (fun hb => ?_) <;> (try simp only [ew, e3, List.take_length] at hb)) | (simp only [go_sem, Nat.reduceLeDiff, Nat.reduceEqDiff, reduceIte, reduceCtorEq, Nat.reduceAdd, Nat.reduceMul, Nat.reduceSub, Nat.reduceLT, Int.reduceLT, Int.reduceLE, Int.reduceNeg, Int.reduceToNat, Nat.reduceBEq, Nat.reduceBNe, Int.reduceGE, Int.reduceGT, *, cStep, cAreDeps, cAreRows, cPair, cEquate, Tryz.results19, e3, List.take_length])))
    all_goals first | rfl | exact ⟨rfl, rfl⟩ | skip
   ·have e3 : (!depsOK n ds || !rowsOK n rs) = false := by rw [← Bool.not_and, hv]; rfl
    obtain ⟨c, rfl, c1, c5, r40, d20, hl, hl2, hd⟩ := rows_facts hv
    have e1 : csStep c ds rs = csFind c rs ds := by unfold csStep; rw [hv]; rfl
    have e2 : csOut c ds rs = (csFind c rs ds).getD rs := by unfold csOut; rw [e1]
    rw [e1, e2]
    clear e1 e2 hv
    (repeat' (first | (refine gA fun _ => ?_) | (refine fkI (fun hb => ?_) (fun hb => ?_) <;> (try simp only [ew, e3, List.take_length] at hb)) | (simp only [go_sem, Nat.reduceLeDiff, Nat.reduceEqDiff, reduceIte, reduceCtorEq, Nat.reduceAdd, Nat.reduceMul, Nat.reduceSub, Nat.reduceLT, Int.reduceLT, Int.reduceLE, Int.reduceNeg, Int.reduceToNat, Nat.reduceBEq, Nat.reduceBNe, Int.reduceGE, Int.reduceGT, *, cStep, cAreDeps, cAreRows, cPair, cEquate, Tryz.results19, e3, List.take_length])))
    clear e3
    generalize hF : csFind c rs ds = F
    refine lpI { ι := Nat, rs := [(6, 8), (12, 15), (45, 84)], mods := [(11, fun i => .one (.d (.v (.int .i64 i))))], boxes := [(10, fun _ => [.d (.v (.int .i64 c)), .d (.sl 1 (sL rs))])], arrs := [(8, fun _ => (1, sL rs, 1))], ok := fun i => i ≤ ds.length ∧ csFind c rs (ds.drop i) = F, mu := fun i => ds.length - i } rfl 0 ⟨Nat.zero_le _, hF⟩ ?_ fun i hi => ?_
    ·(repeat' (first | (refine gA fun _ => ?_) | (refine fkI (fun hb => ?_) (fun hb => ?_) <;> (try simp only [ew] at hb)) | (simp only [go_sem, Nat.reduceLeDiff, Nat.reduceEqDiff, reduceIte, reduceCtorEq, Nat.reduceAdd, Nat.reduceMul, Nat.reduceSub, Nat.reduceLT, Int.reduceLT, Int.reduceLE, Int.reduceNeg, Int.reduceToNat, Nat.reduceBEq, Nat.reduceBNe, Int.reduceGE, Int.reduceGT, *, cStep, cAreDeps, cAreRows, cPair, cEquate, Tryz.results19])))
    ·dsimp only at i hi
     obtain ⟨hi, ht⟩ := hi
     by_cases h5 : i < ds.length
     ·rw [drop_getD h5 (0, 0), csFind] at ht
      obtain ⟨hd1, hd2, hd3⟩ := hd i h5
      cases hq : ds.getD i (0, 0) with
      | mk dl dr =>
       rw [hq] at ht hd1 hd2 hd3
       dsimp only at ht hd1 hd2 hd3
       obtain ⟨dr, rfl⟩ := Int.eq_ofNat_of_zero_le hd2
       have hd3' : dr < c := by omega
       have hw := fun a b => @wtO_lt c rs 0 dl dr a b
       cases hw2 : wtO c rs 0 dl dr with
       | none =>
        rw [hw2] at ht
        clear hw
        have e0 : (prI none).1 = -1 := rfl
        (repeat' (first | (refine gA fun _ => ?_) | (refine fkI (fun hb => ?_) (fun hb => ?_) <;> (try simp only [ew, hq, hd1, hw2, e0, Int.reduceGE] at hb)) | (simp only [go_sem, Nat.reduceLeDiff, Nat.reduceEqDiff, reduceIte, reduceCtorEq, Nat.reduceAdd, Nat.reduceMul, Nat.reduceSub, Nat.reduceLT, Int.reduceLT, Int.reduceLE, Int.reduceNeg, Int.reduceToNat, Nat.reduceBEq, Nat.reduceBNe, Int.reduceGE, Int.reduceGT, *, cStep, cAreDeps, cAreRows, cPair, cEquate, Tryz.results19, hq, hd1, hw2, e0, Int.reduceGE])))
        refine lpN (i + 1) ⟨by omega, ht⟩ (by dsimp only; omega) ?_
        clear ht hF
        (repeat' (first | (refine gA fun _ => ?_) | (refine fkI (fun hb => ?_) (fun hb => ?_) <;> (try simp only [ew, hq] at hb)) | (simp only [go_sem, Nat.reduceLeDiff, Nat.reduceEqDiff, reduceIte, reduceCtorEq, Nat.reduceAdd, Nat.reduceMul, Nat.reduceSub, Nat.reduceLT, Int.reduceLT, Int.reduceLE, Int.reduceNeg, Int.reduceToNat, Nat.reduceBEq, Nat.reduceBNe, Int.reduceGE, Int.reduceGT, *, cStep, cAreDeps, cAreRows, cPair, cEquate, Tryz.results19, hq])))
       | some ab =>
        obtain ⟨a, b⟩ := ab
        rw [hw2] at ht
        obtain ⟨ha, hb⟩ := hw a b hw2
        have la := hl2 a ha
        have lb := hl2 b hb
        have hall : ∀ r ∈ rs, (dr : Int) < r.length := fun r hr => by rw [hl r hr]; exact hd3
        subst ht
        rw [Int.toNat_natCast]
        have e0 : (prI (some (a, b))).1 = a := rfl
        have e0' : (prI (some (a, b))).2 = b := rfl
        clear hw hF hl hd
        (repeat' (first | (refine gA fun _ => ?_) | (refine fkI (fun hb => ?_) (fun hb => ?_) <;> (try simp only [ew, hq, hd1, hw2, e0, e0', eqtR, Int.reduceGE] at hb)) | (simp only [go_sem, Nat.reduceLeDiff, Nat.reduceEqDiff, reduceIte, reduceCtorEq, Nat.reduceAdd, Nat.reduceMul, Nat.reduceSub, Nat.reduceLT, Int.reduceLT, Int.reduceLE, Int.reduceNeg, Int.reduceToNat, Nat.reduceBEq, Nat.reduceBNe, Int.reduceGE, Int.reduceGT, *, cStep, cAreDeps, cAreRows, cPair, cEquate, Tryz.results19, hq, hd1, hw2, e0, e0', eqtR, Int.reduceGE])))
        all_goals first | rfl | exact ⟨rfl, rfl⟩ | skip
     ·have e5 : i = ds.length := by omega
      subst e5
      rw [List.drop_length, csFind] at ht
      subst ht
      (repeat' (first | (refine gA fun _ => ?_) | (refine fkI (fun hb => ?_) (fun hb => ?_) <;> (try simp only [ew] at hb)) | (simp only [go_sem, Nat.reduceLeDiff, Nat.reduceEqDiff, reduceIte, reduceCtorEq, Nat.reduceAdd, Nat.reduceMul, Nat.reduceSub, Nat.reduceLT, Int.reduceLT, Int.reduceLE, Int.reduceNeg, Int.reduceToNat, Nat.reduceBEq, Nat.reduceBNe, Int.reduceGE, Int.reduceGT, *, cStep, cAreDeps, cAreRows, cPair, cEquate, Tryz.results19])))
      all_goals first | rfl | exact ⟨rfl, rfl⟩ | skip
end Go.Own
namespace Go.Own
open Go Go.Proofs
attribute [local go_sem] unD_dL dL_length dL_get dL_set dL_inj wfD_dL scal2 beq2 pair_eta
def mgL (rs : List (List Int)) (c : Nat) (a b : Int) (j : Nat) : List (List Int) := eqtR (rs.take j) c a b ++ rs.drop j
theorem mgL_length {rs : List (List Int)} {c : Nat} {a b : Int} {j : Nat} : (mgL rs c a b j).length = rs.length := by
 simp only [mgL, eqtR, List.length_append, List.length_map, List.length_take, List.length_drop]; omega
theorem mgL_get {rs : List (List Int)} {c : Nat} {a b : Int} {j : Nat} (h : j < rs.length) : (mgL rs c a b j).getD j [] = rs.getD j [] := by
 have e : (eqtR (rs.take j) c a b).length = j := by simp [eqtR]; omega
 unfold mgL
 rw [List.getD_eq_getElem?_getD, List.getElem?_append_right (by omega), e, Nat.sub_self, drop_getD h []]; simp
theorem mgL_set {rs : List (List Int)} {c : Nat} {a b : Int} {j : Nat} (h : j < rs.length) : (mgL rs c a b j).set j (mergeC c a b (rs.getD j [])) = mgL rs c a b (j + 1) := by
 have e : (eqtR (rs.take j) c a b).length = j := by simp [eqtR]; omega
 unfold mgL
 rw [List.set_append_right _ _ (by omega), e, Nat.sub_self, drop_getD h [], List.set_cons_zero, eqt_take h]
 simp
theorem mgL_keep {rs : List (List Int)} {c : Nat} {a b : Int} {j : Nat} (h : j < rs.length) (e : mergeC c a b (rs.getD j []) = rs.getD j []) : mgL rs c a b j = mgL rs c a b (j + 1) := by
 unfold mgL
 rw [eqt_take h, e, drop_getD h []]; simp
theorem chStepI_ok : ContractOK E0 18 cStep := by
 refine cWpc (E := E0) (T := mkT Tryz.prog [(69, cCopyR), (43, cAreDeps), (70, cAreRows), (71, cWit)] false (fun _ => false) true (fun d => d == 57)) (mkT_ok (E := E0) (.cons copyR_ok (.cons areDepsI_ok (.cons areRowsI_ok (.cons witI_ok .nil))))) (fn := Tryz.f18) Tryz.func18 (by kernel_rfl) rfl mixedT (by kernel_rfl) rfl ?_
 intro args p rs ms hr
 unfold cStep at hr
 dsimp only at hr
 split at hr
 rotate_left
 ·cases hr
 rename_i n l t
 simp only [Option.some.injEq, Prod.mk.injEq] at hr
 obtain ⟨rfl, rfl, rfl⟩ := hr
 refine ⟨rfl, rfl, Nat.le_of_ble_eq_true rfl, ?_⟩
 have hm : maxLen = 9223372036854775807 := rfl
 rintro ⟨h1, h2, ⟨h3, h3'⟩, hn1, hn2⟩ bs
 obtain ⟨ds, rfl, hx⟩ := h1.ex
 obtain ⟨rs, rfl, hy, hy'⟩ := h2.ex
 clear h1 h2
 rw [unS_sL] at h3' ⊢
 rw [sL_length] at h3
 rw [unD_dL]
 cases hv : (depsOK n ds && rowsOK n rs)
 ·have e1 : csStep n ds rs = none := by unfold csStep; rw [hv]; rfl
  have e2 : csOut n ds rs = rs := by unfold csOut; rw [e1]; rfl
  have e3 : (!depsOK n ds || !rowsOK n rs) = true := by rw [← Bool.not_and, hv]; rfl
  rw [e1, e2]
  clear e1 e2 hv
  (repeat' (first | (refine gA fun _ => ?_) | (refine fkI (fun hb => ?_) (fun hb => ?_) <;> (try simp only [ew, e3] at hb)) | (simp only [go_sem, Nat.reduceLeDiff, Nat.reduceEqDiff, reduceIte, reduceCtorEq, Nat.reduceAdd, Nat.reduceMul, Nat.reduceSub, Nat.reduceLT, Int.reduceLT, Int.reduceLE, Int.reduceNeg, Int.reduceToNat, Nat.reduceBEq, Nat.reduceBNe, Int.reduceGE, Int.reduceGT, *, cStep, cCopyR, cAreDeps, cAreRows, cWit, Tryz.results18, e3])))
  all_goals first | rfl | exact ⟨rfl, rfl⟩ | skip
 ·have e3 : (!depsOK n ds || !rowsOK n rs) = false := by rw [← Bool.not_and, hv]; rfl
  obtain ⟨c, rfl, c1, c5, r40, d20, hl, hl2, hd⟩ := rows_facts hv
  have e1 : csStep c ds rs = csFind c rs ds := by unfold csStep; rw [hv]; rfl
  have e2 : csOut c ds rs = (csFind c rs ds).getD rs := by unfold csOut; rw [e1]
  rw [e1, e2]
  clear e1 e2 hv
  (repeat' (first | (refine gA fun _ => ?_) | (refine fkI (fun hb => ?_) (fun hb => ?_) <;> (try simp only [ew, e3] at hb)) | (simp only [go_sem, Nat.reduceLeDiff, Nat.reduceEqDiff, reduceIte, reduceCtorEq, Nat.reduceAdd, Nat.reduceMul, Nat.reduceSub, Nat.reduceLT, Int.reduceLT, Int.reduceLE, Int.reduceNeg, Int.reduceToNat, Nat.reduceBEq, Nat.reduceBNe, Int.reduceGE, Int.reduceGT, *, cStep, cCopyR, cAreDeps, cAreRows, cWit, Tryz.results18, e3])))
  clear e3
  generalize hF : csFind c rs ds = F
  refine lpI { ι := Nat, rs := [(6, 8), (11, 17), (18, 19), (38, 91)], mods := [(37, fun i => .one (.d (.v (.int .i64 i))))], boxes := [(9, fun _ => [.d (.v (.int .i64 c)), .d (.sl 1 (sL rs))])], arrs := [(8, fun _ => (1, sL rs, 1))], ok := fun i => i ≤ ds.length ∧ csFind c rs (ds.drop i) = F, mu := fun i => ds.length - i } rfl 0 ⟨Nat.zero_le _, hF⟩ ?_ fun i hi => ?_
  ·(repeat' (first | (refine gA fun _ => ?_) | (refine fkI (fun hb => ?_) (fun hb => ?_) <;> (try simp only [ew] at hb)) | (simp only [go_sem, Nat.reduceLeDiff, Nat.reduceEqDiff, reduceIte, reduceCtorEq, Nat.reduceAdd, Nat.reduceMul, Nat.reduceSub, Nat.reduceLT, Int.reduceLT, Int.reduceLE, Int.reduceNeg, Int.reduceToNat, Nat.reduceBEq, Nat.reduceBNe, Int.reduceGE, Int.reduceGT, *, cStep, cCopyR, cAreDeps, cAreRows, cWit, Tryz.results18])))
  ·dsimp only at i hi
   obtain ⟨hi, ht⟩ := hi
   by_cases h5 : i < ds.length
   ·rw [drop_getD h5 (0, 0), csFind] at ht
    obtain ⟨hd1, hd2, hd3⟩ := hd i h5
    cases hq : ds.getD i (0, 0) with
    | mk dl dr =>
     rw [hq] at ht hd1 hd2 hd3
     dsimp only at ht hd1 hd2 hd3
     obtain ⟨dr, rfl⟩ := Int.eq_ofNat_of_zero_le hd2
     have hd3' : dr < c := by omega
     have hw := fun a b => @wtO_lt c rs 0 dl dr a b
     cases hw2 : wtO c rs 0 dl dr with
     | none =>
      rw [hw2] at ht
      clear hw
      have hR : wtR c rs 0 dl dr = none := by unfold wtR; rw [hd1, if_pos rfl, hw2]
      have e0 : (prI none).1 = -1 := rfl
      have e0' : (prI none).2 = -1 := rfl
      clear hw2
      (repeat' (first | (refine gA fun _ => ?_) | (refine fkI (fun hb => ?_) (fun hb => ?_) <;> (try simp only [ew, hq, hR, e0, e0'] at hb)) | (simp only [go_sem, Nat.reduceLeDiff, Nat.reduceEqDiff, reduceIte, reduceCtorEq, Nat.reduceAdd, Nat.reduceMul, Nat.reduceSub, Nat.reduceLT, Int.reduceLT, Int.reduceLE, Int.reduceNeg, Int.reduceToNat, Nat.reduceBEq, Nat.reduceBNe, Int.reduceGE, Int.reduceGT, *, cStep, cCopyR, cAreDeps, cAreRows, cWit, Tryz.results18, hq, hR, e0, e0'])))
      refine lpN (i + 1) ⟨by omega, ht⟩ (by dsimp only; omega) ?_
      clear ht hF
      (repeat' (first | (refine gA fun _ => ?_) | (refine fkI (fun hb => ?_) (fun hb => ?_) <;> (try simp only [ew, hq] at hb)) | (simp only [go_sem, Nat.reduceLeDiff, Nat.reduceEqDiff, reduceIte, reduceCtorEq, Nat.reduceAdd, Nat.reduceMul, Nat.reduceSub, Nat.reduceLT, Int.reduceLT, Int.reduceLE, Int.reduceNeg, Int.reduceToNat, Nat.reduceBEq, Nat.reduceBNe, Int.reduceGE, Int.reduceGT, *, cStep, cCopyR, cAreDeps, cAreRows, cWit, Tryz.results18, hq])))
     | some ab =>
      obtain ⟨a, b⟩ := ab
      rw [hw2] at ht
      obtain ⟨ha, hb⟩ := hw a b hw2
      have hR : wtR c rs 0 dl dr = some (a, b) := by unfold wtR; rw [hd1, if_pos rfl, hw2]
      have la := hl2 a ha
      have lb := hl2 b hb
      have e0 : (prI (some (a, b))).1 = a := rfl
      have e0' : (prI (some (a, b))).2 = b := rfl
      subst ht
      rw [Int.toNat_natCast]
      clear hw hF hw2 hl hd
      (repeat' (first | (refine gA fun _ => ?_) | (refine fkI (fun hb => ?_) (fun hb => ?_) <;> (try simp only [ew, hq, hR, e0, e0'] at hb)) | (simp only [go_sem, Nat.reduceLeDiff, Nat.reduceEqDiff, reduceIte, reduceCtorEq, Nat.reduceAdd, Nat.reduceMul, Nat.reduceSub, Nat.reduceLT, Int.reduceLT, Int.reduceLE, Int.reduceNeg, Int.reduceToNat, Nat.reduceBEq, Nat.reduceBNe, Int.reduceGE, Int.reduceGT, *, cStep, cCopyR, cAreDeps, cAreRows, cWit, Tryz.results18, hq, hR, e0, e0'])))
      clear hR e0 e0'
      generalize hX : (rs.getD a []).getD dr 0 = x
      generalize hY : (rs.getD b []).getD dr 0 = y
      refine lpI { ι := Nat, rs := [(18, 19), (69, 89)], mods := [(68, fun j => .one (.d (.v (.int .i64 j))))], boxes := [(11, fun _ => [.d (.v (.int .i64 dl)), .d (.v (.int .i64 dr))])], arrs := [(8, fun j => (1, sL (mgL rs dr x y j), 2))], alis := [(66, 8)], ok := fun j => j ≤ rs.length, mu := fun j => rs.length - j } rfl 0 (Nat.zero_le _) ?_ fun j hj => ?_
      ·(repeat' (first | (refine gA fun _ => ?_) | (refine fkI (fun hb => ?_) (fun hb => ?_) <;> (try simp only [ew] at hb)) | (simp only [go_sem, Nat.reduceLeDiff, Nat.reduceEqDiff, reduceIte, reduceCtorEq, Nat.reduceAdd, Nat.reduceMul, Nat.reduceSub, Nat.reduceLT, Int.reduceLT, Int.reduceLE, Int.reduceNeg, Int.reduceToNat, Nat.reduceBEq, Nat.reduceBNe, Int.reduceGE, Int.reduceGT, *, cStep, cCopyR, cAreDeps, cAreRows, cWit, Tryz.results18])))
       all_goals first | rfl | skip
      ·dsimp only at j hj
       by_cases h6 : j < rs.length
       ·have lj := hl2 j h6
        have hg := mgL_get (c := dr) (a := x) (b := y) h6
        have hs := mgL_set (c := dr) (a := x) (b := y) h6
        have hk := mgL_keep (c := dr) (a := x) (b := y) h6
        by_cases hq2 : (rs.getD j []).getD dr 0 = max x y
        ·have e1 : ((rs.getD j []).getD dr 0 == max x y) = true := by rw [hq2]; simp
         have e2 : (rs.getD j []).set dr (min x y) = mergeC dr x y (rs.getD j []) := by rw [mergeC, if_pos hq2]
         clear hq2 hk
         (repeat' (first | (refine gA fun _ => ?_) | (refine fkI (fun hb => ?_) (fun hb => ?_) <;> (try simp only [ew, hq, mgL_length, hg, e1, e2, sL_set1] at hb)) | (simp only [go_sem, Nat.reduceLeDiff, Nat.reduceEqDiff, reduceIte, reduceCtorEq, Nat.reduceAdd, Nat.reduceMul, Nat.reduceSub, Nat.reduceLT, Int.reduceLT, Int.reduceLE, Int.reduceNeg, Int.reduceToNat, Nat.reduceBEq, Nat.reduceBNe, Int.reduceGE, Int.reduceGT, *, cStep, cCopyR, cAreDeps, cAreRows, cWit, Tryz.results18, hq, mgL_length, hg, e1, e2, sL_set1])))
         refine lpN (j + 1) (by dsimp only; omega) (by dsimp only; omega) ?_
         (repeat' (first | (refine gA fun _ => ?_) | (refine fkI (fun hb => ?_) (fun hb => ?_) <;> (try simp only [ew, hs, mgL_length, hg, e1, e2, sL_set1] at hb)) | (simp only [go_sem, Nat.reduceLeDiff, Nat.reduceEqDiff, reduceIte, reduceCtorEq, Nat.reduceAdd, Nat.reduceMul, Nat.reduceSub, Nat.reduceLT, Int.reduceLT, Int.reduceLE, Int.reduceNeg, Int.reduceToNat, Nat.reduceBEq, Nat.reduceBNe, Int.reduceGE, Int.reduceGT, *, cStep, cCopyR, cAreDeps, cAreRows, cWit, Tryz.results18, hs, mgL_length, hg, e1, e2, sL_set1])))
        ·have e1 : ((rs.getD j []).getD dr 0 == max x y) = false := by rw [beq_eq_false_iff_ne]; exact hq2
         clear hq2 hs hk
         (repeat' (first | (refine gA fun _ => ?_) | (refine fkI (fun hb => ?_) (fun hb => ?_) <;> (try simp only [ew, hq, mgL_length, hg, e1] at hb)) | (simp only [go_sem, Nat.reduceLeDiff, Nat.reduceEqDiff, reduceIte, reduceCtorEq, Nat.reduceAdd, Nat.reduceMul, Nat.reduceSub, Nat.reduceLT, Int.reduceLT, Int.reduceLE, Int.reduceNeg, Int.reduceToNat, Nat.reduceBEq, Nat.reduceBNe, Int.reduceGE, Int.reduceGT, *, cStep, cCopyR, cAreDeps, cAreRows, cWit, Tryz.results18, hq, mgL_length, hg, e1])))
         have hk := mgL_keep (c := dr) (a := x) (b := y) h6 (by rw [mergeC, if_neg (beq_eq_false_iff_ne.1 e1)])
         clear hg
         refine lpN (j + 1) (by dsimp only; omega) (by dsimp only; omega) ?_
         (repeat' (first | (refine gA fun _ => ?_) | (refine fkI (fun hb => ?_) (fun hb => ?_) <;> (try simp only [ew, hk] at hb)) | (simp only [go_sem, Nat.reduceLeDiff, Nat.reduceEqDiff, reduceIte, reduceCtorEq, Nat.reduceAdd, Nat.reduceMul, Nat.reduceSub, Nat.reduceLT, Int.reduceLT, Int.reduceLE, Int.reduceNeg, Int.reduceToNat, Nat.reduceBEq, Nat.reduceBNe, Int.reduceGE, Int.reduceGT, *, cStep, cCopyR, cAreDeps, cAreRows, cWit, Tryz.results18, hk])))
       ·have e5 : j = rs.length := by omega
        subst e5
        have e6 : mgL rs dr x y rs.length = rs.map (mergeC dr x y) := by simp [mgL, eqtR]
        (repeat' (first | (refine gA fun _ => ?_) | (refine fkI (fun hb => ?_) (fun hb => ?_) <;> (try simp only [ew, e6] at hb)) | (simp only [go_sem, Nat.reduceLeDiff, Nat.reduceEqDiff, reduceIte, reduceCtorEq, Nat.reduceAdd, Nat.reduceMul, Nat.reduceSub, Nat.reduceLT, Int.reduceLT, Int.reduceLE, Int.reduceNeg, Int.reduceToNat, Nat.reduceBEq, Nat.reduceBNe, Int.reduceGE, Int.reduceGT, *, cStep, cCopyR, cAreDeps, cAreRows, cWit, Tryz.results18, e6])))
        all_goals first | rfl | exact ⟨rfl, rfl⟩ | skip
   ·have e5 : i = ds.length := by omega
    subst e5
    rw [List.drop_length, csFind] at ht
    subst ht
    (repeat' (first | (refine gA fun _ => ?_) | (refine fkI (fun hb => ?_) (fun hb => ?_) <;> (try simp only [ew] at hb)) | (simp only [go_sem, Nat.reduceLeDiff, Nat.reduceEqDiff, reduceIte, reduceCtorEq, Nat.reduceAdd, Nat.reduceMul, Nat.reduceSub, Nat.reduceLT, Int.reduceLT, Int.reduceLE, Int.reduceNeg, Int.reduceToNat, Nat.reduceBEq, Nat.reduceBNe, Int.reduceGE, Int.reduceGT, *, cStep, cCopyR, cAreDeps, cAreRows, cWit, Tryz.results18])))
    all_goals first | rfl | exact ⟨rfl, rfl⟩ | skip
end Go.Own
namespace Go.Own
open Go Go.Proofs
theorem or_bit : ∀ x : Fin 32, ∀ c r : Fin 5, (bitI .and .i64 ((bitI .or .i64 ((x.val : Nat) : Int) (1 * 2 ^ c.val)).fdiv (2 ^ r.val)) 1 == 0) = ((bitI .and .i64 (((x.val : Nat) : Int).fdiv (2 ^ r.val)) 1 == 0) && !(c.val == r.val)) := by decide +kernel
theorem or_bit' {x : Int} {c r : Nat} (hx : 0 ≤ x ∧ x ≤ 31) (hc : c < 5) (hr : r < 5) : (bitI .and .i64 ((bitI .or .i64 x (1 * 2 ^ c)).fdiv (2 ^ r)) 1 == 0) = ((bitI .and .i64 (x.fdiv (2 ^ r)) 1 == 0) && !(c == r)) := by
 have := or_bit ⟨x.toNat, by omega⟩ ⟨c, hc⟩ ⟨r, hr⟩
 rwa [show ((x.toNat : Nat) : Int) = x by omega] at this
theorem agL_bit {m : Int} {a b : List Int} {r : Nat} : ∀ {n : Nat}, n ≤ 5 → r < n → eqc m (a.getD r 0) (b.getD r 0) = true → (bitI .and .i64 ((agL m a b n).fdiv (2 ^ r)) 1 == 0) = false
 | n + 1, h5, hr, he => by
  rw [agL]
  by_cases e : r = n
  ·subst e
   rw [if_pos he, or_bit' (agL_range (by omega)) (by omega) (by omega)]; simp
  ·have ih := @agL_bit m a b r n (by omega) (by omega) he
   split
   ·rw [or_bit' (agL_range (by omega)) (by omega) (by omega), ih]; rfl
   ·exact ih
theorem dpK_bad {rs : List (List Int)} {c : Nat} {m l r : Int} {i : Nat} : ∀ {n k q : Nat}, dpK rs c m l r i k n = some q → dpC rs c m l r i q = true
 | 0, k, q, h => by simp [dpK] at h
 | n + 1, k, q, h => by
  rw [dpK] at h
  split at h
  ·simp at h; rw [← h]; assumption
  ·exact dpK_bad h
theorem dpI_bad {rs : List (List Int)} {c : Nat} {m l r : Int} : ∀ {n i a b : Nat}, dpI rs c m l r i n = some (a, b) → dpC rs c m l r a b = true
 | 0, i, a, b, h => by simp [dpI] at h
 | n + 1, i, a, b, h => by
  rw [dpI] at h
  split at h
  ·rename_i k hk
   have := dpK_bad hk
   simp at h; rw [← h.1, ← h.2]; exact this
  ·exact dpI_bad h
theorem wt_diff {n : Nat} {rs : List (List Int)} {l : Int} {r : Nat} {a b : Nat} (h5 : n ≤ 5) (hr : r < n) (h : wtO n rs 0 l r = some (a, b)) : (rs.getD a []).getD r 0 ≠ (rs.getD b []).getD r 0 := by
 intro e
 have hb := dpI_bad h
 rw [Int.toNat_natCast] at hb
 simp only [dpC, badS, Bool.and_eq_true, Int.toNat_natCast] at hb
 have he : eqc 0 ((rs.getD a []).getD r 0) ((rs.getD b []).getD r 0) = true := by rw [e]; simp [eqc, modeOK]
 rw [agL_bit h5 hr he] at hb
 exact absurd hb.2 (by decide)
def cvs : List (Nat × Int) := (List.range 5).flatMap fun c => (List.range 41).map fun (v : Nat) => ((c, (v : Int)) : Nat × Int)
def hasV (rs : List (List Int)) (p : Nat × Int) : Bool := rs.any fun r => r.getD p.1 0 == p.2
def muC (rs : List (List Int)) : Nat := cvs.countP (hasV rs)
theorem countP_lt {α : Type} {p q : α → Bool} : ∀ {l : List α}, (∀ x ∈ l, p x = true → q x = true) → (∃ x ∈ l, q x = true ∧ p x = false) → l.countP p < l.countP q
 | [], _, h => by obtain ⟨x, hx, _⟩ := h; cases hx
 | y :: l, h, hx => by
  have h1 := fun x hx => h x (List.mem_cons_of_mem _ hx)
  have hm : l.countP p ≤ l.countP q := List.countP_mono_left h1
  rw [List.countP_cons, List.countP_cons]
  obtain ⟨x, hx, q1, q2⟩ := hx
  rcases List.mem_cons.1 hx with rfl | hx
  ·rw [q1, q2]; simp; omega
  ·have := countP_lt h1 ⟨x, hx, q1, q2⟩
   have hy := h y (by simp)
   cases e : p y
   ·simp; split <;> omega
   ·rw [hy e]; simp; omega
theorem mem_cvs {c : Nat} {v : Int} (hc : c < 5) (h0 : 0 ≤ v) (h1 : v ≤ 40) : (c, v) ∈ cvs := by
 simp only [cvs, List.mem_flatMap, List.mem_map, List.mem_range]
 exact ⟨c, hc, v.toNat, by omega, by rw [Int.toNat_of_nonneg h0]⟩
theorem getD_setI {r : List Int} {c c' : Nat} {m : Int} : (r.set c m).getD c' 0 = if c = c' ∧ c < r.length then m else r.getD c' 0 := by
 simp only [List.getD_eq_getElem?_getD, List.getElem?_set]
 by_cases h : c = c'
 ·subst h
  by_cases h2 : c < r.length
  ·simp [h2]
  ·simp [h2]
 ·simp [h]
theorem merge_mu {rs : List (List Int)} {r a b : Nat} (hr : r < 5) (ha : a < rs.length) (hb : b < rs.length) (hl : ∀ w ∈ rs, r < w.length) (hv : ∀ w ∈ rs, ∀ v ∈ w, 0 ≤ v ∧ v ≤ 40)
  (hd : (rs.getD a []).getD r 0 ≠ (rs.getD b []).getD r 0) : muC (rs.map (mergeC r ((rs.getD a []).getD r 0) ((rs.getD b []).getD r 0))) < muC rs := by
 have ma := getD_mem ha []
 have mb := getD_mem hb []
 have va := hv _ ma _ (getD_mem (hl _ ma) 0)
 have vb := hv _ mb _ (getD_mem (hl _ mb) 0)
 have na : ∃ w ∈ rs, w.getD r 0 = (rs.getD a []).getD r 0 := ⟨_, ma, rfl⟩
 have nb : ∃ w ∈ rs, w.getD r 0 = (rs.getD b []).getD r 0 := ⟨_, mb, rfl⟩
 generalize (rs.getD a []).getD r 0 = x at va hd na ⊢
 generalize (rs.getD b []).getD r 0 = y at vb hd nb ⊢
 have nm : ∀ z, z = max x y ∨ z = min x y → ∃ w ∈ rs, w.getD r 0 = z := by
  intro z hz
  have : z = x ∨ z = y := by omega
  rcases this with rfl | rfl
  ·exact na
  ·exact nb
 refine countP_lt ?_ ⟨(r, max x y), mem_cvs hr (by omega) (by omega), ?_, ?_⟩
 ·rintro ⟨c', v⟩ _ h
  simp only [hasV, List.any_map, List.any_eq_true, Function.comp, beq_iff_eq] at h ⊢
  obtain ⟨w, hw, e⟩ := h
  unfold mergeC at e
  split at e
  ·rw [getD_setI] at e
   split at e
   ·rename_i h2
    rw [← h2.1]
    exact nm v (Or.inr e.symm)
   ·exact ⟨w, hw, e⟩
  ·exact ⟨w, hw, e⟩
 ·obtain ⟨w, hw, e⟩ := nm _ (Or.inl rfl)
  simp only [hasV, List.any_eq_true, beq_iff_eq]
  exact ⟨w, hw, e⟩
 ·rw [← Bool.not_eq_true]
  intro h
  simp only [hasV, List.any_map, List.any_eq_true, Function.comp, beq_iff_eq] at h
  obtain ⟨w, hw, e⟩ := h
  have := hl w hw
  unfold mergeC at e
  split at e
  ·rw [getD_setI, if_pos ⟨rfl, this⟩] at e
   omega
  ·contradiction
theorem csFind_mu {n : Nat} {rs out : List (List Int)} (h5 : n ≤ 5) (hl : ∀ w ∈ rs, w.length = n) (hv : ∀ w ∈ rs, ∀ v ∈ w, 0 ≤ v ∧ v ≤ 40) : ∀ {ds : List (Int × Int)}, (∀ d ∈ ds, 0 ≤ d.2 ∧ d.2 < n) → csFind n rs ds = some out → muC out < muC rs
 | [], _, h => by simp [csFind] at h
 | d :: ds, hd, h => by
  rw [csFind] at h
  split at h
  ·rename_i a b hw
   simp only [Option.some.injEq] at h
   subst h
   have h2 := hd d (by simp)
   obtain ⟨r, hr⟩ := Int.eq_ofNat_of_zero_le h2.1
   rw [hr] at hw h2 ⊢
   rw [Int.toNat_natCast]
   have hlt := wtO_lt hw
   exact merge_mu (by omega) hlt.1 hlt.2 (fun w hw => by rw [hl w hw]; omega) hv (wt_diff h5 (by omega) hw)
  ·exact csFind_mu h5 hl hv (fun d hd' => hd d (by simp [hd'])) h
theorem csStep_mu {n : Int} {ds : List (Int × Int)} {rs out : List (List Int)} (h : csStep n ds rs = some out) : muC out < muC rs := by
 unfold csStep at h
 split at h
 ·rename_i hg
  obtain ⟨c, rfl, c1, c5, r40, d20, hl, hl2, hd⟩ := rows_facts hg
  simp only [Bool.and_eq_true] at hg
  obtain ⟨g1, g2⟩ := hg
  simp only [depsOK, rowsOK, Bool.and_eq_true, inB_iff, decide_eq_true_eq, List.all_eq_true] at g1 g2
  refine csFind_mu c5 hl (fun w hw v hv => ?_) (fun d hd => ?_) h
  ·have := g2.1 w hw
   simp only [rowG, rowOK, Bool.and_eq_true, List.all_eq_true, inB_iff, Bool.not_eq_true', List.contains_eq_mem, decide_eq_false_iff_not] at this
   have h1 := this.1.1 v hv
   have h2 : v ≠ -1 := fun e => this.2 (e ▸ hv)
   omega
  ·have := g1.1 d hd
   simp only [depOK, Bool.and_eq_true, inB_iff] at this
   omega
 ·cases h
theorem csFind_lens {n : Int} {rs out : List (List Int)} : ∀ {ds : List (Int × Int)}, csFind n rs ds = some out → out.map List.length = rs.map List.length
 | [], h => by simp [csFind] at h
 | d :: ds, h => by
  rw [csFind] at h
  split at h
  ·simp only [Option.some.injEq] at h
   subst h
   rw [List.map_map]
   refine List.map_congr_left fun r _ => ?_
   exact mergeC_length
  ·exact csFind_lens h
theorem csOut_lens {n : Int} {ds : List (Int × Int)} {rs : List (List Int)} : (csOut n ds rs).map List.length = rs.map List.length := by
 unfold csOut csStep
 split
 ·cases h : csFind n rs ds with
  | none => rfl
  | some out => exact csFind_lens h
 ·rfl
theorem lens_facts {xs ys : List (List Int)} (h : xs.map List.length = ys.map List.length) : xs.length = ys.length ∧ tot xs = tot ys ∧ ∀ B, (∀ r ∈ ys, r.length ≤ B) → ∀ r ∈ xs, r.length ≤ B := by
 refine ⟨by simpa using congrArg List.length h, ?_, fun B hB r hr => ?_⟩
 ·induction xs generalizing ys with
  | nil => cases ys with
   | nil => rfl
   | cons y ys => simp at h
  | cons x xs ih => cases ys with
   | nil => simp at h
   | cons y ys =>
    simp only [List.map_cons, List.cons.injEq] at h
    simp only [tot, h.1, ih h.2]
 ·have : r.length ∈ xs.map List.length := List.mem_map.2 ⟨r, hr, rfl⟩
  rw [h] at this
  obtain ⟨r', hr', e⟩ := List.mem_map.1 this
  rw [← e]; exact hB r' hr'
def chN (n : Int) (ds : List (Int × Int)) : Nat → List (List Int) → List (List Int)
 | 0, rs => rs
 | k + 1, rs => match csStep n ds rs with
  | some y => chN n ds k y
  | none => rs
theorem chN_none {n : Int} {ds : List (Int × Int)} {rs : List (List Int)} (h : csStep n ds rs = none) : ∀ k, chN n ds k rs = rs
 | 0 => rfl
 | k + 1 => by rw [chN, h]
theorem chN_two {n : Int} {ds : List (Int × Int)} : ∀ {k k' : Nat} {rs : List (List Int)}, muC rs ≤ k → muC rs ≤ k' → chN n ds k rs = chN n ds k' rs
 | 0, k', rs, h, _ => by
  cases e : csStep n ds rs with
  | none => rw [chN_none e, chN_none e]
  | some y => have := csStep_mu e; omega
 | k + 1, 0, rs, _, h => by
  cases e : csStep n ds rs with
  | none => rw [chN_none e, chN_none e]
  | some y => have := csStep_mu e; omega
 | k + 1, k' + 1, rs, h, h' => by
  cases e : csStep n ds rs with
  | none => rw [chN_none e, chN_none e]
  | some y =>
   have := csStep_mu e
   rw [chN, chN, e]
   exact chN_two (by omega) (by omega)
theorem chN_some {n : Int} {ds : List (Int × Int)} {rs y : List (List Int)} (h : csStep n ds rs = some y) (h2 : muC rs ≤ 200) : chN n ds 200 rs = chN n ds 200 y := by
 rw [chN_two (k' := 201) h2 (by omega), chN, h]
theorem csF_vals : ∀ {n : Nat} {ps : List Int} {i : Int}, 0 ≤ i → ∀ r ∈ csGo n ps i, ∀ c, 0 ≤ r.getD c 0 ∧ r.getD c 0 ≤ i + ps.length
 | n, [], i, hi, r, hr, c => by cases hr
 | n, x :: ps, i, hi, r, hr, c => by
  rcases List.mem_cons.1 hr with rfl | hr
  ·simp only [List.length_cons]
   by_cases hc : c < (csRow n x (i + 1)).length
   ·have hm := getD_mem hc 0
    simp only [csRow, List.mem_map, List.mem_range] at hm
    obtain ⟨q, hq, e⟩ := hm
    simp only [csRow] at e ⊢
    rw [← e]
    split <;> omega
   ·rw [List.getD_eq_getElem?_getD, List.getElem?_eq_none (by omega)]
    simp; omega
  ·have := csF_vals (i := i + 1) (by omega) r hr c
   simp only [List.length_cons]
   omega
theorem muC_start {n : Int} {ps : List Int} : muC (csF n ps) ≤ 55 := by
 have h1 : ∀ r ∈ csF n ps, ∀ c, r.getD c 0 ≤ 10 := by
  unfold csF
  split
  ·obtain ⟨f1, f2, f3, f4⟩ := parts_facts ‹_›
   intro r hr c
   have := csF_vals (Int.le_refl 0) r hr c
   omega
  ·intro r hr; cases hr
 have h2 : muC (csF n ps) ≤ cvs.countP fun p => decide (p.2 ≤ 10) := by
  refine List.countP_mono_left fun p hp h => ?_
  simp only [hasV, List.any_eq_true, beq_iff_eq] at h
  obtain ⟨r, hr, e⟩ := h
  have := h1 r hr p.1
  simp; omega
 have h3 : (cvs.countP fun p => decide (p.2 ≤ 10)) = 55 := by decide +kernel
 omega
theorem chN_lens {n : Int} {ds : List (Int × Int)} : ∀ {k : Nat} {rs : List (List Int)}, (chN n ds k rs).map List.length = rs.map List.length
 | 0, rs => rfl
 | k + 1, rs => by
  rw [chN]
  cases e : csStep n ds rs with
  | none => rfl
  | some y =>
   have h : csOut n ds rs = y := by unfold csOut; rw [e]; rfl
   have := @csOut_lens n ds rs
   rw [h] at this
   exact chN_lens.trans this
def chF (n : Int) (ds : List (Int × Int)) (ps : List Int) : List (List Int) := chN n ds 200 (csF n ps)
theorem chF_facts {n : Int} {ds : List (Int × Int)} {ps : List Int} : (chF n ds ps).length ≤ 10 ∧ (∀ r ∈ chF n ds ps, r.length ≤ 5) ∧ tot (chF n ds ps) ≤ 50 := by
 obtain ⟨p1, p2, p3⟩ := lens_facts (show (chF n ds ps).map List.length = (csF n ps).map List.length from chN_lens)
 obtain ⟨q1, q2, q3⟩ := @csF_facts n ps
 exact ⟨by omega, p3 _ q2, by omega⟩
end Go.Own
namespace Go.Own
open Go Go.Proofs
attribute [local go_sem] unD_dL dL_length dL_get dL_set dL_inj wfD_dL scal2 beq2 pair_eta
end Go.Own
