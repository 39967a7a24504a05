import Derived.Test.YtmfieiphcjenlaaOwnF2
import Derived.Test.YtmfieiphcjenlaaOwnE1
namespace Go.Own
open Go Go.Proofs
set_option linter.unusedSimpArgs false
set_option linter.unusedVariables false
set_option maxRecDepth 20000
set_option maxHeartbeats 2000000

attribute [local go_sem] unD_dL dL_length dL_get dL_set dL_inj wfD_dL scal2 beq2 pair_eta

def mgL (rs : List (List Int)) (c : Nat) (a b : Int) (j : Nat) : List (List Int) := eqtR (rs.take j) c a b ++ rs.drop j
theorem mgL_length {rs : List (List Int)} {c : Nat} {a b : Int} {j : Nat} : (mgL rs c a b j).length = rs.length := by
  simp only [mgL, eqtR, List.length_append, List.length_map, List.length_take, List.length_drop]; omega
theorem mgL_get {rs : List (List Int)} {c : Nat} {a b : Int} {j : Nat} (h : j < rs.length) : (mgL rs c a b j).getD j [] = rs.getD j [] := by
  have e : (eqtR (rs.take j) c a b).length = j := by simp [eqtR]; omega
  unfold mgL
  rw [List.getD_eq_getElem?_getD, List.getElem?_append_right (by omega), e, Nat.sub_self, drop_getD h []]; simp
theorem mgL_set {rs : List (List Int)} {c : Nat} {a b : Int} {j : Nat} (h : j < rs.length) : (mgL rs c a b j).set j (mergeC c a b (rs.getD j [])) = mgL rs c a b (j + 1) := by
  have e : (eqtR (rs.take j) c a b).length = j := by simp [eqtR]; omega
  unfold mgL
  rw [List.set_append_right _ _ (by omega), e, Nat.sub_self, drop_getD h [], List.set_cons_zero, eqt_take h]
  simp
theorem mgL_keep {rs : List (List Int)} {c : Nat} {a b : Int} {j : Nat} (h : j < rs.length) (e : mergeC c a b (rs.getD j []) = rs.getD j []) : mgL rs c a b j = mgL rs c a b (j + 1) := by
  unfold mgL
  rw [eqt_take h, e, drop_getD h []]; simp

theorem chStepI_ok : ContractOK E0 14 cStep := by
  refine contract_of_wpc (E := E0) (T := mkT Try.prog [(45, cCopyR), (46, cAreDeps), (47, cAreRows), (48, cWit)] false (fun _ => false) true (fun d => d == 57)) (mkT_ok (E := E0) (.cons copyR_ok (.cons areDepsI_ok (.cons areRowsI_ok (.cons witI_ok .nil))))) (fn := Try.f14) Try.func14 (by kernel_rfl) rfl mixedT (by kernel_rfl) rfl ?_
  intro args p rs ms hr
  unfold cStep at hr
  dsimp only at hr
  split at hr
  rotate_left
  · cases hr
  rename_i n l t
  simp only [Option.some.injEq, Prod.mk.injEq] at hr
  obtain ⟨rfl, rfl, rfl⟩ := hr
  refine ⟨rfl, rfl, Nat.le_of_ble_eq_true rfl, ?_⟩
  have hm : maxLen = 9223372036854775807 := rfl
  rintro ⟨h1, h2, ⟨h3, h3'⟩, hn1, hn2⟩ bs
  obtain ⟨ds, rfl, hx⟩ := h1.ex
  obtain ⟨rs, rfl, hy, hy'⟩ := h2.ex
  clear h1 h2
  rw [unS_sL] at h3' ⊢
  rw [sL_length] at h3
  rw [unD_dL]
  cases hv : (depsOK n ds && rowsOK n rs)
  · have e1 : csStep n ds rs = none := by unfold csStep; rw [hv]; rfl
    have e2 : csOut n ds rs = rs := by unfold csOut; rw [e1]; rfl
    have e3 : (!depsOK n ds || !rowsOK n rs) = true := by rw [← Bool.not_and, hv]; rfl
    rw [e1, e2]
    clear e1 e2 hv
    (repeat' (first
      | (refine gate_a fun _ => ?_)
      | (refine fork_intro (fun hb => ?_) (fun hb => ?_) <;> (try simp only [ew, e3] at hb))
      | (simp only [go_sem, Nat.reduceLeDiff, Nat.reduceEqDiff, reduceIte, reduceCtorEq, Nat.reduceAdd, Nat.reduceMul, Nat.reduceSub, Nat.reduceLT, Int.reduceLT, Int.reduceLE, Int.reduceNeg, Int.reduceToNat, Nat.reduceBEq, Nat.reduceBNe, Int.reduceGE, Int.reduceGT, *, cStep, cCopyR, cAreDeps, cAreRows, cWit, Try.results14, e3])))
    all_goals first | rfl | exact ⟨rfl, rfl⟩ | skip
  · have e3 : (!depsOK n ds || !rowsOK n rs) = false := by rw [← Bool.not_and, hv]; rfl
    obtain ⟨c, rfl, c1, c5, r40, d20, hl, hl2, hd⟩ := rows_facts hv
    have e1 : csStep c ds rs = csFind c rs ds := by unfold csStep; rw [hv]; rfl
    have e2 : csOut c ds rs = (csFind c rs ds).getD rs := by unfold csOut; rw [e1]
    rw [e1, e2]
    clear e1 e2 hv
    (repeat' (first
      | (refine gate_a fun _ => ?_)
      | (refine fork_intro (fun hb => ?_) (fun hb => ?_) <;> (try simp only [ew, e3] at hb))
      | (simp only [go_sem, Nat.reduceLeDiff, Nat.reduceEqDiff, reduceIte, reduceCtorEq, Nat.reduceAdd, Nat.reduceMul, Nat.reduceSub, Nat.reduceLT, Int.reduceLT, Int.reduceLE, Int.reduceNeg, Int.reduceToNat, Nat.reduceBEq, Nat.reduceBNe, Int.reduceGE, Int.reduceGT, *, cStep, cCopyR, cAreDeps, cAreRows, cWit, Try.results14, e3])))
    clear e3
    generalize hF : csFind c rs ds = F
    refine loop_intro { ι := Nat, rs := [(6, 8), (11, 17), (18, 19), (38, 91)], mods := [(37, fun i => .one (.d (.v (.int .i64 i))))], boxes := [(9, fun _ => [.d (.v (.int .i64 c)), .d (.sl 1 (sL rs))])], arrs := [(8, fun _ => (1, sL rs, 1))], ok := fun i => i ≤ ds.length ∧ csFind c rs (ds.drop i) = F, mu := fun i => ds.length - i } rfl 0 ⟨Nat.zero_le _, hF⟩ ?_ fun i hi => ?_
    · (repeat' (first
      | (refine gate_a fun _ => ?_)
      | (refine fork_intro (fun hb => ?_) (fun hb => ?_) <;> (try simp only [ew] at hb))
      | (simp only [go_sem, Nat.reduceLeDiff, Nat.reduceEqDiff, reduceIte, reduceCtorEq, Nat.reduceAdd, Nat.reduceMul, Nat.reduceSub, Nat.reduceLT, Int.reduceLT, Int.reduceLE, Int.reduceNeg, Int.reduceToNat, Nat.reduceBEq, Nat.reduceBNe, Int.reduceGE, Int.reduceGT, *, cStep, cCopyR, cAreDeps, cAreRows, cWit, Try.results14])))
    · dsimp only at i hi
      obtain ⟨hi, ht⟩ := hi
      by_cases h5 : i < ds.length
      · rw [drop_getD h5 (0, 0), csFind] at ht
        obtain ⟨hd1, hd2, hd3⟩ := hd i h5
        cases hq : ds.getD i (0, 0) with
        | mk dl dr =>
          rw [hq] at ht hd1 hd2 hd3
          dsimp only at ht hd1 hd2 hd3
          obtain ⟨dr, rfl⟩ := Int.eq_ofNat_of_zero_le hd2
          have hd3' : dr < c := by omega
          have hw := fun a b => @wtO_lt c rs 0 dl dr a b
          cases hw2 : wtO c rs 0 dl dr with
          | none =>
            rw [hw2] at ht
            clear hw
            have hR : wtR c rs 0 dl dr = none := by unfold wtR; rw [hd1, if_pos rfl, hw2]
            have e0 : (prI none).1 = -1 := rfl
            have e0' : (prI none).2 = -1 := rfl
            clear hw2
            (repeat' (first
      | (refine gate_a fun _ => ?_)
      | (refine fork_intro (fun hb => ?_) (fun hb => ?_) <;> (try simp only [ew, hq, hR, e0, e0'] at hb))
      | (simp only [go_sem, Nat.reduceLeDiff, Nat.reduceEqDiff, reduceIte, reduceCtorEq, Nat.reduceAdd, Nat.reduceMul, Nat.reduceSub, Nat.reduceLT, Int.reduceLT, Int.reduceLE, Int.reduceNeg, Int.reduceToNat, Nat.reduceBEq, Nat.reduceBNe, Int.reduceGE, Int.reduceGT, *, cStep, cCopyR, cAreDeps, cAreRows, cWit, Try.results14, hq, hR, e0, e0'])))
            refine loop_next (i + 1) ⟨by omega, ht⟩ (by dsimp only; omega) ?_
            clear ht hF
            (repeat' (first
      | (refine gate_a fun _ => ?_)
      | (refine fork_intro (fun hb => ?_) (fun hb => ?_) <;> (try simp only [ew, hq] at hb))
      | (simp only [go_sem, Nat.reduceLeDiff, Nat.reduceEqDiff, reduceIte, reduceCtorEq, Nat.reduceAdd, Nat.reduceMul, Nat.reduceSub, Nat.reduceLT, Int.reduceLT, Int.reduceLE, Int.reduceNeg, Int.reduceToNat, Nat.reduceBEq, Nat.reduceBNe, Int.reduceGE, Int.reduceGT, *, cStep, cCopyR, cAreDeps, cAreRows, cWit, Try.results14, hq])))
          | some ab =>
            obtain ⟨a, b⟩ := ab
            rw [hw2] at ht
            obtain ⟨ha, hb⟩ := hw a b hw2
            have hR : wtR c rs 0 dl dr = some (a, b) := by unfold wtR; rw [hd1, if_pos rfl, hw2]
            have la := hl2 a ha
            have lb := hl2 b hb
            have e0 : (prI (some (a, b))).1 = a := rfl
            have e0' : (prI (some (a, b))).2 = b := rfl
            subst ht
            rw [Int.toNat_natCast]
            clear hw hF hw2 hl hd
            (repeat' (first
      | (refine gate_a fun _ => ?_)
      | (refine fork_intro (fun hb => ?_) (fun hb => ?_) <;> (try simp only [ew, hq, hR, e0, e0'] at hb))
      | (simp only [go_sem, Nat.reduceLeDiff, Nat.reduceEqDiff, reduceIte, reduceCtorEq, Nat.reduceAdd, Nat.reduceMul, Nat.reduceSub, Nat.reduceLT, Int.reduceLT, Int.reduceLE, Int.reduceNeg, Int.reduceToNat, Nat.reduceBEq, Nat.reduceBNe, Int.reduceGE, Int.reduceGT, *, cStep, cCopyR, cAreDeps, cAreRows, cWit, Try.results14, hq, hR, e0, e0'])))
            clear hR e0 e0'
            generalize hX : (rs.getD a []).getD dr 0 = x
            generalize hY : (rs.getD b []).getD dr 0 = y
            refine loop_intro { ι := Nat, rs := [(18, 19), (69, 89)], mods := [(68, fun j => .one (.d (.v (.int .i64 j))))], boxes := [(11, fun _ => [.d (.v (.int .i64 dl)), .d (.v (.int .i64 dr))])], arrs := [(8, fun j => (1, sL (mgL rs dr x y j), 2))], alis := [(66, 8)], ok := fun j => j ≤ rs.length, mu := fun j => rs.length - j } rfl 0 (Nat.zero_le _) ?_ fun j hj => ?_
            · (repeat' (first
      | (refine gate_a fun _ => ?_)
      | (refine fork_intro (fun hb => ?_) (fun hb => ?_) <;> (try simp only [ew] at hb))
      | (simp only [go_sem, Nat.reduceLeDiff, Nat.reduceEqDiff, reduceIte, reduceCtorEq, Nat.reduceAdd, Nat.reduceMul, Nat.reduceSub, Nat.reduceLT, Int.reduceLT, Int.reduceLE, Int.reduceNeg, Int.reduceToNat, Nat.reduceBEq, Nat.reduceBNe, Int.reduceGE, Int.reduceGT, *, cStep, cCopyR, cAreDeps, cAreRows, cWit, Try.results14])))
              all_goals first | rfl | skip
            · dsimp only at j hj
              by_cases h6 : j < rs.length
              · have lj := hl2 j h6
                have hg := mgL_get (c := dr) (a := x) (b := y) h6
                have hs := mgL_set (c := dr) (a := x) (b := y) h6
                have hk := mgL_keep (c := dr) (a := x) (b := y) h6
                by_cases hq2 : (rs.getD j []).getD dr 0 = max x y
                · have e1 : ((rs.getD j []).getD dr 0 == max x y) = true := by rw [hq2]; simp
                  have e2 : (rs.getD j []).set dr (min x y) = mergeC dr x y (rs.getD j []) := by rw [mergeC, if_pos hq2]
                  clear hq2 hk
                  (repeat' (first
      | (refine gate_a fun _ => ?_)
      | (refine fork_intro (fun hb => ?_) (fun hb => ?_) <;> (try simp only [ew, hq, mgL_length, hg, e1, e2, sL_set1] at hb))
      | (simp only [go_sem, Nat.reduceLeDiff, Nat.reduceEqDiff, reduceIte, reduceCtorEq, Nat.reduceAdd, Nat.reduceMul, Nat.reduceSub, Nat.reduceLT, Int.reduceLT, Int.reduceLE, Int.reduceNeg, Int.reduceToNat, Nat.reduceBEq, Nat.reduceBNe, Int.reduceGE, Int.reduceGT, *, cStep, cCopyR, cAreDeps, cAreRows, cWit, Try.results14, hq, mgL_length, hg, e1, e2, sL_set1])))
                  refine loop_next (j + 1) (by dsimp only; omega) (by dsimp only; omega) ?_
                  (repeat' (first
      | (refine gate_a fun _ => ?_)
      | (refine fork_intro (fun hb => ?_) (fun hb => ?_) <;> (try simp only [ew, hs, mgL_length, hg, e1, e2, sL_set1] at hb))
      | (simp only [go_sem, Nat.reduceLeDiff, Nat.reduceEqDiff, reduceIte, reduceCtorEq, Nat.reduceAdd, Nat.reduceMul, Nat.reduceSub, Nat.reduceLT, Int.reduceLT, Int.reduceLE, Int.reduceNeg, Int.reduceToNat, Nat.reduceBEq, Nat.reduceBNe, Int.reduceGE, Int.reduceGT, *, cStep, cCopyR, cAreDeps, cAreRows, cWit, Try.results14, hs, mgL_length, hg, e1, e2, sL_set1])))
                · have e1 : ((rs.getD j []).getD dr 0 == max x y) = false := by rw [beq_eq_false_iff_ne]; exact hq2
                  clear hq2 hs hk
                  (repeat' (first
      | (refine gate_a fun _ => ?_)
      | (refine fork_intro (fun hb => ?_) (fun hb => ?_) <;> (try simp only [ew, hq, mgL_length, hg, e1] at hb))
      | (simp only [go_sem, Nat.reduceLeDiff, Nat.reduceEqDiff, reduceIte, reduceCtorEq, Nat.reduceAdd, Nat.reduceMul, Nat.reduceSub, Nat.reduceLT, Int.reduceLT, Int.reduceLE, Int.reduceNeg, Int.reduceToNat, Nat.reduceBEq, Nat.reduceBNe, Int.reduceGE, Int.reduceGT, *, cStep, cCopyR, cAreDeps, cAreRows, cWit, Try.results14, hq, mgL_length, hg, e1])))
                  have hk := mgL_keep (c := dr) (a := x) (b := y) h6 (by rw [mergeC, if_neg (beq_eq_false_iff_ne.1 e1)])
                  clear hg
                  refine loop_next (j + 1) (by dsimp only; omega) (by dsimp only; omega) ?_
                  (repeat' (first
      | (refine gate_a fun _ => ?_)
      | (refine fork_intro (fun hb => ?_) (fun hb => ?_) <;> (try simp only [ew, hk] at hb))
      | (simp only [go_sem, Nat.reduceLeDiff, Nat.reduceEqDiff, reduceIte, reduceCtorEq, Nat.reduceAdd, Nat.reduceMul, Nat.reduceSub, Nat.reduceLT, Int.reduceLT, Int.reduceLE, Int.reduceNeg, Int.reduceToNat, Nat.reduceBEq, Nat.reduceBNe, Int.reduceGE, Int.reduceGT, *, cStep, cCopyR, cAreDeps, cAreRows, cWit, Try.results14, hk])))
              · have e5 : j = rs.length := by omega
                subst e5
                have e6 : mgL rs dr x y rs.length = rs.map (mergeC dr x y) := by simp [mgL, eqtR]
                (repeat' (first
      | (refine gate_a fun _ => ?_)
      | (refine fork_intro (fun hb => ?_) (fun hb => ?_) <;> (try simp only [ew, e6] at hb))
      | (simp only [go_sem, Nat.reduceLeDiff, Nat.reduceEqDiff, reduceIte, reduceCtorEq, Nat.reduceAdd, Nat.reduceMul, Nat.reduceSub, Nat.reduceLT, Int.reduceLT, Int.reduceLE, Int.reduceNeg, Int.reduceToNat, Nat.reduceBEq, Nat.reduceBNe, Int.reduceGE, Int.reduceGT, *, cStep, cCopyR, cAreDeps, cAreRows, cWit, Try.results14, e6])))
                all_goals first | rfl | exact ⟨rfl, rfl⟩ | skip
      · have e5 : i = ds.length := by omega
        subst e5
        rw [List.drop_length, csFind] at ht
        subst ht
        (repeat' (first
      | (refine gate_a fun _ => ?_)
      | (refine fork_intro (fun hb => ?_) (fun hb => ?_) <;> (try simp only [ew] at hb))
      | (simp only [go_sem, Nat.reduceLeDiff, Nat.reduceEqDiff, reduceIte, reduceCtorEq, Nat.reduceAdd, Nat.reduceMul, Nat.reduceSub, Nat.reduceLT, Int.reduceLT, Int.reduceLE, Int.reduceNeg, Int.reduceToNat, Nat.reduceBEq, Nat.reduceBNe, Int.reduceGE, Int.reduceGT, *, cStep, cCopyR, cAreDeps, cAreRows, cWit, Try.results14])))
        all_goals first | rfl | exact ⟨rfl, rfl⟩ | skip
end Go.Own
