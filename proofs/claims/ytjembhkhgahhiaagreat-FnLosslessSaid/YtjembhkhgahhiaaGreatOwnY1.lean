/- Own contracts. Conditions: as each theorem states them. -/
import Derived.Test.YtjembhkhgahhiaaGreatOwnE2
import Derived.Test.YtjembhkhgahhiaaGreatOwnY3
set_option linter.unusedSimpArgs false
set_option linter.unusedVariables false
set_option maxRecDepth 20000
set_option maxHeartbeats 2000000
namespace Go.Own
open Go Go.Proofs
def cInside : Contract := ⟨[], false, fun
 | [.one (.v (.int .i64 x)), .one (.v (.int .i64 y))] => some (True, [⟨false, [.d (.v (.bool (bitI .andNot .i64 x y == 0)))]⟩], [])
 | _ => none⟩
theorem inside_ok : ContractOK E0 122 cInside := by
 refine cWpc (E := E0) (T := mkT Tryz.prog [] false (fun _ => false) true (fun _ => false)) (mkT_ok (E := E0) .nil) (fn := Tryz.f122) Tryz.func122 (by kernel_rfl) rfl mixedT (by kernel_rfl) rfl ?_
 intro args p rs ms hr
 unfold cInside at hr
 dsimp only at hr
 split at hr
 rotate_left
 ·cases hr
 rename_i x y
 simp only [Option.some.injEq, Prod.mk.injEq] at hr
 obtain ⟨rfl, rfl, rfl⟩ := hr
 refine ⟨rfl, rfl, Nat.le_of_ble_eq_true rfl, ?_⟩
 have hm : maxLen = 9223372036854775807 := rfl
 intro _ bs
 (repeat' (first | (refine gA fun _ => ?_) | (refine fkI (fun hb => ?_) (fun hb => ?_) <;> (try simp only [ew] at hb)) | (simp only [go_sem, Nat.reduceLeDiff, Nat.reduceEqDiff, reduceIte, reduceCtorEq, Nat.reduceAdd, Nat.reduceMul, Nat.reduceSub, Nat.reduceLT, Int.reduceLT, Int.reduceLE, Int.reduceNeg, Int.reduceToNat, Nat.reduceBEq, Nat.reduceBNe, Int.reduceGE, Int.reduceGT, *, cInside, Tryz.results122])))
theorem ask_facts {c : Int} {rs : List (List Int)} {m l r : Int} (h : askOK c rs m l r = true) : tabOK c rs = true ∧ (0 ≤ l ∧ l ≤ 31) ∧ 0 ≤ r ∧ r ≤ 4 := by
 simp only [askOK, depOK, Bool.and_eq_true, inB_iff] at h
 have := isAttr_le h.2.1.2
 have h2 := tab_c h.1.1
 exact ⟨h.1.1, ⟨this.2.2.1, this.2.2.2⟩, h.2.2.1, by omega⟩
def cPair : Contract := ⟨[], false, fun
 | [.agg [.v (.int .i64 c), .sl 1 t], .one (.v (.int .i64 m)), .agg [.v (.int .i64 l), .v (.int .i64 r)]] => some (WfS t ∧ askOK c (unS t) m l r = true,
   [⟨false, [.d (.v (.int .i64 (prI (wtO c (unS t) m l r)).1))]⟩, ⟨false, [.d (.v (.int .i64 (prI (wtO c (unS t) m l r)).2))]⟩], [])
 | _ => none⟩
theorem pair_ok : ContractOK E0 73 cPair := by
 refine cWpc (E := E0) (T := mkT Tryz.prog [(124, cL4A)] false (fun _ => false) true (fun _ => false)) (mkT_ok (E := E0) (.cons l4A_ok .nil)) (fn := Tryz.f73) Tryz.func73 (by kernel_rfl) rfl mixedT (by kernel_rfl) rfl ?_
 intro args p rs ms hr
 unfold cPair at hr
 dsimp only at hr
 split at hr
 rotate_left
 ·cases hr
 rename_i c t m l r
 simp only [Option.some.injEq, Prod.mk.injEq] at hr
 obtain ⟨rfl, rfl, rfl⟩ := hr
 refine ⟨rfl, rfl, Nat.le_of_ble_eq_true rfl, ?_⟩
 have hm : maxLen = 9223372036854775807 := rfl
 rintro ⟨h1, hask⟩ bs
 obtain ⟨rs, rfl, hx, hy⟩ := h1.ex
 clear h1
 rw [unS_sL] at hask ⊢
 obtain ⟨ht, ⟨l0, l1⟩, r0, r1⟩ := ask_facts hask
 obtain ⟨c, rfl, c1, c5, h40, hlen⟩ := tab_rows ht
 clear hask
 unfold wtO
 rw [Int.toNat_natCast]
 generalize hR : dpI rs c m l r 0 rs.length = R
 (repeat' (first | (refine gA fun _ => ?_) | (refine fkI (fun hb => ?_) (fun hb => ?_) <;> (try simp only [ew] at hb)) | (simp only [go_sem, Nat.reduceLeDiff, Nat.reduceEqDiff, reduceIte, reduceCtorEq, Nat.reduceAdd, Nat.reduceMul, Nat.reduceSub, Nat.reduceLT, Int.reduceLT, Int.reduceLE, Int.reduceNeg, Int.reduceToNat, Nat.reduceBEq, Nat.reduceBNe, Int.reduceGE, Int.reduceGT, *, cPair, cL4A, Tryz.results73])))
 refine lpI { ι := Nat, rs := [(6, 8), (9, 49)], mods := [(8, fun i => .one (.d (.v (.int .i64 i))))], boxes := [(3, fun _ => [.d (.v (.int .i64 c)), .d (.sl 1 (sL rs))]), (5, fun _ => [.d (.v (.int .i64 l)), .d (.v (.int .i64 r))])], arrs := [], ok := fun i => i ≤ rs.length ∧ dpI rs c m l r i (rs.length - i) = R, mu := fun i => rs.length - i } rfl 0 ⟨Nat.zero_le _, hR⟩ ?_ fun i hi => ?_
 ·(repeat' (first | (refine gA fun _ => ?_) | (refine fkI (fun hb => ?_) (fun hb => ?_) <;> (try simp only [ew] at hb)) | (simp only [go_sem, Nat.reduceLeDiff, Nat.reduceEqDiff, reduceIte, reduceCtorEq, Nat.reduceAdd, Nat.reduceMul, Nat.reduceSub, Nat.reduceLT, Int.reduceLT, Int.reduceLE, Int.reduceNeg, Int.reduceToNat, Nat.reduceBEq, Nat.reduceBNe, Int.reduceGE, Int.reduceGT, *, cPair, cL4A, Tryz.results73])))
 ·dsimp only at i hi
  obtain ⟨hi, hd⟩ := hi
  by_cases h5 : i < rs.length
  ·rw [show rs.length - i = (rs.length - (i + 1)) + 1 by omega, dpI] at hd
   generalize hK : dpK rs c m l r i (i + 1) (rs.length - (i + 1)) = K at hd
   (repeat' (first | (refine gA fun _ => ?_) | (refine fkI (fun hb => ?_) (fun hb => ?_) <;> (try simp only [ew] at hb)) | (simp only [go_sem, Nat.reduceLeDiff, Nat.reduceEqDiff, reduceIte, reduceCtorEq, Nat.reduceAdd, Nat.reduceMul, Nat.reduceSub, Nat.reduceLT, Int.reduceLT, Int.reduceLE, Int.reduceNeg, Int.reduceToNat, Nat.reduceBEq, Nat.reduceBNe, Int.reduceGE, Int.reduceGT, *, cPair, cL4A, Tryz.results73])))
   refine lpI { ι := Nat, rs := [(6, 8), (10, 11), (20, 49)], mods := [(9, fun k => .one (.d (.v (.int .i64 k))))], boxes := [(3, fun _ => [.d (.v (.int .i64 c)), .d (.sl 1 (sL rs))]), (5, fun _ => [.d (.v (.int .i64 l)), .d (.v (.int .i64 r))])], arrs := [], ok := fun k => i + 1 ≤ k ∧ k ≤ rs.length ∧ dpK rs c m l r i k (rs.length - k) = K, mu := fun k => rs.length - k } rfl (i + 1) ⟨Nat.le_refl _, h5, hK⟩ ?_ fun k hk => ?_
   ·(repeat' (first | (refine gA fun _ => ?_) | (refine fkI (fun hb => ?_) (fun hb => ?_) <;> (try simp only [ew] at hb)) | (simp only [go_sem, Nat.reduceLeDiff, Nat.reduceEqDiff, reduceIte, reduceCtorEq, Nat.reduceAdd, Nat.reduceMul, Nat.reduceSub, Nat.reduceLT, Int.reduceLT, Int.reduceLE, Int.reduceNeg, Int.reduceToNat, Nat.reduceBEq, Nat.reduceBNe, Int.reduceGE, Int.reduceGT, *, cPair, cL4A, Tryz.results73])))
   ·dsimp only at k hk
    obtain ⟨hk0, hk, hdk⟩ := hk
    by_cases h6 : k < rs.length
    ·rw [show rs.length - k = (rs.length - (k + 1)) + 1 by omega, dpK] at hdk
     cases hb : dpC rs c m l r i k
     ·rw [hb, if_neg (by decide)] at hdk
      simp only [dpC, badS] at hb
      (repeat' (first | (refine gA fun _ => ?_) | (refine fkI (fun hb => ?_) (fun hb => ?_) <;> (try simp only [ew, bits64] at hb)) | (simp only [go_sem, Nat.reduceLeDiff, Nat.reduceEqDiff, reduceIte, reduceCtorEq, Nat.reduceAdd, Nat.reduceMul, Nat.reduceSub, Nat.reduceLT, Int.reduceLT, Int.reduceLE, Int.reduceNeg, Int.reduceToNat, Nat.reduceBEq, Nat.reduceBNe, Int.reduceGE, Int.reduceGT, *, cPair, cL4A, Tryz.results73, bits64])))
      refine lpN (k + 1) ⟨by omega, by omega, hdk⟩ (by dsimp only; omega) ?_
      clear hdk hd
      (repeat' (first | (refine gA fun _ => ?_) | (refine fkI (fun hb => ?_) (fun hb => ?_) <;> (try simp only [ew] at hb)) | (simp only [go_sem, Nat.reduceLeDiff, Nat.reduceEqDiff, reduceIte, reduceCtorEq, Nat.reduceAdd, Nat.reduceMul, Nat.reduceSub, Nat.reduceLT, Int.reduceLT, Int.reduceLE, Int.reduceNeg, Int.reduceToNat, Nat.reduceBEq, Nat.reduceBNe, Int.reduceGE, Int.reduceGT, *, cPair, cL4A, Tryz.results73])))
     ·rw [hb, if_pos rfl] at hdk
      simp only [dpC, badS] at hb
      subst hdk
      subst hd
      (repeat' (first | (refine gA fun _ => ?_) | (refine fkI (fun hb => ?_) (fun hb => ?_) <;> (try simp only [ew, bits64] at hb)) | (simp only [go_sem, Nat.reduceLeDiff, Nat.reduceEqDiff, reduceIte, reduceCtorEq, Nat.reduceAdd, Nat.reduceMul, Nat.reduceSub, Nat.reduceLT, Int.reduceLT, Int.reduceLE, Int.reduceNeg, Int.reduceToNat, Nat.reduceBEq, Nat.reduceBNe, Int.reduceGE, Int.reduceGT, *, cPair, cL4A, Tryz.results73, bits64])))
      all_goals first | exact ⟨rfl, rfl⟩ | skip
    ·rw [show rs.length - k = 0 by omega, dpK] at hdk
     subst hdk
     (repeat' (first | (refine gA fun _ => ?_) | (refine fkI (fun hb => ?_) (fun hb => ?_) <;> (try simp only [ew] at hb)) | (simp only [go_sem, Nat.reduceLeDiff, Nat.reduceEqDiff, reduceIte, reduceCtorEq, Nat.reduceAdd, Nat.reduceMul, Nat.reduceSub, Nat.reduceLT, Int.reduceLT, Int.reduceLE, Int.reduceNeg, Int.reduceToNat, Nat.reduceBEq, Nat.reduceBNe, Int.reduceGE, Int.reduceGT, *, cPair, cL4A, Tryz.results73])))
     refine lpN (i + 1) ⟨by omega, hd⟩ (by dsimp only; omega) ?_
     clear hd
     (repeat' (first | (refine gA fun _ => ?_) | (refine fkI (fun hb => ?_) (fun hb => ?_) <;> (try simp only [ew] at hb)) | (simp only [go_sem, Nat.reduceLeDiff, Nat.reduceEqDiff, reduceIte, reduceCtorEq, Nat.reduceAdd, Nat.reduceMul, Nat.reduceSub, Nat.reduceLT, Int.reduceLT, Int.reduceLE, Int.reduceNeg, Int.reduceToNat, Nat.reduceBEq, Nat.reduceBNe, Int.reduceGE, Int.reduceGT, *, cPair, cL4A, Tryz.results73])))
  ·rw [show rs.length - i = 0 by omega, dpI] at hd
   subst hd
   (repeat' (first | (refine gA fun _ => ?_) | (refine fkI (fun hb => ?_) (fun hb => ?_) <;> (try simp only [ew] at hb)) | (simp only [go_sem, Nat.reduceLeDiff, Nat.reduceEqDiff, reduceIte, reduceCtorEq, Nat.reduceAdd, Nat.reduceMul, Nat.reduceSub, Nat.reduceLT, Int.reduceLT, Int.reduceLE, Int.reduceNeg, Int.reduceToNat, Nat.reduceBEq, Nat.reduceBNe, Int.reduceGE, Int.reduceGT, *, cPair, cL4A, Tryz.results73])))
   all_goals first | exact ⟨rfl, rfl⟩ | skip
theorem prI_neg {o : Option (Nat × Nat)} : decide ((prI o).1 < 0) = o.isNone := by
 cases o with
 | none => rfl
 | some q =>
  show decide ((q.1 : Int) < 0) = false
  exact decide_eq_false (by omega)
def cHold : Contract := ⟨[], false, fun
 | [.agg [.v (.int .i64 c), .sl 1 t], .one (.v (.int .i64 m)), .agg [.v (.int .i64 l), .v (.int .i64 r)]] => some (WfS t ∧ -9223372036854775808 ≤ c ∧ c ≤ 9223372036854775807, [⟨false, [.d (.v (.bool (hdB c (unS t) m l r)))]⟩], [])
 | _ => none⟩
theorem holdS_ok : ContractOK E0 56 cHold := by
 refine cWpc (E := E0) (T := mkT Tryz.prog [(57, cFine), (90, cDep), (73, cPair)] false (fun _ => false) true (fun _ => false)) (mkT_ok (E := E0) (.cons fine_ok (.cons depS_ok (.cons pair_ok .nil)))) (fn := Tryz.f56) Tryz.func56 (by kernel_rfl) rfl mixedT (by kernel_rfl) rfl ?_
 intro args p rs ms hr
 unfold cHold at hr
 dsimp only at hr
 split at hr
 rotate_left
 ·cases hr
 rename_i c t m l r
 simp only [Option.some.injEq, Prod.mk.injEq] at hr
 obtain ⟨rfl, rfl, rfl⟩ := hr
 refine ⟨rfl, rfl, Nat.le_of_ble_eq_true rfl, ?_⟩
 have hm : maxLen = 9223372036854775807 := rfl
 rintro ⟨h1, hc1, hc2⟩ bs
 obtain ⟨rs, rfl, hx, hy⟩ := h1.ex
 clear h1
 rw [unS_sL]
 cases hask : askOK c rs m l r
 ·have e : hdB c rs m l r = false := by unfold hdB; rw [hask]; rfl
  rw [e]
  clear e
  have e0 : (!(tabOK c rs && modeOK m) || !depOK c l r) = true := by
   unfold askOK at hask
   cases q1 : (tabOK c rs && modeOK m) <;> cases q2 : depOK c l r <;> simp_all
  (repeat' (first | (refine gA fun _ => ?_) | (refine fkI (fun hb => ?_) (fun hb => ?_) <;> (try simp only [ew, e0] at hb)) | (simp only [go_sem, Nat.reduceLeDiff, Nat.reduceEqDiff, reduceIte, reduceCtorEq, Nat.reduceAdd, Nat.reduceMul, Nat.reduceSub, Nat.reduceLT, Int.reduceLT, Int.reduceLE, Int.reduceNeg, Int.reduceToNat, Nat.reduceBEq, Nat.reduceBNe, Int.reduceGE, Int.reduceGT, *, cHold, cFine, cDep, cPair, Tryz.results56, e0])))
  all_goals first | rfl | skip
 ·have e : hdB c rs m l r = (wtO c rs m l r).isNone := by unfold hdB; rw [hask]; rfl
  rw [e, ← prI_neg]
  clear e
  have e0 : (!(tabOK c rs && modeOK m) || !depOK c l r) = false := by
   unfold askOK at hask
   cases q1 : (tabOK c rs && modeOK m) <;> cases q2 : depOK c l r <;> simp_all
  (repeat' (first | (refine gA fun _ => ?_) | (refine fkI (fun hb => ?_) (fun hb => ?_) <;> (try simp only [ew, e0] at hb)) | (simp only [go_sem, Nat.reduceLeDiff, Nat.reduceEqDiff, reduceIte, reduceCtorEq, Nat.reduceAdd, Nat.reduceMul, Nat.reduceSub, Nat.reduceLT, Int.reduceLT, Int.reduceLE, Int.reduceNeg, Int.reduceToNat, Nat.reduceBEq, Nat.reduceBNe, Int.reduceGE, Int.reduceGT, *, cHold, cFine, cDep, cPair, Tryz.results56, e0])))
  all_goals first | rfl | skip
def cWit : Contract := ⟨[], false, fun
 | [.agg [.v (.int .i64 c), .sl 1 t], .one (.v (.int .i64 m)), .agg [.v (.int .i64 l), .v (.int .i64 r)]] => some (WfS t ∧ -9223372036854775808 ≤ c ∧ c ≤ 9223372036854775807,
   [⟨false, [.d (.v (.int .i64 (prI (wtR c (unS t) m l r)).1))]⟩, ⟨false, [.d (.v (.int .i64 (prI (wtR c (unS t) m l r)).2))]⟩, ⟨false, [.d (.v (.bool (wtR c (unS t) m l r).isSome))]⟩], [])
 | _ => none⟩
theorem witI_ok : ContractOK E0 71 cWit := by
 refine cWpc (E := E0) (T := mkT Tryz.prog [(120, cAsk), (121, cAgree), (122, cInside), (107, cHasB)] false (fun _ => false) true (fun _ => false)) (mkT_ok (E := E0) (.cons ask_ok (.cons agree_ok (.cons inside_ok (.cons hasB_ok .nil))))) (fn := Tryz.f71) Tryz.func71 (by kernel_rfl) rfl mixedT (by kernel_rfl) rfl ?_
 intro args p rs ms hr
 unfold cWit at hr
 dsimp only at hr
 split at hr
 rotate_left
 ·cases hr
 rename_i c t m l r
 simp only [Option.some.injEq, Prod.mk.injEq] at hr
 obtain ⟨rfl, rfl, rfl⟩ := hr
 refine ⟨rfl, rfl, Nat.le_of_ble_eq_true rfl, ?_⟩
 have hm : maxLen = 9223372036854775807 := rfl
 rintro ⟨h1, hc1, hc2⟩ bs
 obtain ⟨rs, rfl, hx, hy⟩ := h1.ex
 clear h1
 rw [unS_sL]
 cases hask : askOK c rs m l r
 ·have e : wtR c rs m l r = none := by unfold wtR; rw [hask]; rfl
  rw [e]
  clear e
  (repeat' (first | (refine gA fun _ => ?_) | (refine fkI (fun hb => ?_) (fun hb => ?_) <;> (try simp only [ew] at hb)) | (simp only [go_sem, Nat.reduceLeDiff, Nat.reduceEqDiff, reduceIte, reduceCtorEq, Nat.reduceAdd, Nat.reduceMul, Nat.reduceSub, Nat.reduceLT, Int.reduceLT, Int.reduceLE, Int.reduceNeg, Int.reduceToNat, Nat.reduceBEq, Nat.reduceBNe, Int.reduceGE, Int.reduceGT, *, cWit, cAsk, cAgree, cInside, cHasB, Tryz.results71])))
  all_goals first | exact ⟨rfl, rfl, rfl⟩ | exact ⟨rfl, rfl⟩ | skip
 ·have e : wtR c rs m l r = wtO c rs m l r := by unfold wtR; rw [hask]; rfl
  rw [e]
  clear e
  obtain ⟨ht, ⟨l0, l1⟩, r0, r1⟩ := ask_facts hask
  obtain ⟨c, rfl, c1, c5, h40, hlen⟩ := tab_rows ht
  unfold wtO
  rw [Int.toNat_natCast]
  generalize hR : dpI rs c m l r 0 rs.length = R
  (repeat' (first | (refine gA fun _ => ?_) | (refine fkI (fun hb => ?_) (fun hb => ?_) <;> (try simp only [ew] at hb)) | (simp only [go_sem, Nat.reduceLeDiff, Nat.reduceEqDiff, reduceIte, reduceCtorEq, Nat.reduceAdd, Nat.reduceMul, Nat.reduceSub, Nat.reduceLT, Int.reduceLT, Int.reduceLE, Int.reduceNeg, Int.reduceToNat, Nat.reduceBEq, Nat.reduceBNe, Int.reduceGE, Int.reduceGT, *, cWit, cAsk, cAgree, cInside, cHasB, Tryz.results71])))
  clear hask
  refine lpI { ι := Nat, rs := [(6, 13), (22, 57)], mods := [(21, fun i => .one (.d (.v (.int .i64 i))))], boxes := [(3, fun _ => [.d (.v (.int .i64 c)), .d (.sl 1 (sL rs))]), (5, fun _ => [.d (.v (.int .i64 l)), .d (.v (.int .i64 r))])], arrs := [], ok := fun i => i ≤ rs.length ∧ dpI rs c m l r i (rs.length - i) = R, mu := fun i => rs.length - i } rfl 0 ⟨Nat.zero_le _, hR⟩ ?_ fun i hi => ?_
  ·(repeat' (first | (refine gA fun _ => ?_) | (refine fkI (fun hb => ?_) (fun hb => ?_) <;> (try simp only [ew] at hb)) | (simp only [go_sem, Nat.reduceLeDiff, Nat.reduceEqDiff, reduceIte, reduceCtorEq, Nat.reduceAdd, Nat.reduceMul, Nat.reduceSub, Nat.reduceLT, Int.reduceLT, Int.reduceLE, Int.reduceNeg, Int.reduceToNat, Nat.reduceBEq, Nat.reduceBNe, Int.reduceGE, Int.reduceGT, *, cWit, cAsk, cAgree, cInside, cHasB, Tryz.results71])))
  ·dsimp only at i hi
   obtain ⟨hi, hd⟩ := hi
   by_cases h5 : i < rs.length
   ·rw [show rs.length - i = (rs.length - (i + 1)) + 1 by omega, dpI] at hd
    generalize hK : dpK rs c m l r i (i + 1) (rs.length - (i + 1)) = K at hd
    have li := hlen i h5
    have lm := all_getD hy i
    (repeat' (first | (refine gA fun _ => ?_) | (refine fkI (fun hb => ?_) (fun hb => ?_) <;> (try simp only [ew] at hb)) | (simp only [go_sem, Nat.reduceLeDiff, Nat.reduceEqDiff, reduceIte, reduceCtorEq, Nat.reduceAdd, Nat.reduceMul, Nat.reduceSub, Nat.reduceLT, Int.reduceLT, Int.reduceLE, Int.reduceNeg, Int.reduceToNat, Nat.reduceBEq, Nat.reduceBNe, Int.reduceGE, Int.reduceGT, *, cWit, cAsk, cAgree, cInside, cHasB, Tryz.results71])))
    refine lpI { ι := Nat, rs := [(6, 9), (12, 13), (28, 56)], mods := [(11, fun k => .one (.d (.v (.int .i64 k))))], boxes := [(3, fun _ => [.d (.v (.int .i64 c)), .d (.sl 1 (sL rs))]), (5, fun _ => [.d (.v (.int .i64 l)), .d (.v (.int .i64 r))])], arrs := [], ok := fun k => i + 1 ≤ k ∧ k ≤ rs.length ∧ dpK rs c m l r i k (rs.length - k) = K, mu := fun k => rs.length - k } rfl (i + 1) ⟨Nat.le_refl _, h5, hK⟩ ?_ fun k hk => ?_
    ·(repeat' (first | (refine gA fun _ => ?_) | (refine fkI (fun hb => ?_) (fun hb => ?_) <;> (try simp only [ew] at hb)) | (simp only [go_sem, Nat.reduceLeDiff, Nat.reduceEqDiff, reduceIte, reduceCtorEq, Nat.reduceAdd, Nat.reduceMul, Nat.reduceSub, Nat.reduceLT, Int.reduceLT, Int.reduceLE, Int.reduceNeg, Int.reduceToNat, Nat.reduceBEq, Nat.reduceBNe, Int.reduceGE, Int.reduceGT, *, cWit, cAsk, cAgree, cInside, cHasB, Tryz.results71])))
    ·dsimp only at k hk
     obtain ⟨hk0, hk, hdk⟩ := hk
     by_cases h6 : k < rs.length
     ·rw [show rs.length - k = (rs.length - (k + 1)) + 1 by omega, dpK] at hdk
      have lk := hlen k h6
      have lm2 := all_getD hy k
      have hag := @agL_range m (rs.getD i []) (rs.getD k []) c c5
      cases hb : dpC rs c m l r i k
      ·rw [hb, if_neg (by decide)] at hdk
       simp only [dpC] at hb
       rw [← bad_eq hag ⟨l0, l1⟩ ⟨r0, r1⟩, badI] at hb
       clear hag
       (repeat' (first | (refine gA fun _ => ?_) | (refine fkI (fun hb => ?_) (fun hb => ?_) <;> (try simp only [ew, bits64] at hb)) | (simp only [go_sem, Nat.reduceLeDiff, Nat.reduceEqDiff, reduceIte, reduceCtorEq, Nat.reduceAdd, Nat.reduceMul, Nat.reduceSub, Nat.reduceLT, Int.reduceLT, Int.reduceLE, Int.reduceNeg, Int.reduceToNat, Nat.reduceBEq, Nat.reduceBNe, Int.reduceGE, Int.reduceGT, *, cWit, cAsk, cAgree, cInside, cHasB, Tryz.results71, bits64])))
       refine lpN (k + 1) ⟨by omega, by omega, hdk⟩ (by dsimp only; omega) ?_
       clear hdk hd hb lm2 lk li lm
       (repeat' (first | (refine gA fun _ => ?_) | (refine fkI (fun hb => ?_) (fun hb => ?_) <;> (try simp only [ew] at hb)) | (simp only [go_sem, Nat.reduceLeDiff, Nat.reduceEqDiff, reduceIte, reduceCtorEq, Nat.reduceAdd, Nat.reduceMul, Nat.reduceSub, Nat.reduceLT, Int.reduceLT, Int.reduceLE, Int.reduceNeg, Int.reduceToNat, Nat.reduceBEq, Nat.reduceBNe, Int.reduceGE, Int.reduceGT, *, cWit, cAsk, cAgree, cInside, cHasB, Tryz.results71])))
      ·rw [hb, if_pos rfl] at hdk
       simp only [dpC] at hb
       rw [← bad_eq hag ⟨l0, l1⟩ ⟨r0, r1⟩, badI] at hb
       clear hag
       subst hdk
       subst hd
       (repeat' (first | (refine gA fun _ => ?_) | (refine fkI (fun hb => ?_) (fun hb => ?_) <;> (try simp only [ew, bits64] at hb)) | (simp only [go_sem, Nat.reduceLeDiff, Nat.reduceEqDiff, reduceIte, reduceCtorEq, Nat.reduceAdd, Nat.reduceMul, Nat.reduceSub, Nat.reduceLT, Int.reduceLT, Int.reduceLE, Int.reduceNeg, Int.reduceToNat, Nat.reduceBEq, Nat.reduceBNe, Int.reduceGE, Int.reduceGT, *, cWit, cAsk, cAgree, cInside, cHasB, Tryz.results71, bits64])))
       all_goals first | exact ⟨rfl, rfl, rfl⟩ | exact ⟨rfl, rfl⟩ | skip
     ·rw [show rs.length - k = 0 by omega, dpK] at hdk
      subst hdk
      (repeat' (first | (refine gA fun _ => ?_) | (refine fkI (fun hb => ?_) (fun hb => ?_) <;> (try simp only [ew] at hb)) | (simp only [go_sem, Nat.reduceLeDiff, Nat.reduceEqDiff, reduceIte, reduceCtorEq, Nat.reduceAdd, Nat.reduceMul, Nat.reduceSub, Nat.reduceLT, Int.reduceLT, Int.reduceLE, Int.reduceNeg, Int.reduceToNat, Nat.reduceBEq, Nat.reduceBNe, Int.reduceGE, Int.reduceGT, *, cWit, cAsk, cAgree, cInside, cHasB, Tryz.results71])))
      refine lpN (i + 1) ⟨by omega, hd⟩ (by dsimp only; omega) ?_
      clear hd li lm
      (repeat' (first | (refine gA fun _ => ?_) | (refine fkI (fun hb => ?_) (fun hb => ?_) <;> (try simp only [ew] at hb)) | (simp only [go_sem, Nat.reduceLeDiff, Nat.reduceEqDiff, reduceIte, reduceCtorEq, Nat.reduceAdd, Nat.reduceMul, Nat.reduceSub, Nat.reduceLT, Int.reduceLT, Int.reduceLE, Int.reduceNeg, Int.reduceToNat, Nat.reduceBEq, Nat.reduceBNe, Int.reduceGE, Int.reduceGT, *, cWit, cAsk, cAgree, cInside, cHasB, Tryz.results71])))
   ·rw [show rs.length - i = 0 by omega, dpI] at hd
    subst hd
    (repeat' (first | (refine gA fun _ => ?_) | (refine fkI (fun hb => ?_) (fun hb => ?_) <;> (try simp only [ew] at hb)) | (simp only [go_sem, Nat.reduceLeDiff, Nat.reduceEqDiff, reduceIte, reduceCtorEq, Nat.reduceAdd, Nat.reduceMul, Nat.reduceSub, Nat.reduceLT, Int.reduceLT, Int.reduceLE, Int.reduceNeg, Int.reduceToNat, Nat.reduceBEq, Nat.reduceBNe, Int.reduceGE, Int.reduceGT, *, cWit, cAsk, cAgree, cInside, cHasB, Tryz.results71])))
    all_goals first | exact ⟨rfl, rfl, rfl⟩ | exact ⟨rfl, rfl⟩ | skip
end Go.Own
namespace Go.Own
open Go Go.Proofs
attribute [local go_sem] unD_dL dL_length dL_get dL_set dL_inj wfD_dL scal2 beq2 pair_eta
def depsOK (n : Int) (ds : List (Int × Int)) : Bool := ds.all (fun d => depOK n d.1 d.2) && (inB n 1 5 && decide ((ds.length : Int) ≤ 20))
def cAreDeps : Contract := ⟨[], false, fun
 | [.one (.v (.int .i64 n)), .one (.sl 2 l)] => some (WfD l ∧ -9223372036854775808 ≤ n ∧ n ≤ 9223372036854775807, [⟨false, [.d (.v (.bool (depsOK n (unD l))))]⟩], [])
 | _ => none⟩
theorem areDepsI_ok : ContractOK E0 43 cAreDeps := by
 refine cWpc (E := E0) (T := mkT Tryz.prog [(104, cDep)] false (fun _ => false) true (fun _ => false)) (mkT_ok (E := E0) (.cons depI_ok .nil)) (fn := Tryz.f43) Tryz.func43 (by kernel_rfl) rfl mixedT (by kernel_rfl) rfl ?_
 intro args p rs ms hr
 unfold cAreDeps at hr
 dsimp only at hr
 split at hr
 rotate_left
 ·cases hr
 rename_i n l
 simp only [Option.some.injEq, Prod.mk.injEq] at hr
 obtain ⟨rfl, rfl, rfl⟩ := hr
 refine ⟨rfl, rfl, Nat.le_of_ble_eq_true rfl, ?_⟩
 have hm : maxLen = 9223372036854775807 := rfl
 rintro ⟨h1, hn1, hn2⟩ bs
 obtain ⟨ds, rfl, hx⟩ := h1.ex
 clear h1
 rw [unD_dL]
 (repeat' (first | (refine gA fun _ => ?_) | (refine fkI (fun hb => ?_) (fun hb => ?_) <;> (try simp only [ew] at hb)) | (simp only [go_sem, Nat.reduceLeDiff, Nat.reduceEqDiff, reduceIte, reduceCtorEq, Nat.reduceAdd, Nat.reduceMul, Nat.reduceSub, Nat.reduceLT, Int.reduceLT, Int.reduceLE, Int.reduceNeg, Int.reduceToNat, Nat.reduceBEq, Nat.reduceBNe, Int.reduceGE, Int.reduceGT, *, cAreDeps, cDep, Tryz.results43])))
 refine lpI { ι := Nat, rs := [(4, 5), (6, 7), (10, 18)], mods := [(9, fun i => .one (.d (.v (.int .i64 i))))], boxes := [], arrs := [], ok := fun i => i ≤ ds.length ∧ (ds.drop i).all (fun d => depOK n d.1 d.2) = ds.all (fun d => depOK n d.1 d.2), mu := fun i => ds.length - i } rfl 0 ⟨Nat.zero_le _, rfl⟩ ?_ fun i hi => ?_
 ·(repeat' (first | (refine gA fun _ => ?_) | (refine fkI (fun hb => ?_) (fun hb => ?_) <;> (try simp only [ew] at hb)) | (simp only [go_sem, Nat.reduceLeDiff, Nat.reduceEqDiff, reduceIte, reduceCtorEq, Nat.reduceAdd, Nat.reduceMul, Nat.reduceSub, Nat.reduceLT, Int.reduceLT, Int.reduceLE, Int.reduceNeg, Int.reduceToNat, Nat.reduceBEq, Nat.reduceBNe, Int.reduceGE, Int.reduceGT, *, cAreDeps, cDep, Tryz.results43])))
 ·dsimp only at i hi
  obtain ⟨hi, ht⟩ := hi
  by_cases h5 : i < ds.length
  ·rw [all_drop h5 (0, 0) _] at ht
   cases hq : depOK n (ds.getD i (0, 0)).1 (ds.getD i (0, 0)).2
   ·have e : depsOK n ds = false := by unfold depsOK; rw [← ht, hq]; rfl
    rw [e]
    clear e ht
    (repeat' (first | (refine gA fun _ => ?_) | (refine fkI (fun hb => ?_) (fun hb => ?_) <;> (try simp only [ew, hq] at hb)) | (simp only [go_sem, Nat.reduceLeDiff, Nat.reduceEqDiff, reduceIte, reduceCtorEq, Nat.reduceAdd, Nat.reduceMul, Nat.reduceSub, Nat.reduceLT, Int.reduceLT, Int.reduceLE, Int.reduceNeg, Int.reduceToNat, Nat.reduceBEq, Nat.reduceBNe, Int.reduceGE, Int.reduceGT, *, cAreDeps, cDep, Tryz.results43, hq])))
   ·rw [hq, Bool.true_and] at ht
    (repeat' (first | (refine gA fun _ => ?_) | (refine fkI (fun hb => ?_) (fun hb => ?_) <;> (try simp only [ew, hq] at hb)) | (simp only [go_sem, Nat.reduceLeDiff, Nat.reduceEqDiff, reduceIte, reduceCtorEq, Nat.reduceAdd, Nat.reduceMul, Nat.reduceSub, Nat.reduceLT, Int.reduceLT, Int.reduceLE, Int.reduceNeg, Int.reduceToNat, Nat.reduceBEq, Nat.reduceBNe, Int.reduceGE, Int.reduceGT, *, cAreDeps, cDep, Tryz.results43, hq])))
    refine lpN (i + 1) ⟨by omega, ht⟩ (by dsimp only; omega) ?_
    clear ht
    (repeat' (first | (refine gA fun _ => ?_) | (refine fkI (fun hb => ?_) (fun hb => ?_) <;> (try simp only [ew] at hb)) | (simp only [go_sem, Nat.reduceLeDiff, Nat.reduceEqDiff, reduceIte, reduceCtorEq, Nat.reduceAdd, Nat.reduceMul, Nat.reduceSub, Nat.reduceLT, Int.reduceLT, Int.reduceLE, Int.reduceNeg, Int.reduceToNat, Nat.reduceBEq, Nat.reduceBNe, Int.reduceGE, Int.reduceGT, *, cAreDeps, cDep, Tryz.results43])))
  ·have e5 : i = ds.length := by omega
   subst e5
   rw [List.drop_length, List.all_nil] at ht
   have e : depsOK n ds = (decide (n ≥ 1) && decide (n ≤ 5) && decide ((ds.length : Int) ≤ 20)) := by unfold depsOK; rw [← ht]; rfl
   rw [e]
   clear e ht
   (repeat' (first | (refine gA fun _ => ?_) | (refine fkI (fun hb => ?_) (fun hb => ?_) <;> (try simp only [ew] at hb)) | (simp only [go_sem, Nat.reduceLeDiff, Nat.reduceEqDiff, reduceIte, reduceCtorEq, Nat.reduceAdd, Nat.reduceMul, Nat.reduceSub, Nat.reduceLT, Int.reduceLT, Int.reduceLE, Int.reduceNeg, Int.reduceToNat, Nat.reduceBEq, Nat.reduceBNe, Int.reduceGE, Int.reduceGT, *, cAreDeps, cDep, Tryz.results43])))
theorem areDepsS_ok : ContractOK E0 31 cAreDeps := by
 refine cWpc (E := E0) (T := mkT Tryz.prog [(90, cDep), (67, cL1In)] false (fun _ => false) true (fun _ => false)) (mkT_ok (E := E0) (.cons depS_ok (.cons l1In_ok .nil))) (fn := Tryz.f31) Tryz.func31 (by kernel_rfl) rfl mixedT (by kernel_rfl) rfl ?_
 intro args p rs ms hr
 unfold cAreDeps at hr
 dsimp only at hr
 split at hr
 rotate_left
 ·cases hr
 rename_i n l
 simp only [Option.some.injEq, Prod.mk.injEq] at hr
 obtain ⟨rfl, rfl, rfl⟩ := hr
 refine ⟨rfl, rfl, Nat.le_of_ble_eq_true rfl, ?_⟩
 have hm : maxLen = 9223372036854775807 := rfl
 rintro ⟨h1, hn1, hn2⟩ bs
 obtain ⟨ds, rfl, hx⟩ := h1.ex
 clear h1
 rw [unD_dL]
 (repeat' (first | (refine gA fun _ => ?_) | (refine fkI (fun hb => ?_) (fun hb => ?_) <;> (try simp only [ew] at hb)) | (simp only [go_sem, Nat.reduceLeDiff, Nat.reduceEqDiff, reduceIte, reduceCtorEq, Nat.reduceAdd, Nat.reduceMul, Nat.reduceSub, Nat.reduceLT, Int.reduceLT, Int.reduceLE, Int.reduceNeg, Int.reduceToNat, Nat.reduceBEq, Nat.reduceBNe, Int.reduceGE, Int.reduceGT, *, cAreDeps, cDep, cL1In, Tryz.results31])))
 refine lpI { ι := Nat, rs := [(4, 5), (6, 19)], mods := [(5, fun i => .one (.d (.v (.int .i64 i))))], boxes := [], arrs := [], ok := fun i => i ≤ ds.length ∧ (ds.drop i).all (fun d => depOK n d.1 d.2) = ds.all (fun d => depOK n d.1 d.2), mu := fun i => ds.length - i } rfl 0 ⟨Nat.zero_le _, rfl⟩ ?_ fun i hi => ?_
 ·(repeat' (first | (refine gA fun _ => ?_) | (refine fkI (fun hb => ?_) (fun hb => ?_) <;> (try simp only [ew] at hb)) | (simp only [go_sem, Nat.reduceLeDiff, Nat.reduceEqDiff, reduceIte, reduceCtorEq, Nat.reduceAdd, Nat.reduceMul, Nat.reduceSub, Nat.reduceLT, Int.reduceLT, Int.reduceLE, Int.reduceNeg, Int.reduceToNat, Nat.reduceBEq, Nat.reduceBNe, Int.reduceGE, Int.reduceGT, *, cAreDeps, cDep, cL1In, Tryz.results31])))
 ·dsimp only at i hi
  obtain ⟨hi, ht⟩ := hi
  by_cases h5 : i < ds.length
  ·rw [all_drop h5 (0, 0) _] at ht
   cases hq : depOK n (ds.getD i (0, 0)).1 (ds.getD i (0, 0)).2
   ·have e : depsOK n ds = false := by unfold depsOK; rw [← ht, hq]; rfl
    rw [e]
    clear e ht
    (repeat' (first | (refine gA fun _ => ?_) | (refine fkI (fun hb => ?_) (fun hb => ?_) <;> (try simp only [ew, hq] at hb)) | (simp only [go_sem, Nat.reduceLeDiff, Nat.reduceEqDiff, reduceIte, reduceCtorEq, Nat.reduceAdd, Nat.reduceMul, Nat.reduceSub, Nat.reduceLT, Int.reduceLT, Int.reduceLE, Int.reduceNeg, Int.reduceToNat, Nat.reduceBEq, Nat.reduceBNe, Int.reduceGE, Int.reduceGT, *, cAreDeps, cDep, cL1In, Tryz.results31, hq])))
   ·rw [hq, Bool.true_and] at ht
    (repeat' (first | (refine gA fun _ => ?_) | (refine fkI (fun hb => ?_) (fun hb => ?_) <;> (try simp only [ew, hq] at hb)) | (simp only [go_sem, Nat.reduceLeDiff, Nat.reduceEqDiff, reduceIte, reduceCtorEq, Nat.reduceAdd, Nat.reduceMul, Nat.reduceSub, Nat.reduceLT, Int.reduceLT, Int.reduceLE, Int.reduceNeg, Int.reduceToNat, Nat.reduceBEq, Nat.reduceBNe, Int.reduceGE, Int.reduceGT, *, cAreDeps, cDep, cL1In, Tryz.results31, hq])))
    refine lpN (i + 1) ⟨by omega, ht⟩ (by dsimp only; omega) ?_
    clear ht
    (repeat' (first | (refine gA fun _ => ?_) | (refine fkI (fun hb => ?_) (fun hb => ?_) <;> (try simp only [ew] at hb)) | (simp only [go_sem, Nat.reduceLeDiff, Nat.reduceEqDiff, reduceIte, reduceCtorEq, Nat.reduceAdd, Nat.reduceMul, Nat.reduceSub, Nat.reduceLT, Int.reduceLT, Int.reduceLE, Int.reduceNeg, Int.reduceToNat, Nat.reduceBEq, Nat.reduceBNe, Int.reduceGE, Int.reduceGT, *, cAreDeps, cDep, cL1In, Tryz.results31])))
  ·have e5 : i = ds.length := by omega
   subst e5
   rw [List.drop_length, List.all_nil] at ht
   have e : depsOK n ds = (inB n 1 5 && decide ((ds.length : Int) ≤ 20)) := by unfold depsOK; rw [← ht]; rfl
   rw [e]
   clear e ht
   (repeat' (first | (refine gA fun _ => ?_) | (refine fkI (fun hb => ?_) (fun hb => ?_) <;> (try simp only [ew] at hb)) | (simp only [go_sem, Nat.reduceLeDiff, Nat.reduceEqDiff, reduceIte, reduceCtorEq, Nat.reduceAdd, Nat.reduceMul, Nat.reduceSub, Nat.reduceLT, Int.reduceLT, Int.reduceLE, Int.reduceNeg, Int.reduceToNat, Nat.reduceBEq, Nat.reduceBNe, Int.reduceGE, Int.reduceGT, *, cAreDeps, cDep, cL1In, Tryz.results31])))
def rowG (n : Int) (r : List Int) : Bool := rowOK r n && !r.contains (-1)
def rowsOK (n : Int) (rs : List (List Int)) : Bool := rs.all (rowG n) && decide ((rs.length : Int) ≤ 40)
theorem rowG_eq {n : Int} {r : List Int} : (!rowOK r n || r.contains (-1)) = !rowG n r := by unfold rowG; cases rowOK r n <;> simp
def cAreRows : Contract := ⟨[], false, fun
 | [.one (.v (.int .i64 n)), .one (.sl 1 t)] => some (WfS t ∧ -9223372036854775808 ≤ n ∧ n ≤ 9223372036854775807, [⟨false, [.d (.v (.bool (rowsOK n (unS t))))]⟩], [])
 | _ => none⟩
theorem areRowsI_ok : ContractOK E0 70 cAreRows := by
 refine cWpc (E := E0) (T := mkT Tryz.prog [(105, cL3Row), (119, cHas)] false (fun _ => false) true (fun _ => false)) (mkT_ok (E := E0) (.cons isRow_ok (.cons hasI_ok .nil))) (fn := Tryz.f70) Tryz.func70 (by kernel_rfl) rfl mixedT (by kernel_rfl) rfl ?_
 intro args p rs ms hr
 unfold cAreRows at hr
 dsimp only at hr
 split at hr
 rotate_left
 ·cases hr
 rename_i n t
 simp only [Option.some.injEq, Prod.mk.injEq] at hr
 obtain ⟨rfl, rfl, rfl⟩ := hr
 refine ⟨rfl, rfl, Nat.le_of_ble_eq_true rfl, ?_⟩
 have hm : maxLen = 9223372036854775807 := rfl
 rintro ⟨h1, hn1, hn2⟩ bs
 obtain ⟨rs, rfl, hx, hy⟩ := h1.ex
 clear h1
 rw [unS_sL]
 (repeat' (first | (refine gA fun _ => ?_) | (refine fkI (fun hb => ?_) (fun hb => ?_) <;> (try simp only [ew] at hb)) | (simp only [go_sem, Nat.reduceLeDiff, Nat.reduceEqDiff, reduceIte, reduceCtorEq, Nat.reduceAdd, Nat.reduceMul, Nat.reduceSub, Nat.reduceLT, Int.reduceLT, Int.reduceLE, Int.reduceNeg, Int.reduceToNat, Nat.reduceBEq, Nat.reduceBNe, Int.reduceGE, Int.reduceGT, *, cAreRows, cL3Row, cHas, Tryz.results70])))
 refine lpI { ι := Nat, rs := [(4, 5), (6, 7), (10, 22)], mods := [(9, fun i => .one (.d (.v (.int .i64 i))))], boxes := [], arrs := [], ok := fun i => i ≤ rs.length ∧ (rs.drop i).all (rowG n) = rs.all (rowG n), mu := fun i => rs.length - i } rfl 0 ⟨Nat.zero_le _, rfl⟩ ?_ fun i hi => ?_
 ·(repeat' (first | (refine gA fun _ => ?_) | (refine fkI (fun hb => ?_) (fun hb => ?_) <;> (try simp only [ew] at hb)) | (simp only [go_sem, Nat.reduceLeDiff, Nat.reduceEqDiff, reduceIte, reduceCtorEq, Nat.reduceAdd, Nat.reduceMul, Nat.reduceSub, Nat.reduceLT, Int.reduceLT, Int.reduceLE, Int.reduceNeg, Int.reduceToNat, Nat.reduceBEq, Nat.reduceBNe, Int.reduceGE, Int.reduceGT, *, cAreRows, cL3Row, cHas, Tryz.results70])))
 ·dsimp only at i hi
  obtain ⟨hi, ht⟩ := hi
  have hri := all_getD hy i
  by_cases h5 : i < rs.length
  ·rw [all_drop h5 [] _] at ht
   have hg := @rowG_eq n (rs.getD i [])
   cases hq : rowG n (rs.getD i [])
   ·have e : rowsOK n rs = false := by unfold rowsOK; rw [← ht, hq]; rfl
    rw [hq] at hg
    rw [e]
    clear e ht
    (repeat' (first | (refine gA fun _ => ?_) | (refine fkI (fun hb => ?_) (fun hb => ?_) <;> (try simp only [ew, hg] at hb)) | (simp only [go_sem, Nat.reduceLeDiff, Nat.reduceEqDiff, reduceIte, reduceCtorEq, Nat.reduceAdd, Nat.reduceMul, Nat.reduceSub, Nat.reduceLT, Int.reduceLT, Int.reduceLE, Int.reduceNeg, Int.reduceToNat, Nat.reduceBEq, Nat.reduceBNe, Int.reduceGE, Int.reduceGT, *, cAreRows, cL3Row, cHas, Tryz.results70, hg])))
   ·rw [hq, Bool.true_and] at ht
    rw [hq] at hg
    (repeat' (first | (refine gA fun _ => ?_) | (refine fkI (fun hb => ?_) (fun hb => ?_) <;> (try simp only [ew, hg] at hb)) | (simp only [go_sem, Nat.reduceLeDiff, Nat.reduceEqDiff, reduceIte, reduceCtorEq, Nat.reduceAdd, Nat.reduceMul, Nat.reduceSub, Nat.reduceLT, Int.reduceLT, Int.reduceLE, Int.reduceNeg, Int.reduceToNat, Nat.reduceBEq, Nat.reduceBNe, Int.reduceGE, Int.reduceGT, *, cAreRows, cL3Row, cHas, Tryz.results70, hg])))
    refine lpN (i + 1) ⟨by omega, ht⟩ (by dsimp only; omega) ?_
    clear ht hg
    (repeat' (first | (refine gA fun _ => ?_) | (refine fkI (fun hb => ?_) (fun hb => ?_) <;> (try simp only [ew] at hb)) | (simp only [go_sem, Nat.reduceLeDiff, Nat.reduceEqDiff, reduceIte, reduceCtorEq, Nat.reduceAdd, Nat.reduceMul, Nat.reduceSub, Nat.reduceLT, Int.reduceLT, Int.reduceLE, Int.reduceNeg, Int.reduceToNat, Nat.reduceBEq, Nat.reduceBNe, Int.reduceGE, Int.reduceGT, *, cAreRows, cL3Row, cHas, Tryz.results70])))
  ·have e5 : i = rs.length := by omega
   subst e5
   rw [List.drop_length, List.all_nil] at ht
   have e : rowsOK n rs = decide ((rs.length : Int) ≤ 40) := by unfold rowsOK; rw [← ht]; rfl
   rw [e]
   clear e ht
   (repeat' (first | (refine gA fun _ => ?_) | (refine fkI (fun hb => ?_) (fun hb => ?_) <;> (try simp only [ew] at hb)) | (simp only [go_sem, Nat.reduceLeDiff, Nat.reduceEqDiff, reduceIte, reduceCtorEq, Nat.reduceAdd, Nat.reduceMul, Nat.reduceSub, Nat.reduceLT, Int.reduceLT, Int.reduceLE, Int.reduceNeg, Int.reduceToNat, Nat.reduceBEq, Nat.reduceBNe, Int.reduceGE, Int.reduceGT, *, cAreRows, cL3Row, cHas, Tryz.results70])))
theorem areRowsS_ok : ContractOK E0 72 cAreRows := by
 refine cWpc (E := E0) (T := mkT Tryz.prog [(114, cL3Row), (123, cHas)] false (fun _ => false) true (fun _ => false)) (mkT_ok (E := E0) (.cons l3Row_ok (.cons hasS_ok .nil))) (fn := Tryz.f72) Tryz.func72 (by kernel_rfl) rfl mixedT (by kernel_rfl) rfl ?_
 intro args p rs ms hr
 unfold cAreRows at hr
 dsimp only at hr
 split at hr
 rotate_left
 ·cases hr
 rename_i n t
 simp only [Option.some.injEq, Prod.mk.injEq] at hr
 obtain ⟨rfl, rfl, rfl⟩ := hr
 refine ⟨rfl, rfl, Nat.le_of_ble_eq_true rfl, ?_⟩
 have hm : maxLen = 9223372036854775807 := rfl
 rintro ⟨h1, hn1, hn2⟩ bs
 obtain ⟨rs, rfl, hx, hy⟩ := h1.ex
 clear h1
 rw [unS_sL]
 (repeat' (first | (refine gA fun _ => ?_) | (refine fkI (fun hb => ?_) (fun hb => ?_) <;> (try simp only [ew] at hb)) | (simp only [go_sem, Nat.reduceLeDiff, Nat.reduceEqDiff, reduceIte, reduceCtorEq, Nat.reduceAdd, Nat.reduceMul, Nat.reduceSub, Nat.reduceLT, Int.reduceLT, Int.reduceLE, Int.reduceNeg, Int.reduceToNat, Nat.reduceBEq, Nat.reduceBNe, Int.reduceGE, Int.reduceGT, *, cAreRows, cL3Row, cHas, Tryz.results72])))
 refine lpI { ι := Nat, rs := [(4, 5), (6, 26)], mods := [(5, fun i => .one (.d (.v (.int .i64 i))))], boxes := [], arrs := [], ok := fun i => i ≤ rs.length ∧ (rs.drop i).all (rowG n) = rs.all (rowG n), mu := fun i => rs.length - i } rfl 0 ⟨Nat.zero_le _, rfl⟩ ?_ fun i hi => ?_
 ·(repeat' (first | (refine gA fun _ => ?_) | (refine fkI (fun hb => ?_) (fun hb => ?_) <;> (try simp only [ew] at hb)) | (simp only [go_sem, Nat.reduceLeDiff, Nat.reduceEqDiff, reduceIte, reduceCtorEq, Nat.reduceAdd, Nat.reduceMul, Nat.reduceSub, Nat.reduceLT, Int.reduceLT, Int.reduceLE, Int.reduceNeg, Int.reduceToNat, Nat.reduceBEq, Nat.reduceBNe, Int.reduceGE, Int.reduceGT, *, cAreRows, cL3Row, cHas, Tryz.results72])))
 ·dsimp only at i hi
  obtain ⟨hi, ht⟩ := hi
  have hri := all_getD hy i
  by_cases h5 : i < rs.length
  ·rw [all_drop h5 [] _] at ht
   have hg := @rowG_eq n (rs.getD i [])
   cases hq : rowG n (rs.getD i [])
   ·have e : rowsOK n rs = false := by unfold rowsOK; rw [← ht, hq]; rfl
    rw [hq] at hg
    rw [e]
    clear e ht
    (repeat' (first | (refine gA fun _ => ?_) | (refine fkI (fun hb => ?_) (fun hb => ?_) <;> (try simp only [ew, hg] at hb)) | (simp only [go_sem, Nat.reduceLeDiff, Nat.reduceEqDiff, reduceIte, reduceCtorEq, Nat.reduceAdd, Nat.reduceMul, Nat.reduceSub, Nat.reduceLT, Int.reduceLT, Int.reduceLE, Int.reduceNeg, Int.reduceToNat, Nat.reduceBEq, Nat.reduceBNe, Int.reduceGE, Int.reduceGT, *, cAreRows, cL3Row, cHas, Tryz.results72, hg])))
   ·rw [hq, Bool.true_and] at ht
    rw [hq] at hg
    (repeat' (first | (refine gA fun _ => ?_) | (refine fkI (fun hb => ?_) (fun hb => ?_) <;> (try simp only [ew, hg] at hb)) | (simp only [go_sem, Nat.reduceLeDiff, Nat.reduceEqDiff, reduceIte, reduceCtorEq, Nat.reduceAdd, Nat.reduceMul, Nat.reduceSub, Nat.reduceLT, Int.reduceLT, Int.reduceLE, Int.reduceNeg, Int.reduceToNat, Nat.reduceBEq, Nat.reduceBNe, Int.reduceGE, Int.reduceGT, *, cAreRows, cL3Row, cHas, Tryz.results72, hg])))
    refine lpN (i + 1) ⟨by omega, ht⟩ (by dsimp only; omega) ?_
    clear ht hg
    (repeat' (first | (refine gA fun _ => ?_) | (refine fkI (fun hb => ?_) (fun hb => ?_) <;> (try simp only [ew] at hb)) | (simp only [go_sem, Nat.reduceLeDiff, Nat.reduceEqDiff, reduceIte, reduceCtorEq, Nat.reduceAdd, Nat.reduceMul, Nat.reduceSub, Nat.reduceLT, Int.reduceLT, Int.reduceLE, Int.reduceNeg, Int.reduceToNat, Nat.reduceBEq, Nat.reduceBNe, Int.reduceGE, Int.reduceGT, *, cAreRows, cL3Row, cHas, Tryz.results72])))
  ·have e5 : i = rs.length := by omega
   subst e5
   rw [List.drop_length, List.all_nil] at ht
   have e : rowsOK n rs = decide ((rs.length : Int) ≤ 40) := by unfold rowsOK; rw [← ht]; rfl
   rw [e]
   clear e ht
   (repeat' (first | (refine gA fun _ => ?_) | (refine fkI (fun hb => ?_) (fun hb => ?_) <;> (try simp only [ew] at hb)) | (simp only [go_sem, Nat.reduceLeDiff, Nat.reduceEqDiff, reduceIte, reduceCtorEq, Nat.reduceAdd, Nat.reduceMul, Nat.reduceSub, Nat.reduceLT, Int.reduceLT, Int.reduceLE, Int.reduceNeg, Int.reduceToNat, Nat.reduceBEq, Nat.reduceBNe, Int.reduceGE, Int.reduceGT, *, cAreRows, cL3Row, cHas, Tryz.results72])))
def cCopyR : Contract := ⟨[], false, fun
 | [.one (.sl 1 t)] => some (WfS t ∧ t.length ≤ 16777216 ∧ ∀ r ∈ unS t, r.length ≤ 16777216, [⟨false, [.own 1 t 1]⟩], [])
 | _ => none⟩
theorem copyR_ok : ContractOK E0 69 cCopyR := by
 refine cWpc (E := E0) (T := mkT Tryz.prog [(109, cCopyI)] false (fun _ => false) true (fun _ => false)) (mkT_ok (E := E0) (.cons copyI_ok .nil)) (fn := Tryz.f69) Tryz.func69 (by kernel_rfl) rfl mixedT (by kernel_rfl) rfl ?_
 intro args p rs ms hr
 unfold cCopyR at hr
 dsimp only at hr
 split at hr
 rotate_left
 ·cases hr
 rename_i t
 simp only [Option.some.injEq, Prod.mk.injEq] at hr
 obtain ⟨rfl, rfl, rfl⟩ := hr
 refine ⟨rfl, rfl, Nat.le_of_ble_eq_true rfl, ?_⟩
 have hm : maxLen = 9223372036854775807 := rfl
 rintro ⟨h1, h2, h2'⟩ bs
 obtain ⟨rs, rfl, hx, hy⟩ := h1.ex
 clear h1
 rw [unS_sL] at h2'
 rw [sL_length] at h2
 (repeat' (first | (refine gA fun _ => ?_) | (refine fkI (fun hb => ?_) (fun hb => ?_) <;> (try simp only [ew] at hb)) | (simp only [go_sem, Nat.reduceLeDiff, Nat.reduceEqDiff, reduceIte, reduceCtorEq, Nat.reduceAdd, Nat.reduceMul, Nat.reduceSub, Nat.reduceLT, Int.reduceLT, Int.reduceLE, Int.reduceNeg, Int.reduceToNat, Nat.reduceBEq, Nat.reduceBNe, Int.reduceGE, Int.reduceGT, *, cCopyR, cCopyI, Tryz.results69])))
 refine lpI { ι := Nat, rs := [(5, 6), (10, 19)], mods := [(9, fun i => .one (.d (.v (.int .i64 i)))), (3, fun i => .one (.own 1 (sL (rs.take i)) 1))], boxes := [], arrs := [], ok := fun i => i ≤ rs.length, mu := fun i => rs.length - i } rfl 0 (Nat.zero_le _) ?_ fun i hi => ?_
 ·(repeat' (first | (refine gA fun _ => ?_) | (refine fkI (fun hb => ?_) (fun hb => ?_) <;> (try simp only [ew] at hb)) | (simp only [go_sem, Nat.reduceLeDiff, Nat.reduceEqDiff, reduceIte, reduceCtorEq, Nat.reduceAdd, Nat.reduceMul, Nat.reduceSub, Nat.reduceLT, Int.reduceLT, Int.reduceLE, Int.reduceNeg, Int.reduceToNat, Nat.reduceBEq, Nat.reduceBNe, Int.reduceGE, Int.reduceGT, *, cCopyR, cCopyI, Tryz.results69])))
  all_goals first | rfl | skip
 ·dsimp only at i hi
  have q1 := all_getD hy i
  have q2 := all_getD h2' i
  by_cases h5 : i < rs.length
  ·have e := take_succ_getD h5 []
   (repeat' (first | (refine gA fun _ => ?_) | (refine fkI (fun hb => ?_) (fun hb => ?_) <;> (try simp only [ew, sL_snoc] at hb)) | (simp only [go_sem, Nat.reduceLeDiff, Nat.reduceEqDiff, reduceIte, reduceCtorEq, Nat.reduceAdd, Nat.reduceMul, Nat.reduceSub, Nat.reduceLT, Int.reduceLT, Int.reduceLE, Int.reduceNeg, Int.reduceToNat, Nat.reduceBEq, Nat.reduceBNe, Int.reduceGE, Int.reduceGT, *, cCopyR, cCopyI, Tryz.results69, sL_snoc])))
   refine lpN (i + 1) (by dsimp only; omega) (by dsimp only; omega) ?_
   (repeat' (first | (refine gA fun _ => ?_) | (refine fkI (fun hb => ?_) (fun hb => ?_) <;> (try simp only [ew, sL_snoc, e] at hb)) | (simp only [go_sem, Nat.reduceLeDiff, Nat.reduceEqDiff, reduceIte, reduceCtorEq, Nat.reduceAdd, Nat.reduceMul, Nat.reduceSub, Nat.reduceLT, Int.reduceLT, Int.reduceLE, Int.reduceNeg, Int.reduceToNat, Nat.reduceBEq, Nat.reduceBNe, Int.reduceGE, Int.reduceGT, *, cCopyR, cCopyI, Tryz.results69, sL_snoc, e])))
  ·have e5 : i = rs.length := by omega
   subst e5
   (repeat' (first | (refine gA fun _ => ?_) | (refine fkI (fun hb => ?_) (fun hb => ?_) <;> (try simp only [ew] at hb)) | (simp only [go_sem, Nat.reduceLeDiff, Nat.reduceEqDiff, reduceIte, reduceCtorEq, Nat.reduceAdd, Nat.reduceMul, Nat.reduceSub, Nat.reduceLT, Int.reduceLT, Int.reduceLE, Int.reduceNeg, Int.reduceToNat, Nat.reduceBEq, Nat.reduceBNe, Int.reduceGE, Int.reduceGT, *, cCopyR, cCopyI, Tryz.results69])))
   all_goals first | (rw [List.take_length]; done) | skip
def mergeC (c : Nat) (a b : Int) (r : List Int) : List Int := if r.getD c 0 = max a b then r.set c (min a b) else r
def csFind (n : Int) (rs : List (List Int)) : List (Int × Int) → Option (List (List Int))
 | [] => none
 | d :: r => match wtO n rs 0 d.1 d.2 with
  | some (i, k) => some (rs.map (mergeC d.2.toNat ((rs.getD i []).getD d.2.toNat 0) ((rs.getD k []).getD d.2.toNat 0)))
  | none => csFind n rs r
def csStep (n : Int) (ds : List (Int × Int)) (rs : List (List Int)) : Option (List (List Int)) := if depsOK n ds && rowsOK n rs then csFind n rs ds else none
theorem mergeC_length {c : Nat} {a b : Int} {r : List Int} : (mergeC c a b r).length = r.length := by unfold mergeC; split <;> simp
def eqtR (rs : List (List Int)) (c : Nat) (a b : Int) : List (List Int) := rs.map (mergeC c a b)
def cEquate : Contract := ⟨[], false, fun
 | [.one (.sl 1 t), .one (.v (.int .i64 c)), .one (.v (.int .i64 a)), .one (.v (.int .i64 b))] => some (WfS t ∧ (t.length ≤ 16777216 ∧ ∀ r ∈ unS t, r.length ≤ 16777216) ∧ 0 ≤ c ∧ ∀ r ∈ unS t, c < r.length, [⟨false, [.own 1 (sL (eqtR (unS t) c.toNat a b)) 1]⟩], [])
 | _ => none⟩
theorem eqt_take {rs : List (List Int)} {c : Nat} {a b : Int} {i : Nat} (h : i < rs.length) : eqtR (rs.take (i + 1)) c a b = eqtR (rs.take i) c a b ++ [mergeC c a b (rs.getD i [])] := by
 rw [take_succ_getD h []]; simp [eqtR]
theorem getD_mem {α : Type} {l : List α} {i : Nat} (h : i < l.length) (d : α) : l.getD i d ∈ l := by simp [List.getD_eq_getElem?_getD, h]
theorem equate_ok : ContractOK E0 74 cEquate := by
 refine cWpc (E := E0) (T := mkT Tryz.prog [] false (fun _ => false) true (fun _ => false)) (mkT_ok (E := E0) .nil) (fn := Tryz.f74) Tryz.func74 (by kernel_rfl) rfl mixedT (by kernel_rfl) rfl ?_
 intro args p rs ms hr
 unfold cEquate at hr
 dsimp only at hr
 split at hr
 rotate_left
 ·cases hr
 rename_i t c a b
 simp only [Option.some.injEq, Prod.mk.injEq] at hr
 obtain ⟨rfl, rfl, rfl⟩ := hr
 refine ⟨rfl, rfl, Nat.le_of_ble_eq_true rfl, ?_⟩
 have hm : maxLen = 9223372036854775807 := rfl
 rintro ⟨h1, ⟨h2, h2'⟩, h3, h4⟩ bs
 obtain ⟨rs, rfl, hx, hy⟩ := h1.ex
 clear h1
 rw [unS_sL] at h2' h4 ⊢
 rw [sL_length] at h2
 obtain ⟨c, rfl⟩ := Int.eq_ofNat_of_zero_le h3
 rw [Int.toNat_natCast]
 (repeat' (first | (refine gA fun _ => ?_) | (refine fkI (fun hb => ?_) (fun hb => ?_) <;> (try simp only [ew] at hb)) | (simp only [go_sem, Nat.reduceLeDiff, Nat.reduceEqDiff, reduceIte, reduceCtorEq, Nat.reduceAdd, Nat.reduceMul, Nat.reduceSub, Nat.reduceLT, Int.reduceLT, Int.reduceLE, Int.reduceNeg, Int.reduceToNat, Nat.reduceBEq, Nat.reduceBNe, Int.reduceGE, Int.reduceGT, *, cEquate, Tryz.results74])))
 refine lpI { ι := Nat, rs := [(11, 12), (13, 43)], mods := [(10, fun i => .one (.d (.v (.int .i64 i)))), (9, fun i => .one (.own 1 (sL (eqtR (rs.take i) c a b)) 1))], boxes := [], arrs := [], ok := fun i => i ≤ rs.length, mu := fun i => rs.length - i } rfl 0 (Nat.zero_le _) ?_ fun i hi => ?_
 ·(repeat' (first | (refine gA fun _ => ?_) | (refine fkI (fun hb => ?_) (fun hb => ?_) <;> (try simp only [ew] at hb)) | (simp only [go_sem, Nat.reduceLeDiff, Nat.reduceEqDiff, reduceIte, reduceCtorEq, Nat.reduceAdd, Nat.reduceMul, Nat.reduceSub, Nat.reduceLT, Int.reduceLT, Int.reduceLE, Int.reduceNeg, Int.reduceToNat, Nat.reduceBEq, Nat.reduceBNe, Int.reduceGE, Int.reduceGT, *, cEquate, Tryz.results74])))
  all_goals first | rfl | skip
 ·dsimp only at i hi
  have q1 := all_getD hy i
  have q2 := all_getD h2' i
  by_cases h5 : i < rs.length
  ·have e := eqt_take (c := c) (a := a) (b := b) h5
   have q3 : c < (rs.getD i []).length := by have := h4 _ (getD_mem h5 []); omega
   have ez : (eqtR (rs.take i) c a b).length = i := by simp [eqtR]; omega
   by_cases hq : (rs.getD i []).getD c 0 = max a b
   ·have e1 : ((rs.getD i []).getD c 0 == max a b) = true := by rw [hq]; simp
    have e2 : (rs.getD i []).set c (min a b) = mergeC c a b (rs.getD i []) := by rw [mergeC, if_pos hq]
    have e3 := @mergeC_length c a b (rs.getD i [])
    clear hq
    generalize hz : mergeC c a b (rs.getD i []) = z at e e2 e3
    (repeat' (first | (refine gA fun _ => ?_) | (refine fkI (fun hb => ?_) (fun hb => ?_) <;> (try simp only [ew, sL_snoc, iL_allscal, e1, e2] at hb)) | (simp only [go_sem, Nat.reduceLeDiff, Nat.reduceEqDiff, reduceIte, reduceCtorEq, Nat.reduceAdd, Nat.reduceMul, Nat.reduceSub, Nat.reduceLT, Int.reduceLT, Int.reduceLE, Int.reduceNeg, Int.reduceToNat, Nat.reduceBEq, Nat.reduceBNe, Int.reduceGE, Int.reduceGT, *, cEquate, Tryz.results74, sL_snoc, iL_allscal, e1, e2])))
    refine lpN (i + 1) (by dsimp only; omega) (by dsimp only; omega) ?_
    (repeat' (first | (refine gA fun _ => ?_) | (refine fkI (fun hb => ?_) (fun hb => ?_) <;> (try simp only [ew, sL_snoc, e] at hb)) | (simp only [go_sem, Nat.reduceLeDiff, Nat.reduceEqDiff, reduceIte, reduceCtorEq, Nat.reduceAdd, Nat.reduceMul, Nat.reduceSub, Nat.reduceLT, Int.reduceLT, Int.reduceLE, Int.reduceNeg, Int.reduceToNat, Nat.reduceBEq, Nat.reduceBNe, Int.reduceGE, Int.reduceGT, *, cEquate, Tryz.results74, sL_snoc, e])))
   ·have e1 : ((rs.getD i []).getD c 0 == max a b) = false := by rw [beq_eq_false_iff_ne]; exact hq
    have e2 : mergeC c a b (rs.getD i []) = rs.getD i [] := by rw [mergeC, if_neg hq]
    rw [e2] at e
    clear hq e2
    (repeat' (first | (refine gA fun _ => ?_) | (refine fkI (fun hb => ?_) (fun hb => ?_) <;> (try simp only [ew, sL_snoc, iL_allscal, e1] at hb)) | (simp only [go_sem, Nat.reduceLeDiff, Nat.reduceEqDiff, reduceIte, reduceCtorEq, Nat.reduceAdd, Nat.reduceMul, Nat.reduceSub, Nat.reduceLT, Int.reduceLT, Int.reduceLE, Int.reduceNeg, Int.reduceToNat, Nat.reduceBEq, Nat.reduceBNe, Int.reduceGE, Int.reduceGT, *, cEquate, Tryz.results74, sL_snoc, iL_allscal, e1])))
    refine lpN (i + 1) (by dsimp only; omega) (by dsimp only; omega) ?_
    (repeat' (first | (refine gA fun _ => ?_) | (refine fkI (fun hb => ?_) (fun hb => ?_) <;> (try simp only [ew, sL_snoc, e] at hb)) | (simp only [go_sem, Nat.reduceLeDiff, Nat.reduceEqDiff, reduceIte, reduceCtorEq, Nat.reduceAdd, Nat.reduceMul, Nat.reduceSub, Nat.reduceLT, Int.reduceLT, Int.reduceLE, Int.reduceNeg, Int.reduceToNat, Nat.reduceBEq, Nat.reduceBNe, Int.reduceGE, Int.reduceGT, *, cEquate, Tryz.results74, sL_snoc, e])))
  ·have e5 : i = rs.length := by omega
   subst e5
   (repeat' (first | (refine gA fun _ => ?_) | (refine fkI (fun hb => ?_) (fun hb => ?_) <;> (try simp only [ew] at hb)) | (simp only [go_sem, Nat.reduceLeDiff, Nat.reduceEqDiff, reduceIte, reduceCtorEq, Nat.reduceAdd, Nat.reduceMul, Nat.reduceSub, Nat.reduceLT, Int.reduceLT, Int.reduceLE, Int.reduceNeg, Int.reduceToNat, Nat.reduceBEq, Nat.reduceBNe, Int.reduceGE, Int.reduceGT, *, cEquate, Tryz.results74])))
   all_goals first | (rw [List.take_length]; done) | skip
end Go.Own
