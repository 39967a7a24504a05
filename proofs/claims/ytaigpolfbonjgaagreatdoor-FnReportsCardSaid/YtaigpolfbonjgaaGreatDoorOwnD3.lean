/-
  The law of reports. Conditions: as each theorem states them.
-/
import Derived.Test.YtaigpolfbonjgaaGreatDoorOwnD2
import Derived.Test.YtaigpolfbonjgaaGreatDoorOwnR3
import Derived.Test.YtaigpolfbonjgaaGreatDoorOwnTo
import Derived.Test.YtaigpolfbonjgaaGreatDoorOwnG7
set_option linter.unusedSimpArgs false
set_option linter.unusedVariables false
set_option maxRecDepth 20000
set_option maxHeartbeats 4000000
namespace Go.Own
open Go Go.Proofs
attribute [local go_sem] tf1b ft1b unB_bL bL_length wfB_bL unD_dL dL_length dL_get dL_set dL_inj wfD_dL scal2 beq2 pair_eta unT_tL tL_length tL_snoc wfL_tL
theorem eqS_refl (b : ByteArray) : (b.toList == b.toList) = true := by simp
theorem neS_refl (b : ByteArray) : (!(b.toList == b.toList)) = false := by simp
theorem tL_at8 {ss : List ByteArray} {i : Nat} (h : i < ss.length) : (tL ss).getD i [] = [D.v (.string (ss.getD i ⟨#[]⟩))] := by
 simp [tL, List.getD_eq_getElem?_getD, h]
def cLawRp : Contract := ⟨[], false, fun
 | [.one (.sl 1 l)] => some (WfB l ∧ ∀ b ∈ unB l, 0 ≤ b ∧ b ≤ 255, [⟨false, [.d (.v (.bool true))]⟩], [])
 | _ => none⟩
theorem lawRp_ok : ContractOK E0 3 cLawRp := by
 refine cWpc (E := E0) (T := mkT Tryz.prog [(4, cBig), (5, cDDl), (6, cDSl8), (7, cDWl), (8, cDDe), (9, cDln), (10, cDln), (11, cDSr), (12, cD10), (13, cDL), (14, cDL), (15, cSL), (16, cSL), (17, cWl), (18, cWl), (19, cSln), (20, cSln), (21, cSch), (22, cSch)] false (fun _ => false) true (fun d => d == 999)) (mkT_ok (E := E0) (.cons big_ok (.cons dDl_ok (.cons dSl8_ok (.cons dWl_ok (.cons dDe_ok (.cons dlnI_ok (.cons dlnS_ok (.cons dSr_ok (.cons dScl_ok (.cons dlI_ok (.cons dlS_ok (.cons slI_ok (.cons slS_ok (.cons wlI_ok (.cons wlS_ok (.cons slnI_ok (.cons slnS_ok (.cons schI_ok (.cons schS_ok .nil)))))))))))))))))))) (fn := Tryz.f3) Tryz.func3 (by kernel_rfl) rfl mixedT (by kernel_rfl) rfl ?_
 intro args p rs ms hr
 unfold cLawRp at hr
 dsimp only at hr
 split at hr
 rotate_left
 ·cases hr
 rename_i l
 simp only [Option.some.injEq, Prod.mk.injEq] at hr
 obtain ⟨rfl, rfl, rfl⟩ := hr
 refine ⟨rfl, rfl, Nat.le_of_ble_eq_true rfl, ?_⟩
 have hm : maxLen = 9223372036854775807 := rfl
 rintro ⟨h1, h3⟩ bs0
 obtain ⟨bs, rfl, hx⟩ := h1.ex
 clear h1
 rw [unB_bL] at h3
 by_cases hbig : bs.length > 1048576
 ·(repeat' first | refine gA fun _ => ?_ | refine fkI ?_ ?_ <;> intro hb <;> try simp only [ew] at hb | simp only [go_sem, simprocAttr, *, cLawRp, cBig, cDDl, cDSl8, cDWl, cDDe, cDln, cDSr, cD10, cDL, cSL, cWl, cSln, cSch, Tryz.results3])
  all_goals first | rfl | contradiction | skip
 ·have hb2 : bs.length ≤ 1048576 := by omega
  have hl := @dDl_len bs
  have hs := @dSl8_len bs
  obtain ⟨⟨wa, wb⟩, wc, wd⟩ := @dWl_facts bs
  obtain ⟨⟨ea, eb⟩, ec⟩ := @dDe_facts bs
  obtain ⟨⟨⟨ra, rb⟩, rc, rd⟩, ⟨re, rf⟩, rg, rh, ri⟩ := @srD_facts bs (newS bs)
  obtain ⟨⟨ka, kb⟩, kc⟩ := @d10_facts bs
  have eR : dSr bs = (srD bs (newS bs)).1 := rfl
  rw [← eR] at ra rb rc rd re rf rg rh ri
  clear eR
  generalize hL : dDl bs = L at *
  generalize hS : dSl8 bs = S at *
  generalize hW : dWl bs = W at *
  generalize hE : dDe bs = E at *
  generalize hR : dSr bs = R at *
  generalize hK : (d10 bs).1 = K at *
  have m1 : L.length ≤ maxLen := Nat.le_trans hl (by decide)
  have m2 : S.length ≤ maxLen := Nat.le_trans hs (by decide)
  have m3 : W.1.1.2.length ≤ maxLen := Nat.le_trans wc (by decide)
  have m4 : ∀ r ∈ W.1.1.2, r.length ≤ maxLen := fun r hr => by have := wd r hr; omega
  have m5 : E.1.2.length ≤ maxLen := Nat.le_trans ec (by decide)
  have m6 : R.1.1.2.length ≤ maxLen := Nat.le_trans rc (by decide)
  have m7 : ∀ r ∈ R.1.1.2, r.length ≤ maxLen := fun r hr => by have := rd r hr; omega
  have m8 : R.2.2.1.length ≤ maxLen := Nat.le_trans rg (by decide)
  have m9 : K.2.length ≤ maxLen := Nat.le_trans kc (by decide)
  have n1 : L.length ≤ 1048576 := by omega
  have n2 : S.length ≤ 1048576 := by omega
  clear wd rd
  have hDl := @dln_len E.1.1 E.1.2 E.2.1 E.2.2
  generalize hD : dlnL E.1.1 E.1.2 E.2.1 E.2.2 = Dl at *
  (repeat' first | refine gA fun _ => ?_ | refine fkI ?_ ?_ <;> intro hb <;> try simp only [ew, rSr, hL, hS, hW, hE, hR, hK, hD] at hb | simp only [go_sem, simprocAttr, *, cLawRp, cBig, cDDl, cDSl8, cDWl, cDDe, cDln, cDSr, cD10, cDL, cSL, cWl, cSln, cSch, Tryz.results3, rSr, hL, hS, hW, hE, hR, hK, hD])
  refine lpI { ι := Nat, rs := [(2, 3), (48, 63)], mods := [(13, fun i => .one (.d (.v (.int .i64 i))))], boxes := [(5, fun _ => [.d (.v (.int .i64 W.1.1.1)), .own 1 (sL W.1.1.2) 1]), (7, fun _ => [.d (.v (.int .i64 W.2.1)), .d (.v (.int .i64 W.2.2))])], arrs := [(3, fun _ => (2, dL L, 1)), (4, fun _ => (1, iL S, 1)), (11, fun _ => (1, tL Dl, 1)), (12, fun _ => (1, tL Dl, 1))], ok := fun i => i ≤ Dl.length, mu := fun i => Dl.length - i } rfl 0 (Nat.zero_le _) ?_ fun i hi => ?_
  ·(repeat' first | refine gA fun _ => ?_ | refine fkI ?_ ?_ <;> intro hb <;> try simp only [ew] at hb | simp only [go_sem, simprocAttr, *, cLawRp, cBig, cDDl, cDSl8, cDWl, cDDe, cDln, cDSr, cD10, cDL, cSL, cWl, cSln, cSch, Tryz.results3])
   all_goals first | rfl | skip
  ·dsimp only at i hi
   by_cases h5 : i < Dl.length
   ·have ht := tL_at8 h5
    (repeat' first | refine gA fun _ => ?_ | refine fkI ?_ ?_ <;> intro hb <;> try simp only [ew, ht, neS_refl] at hb | simp only [go_sem, simprocAttr, *, cLawRp, cBig, cDDl, cDSl8, cDWl, cDDe, cDln, cDSr, cD10, cDL, cSL, cWl, cSln, cSch, Tryz.results3, ht, neS_refl])
    refine lpN (i + 1) (by dsimp only; omega) (by dsimp only; omega) ?_
    (repeat' first | refine gA fun _ => ?_ | refine fkI ?_ ?_ <;> intro hb <;> try simp only [ew] at hb | simp only [go_sem, simprocAttr, *, cLawRp, cBig, cDDl, cDSl8, cDWl, cDDe, cDln, cDSr, cD10, cDL, cSL, cWl, cSln, cSch, Tryz.results3])
   ·have e5 : i = Dl.length := by omega
    subst e5
    (repeat' first | refine gA fun _ => ?_ | refine fkI ?_ ?_ <;> intro hb <;> try simp only [ew, rSr, hR, hK, eqS_refl] at hb | simp only [go_sem, simprocAttr, *, cLawRp, cBig, cDDl, cDSl8, cDWl, cDDe, cDln, cDSr, cD10, cDL, cSL, cWl, cSln, cSch, Tryz.results3, rSr, hR, hK, eqS_refl])
    all_goals first | rfl | skip
end Go.Own
