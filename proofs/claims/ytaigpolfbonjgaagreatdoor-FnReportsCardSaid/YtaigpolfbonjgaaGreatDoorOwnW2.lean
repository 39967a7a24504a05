/-
  Classes of equal rows, the reference's side. Conditions: as each theorem states them.
-/
import Derived.Test.YtaigpolfbonjgaaGreatDoorOwnW1
import Derived.Test.YtaigpolfbonjgaaGreatDoorOwnY1
import Derived.Test.YtaigpolfbonjgaaGreatDoorOwnTg
set_option linter.unusedSimpArgs false
set_option linter.unusedVariables false
set_option maxRecDepth 20000
set_option maxHeartbeats 4000000
namespace Go.Own
open Go Go.Proofs
theorem and_insK : ∀ l x : Fin 32, (bitI .and .i64 ((x.val : Nat) : Int) ((l.val : Nat) : Int) == ((l.val : Nat) : Int)) = insB ((l.val : Nat) : Int) ((x.val : Nat) : Int) := by decide +kernel
theorem and_insE {l x : Int} (hl : R5 l) (hx : R5 x) : (bitI .and .i64 x l == l) = insB l x := by
 obtain ⟨l, rfl⟩ := hl.fin; obtain ⟨x, rfl⟩ := hx.fin
 exact and_insK l x
theorem iL_app' {xs ys : List Int} : iL xs ++ iL ys = iL (xs ++ ys) := by simp [iL]
def cCls : Contract := ⟨[], false, fun
 | [.agg [.v (.int .i64 c), .sl 1 t], .one (.v (.int .i64 m)), .one (.v (.int .i64 set))] => some (WfS t ∧ tabOK c (unS t) = true ∧ modeOK m = true ∧ isAttr c set = true, [⟨false, [.own 1 (sL (ouK (sam c.toNat (unS t) m set) (unS t).length (unS t).length).1) 1]⟩], [])
 | _ => none⟩
theorem clsS_ok : ContractOK E0 90 cCls := by
 refine cWpc (E := E0) (T := mkT Tryz.prog [(129, cHas), (91, cL4A)] false (fun d => d == 54) true (fun _ => false)) (mkT_ok (E := E0) (.cons hasS_ok (.cons l4A_ok .nil))) (fn := Tryz.f90) Tryz.func90 (by kernel_rfl) rfl mixedT (by kernel_rfl) rfl ?_
 intro args p rs ms hr
 unfold cCls at hr
 dsimp only at hr
 split at hr
 rotate_left
 ·cases hr
 rename_i c t m set
 simp only [Option.some.injEq, Prod.mk.injEq] at hr
 obtain ⟨rfl, rfl, rfl⟩ := hr
 refine ⟨rfl, rfl, Nat.le_of_ble_eq_true rfl, ?_⟩
 have hm : maxLen = 9223372036854775807 := rfl
 rintro ⟨h1, ht, hmo, hat⟩ bs
 obtain ⟨rs, rfl, hx, hy⟩ := h1.ex
 clear h1
 rw [unS_sL] at ht ⊢
 have hs5 : R5 set := by have := isAttr_le hat; exact ⟨this.2.2.1, this.2.2.2⟩
 have ht0 := ht
 obtain ⟨C, rfl, c1, c5, h40, hlen⟩ := tab_rows ht
 rw [Int.toNat_natCast]
 have hS := @sam_peq C rs m set c5 hs5
 have hsam : ∀ i j, (bitI .and .i64 (agL m (rs.getD i []) (rs.getD j []) C) set == set) = sam C rs m set i j := fun i j => and_insE hs5 (agL_range c5)
 generalize hSS : sam C rs m set = S at hS hsam ⊢
 have e0 : sL [] = [] := rfl
 have e1 : iL [] = [] := rfl
 have hol := fun n => @ouK_outlen S rs.length n
 have hdl := fun n (hn : n ≤ rs.length) => ouK_len hS hn
 clear ht hlen
 (repeat' first | refine gA fun _ => ?_ | refine fkI ?_ ?_ <;> intro hb <;> try simp only [ew, e0, e1] at hb | simp only [go_sem, simprocAttr, *, cCls, cHas, cL4A, Tryz.results90, e0, e1])
 refine lpI { ι := Nat, rs := [(10, 12), (14, 58)], mods := [(9, fun i => .one (.d (.v (.int .i64 i)))), (7, fun i => .one (.own 1 (sL (ouK S rs.length i).1) 1)), (8, fun i => .one (.own 1 (iL (ouK S rs.length i).2) 1))], boxes := [(3, fun _ => [.d (.v (.int .i64 C)), .d (.sl 1 (sL rs))])], arrs := [], ok := fun i => i ≤ rs.length, mu := fun i => rs.length - i } rfl 0 (Nat.zero_le _) ?_ fun i hi => ?_
 ·have e2 : ouK S rs.length 0 = ([], []) := rfl
  clear hol hdl hsam
  (repeat' first | refine gA fun _ => ?_ | refine fkI ?_ ?_ <;> intro hb <;> try simp only [ew, e0, e1, e2] at hb | simp only [go_sem, simprocAttr, *, cCls, cHas, cL4A, Tryz.results90, e0, e1, e2])
  all_goals first | rfl | skip
 ·dsimp only at i hi
  have o1 := hol i
  have o2 := hdl i hi
  have o3 : (ouK S rs.length i).1.length ≤ maxLen := Nat.le_trans (show _ ≤ 40 by omega) (by decide)
  have o4 : (ouK S rs.length i).2.length ≤ maxLen := Nat.le_trans (show _ ≤ 40 by omega) (by decide)
  clear hol hdl
  by_cases h5 : i < rs.length
  ·have eS : ouK S rs.length (i + 1) = if (ouK S rs.length i).2.contains ((i : Nat) : Int) then ouK S rs.length i else if 1 < (cl S rs.length i).length then ((ouK S rs.length i).1 ++ [cl S rs.length i], (ouK S rs.length i).2 ++ cl S rs.length i) else ouK S rs.length i := rfl
   generalize hP : ouK S rs.length i = P at o1 o2 o3 o4 eS
   cases hc : P.2.contains ((i : Nat) : Int)
   ·rw [hc, if_neg (by decide)] at eS
    have hkl := fun t => @clK_len S i t
    (repeat' first | refine gA fun _ => ?_ | refine fkI ?_ ?_ <;> intro hb <;> try simp only [ew, hP, hc, e1] at hb | simp only [go_sem, simprocAttr, *, cCls, cHas, cL4A, Tryz.results90, hP, hc, e1])
    refine lpI { ι := Nat, rs := [(28, 48)], mods := [(11, fun t => .one (.d (.v (.int .i64 ((i + 1 + t : Nat) : Int))))), (10, fun t => .one (.own 1 (iL (clK S i t)) 1))], boxes := [(3, fun _ => [.d (.v (.int .i64 C)), .d (.sl 1 (sL rs))])], arrs := [(7, fun _ => (1, sL P.1, 1)), (8, fun _ => (1, iL P.2, 1))], ok := fun t => i + 1 + t ≤ rs.length, mu := fun t => rs.length - t } rfl 0 (by omega) ?_ fun t htt => ?_
    ·have e3 : iL (clK S i 0) = [[D.v (.int .i64 i)]] := rfl
     clear hkl hsam
     (repeat' first | refine gA fun _ => ?_ | refine fkI ?_ ?_ <;> intro hb <;> try simp only [ew, e3] at hb | simp only [go_sem, simprocAttr, *, cCls, cHas, cL4A, Tryz.results90, e3])
     all_goals first | rfl | skip
    ·dsimp only at t htt
     have k1 := hkl t
     clear hkl
     by_cases h6 : i + 1 + t < rs.length
     ·have eK : clK S i (t + 1) = clK S i t ++ (if S i (i + 1 + t) then [((i + 1 + t : Nat) : Int)] else []) := rfl
      have hsk := hsam i (i + 1 + t)
      clear hsam
      have k2 : (clK S i t).length ≤ 41 := by omega
      have k3 : (clK S i t).length ≤ maxLen := Nat.le_trans k2 (by decide)
      generalize hQ : clK S i t = Q at k1 k2 k3 eK
      generalize hK : i + 1 + t = K at h6 htt hsk eK
      have eK1 : ((i + 1 + (t + 1) : Nat) : Int) = ((K : Nat) : Int) + 1 := by omega
      cases hb : S i K
      ·rw [hb, if_neg (by decide), List.append_nil] at eK
       (repeat' first | refine gA fun _ => ?_ | refine fkI ?_ ?_ <;> intro hb <;> try simp only [ew, hQ, hK, hsk, hb] at hb | simp only [go_sem, simprocAttr, *, cCls, cHas, cL4A, Tryz.results90, hQ, hK, hsk, hb])
       refine lpN (t + 1) (by dsimp only; omega) (by dsimp only; omega) ?_
       (repeat' first | refine gA fun _ => ?_ | refine fkI ?_ ?_ <;> intro hb <;> try simp only [ew, eK, eK1] at hb | simp only [go_sem, simprocAttr, *, cCls, cHas, cL4A, Tryz.results90, eK, eK1])
       all_goals first | rfl | skip
      ·rw [hb, if_pos rfl] at eK
       (repeat' first | refine gA fun _ => ?_ | refine fkI ?_ ?_ <;> intro hb <;> try simp only [ew, hQ, hK, hsk, hb, iL_sn] at hb | simp only [go_sem, simprocAttr, *, cCls, cHas, cL4A, Tryz.results90, hQ, hK, hsk, hb, iL_sn])
       refine lpN (t + 1) (by dsimp only; omega) (by dsimp only; omega) ?_
       (repeat' first | refine gA fun _ => ?_ | refine fkI ?_ ?_ <;> intro hb <;> try simp only [ew, eK, eK1, iL_sn] at hb | simp only [go_sem, simprocAttr, *, cCls, cHas, cL4A, Tryz.results90, eK, eK1, iL_sn])
       all_goals first | rfl | skip
     ·have e6 : i + 1 + t = rs.length := by omega
      have ecl : clK S i t = cl S rs.length i := by unfold cl; congr 1; omega
      rw [ecl] at k1
      have k3 : (cl S rs.length i).length ≤ 41 := by omega
      have k4 : (cl S rs.length i).length ≤ maxLen := Nat.le_trans k3 (by decide)
      clear hsam
      generalize hQ : cl S rs.length i = Q at k1 k3 k4 eS ecl
      by_cases h7 : 1 < Q.length
      ·have d7 : decide ((Q.length : Int) > 1) = true := decide_eq_true (by omega)
       rw [if_pos h7] at eS
       have eS1 := congrArg Prod.fst eS
       have eS2 := congrArg Prod.snd eS
       dsimp only at eS1 eS2
       clear eS
       (repeat' first | refine gA fun _ => ?_ | refine fkI ?_ ?_ <;> intro hb <;> try simp only [ew, e6, ecl, d7, sL_sn, iL_asc2, sL_last, iL_app'] at hb | simp only [go_sem, simprocAttr, *, cCls, cHas, cL4A, Tryz.results90, e6, ecl, d7, sL_sn, iL_asc2, sL_last, iL_app'])
       refine lpN (i + 1) (by dsimp only; omega) (by dsimp only; omega) ?_
       (repeat' first | refine gA fun _ => ?_ | refine fkI ?_ ?_ <;> intro hb <;> try simp only [ew, eS1, eS2, sL_sn, iL_asc2, sL_last, iL_app'] at hb | simp only [go_sem, simprocAttr, *, cCls, cHas, cL4A, Tryz.results90, eS1, eS2, sL_sn, iL_asc2, sL_last, iL_app'])
       all_goals first | rfl | skip
      ·have d7 : decide ((Q.length : Int) > 1) = false := decide_eq_false (by omega)
       rw [if_neg h7] at eS
       (repeat' first | refine gA fun _ => ?_ | refine fkI ?_ ?_ <;> intro hb <;> try simp only [ew, e6, ecl, d7] at hb | simp only [go_sem, simprocAttr, *, cCls, cHas, cL4A, Tryz.results90, e6, ecl, d7])
       refine lpN (i + 1) (by dsimp only; omega) (by dsimp only; omega) ?_
       (repeat' first | refine gA fun _ => ?_ | refine fkI ?_ ?_ <;> intro hb <;> try simp only [ew, eS] at hb | simp only [go_sem, simprocAttr, *, cCls, cHas, cL4A, Tryz.results90, eS])
       all_goals first | rfl | skip
   ·rw [hc, if_pos rfl] at eS
    clear hsam
    (repeat' first | refine gA fun _ => ?_ | refine fkI ?_ ?_ <;> intro hb <;> try simp only [ew, hP, hc] at hb | simp only [go_sem, simprocAttr, *, cCls, cHas, cL4A, Tryz.results90, hP, hc])
    refine lpN (i + 1) (by dsimp only; omega) (by dsimp only; omega) ?_
    (repeat' first | refine gA fun _ => ?_ | refine fkI ?_ ?_ <;> intro hb <;> try simp only [ew, eS] at hb | simp only [go_sem, simprocAttr, *, cCls, cHas, cL4A, Tryz.results90, eS])
    all_goals first | rfl | skip
  ·have e5 : i = rs.length := by omega
   subst e5
   clear hsam
   (repeat' first | refine gA fun _ => ?_ | refine fkI ?_ ?_ <;> intro hb <;> try simp only [ew] at hb | simp only [go_sem, simprocAttr, *, cCls, cHas, cL4A, Tryz.results90])
   all_goals first | rfl | skip
end Go.Own
