/-
  Patterns as text. Conditions: as each theorem states them.
-/
import Derived.Test.YtaigpolfbonjgaaGreatDoorOwnTm
import Derived.Test.YtaigpolfbonjgaaGreatDoorOwnY5
import Derived.Test.YtaigpolfbonjgaaGreatDoorOwnTb
import Derived.Test.YtaigpolfbonjgaaGreatDoorOwnW4
set_option linter.unusedSimpArgs false
set_option linter.unusedVariables false
set_option maxRecDepth 20000
set_option maxHeartbeats 4000000
namespace Go.Own
open Go Go.Proofs
attribute [local go_sem] unB_bL bL_length bL_snoc
theorem num_size {n : Int} : (numB n).size ≤ 20 := by
 unfold numB
 rw [baOf_size]
 unfold numL
 split
 ·simp
 ·have := @dgF_len 20 n []
  simpa using this
theorem fd_sizeN {q : Int × Int} : (fd q).size ≤ 11 := by
 unfold fd
 have h1 := @fa_size q.1
 have h2 := @fa_size (1 * 2 ^ q.2.toNat)
 split
 ·rw [size_app, size_app, gt_size]; omega
 ·exact (by decide : ByteArray.size ⟨#[]⟩ ≤ 11)
end Go.Own
/-
  Rows to remove, the program's side; lines of witnesses. Conditions: as each theorem states them.
-/
namespace Go.Own
open Go Go.Proofs
def cPart : Contract := ⟨[], false, fun
 | [.agg [.v (.int .i64 c), .sl 1 t], .one (.v (.int .i64 m)), .one (.v (.int .i64 set))] => some (WfS t ∧ tabOK c (unS t) = true ∧ modeOK m = true ∧ isAttr c set = true, [⟨false, [.own 1 (sL (clsF c (unS t) m set)) 1]⟩], [])
 | _ => none⟩
theorem partI_ok : ContractOK E0 84 cPart := by
 refine cWpc (E := E0) (T := mkT Tryz.prog [(79, cIsTableS), (80, cMode), (116, cIsAttr), (125, cClsI)] false (fun _ => false) true (fun _ => false)) (mkT_ok (E := E0) (.cons isTableI_ok (.cons modeI_ok (.cons isAttrI_ok (.cons clsI_ok .nil))))) (fn := Tryz.f84) Tryz.func84 (by kernel_rfl) rfl mixedT (by kernel_rfl) rfl ?_
 intro args p rs ms hr
 unfold cPart at hr
 dsimp only at hr
 split at hr
 rotate_left
 ·cases hr
 rename_i c t m set
 simp only [Option.some.injEq, Prod.mk.injEq] at hr
 obtain ⟨rfl, rfl, rfl⟩ := hr
 refine ⟨rfl, rfl, Nat.le_of_ble_eq_true rfl, ?_⟩
 have hm : maxLen = 9223372036854775807 := rfl
 rintro ⟨h1, ht, hmo, hat⟩ bs
 obtain ⟨rs, rfl, hx, hy⟩ := h1.ex
 clear h1
 rw [unS_sL] at ht ⊢
 have hc := tab_c ht
 (repeat' first | refine gA fun _ => ?_ | refine fkI ?_ ?_ <;> intro hb <;> try simp only [ew, ht, hmo, hat] at hb | simp only [go_sem, simprocAttr, *, cPart, cIsTableS, cMode, cIsAttr, cClsI, Tryz.results84, ht, hmo, hat])
 all_goals first | rfl | skip
theorem nodup_ne {xs : List Int} (h : xs.Nodup) {j k : Nat} (hj : j < xs.length) (hk : k < xs.length) (e : j ≠ k) : xs.getD j 0 ≠ xs.getD k 0 := by
 intro he
 simp only [List.getD_eq_getElem?_getD, List.getElem?_eq_getElem hj, List.getElem?_eq_getElem hk, Option.getD_some] at he
 exact e ((List.getElem_inj h).1 he)
theorem remI_ok : ContractOK E0 42 cRem := by
 refine cWpc (E := E0) (T := mkT Tryz.prog [(39, cAsk), (84, cPart), (85, cEqc)] false (fun d => d == 25) true (fun d => d == 999)) (mkT_ok (E := E0) (.cons ask_ok (.cons partI_ok (.cons eqcI_ok .nil)))) (fn := Tryz.f42) Tryz.func42 (by kernel_rfl) rfl mixedT (by kernel_rfl) rfl ?_
 intro args p rs ms hr
 unfold cRem at hr
 dsimp only at hr
 split at hr
 rotate_left
 ·cases hr
 rename_i c t m l r
 simp only [Option.some.injEq, Prod.mk.injEq] at hr
 obtain ⟨rfl, rfl, rfl⟩ := hr
 refine ⟨rfl, rfl, Nat.le_of_ble_eq_true rfl, ?_⟩
 have hm : maxLen = 9223372036854775807 := rfl
 rintro ⟨h1, hc1, hc2⟩ bs
 obtain ⟨rs, rfl, hx, hy⟩ := h1.ex
 clear h1
 rw [unS_sL]
 cases hask : askOK c rs m l r
 ·have e : remF c rs m l r = -1 := by unfold remF; rw [hask, if_neg (by decide)]
  rw [e]
  clear e
  (repeat' first | refine gA fun _ => ?_ | refine fkI ?_ ?_ <;> intro hb <;> try simp only [ew, hask] at hb | simp only [go_sem, simprocAttr, *, cRem, cAsk, cPart, cEqc, Tryz.results42, hask])
  all_goals first | rfl | skip
 ·have e : remF c rs m l r = rem1 (remE rs m r) (clsF c rs m l) (clsF c rs m l).length := by unfold remF; rw [hask, if_pos rfl]
  rw [e]
  clear e
  have hask0 := hask
  unfold askOK at hask0
  simp only [Bool.and_eq_true] at hask0
  obtain ⟨⟨ht, hmo⟩, hd⟩ := hask0
  unfold depOK at hd
  simp only [Bool.and_eq_true, inB_iff] at hd
  obtain ⟨⟨hn, hat⟩, r0, r1⟩ := hd
  have hl5 := isAttr_le hat
  have ht0 := ht
  obtain ⟨C, rfl, c1, c5, h40, hlen⟩ := tab_rows ht
  obtain ⟨f1, f2, f3⟩ := @cls_facts (C : Nat) rs m l (by rw [Int.toNat_natCast]; exact c5) ⟨hl5.2.2.1, hl5.2.2.2⟩
  obtain ⟨r, rfl⟩ := Int.eq_ofNat_of_zero_le r0
  have hE : ∀ x y : Int, eqc m ((rs.getD x.toNat []).getD r 0) ((rs.getD y.toNat []).getD r 0) = remE rs m (r : Nat) x y := fun x y => by
   unfold remE
   rw [Int.toNat_natCast]
  have hrow : ∀ x : Int, 0 ≤ x → x < rs.length → r < (rs.getD x.toNat []).length ∧ (rs.getD x.toNat []).length ≤ maxLen := fun x h1 h2 => by
   have := hlen x.toNat (by omega)
   exact ⟨by omega, Nat.le_trans (show _ ≤ 5 by omega) (by decide)⟩
  generalize hCS : clsF (C : Int) rs m l = cs at f1 f2 f3 ⊢
  generalize hEE : remE rs m (r : Nat) = E at hE ⊢
  have hrl := fun k (hk : k ≤ cs.length) => @rem1_le E cs k hk
  have htt : ∀ k, tots (cs.take k) ≤ 40 := fun k => by
   have : tots (cs.take k) ≤ tots cs := by
    clear hrl f1 f2 f3 hCS
    induction cs generalizing k with
    | nil => simp
    | cons x xs ih => cases k with
     | zero => simp [tots]
     | succ k => rw [List.take_succ_cons, tots, tots]; have := ih k; omega
   omega
  have c40 : cs.length ≤ maxLen := Nat.le_trans (show cs.length ≤ 40 by omega) (by decide)
  clear hlen ht hn
  (repeat' first | refine gA fun _ => ?_ | refine fkI ?_ ?_ <;> intro hb <;> try simp only [ew, hask, hCS] at hb | simp only [go_sem, simprocAttr, *, cRem, cAsk, cPart, cEqc, Tryz.results42, hask, hCS])
  refine lpI { ι := Nat, rs := [(9, 11), (12, 14), (15, 16), (28, 82)], mods := [(27, fun i => .one (.d (.v (.int .i64 i)))), (7, fun i => .one (.d (.v (.int .i64 (rem1 E cs i)))))], boxes := [(3, fun _ => [.d (.v (.int .i64 C)), .d (.sl 1 (sL rs))]), (5, fun _ => [.d (.v (.int .i64 l)), .d (.v (.int .i64 (r : Nat)))])], arrs := [], ok := fun i => i ≤ cs.length, mu := fun i => cs.length - i } rfl 0 (Nat.zero_le _) ?_ fun i hi => ?_
  ·have e1 : rem1 E cs 0 = 0 := rfl
   clear hE f3 hrl htt hrow
   (repeat' first | refine gA fun _ => ?_ | refine fkI ?_ ?_ <;> intro hb <;> try simp only [ew, e1] at hb | simp only [go_sem, simprocAttr, *, cRem, cAsk, cPart, cEqc, Tryz.results42, e1])
   all_goals first | rfl | skip
  ·dsimp only at i hi
   have r2 := hrl i hi
   have r3 := htt i
   clear hrl htt
   by_cases h5 : i < cs.length
   ·obtain ⟨g1, g2, g3⟩ := f3 i h5
    clear f3
    have eS : rem1 E cs i + (((cs.getD i []).length : Int) - most1 E (cs.getD i []) (cs.getD i []).length) = rem1 E cs (i + 1) := rfl
    have hml := fun p (hp : p ≤ (cs.getD i []).length) => @most1_le E (cs.getD i []) p hp
    have hcl := fun p q => @cnt1_le E (cs.getD i []) p q
    generalize hN : rem1 E cs i = n0 at r2 eS
    generalize hQ : cs.getD i [] = Q at g1 g2 g3 eS hml hcl
    have q40 : Q.length ≤ 40 := by omega
    have qml : Q.length ≤ maxLen := Nat.le_trans q40 (by decide)
    (repeat' first | refine gA fun _ => ?_ | refine fkI ?_ ?_ <;> intro hb <;> try simp only [ew, hN, hQ] at hb | simp only [go_sem, simprocAttr, *, cRem, cAsk, cPart, cEqc, Tryz.results42, hN, hQ])
    refine lpI { ι := Nat, rs := [(12, 14), (15, 16), (34, 75)], mods := [(33, fun k => .one (.d (.v (.int .i64 k)))), (10, fun k => .one (.d (.v (.int .i64 (most1 E Q k)))))], boxes := [(3, fun _ => [.d (.v (.int .i64 C)), .d (.sl 1 (sL rs))]), (5, fun _ => [.d (.v (.int .i64 l)), .d (.v (.int .i64 (r : Nat)))])], arrs := [], ok := fun k => k ≤ Q.length, mu := fun k => Q.length - k } rfl 0 (Nat.zero_le _) ?_ fun k hk => ?_
    ·have e1 : most1 E Q 0 = 0 := rfl
     clear hE hml hcl hrow
     (repeat' first | refine gA fun _ => ?_ | refine fkI ?_ ?_ <;> intro hb <;> try simp only [ew, e1] at hb | simp only [go_sem, simprocAttr, *, cRem, cAsk, cPart, cEqc, Tryz.results42, e1])
     all_goals first | rfl | skip
    ·dsimp only at k hk
     have m2 := hml k hk
     clear hml
     by_cases h6 : k < Q.length
     ·have eM : most1 E Q (k + 1) = max (most1 E Q k) (cnt1 E Q k Q.length) := rfl
      have g4 := g3 k h6
      obtain ⟨w1, w2⟩ := hrow _ g4.1 g4.2
      have hclk := fun q => hcl k q
      clear hcl
      generalize hM : most1 E Q k = m0 at m2 eM
      generalize hx0 : Q.getD k 0 = x at g4 w1 w2
      have xn : x.toNat < rs.length := by omega
      (repeat' first | refine gA fun _ => ?_ | refine fkI ?_ ?_ <;> intro hb <;> try simp only [ew, hM, hQ, hx0] at hb | simp only [go_sem, simprocAttr, *, cRem, cAsk, cPart, cEqc, Tryz.results42, hM, hQ, hx0])
      refine lpI { ι := Nat, rs := [(15, 16), (40, 71)], mods := [(39, fun j => .one (.d (.v (.int .i64 j)))), (13, fun j => .one (.d (.v (.int .i64 (cnt1 E Q k j)))))], boxes := [(3, fun _ => [.d (.v (.int .i64 C)), .d (.sl 1 (sL rs))]), (5, fun _ => [.d (.v (.int .i64 l)), .d (.v (.int .i64 (r : Nat)))])], arrs := [], ok := fun j => j ≤ Q.length, mu := fun j => Q.length - j } rfl 0 (Nat.zero_le _) ?_ fun j hj => ?_
      ·have e1 : cnt1 E Q k 0 = 1 := rfl
       clear hE hclk hrow
       (repeat' first | refine gA fun _ => ?_ | refine fkI ?_ ?_ <;> intro hb <;> try simp only [ew, e1] at hb | simp only [go_sem, simprocAttr, *, cRem, cAsk, cPart, cEqc, Tryz.results42, e1])
       all_goals first | rfl | skip
      ·dsimp only at j hj
       have m3 := hclk j
       clear hclk
       by_cases h7 : j < Q.length
       ·have g5 := g3 j h7
        obtain ⟨u1, u2⟩ := hrow _ g5.1 g5.2
        have eC : cnt1 E Q k (j + 1) = cnt1 E Q k j + (if (j != k && E (Q.getD k 0) (Q.getD j 0)) then 1 else 0) := rfl
        have hEk := hE (Q.getD k 0) (Q.getD j 0)
        have hne := fun (e : k ≠ j) => nodup_ne g2 h6 h7 e
        rw [hx0] at eC hEk
        clear hE hrow g3
        generalize hc0 : cnt1 E Q k j = n1 at m3 eC
        by_cases e : j = k
        ·have e1 : (x != Q.getD j 0) = false := by rw [e, hx0]; simp
         have e2 : (j != k) = false := by rw [e]; simp
         rw [e2, Bool.false_and, if_neg (by decide), Int.add_zero] at eC
         clear e2 e hne
         generalize hy0 : Q.getD j 0 = y at g5 hEk u1 u2 e1
         have yn : y.toNat < rs.length := by omega
         (repeat' first | refine gA fun _ => ?_ | refine fkI ?_ ?_ <;> intro hb <;> try simp only [ew, hQ, hc0, hy0, e1] at hb | simp only [go_sem, simprocAttr, *, cRem, cAsk, cPart, cEqc, Tryz.results42, hQ, hc0, hy0, e1])
         refine lpN (j + 1) (by dsimp only; omega) (by dsimp only; omega) ?_
         (repeat' first | refine gA fun _ => ?_ | refine fkI ?_ ?_ <;> intro hb <;> try simp only [ew, eC] at hb | simp only [go_sem, simprocAttr, *, cRem, cAsk, cPart, cEqc, Tryz.results42, eC])
         all_goals first | rfl | skip
        ·have e1 : (x != Q.getD j 0) = true := by rw [bne_iff_ne, ← hx0]; exact hne (Ne.symm e)
         have e2 : (j != k) = true := by rw [bne_iff_ne]; exact e
         rw [e2, Bool.true_and] at eC
         clear e2 e hne
         generalize hy0 : Q.getD j 0 = y at g5 hEk eC u1 u2 e1
         have yn : y.toNat < rs.length := by omega
         cases hb : E x y
         ·rw [hb, if_neg (by decide), Int.add_zero] at eC
          rw [hb] at hEk
          (repeat' first | refine gA fun _ => ?_ | refine fkI ?_ ?_ <;> intro hb <;> try simp only [ew, hQ, hc0, hy0, e1, hEk] at hb | simp only [go_sem, simprocAttr, *, cRem, cAsk, cPart, cEqc, Tryz.results42, hQ, hc0, hy0, e1, hEk])
          refine lpN (j + 1) (by dsimp only; omega) (by dsimp only; omega) ?_
          (repeat' first | refine gA fun _ => ?_ | refine fkI ?_ ?_ <;> intro hb <;> try simp only [ew, eC] at hb | simp only [go_sem, simprocAttr, *, cRem, cAsk, cPart, cEqc, Tryz.results42, eC])
          all_goals first | rfl | skip
         ·rw [hb, if_pos rfl] at eC
          rw [hb] at hEk
          (repeat' first | refine gA fun _ => ?_ | refine fkI ?_ ?_ <;> intro hb <;> try simp only [ew, hQ, hc0, hy0, e1, hEk] at hb | simp only [go_sem, simprocAttr, *, cRem, cAsk, cPart, cEqc, Tryz.results42, hQ, hc0, hy0, e1, hEk])
          refine lpN (j + 1) (by dsimp only; omega) (by dsimp only; omega) ?_
          (repeat' first | refine gA fun _ => ?_ | refine fkI ?_ ?_ <;> intro hb <;> try simp only [ew, eC] at hb | simp only [go_sem, simprocAttr, *, cRem, cAsk, cPart, cEqc, Tryz.results42, eC])
          all_goals first | rfl | skip
       ·have e7 : j = Q.length := by omega
        subst e7
        clear hE g3 hrow
        (repeat' first | refine gA fun _ => ?_ | refine fkI ?_ ?_ <;> intro hb <;> try simp only [ew, hQ] at hb | simp only [go_sem, simprocAttr, *, cRem, cAsk, cPart, cEqc, Tryz.results42, hQ])
        refine lpN (k + 1) (by dsimp only; omega) (by dsimp only; omega) ?_
        (repeat' first | refine gA fun _ => ?_ | refine fkI ?_ ?_ <;> intro hb <;> try simp only [ew, eM] at hb | simp only [go_sem, simprocAttr, *, cRem, cAsk, cPart, cEqc, Tryz.results42, eM])
        all_goals first | rfl | skip
     ·have e6 : k = Q.length := by omega
      subst e6
      clear hE hcl g3 hrow
      (repeat' first | refine gA fun _ => ?_ | refine fkI ?_ ?_ <;> intro hb <;> try simp only [ew, hQ] at hb | simp only [go_sem, simprocAttr, *, cRem, cAsk, cPart, cEqc, Tryz.results42, hQ])
      refine lpN (i + 1) (by dsimp only; omega) (by dsimp only; omega) ?_
      (repeat' first | refine gA fun _ => ?_ | refine fkI ?_ ?_ <;> intro hb <;> try simp only [ew, eS] at hb | simp only [go_sem, simprocAttr, *, cRem, cAsk, cPart, cEqc, Tryz.results42, eS])
      all_goals first | rfl | skip
   ·have e5 : i = cs.length := by omega
    subst e5
    clear hE f3 hrow
    (repeat' first | refine gA fun _ => ?_ | refine fkI ?_ ?_ <;> intro hb <;> try simp only [ew] at hb | simp only [go_sem, simprocAttr, *, cRem, cAsk, cPart, cEqc, Tryz.results42])
    all_goals first | rfl | skip
end Go.Own
