/-
  How many rows to remove, the reference's side. Conditions: as each theorem states them.
-/
import Derived.Test.YtaigpolfbonjgaaGreatDoorOwnW2
set_option linter.unusedSimpArgs false
set_option linter.unusedVariables false
set_option maxRecDepth 20000
set_option maxHeartbeats 4000000
namespace Go.Own
open Go Go.Proofs
def remE (rs : List (List Int)) (m r : Int) (x y : Int) : Bool := eqc m ((rs.getD x.toNat []).getD r.toNat 0) ((rs.getD y.toNat []).getD r.toNat 0)
def clsF (c : Int) (rs : List (List Int)) (m l : Int) : List (List Int) := (ouK (sam c.toNat rs m l) rs.length rs.length).1
def remF (c : Int) (rs : List (List Int)) (m l r : Int) : Int := if askOK c rs m l r then rem1 (remE rs m r) (clsF c rs m l) (clsF c rs m l).length else -1
def inR2 (N : Nat) (xs : List Int) : Prop := xs.length ≤ N ∧ xs.Nodup ∧ ∀ k, k < xs.length → 0 ≤ xs.getD k 0 ∧ xs.getD k 0 < N
theorem cls_facts {c : Int} {rs : List (List Int)} {m l : Int} (hc : c.toNat ≤ 5) (hl : R5 l) : (clsF c rs m l).length ≤ rs.length ∧ tots (clsF c rs m l) ≤ rs.length ∧ ∀ i, i < (clsF c rs m l).length → inR2 rs.length ((clsF c rs m l).getD i []) := by
 have hS := @sam_peq c.toNat rs m l hc hl
 unfold clsF
 refine ⟨ouK_outlen, by rw [ouK_tots]; exact ouK_len hS (Nat.le_refl _), fun i hi => ?_⟩
 obtain ⟨j, hj, e⟩ := ouK_out (getD_mem hi [])
 rw [e]
 have hk : (cl (sam c.toNat rs m l) rs.length j).length ≤ rs.length := by
  unfold cl
  have := @clK_len (sam c.toNat rs m l) j (rs.length - (j + 1))
  omega
 refine ⟨hk, clK_nodup, fun k hk => ?_⟩
 have := getD_mem hk 0
 rw [cl_mem hj] at this
 rcases this with h | ⟨q, h1, h2, _, h4⟩
 ·omega
 ·omega
theorem remF_le {c : Int} {rs : List (List Int)} {m l r : Int} (h : askOK c rs m l r = true) : 0 ≤ remF c rs m l r ∧ remF c rs m l r ≤ 40 := by
 unfold remF
 rw [h, if_pos rfl]
 unfold askOK at h
 simp only [Bool.and_eq_true] at h
 have ht := h.1.1
 have hd := h.2
 unfold depOK at hd
 simp only [Bool.and_eq_true] at hd
 have hl5 := isAttr_le hd.1.2
 obtain ⟨n, rfl, n1, n5, h40, _⟩ := tab_rows ht
 obtain ⟨f1, f2, f3⟩ := @cls_facts (n : Nat) rs m l (by rw [Int.toNat_natCast]; exact n5) ⟨hl5.2.2.1, hl5.2.2.2⟩
 have := @rem1_le (remE rs m r) (clsF (n : Nat) rs m l) (clsF (n : Nat) rs m l).length (Nat.le_refl _)
 rw [List.take_length] at this
 omega
def cRem : Contract := ⟨[], false, fun
 | [.agg [.v (.int .i64 c), .sl 1 t], .one (.v (.int .i64 m)), .agg [.v (.int .i64 l), .v (.int .i64 r)]] => some (WfS t ∧ -9223372036854775808 ≤ c ∧ c ≤ 9223372036854775807, [⟨false, [.d (.v (.int .i64 (remF c (unS t) m l r)))]⟩], [])
 | _ => none⟩
theorem remS_ok : ContractOK E0 47 cRem := by
 refine cWpc (E := E0) (T := mkT Tryz.prog [(43, cFine), (44, cDep), (90, cCls), (91, cL4A)] false (fun _ => false) true (fun _ => false)) (mkT_ok (E := E0) (.cons fine_ok (.cons depS_ok (.cons clsS_ok (.cons l4A_ok .nil))))) (fn := Tryz.f47) Tryz.func47 (by kernel_rfl) rfl mixedT (by kernel_rfl) rfl ?_
 intro args p rs ms hr
 unfold cRem at hr
 dsimp only at hr
 split at hr
 rotate_left
 ·cases hr
 rename_i c t m l r
 simp only [Option.some.injEq, Prod.mk.injEq] at hr
 obtain ⟨rfl, rfl, rfl⟩ := hr
 refine ⟨rfl, rfl, Nat.le_of_ble_eq_true rfl, ?_⟩
 have hm : maxLen = 9223372036854775807 := rfl
 rintro ⟨h1, hc1, hc2⟩ bs
 obtain ⟨rs, rfl, hx, hy⟩ := h1.ex
 clear h1
 rw [unS_sL]
 cases hask : askOK c rs m l r
 ·have e : remF c rs m l r = -1 := by unfold remF; rw [hask, if_neg (by decide)]
  have e0 : (!(tabOK c rs && modeOK m) || !depOK c l r) = true := by
   unfold askOK at hask
   rw [← Bool.not_and, hask]; rfl
  rw [e]
  clear e hask
  (repeat' first | refine gA fun _ => ?_ | refine fkI ?_ ?_ <;> intro hb <;> try simp only [ew, e0] at hb | simp only [go_sem, simprocAttr, *, cRem, cFine, cDep, cCls, cL4A, Tryz.results47, e0])
  all_goals first | rfl | skip
 ·have e : remF c rs m l r = rem1 (remE rs m r) (clsF c rs m l) (clsF c rs m l).length := by unfold remF; rw [hask, if_pos rfl]
  rw [e]
  clear e
  have hask0 := hask
  unfold askOK at hask0
  simp only [Bool.and_eq_true] at hask0
  obtain ⟨⟨ht, hmo⟩, hd⟩ := hask0
  have hd0 := hd
  unfold depOK at hd
  simp only [Bool.and_eq_true, inB_iff] at hd
  obtain ⟨⟨hn, hat⟩, r0, r1⟩ := hd
  have hl5 := isAttr_le hat
  have e0 : (!(tabOK c rs && modeOK m) || !depOK c l r) = false := by rw [ht, hmo, hd0]; rfl
  have ht0 := ht
  obtain ⟨C, rfl, c1, c5, h40, hlen⟩ := tab_rows ht
  obtain ⟨f1, f2, f3⟩ := @cls_facts (C : Nat) rs m l (by rw [Int.toNat_natCast]; exact c5) ⟨hl5.2.2.1, hl5.2.2.2⟩
  obtain ⟨r, rfl⟩ := Int.eq_ofNat_of_zero_le r0
  have hE : ∀ x y : Int, (bitI .and .i64 ((agL m (rs.getD x.toNat []) (rs.getD y.toNat []) C).fdiv (2 ^ r)) 1 == 1) = remE rs m (r : Nat) x y := fun x y => by
   have h := (@agL_all m (rs.getD x.toNat []) (rs.getD y.toNat []) C c5).2 r (by omega)
   rw [decide_eq_true (show r < C by omega), Bool.true_and] at h
   unfold remE
   rw [Int.toNat_natCast, ← h]
   unfold hasB
   rw [Int.toNat_natCast]
  have ecl : (ouK (sam C rs m l) rs.length rs.length).1 = clsF (C : Int) rs m l := by unfold clsF; rw [Int.toNat_natCast]
  generalize hCS : clsF (C : Int) rs m l = cs at f1 f2 f3 ecl ⊢
  generalize hEE : remE rs m (r : Nat) = E at hE ⊢
  have hrl := fun k (hk : k ≤ cs.length) => @rem1_le E cs k hk
  have htt : ∀ k, tots (cs.take k) ≤ 40 := fun k => by
   have : tots (cs.take k) ≤ tots cs := by
    clear hrl f1 f2 f3 ecl hCS
    induction cs generalizing k with
    | nil => simp
    | cons x xs ih => cases k with
     | zero => simp [tots]
     | succ k => rw [List.take_succ_cons, tots, tots]; have := ih k; omega
   omega
  have c40 : cs.length ≤ maxLen := Nat.le_trans (show cs.length ≤ 40 by omega) (by decide)
  have crl : ∀ q ∈ cs, q.length ≤ maxLen := fun q hq => by
   obtain ⟨i, hi, rfl⟩ := List.getElem_of_mem hq
   have := (f3 i hi).1
   simp only [List.getD_eq_getElem?_getD, List.getElem?_eq_getElem hi, Option.getD_some] at this
   exact Nat.le_trans (show _ ≤ 40 by omega) (by decide)
  clear hlen ht hn
  (repeat' first | refine gA fun _ => ?_ | refine fkI ?_ ?_ <;> intro hb <;> try simp only [ew, e0, ecl] at hb | simp only [go_sem, simprocAttr, *, cRem, cFine, cDep, cCls, cL4A, Tryz.results47, e0, ecl])
  refine lpI { ι := Nat, rs := [(10, 14), (30, 95)], mods := [(9, fun i => .one (.d (.v (.int .i64 i)))), (7, fun i => .one (.d (.v (.int .i64 (rem1 E cs i)))))], boxes := [(3, fun _ => [.d (.v (.int .i64 C)), .d (.sl 1 (sL rs))]), (5, fun _ => [.d (.v (.int .i64 l)), .d (.v (.int .i64 (r : Nat)))])], arrs := [(8, fun _ => (1, sL cs, 2))], ok := fun i => i ≤ cs.length, mu := fun i => cs.length - i } rfl 0 (Nat.zero_le _) ?_ fun i hi => ?_
  ·have e1 : rem1 E cs 0 = 0 := rfl
   clear hE f3 hrl htt
   (repeat' first | refine gA fun _ => ?_ | refine fkI ?_ ?_ <;> intro hb <;> try simp only [ew, e1] at hb | simp only [go_sem, simprocAttr, *, cRem, cFine, cDep, cCls, cL4A, Tryz.results47, e1])
   all_goals first | rfl | skip
  ·dsimp only at i hi
   have r2 := hrl i hi
   have r3 := htt i
   clear hrl htt
   by_cases h5 : i < cs.length
   ·obtain ⟨g1, g2, g3⟩ := f3 i h5
    clear f3
    have eS : ∀ z : Int, rem1 E cs i + ((cs.getD i []).length : Int) - most1 E (cs.getD i []) (cs.getD i []).length = rem1 E cs (i + 1) := fun _ => by rw [rem1]; omega
    have eS := eS 0
    have hml := fun p (hp : p ≤ (cs.getD i []).length) => @most1_le E (cs.getD i []) p hp
    have hcl := fun p q => @cnt1_le E (cs.getD i []) p q
    generalize hN : rem1 E cs i = n0 at r2 eS
    generalize hQ : cs.getD i [] = Q at g1 g2 g3 eS hml hcl
    have q40 : Q.length ≤ 40 := by omega
    have qml : Q.length ≤ maxLen := Nat.le_trans q40 (by decide)
    (repeat' first | refine gA fun _ => ?_ | refine fkI ?_ ?_ <;> intro hb <;> try simp only [ew, hN, hQ] at hb | simp only [go_sem, simprocAttr, *, cRem, cFine, cDep, cCls, cL4A, Tryz.results47, hN, hQ])
    refine lpI { ι := Nat, rs := [(12, 14), (36, 86)], mods := [(11, fun k => .one (.d (.v (.int .i64 k)))), (10, fun k => .one (.d (.v (.int .i64 (most1 E Q k)))))], boxes := [(3, fun _ => [.d (.v (.int .i64 C)), .d (.sl 1 (sL rs))]), (5, fun _ => [.d (.v (.int .i64 l)), .d (.v (.int .i64 (r : Nat)))])], arrs := [(8, fun _ => (1, sL cs, 2))], ok := fun k => k ≤ Q.length, mu := fun k => Q.length - k } rfl 0 (Nat.zero_le _) ?_ fun k hk => ?_
    ·have e1 : most1 E Q 0 = 0 := rfl
     clear hE hml hcl
     (repeat' first | refine gA fun _ => ?_ | refine fkI ?_ ?_ <;> intro hb <;> try simp only [ew, e1] at hb | simp only [go_sem, simprocAttr, *, cRem, cFine, cDep, cCls, cL4A, Tryz.results47, e1])
     all_goals first | rfl | skip
    ·dsimp only at k hk
     have m2 := hml k hk
     clear hml
     by_cases h6 : k < Q.length
     ·have eM : most1 E Q (k + 1) = max (most1 E Q k) (cnt1 E Q k Q.length) := rfl
      have g4 := g3 k h6
      have hclk := fun q => hcl k q
      clear hcl
      generalize hM : most1 E Q k = m0 at m2 eM
      (repeat' first | refine gA fun _ => ?_ | refine fkI ?_ ?_ <;> intro hb <;> try simp only [ew, hM, hQ] at hb | simp only [go_sem, simprocAttr, *, cRem, cFine, cDep, cCls, cL4A, Tryz.results47, hM, hQ])
      refine lpI { ι := Nat, rs := [(45, 83)], mods := [(13, fun j => .one (.d (.v (.int .i64 j)))), (12, fun j => .one (.d (.v (.int .i64 (cnt1 E Q k j)))))], boxes := [(3, fun _ => [.d (.v (.int .i64 C)), .d (.sl 1 (sL rs))]), (5, fun _ => [.d (.v (.int .i64 l)), .d (.v (.int .i64 (r : Nat)))])], arrs := [(8, fun _ => (1, sL cs, 2))], ok := fun j => j ≤ Q.length, mu := fun j => Q.length - j } rfl 0 (Nat.zero_le _) ?_ fun j hj => ?_
      ·have e1 : cnt1 E Q k 0 = 1 := rfl
       clear hE hclk
       (repeat' first | refine gA fun _ => ?_ | refine fkI ?_ ?_ <;> intro hb <;> try simp only [ew, e1] at hb | simp only [go_sem, simprocAttr, *, cRem, cFine, cDep, cCls, cL4A, Tryz.results47, e1])
       all_goals first | rfl | skip
      ·dsimp only at j hj
       have m3 := hclk j
       clear hclk
       by_cases h7 : j < Q.length
       ·have g5 := g3 j h7
        have eC : cnt1 E Q k (j + 1) = cnt1 E Q k j + (if (j != k && E (Q.getD k 0) (Q.getD j 0)) then 1 else 0) := rfl
        have hEk := hE (Q.getD k 0) (Q.getD j 0)
        clear hE
        generalize hc0 : cnt1 E Q k j = n1 at m3 eC
        by_cases e : j = k
        ·have e1 : (((j : Nat) : Int) != ((k : Nat) : Int)) = false := by rw [e]; simp
         have e2 : (j != k) = false := by rw [e]; simp
         rw [e2, Bool.false_and, if_neg (by decide), Int.add_zero] at eC
         clear e2 e
         generalize hx0 : Q.getD k 0 = x at g4 g5 hEk
         generalize hy0 : Q.getD j 0 = y at g5 hEk
         (repeat' first | refine gA fun _ => ?_ | refine fkI ?_ ?_ <;> intro hb <;> try simp only [ew, hQ, hc0, e1, hx0, hy0, hEk, bits64] at hb | simp only [go_sem, simprocAttr, *, cRem, cFine, cDep, cCls, cL4A, Tryz.results47, hQ, hc0, e1, hx0, hy0, hEk, bits64])
         all_goals (try (refine lpN (j + 1) (by dsimp only; omega) (by dsimp only; omega) ?_))
         all_goals
          (repeat' first | refine gA fun _ => ?_ | refine fkI ?_ ?_ <;> intro hb <;> try simp only [ew, eC] at hb | simp only [go_sem, simprocAttr, *, cRem, cFine, cDep, cCls, cL4A, Tryz.results47, eC])
         all_goals first | rfl | skip
        ·have e1 : (((j : Nat) : Int) != ((k : Nat) : Int)) = true := by rw [bne_iff_ne]; omega
         have e2 : (j != k) = true := by rw [bne_iff_ne]; exact e
         rw [e2, Bool.true_and] at eC
         clear e2 e
         generalize hx0 : Q.getD k 0 = x at g4 hEk eC
         generalize hy0 : Q.getD j 0 = y at g5 hEk eC
         cases hb : E x y
         ·rw [hb, if_neg (by decide), Int.add_zero] at eC
          rw [hb] at hEk
          (repeat' first | refine gA fun _ => ?_ | refine fkI ?_ ?_ <;> intro hb <;> try simp only [ew, hQ, hc0, e1, hx0, hy0, hEk, bits64] at hb | simp only [go_sem, simprocAttr, *, cRem, cFine, cDep, cCls, cL4A, Tryz.results47, hQ, hc0, e1, hx0, hy0, hEk, bits64])
          refine lpN (j + 1) (by dsimp only; omega) (by dsimp only; omega) ?_
          (repeat' first | refine gA fun _ => ?_ | refine fkI ?_ ?_ <;> intro hb <;> try simp only [ew, eC] at hb | simp only [go_sem, simprocAttr, *, cRem, cFine, cDep, cCls, cL4A, Tryz.results47, eC])
          all_goals first | rfl | skip
         ·rw [hb, if_pos rfl] at eC
          rw [hb] at hEk
          (repeat' first | refine gA fun _ => ?_ | refine fkI ?_ ?_ <;> intro hb <;> try simp only [ew, hQ, hc0, e1, hx0, hy0, hEk, bits64] at hb | simp only [go_sem, simprocAttr, *, cRem, cFine, cDep, cCls, cL4A, Tryz.results47, hQ, hc0, e1, hx0, hy0, hEk, bits64])
          refine lpN (j + 1) (by dsimp only; omega) (by dsimp only; omega) ?_
          (repeat' first | refine gA fun _ => ?_ | refine fkI ?_ ?_ <;> intro hb <;> try simp only [ew, eC] at hb | simp only [go_sem, simprocAttr, *, cRem, cFine, cDep, cCls, cL4A, Tryz.results47, eC])
          all_goals first | rfl | skip
       ·have e7 : j = Q.length := by omega
        subst e7
        clear hE g3
        (repeat' first | refine gA fun _ => ?_ | refine fkI ?_ ?_ <;> intro hb <;> try simp only [ew, hQ] at hb | simp only [go_sem, simprocAttr, *, cRem, cFine, cDep, cCls, cL4A, Tryz.results47, hQ])
        refine lpN (k + 1) (by dsimp only; omega) (by dsimp only; omega) ?_
        (repeat' first | refine gA fun _ => ?_ | refine fkI ?_ ?_ <;> intro hb <;> try simp only [ew, eM] at hb | simp only [go_sem, simprocAttr, *, cRem, cFine, cDep, cCls, cL4A, Tryz.results47, eM])
        all_goals first | rfl | skip
     ·have e6 : k = Q.length := by omega
      subst e6
      clear hE hcl g3
      (repeat' first | refine gA fun _ => ?_ | refine fkI ?_ ?_ <;> intro hb <;> try simp only [ew, hQ] at hb | simp only [go_sem, simprocAttr, *, cRem, cFine, cDep, cCls, cL4A, Tryz.results47, hQ])
      refine lpN (i + 1) (by dsimp only; omega) (by dsimp only; omega) ?_
      (repeat' first | refine gA fun _ => ?_ | refine fkI ?_ ?_ <;> intro hb <;> try simp only [ew, eS] at hb | simp only [go_sem, simprocAttr, *, cRem, cFine, cDep, cCls, cL4A, Tryz.results47, eS])
      all_goals first | rfl | skip
   ·have e5 : i = cs.length := by omega
    subst e5
    clear hE f3
    (repeat' first | refine gA fun _ => ?_ | refine fkI ?_ ?_ <;> intro hb <;> try simp only [ew] at hb | simp only [go_sem, simprocAttr, *, cRem, cFine, cDep, cCls, cL4A, Tryz.results47])
    all_goals first | rfl | skip
end Go.Own
