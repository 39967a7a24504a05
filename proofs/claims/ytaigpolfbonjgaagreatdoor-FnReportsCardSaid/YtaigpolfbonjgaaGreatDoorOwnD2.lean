/-
  The draws of the law of reports. Conditions: as each theorem states them.
-/
import Derived.Test.YtaigpolfbonjgaaGreatDoorOwnD1
import Derived.Test.YtaigpolfbonjgaaGreatDoorOwnTk
set_option linter.unusedSimpArgs false
set_option linter.unusedVariables false
set_option maxRecDepth 20000
set_option maxHeartbeats 4000000
namespace Go.Own
open Go Go.Proofs
attribute [local go_sem] tf1b ft1b cuO rI rB cuP unB_bL bL_length wfB_bL unD_dL dL_length dL_get dL_set dL_inj wfD_dL scal2 beq2 pair_eta
def cNS8 : Contract := ⟨[], false, fun
 | [.agg [.v (.int .i64 c), .sl 1 l], .one (.v (.int .i64 m))] => some (WfS l ∧ -9223372036854775808 ≤ c ∧ c ≤ 9223372036854775807,
   [⟨true, [.d (.v (.int .i64 (nsC c (unS l) m))), .own 1 (sL (nsL c (unS l) m)) 1, .d (.v (.int .i64 (nsM c (unS l) m))), .d (.v (.int .i64 0)), .own 2 [] 1, .d (.v (.int .i64 0))]⟩, ⟨false, [.d (.v (.bool (tabOK c (unS l) && modeOK m)))]⟩], [])
 | _ => none⟩
theorem newS8_ok : ContractOK E0 74 cNS8 := by
 refine cWpc (E := E0) (T := mkT Tryz.prog [(43, cFine), (118, cCopyT)] false (fun _ => false) true (fun _ => false)) (mkT_ok (E := E0) (.cons fine_ok (.cons copyTS_ok .nil))) (fn := Tryz.f74) Tryz.func74 (by kernel_rfl) rfl mixedT (by kernel_rfl) rfl ?_
 intro args p rs ms hr
 unfold cNS8 at hr
 dsimp only at hr
 split at hr
 rotate_left
 ·cases hr
 rename_i c l m
 simp only [Option.some.injEq, Prod.mk.injEq] at hr
 obtain ⟨rfl, rfl, rfl⟩ := hr
 refine ⟨rfl, rfl, Nat.le_of_ble_eq_true rfl, ?_⟩
 have hm : maxLen = 9223372036854775807 := rfl
 rintro ⟨h1, hc1, hc2⟩ bs
 obtain ⟨rs, rfl, hx, hy⟩ := h1.ex
 clear h1
 rw [unS_sL]
 have e0 : sL [] = [] := rfl
 unfold nsC nsL nsM
 cases h4 : (tabOK c rs && modeOK m)
 ·rw [if_neg (by decide), if_neg (by decide), if_neg (by decide)]
  (repeat' first | refine gA fun _ => ?_ | refine fkI ?_ ?_ <;> intro hb <;> try simp only [ew, h4, e0] at hb | simp only [go_sem, simprocAttr, *, cNS8, cFine, cCopyT, Tryz.results74, h4, e0])
  all_goals first | rfl | skip
 ·rw [if_pos rfl, if_pos rfl, if_pos rfl]
  obtain ⟨k1, k2⟩ := tab_small (show tabOK c rs = true by rw [Bool.and_eq_true] at h4; exact h4.1)
  have k3 : ∀ r ∈ rs, r.length ≤ 16777216 := fun r hr => by have := k2 r hr; omega
  have k4 : rs.length ≤ 16777216 := by omega
  clear k2
  (repeat' first | refine gA fun _ => ?_ | refine fkI ?_ ?_ <;> intro hb <;> try simp only [ew, h4, e0] at hb | simp only [go_sem, simprocAttr, *, cNS8, cFine, cCopyT, Tryz.results74, h4, e0])
  all_goals first | rfl | skip
theorem rn8_facts {c : Int} {rs : List (List Int)} {m b : Int} (h : (tabOK c rs && modeOK m) = true) : isSr c rs m 0 [] 0 = true ∧ (0 ≤ (rn8 c rs m 0 [] 0 b).1 ∧ (rn8 c rs m 0 [] 0 b).1 ≤ 160) ∧ (rn8 c rs m 0 [] 0 b).2.1.length ≤ 160 ∧ 0 ≤ (rn8 c rs m 0 [] 0 b).2.2 ∧ (rn8 c rs m 0 [] 0 b).2.2 ≤ 160 := by
 obtain ⟨n, rfl, hn, _, _⟩ := hd_tab h
 have hcb := cnt_bound hn.2
 have hcz : ((n : Int)) * 2 ^ n = ((n * 2 ^ n : Nat) : Int) := by push_cast; rfl
 have hi : isSr (n : Int) rs m 0 [] 0 = true := by
  have : inB 0 0 ((n : Int) * 2 ^ n) = true := by rw [inB_iff, hcz]; omega
  unfold isSr
  rw [h, Int.toNat_natCast, this]
  rfl
 refine ⟨hi, ?_⟩
 have e : rn8 n rs m 0 [] 0 b = (((rnA n rs m b 0 (n * 2 ^ n - 0) 0 : Nat) : Int), (srI n rs m (rnA n rs m b 0 (n * 2 ^ n - 0) 0)).1, (((srI n rs m (rnA n rs m b 0 (n * 2 ^ n - 0) 0)).2 : Nat) : Int)) := by
  unfold rn8; rw [hi, if_pos rfl, Int.toNat_natCast]; rfl
 rw [e]
 have hA := @rnA_le n rs m b 0 (n * 2 ^ n - 0) 0
 generalize rnA n rs m b 0 (n * 2 ^ n - 0) 0 = A at hA
 obtain ⟨w1, w2, _⟩ := @srI_facts n rs m hn A (by omega)
 dsimp only
 omega
def srD : Dr (((Int × List (List Int)) × Int) × Int × List (Int × Int) × Int) := fun bs s =>
 let t := tblM bs s
 let b := belowM 2 bs t.2
 let k := belowM 30 bs b.2
 let z := rn8 t.1.1 t.1.2 b.1 0 [] 0 k.1
 let x := belowM 14 bs k.2
 if x.1 = 0 then (((t.1, b.1), (pickM [-1, 0, 5, 160, 161] bs x.2).1, z.2.1, z.2.2), (pickM [-1, 0, 5, 160, 161] bs x.2).2)
 else if x.1 = 1 then (((t.1, b.1), z.1, z.2.1 ++ [(depM 3 bs x.2).1], z.2.2), (depM 3 bs x.2).2)
 else if x.1 = 2 then (((t.1, b.1), z.1, z.2.1, z.2.2 + 1), x.2)
 else (((t.1, b.1), z.1, z.2.1, z.2.2), x.2)
theorem srD_facts {bs : List Int} {s : Cu} : ((0 ≤ (srD bs s).1.1.1.1 ∧ (srD bs s).1.1.1.1 ≤ 5) ∧ (srD bs s).1.1.1.2.length ≤ 12 ∧ ∀ r ∈ (srD bs s).1.1.1.2, r.length ≤ 5) ∧ ((-1 ≤ (srD bs s).1.2.1 ∧ (srD bs s).1.2.1 ≤ 161) ∧ (srD bs s).1.2.2.1.length ≤ 161 ∧ 0 ≤ (srD bs s).1.2.2.2 ∧ (srD bs s).1.2.2.2 ≤ 161) := by
 obtain ⟨t1, t2, t3⟩ := @tblM_facts bs s
 have ht := @tblM_tab bs s
 have hb := @belowM_range 2 bs (tblM bs s).2 (by decide)
 have hm : modeOK (belowM 2 bs (tblM bs s).2).1 = true := by
  unfold modeOK
  have : (belowM 2 bs (tblM bs s).2).1 = 0 ∨ (belowM 2 bs (tblM bs s).2).1 = 1 := by omega
  rcases this with h | h <;> rw [h] <;> rfl
 obtain ⟨_, f2, f3, f4⟩ := @rn8_facts (tblM bs s).1.1 (tblM bs s).1.2 (belowM 2 bs (tblM bs s).2).1 (belowM 30 bs (belowM 2 bs (tblM bs s).2).2).1 (by rw [ht, hm]; rfl)
 have t4 : ∀ r ∈ (tblM bs s).1.2, r.length ≤ 5 := fun r hr => by have := (t3 r hr).1; omega
 unfold srD
 dsimp only
 generalize rn8 (tblM bs s).1.1 (tblM bs s).1.2 (belowM 2 bs (tblM bs s).2).1 0 [] 0 (belowM 30 bs (belowM 2 bs (tblM bs s).2).2).1 = z at f2 f3 f4 ⊢
 generalize belowM 14 bs (belowM 30 bs (belowM 2 bs (tblM bs s).2).2).2 = x
 have t0 : 0 ≤ (tblM bs s).1.1 ∧ (tblM bs s).1.1 ≤ 5 := by omega
 split
 ·have h3 := @pickM_mem [-1, 0, 5, 160, 161] bs x.2 (by simp)
  simp only [List.mem_cons, List.not_mem_nil, or_false] at h3
  exact ⟨⟨t0, t2, t4⟩, by dsimp only; omega, by dsimp only; omega, by dsimp only; omega⟩
 ·split
  ·exact ⟨⟨t0, t2, t4⟩, by dsimp only; omega, by simp; omega, by dsimp only; omega⟩
  ·split
   ·exact ⟨⟨t0, t2, t4⟩, by dsimp only; omega, by dsimp only; omega, by dsimp only; omega⟩
   ·exact ⟨⟨t0, t2, t4⟩, by dsimp only; omega, by dsimp only; omega, by dsimp only; omega⟩
def rSr (z : ((Int × List (List Int)) × Int) × Int × List (Int × Int) × Int) : List RV := [⟨true, [.d (.v (.int .i64 z.1.1.1)), .own 1 (sL z.1.1.2) 1, .d (.v (.int .i64 z.1.2)), .d (.v (.int .i64 z.2.1)), .own 2 (dL z.2.2.1) 1, .d (.v (.int .i64 z.2.2.2))]⟩]
def cL8S : Contract := ⟨[true], false, fun
 | [.box [.sl 1 l, .v (.int .i64 i), .v (.int .i64 h)]] => some (WfB l ∧ 0 ≤ i, rSr (srD (unB l) (i.toNat, h)).1, cuO l (srD (unB l) (i.toNat, h)).2)
 | _ => none⟩
theorem l8S_ok : ContractOK E0 36 cL8S := by
 refine contract_of_wpcB (E := E0) (T := mkT Tryz.prog [(73, cTbl), (60, cBelow), (74, cNS8), (75, cRn8), (64, cPickI), (61, cDep6)] false (fun d => d == 24) false (fun d => d == 3 || d == 4 || d == 29 || d == 1000 || d == 1004 || d == 1005 || d == 996)) (mkT_ok (E := E0) (.cons tbl_ok (.cons below_ok (.cons newS8_ok (.cons rn8_ok (.cons pickI_ok (.cons dep6_ok .nil))))))) rfl (fn := Tryz.f36) Tryz.func36 (by kernel_rfl) rfl mixedT (by kernel_rfl) rfl rfl (Nat.le_of_ble_eq_true rfl) ?_
 intro args p rs ms hr
 unfold cL8S at hr
 dsimp only at hr
 split at hr
 rotate_left
 ·cases hr
 rename_i l i h
 simp only [Option.some.injEq, Prod.mk.injEq] at hr
 obtain ⟨rfl, rfl, rfl⟩ := hr
 refine ⟨_, _, _, rfl, rfl, rfl, rfl, Nat.le_of_ble_eq_true rfl, ?_⟩
 have hm : maxLen = 9223372036854775807 := rfl
 rintro ⟨h1, h2⟩ bs0
 obtain ⟨bs, rfl, hx⟩ := h1.ex
 clear h1
 rw [unB_bL]
 obtain ⟨i, rfl⟩ := Int.eq_ofNat_of_zero_le h2
 rw [Int.toNat_natCast]
 generalize hL : srD bs (i, h) = L
 unfold srD at hL
 dsimp only at hL
 obtain ⟨t1, t2, t3⟩ := @tblM_facts bs (i, h)
 have ht := @tblM_tab bs (i, h)
 generalize hT : tblM bs (i, h) = T at *
 have hb := @belowM_range 2 bs T.2 (by decide)
 generalize hB : belowM 2 bs T.2 = B at *
 generalize hK : belowM 30 bs B.2 = K at *
 have hm : modeOK B.1 = true := by
  unfold modeOK
  have : B.1 = 0 ∨ B.1 = 1 := by omega
  rcases this with h | h <;> rw [h] <;> rfl
 have htm : (tabOK T.1.1 T.1.2 && modeOK B.1) = true := by rw [ht, hm]; rfl
 obtain ⟨f1, f2, f3, f4⟩ := @rn8_facts T.1.1 T.1.2 B.1 K.1 htm
 have hn1 : nsC T.1.1 T.1.2 B.1 = T.1.1 := by unfold nsC; rw [htm, if_pos rfl]
 have hn2 : nsL T.1.1 T.1.2 B.1 = T.1.2 := by unfold nsL; rw [htm, if_pos rfl]
 have hn3 : nsM T.1.1 T.1.2 B.1 = B.1 := by unfold nsM; rw [htm, if_pos rfl]
 have m1 : T.1.2.length ≤ maxLen := Nat.le_trans t2 (by decide)
 have m2 : ∀ r ∈ T.1.2, r.length ≤ maxLen := fun r hr => by have := (t3 r hr).1; omega
 have m3 : T.1.2.length ≤ 16777216 := by omega
 have m4 : ∀ r ∈ T.1.2, r.length ≤ 16777216 := fun r hr => by have := (t3 r hr).1; omega
 have hun : unD [] = [] := rfl
 have hwd : WfD [] := by
  have h : WfD (dL []) := by simp only [wfD_dL, List.length_nil]; exact Nat.zero_le _
  exact h
 generalize hZ : rn8 T.1.1 T.1.2 B.1 0 [] 0 K.1 = Z at *
 have m5 : Z.2.1.length ≤ maxLen := Nat.le_trans f3 (by decide)
 generalize hX : belowM 14 bs K.2 = X at *
 have eA : [[D.v (.int .i64 (-1))], [D.v (.int .i64 0)], [D.v (.int .i64 5)], [D.v (.int .i64 160)], [D.v (.int .i64 161)]] = iL [-1, 0, 5, 160, 161] := rfl
 have nA : ¬ iL [-1, 0, 5, 160, 161] = [] := by simp [iL]
 clear t3 ht hm
 by_cases h0 : X.1 = 0
 ·rw [if_pos h0] at hL
  have q0 : (X.1 == 0) = true := by rw [h0]; rfl
  clear h0
  generalize hP : pickM [-1, 0, 5, 160, 161] bs X.2 = P at hL
  subst hL
  (repeat' first | refine gA fun _ => ?_ | refine fkI ?_ ?_ <;> intro hb <;> try simp only [ew, rSr, hT, hB, hK, htm, hn1, hn2, hn3, hun, hZ, hX, q0, eA, hP] at hb | simp only [go_sem, simprocAttr, *, cL8S, cTbl, cBelow, cNS8, cRn8, cPickI, cDep6, Tryz.results36, rSr, hT, hB, hK, htm, hn1, hn2, hn3, hun, hZ, hX, q0, eA, hP])
  all_goals first | rfl | skip
 ·rw [if_neg h0] at hL
  have q0 : (X.1 == 0) = false := beq_eq_false_iff_ne.2 h0
  clear h0
  by_cases h1 : X.1 = 1
  ·rw [if_pos h1] at hL
   have q1 : (X.1 == 1) = true := by rw [h1]; rfl
   clear h1
   generalize hP : depM 3 bs X.2 = P at hL
   subst hL
   (repeat' first | refine gA fun _ => ?_ | refine fkI ?_ ?_ <;> intro hb <;> try simp only [ew, rSr, hT, hB, hK, htm, hn1, hn2, hn3, hun, hZ, hX, q0, q1, hP, dL_sn] at hb | simp only [go_sem, simprocAttr, *, cL8S, cTbl, cBelow, cNS8, cRn8, cPickI, cDep6, Tryz.results36, rSr, hT, hB, hK, htm, hn1, hn2, hn3, hun, hZ, hX, q0, q1, hP, dL_sn])
   all_goals first | rfl | skip
  ·rw [if_neg h1] at hL
   have q1 : (X.1 == 1) = false := beq_eq_false_iff_ne.2 h1
   clear h1
   by_cases h2 : X.1 = 2
   ·rw [if_pos h2] at hL
    have q2 : (X.1 == 2) = true := by rw [h2]; rfl
    clear h2
    subst hL
    (repeat' first | refine gA fun _ => ?_ | refine fkI ?_ ?_ <;> intro hb <;> try simp only [ew, rSr, hT, hB, hK, htm, hn1, hn2, hn3, hun, hZ, hX, q0, q1, q2] at hb | simp only [go_sem, simprocAttr, *, cL8S, cTbl, cBelow, cNS8, cRn8, cPickI, cDep6, Tryz.results36, rSr, hT, hB, hK, htm, hn1, hn2, hn3, hun, hZ, hX, q0, q1, q2])
    all_goals first | rfl | skip
   ·rw [if_neg h2] at hL
    have q2 : (X.1 == 2) = false := beq_eq_false_iff_ne.2 h2
    clear h2
    subst hL
    (repeat' first | refine gA fun _ => ?_ | refine fkI ?_ ?_ <;> intro hb <;> try simp only [ew, rSr, hT, hB, hK, htm, hn1, hn2, hn3, hun, hZ, hX, q0, q1, q2] at hb | simp only [go_sem, simprocAttr, *, cL8S, cTbl, cBelow, cNS8, cRn8, cPickI, cDep6, Tryz.results36, rSr, hT, hB, hK, htm, hn1, hn2, hn3, hun, hZ, hX, q0, q1, q2])
    all_goals first | rfl | skip
def dSr (bs : List Int) : ((Int × List (List Int)) × Int) × Int × List (Int × Int) × Int := (srD bs (newS bs)).1
def cDSr : Contract := ⟨[], false, fun
 | [.one (.sl 1 l)] => some (WfB l ∧ l.length ≤ 1048576 ∧ ∀ b ∈ unB l, 0 ≤ b ∧ b ≤ 255, rSr (dSr (unB l)), [])
 | _ => none⟩
theorem dSr_ok : ContractOK E0 11 cDSr := by
 refine cWpc (E := E0) (T := mkT Tryz.prog [(23, cNewC), (36, cL8S)] false (fun _ => false) true (fun _ => false)) (mkT_ok (E := E0) (.cons newC_ok (.cons l8S_ok .nil))) (fn := Tryz.f11) Tryz.func11 (by kernel_rfl) rfl mixedT (by kernel_rfl) rfl ?_
 intro args p rs ms hr
 unfold cDSr at hr
 dsimp only at hr
 split at hr
 rotate_left
 ·cases hr
 rename_i l
 simp only [Option.some.injEq, Prod.mk.injEq] at hr
 obtain ⟨rfl, rfl, rfl⟩ := hr
 refine ⟨rfl, rfl, Nat.le_of_ble_eq_true rfl, ?_⟩
 have hm : maxLen = 9223372036854775807 := rfl
 rintro ⟨h1, h2, h3⟩ bs0
 obtain ⟨bs, rfl, hx⟩ := h1.ex
 clear h1
 rw [bL_length] at h2
 rw [unB_bL] at h3 ⊢
 unfold dSr
 obtain ⟨⟨_, k2, k3⟩, _, k5, _⟩ := @srD_facts bs (newS bs)
 have eM : srD bs (0, newH bs) = srD bs (newS bs) := rfl
 generalize hM : srD bs (newS bs) = M at *
 have m1 : M.1.1.1.2.length ≤ maxLen := Nat.le_trans k2 (by decide)
 have m2 : ∀ r ∈ M.1.1.1.2, r.length ≤ maxLen := fun r hr => by have := k3 r hr; omega
 have m3 : M.1.2.2.1.length ≤ maxLen := Nat.le_trans k5 (by decide)
 clear k3
 (repeat' first | refine gA fun _ => ?_ | refine fkI ?_ ?_ <;> intro hb <;> try simp only [ew, rSr, eM, hM] at hb | simp only [go_sem, simprocAttr, *, cDSr, cNewC, cL8S, Tryz.results11, rSr, eM, hM])
 all_goals first | rfl | skip
def dWl (bs : List Int) : ((Int × List (List Int)) × Int) × (Int × Int) := ((l4M bs (newS bs)).1, (any6M (l4M bs (newS bs)).1.1.1 bs (l4M bs (newS bs)).2).1)
def cDWl : Contract := ⟨[], false, fun
 | [.one (.sl 1 l)] => some (WfB l ∧ l.length ≤ 1048576 ∧ ∀ b ∈ unB l, 0 ≤ b ∧ b ≤ 255, [⟨true, [.d (.v (.int .i64 (dWl (unB l)).1.1.1)), .own 1 (sL (dWl (unB l)).1.1.2) 1]⟩, ⟨false, [.d (.v (.int .i64 (dWl (unB l)).1.2))]⟩, ⟨true, [.d (.v (.int .i64 (dWl (unB l)).2.1)), .d (.v (.int .i64 (dWl (unB l)).2.2))]⟩], [])
 | _ => none⟩
theorem dWl_facts {bs : List Int} : (0 ≤ (dWl bs).1.1.1 ∧ (dWl bs).1.1.1 ≤ 6) ∧ (dWl bs).1.1.2.length ≤ 13 ∧ ∀ r ∈ (dWl bs).1.1.2, r.length ≤ 6 := by
 obtain ⟨c1, k2, k3⟩ := @l4M_facts bs (newS bs)
 exact ⟨c1, k2, fun r hr => by have := k3 r hr; omega⟩
theorem l6D_ok : ContractOK E0 28 cDWl := by
 refine cWpc (E := E0) (T := mkT Tryz.prog [(23, cNewC), (65, cL4D), (26, cAny6)] false (fun _ => false) true (fun d => d == 6 || d == 18 || d == 1000 || d == 1007)) (mkT_ok (E := E0) (.cons newC_ok (.cons l4D_ok (.cons any6_ok .nil)))) (fn := Tryz.f28) Tryz.func28 (by kernel_rfl) rfl mixedT (by kernel_rfl) rfl ?_
 intro args p rs ms hr
 unfold cDWl at hr
 dsimp only at hr
 split at hr
 rotate_left
 ·cases hr
 rename_i l
 simp only [Option.some.injEq, Prod.mk.injEq] at hr
 obtain ⟨rfl, rfl, rfl⟩ := hr
 refine ⟨rfl, rfl, Nat.le_of_ble_eq_true rfl, ?_⟩
 have hm : maxLen = 9223372036854775807 := rfl
 rintro ⟨h1, h2, h3⟩ bs0
 obtain ⟨bs, rfl, hx⟩ := h1.ex
 clear h1
 rw [bL_length] at h2
 rw [unB_bL] at h3 ⊢
 obtain ⟨_, k2, k3⟩ := @dWl_facts bs
 have eM : l4M bs (0, newH bs) = l4M bs (newS bs) := rfl
 unfold dWl at *
 generalize hM : l4M bs (newS bs) = M at *
 generalize hP : any6M M.1.1.1 bs M.2 = P at *
 have m1 : M.1.1.2.length ≤ maxLen := Nat.le_trans k2 (by decide)
 have m2 : ∀ r ∈ M.1.1.2, r.length ≤ maxLen := fun r hr => by have := k3 r hr; omega
 clear k3
 (repeat' first | refine gA fun _ => ?_ | refine fkI ?_ ?_ <;> intro hb <;> try simp only [ew, eM, hM, hP] at hb | simp only [go_sem, simprocAttr, *, cDWl, cNewC, cL4D, cAny6, Tryz.results28, eM, hM, hP])
 all_goals first | rfl | skip
theorem dWl_ok : ContractOK E0 7 cDWl := by
 refine cWpc (E := E0) (T := mkT Tryz.prog [(28, cDWl)] false (fun _ => false) true (fun d => d == 5 || d == 7 || d == 15 || d == 1000 || d == 1006 || d == 1008 || d == 3003 || d == 3005)) (mkT_ok (E := E0) (.cons l6D_ok .nil)) (fn := Tryz.f7) Tryz.func7 (by kernel_rfl) rfl mixedT (by kernel_rfl) rfl ?_
 intro args p rs ms hr
 unfold cDWl at hr
 dsimp only at hr
 split at hr
 rotate_left
 ·cases hr
 rename_i l
 simp only [Option.some.injEq, Prod.mk.injEq] at hr
 obtain ⟨rfl, rfl, rfl⟩ := hr
 refine ⟨rfl, rfl, Nat.le_of_ble_eq_true rfl, ?_⟩
 have hm : maxLen = 9223372036854775807 := rfl
 rintro ⟨h1, h2, h3⟩ bs0
 obtain ⟨bs, rfl, hx⟩ := h1.ex
 clear h1
 rw [bL_length] at h2
 rw [unB_bL] at h3 ⊢
 obtain ⟨_, k2, k3⟩ := @dWl_facts bs
 generalize hM : dWl bs = M at *
 have m1 : M.1.1.2.length ≤ maxLen := Nat.le_trans k2 (by decide)
 have m2 : ∀ r ∈ M.1.1.2, r.length ≤ maxLen := fun r hr => by have := k3 r hr; omega
 clear k3
 (repeat' first | refine gA fun _ => ?_ | refine fkI ?_ ?_ <;> intro hb <;> try simp only [ew, hM] at hb | simp only [go_sem, simprocAttr, *, cDWl, Tryz.results7, hM])
 all_goals first | rfl | skip
def dDe (bs : List Int) : (Int × List (Int × Int)) × (Int × Int) := ((l10M bs (newS bs)).1, (any6M (l10M bs (newS bs)).1.1 bs (l10M bs (newS bs)).2).1)
def cDDe : Contract := ⟨[], false, fun
 | [.one (.sl 1 l)] => some (WfB l ∧ l.length ≤ 1048576 ∧ ∀ b ∈ unB l, 0 ≤ b ∧ b ≤ 255, [⟨false, [.d (.v (.int .i64 (dDe (unB l)).1.1))]⟩, ⟨false, [.own 2 (dL (dDe (unB l)).1.2) 1]⟩, ⟨true, [.d (.v (.int .i64 (dDe (unB l)).2.1)), .d (.v (.int .i64 (dDe (unB l)).2.2))]⟩], [])
 | _ => none⟩
theorem dDe_facts {bs : List Int} : (0 ≤ (dDe bs).1.1 ∧ (dDe bs).1.1 ≤ 6) ∧ (dDe bs).1.2.length ≤ 5 := @l10M_facts bs (newS bs)
theorem l10p_ok : ContractOK E0 29 cDDe := by
 refine cWpc (E := E0) (T := mkT Tryz.prog [(23, cNewC), (37, cL10), (26, cAny6)] false (fun _ => false) true (fun _ => false)) (mkT_ok (E := E0) (.cons newC_ok (.cons l10_ok (.cons any6_ok .nil)))) (fn := Tryz.f29) Tryz.func29 (by kernel_rfl) rfl mixedT (by kernel_rfl) rfl ?_
 intro args p rs ms hr
 unfold cDDe at hr
 dsimp only at hr
 split at hr
 rotate_left
 ·cases hr
 rename_i l
 simp only [Option.some.injEq, Prod.mk.injEq] at hr
 obtain ⟨rfl, rfl, rfl⟩ := hr
 refine ⟨rfl, rfl, Nat.le_of_ble_eq_true rfl, ?_⟩
 have hm : maxLen = 9223372036854775807 := rfl
 rintro ⟨h1, h2, h3⟩ bs0
 obtain ⟨bs, rfl, hx⟩ := h1.ex
 clear h1
 rw [bL_length] at h2
 rw [unB_bL] at h3 ⊢
 obtain ⟨k1, k2⟩ := @dDe_facts bs
 have eM : l10M bs (0, newH bs) = l10M bs (newS bs) := rfl
 unfold dDe at *
 generalize hM : l10M bs (newS bs) = M at *
 generalize hP : any6M M.1.1 bs M.2 = P at *
 have m1 : M.1.2.length ≤ maxLen := Nat.le_trans k2 (by decide)
 (repeat' first | refine gA fun _ => ?_ | refine fkI ?_ ?_ <;> intro hb <;> try simp only [ew, eM, hM, hP] at hb | simp only [go_sem, simprocAttr, *, cDDe, cNewC, cL10, cAny6, Tryz.results29, eM, hM, hP])
 all_goals first | rfl | skip
theorem dDe_ok : ContractOK E0 8 cDDe := by
 refine cWpc (E := E0) (T := mkT Tryz.prog [(29, cDDe)] false (fun _ => false) true (fun d => d == 7 || d == 14 || d == 1000 || d == 1008 || d == 3005)) (mkT_ok (E := E0) (.cons l10p_ok .nil)) (fn := Tryz.f8) Tryz.func8 (by kernel_rfl) rfl mixedT (by kernel_rfl) rfl ?_
 intro args p rs ms hr
 unfold cDDe at hr
 dsimp only at hr
 split at hr
 rotate_left
 ·cases hr
 rename_i l
 simp only [Option.some.injEq, Prod.mk.injEq] at hr
 obtain ⟨rfl, rfl, rfl⟩ := hr
 refine ⟨rfl, rfl, Nat.le_of_ble_eq_true rfl, ?_⟩
 have hm : maxLen = 9223372036854775807 := rfl
 rintro ⟨h1, h2, h3⟩ bs0
 obtain ⟨bs, rfl, hx⟩ := h1.ex
 clear h1
 rw [bL_length] at h2
 rw [unB_bL] at h3 ⊢
 obtain ⟨k1, k2⟩ := @dDe_facts bs
 generalize hM : dDe bs = M at *
 have m1 : M.1.2.length ≤ maxLen := Nat.le_trans k2 (by decide)
 (repeat' first | refine gA fun _ => ?_ | refine fkI ?_ ?_ <;> intro hb <;> try simp only [ew, hM] at hb | simp only [go_sem, simprocAttr, *, cDDe, Tryz.results8, hM])
 all_goals first | rfl | skip
def dDl (bs : List Int) : List (Int × Int) := if (onceM 8 bs (dpsM 4 bs (newS bs)).2).1 then (dpsM 4 bs (newS bs)).1 ++ [(any6M 5 bs (onceM 8 bs (dpsM 4 bs (newS bs)).2).2).1] else (dpsM 4 bs (newS bs)).1
theorem dDl_len {bs : List Int} : (dDl bs).length ≤ 5 := by
 have := @dpsM_len 4 bs (newS bs)
 unfold dDl
 split
 ·simp; omega
 ·omega
def cDDl : Contract := ⟨[], false, fun
 | [.one (.sl 1 l)] => some (WfB l ∧ l.length ≤ 1048576 ∧ ∀ b ∈ unB l, 0 ≤ b ∧ b ≤ 255, [⟨false, [.own 2 (dL (dDl (unB l))) 1]⟩], [])
 | _ => none⟩
theorem dDl_ok : ContractOK E0 5 cDDl := by
 refine cWpc (E := E0) (T := mkT Tryz.prog [(23, cNewC), (24, cDps), (25, cOnce), (26, cAny6)] false (fun _ => false) true (fun _ => false)) (mkT_ok (E := E0) (.cons newC_ok (.cons dps_ok (.cons once_ok (.cons any6_ok .nil))))) (fn := Tryz.f5) Tryz.func5 (by kernel_rfl) rfl mixedT (by kernel_rfl) rfl ?_
 intro args p rs ms hr
 unfold cDDl at hr
 dsimp only at hr
 split at hr
 rotate_left
 ·cases hr
 rename_i l
 simp only [Option.some.injEq, Prod.mk.injEq] at hr
 obtain ⟨rfl, rfl, rfl⟩ := hr
 refine ⟨rfl, rfl, Nat.le_of_ble_eq_true rfl, ?_⟩
 have hm : maxLen = 9223372036854775807 := rfl
 rintro ⟨h1, h2, h3⟩ bs0
 obtain ⟨bs, rfl, hx⟩ := h1.ex
 clear h1
 rw [bL_length] at h2
 rw [unB_bL] at h3 ⊢
 have k1 := @dpsM_len 4 bs (newS bs)
 have eM : dpsM 4 bs (0, newH bs) = dpsM 4 bs (newS bs) := rfl
 unfold dDl
 generalize hM : dpsM 4 bs (newS bs) = M at *
 have m1 : M.1.length ≤ maxLen := Nat.le_trans k1 (by decide)
 generalize hO : onceM 8 bs M.2 = O at *
 cases ho : O.1
 ·rw [if_neg (by decide)]
  (repeat' first | refine gA fun _ => ?_ | refine fkI ?_ ?_ <;> intro hb <;> try simp only [ew, eM, hM, hO, ho] at hb | simp only [go_sem, simprocAttr, *, cDDl, cNewC, cDps, cOnce, cAny6, Tryz.results5, eM, hM, hO, ho])
  all_goals first | rfl | skip
 ·rw [if_pos rfl]
  generalize hP : any6M 5 bs O.2 = P at *
  (repeat' first | refine gA fun _ => ?_ | refine fkI ?_ ?_ <;> intro hb <;> try simp only [ew, eM, hM, hO, ho, hP, dL_sn] at hb | simp only [go_sem, simprocAttr, *, cDDl, cNewC, cDps, cOnce, cAny6, Tryz.results5, eM, hM, hO, ho, hP, dL_sn])
  all_goals first | rfl | skip
def dSl8 (bs : List Int) : List Int := (setsM bs (newS bs)).1
theorem dSl8_len {bs : List Int} : (dSl8 bs).length ≤ 7 := @setsM_len bs (newS bs)
def cDSl8 : Contract := ⟨[], false, fun
 | [.one (.sl 1 l)] => some (WfB l ∧ l.length ≤ 1048576 ∧ ∀ b ∈ unB l, 0 ≤ b ∧ b ≤ 255, [⟨false, [.own 1 (iL (dSl8 (unB l))) 1]⟩], [])
 | _ => none⟩
theorem dSl8_ok : ContractOK E0 6 cDSl8 := by
 refine cWpc (E := E0) (T := mkT Tryz.prog [(23, cNewC), (27, cSetsM)] false (fun _ => false) true (fun _ => false)) (mkT_ok (E := E0) (.cons newC_ok (.cons sets4_ok .nil))) (fn := Tryz.f6) Tryz.func6 (by kernel_rfl) rfl mixedT (by kernel_rfl) rfl ?_
 intro args p rs ms hr
 unfold cDSl8 at hr
 dsimp only at hr
 split at hr
 rotate_left
 ·cases hr
 rename_i l
 simp only [Option.some.injEq, Prod.mk.injEq] at hr
 obtain ⟨rfl, rfl, rfl⟩ := hr
 refine ⟨rfl, rfl, Nat.le_of_ble_eq_true rfl, ?_⟩
 have hm : maxLen = 9223372036854775807 := rfl
 rintro ⟨h1, h2, h3⟩ bs0
 obtain ⟨bs, rfl, hx⟩ := h1.ex
 clear h1
 rw [bL_length] at h2
 rw [unB_bL] at h3 ⊢
 have k1 := @dSl8_len bs
 have eM : setsM bs (0, newH bs) = setsM bs (newS bs) := rfl
 unfold dSl8 at *
 generalize hM : setsM bs (newS bs) = M at *
 have m1 : M.1.length ≤ maxLen := Nat.le_trans k1 (by decide)
 (repeat' first | refine gA fun _ => ?_ | refine fkI ?_ ?_ <;> intro hb <;> try simp only [ew, eM, hM] at hb | simp only [go_sem, simprocAttr, *, cDSl8, cNewC, cSetsM, Tryz.results6, eM, hM])
 all_goals first | rfl | skip
end Go.Own
