import Derived.Test.YtaigpolfbonjgaaGreatDoorOwnTe
import Derived.Test.YtaigpolfbonjgaaGreatDoorOwnG12
import Derived.Test.YtaigpolfbonjgaaGreatDoorOwnH5
set_option linter.unusedSimpArgs false
set_option linter.unusedVariables false
set_option maxRecDepth 20000
set_option maxHeartbeats 2000000
namespace Go.Own
open Go Go.Proofs
attribute [local go_sem] unD_dL dL_length dL_get dL_set dL_inj wfD_dL scal2 beq2 pair_eta dL_scal
def sc1 (ds : List (Int × Int)) (set : Int) (d : Int × Int) : Int := bitI .and .i64 set (clo ds d.1)
def sc2 (ds : List (Int × Int)) (set : Int) (d : Int × Int) : Int := bitI .or .i64 d.1 (bitI .andNot .i64 set (clo ds d.1))
theorem and_comm_key : ∀ x y : Fin 32, bitI .and .i64 ((x.val : Nat) : Int) ((y.val : Nat) : Int) = bitI .and .i64 ((y.val : Nat) : Int) ((x.val : Nat) : Int) := by decide +kernel
theorem or_comm_key : ∀ x y : Fin 32, bitI .or .i64 ((x.val : Nat) : Int) ((y.val : Nat) : Int) = bitI .or .i64 ((y.val : Nat) : Int) ((x.val : Nat) : Int) := by decide +kernel
theorem andNot_and_key : ∀ s z : Fin 32, bitI .andNot .i64 ((s.val : Nat) : Int) (bitI .and .i64 ((s.val : Nat) : Int) ((z.val : Nat) : Int)) = bitI .andNot .i64 ((s.val : Nat) : Int) ((z.val : Nat) : Int) := by decide +kernel
theorem and_lt_key : ∀ s z : Fin 32, 0 ≤ bitI .and .i64 ((s.val : Nat) : Int) ((z.val : Nat) : Int) ∧ bitI .and .i64 ((s.val : Nat) : Int) ((z.val : Nat) : Int) ≤ ((s.val : Nat) : Int) ∧ (insB ((s.val : Nat) : Int) ((z.val : Nat) : Int) = false → bitI .and .i64 ((s.val : Nat) : Int) ((z.val : Nat) : Int) < ((s.val : Nat) : Int)) ∧ insB (bitI .and .i64 ((s.val : Nat) : Int) ((z.val : Nat) : Int)) ((s.val : Nat) : Int) = true := by decide +kernel
theorem cnt_lt_key : ∀ x y : Fin 32, insB ((y.val : Nat) : Int) ((x.val : Nat) : Int) = true → y ≠ x → cnt ((y.val : Nat) : Int) < cnt ((x.val : Nat) : Int) := by decide +kernel
theorem cnt_le_key : ∀ x : Fin 32, cnt ((x.val : Nat) : Int) ≤ 5 := by decide +kernel
theorem cnt_le5 {x : Int} (hx : R5 x) : cnt x ≤ 5 := by
 obtain ⟨x, rfl⟩ := hx.fin
 exact cnt_le_key x
theorem cnt_lt {x y : Int} (hx : R5 x) (hy : R5 y) (h : insB y x = true) (hne : y < x) : cnt y < cnt x := by
 obtain ⟨x, rfl⟩ := hx.fin; obtain ⟨y, rfl⟩ := hy.fin
 exact cnt_lt_key x y h fun e => by rw [e] at hne; omega
theorem andNot_key : ∀ s z : Fin 32, (0 ≤ bitI .andNot .i64 ((s.val : Nat) : Int) ((z.val : Nat) : Int) ∧ bitI .andNot .i64 ((s.val : Nat) : Int) ((z.val : Nat) : Int) ≤ 31) ∧ ∀ c : Fin 5, hasB (bitI .andNot .i64 ((s.val : Nat) : Int) ((z.val : Nat) : Int)) ((c.val : Nat) : Int) = (hasB ((s.val : Nat) : Int) ((c.val : Nat) : Int) && !hasB ((z.val : Nat) : Int) ((c.val : Nat) : Int)) := by decide +kernel
theorem or_has_key : ∀ x y : Fin 32, ∀ c : Fin 5, hasB (bitI .or .i64 ((x.val : Nat) : Int) ((y.val : Nat) : Int)) ((c.val : Nat) : Int) = (hasB ((x.val : Nat) : Int) ((c.val : Nat) : Int) || hasB ((y.val : Nat) : Int) ((c.val : Nat) : Int)) := by decide +kernel
theorem andc {x y : Int} (hx : R5 x) (hy : R5 y) : bitI .and .i64 x y = bitI .and .i64 y x := by
 obtain ⟨x, rfl⟩ := hx.fin; obtain ⟨y, rfl⟩ := hy.fin
 exact and_comm_key x y
theorem orc {x y : Int} (hx : R5 x) (hy : R5 y) : bitI .or .i64 x y = bitI .or .i64 y x := by
 obtain ⟨x, rfl⟩ := hx.fin; obtain ⟨y, rfl⟩ := hy.fin
 exact or_comm_key x y
theorem andNot_R {x y : Int} (hx : R5 x) (hy : R5 y) : R5 (bitI .andNot .i64 x y) := by
 obtain ⟨x, rfl⟩ := hx.fin; obtain ⟨y, rfl⟩ := hy.fin
 exact (andNot_key x y).1
theorem andNot_and {x y : Int} (hx : R5 x) (hy : R5 y) : bitI .andNot .i64 x (bitI .and .i64 y x) = bitI .andNot .i64 x y := by
 rw [andc hy hx]
 obtain ⟨x, rfl⟩ := hx.fin; obtain ⟨y, rfl⟩ := hy.fin
 exact andNot_and_key x y
theorem brk_facts {n : Int} {ds : List (Int × Int)} {set : Int} {d : Int × Int} (h : brk n ds set 0 = some d) : (depsOK n ds = true ∧ isAttr n set = true) ∧ depR d ∧ insB set (clo ds d.1) = false ∧ insB d.1 set = true ∧ hasB set d.2 = true ∧ hasB (clo ds d.1) d.2 = true ∧ hasB d.1 d.2 = false := by
 unfold brk at h
 have h1 := List.find?_some h
 have h2 := List.mem_of_find?_eq_some h
 have hR := (@pdL_facts n ds set).2.1 d h2
 unfold pdL at h2
 split at h2
 ·rename_i hv
  rw [Bool.and_eq_true] at hv
  unfold minDs at h2
  obtain ⟨_, _, m3, m4⟩ := minT_mem h2
  unfold pjB at m4
  simp only [Bool.and_eq_true] at m4
  unfold brB at h1
  simp only [Bool.and_eq_true, Bool.not_eq_true'] at h1
  exact ⟨hv, hR, h1.1, m4.1.1, m4.1.2, m4.2, m3⟩
 ·cases h2
theorem sc_facts {n : Int} {ds : List (Int × Int)} {set : Int} {d : Int × Int} (h : brk n ds set 0 = some d) : (0 ≤ sc1 ds set d ∧ sc1 ds set d < set ∧ insB (sc1 ds set d) set = true) ∧ 0 ≤ sc2 ds set d ∧ sc2 ds set d < set ∧ insB (sc2 ds set d) set = true := by
 obtain ⟨⟨v1, v2⟩, hR, b1, b2, b3, b4, b5⟩ := brk_facts h
 have hd := depsOK_R v1
 obtain ⟨_, _, s0, s31⟩ := isAttr_le v2
 have hs : R5 set := ⟨s0, s31⟩
 have hz := clo_R hd hR.1
 unfold sc1 sc2
 have hl := hR.1
 have hr := hR.2
 generalize clo ds d.1 = z at hz b1 b4
 constructor
 ·obtain ⟨x, rfl⟩ := hs.fin; obtain ⟨y, rfl⟩ := hz.fin
  obtain ⟨k1, k2, k3, k4⟩ := and_lt_key x y
  exact ⟨k1, k3 b1, k4⟩
 ·have hN := andNot_R hs hz
  have hO := or_R hl hN
  have hsub : leB (bitI .or .i64 d.1 (bitI .andNot .i64 set z)) set := by
   intro c hc
   have hl2 := (insB_iff hl hs).1 b2 c
   obtain ⟨x, hx⟩ := hs.fin; obtain ⟨y, hy⟩ := hz.fin; obtain ⟨w, hw⟩ := hl.fin; obtain ⟨q, hq⟩ := hN.fin
   have e1 := or_has_key w q c
   rw [← hw, ← hq] at e1
   have e2 := (andNot_key x y).2 c
   rw [← hx, ← hy] at e2
   rw [e1, e2] at hc
   simp only [Bool.or_eq_true, Bool.and_eq_true] at hc
   rcases hc with hc | hc
   ·exact hl2 hc
   ·exact hc.1
  have hne : bitI .or .i64 d.1 (bitI .andNot .i64 set z) ≠ set := by
   intro e
   obtain ⟨x, hx⟩ := hs.fin; obtain ⟨y, hy⟩ := hz.fin; obtain ⟨w, hw⟩ := hl.fin; obtain ⟨q, hq⟩ := hN.fin
   obtain ⟨c, hc⟩ := c5 hr
   have e1 := or_has_key w q c
   rw [← hw, ← hq, ← hc] at e1
   have e2 := (andNot_key x y).2 c
   rw [← hx, ← hy, ← hc] at e2
   rw [e, b3, b5, e2, b4] at e1
   simp at e1
  have h2 := (insB_iff hO hs).2 hsub
  have := ins_le hO hs h2
  exact ⟨hO.1, by omega, h2⟩
theorem sc_attr {n : Int} {ds : List (Int × Int)} {set : Int} {d : Int × Int} (h : brk n ds set 0 = some d) : isAttr n (sc1 ds set d) = true ∧ isAttr n (sc2 ds set d) = true := by
 obtain ⟨h1, h2⟩ := sc_facts h
 have hv := (brk_facts h).1.2
 simp only [isAttr, Bool.and_eq_true, inB_iff] at hv ⊢
 have h1' := h1.2.1
 have h2' := h2.2.1
 exact ⟨⟨hv.1, h1.1, by omega⟩, hv.1, h2.1, by omega⟩
def lvs (n : Int) (ds : List (Int × Int)) : Nat → Int → List Int
 | 0, set => [set]
 | f + 1, set => match brk n ds set 0 with
  | none => [set]
  | some d => lvs n ds f (sc1 ds set d) ++ lvs n ds f (sc2 ds set d)
def lvF (n : Int) (ds : List (Int × Int)) (set : Int) : List Int := lvs n ds set.toNat set
theorem brk_zero {n : Int} {ds : List (Int × Int)} {set : Int} (h : set ≤ 0) : brk n ds set 0 = none := by
 cases hb : brk n ds set 0 with
 | none => rfl
 | some d =>
  have := (sc_facts hb).1
  omega
theorem lvs_fuel {n : Int} {ds : List (Int × Int)} : ∀ {f g : Nat} {set : Int}, set.toNat ≤ f → set.toNat ≤ g → lvs n ds f set = lvs n ds g set
 | 0, 0, set, _, _ => rfl
 | 0, g + 1, set, h, _ => by rw [lvs, lvs, brk_zero (by omega)]
 | f + 1, 0, set, _, h => by rw [lvs, lvs, brk_zero (by omega)]
 | f + 1, g + 1, set, h1, h2 => by
  rw [lvs, lvs]
  cases hb : brk n ds set 0 with
  | none => rfl
  | some d =>
   have := sc_facts hb
   dsimp only
   rw [lvs_fuel (f := f) (g := g) (by omega) (by omega), lvs_fuel (f := f) (g := g) (set := sc2 ds set d) (by omega) (by omega)]
theorem lvF_none {n : Int} {ds : List (Int × Int)} {set : Int} (h : brk n ds set 0 = none) : lvF n ds set = [set] := by
 unfold lvF
 cases set.toNat with
 | zero => rfl
 | succ f => rw [lvs, h]
theorem lvF_some {n : Int} {ds : List (Int × Int)} {set : Int} {d : Int × Int} (h : brk n ds set 0 = some d) : lvF n ds set = lvF n ds (sc1 ds set d) ++ lvF n ds (sc2 ds set d) := by
 have := sc_facts h
 unfold lvF
 rw [lvs_fuel (f := set.toNat) (g := set.toNat + 1) (by omega) (by omega), lvs, h]
 dsimp only
 rw [lvs_fuel (f := set.toNat) (g := (sc1 ds set d).toNat) (by omega) (by omega), lvs_fuel (f := set.toNat) (g := (sc2 ds set d).toNat) (by omega) (by omega)]
def decF (n : Int) (ds : List (Int × Int)) : List Int := if depsOK n ds then selS maxT1 (dstI (lvF n ds (all2 n))) else []
theorem sorted_len : ∀ {l : List Int} {a b : Int}, l.Pairwise (· < ·) → (∀ x ∈ l, a ≤ x ∧ x ≤ b) → (l.length : Int) ≤ max 0 (b + 1 - a)
 | [], a, b, _, _ => by simp; omega
 | x :: l, a, b, h, hx => by
  rw [List.pairwise_cons] at h
  have h1 := hx x (by simp)
  have ih := sorted_len (l := l) (a := x + 1) (b := b) h.2 fun y hy => by
   have h2 := h.1 y hy
   have h3 := hx y (by simp [hy])
   omega
  rw [List.length_cons]
  omega
def srt5 (l : List Int) : Prop := l.Pairwise (· < ·) ∧ ∀ x ∈ l, R5 x
theorem srt5_len {l : List Int} (h : srt5 l) : l.length ≤ 32 := by
 have := sorted_len (a := 0) (b := 31) h.1 fun x hx => h.2 x hx
 omega
theorem srt5_put {l : List Int} {x : Int} (h : srt5 l) (hx : R5 x) : srt5 (putS l x) := by
 refine ⟨putS_sorted h.1, fun z hz => ?_⟩
 rcases putS_mem.1 hz with rfl | hz
 ·exact hx
 ·exact h.2 z hz
theorem srt5_foldl : ∀ {xs l : List Int}, srt5 l → (∀ x ∈ xs, R5 x) → srt5 (xs.foldl putS l)
 | [], l, h, _ => h
 | x :: xs, l, h, hx => srt5_foldl (xs := xs) (srt5_put h (hx x (by simp))) fun y hy => hx y (by simp [hy])
theorem lvs_R {n : Int} {ds : List (Int × Int)} : ∀ {f : Nat} {set : Int}, R5 set → ∀ x ∈ lvs n ds f set, R5 x
 | 0, set, h, x, hx => by rw [lvs, List.mem_singleton] at hx; rw [hx]; exact h
 | f + 1, set, h, x, hx => by
  rw [lvs] at hx
  cases hb : brk n ds set 0 with
  | none => rw [hb] at hx; rw [List.mem_singleton] at hx; rw [hx]; exact h
  | some d =>
   rw [hb] at hx
   have hf := sc_facts hb
   have h' : 0 ≤ set ∧ set ≤ 31 := h
   rcases List.mem_append.1 hx with hx | hx
   ·exact lvs_R (f := f) ⟨hf.1.1, by omega⟩ x hx
   ·exact lvs_R (f := f) ⟨hf.2.1, by omega⟩ x hx
def cSplitK (k : Nat) : Contract := ⟨[false, false, false, true], true, fun
 | [.one (.v (.int .i64 n)), .one (.sl 2 l), .one (.v (.int .i64 set)), .arr 1 out _] => some (WfD l ∧ depsOK n (unD l) = true ∧ isAttr n set = true ∧ set.toNat < k ∧ WfI out ∧ srt5 (unI out), [⟨false, [.own 1 (iL ((lvF n (unD l) set).foldl putS (unI out))) 1]⟩], [.gone])
 | _ => none⟩
theorem splitK_step {k : Nat} (ih : ContractOK E0 112 (cSplitK k)) : ContractOK E0 112 (cSplitK (k + 1)) := by
 refine contract_of_wpcL (E := E0) (T := mkT Tryz.prog [(112, (cSplitK k)), (149, cBad), (110, cPut), (107, cClo)] false (fun _ => false) false (fun _ => false)) (mkT_ok (E := E0) (.cons ih (.cons bad_ok (.cons put_ok (.cons cloSpec_ok .nil))))) rfl (fn := Tryz.f112) Tryz.func112 (by kernel_rfl) rfl mixedT (by kernel_rfl) rfl (Nat.le_of_ble_eq_true rfl) ?_
 intro args p rs ms hr
 unfold cSplitK at hr
 dsimp only at hr
 split at hr
 rotate_left
 ·cases hr
 rename_i n l set out dp
 simp only [Option.some.injEq, Prod.mk.injEq] at hr
 obtain ⟨rfl, rfl, rfl⟩ := hr
 refine ⟨_, [.one (.v (.int .i64 n)), .one (.sl 2 l), .one (.v (.int .i64 set))], rfl, by simp, rfl, rfl, rfl, rfl, Nat.le_of_ble_eq_true rfl, ?_⟩
 have hm : maxLen = 9223372036854775807 := rfl
 rintro ⟨h1, hv1, hv2, hk, h4, h5⟩ bs
 obtain ⟨ds, rfl, hx⟩ := h1.ex
 obtain ⟨os, rfl, hy⟩ := h4.ex
 clear h1 h4
 rw [unI_iL] at h5 ⊢
 rw [unD_dL] at hv1 ⊢
 obtain ⟨n0, n5, s0, s31⟩ := isAttr_le hv2
 have o32 := srt5_len h5
 have omx : os.length ≤ maxLen := Nat.le_trans o32 (by decide)
 cases hb : brk n ds set 0 with
 | none =>
  have e1 : (brk n ds set 0).isSome = false := by rw [hb]; rfl
  have e2 := lvF_none hb
  rw [e2]
  clear e2 hv1 hv2
  have e3 : [set].foldl putS os = putS os set := rfl
  rw [e3]
  clear e3
  (repeat' first | refine gA fun _ => ?_ | refine fkI ?_ ?_ <;> intro hb <;> try simp only [ew, e1] at hb | simp only [go_sem, simprocAttr, *, cSplitK, cBad, cPut, cClo, Tryz.results112, e1])
  all_goals first | rfl | skip
 | some d =>
  obtain ⟨_, ⟨⟨d0, d31⟩, r0, r4⟩, _⟩ := brk_facts hb
  obtain ⟨⟨p0, p1, _⟩, q0, q1, _⟩ := sc_facts hb
  obtain ⟨a1, a2⟩ := sc_attr hb
  have e1 : (brk n ds set 0).isSome = true := by rw [hb]; rfl
  have e4 : oDep (brk n ds set 0) = d := by rw [hb]; rfl
  have e2 := lvF_some hb
  rw [e2, List.foldl_append]
  clear e2
  have hd := depsOK_R hv1
  have hcl := clo_R hd (show R5 d.1 from ⟨d0, d31⟩)
  have hS : R5 set := ⟨s0, s31⟩
  have eA : bitI .and .i64 (clo ds d.1) set = sc1 ds set d := andc hcl hS
  have eB : bitI .or .i64 (bitI .andNot .i64 set (sc1 ds set d)) d.1 = sc2 ds set d := by
   unfold sc1 sc2
   rw [andc hS hcl, andNot_and hS hcl, orc (andNot_R hS hcl) ⟨d0, d31⟩]
  have z1 := srt5_foldl h5 (lvs_R (n := n) (ds := ds) (f := (sc1 ds set d).toNat) (set := sc1 ds set d) ⟨p0, by omega⟩)
  have z1l := srt5_len z1
  have z1m : ((lvF n ds (sc1 ds set d)).foldl putS os).length ≤ maxLen := Nat.le_trans z1l (by decide)
  clear z1l
  generalize hu1 : sc1 ds set d = u1 at *
  generalize hu2 : sc2 ds set d = u2 at *
  generalize hg : (lvF n ds u1).foldl putS os = os1 at z1m ⊢
  have z1' : srt5 os1 := by rw [← hg]; exact z1
  have t1 : u1.toNat < k := by omega
  have t2 : u2.toNat < k := by omega
  have t3 : u1 < (k : Int) := by omega
  have t4 : u2 < (k : Int) := by omega
  clear z1 hu1 hu2 hb
  (repeat' first | refine gA fun _ => ?_ | refine fkI ?_ ?_ <;> intro hb <;> try simp only [ew, bits64, e1, e4, eA, eB, hg] at hb | simp only [go_sem, simprocAttr, *, cSplitK, cBad, cPut, cClo, Tryz.results112, bits64, e1, e4, eA, eB, hg])
  all_goals first | rfl | skip
theorem splitK_ok : ∀ k, ContractOK E0 112 (cSplitK k) := by
 intro k
 induction k with
 | zero =>
  refine ⟨⟨Tryz.f112, Tryz.func112, by kernel_rfl, rfl⟩, ?_⟩
  intro args p rs ms hr hp
  exfalso
  unfold cSplitK at hr
  dsimp only at hr
  split at hr
  ·simp only [Option.some.injEq, Prod.mk.injEq] at hr
   obtain ⟨rfl, _, _⟩ := hr
   have := hp.2.2.2.1
   omega
  ·cases hr
 | succ k ih => exact splitK_step ih
def cSplit : Contract := ⟨[false, false, false, true], true, fun
 | [.one (.v (.int .i64 n)), .one (.sl 2 l), .one (.v (.int .i64 set)), .arr 1 out _] => some (WfD l ∧ depsOK n (unD l) = true ∧ isAttr n set = true ∧ WfI out ∧ srt5 (unI out), [⟨false, [.own 1 (iL ((lvF n (unD l) set).foldl putS (unI out))) 1]⟩], [.gone])
 | _ => none⟩
theorem split_ok : ContractOK E0 112 cSplit := by
 refine ⟨(splitK_ok 32).1, ?_⟩
 intro args p rs ms hr hp
 unfold cSplit at hr
 dsimp only at hr
 split at hr
 ·rename_i n l set out dp
  simp only [Option.some.injEq, Prod.mk.injEq] at hr
  obtain ⟨rfl, rfl, rfl⟩ := hr
  obtain ⟨h1, h2, h3, h4⟩ := hp
  have := isAttr_le h3
  exact (splitK_ok 32).2 _ _ _ _ rfl ⟨h1, h2, h3, by omega, h4⟩
 ·cases hr
def cDec : Contract := ⟨[], false, fun
 | [.one (.v (.int .i64 n)), .one (.sl 2 l)] => some (WfD l ∧ -9223372036854775808 ≤ n ∧ n ≤ 9223372036854775807, [⟨false, [.own 1 (iL (decF n (unD l))) 1]⟩], [])
 | _ => none⟩
theorem all2_attr {n : Int} (h : 1 ≤ n ∧ n ≤ 5) : isAttr n (all2 n) = true := by
 obtain ⟨c, rfl⟩ := Int.eq_ofNat_of_zero_le (show 0 ≤ n by omega)
 have : ∀ c : Fin 6, isAttr ((c.val : Nat) : Int) (all2 ((c.val : Nat) : Int)) = true := by decide +kernel
 exact this ⟨c, by omega⟩
theorem decS_ok : ContractOK E0 59 cDec := by
 refine cWpc (E := E0) (T := mkT Tryz.prog [(56, cAreDeps), (106, cAll2), (112, cSplit), (111, cMaxS)] false (fun _ => false) true (fun _ => false)) (mkT_ok (E := E0) (.cons areDepsS_ok (.cons all2_ok (.cons split_ok (.cons maxS_ok .nil))))) (fn := Tryz.f59) Tryz.func59 (by kernel_rfl) rfl mixedT (by kernel_rfl) rfl ?_
 intro args p rs ms hr
 unfold cDec at hr
 dsimp only at hr
 split at hr
 rotate_left
 ·cases hr
 rename_i n l
 simp only [Option.some.injEq, Prod.mk.injEq] at hr
 obtain ⟨rfl, rfl, rfl⟩ := hr
 refine ⟨rfl, rfl, Nat.le_of_ble_eq_true rfl, ?_⟩
 have hm : maxLen = 9223372036854775807 := rfl
 rintro ⟨h1, hn1, hn2⟩ bs
 obtain ⟨ds, rfl, hx⟩ := h1.ex
 clear h1
 rw [unD_dL]
 cases hv : depsOK n ds
 ·have e : decF n ds = [] := by unfold decF; rw [hv]; rfl
  rw [e]
  clear e
  (repeat' first | refine gA fun _ => ?_ | refine fkI ?_ ?_ <;> intro hb <;> try simp only [ew, hv] at hb | simp only [go_sem, simprocAttr, *, cDec, cAreDeps, cAll2, cSplit, cMaxS, Tryz.results59, hv])
  all_goals first | rfl | skip
 ·have e : decF n ds = selS maxT1 (dstI (lvF n ds (all2 n))) := by unfold decF; rw [hv]; rfl
  rw [e]
  clear e
  obtain ⟨n1, n5, _⟩ := deps_n hv
  have ha := all2_attr ⟨n1, n5⟩
  obtain ⟨_, _, s0, s31⟩ := isAttr_le ha
  have hz : srt5 (dstI (lvF n ds (all2 n))) := srt5_foldl ⟨.nil, by simp⟩ (lvs_R ⟨s0, s31⟩)
  have hl := srt5_len hz
  have hlm : (dstI (lvF n ds (all2 n))).length ≤ maxLen := Nat.le_trans hl (by decide)
  have e1 : (lvF n ds (all2 n)).foldl putS [] = dstI (lvF n ds (all2 n)) := rfl
  have e2 : srt5 ([] : List Int) := ⟨.nil, by simp⟩
  have e3 : unI [] = [] := rfl
  have e4 : (iL [] : List (List D)) = [] := rfl
  have e5 : WfI ([] : List (List D)) := (wfI_iL (xs := [])).2 (Nat.zero_le _)
  clear hz
  generalize hZ : dstI (lvF n ds (all2 n)) = Z at hl hlm e1 ⊢
  generalize hA : all2 n = A at ha s0 s31 e1
  (repeat' first | refine gA fun _ => ?_ | refine fkI ?_ ?_ <;> intro hb <;> try simp only [ew, hv, hA, e1, e3] at hb | simp only [go_sem, simprocAttr, *, cDec, cAreDeps, cAll2, cSplit, cMaxS, Tryz.results59, hv, hA, e1, e3])
  all_goals first | rfl | skip
def wt (x : Int) : Nat := 2 * 2 ^ cnt x - 1
def wtL (R : List Int) : Nat := (R.map wt).sum
theorem wt_pos {x : Int} : 1 ≤ wt x := by
 unfold wt
 have := Nat.one_le_two_pow (n := cnt x)
 omega
theorem wtL_len : ∀ {R : List Int}, R.length ≤ wtL R
 | [] => Nat.le_refl _
 | x :: R => by
  have h1 := @wtL_len R
  have h2 := @wt_pos x
  unfold wtL at *
  rw [List.map_cons, List.sum_cons, List.length_cons]
  omega
theorem wtL_app {R S : List Int} : wtL (R ++ S) = wtL R + wtL S := by
 unfold wtL; rw [List.map_append, List.sum_append]
theorem wt_two {x a b : Int} (ha : cnt a < cnt x) (hb : cnt b < cnt x) : wt a + wt b < wt x := by
 unfold wt
 have h1 : 2 ^ cnt a ≤ 2 ^ (cnt x - 1) := Nat.pow_le_pow_right (by omega) (by omega)
 have h2 : 2 ^ cnt b ≤ 2 ^ (cnt x - 1) := Nat.pow_le_pow_right (by omega) (by omega)
 have h3 : 2 ^ cnt x = 2 ^ (cnt x - 1) * 2 := by rw [← Nat.pow_succ]; congr 1; omega
 have := Nat.one_le_two_pow (n := cnt a)
 have := Nat.one_le_two_pow (n := cnt b)
 omega
def decI (n : Int) (ds : List (Int × Int)) (R D : List Int) : Prop := (∀ x ∈ R, isAttr n x = true) ∧ D.length + wtL R ≤ 63 ∧ ∀ z, (z ∈ D ∨ ∃ x ∈ R, z ∈ lvF n ds x) ↔ z ∈ lvF n ds (all2 n)
theorem decI_start {n : Int} {ds : List (Int × Int)} (h : 1 ≤ n ∧ n ≤ 5) : decI n ds [all2 n] [] := by
 have ha := all2_attr h
 refine ⟨fun x hx => by rw [List.mem_singleton] at hx; rw [hx]; exact ha, ?_, fun z => by simp⟩
 have := cnt_le5 (x := all2 n) (isAttr_le ha).2.2
 have h2 : 2 ^ cnt (all2 n) ≤ 2 ^ 5 := Nat.pow_le_pow_right (by omega) this
 simp only [wtL, wt, List.map_cons, List.map_nil, List.sum_cons, List.sum_nil, List.length_nil]
 omega
theorem decI_leaf {n : Int} {ds : List (Int × Int)} {R D : List Int} {x : Int} (h : decI n ds (R ++ [x]) D) (hb : brk n ds x 0 = none) : decI n ds R (D ++ [x]) ∧ wtL R < wtL (R ++ [x]) := by
 obtain ⟨h1, h2, h3⟩ := h
 have hp := @wt_pos x
 have e : wtL (R ++ [x]) = wtL R + wt x := by rw [wtL_app]; simp [wtL]
 rw [e] at h2 ⊢
 refine ⟨⟨fun y hy => h1 y (by simp [hy]), by rw [List.length_append]; simp; omega, fun z => ?_⟩, by omega⟩
 rw [← h3 z]
 constructor
 ·rintro (hz | ⟨y, hy, hz⟩)
  ·rcases List.mem_append.1 hz with hz | hz
   ·exact .inl hz
   ·exact .inr ⟨x, by simp, by rw [lvF_none hb]; exact hz⟩
  ·exact .inr ⟨y, by simp [hy], hz⟩
 ·rintro (hz | ⟨y, hy, hz⟩)
  ·exact .inl (by simp [hz])
  ·rcases List.mem_append.1 hy with hy | hy
   ·exact .inr ⟨y, hy, hz⟩
   ·rw [List.mem_singleton] at hy
    subst hy
    rw [lvF_none hb] at hz
    exact .inl (by simp at hz; simp [hz])
theorem decI_split {n : Int} {ds : List (Int × Int)} {R D : List Int} {x : Int} {d : Int × Int} (h : decI n ds (R ++ [x]) D) (hb : brk n ds x 0 = some d) : decI n ds (R ++ [sc1 ds x d, sc2 ds x d]) D ∧ wtL (R ++ [sc1 ds x d, sc2 ds x d]) < wtL (R ++ [x]) := by
 obtain ⟨h1, h2, h3⟩ := h
 obtain ⟨⟨p0, p1, p2⟩, q0, q1, q2⟩ := sc_facts hb
 obtain ⟨a1, a2⟩ := sc_attr hb
 have hx := (isAttr_le (h1 x (by simp))).2.2
 have hw := wt_two (cnt_lt hx ⟨p0, by omega⟩ p2 p1) (cnt_lt hx ⟨q0, by omega⟩ q2 q1)
 have e : wtL (R ++ [x]) = wtL R + wt x := by rw [wtL_app]; simp [wtL]
 have e2 : wtL (R ++ [sc1 ds x d, sc2 ds x d]) = wtL R + (wt (sc1 ds x d) + wt (sc2 ds x d)) := by rw [wtL_app]; simp [wtL]
 rw [e] at h2 ⊢
 rw [e2]
 refine ⟨⟨fun y hy => ?_, by rw [e2]; omega, fun z => ?_⟩, by omega⟩
 ·rcases List.mem_append.1 hy with hy | hy
  ·exact h1 y (by simp [hy])
  ·simp only [List.mem_cons, List.not_mem_nil, or_false] at hy
   rcases hy with rfl | rfl
   ·exact a1
   ·exact a2
 ·rw [← h3 z]
  have es := lvF_some hb
  constructor
  ·rintro (hz | ⟨y, hy, hz⟩)
   ·exact .inl hz
   ·rcases List.mem_append.1 hy with hy | hy
    ·exact .inr ⟨y, by simp [hy], hz⟩
    ·refine .inr ⟨x, by simp, ?_⟩
     rw [es, List.mem_append]
     simp only [List.mem_cons, List.not_mem_nil, or_false] at hy
     rcases hy with rfl | rfl
     ·exact .inl hz
     ·exact .inr hz
  ·rintro (hz | ⟨y, hy, hz⟩)
   ·exact .inl hz
   ·rcases List.mem_append.1 hy with hy | hy
    ·exact .inr ⟨y, by simp [hy], hz⟩
    ·rw [List.mem_singleton] at hy
     subst hy
     rw [es, List.mem_append] at hz
     rcases hz with hz | hz
     ·exact .inr ⟨_, by simp, hz⟩
     ·exact .inr ⟨_, by simp, hz⟩
theorem decI_end {n : Int} {ds : List (Int × Int)} {D : List Int} (h : decI n ds [] D) : dstI D = dstI (lvF n ds (all2 n)) := by
 refine sorted_ext dstI_sorted dstI_sorted fun z => ?_
 rw [dstI_mem, dstI_mem, ← h.2.2 z]
 simp
theorem iL_take {xs : List Int} {i : Nat} : (iL xs).take i = iL (xs.take i) := by simp [iL, List.map_take]
theorem iL_two {xs : List Int} {a b : Int} : iL xs ++ [[D.v (.int .i64 a)], [D.v (.int .i64 b)]] = iL (xs ++ [a, b]) := by simp [iL]
theorem decI_ok : ContractOK E0 55 cDec := by
 refine cWpc (E := E0) (T := mkT Tryz.prog [(52, cAreDeps), (104, cBrk), (99, cClo), (105, cDst), (103, cMaxS)] false (fun _ => false) true (fun d => d == 29)) (mkT_ok (E := E0) (.cons areDepsI_ok (.cons brk_ok (.cons cloImpl_ok (.cons dst_ok (.cons maxSI_ok .nil)))))) (fn := Tryz.f55) Tryz.func55 (by kernel_rfl) rfl mixedT (by kernel_rfl) rfl ?_
 intro args p rs ms hr
 unfold cDec at hr
 dsimp only at hr
 split at hr
 rotate_left
 ·cases hr
 rename_i n l
 simp only [Option.some.injEq, Prod.mk.injEq] at hr
 obtain ⟨rfl, rfl, rfl⟩ := hr
 refine ⟨rfl, rfl, Nat.le_of_ble_eq_true rfl, ?_⟩
 have hm : maxLen = 9223372036854775807 := rfl
 rintro ⟨h1, hn1, hn2⟩ bs
 obtain ⟨ds, rfl, hx⟩ := h1.ex
 clear h1
 rw [unD_dL]
 cases hv : depsOK n ds
 ·have e : decF n ds = [] := by unfold decF; rw [hv]; rfl
  rw [e]
  clear e
  (repeat' first | refine gA fun _ => ?_ | refine fkI ?_ ?_ <;> intro hb <;> try simp only [ew, hv] at hb | simp only [go_sem, simprocAttr, *, cDec, cAreDeps, cBrk, cClo, cDst, cMaxS, Tryz.results55, hv])
  all_goals first | rfl | skip
 ·have e : decF n ds = selS maxT1 (dstI (lvF n ds (all2 n))) := by unfold decF; rw [hv]; rfl
  rw [e]
  clear e
  obtain ⟨n1, n5, _⟩ := deps_n hv
  have hst := @decI_start n ds ⟨n1, n5⟩
  obtain ⟨_, _, s0, s31⟩ := isAttr_le (all2_attr ⟨n1, n5⟩)
  have hend := @decI_end n ds
  have hlf := @decI_leaf n ds
  have hsp := @decI_split n ds
  have hd := depsOK_R hv
  obtain ⟨c, rfl⟩ := Int.eq_ofNat_of_zero_le (show 0 ≤ n by omega)
  have hA : all2 c = 1 * 2 ^ c - 1 := by unfold all2; rw [Int.toNat_natCast]
  have hpw := pow5 (n := (c : Int)) (by omega) n5
  rw [Int.toNat_natCast] at hpw
  generalize hL : dstI (lvF (c : Int) ds (all2 c)) = L at hend ⊢
  generalize hA2 : all2 (c : Int) = A at hA hst s0 s31
  replace hA := hA.symm
  clear hL
  (repeat' first | refine gA fun _ => ?_ | refine fkI ?_ ?_ <;> intro hb <;> try simp only [ew, bits64, hv, hA] at hb | simp only [go_sem, simprocAttr, *, cDec, cAreDeps, cBrk, cClo, cDst, cMaxS, Tryz.results55, bits64, hv, hA])
  refine lpI { ι := List Int × List Int, rs := [(7, 11), (20, 63)], mods := [(5, fun i => .one (.own 1 (iL i.2) 1)), (6, fun i => .one (.own 1 (iL i.1) 1))], boxes := [], arrs := [], ok := fun i => decI c ds i.1 i.2, mu := fun i => wtL i.1 } rfl ([A], []) hst ?_ ?_
  ·clear hst hend hlf hsp
   (repeat' first | refine gA fun _ => ?_ | refine fkI ?_ ?_ <;> intro hb <;> try simp only [ew, hA] at hb | simp only [go_sem, simprocAttr, *, cDec, cAreDeps, cBrk, cClo, cDst, cMaxS, Tryz.results55, hA])
   all_goals first | rfl | exact ⟨rfl, rfl⟩ | skip
  ·rintro ⟨R, D⟩ hi
   dsimp only at hi
   have w1 := @wtL_len R
   have w2 := hi.2.1
   have w3 : R.length ≤ 63 := by omega
   have w4 : D.length ≤ 63 := by omega
   clear w1 w2 hst
   rcases List.eq_nil_or_concat R with rfl | ⟨S, x, rfl⟩
   ·have e1 := hend hi
    have e2 : iL ([] : List Int) = [] := rfl
    have e3 := @dstI_length D
    rw [e1] at e3
    have e5 : L.length ≤ maxLen := Nat.le_trans e3 (Nat.le_trans w4 (by decide))
    clear hlf hsp hi
    (repeat' first | refine gA fun _ => ?_ | refine fkI ?_ ?_ <;> intro hb <;> try simp only [ew, e1, e2] at hb | simp only [go_sem, simprocAttr, *, cDec, cAreDeps, cBrk, cClo, cDst, cMaxS, Tryz.results55, e1, e2])
    all_goals first | rfl | skip
   ·rw [List.concat_eq_append] at *
    have hx := hi.1 x (by simp)
    obtain ⟨_, _, x0, x31⟩ := isAttr_le hx
    have eG : (S ++ [x]).getD S.length 0 = x := by simp [List.getD_eq_getElem?_getD]
    have eT : (S ++ [x]).take S.length = S := by simp
    have eL : (S ++ [x]).length = S.length + 1 := by simp
    generalize hR : S ++ [x] = R at *
    have eN : ((R.length : Int) - 1).toNat = S.length := by omega
    have hSl : S.length < R.length := by omega
    have hR0 : 0 < R.length := by omega
    have hgt : decide ((R.length : Int) > 0) = true := decide_eq_true (by omega)
    clear eL
    cases hb : brk c ds x 0 with
    | none =>
     have e1 : (brk c ds x 0).isSome = false := by rw [hb]; rfl
     have hq := @hlf S D x (by rw [hR]; exact hi) hb
     rw [hR] at hq
     clear hlf hsp hend hi hb
     (repeat' first | refine gA fun _ => ?_ | refine fkI ?_ ?_ <;> intro hb <;> try simp only [ew, hv, hx, hgt, eN, eG, eT, e1, iL_take, iL_snoc] at hb | simp only [go_sem, simprocAttr, *, cDec, cAreDeps, cBrk, cClo, cDst, cMaxS, Tryz.results55, hv, hx, hgt, eN, eG, eT, e1, iL_take, iL_snoc])
     refine lpN (S, D ++ [x]) hq.1 hq.2 ?_
     clear hq
     (repeat' first | refine gA fun _ => ?_ | refine fkI ?_ ?_ <;> intro hb <;> try simp only [ew, eT, iL_take, iL_snoc] at hb | simp only [go_sem, simprocAttr, *, cDec, cAreDeps, cBrk, cClo, cDst, cMaxS, Tryz.results55, eT, iL_take, iL_snoc])
    | some d =>
     have e1 : (brk c ds x 0).isSome = true := by rw [hb]; rfl
     have e4 : oDep (brk c ds x 0) = d := by rw [hb]; rfl
     obtain ⟨_, ⟨⟨d0, d31⟩, r0, r4⟩, _⟩ := brk_facts hb
     have hq := @hsp S D x d (by rw [hR]; exact hi) hb
     rw [hR] at hq
     have eA : bitI .and .i64 x (clo ds d.1) = sc1 ds x d := rfl
     have eB : bitI .or .i64 d.1 (bitI .andNot .i64 x (clo ds d.1)) = sc2 ds x d := rfl
     clear hlf hsp hend hi hb
     (repeat' first | refine gA fun _ => ?_ | refine fkI ?_ ?_ <;> intro hb <;> try simp only [ew, bits64, hv, hx, hgt, eN, eG, eT, e1, e4, eA, eB, iL_take, iL_two] at hb | simp only [go_sem, simprocAttr, *, cDec, cAreDeps, cBrk, cClo, cDst, cMaxS, Tryz.results55, bits64, hv, hx, hgt, eN, eG, eT, e1, e4, eA, eB, iL_take, iL_two])
     refine lpN (S ++ [sc1 ds x d, sc2 ds x d], D) hq.1 hq.2 ?_
     clear hq
     (repeat' first | refine gA fun _ => ?_ | refine fkI ?_ ?_ <;> intro hb <;> try simp only [ew, eT, iL_take, iL_two, eA, eB] at hb | simp only [go_sem, simprocAttr, *, cDec, cAreDeps, cBrk, cClo, cDst, cMaxS, Tryz.results55, eT, iL_take, iL_two, eA, eB])
theorem decF_len {n : Int} {ds : List (Int × Int)} : (decF n ds).length ≤ 100 := by
 unfold decF
 split
 ·exact selS_length
 ·simp
end Go.Own
