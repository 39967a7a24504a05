import Derived.Test.YtaigpolfbonjgaaGreatDoorOwnH6
import Derived.Test.YtaigpolfbonjgaaGreatDoorOwnTe
set_option linter.unusedSimpArgs false
set_option linter.unusedVariables false
set_option maxRecDepth 20000
set_option maxHeartbeats 2000000
namespace Go.Own
open Go Go.Proofs
attribute [local go_sem] unD_dL dL_length dL_get dL_set dL_inj wfD_dL scal2 beq2 pair_eta dL_scal
theorem full_key : ∀ k : Fin 5, ∀ r : Fin 5, r.val ≤ k.val → hasB (((2 ^ (k.val + 1) : Nat) : Int) - 1) ((r.val : Nat) : Int) = true := by decide +kernel
theorem exists_minL : ∀ {l : List Int}, l ≠ [] → ∃ m ∈ l, ∀ y ∈ l, m ≤ y
 | [], h => absurd rfl h
 | [x], _ => ⟨x, by simp, by simp⟩
 | x :: y :: l, _ => by
  obtain ⟨m, h1, h2⟩ := @exists_minL (y :: l) (by simp)
  by_cases h : x ≤ m
  ·exact ⟨x, by simp, fun z hz => by
    rcases List.mem_cons.1 hz with rfl | hz
    ·exact Int.le_refl _
    ·exact Int.le_trans h (h2 z hz)⟩
  ·exact ⟨m, by simp [h1], fun z hz => by
    rcases List.mem_cons.1 hz with rfl | hz
    ·omega
    ·exact h2 z hz⟩
theorem keyL_ne {n : Int} {ds : List (Int × Int)} (hv : depsOK n ds = true) : (2 ^ n.toNat - 1 : Nat) < 2 ^ n.toNat ∧ (((2 ^ n.toNat : Nat) : Int) - 1) ∈ keyL (2 ^ n.toNat) ds := by
 obtain ⟨n1, n5, _⟩ := deps_n hv
 have hd := depsOK_R hv
 obtain ⟨c, rfl⟩ := Int.eq_ofNat_of_zero_le (show 0 ≤ n by omega)
 rw [Int.toNat_natCast]
 have hM2 : 2 ^ c ≤ 32 := Nat.le_trans (Nat.pow_le_pow_right (by omega) (show c ≤ 5 by omega)) (by decide)
 have hM3 : 1 ≤ 2 ^ c := Nat.one_le_two_pow
 have hx : R5 (((2 ^ c : Nat) : Int) - 1) := ⟨by omega, by omega⟩
 refine ⟨by omega, ?_⟩
 unfold keyL
 rw [List.mem_filter]
 constructor
 ·have : ((2 ^ c : Nat) : Int) - 1 = ((2 ^ c - 1 : Nat) : Int) := by omega
  rw [this]
  unfold rng
  exact List.mem_map.2 ⟨2 ^ c - 1, List.mem_range.2 (by omega), rfl⟩
 ·unfold kqB
  rw [beq_iff_eq]
  refine (clo_eq hd hx hx (leB.refl _) (clo_le hd hx) ?_).symm
  intro d hdm _
  have hv2 := hv
  simp only [depsOK, Bool.and_eq_true, List.all_eq_true] at hv2
  have h := hv2.1 d hdm
  simp only [depOK, Bool.and_eq_true, inB_iff] at h
  have := full_key ⟨c - 1, by omega⟩ ⟨d.2.toNat, by omega⟩ (by dsimp only; omega)
  dsimp only at this
  rw [show c - 1 + 1 = c by omega, show ((d.2.toNat : Nat) : Int) = d.2 by omega] at this
  exact this
theorem keyL_mem {M : Nat} {ds : List (Int × Int)} {x : Int} (h : x ∈ keyL M ds) : 0 ≤ x ∧ x < M := by
 unfold keyL at h
 rw [List.mem_filter] at h
 unfold rng at h
 obtain ⟨i, hi, rfl⟩ := List.mem_map.1 h.1
 rw [List.mem_range] at hi
 exact ⟨by omega, by omega⟩
theorem keysF_facts {n : Int} {ds : List (Int × Int)} : (keysF n ds).length ≤ 100 ∧ (∀ x ∈ keysF n ds, R5 x) ∧ (depsOK n ds = true → 0 < (keysF n ds).length) := by
 unfold keysF
 split
 ·rename_i hv
  refine ⟨selS_length, fun x hx => ?_, fun _ => ?_⟩
  ·have := (selS_mem hx).2
   exact (isAttr_le this).2.2
  ·obtain ⟨_, hm⟩ := keyL_ne hv
   obtain ⟨n1, n5, _⟩ := deps_n hv
   have hM2 : 2 ^ n.toNat ≤ 32 := Nat.le_trans (Nat.pow_le_pow_right (by omega) (show n.toNat ≤ 5 by omega)) (by decide)
   have hlen : (keyL (2 ^ n.toNat) ds).length ≤ 2 ^ n.toNat := rng_filter_len
   have hmem := fun x h => @keyL_mem (2 ^ n.toNat) ds x h
   generalize keyL (2 ^ n.toNat) ds = L at hm hlen hmem
   have hs : setsOK L = true := by
    simp only [setsOK, Bool.and_eq_true, List.all_eq_true, decide_eq_true_eq, isAttr, inB_iff, all2]
    refine ⟨fun x hx => ⟨by decide, ?_, ?_⟩, by omega⟩
    ·exact (hmem x hx).1
    ·have := (hmem x hx).2
     show x ≤ 31
     omega
   obtain ⟨m, m1, m2⟩ := exists_minL (l := L) (by intro e; rw [e] at hm; cases hm)
   have hin : m ∈ selS minT1 L := by
    unfold selS
    rw [hs, if_pos rfl, dstI_mem, List.mem_filter]
    refine ⟨m1, List.all_eq_true.2 fun y hy => ?_⟩
    unfold minT1
    cases hq : insB y m
    ·simp
    ·have r1 := hmem y hy
     have r2 := hmem m m1
     have := ins_le (x := y) (s := m) ⟨by omega, by omega⟩ ⟨by omega, by omega⟩ hq
     have := m2 y hy
     have e : m = y := by omega
     simp [e]
   exact List.length_pos_of_mem hin
 ·rename_i hv
  exact ⟨by simp, by simp, fun h => absurd h hv⟩
def synS (a : Int) (x : Int) (e : Int × Int) : Int := if e.1 == a then addB x e.2 else x
def synX (C : List (Int × Int)) (a : Int) : Int := C.foldl (synS a) a
def synL (C l : List (Int × Int)) : List Int := l.map fun d => synX C d.1
def synA (K S : List Int) : List Int := S ++ (if S.any (anyIn K) then [] else [K.getD 0 0])
def synF (n : Int) (ds : List (Int × Int)) : List Int := if depsOK n ds then selS maxT1 (synA (keysF n ds) (synL (covF n ds) (covF n ds))) else []
theorem synS_R {a x : Int} {e : Int × Int} (hx : R5 x) (he : 0 ≤ e.2 ∧ e.2 ≤ 4) : R5 (synS a x e) := by
 unfold synS; split
 ·exact addB_R hx he
 ·exact hx
theorem synX_R {a : Int} (ha : R5 a) : ∀ {C : List (Int × Int)}, (∀ d ∈ C, depR d) → R5 (synX C a) := by
 intro C h
 unfold synX
 suffices H : ∀ (C : List (Int × Int)) (x : Int), R5 x → (∀ d ∈ C, depR d) → R5 (C.foldl (synS a) x) from H C a ha h
 intro C
 induction C with
 | nil => intro x hx _; exact hx
 | cons d C ih => intro x hx h; exact ih _ (synS_R hx (h d (by simp)).2) fun e he => h e (by simp [he])
theorem synX_succ {C : List (Int × Int)} {a : Int} {k : Nat} (h : k < C.length) : synX (C.take (k + 1)) a = synS a (synX (C.take k) a) (C.getD k (0, 0)) := by
 unfold synX; rw [take_succ_getD h (0, 0), List.foldl_append]; rfl
theorem synL_succ {C l : List (Int × Int)} {i : Nat} (h : i < l.length) : synL C (l.take (i + 1)) = synL C (l.take i) ++ [synX C (l.getD i (0, 0)).1] := by
 unfold synL; rw [take_succ_getD h (0, 0), List.map_append]; rfl
theorem synL_length {C l : List (Int × Int)} : (synL C l).length = l.length := by simp [synL]
theorem synL_R {C l : List (Int × Int)} (hC : ∀ d ∈ C, depR d) (hl : ∀ d ∈ l, depR d) : ∀ x ∈ synL C l, R5 x := by
 intro x hx
 obtain ⟨d, hd, rfl⟩ := List.mem_map.1 hx
 exact synX_R (hl d hd).1 hC
theorem setsOK_dst {l : List Int} (h : l.length ≤ 100) : setsOK (dstI l) = setsOK l := by
 unfold setsOK
 have h2 := @dstI_length l
 rw [decide_eq_true (show ((dstI l).length : Int) ≤ 100 by omega), decide_eq_true (show (l.length : Int) ≤ 100 by omega), Bool.and_true, Bool.and_true, Bool.eq_iff_iff, List.all_eq_true, List.all_eq_true]
 exact ⟨fun h x hx => h x (dstI_mem.2 hx), fun h x hx => h x (dstI_mem.1 hx)⟩
theorem selS_dst {t : Int → Int → Bool} {l : List Int} (h : l.length ≤ 100) : selS t (dstI l) = selS t l := by
 unfold selS
 rw [setsOK_dst h]
 have e : ∀ x, (dstI l).all (t x) = l.all (t x) := fun x => by
  rw [Bool.eq_iff_iff, List.all_eq_true, List.all_eq_true]
  exact ⟨fun h y hy => h y (dstI_mem.2 hy), fun h y hy => h y (dstI_mem.1 hy)⟩
 simp only [e]
 split
 ·rw [dst_filter]
  refine sorted_ext dstI_sorted dstI_sorted fun z => ?_
  simp only [dstI_mem]
 ·rfl
theorem any_dst {l : List Int} {p : Int → Bool} : (dstI l).any p = l.any p := by
 rw [Bool.eq_iff_iff, List.any_eq_true, List.any_eq_true]
 constructor
 ·rintro ⟨x, h1, h2⟩; exact ⟨x, dstI_mem.1 h1, h2⟩
 ·rintro ⟨x, h1, h2⟩; exact ⟨x, dstI_mem.2 h1, h2⟩
def cSyn : Contract := ⟨[], false, fun
 | [.one (.v (.int .i64 n)), .one (.sl 2 l)] => some (WfD l ∧ -9223372036854775808 ≤ n ∧ n ≤ 9223372036854775807, [⟨false, [.own 1 (iL (synF n (unD l))) 1]⟩], [])
 | _ => none⟩
theorem synI_ok : ContractOK E0 54 cSyn := by
 refine cWpc (E := E0) (T := mkT Tryz.prog [(52, cAreDeps), (101, cCvr), (53, cKeys), (102, cHasPart), (103, cMaxS)] false (fun _ => false) true (fun _ => false)) (mkT_ok (E := E0) (.cons areDepsI_ok (.cons covI_ok (.cons keysI_ok (.cons hasPart_ok (.cons maxSI_ok .nil)))))) (fn := Tryz.f54) Tryz.func54 (by kernel_rfl) rfl mixedT (by kernel_rfl) rfl ?_
 intro args p rs ms hr
 unfold cSyn at hr
 dsimp only at hr
 split at hr
 rotate_left
 ·cases hr
 rename_i n l
 simp only [Option.some.injEq, Prod.mk.injEq] at hr
 obtain ⟨rfl, rfl, rfl⟩ := hr
 refine ⟨rfl, rfl, Nat.le_of_ble_eq_true rfl, ?_⟩
 have hm : maxLen = 9223372036854775807 := rfl
 rintro ⟨h1, hn1, hn2⟩ bs
 obtain ⟨ds, rfl, hx⟩ := h1.ex
 clear h1
 rw [unD_dL]
 cases hv : depsOK n ds
 ·have e : synF n ds = [] := by unfold synF; rw [hv]; rfl
  rw [e]
  clear e
  (repeat' first | refine gA fun _ => ?_ | refine fkI ?_ ?_ <;> intro hb <;> try simp only [ew, hv] at hb | simp only [go_sem, simprocAttr, *, cSyn, cAreDeps, cCvr, cKeys, cHasPart, cMaxS, Tryz.results54, hv])
  all_goals first | rfl | skip
 ·have e : synF n ds = selS maxT1 (synA (keysF n ds) (synL (covF n ds) (covF n ds))) := by unfold synF; rw [hv]; rfl
  rw [e]
  clear e
  obtain ⟨k1, k2, k3⟩ := @keysF_facts n ds
  have k3 := k3 hv
  obtain ⟨c1, c2⟩ := @covF_facts n ds
  have cR : ∀ d ∈ covF n ds, depR d := fun d hd => depOK_R (c1 d hd)
  clear c1
  have c3 : (covF n ds).length ≤ maxLen := Nat.le_trans c2 (by decide)
  (repeat' first | refine gA fun _ => ?_ | refine fkI ?_ ?_ <;> intro hb <;> try simp only [ew, hv] at hb | simp only [go_sem, simprocAttr, *, cSyn, cAreDeps, cCvr, cKeys, cHasPart, cMaxS, Tryz.results54, hv])
  generalize hC : covF n ds = C at c2 c3 cR
  generalize hK : keysF n ds = K at k1 k2 k3
  have kmx : K.length ≤ maxLen := Nat.le_trans k1 (by decide)
  have hSL := fun i => @synL_length C (C.take i)
  refine lpI { ι := Nat, rs := [(8, 10), (11, 12), (27, 54)], mods := [(26, fun i => .one (.d (.v (.int .i64 i)))), (6, fun i => .one (.own 1 (iL (synL C (C.take i))) 1))], boxes := [], arrs := [(5, fun _ => (2, dL C, 1))], alis := [(24, 5)], ok := fun i => i ≤ C.length, mu := fun i => C.length - i } rfl 0 (Nat.zero_le _) ?_ fun i hi => ?_
  ·clear cR k2
   (repeat' first | refine gA fun _ => ?_ | refine fkI ?_ ?_ <;> intro hb <;> try simp only [ew, hC] at hb | simp only [go_sem, simprocAttr, *, cSyn, cAreDeps, cCvr, cKeys, cHasPart, cMaxS, Tryz.results54, hC])
   all_goals first | rfl | skip
  ·dsimp only at i hi
   have s1 := hSL i
   rw [List.length_take] at s1
   have s2 : (synL C (C.take i)).length ≤ 20 := by omega
   clear s1
   have s3 : (synL C (C.take i)).length ≤ maxLen := Nat.le_trans s2 (by decide)
   by_cases h5 : i < C.length
   ·have eS := synL_succ (C := C) h5
    obtain ⟨⟨a1, a2⟩, b1, b2⟩ := cR _ (getD_mem h5 (0, 0))
    generalize hZ : synL C (C.take i) = Z at s2 s3 eS
    generalize hg : C.getD i (0, 0) = g at eS a1 a2 b1 b2
    obtain ⟨a, b⟩ := g
    dsimp only at eS a1 a2 b1 b2
    clear k2
    have e0 : synX (C.take 0) a = a := rfl
    (repeat' first | refine gA fun _ => ?_ | refine fkI ?_ ?_ <;> intro hb <;> try simp only [ew, hZ, hg] at hb | simp only [go_sem, simprocAttr, *, cSyn, cAreDeps, cCvr, cKeys, cHasPart, cMaxS, Tryz.results54, hZ, hg])
    refine lpI { ι := Nat, rs := [(11, 12), (35, 49)], mods := [(34, fun k => .one (.d (.v (.int .i64 k)))), (9, fun k => .one (.d (.v (.int .i64 (synX (C.take k) a)))))], boxes := [(8, fun _ => [.d (.v (.int .i64 a)), .d (.v (.int .i64 b))])], arrs := [(5, fun _ => (2, dL C, 1)), (6, fun _ => (1, iL Z, 1))], alis := [(24, 5), (32, 5)], ok := fun k => k ≤ C.length, mu := fun k => C.length - k } rfl 0 (Nat.zero_le _) ?_ fun k hk => ?_
    ·clear cR
     (repeat' first | refine gA fun _ => ?_ | refine fkI ?_ ?_ <;> intro hb <;> try simp only [ew, hZ, hg, e0] at hb | simp only [go_sem, simprocAttr, *, cSyn, cAreDeps, cCvr, cKeys, cHasPart, cMaxS, Tryz.results54, hZ, hg, e0])
     all_goals first | rfl | skip
    ·dsimp only at k hk
     have hX := @synX_R a ⟨a1, a2⟩ (C.take k) fun d hd => cR d (List.mem_of_mem_take hd)
     by_cases h6 : k < C.length
     ·have eX := synX_succ (a := a) h6
      obtain ⟨_, d1, d2⟩ := cR _ (getD_mem h6 (0, 0))
      generalize hx : synX (C.take k) a = x at hX eX
      generalize hh : C.getD k (0, 0) = h at eX d1 d2
      obtain ⟨u, v⟩ := h
      dsimp only at eX d1 d2
      obtain ⟨x0, x31⟩ := hX
      have hp := shl5 ⟨d1, d2⟩
      have eo : bitI .or .i64 x (1 * 2 ^ v.toNat) = addB x v := rfl
      unfold synS at eX
      dsimp only at eX
      cases hq : (u == a)
      ·rw [hq, if_neg (by decide)] at eX
       clear cR
       (repeat' first | refine gA fun _ => ?_ | refine fkI ?_ ?_ <;> intro hb <;> try simp only [ew, hx, hh, hq] at hb | simp only [go_sem, simprocAttr, *, cSyn, cAreDeps, cCvr, cKeys, cHasPart, cMaxS, Tryz.results54, hx, hh, hq])
       refine lpN (k + 1) (by dsimp only; omega) (by dsimp only; omega) ?_
       (repeat' first | refine gA fun _ => ?_ | refine fkI ?_ ?_ <;> intro hb <;> try simp only [ew, hx, eX, hh, hq] at hb | simp only [go_sem, simprocAttr, *, cSyn, cAreDeps, cCvr, cKeys, cHasPart, cMaxS, Tryz.results54, hx, eX, hh, hq])
      ·rw [hq, if_pos rfl] at eX
       clear cR
       (repeat' first | refine gA fun _ => ?_ | refine fkI ?_ ?_ <;> intro hb <;> try simp only [ew, bits64, hx, hh, hq, eo] at hb | simp only [go_sem, simprocAttr, *, cSyn, cAreDeps, cCvr, cKeys, cHasPart, cMaxS, Tryz.results54, bits64, hx, hh, hq, eo])
       refine lpN (k + 1) (by dsimp only; omega) (by dsimp only; omega) ?_
       (repeat' first | refine gA fun _ => ?_ | refine fkI ?_ ?_ <;> intro hb <;> try simp only [ew, hx, eX, hh, hq, eo] at hb | simp only [go_sem, simprocAttr, *, cSyn, cAreDeps, cCvr, cKeys, cHasPart, cMaxS, Tryz.results54, hx, eX, hh, hq, eo])
     ·have e6 : k = C.length := by omega
      subst e6
      have eT : C.take C.length = C := List.take_length
      clear cR
      (repeat' first | refine gA fun _ => ?_ | refine fkI ?_ ?_ <;> intro hb <;> try simp only [ew, eT, iL_snoc] at hb | simp only [go_sem, simprocAttr, *, cSyn, cAreDeps, cCvr, cKeys, cHasPart, cMaxS, Tryz.results54, eT, iL_snoc])
      refine lpN (i + 1) (by dsimp only; omega) (by dsimp only; omega) ?_
      (repeat' first | refine gA fun _ => ?_ | refine fkI ?_ ?_ <;> intro hb <;> try simp only [ew, hZ, eS, eT, iL_snoc] at hb | simp only [go_sem, simprocAttr, *, cSyn, cAreDeps, cCvr, cKeys, cHasPart, cMaxS, Tryz.results54, hZ, eS, eT, iL_snoc])
   ·have e5 : i = C.length := by omega
    subst e5
    have eP : C.take C.length = C := List.take_length
    rw [eP] at s2 s3
    generalize hZ : synL C C = Z at s2 s3
    clear cR k2 hSL
    (repeat' first | refine gA fun _ => ?_ | refine fkI ?_ ?_ <;> intro hb <;> try simp only [ew, eP, hZ, hK] at hb | simp only [go_sem, simprocAttr, *, cSyn, cAreDeps, cCvr, cKeys, cHasPart, cMaxS, Tryz.results54, eP, hZ, hK])
    refine lpI { ι := Nat, rs := [(15, 16), (60, 70)], mods := [(59, fun k => .one (.d (.v (.int .i64 k)))), (13, fun k => .one (.d (.v (.bool ((Z.take k).any (anyIn K))))))], boxes := [], arrs := [(6, fun _ => (1, iL Z, 1)), (12, fun _ => (1, iL K, 1))], alis := [(57, 6)], ok := fun k => k ≤ Z.length, mu := fun k => Z.length - k } rfl 0 (Nat.zero_le _) ?_ fun k hk => ?_
    ·(repeat' first | refine gA fun _ => ?_ | refine fkI ?_ ?_ <;> intro hb <;> try simp only [ew, eP, hZ, hK] at hb | simp only [go_sem, simprocAttr, *, cSyn, cAreDeps, cCvr, cKeys, cHasPart, cMaxS, Tryz.results54, eP, hZ, hK])
     all_goals first | rfl | skip
    ·dsimp only at k hk
     by_cases h6 : k < Z.length
     ·have eA := any_succ h6 0 (anyIn K)
      generalize hf : (Z.take k).any (anyIn K) = b0 at eA
      generalize hg : anyIn K (Z.getD k 0) = b1 at eA
      cases b0
      ·rw [Bool.false_or] at eA
       (repeat' first | refine gA fun _ => ?_ | refine fkI ?_ ?_ <;> intro hb <;> try simp only [ew, hf, hg] at hb | simp only [go_sem, simprocAttr, *, cSyn, cAreDeps, cCvr, cKeys, cHasPart, cMaxS, Tryz.results54, hf, hg])
       refine lpN (k + 1) (by dsimp only; omega) (by dsimp only; omega) ?_
       (repeat' first | refine gA fun _ => ?_ | refine fkI ?_ ?_ <;> intro hb <;> try simp only [ew, hf, hg, eA] at hb | simp only [go_sem, simprocAttr, *, cSyn, cAreDeps, cCvr, cKeys, cHasPart, cMaxS, Tryz.results54, hf, hg, eA])
      ·rw [Bool.true_or] at eA
       (repeat' first | refine gA fun _ => ?_ | refine fkI ?_ ?_ <;> intro hb <;> try simp only [ew, hf, hg] at hb | simp only [go_sem, simprocAttr, *, cSyn, cAreDeps, cCvr, cKeys, cHasPart, cMaxS, Tryz.results54, hf, hg])
       refine lpN (k + 1) (by dsimp only; omega) (by dsimp only; omega) ?_
       (repeat' first | refine gA fun _ => ?_ | refine fkI ?_ ?_ <;> intro hb <;> try simp only [ew, hf, hg, eA] at hb | simp only [go_sem, simprocAttr, *, cSyn, cAreDeps, cCvr, cKeys, cHasPart, cMaxS, Tryz.results54, hf, hg, eA])
     ·have e6 : k = Z.length := by omega
      subst e6
      have eT : Z.take Z.length = Z := List.take_length
      cases hq : Z.any (anyIn K)
      ·have eA : synA K Z = Z ++ [K.getD 0 0] := by unfold synA; rw [hq]; rfl
       rw [eA]
       clear eA
       (repeat' first | refine gA fun _ => ?_ | refine fkI ?_ ?_ <;> intro hb <;> try simp only [ew, eT, hq, iL_snoc] at hb | simp only [go_sem, simprocAttr, *, cSyn, cAreDeps, cCvr, cKeys, cHasPart, cMaxS, Tryz.results54, eT, hq, iL_snoc])
      ·have eA : synA K Z = Z := by unfold synA; rw [hq, if_pos rfl, List.append_nil]
       rw [eA]
       clear eA
       (repeat' first | refine gA fun _ => ?_ | refine fkI ?_ ?_ <;> intro hb <;> try simp only [ew, eT, hq] at hb | simp only [go_sem, simprocAttr, *, cSyn, cAreDeps, cCvr, cKeys, cHasPart, cMaxS, Tryz.results54, eT, hq])
theorem synS_ok : ContractOK E0 58 cSyn := by
 refine cWpc (E := E0) (T := mkT Tryz.prog [(56, cAreDeps), (109, cCvr), (110, cPut), (57, cKeys), (111, cMaxS)] false (fun _ => false) true (fun _ => false)) (mkT_ok (E := E0) (.cons areDepsS_ok (.cons covS_ok (.cons put_ok (.cons keysS_ok (.cons maxS_ok .nil)))))) (fn := Tryz.f58) Tryz.func58 (by kernel_rfl) rfl mixedT (by kernel_rfl) rfl ?_
 intro args p rs ms hr
 unfold cSyn at hr
 dsimp only at hr
 split at hr
 rotate_left
 ·cases hr
 rename_i n l
 simp only [Option.some.injEq, Prod.mk.injEq] at hr
 obtain ⟨rfl, rfl, rfl⟩ := hr
 refine ⟨rfl, rfl, Nat.le_of_ble_eq_true rfl, ?_⟩
 have hm : maxLen = 9223372036854775807 := rfl
 rintro ⟨h1, hn1, hn2⟩ bs
 obtain ⟨ds, rfl, hx⟩ := h1.ex
 clear h1
 rw [unD_dL]
 cases hv : depsOK n ds
 ·have e : synF n ds = [] := by unfold synF; rw [hv]; rfl
  rw [e]
  clear e
  (repeat' first | refine gA fun _ => ?_ | refine fkI ?_ ?_ <;> intro hb <;> try simp only [ew, hv] at hb | simp only [go_sem, simprocAttr, *, cSyn, cAreDeps, cCvr, cPut, cKeys, cMaxS, Tryz.results58, hv])
  all_goals first | rfl | skip
 ·have e : synF n ds = selS maxT1 (synA (keysF n ds) (synL (covF n ds) (covF n ds))) := by unfold synF; rw [hv]; rfl
  rw [e]
  clear e
  obtain ⟨k1, k2, k3⟩ := @keysF_facts n ds
  have k3 := k3 hv
  obtain ⟨c1, c2⟩ := @covF_facts n ds
  have cR : ∀ d ∈ covF n ds, depR d := fun d hd => depOK_R (c1 d hd)
  clear c1
  have c3 : (covF n ds).length ≤ maxLen := Nat.le_trans c2 (by decide)
  (repeat' first | refine gA fun _ => ?_ | refine fkI ?_ ?_ <;> intro hb <;> try simp only [ew, hv] at hb | simp only [go_sem, simprocAttr, *, cSyn, cAreDeps, cCvr, cPut, cKeys, cMaxS, Tryz.results58, hv])
  generalize hC : covF n ds = C at c2 c3 cR
  generalize hK : keysF n ds = K at k1 k2 k3
  have kmx : K.length ≤ maxLen := Nat.le_trans k1 (by decide)
  have hSL := fun i => @synL_length C (C.take i)
  refine lpI { ι := Nat, rs := [(8, 10), (23, 62)], mods := [(7, fun i => .one (.d (.v (.int .i64 i)))), (5, fun i => .one (.own 1 (iL (dstI (synL C (C.take i)))) 1))], boxes := [], arrs := [(6, fun _ => (2, dL C, 1))], ok := fun i => i ≤ C.length, mu := fun i => C.length - i } rfl 0 (Nat.zero_le _) ?_ fun i hi => ?_
  ·clear cR k2
   (repeat' first | refine gA fun _ => ?_ | refine fkI ?_ ?_ <;> intro hb <;> try simp only [ew, hC] at hb | simp only [go_sem, simprocAttr, *, cSyn, cAreDeps, cCvr, cPut, cKeys, cMaxS, Tryz.results58, hC])
   all_goals first | rfl | skip
  ·dsimp only at i hi
   have s0 := @dstI_length (synL C (C.take i))
   have s1 := hSL i
   rw [List.length_take] at s1
   have s2 : (dstI (synL C (C.take i))).length ≤ 20 := by omega
   clear s1 s0
   have s3 : (dstI (synL C (C.take i))).length ≤ maxLen := Nat.le_trans s2 (by decide)
   by_cases h5 : i < C.length
   ·have eS := congrArg dstI (synL_succ (C := C) h5)
    rw [dstI_snoc] at eS
    obtain ⟨⟨a1, a2⟩, b1, b2⟩ := cR _ (getD_mem h5 (0, 0))
    generalize hZ : dstI (synL C (C.take i)) = Z at s2 s3 eS
    generalize hg : C.getD i (0, 0) = g at eS a1 a2 b1 b2
    obtain ⟨a, b⟩ := g
    dsimp only at eS a1 a2 b1 b2
    clear k2
    have e0 : synX (C.take 0) a = a := rfl
    (repeat' first | refine gA fun _ => ?_ | refine fkI ?_ ?_ <;> intro hb <;> try simp only [ew, hZ, hg] at hb | simp only [go_sem, simprocAttr, *, cSyn, cAreDeps, cCvr, cPut, cKeys, cMaxS, Tryz.results58, hZ, hg])
    refine lpI { ι := Nat, rs := [(34, 59)], mods := [(9, fun k => .one (.d (.v (.int .i64 k)))), (8, fun k => .one (.d (.v (.int .i64 (synX (C.take k) a)))))], boxes := [], arrs := [(6, fun _ => (2, dL C, 1)), (5, fun _ => (1, iL Z, 1))], ok := fun k => k ≤ C.length, mu := fun k => C.length - k } rfl 0 (Nat.zero_le _) ?_ fun k hk => ?_
    ·clear cR
     (repeat' first | refine gA fun _ => ?_ | refine fkI ?_ ?_ <;> intro hb <;> try simp only [ew, hZ, hg, e0] at hb | simp only [go_sem, simprocAttr, *, cSyn, cAreDeps, cCvr, cPut, cKeys, cMaxS, Tryz.results58, hZ, hg, e0])
     all_goals first | rfl | skip
    ·dsimp only at k hk
     have hX := @synX_R a ⟨a1, a2⟩ (C.take k) fun d hd => cR d (List.mem_of_mem_take hd)
     by_cases h6 : k < C.length
     ·have eX := synX_succ (a := a) h6
      obtain ⟨_, d1, d2⟩ := cR _ (getD_mem h6 (0, 0))
      generalize hx : synX (C.take k) a = x at hX eX
      generalize hh : C.getD k (0, 0) = h at eX d1 d2
      obtain ⟨u, v⟩ := h
      dsimp only at eX d1 d2
      obtain ⟨x0, x31⟩ := hX
      have hp := shl5 ⟨d1, d2⟩
      have eo : bitI .or .i64 x (1 * 2 ^ v.toNat) = addB x v := rfl
      unfold synS at eX
      dsimp only at eX
      cases hq : (u == a)
      ·rw [hq, if_neg (by decide)] at eX
       clear cR
       (repeat' first | refine gA fun _ => ?_ | refine fkI ?_ ?_ <;> intro hb <;> try simp only [ew, hx, hh, hg, hq] at hb | simp only [go_sem, simprocAttr, *, cSyn, cAreDeps, cCvr, cPut, cKeys, cMaxS, Tryz.results58, hx, hh, hg, hq])
       refine lpN (k + 1) (by dsimp only; omega) (by dsimp only; omega) ?_
       (repeat' first | refine gA fun _ => ?_ | refine fkI ?_ ?_ <;> intro hb <;> try simp only [ew, hx, eX, hh, hq] at hb | simp only [go_sem, simprocAttr, *, cSyn, cAreDeps, cCvr, cPut, cKeys, cMaxS, Tryz.results58, hx, eX, hh, hq])
      ·rw [hq, if_pos rfl] at eX
       clear cR
       (repeat' first | refine gA fun _ => ?_ | refine fkI ?_ ?_ <;> intro hb <;> try simp only [ew, bits64, hx, hh, hg, hq, eo] at hb | simp only [go_sem, simprocAttr, *, cSyn, cAreDeps, cCvr, cPut, cKeys, cMaxS, Tryz.results58, bits64, hx, hh, hg, hq, eo])
       refine lpN (k + 1) (by dsimp only; omega) (by dsimp only; omega) ?_
       (repeat' first | refine gA fun _ => ?_ | refine fkI ?_ ?_ <;> intro hb <;> try simp only [ew, hx, eX, hh, hq, eo] at hb | simp only [go_sem, simprocAttr, *, cSyn, cAreDeps, cCvr, cPut, cKeys, cMaxS, Tryz.results58, hx, eX, hh, hq, eo])
     ·have e6 : k = C.length := by omega
      subst e6
      have eT : C.take C.length = C := List.take_length
      clear cR
      (repeat' first | refine gA fun _ => ?_ | refine fkI ?_ ?_ <;> intro hb <;> try simp only [ew, eT] at hb | simp only [go_sem, simprocAttr, *, cSyn, cAreDeps, cCvr, cPut, cKeys, cMaxS, Tryz.results58, eT])
      refine lpN (i + 1) (by dsimp only; omega) (by dsimp only; omega) ?_
      (repeat' first | refine gA fun _ => ?_ | refine fkI ?_ ?_ <;> intro hb <;> try simp only [ew, hZ, eS, eT] at hb | simp only [go_sem, simprocAttr, *, cSyn, cAreDeps, cCvr, cPut, cKeys, cMaxS, Tryz.results58, hZ, eS, eT])
   ·have e5 : i = C.length := by omega
    subst e5
    have eP : C.take C.length = C := List.take_length
    rw [eP] at s2 s3
    have sl := @synL_length C C
    have sR : ∀ x ∈ synL C C, R5 x := synL_R cR cR
    generalize hY : synL C C = Y at s2 s3 sl sR
    have y100 : (synA K Y).length ≤ 100 := by
     unfold synA
     rw [List.length_append]
     split <;> simp <;> omega
    have hsel : selS maxT1 (dstI (synA K Y)) = selS maxT1 (synA K Y) := selS_dst y100
    have zR : ∀ x ∈ dstI Y, R5 x := fun x hx => sR x (dstI_mem.1 hx)
    have hany := @any_dst Y (anyIn K)
    have hput := @dstI_snoc Y (K.getD 0 0)
    clear cR hSL sR y100
    rw [← hsel]
    have hA : dstI (synA K Y) = if (dstI Y).any (anyIn K) then dstI Y else putS (dstI Y) (K.getD 0 0) := by
     unfold synA
     rw [hany]
     split
     ·rw [List.append_nil]
     ·rw [hput]
    rw [hA]
    clear hA hsel hany hput
    generalize hZ : dstI Y = Z at s2 s3 zR
    (repeat' first | refine gA fun _ => ?_ | refine fkI ?_ ?_ <;> intro hb <;> try simp only [ew, eP, hY, hZ, hK] at hb | simp only [go_sem, simprocAttr, *, cSyn, cAreDeps, cCvr, cPut, cKeys, cMaxS, Tryz.results58, eP, hY, hZ, hK])
    refine lpI { ι := Nat, rs := [(13, 14), (65, 94)], mods := [(12, fun k => .one (.d (.v (.int .i64 k)))), (11, fun k => .one (.d (.v (.bool ((Z.take k).any (anyIn K))))))], boxes := [], arrs := [(5, fun _ => (1, iL Z, 1)), (10, fun _ => (1, iL K, 1))], ok := fun k => k ≤ Z.length, mu := fun k => Z.length - k } rfl 0 (Nat.zero_le _) ?_ fun k hk => ?_
    ·clear k2 zR
     (repeat' first | refine gA fun _ => ?_ | refine fkI ?_ ?_ <;> intro hb <;> try simp only [ew, eP, hY, hZ, hK] at hb | simp only [go_sem, simprocAttr, *, cSyn, cAreDeps, cCvr, cPut, cKeys, cMaxS, Tryz.results58, eP, hY, hZ, hK])
     all_goals first | rfl | skip
    ·dsimp only at k hk
     by_cases h6 : k < Z.length
     ·have eA := any_succ h6 0 (anyIn K)
      have zr := zR _ (getD_mem h6 0)
      clear zR
      generalize hf : (Z.take k).any (anyIn K) = b0 at eA
      generalize hg : Z.getD k 0 = z at eA zr
      have e0 : (b0 || (K.take 0).any fun y => insB y z) = b0 := by simp
      have eE : (b0 || (K.take K.length).any fun y => insB y z) = (b0 || anyIn K z) := by rw [List.take_length]; rfl
      have hkr := fun j h => k2 _ (getD_mem (l := K) (i := j) h 0)
      clear k2
      (repeat' first | refine gA fun _ => ?_ | refine fkI ?_ ?_ <;> intro hb <;> try simp only [ew, hf, hg] at hb | simp only [go_sem, simprocAttr, *, cSyn, cAreDeps, cCvr, cPut, cKeys, cMaxS, Tryz.results58, hf, hg])
      refine lpI { ι := Nat, rs := [(71, 94)], mods := [(13, fun j => .one (.d (.v (.int .i64 j)))), (11, fun j => .one (.d (.v (.bool (b0 || (K.take j).any fun y => insB y z)))))], boxes := [], arrs := [(5, fun _ => (1, iL Z, 1)), (10, fun _ => (1, iL K, 1))], ok := fun j => j ≤ K.length, mu := fun j => K.length - j } rfl 0 (Nat.zero_le _) ?_ fun j hj => ?_
      ·clear hkr
       (repeat' first | refine gA fun _ => ?_ | refine fkI ?_ ?_ <;> intro hb <;> try simp only [ew, hf, hg, e0] at hb | simp only [go_sem, simprocAttr, *, cSyn, cAreDeps, cCvr, cPut, cKeys, cMaxS, Tryz.results58, hf, hg, e0])
       all_goals first | rfl | skip
      ·dsimp only at j hj
       by_cases h7 : j < K.length
       ·have eB := any_succ h7 0 fun y => insB y z
        have ei := and_ins (hkr j h7) zr
        clear hkr
        generalize hq : ((K.take j).any fun y => insB y z) = b1 at eB
        generalize hw : K.getD j 0 = w at eB ei
        generalize hi3 : insB w z = b2 at eB ei
        generalize hb3 : (b0 || b1) = b3
        have eC : (b0 || (K.take (j + 1)).any fun y => insB y z) = (b3 || b2) := by rw [eB, ← hb3, Bool.or_assoc]
        clear eB
        cases b3
        ·rw [Bool.false_or] at eC
         (repeat' first | refine gA fun _ => ?_ | refine fkI ?_ ?_ <;> intro hb <;> try simp only [ew, hq, hw, hg, ei, hb3] at hb | simp only [go_sem, simprocAttr, *, cSyn, cAreDeps, cCvr, cPut, cKeys, cMaxS, Tryz.results58, hq, hw, hg, ei, hb3])
         refine lpN (j + 1) (by dsimp only; omega) (by dsimp only; omega) ?_
         (repeat' first | refine gA fun _ => ?_ | refine fkI ?_ ?_ <;> intro hb <;> try simp only [ew, hq, hw, hg, ei, hb3, eC] at hb | simp only [go_sem, simprocAttr, *, cSyn, cAreDeps, cCvr, cPut, cKeys, cMaxS, Tryz.results58, hq, hw, hg, ei, hb3, eC])
        ·rw [Bool.true_or] at eC
         (repeat' first | refine gA fun _ => ?_ | refine fkI ?_ ?_ <;> intro hb <;> try simp only [ew, hq, hw, hg, ei, hb3] at hb | simp only [go_sem, simprocAttr, *, cSyn, cAreDeps, cCvr, cPut, cKeys, cMaxS, Tryz.results58, hq, hw, hg, ei, hb3])
         refine lpN (j + 1) (by dsimp only; omega) (by dsimp only; omega) ?_
         (repeat' first | refine gA fun _ => ?_ | refine fkI ?_ ?_ <;> intro hb <;> try simp only [ew, hq, hw, hg, ei, hb3, eC] at hb | simp only [go_sem, simprocAttr, *, cSyn, cAreDeps, cCvr, cPut, cKeys, cMaxS, Tryz.results58, hq, hw, hg, ei, hb3, eC])
       ·have e7 : j = K.length := by omega
        subst e7
        clear hkr
        (repeat' first | refine gA fun _ => ?_ | refine fkI ?_ ?_ <;> intro hb <;> try simp only [ew] at hb | simp only [go_sem, simprocAttr, *, cSyn, cAreDeps, cCvr, cPut, cKeys, cMaxS, Tryz.results58])
        refine lpN (k + 1) (by dsimp only; omega) (by dsimp only; omega) ?_
        (repeat' first | refine gA fun _ => ?_ | refine fkI ?_ ?_ <;> intro hb <;> try simp only [ew, eA, eE] at hb | simp only [go_sem, simprocAttr, *, cSyn, cAreDeps, cCvr, cPut, cKeys, cMaxS, Tryz.results58, eA, eE])
     ·have e6 : k = Z.length := by omega
      subst e6
      have eT : Z.take Z.length = Z := List.take_length
      clear zR k2
      cases hq : Z.any (anyIn K)
      ·rw [if_neg (by decide)]
       obtain ⟨k0, hk0⟩ : ∃ k0, K[0]'k3 = k0 := ⟨_, rfl⟩
       have hpl := @putS_length Z k0
       have hpm : (putS Z k0).length ≤ maxLen := Nat.le_trans hpl (Nat.le_trans (Nat.succ_le_succ s2) (by decide))
       (repeat' first | refine gA fun _ => ?_ | refine fkI ?_ ?_ <;> intro hb <;> try simp only [ew, eT, hq, hk0] at hb | simp only [go_sem, simprocAttr, *, cSyn, cAreDeps, cCvr, cPut, cKeys, cMaxS, Tryz.results58, eT, hq, hk0])
      ·rw [if_pos rfl]
       (repeat' first | refine gA fun _ => ?_ | refine fkI ?_ ?_ <;> intro hb <;> try simp only [ew, eT, hq] at hb | simp only [go_sem, simprocAttr, *, cSyn, cAreDeps, cCvr, cPut, cKeys, cMaxS, Tryz.results58, eT, hq])
theorem synF_len {n : Int} {ds : List (Int × Int)} : (synF n ds).length ≤ 100 := by
 unfold synF
 split
 ·exact selS_length
 ·simp
end Go.Own
