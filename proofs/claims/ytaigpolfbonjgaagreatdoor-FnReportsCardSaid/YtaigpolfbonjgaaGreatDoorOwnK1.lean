/-
  The draws: the cursor, its bytes, numbers below a bound. Conditions: as each theorem states them.
-/
import Derived.Test.YtaigpolfbonjgaaGreatDoorOwnY5
set_option linter.unusedSimpArgs false
set_option linter.unusedVariables false
set_option maxRecDepth 20000
set_option maxHeartbeats 2000000
namespace Go.Own
open Go Go.Proofs
abbrev Cu := Nat × Int
abbrev Dr (α : Type) := List Int → Cu → α × Cu
def WfB (l : List (List D)) : Prop := l = bL (unB l) ∧ l.length ≤ maxLen
theorem WfB.ex {l : List (List D)} (h : WfB l) : ∃ bs, l = bL bs ∧ bs.length ≤ maxLen := ⟨unB l, h.1, by have := h.2; rw [h.1, bL_length] at this; exact this⟩
theorem wfB_bL {bs : List Int} : WfB (bL bs) ↔ bs.length ≤ maxLen := by simp [WfB, unB_bL, bL_length]
def cuO (l : List (List D)) (s : Cu) : List Arg := [.box [.sl 1 l, .v (.int .i64 (s.1 : Nat)), .v (.int .i64 s.2)]]
def rI (n : Int) : List RV := [⟨false, [.d (.v (.int .i64 n))]⟩]
def rB (b : Bool) : List RV := [⟨false, [.d (.v (.bool b))]⟩]
def byH (h : Int) : Int := IntKind.wrap .i64 (IntKind.wrap .i64 (h * 6364136223846793005) + 1442695040888963407)
def byX (h : Int) : Int := bitI .and .i64 (bitI .xor .i64 ((byH h).fdiv (2 ^ 33)) ((byH h).fdiv (2 ^ 45))) 255
def byteM : Dr Int := fun bs s => if s.1 < bs.length then (bitI .and .i64 (IntKind.wrap .i64 (byX s.2 + IntKind.wrap .i64 (bs.getD s.1 0))) 255, (s.1 + 1, byH s.2)) else (byX s.2, (s.1, byH s.2))
theorem and255 (x : Int) : 0 ≤ bitI .and .i64 x 255 ∧ bitI .and .i64 x 255 ≤ 255 := by
 have h : (BitVec.ofInt 64 x &&& BitVec.ofInt 64 255).toNat ≤ 255 := by
  rw [BitVec.toNat_and]
  exact Nat.le_trans Nat.and_le_right (by decide)
 have e : bitI .and .i64 x 255 = IntKind.wrap .i64 ((BitVec.ofInt 64 x &&& BitVec.ofInt 64 255).toNat : Nat) := rfl
 rw [e, wrap_in]
 ·omega
 ·refine ⟨?_, ?_⟩
  ·show -9223372036854775808 ≤ _; omega
  ·show _ ≤ 9223372036854775807; omega
theorem byteM_range {bs : List Int} {s : Cu} : 0 ≤ (byteM bs s).1 ∧ (byteM bs s).1 ≤ 255 := by
 unfold byteM byX
 split <;> exact and255 _
def belowM (n : Int) : Dr Int := fun bs s => if n ≤ 0 then (0, s) else if n ≤ 256 then ((byteM bs s).1.tmod n, (byteM bs s).2) else
 let a := byteM bs s
 let b := byteM bs a.2
 let c := byteM bs b.2
 let d := byteM bs c.2
 ((a.1 * 16777216 + b.1 * 65536 + c.1 * 256 + d.1).tmod n, d.2)
theorem belowM_range {n : Int} {bs : List Int} {s : Cu} (h : 0 < n) : 0 ≤ (belowM n bs s).1 ∧ (belowM n bs s).1 < n := by
 unfold belowM
 rw [if_neg (by omega)]
 split
 ·have := @byteM_range bs s
  exact ⟨Int.tmod_nonneg _ this.1, Int.tmod_lt_of_pos _ h⟩
 ·have h1 := @byteM_range bs s
  have h2 := @byteM_range bs (byteM bs s).2
  have h3 := @byteM_range bs (byteM bs (byteM bs s).2).2
  have h4 := @byteM_range bs (byteM bs (byteM bs (byteM bs s).2).2).2
  exact ⟨Int.tmod_nonneg _ (by omega), Int.tmod_lt_of_pos _ h⟩
def onceM (n : Int) : Dr Bool := fun bs s => ((belowM n bs s).1 == 0, (belowM n bs s).2)
def pickM (xs : List Int) : Dr Int := fun bs s => (xs.getD (belowM xs.length bs s).1.toNat 0, (belowM xs.length bs s).2)
theorem pickM_mem {xs : List Int} {bs : List Int} {s : Cu} (h : xs ≠ []) : (pickM xs bs s).1 ∈ xs := by
 have hl : 0 < xs.length := List.length_pos_iff.2 h
 have := @belowM_range xs.length bs s (by omega)
 unfold pickM
 dsimp only
 rw [List.getD_eq_getElem?_getD, List.getElem?_eq_getElem (show (belowM xs.length bs s).1.toNat < xs.length by omega)]
 exact List.getElem_mem _
def cByte : Contract := ⟨[true], false, fun
 | [.box [.sl 1 l, .v (.int .i64 i), .v (.int .i64 h)]] => some (WfB l ∧ 0 ≤ i, rI (byteM (unB l) (i.toNat, h)).1, cuO l (byteM (unB l) (i.toNat, h)).2)
 | _ => none⟩
def cBelow : Contract := ⟨[true], false, fun
 | [.box [.sl 1 l, .v (.int .i64 i), .v (.int .i64 h)], .one (.v (.int .i64 n))] => some (WfB l ∧ 0 ≤ i, rI (belowM n (unB l) (i.toNat, h)).1, cuO l (belowM n (unB l) (i.toNat, h)).2)
 | _ => none⟩
def cOnce : Contract := ⟨[true], false, fun
 | [.box [.sl 1 l, .v (.int .i64 i), .v (.int .i64 h)], .one (.v (.int .i64 n))] => some (WfB l ∧ 0 ≤ i, rB (onceM n (unB l) (i.toNat, h)).1, cuO l (onceM n (unB l) (i.toNat, h)).2)
 | _ => none⟩
def cPickI : Contract := ⟨[true], false, fun
 | [.box [.sl 1 l, .v (.int .i64 i), .v (.int .i64 h)], .one (.sl 1 x)] => some (WfB l ∧ 0 ≤ i ∧ WfI x ∧ x ≠ [], rI (pickM (unI x) (unB l) (i.toNat, h)).1, cuO l (pickM (unI x) (unB l) (i.toNat, h)).2)
 | _ => none⟩
def hashS (h b : Int) : Int := bitI .and .i64 (h * 131 + b + 7) 1073741823
def hashN (bs : List Int) (n : Nat) : Int := (bs.take n).foldl hashS (10101 + bs.length)
def newH (bs : List Int) : Int := hashN bs 4000
theorem and_low64 (x : Int) : 0 ≤ bitI .and .i64 x 1073741823 ∧ bitI .and .i64 x 1073741823 ≤ 1073741823 := by
 have h : (BitVec.ofInt 64 x &&& BitVec.ofInt 64 1073741823).toNat ≤ 1073741823 := by
  rw [BitVec.toNat_and]
  exact Nat.le_trans Nat.and_le_right (by decide)
 have e : bitI .and .i64 x 1073741823 = IntKind.wrap .i64 ((BitVec.ofInt 64 x &&& BitVec.ofInt 64 1073741823).toNat : Nat) := rfl
 rw [e, wrap_in]
 ·omega
 ·refine ⟨?_, ?_⟩
  ·show -9223372036854775808 ≤ _; omega
  ·show _ ≤ 9223372036854775807; omega
theorem hashN_range {bs : List Int} (h : bs.length ≤ 1048576) : ∀ {n : Nat}, 0 ≤ hashN bs n ∧ hashN bs n ≤ 1073741823
 | 0 => by unfold hashN; simp; omega
 | n + 1 => by
  have ih := @hashN_range bs h n
  by_cases hn : n < bs.length
  ·unfold hashN
   rw [take_succ_getD hn 0, List.foldl_append]
   exact and_low64 _
  ·unfold hashN at ih ⊢
   rw [List.take_of_length_le (by omega)]
   rwa [List.take_of_length_le (by omega)] at ih
theorem hashN_succ {bs : List Int} {n : Nat} (hn : n < bs.length) : hashN bs (n + 1) = hashS (hashN bs n) (bs.getD n 0) := by
 unfold hashN
 rw [take_succ_getD hn 0, List.foldl_append]; rfl
def newS (bs : List Int) : Cu := (0, newH bs)
def cNewC : Contract := ⟨[], true, fun
 | [.one (.sl 1 l)] => some (WfB l ∧ l.length ≤ 1048576 ∧ ∀ b ∈ unB l, 0 ≤ b ∧ b ≤ 255, [⟨false, [.box [.sl 1 l, .v (.int .i64 0), .v (.int .i64 (newH (unB l)))]]⟩], [])
 | _ => none⟩
attribute [local go_sem] unB_bL bL_length wfB_bL
theorem bL_getE {bs : List Int} {i : Nat} (h : i < bs.length) (d : List D) : (bL bs).getD i d = [D.v (.int .u8 (bs.getD i 0))] := by
 simp [bL, List.getD_eq_getElem?_getD, h]
theorem wrap_u8 {n : Int} (h : 0 ≤ n ∧ n ≤ 255) : IntKind.wrap .i64 n = n := wrap_in ⟨by show -9223372036854775808 ≤ n; omega, by show n ≤ 9223372036854775807; omega⟩
theorem newC_ok : ContractOK E0 23 cNewC := by
 refine cWpc (E := E0) (T := mkT Tryz.prog [] false (fun _ => false) true (fun _ => false)) (mkT_ok (E := E0) .nil) (fn := Tryz.f23) Tryz.func23 (by kernel_rfl) rfl mixedT (by kernel_rfl) rfl ?_
 intro args p rs ms hr
 unfold cNewC at hr
 dsimp only at hr
 split at hr
 rotate_left
 ·cases hr
 rename_i l
 simp only [Option.some.injEq, Prod.mk.injEq] at hr
 obtain ⟨rfl, rfl, rfl⟩ := hr
 refine ⟨rfl, rfl, Nat.le_of_ble_eq_true rfl, ?_⟩
 have hm : maxLen = 9223372036854775807 := rfl
 rintro ⟨h1, h2, h3⟩ bs0
 obtain ⟨bs, rfl, hx⟩ := h1.ex
 clear h1
 rw [bL_length] at h2
 rw [unB_bL] at h3 ⊢
 have hh := fun n => @hashN_range bs h2 n
 (repeat' first | refine gA fun _ => ?_ | refine fkI ?_ ?_ <;> intro hb <;> try simp only [ew, bits64] at hb | simp only [go_sem, simprocAttr, *, cNewC, Tryz.results23, bits64])
 refine lpI { ι := Nat, rs := [(8, 28)], mods := [(4, fun i => .one (.d (.v (.int .i64 i)))), (3, fun i => .one (.d (.v (.int .i64 (hashN bs i)))))], boxes := [], arrs := [], ok := fun i => i ≤ bs.length ∧ i ≤ 4000, mu := fun i => bs.length - i } rfl 0 ⟨Nat.zero_le _, Nat.zero_le _⟩ ?_ fun i hi => ?_
 ·have e0 : hashN bs 0 = 10101 + bs.length := rfl
  (repeat' first | refine gA fun _ => ?_ | refine fkI ?_ ?_ <;> intro hb <;> try simp only [ew, e0] at hb | simp only [go_sem, simprocAttr, *, cNewC, Tryz.results23, e0])
  all_goals first | rfl | skip
 ·dsimp only at i hi
  obtain ⟨hi1, hi2⟩ := hi
  have hhi := hh i
  by_cases h5 : i < bs.length
  ·by_cases h6 : i < 4000
   ·have hb := h3 (bs.getD i 0) (by simp [List.getD_eq_getElem?_getD, h5])
    have hw := wrap_u8 hb
    have hg := bL_getE h5
    have eS : bitI .and .i64 (hashN bs i * 131 + bs.getD i 0 + 7) 1073741823 = hashN bs (i + 1) := (hashN_succ h5).symm
    clear h3 hh
    have h6' : ((i : Nat) : Int) < 4000 := by omega
    generalize hH : hashN bs i = H at hhi eS
    generalize hB : bs.getD i 0 = b at hb hw hg eS
    (repeat' first | refine gA fun _ => ?_ | refine fkI ?_ ?_ <;> intro hb <;> try simp only [ew, hH, hg, hw] at hb | simp only [go_sem, simprocAttr, *, cNewC, Tryz.results23, hH, hg, hw])
    refine lpN (i + 1) ⟨by omega, by omega⟩ (by dsimp only; omega) ?_
    (repeat' first | refine gA fun _ => ?_ | refine fkI ?_ ?_ <;> intro hb <;> try simp only [ew, eS] at hb | simp only [go_sem, simprocAttr, *, cNewC, Tryz.results23, eS])
   ·have e6 : i = 4000 := by omega
    subst e6
    have e7 : newH bs = hashN bs 4000 := rfl
    clear h3 hh
    (repeat' first | refine gA fun _ => ?_ | refine fkI ?_ ?_ <;> intro hb <;> try simp only [ew, e7] at hb | simp only [go_sem, simprocAttr, *, cNewC, Tryz.results23, e7])
    all_goals first | rfl | skip
  ·have e5 : i = bs.length := by omega
   have e7 : newH bs = hashN bs bs.length := by
    unfold newH hashN
    rw [List.take_of_length_le (by omega), List.take_of_length_le (Nat.le_refl _)]
   subst e5
   clear h3 hh
   (repeat' first | refine gA fun _ => ?_ | refine fkI ?_ ?_ <;> intro hb <;> try simp only [ew, e7] at hb | simp only [go_sem, simprocAttr, *, cNewC, Tryz.results23, e7])
   all_goals first | rfl | skip
theorem byte_ok : ContractOK E0 113 cByte := by
  refine contract_of_wpcB (E := E0) (T := mkT Tryz.prog [] true (fun _ => false) false (fun _ => false)) (mkT_ok (E := E0) .nil) rfl (fn := Tryz.f113) Tryz.func113 (by kernel_rfl) rfl mixedT (by kernel_rfl) rfl rfl (Nat.le_of_ble_eq_true rfl) ?_
  intro args p rs ms hr
  unfold cByte at hr
  dsimp only at hr
  split at hr
  rotate_left
  · cases hr
  rename_i l i h
  simp only [Option.some.injEq, Prod.mk.injEq] at hr
  obtain ⟨rfl, rfl, rfl⟩ := hr
  refine ⟨_, _, _, rfl, rfl, rfl, rfl, Nat.le_of_ble_eq_true rfl, ?_⟩
  have hm : maxLen = 9223372036854775807 := rfl
  rintro ⟨h1, h2⟩ bs0
  obtain ⟨bs, rfl, hx⟩ := h1.ex
  clear h1
  rw [unB_bL]
  obtain ⟨i, rfl⟩ := Int.eq_ofNat_of_zero_le h2
  by_cases h5 : i < bs.length
  · have e : byteM bs (((i : Nat) : Int).toNat, h) = (bitI .and .i64 (IntKind.wrap .i64 (byX h + IntKind.wrap .i64 (bs.getD i 0))) 255, (i + 1, byH h)) := by unfold byteM; rw [Int.toNat_natCast, if_pos h5]
    have hg := bL_getE h5
    have hH : IntKind.wrap .i64 (IntKind.wrap .i64 (h * 6364136223846793005) + 1442695040888963407) = byH h := rfl
    have hX : bitI .and .i64 (bitI .xor .i64 ((byH h).fdiv (2 ^ 33)) ((byH h).fdiv (2 ^ 45))) 255 = byX h := rfl
    have hi1 : IntKind.wrap .i64 (((i : Nat) : Int) + 1) = ((i + 1 : Nat) : Int) := by rw [wrap_in]; · rfl
                                                                                       · exact ⟨by show -9223372036854775808 ≤ _; omega, by show _ ≤ 9223372036854775807; unfold maxLen at hx; omega⟩
    rw [e]
    clear e
    (repeat' first | refine gA fun _ => ?_ | refine fkI ?_ ?_ <;> intro hb <;> try simp only [ew, bits64, hH, hX, hg, hi1, cuO, rI] at hb | simp only [go_sem, simprocAttr, *, cByte, Tryz.results113, bits64, hH, hX, hg, hi1, cuO, rI])
    all_goals first | rfl | skip
  · have e : byteM bs (((i : Nat) : Int).toNat, h) = (byX h, (i, byH h)) := by unfold byteM; rw [Int.toNat_natCast, if_neg h5]
    have hH : IntKind.wrap .i64 (IntKind.wrap .i64 (h * 6364136223846793005) + 1442695040888963407) = byH h := rfl
    have hX : bitI .and .i64 (bitI .xor .i64 ((byH h).fdiv (2 ^ 33)) ((byH h).fdiv (2 ^ 45))) 255 = byX h := rfl
    rw [e]
    clear e
    (repeat' first | refine gA fun _ => ?_ | refine fkI ?_ ?_ <;> intro hb <;> try simp only [ew, bits64, hH, hX, cuO, rI] at hb | simp only [go_sem, simprocAttr, *, cByte, Tryz.results113, bits64, hH, hX, cuO, rI])
    all_goals first | rfl | skip
attribute [local go_sem] cuO rI rB
theorem iL_getE {xs : List Int} {i : Nat} (h : i < xs.length) (d : List D) : (iL xs).getD i d = [D.v (.int .i64 (xs.getD i 0))] := by
 simp [iL, List.getD_eq_getElem?_getD, h]
theorem below_ok : ContractOK E0 60 cBelow := by
 refine contract_of_wpcB (E := E0) (T := mkT Tryz.prog [(113, cByte)] false (fun _ => false) false (fun _ => false)) (mkT_ok (E := E0) (.cons byte_ok .nil)) rfl (fn := Tryz.f60) Tryz.func60 (by kernel_rfl) rfl mixedT (by kernel_rfl) rfl rfl (Nat.le_of_ble_eq_true rfl) ?_
 intro args p rs ms hr
 unfold cBelow at hr
 dsimp only at hr
 split at hr
 rotate_left
 ·cases hr
 rename_i l i h n
 simp only [Option.some.injEq, Prod.mk.injEq] at hr
 obtain ⟨rfl, rfl, rfl⟩ := hr
 refine ⟨_, _, _, rfl, rfl, rfl, rfl, Nat.le_of_ble_eq_true rfl, ?_⟩
 have hm : maxLen = 9223372036854775807 := rfl
 rintro ⟨h1, h2⟩ bs0
 obtain ⟨bs, rfl, hx⟩ := h1.ex
 clear h1
 rw [unB_bL]
 obtain ⟨i, rfl⟩ := Int.eq_ofNat_of_zero_le h2
 rw [Int.toNat_natCast]
 by_cases h5 : n ≤ 0
 ·have e : belowM n bs (i, h) = (0, (i, h)) := by unfold belowM; rw [if_pos h5]
  rw [e]
  clear e
  (repeat' first | refine gA fun _ => ?_ | refine fkI ?_ ?_ <;> intro hb <;> try simp only [ew] at hb | simp only [go_sem, simprocAttr, *, cBelow, cByte, Tryz.results60])
  all_goals first | rfl | skip
 ·by_cases h6 : n ≤ 256
  ·have e : belowM n bs (i, h) = ((byteM bs (i, h)).1.tmod n, (byteM bs (i, h)).2) := by unfold belowM; rw [if_neg h5, if_pos h6]
   rw [e]
   clear e
   generalize hA : byteM bs (i, h) = A
   (repeat' first | refine gA fun _ => ?_ | refine fkI ?_ ?_ <;> intro hb <;> try simp only [ew, hA] at hb | simp only [go_sem, simprocAttr, *, cBelow, cByte, Tryz.results60, hA])
   all_goals first | rfl | skip
  ·have e : belowM n bs (i, h) = (((byteM bs (i, h)).1 * 16777216 + (byteM bs (byteM bs (i, h)).2).1 * 65536 + (byteM bs (byteM bs (byteM bs (i, h)).2).2).1 * 256 + (byteM bs (byteM bs (byteM bs (byteM bs (i, h)).2).2).2).1).tmod n, (byteM bs (byteM bs (byteM bs (byteM bs (i, h)).2).2).2).2) := by unfold belowM; rw [if_neg h5, if_neg h6]
   rw [e]
   clear e
   have r1 := @byteM_range bs (i, h)
   generalize hA : byteM bs (i, h) = A at r1 ⊢
   have r2 := @byteM_range bs A.2
   generalize hB : byteM bs A.2 = B at r2 ⊢
   have r3 := @byteM_range bs B.2
   generalize hC : byteM bs B.2 = C at r3 ⊢
   have r4 := @byteM_range bs C.2
   generalize hD : byteM bs C.2 = D1 at r4 ⊢
   (repeat' first | refine gA fun _ => ?_ | refine fkI ?_ ?_ <;> intro hb <;> try simp only [ew, hA, hB, hC, hD] at hb | simp only [go_sem, simprocAttr, *, cBelow, cByte, Tryz.results60, hA, hB, hC, hD])
   all_goals first | rfl | skip
theorem once_ok : ContractOK E0 25 cOnce := by
 refine contract_of_wpcB (E := E0) (T := mkT Tryz.prog [(60, cBelow)] false (fun _ => false) false (fun _ => false)) (mkT_ok (E := E0) (.cons below_ok .nil)) rfl (fn := Tryz.f25) Tryz.func25 (by kernel_rfl) rfl mixedT (by kernel_rfl) rfl rfl (Nat.le_of_ble_eq_true rfl) ?_
 intro args p rs ms hr
 unfold cOnce at hr
 dsimp only at hr
 split at hr
 rotate_left
 ·cases hr
 rename_i l i h n
 simp only [Option.some.injEq, Prod.mk.injEq] at hr
 obtain ⟨rfl, rfl, rfl⟩ := hr
 refine ⟨_, _, _, rfl, rfl, rfl, rfl, Nat.le_of_ble_eq_true rfl, ?_⟩
 have hm : maxLen = 9223372036854775807 := rfl
 rintro ⟨h1, h2⟩ bs0
 obtain ⟨bs, rfl, hx⟩ := h1.ex
 clear h1
 rw [unB_bL]
 obtain ⟨i, rfl⟩ := Int.eq_ofNat_of_zero_le h2
 rw [Int.toNat_natCast]
 have e : onceM n bs (i, h) = ((belowM n bs (i, h)).1 == 0, (belowM n bs (i, h)).2) := rfl
 rw [e]
 clear e
 generalize hA : belowM n bs (i, h) = A
 (repeat' first | refine gA fun _ => ?_ | refine fkI ?_ ?_ <;> intro hb <;> try simp only [ew, hA] at hb | simp only [go_sem, simprocAttr, *, cOnce, cBelow, Tryz.results25, hA])
 all_goals first | rfl | skip
theorem pickI_ok : ContractOK E0 64 cPickI := by
 refine contract_of_wpcB (E := E0) (T := mkT Tryz.prog [(60, cBelow)] false (fun _ => false) false (fun _ => false)) (mkT_ok (E := E0) (.cons below_ok .nil)) rfl (fn := Tryz.f64) Tryz.func64 (by kernel_rfl) rfl mixedT (by kernel_rfl) rfl rfl (Nat.le_of_ble_eq_true rfl) ?_
 intro args p rs ms hr
 unfold cPickI at hr
 dsimp only at hr
 split at hr
 rotate_left
 ·cases hr
 rename_i l i h x
 simp only [Option.some.injEq, Prod.mk.injEq] at hr
 obtain ⟨rfl, rfl, rfl⟩ := hr
 refine ⟨_, _, _, rfl, rfl, rfl, rfl, Nat.le_of_ble_eq_true rfl, ?_⟩
 have hm : maxLen = 9223372036854775807 := rfl
 rintro ⟨h1, h2, h3, h4⟩ bs0
 obtain ⟨bs, rfl, hx⟩ := h1.ex
 obtain ⟨xs, rfl, hxs⟩ := h3.ex
 clear h1 h3
 rw [unB_bL, unI_iL]
 obtain ⟨i, rfl⟩ := Int.eq_ofNat_of_zero_le h2
 rw [Int.toNat_natCast]
 have e : pickM xs bs (i, h) = (xs.getD (belowM xs.length bs (i, h)).1.toNat 0, (belowM xs.length bs (i, h)).2) := rfl
 rw [e]
 clear e
 have hl : 0 < xs.length := by
  cases xs with
  | nil => exact absurd rfl h4
  | cons => simp
 have r1 := @belowM_range xs.length bs (i, h) (by omega)
 generalize hA : belowM xs.length bs (i, h) = A at r1 ⊢
 have hg := iL_getE (xs := xs) (i := A.1.toNat) (by omega)
 clear h4
 (repeat' first | refine gA fun _ => ?_ | refine fkI ?_ ?_ <;> intro hb <;> try simp only [ew, hA, hg] at hb | simp only [go_sem, simprocAttr, *, cPickI, cBelow, Tryz.results64, hA, hg])
 all_goals first | rfl | skip
def cuP (bs : List Int) (s : Cu) : List PC := [.n (.sl 1 (bL bs)), .d (.v (.int .i64 (s.1 : Nat))), .d (.v (.int .i64 s.2))]
theorem iL_sn {xs : List Int} {n : Int} : iL xs ++ [[D.v (.int .i64 n)]] = iL (xs ++ [n]) := by simp [iL]
end Go.Own
