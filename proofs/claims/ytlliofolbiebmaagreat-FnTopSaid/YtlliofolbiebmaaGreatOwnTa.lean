/-
  The draws: the cursor, its bytes, numbers below a bound. Conditions: as each theorem states them.
-/
import Derived.Test.YtlliofolbiebmaaGreatOwnY5
import Derived.Test.YtlliofolbiebmaaGreatOwnTt
import Derived.Test.YtlliofolbiebmaaGreatOwnY3
set_option linter.unusedSimpArgs false
set_option linter.unusedVariables false
set_option maxRecDepth 20000
set_option maxHeartbeats 4000000
namespace Go.Own
open Go Go.Proofs
abbrev Cu := Nat × Int
abbrev Dr (α : Type) := List Int → Cu → α × Cu
def WfB (l : List (List D)) : Prop := l = bL (unB l) ∧ l.length ≤ maxLen
theorem WfB.ex {l : List (List D)} (h : WfB l) : ∃ bs, l = bL bs ∧ bs.length ≤ maxLen := ⟨unB l, h.1, by have := h.2; rw [h.1, bL_length] at this; exact this⟩
theorem wfB_bL {bs : List Int} : WfB (bL bs) ↔ bs.length ≤ maxLen := by simp [WfB, unB_bL, bL_length]
def cuO (l : List (List D)) (s : Cu) : List Arg := [.box [.sl 1 l, .v (.int .i64 (s.1 : Nat)), .v (.int .i64 s.2)]]
def rI (n : Int) : List RV := [⟨false, [.d (.v (.int .i64 n))]⟩]
def rB (b : Bool) : List RV := [⟨false, [.d (.v (.bool b))]⟩]
def byH (h : Int) : Int := IntKind.wrap .i64 (IntKind.wrap .i64 (h * 6364136223846793005) + 1442695040888963407)
def byX (h : Int) : Int := bitI .and .i64 (bitI .xor .i64 ((byH h).fdiv (2 ^ 33)) ((byH h).fdiv (2 ^ 45))) 255
def byteM : Dr Int := fun bs s => if s.1 < bs.length then (bitI .and .i64 (IntKind.wrap .i64 (byX s.2 + IntKind.wrap .i64 (bs.getD s.1 0))) 255, (s.1 + 1, byH s.2)) else (byX s.2, (s.1, byH s.2))
theorem and255 (x : Int) : 0 ≤ bitI .and .i64 x 255 ∧ bitI .and .i64 x 255 ≤ 255 := by
 have h : (BitVec.ofInt 64 x &&& BitVec.ofInt 64 255).toNat ≤ 255 := by
  rw [BitVec.toNat_and]
  exact Nat.le_trans Nat.and_le_right (by decide)
 have e : bitI .and .i64 x 255 = IntKind.wrap .i64 ((BitVec.ofInt 64 x &&& BitVec.ofInt 64 255).toNat : Nat) := rfl
 rw [e, wrap_in]
 ·omega
 ·refine ⟨?_, ?_⟩
  ·show -9223372036854775808 ≤ _; omega
  ·show _ ≤ 9223372036854775807; omega
theorem byteM_range {bs : List Int} {s : Cu} : 0 ≤ (byteM bs s).1 ∧ (byteM bs s).1 ≤ 255 := by
 unfold byteM byX
 split <;> exact and255 _
def belowM (n : Int) : Dr Int := fun bs s => if n ≤ 0 then (0, s) else if n ≤ 256 then ((byteM bs s).1.tmod n, (byteM bs s).2) else
 let a := byteM bs s
 let b := byteM bs a.2
 let c := byteM bs b.2
 let d := byteM bs c.2
 ((a.1 * 16777216 + b.1 * 65536 + c.1 * 256 + d.1).tmod n, d.2)
theorem belowM_range {n : Int} {bs : List Int} {s : Cu} (h : 0 < n) : 0 ≤ (belowM n bs s).1 ∧ (belowM n bs s).1 < n := by
 unfold belowM
 rw [if_neg (by omega)]
 split
 ·have := @byteM_range bs s
  exact ⟨Int.tmod_nonneg _ this.1, Int.tmod_lt_of_pos _ h⟩
 ·have h1 := @byteM_range bs s
  have h2 := @byteM_range bs (byteM bs s).2
  have h3 := @byteM_range bs (byteM bs (byteM bs s).2).2
  have h4 := @byteM_range bs (byteM bs (byteM bs (byteM bs s).2).2).2
  exact ⟨Int.tmod_nonneg _ (by omega), Int.tmod_lt_of_pos _ h⟩
def onceM (n : Int) : Dr Bool := fun bs s => ((belowM n bs s).1 == 0, (belowM n bs s).2)
def pickM (xs : List Int) : Dr Int := fun bs s => (xs.getD (belowM xs.length bs s).1.toNat 0, (belowM xs.length bs s).2)
theorem pickM_mem {xs : List Int} {bs : List Int} {s : Cu} (h : xs ≠ []) : (pickM xs bs s).1 ∈ xs := by
 have hl : 0 < xs.length := List.length_pos_iff.2 h
 have := @belowM_range xs.length bs s (by omega)
 unfold pickM
 dsimp only
 rw [List.getD_eq_getElem?_getD, List.getElem?_eq_getElem (show (belowM xs.length bs s).1.toNat < xs.length by omega)]
 exact List.getElem_mem _
def cByte : Contract := ⟨[true], false, fun
 | [.box [.sl 1 l, .v (.int .i64 i), .v (.int .i64 h)]] => some (WfB l ∧ 0 ≤ i, rI (byteM (unB l) (i.toNat, h)).1, cuO l (byteM (unB l) (i.toNat, h)).2)
 | _ => none⟩
def cBelow : Contract := ⟨[true], false, fun
 | [.box [.sl 1 l, .v (.int .i64 i), .v (.int .i64 h)], .one (.v (.int .i64 n))] => some (WfB l ∧ 0 ≤ i, rI (belowM n (unB l) (i.toNat, h)).1, cuO l (belowM n (unB l) (i.toNat, h)).2)
 | _ => none⟩
def cOnce : Contract := ⟨[true], false, fun
 | [.box [.sl 1 l, .v (.int .i64 i), .v (.int .i64 h)], .one (.v (.int .i64 n))] => some (WfB l ∧ 0 ≤ i, rB (onceM n (unB l) (i.toNat, h)).1, cuO l (onceM n (unB l) (i.toNat, h)).2)
 | _ => none⟩
def cPickI : Contract := ⟨[true], false, fun
 | [.box [.sl 1 l, .v (.int .i64 i), .v (.int .i64 h)], .one (.sl 1 x)] => some (WfB l ∧ 0 ≤ i ∧ WfI x ∧ x ≠ [], rI (pickM (unI x) (unB l) (i.toNat, h)).1, cuO l (pickM (unI x) (unB l) (i.toNat, h)).2)
 | _ => none⟩
def hashS (h b : Int) : Int := bitI .and .i64 (h * 131 + b + 7) 1073741823
def hashN (bs : List Int) (n : Nat) : Int := (bs.take n).foldl hashS (10101 + bs.length)
def newH (bs : List Int) : Int := hashN bs 4000
theorem and_low64 (x : Int) : 0 ≤ bitI .and .i64 x 1073741823 ∧ bitI .and .i64 x 1073741823 ≤ 1073741823 := by
 have h : (BitVec.ofInt 64 x &&& BitVec.ofInt 64 1073741823).toNat ≤ 1073741823 := by
  rw [BitVec.toNat_and]
  exact Nat.le_trans Nat.and_le_right (by decide)
 have e : bitI .and .i64 x 1073741823 = IntKind.wrap .i64 ((BitVec.ofInt 64 x &&& BitVec.ofInt 64 1073741823).toNat : Nat) := rfl
 rw [e, wrap_in]
 ·omega
 ·refine ⟨?_, ?_⟩
  ·show -9223372036854775808 ≤ _; omega
  ·show _ ≤ 9223372036854775807; omega
theorem hashN_range {bs : List Int} (h : bs.length ≤ 1048576) : ∀ {n : Nat}, 0 ≤ hashN bs n ∧ hashN bs n ≤ 1073741823
 | 0 => by unfold hashN; simp; omega
 | n + 1 => by
  have ih := @hashN_range bs h n
  by_cases hn : n < bs.length
  ·unfold hashN
   rw [take_succ_getD hn 0, List.foldl_append]
   exact and_low64 _
  ·unfold hashN at ih ⊢
   rw [List.take_of_length_le (by omega)]
   rwa [List.take_of_length_le (by omega)] at ih
theorem hashN_succ {bs : List Int} {n : Nat} (hn : n < bs.length) : hashN bs (n + 1) = hashS (hashN bs n) (bs.getD n 0) := by
 unfold hashN
 rw [take_succ_getD hn 0, List.foldl_append]; rfl
def newS (bs : List Int) : Cu := (0, newH bs)
def cNewC : Contract := ⟨[], true, fun
 | [.one (.sl 1 l)] => some (WfB l ∧ l.length ≤ 1048576 ∧ ∀ b ∈ unB l, 0 ≤ b ∧ b ≤ 255, [⟨false, [.box [.sl 1 l, .v (.int .i64 0), .v (.int .i64 (newH (unB l)))]]⟩], [])
 | _ => none⟩
attribute [local go_sem] unB_bL bL_length wfB_bL
theorem bL_getE {bs : List Int} {i : Nat} (h : i < bs.length) (d : List D) : (bL bs).getD i d = [D.v (.int .u8 (bs.getD i 0))] := by
 simp [bL, List.getD_eq_getElem?_getD, h]
theorem wrap_u8 {n : Int} (h : 0 ≤ n ∧ n ≤ 255) : IntKind.wrap .i64 n = n := wrap_in ⟨by show -9223372036854775808 ≤ n; omega, by show n ≤ 9223372036854775807; omega⟩
theorem newC_ok : ContractOK E0 26 cNewC := by
 refine contract_of_wpc (E := E0) (T := mkT Tryz.prog [] false (fun _ => false) true (fun _ => false)) (mkT_ok (E := E0) .nil) (fn := Tryz.f26) Tryz.func26 (by kernel_rfl) rfl mixedT (by kernel_rfl) rfl ?_
 intro args p rs ms hr
 unfold cNewC at hr
 dsimp only at hr
 split at hr
 rotate_left
 ·cases hr
 rename_i l
 simp only [Option.some.injEq, Prod.mk.injEq] at hr
 obtain ⟨rfl, rfl, rfl⟩ := hr
 refine ⟨rfl, rfl, Nat.le_of_ble_eq_true rfl, ?_⟩
 have hm : maxLen = 9223372036854775807 := rfl
 rintro ⟨h1, h2, h3⟩ bs0
 obtain ⟨bs, rfl, hx⟩ := h1.ex
 clear h1
 rw [bL_length] at h2
 rw [unB_bL] at h3 ⊢
 have hh := fun n => @hashN_range bs h2 n
 (repeat' (first | (refine gate_a fun _ => ?_) | (refine fork_intro (fun hb => ?_) (fun hb => ?_) <;> (try simp only [ew, bits64] at hb)) | (simp only [go_sem, Nat.reduceLeDiff, Nat.reduceEqDiff, reduceIte, reduceCtorEq, Nat.reduceAdd, Nat.reduceMul, Nat.reduceSub, Nat.reduceLT, Int.reduceLT, Int.reduceLE, Int.reduceNeg, Int.reduceToNat, Nat.reduceBEq, Nat.reduceBNe, Int.reduceGE, Int.reduceGT, *, cNewC, Tryz.results26, bits64])))
 refine loop_intro { ι := Nat, rs := [(8, 28)], mods := [(4, fun i => .one (.d (.v (.int .i64 i)))), (3, fun i => .one (.d (.v (.int .i64 (hashN bs i)))))], boxes := [], arrs := [], ok := fun i => i ≤ bs.length ∧ i ≤ 4000, mu := fun i => bs.length - i } rfl 0 ⟨Nat.zero_le _, Nat.zero_le _⟩ ?_ fun i hi => ?_
 ·have e0 : hashN bs 0 = 10101 + bs.length := rfl
  (repeat' (first | (refine gate_a fun _ => ?_) | (refine fork_intro (fun hb => ?_) (fun hb => ?_) <;> (try simp only [ew, e0] at hb)) | (simp only [go_sem, Nat.reduceLeDiff, Nat.reduceEqDiff, reduceIte, reduceCtorEq, Nat.reduceAdd, Nat.reduceMul, Nat.reduceSub, Nat.reduceLT, Int.reduceLT, Int.reduceLE, Int.reduceNeg, Int.reduceToNat, Nat.reduceBEq, Nat.reduceBNe, Int.reduceGE, Int.reduceGT, *, cNewC, Tryz.results26, e0])))
  all_goals first | rfl | skip
 ·dsimp only at i hi
  obtain ⟨hi1, hi2⟩ := hi
  have hhi := hh i
  by_cases h5 : i < bs.length
  ·by_cases h6 : i < 4000
   ·have hb := h3 (bs.getD i 0) (by simp [List.getD_eq_getElem?_getD, h5])
    have hw := wrap_u8 hb
    have hg := bL_getE h5
    have eS : bitI .and .i64 (hashN bs i * 131 + bs.getD i 0 + 7) 1073741823 = hashN bs (i + 1) := (hashN_succ h5).symm
    clear h3 hh
    have h6' : ((i : Nat) : Int) < 4000 := by omega
    generalize hH : hashN bs i = H at hhi eS
    generalize hB : bs.getD i 0 = b at hb hw hg eS
    (repeat' (first | (refine gate_a fun _ => ?_) | (refine fork_intro (fun hb => ?_) (fun hb => ?_) <;> (try simp only [ew, hH, hg, hw] at hb)) | (simp only [go_sem, Nat.reduceLeDiff, Nat.reduceEqDiff, reduceIte, reduceCtorEq, Nat.reduceAdd, Nat.reduceMul, Nat.reduceSub, Nat.reduceLT, Int.reduceLT, Int.reduceLE, Int.reduceNeg, Int.reduceToNat, Nat.reduceBEq, Nat.reduceBNe, Int.reduceGE, Int.reduceGT, *, cNewC, Tryz.results26, hH, hg, hw])))
    refine loop_next (i + 1) ⟨by omega, by omega⟩ (by dsimp only; omega) ?_
    (repeat' (first | (refine gate_a fun _ => ?_) | (refine fork_intro (fun hb => ?_) (fun hb => ?_) <;> (try simp only [ew, eS] at hb)) | (simp only [go_sem, Nat.reduceLeDiff, Nat.reduceEqDiff, reduceIte, reduceCtorEq, Nat.reduceAdd, Nat.reduceMul, Nat.reduceSub, Nat.reduceLT, Int.reduceLT, Int.reduceLE, Int.reduceNeg, Int.reduceToNat, Nat.reduceBEq, Nat.reduceBNe, Int.reduceGE, Int.reduceGT, *, cNewC, Tryz.results26, eS])))
   ·have e6 : i = 4000 := by omega
    subst e6
    have e7 : newH bs = hashN bs 4000 := rfl
    clear h3 hh
    (repeat' (first | (refine gate_a fun _ => ?_) | (refine fork_intro (fun hb => ?_) (fun hb => ?_) <;> (try simp only [ew, e7] at hb)) | (simp only [go_sem, Nat.reduceLeDiff, Nat.reduceEqDiff, reduceIte, reduceCtorEq, Nat.reduceAdd, Nat.reduceMul, Nat.reduceSub, Nat.reduceLT, Int.reduceLT, Int.reduceLE, Int.reduceNeg, Int.reduceToNat, Nat.reduceBEq, Nat.reduceBNe, Int.reduceGE, Int.reduceGT, *, cNewC, Tryz.results26, e7])))
    all_goals first | rfl | skip
  ·have e5 : i = bs.length := by omega
   have e7 : newH bs = hashN bs bs.length := by
    unfold newH hashN
    rw [List.take_of_length_le (by omega), List.take_of_length_le (Nat.le_refl _)]
   subst e5
   clear h3 hh
   (repeat' (first | (refine gate_a fun _ => ?_) | (refine fork_intro (fun hb => ?_) (fun hb => ?_) <;> (try simp only [ew, e7] at hb)) | (simp only [go_sem, Nat.reduceLeDiff, Nat.reduceEqDiff, reduceIte, reduceCtorEq, Nat.reduceAdd, Nat.reduceMul, Nat.reduceSub, Nat.reduceLT, Int.reduceLT, Int.reduceLE, Int.reduceNeg, Int.reduceToNat, Nat.reduceBEq, Nat.reduceBNe, Int.reduceGE, Int.reduceGT, *, cNewC, Tryz.results26, e7])))
   all_goals first | rfl | skip
theorem byte_ok : ContractOK E0 93 cByte := by
  refine contract_of_wpcB (E := E0) (T := mkT Tryz.prog [] true (fun _ => false) false (fun _ => false)) (mkT_ok (E := E0) .nil) rfl (fn := Tryz.f93) Tryz.func93 (by kernel_rfl) rfl mixedT (by kernel_rfl) rfl rfl (Nat.le_of_ble_eq_true rfl) ?_
  intro args p rs ms hr
  unfold cByte at hr
  dsimp only at hr
  split at hr
  rotate_left
  · cases hr
  rename_i l i h
  simp only [Option.some.injEq, Prod.mk.injEq] at hr
  obtain ⟨rfl, rfl, rfl⟩ := hr
  refine ⟨_, _, _, rfl, rfl, rfl, rfl, Nat.le_of_ble_eq_true rfl, ?_⟩
  have hm : maxLen = 9223372036854775807 := rfl
  rintro ⟨h1, h2⟩ bs0
  obtain ⟨bs, rfl, hx⟩ := h1.ex
  clear h1
  rw [unB_bL]
  obtain ⟨i, rfl⟩ := Int.eq_ofNat_of_zero_le h2
  by_cases h5 : i < bs.length
  · have e : byteM bs (((i : Nat) : Int).toNat, h) = (bitI .and .i64 (IntKind.wrap .i64 (byX h + IntKind.wrap .i64 (bs.getD i 0))) 255, (i + 1, byH h)) := by unfold byteM; rw [Int.toNat_natCast, if_pos h5]
    have hg := bL_getE h5
    have hH : IntKind.wrap .i64 (IntKind.wrap .i64 (h * 6364136223846793005) + 1442695040888963407) = byH h := rfl
    have hX : bitI .and .i64 (bitI .xor .i64 ((byH h).fdiv (2 ^ 33)) ((byH h).fdiv (2 ^ 45))) 255 = byX h := rfl
    have hi1 : IntKind.wrap .i64 (((i : Nat) : Int) + 1) = ((i + 1 : Nat) : Int) := by rw [wrap_in]; · rfl
                                                                                       · exact ⟨by show -9223372036854775808 ≤ _; omega, by show _ ≤ 9223372036854775807; unfold maxLen at hx; omega⟩
    rw [e]
    clear e
    (repeat' (first | (refine gate_a fun _ => ?_) | (refine fork_intro (fun hb => ?_) (fun hb => ?_) <;> (try simp only [ew, bits64, hH, hX, hg, hi1, cuO, rI] at hb)) | (simp only [go_sem, Nat.reduceLeDiff, Nat.reduceEqDiff, reduceIte, reduceCtorEq, Nat.reduceAdd, Nat.reduceMul, Nat.reduceSub, Nat.reduceLT, Int.reduceLT, Int.reduceLE, Int.reduceNeg, Int.reduceToNat, Nat.reduceBEq, Nat.reduceBNe, Int.reduceGE, Int.reduceGT, *, cByte, Tryz.results93, bits64, hH, hX, hg, hi1, cuO, rI])))
    all_goals first | rfl | skip
  · have e : byteM bs (((i : Nat) : Int).toNat, h) = (byX h, (i, byH h)) := by unfold byteM; rw [Int.toNat_natCast, if_neg h5]
    have hH : IntKind.wrap .i64 (IntKind.wrap .i64 (h * 6364136223846793005) + 1442695040888963407) = byH h := rfl
    have hX : bitI .and .i64 (bitI .xor .i64 ((byH h).fdiv (2 ^ 33)) ((byH h).fdiv (2 ^ 45))) 255 = byX h := rfl
    rw [e]
    clear e
    (repeat' (first | (refine gate_a fun _ => ?_) | (refine fork_intro (fun hb => ?_) (fun hb => ?_) <;> (try simp only [ew, bits64, hH, hX, cuO, rI] at hb)) | (simp only [go_sem, Nat.reduceLeDiff, Nat.reduceEqDiff, reduceIte, reduceCtorEq, Nat.reduceAdd, Nat.reduceMul, Nat.reduceSub, Nat.reduceLT, Int.reduceLT, Int.reduceLE, Int.reduceNeg, Int.reduceToNat, Nat.reduceBEq, Nat.reduceBNe, Int.reduceGE, Int.reduceGT, *, cByte, Tryz.results93, bits64, hH, hX, cuO, rI])))
    all_goals first | rfl | skip
attribute [local go_sem] cuO rI rB
theorem iL_getE {xs : List Int} {i : Nat} (h : i < xs.length) (d : List D) : (iL xs).getD i d = [D.v (.int .i64 (xs.getD i 0))] := by
 simp [iL, List.getD_eq_getElem?_getD, h]
theorem below_ok : ContractOK E0 68 cBelow := by
 refine contract_of_wpcB (E := E0) (T := mkT Tryz.prog [(93, cByte)] false (fun _ => false) false (fun _ => false)) (mkT_ok (E := E0) (.cons byte_ok .nil)) rfl (fn := Tryz.f68) Tryz.func68 (by kernel_rfl) rfl mixedT (by kernel_rfl) rfl rfl (Nat.le_of_ble_eq_true rfl) ?_
 intro args p rs ms hr
 unfold cBelow at hr
 dsimp only at hr
 split at hr
 rotate_left
 ·cases hr
 rename_i l i h n
 simp only [Option.some.injEq, Prod.mk.injEq] at hr
 obtain ⟨rfl, rfl, rfl⟩ := hr
 refine ⟨_, _, _, rfl, rfl, rfl, rfl, Nat.le_of_ble_eq_true rfl, ?_⟩
 have hm : maxLen = 9223372036854775807 := rfl
 rintro ⟨h1, h2⟩ bs0
 obtain ⟨bs, rfl, hx⟩ := h1.ex
 clear h1
 rw [unB_bL]
 obtain ⟨i, rfl⟩ := Int.eq_ofNat_of_zero_le h2
 rw [Int.toNat_natCast]
 by_cases h5 : n ≤ 0
 ·have e : belowM n bs (i, h) = (0, (i, h)) := by unfold belowM; rw [if_pos h5]
  rw [e]
  clear e
  (repeat' (first | (refine gate_a fun _ => ?_) | (refine fork_intro (fun hb => ?_) (fun hb => ?_) <;> (try simp only [ew] at hb)) | (simp only [go_sem, Nat.reduceLeDiff, Nat.reduceEqDiff, reduceIte, reduceCtorEq, Nat.reduceAdd, Nat.reduceMul, Nat.reduceSub, Nat.reduceLT, Int.reduceLT, Int.reduceLE, Int.reduceNeg, Int.reduceToNat, Nat.reduceBEq, Nat.reduceBNe, Int.reduceGE, Int.reduceGT, *, cBelow, cByte, Tryz.results68])))
  all_goals first | rfl | skip
 ·by_cases h6 : n ≤ 256
  ·have e : belowM n bs (i, h) = ((byteM bs (i, h)).1.tmod n, (byteM bs (i, h)).2) := by unfold belowM; rw [if_neg h5, if_pos h6]
   rw [e]
   clear e
   generalize hA : byteM bs (i, h) = A
   (repeat' (first | (refine gate_a fun _ => ?_) | (refine fork_intro (fun hb => ?_) (fun hb => ?_) <;> (try simp only [ew, hA] at hb)) | (simp only [go_sem, Nat.reduceLeDiff, Nat.reduceEqDiff, reduceIte, reduceCtorEq, Nat.reduceAdd, Nat.reduceMul, Nat.reduceSub, Nat.reduceLT, Int.reduceLT, Int.reduceLE, Int.reduceNeg, Int.reduceToNat, Nat.reduceBEq, Nat.reduceBNe, Int.reduceGE, Int.reduceGT, *, cBelow, cByte, Tryz.results68, hA])))
   all_goals first | rfl | skip
  ·have e : belowM n bs (i, h) = (((byteM bs (i, h)).1 * 16777216 + (byteM bs (byteM bs (i, h)).2).1 * 65536 + (byteM bs (byteM bs (byteM bs (i, h)).2).2).1 * 256 + (byteM bs (byteM bs (byteM bs (byteM bs (i, h)).2).2).2).1).tmod n, (byteM bs (byteM bs (byteM bs (byteM bs (i, h)).2).2).2).2) := by unfold belowM; rw [if_neg h5, if_neg h6]
   rw [e]
   clear e
   have r1 := @byteM_range bs (i, h)
   generalize hA : byteM bs (i, h) = A at r1 ⊢
   have r2 := @byteM_range bs A.2
   generalize hB : byteM bs A.2 = B at r2 ⊢
   have r3 := @byteM_range bs B.2
   generalize hC : byteM bs B.2 = C at r3 ⊢
   have r4 := @byteM_range bs C.2
   generalize hD : byteM bs C.2 = D1 at r4 ⊢
   (repeat' (first | (refine gate_a fun _ => ?_) | (refine fork_intro (fun hb => ?_) (fun hb => ?_) <;> (try simp only [ew, hA, hB, hC, hD] at hb)) | (simp only [go_sem, Nat.reduceLeDiff, Nat.reduceEqDiff, reduceIte, reduceCtorEq, Nat.reduceAdd, Nat.reduceMul, Nat.reduceSub, Nat.reduceLT, Int.reduceLT, Int.reduceLE, Int.reduceNeg, Int.reduceToNat, Nat.reduceBEq, Nat.reduceBNe, Int.reduceGE, Int.reduceGT, *, cBelow, cByte, Tryz.results68, hA, hB, hC, hD])))
   all_goals first | rfl | skip
theorem once_ok : ContractOK E0 66 cOnce := by
 refine contract_of_wpcB (E := E0) (T := mkT Tryz.prog [(68, cBelow)] false (fun _ => false) false (fun _ => false)) (mkT_ok (E := E0) (.cons below_ok .nil)) rfl (fn := Tryz.f66) Tryz.func66 (by kernel_rfl) rfl mixedT (by kernel_rfl) rfl rfl (Nat.le_of_ble_eq_true rfl) ?_
 intro args p rs ms hr
 unfold cOnce at hr
 dsimp only at hr
 split at hr
 rotate_left
 ·cases hr
 rename_i l i h n
 simp only [Option.some.injEq, Prod.mk.injEq] at hr
 obtain ⟨rfl, rfl, rfl⟩ := hr
 refine ⟨_, _, _, rfl, rfl, rfl, rfl, Nat.le_of_ble_eq_true rfl, ?_⟩
 have hm : maxLen = 9223372036854775807 := rfl
 rintro ⟨h1, h2⟩ bs0
 obtain ⟨bs, rfl, hx⟩ := h1.ex
 clear h1
 rw [unB_bL]
 obtain ⟨i, rfl⟩ := Int.eq_ofNat_of_zero_le h2
 rw [Int.toNat_natCast]
 have e : onceM n bs (i, h) = ((belowM n bs (i, h)).1 == 0, (belowM n bs (i, h)).2) := rfl
 rw [e]
 clear e
 generalize hA : belowM n bs (i, h) = A
 (repeat' (first | (refine gate_a fun _ => ?_) | (refine fork_intro (fun hb => ?_) (fun hb => ?_) <;> (try simp only [ew, hA] at hb)) | (simp only [go_sem, Nat.reduceLeDiff, Nat.reduceEqDiff, reduceIte, reduceCtorEq, Nat.reduceAdd, Nat.reduceMul, Nat.reduceSub, Nat.reduceLT, Int.reduceLT, Int.reduceLE, Int.reduceNeg, Int.reduceToNat, Nat.reduceBEq, Nat.reduceBNe, Int.reduceGE, Int.reduceGT, *, cOnce, cBelow, Tryz.results66, hA])))
 all_goals first | rfl | skip
theorem pickI_ok : ContractOK E0 69 cPickI := by
 refine contract_of_wpcB (E := E0) (T := mkT Tryz.prog [(68, cBelow)] false (fun _ => false) false (fun _ => false)) (mkT_ok (E := E0) (.cons below_ok .nil)) rfl (fn := Tryz.f69) Tryz.func69 (by kernel_rfl) rfl mixedT (by kernel_rfl) rfl rfl (Nat.le_of_ble_eq_true rfl) ?_
 intro args p rs ms hr
 unfold cPickI at hr
 dsimp only at hr
 split at hr
 rotate_left
 ·cases hr
 rename_i l i h x
 simp only [Option.some.injEq, Prod.mk.injEq] at hr
 obtain ⟨rfl, rfl, rfl⟩ := hr
 refine ⟨_, _, _, rfl, rfl, rfl, rfl, Nat.le_of_ble_eq_true rfl, ?_⟩
 have hm : maxLen = 9223372036854775807 := rfl
 rintro ⟨h1, h2, h3, h4⟩ bs0
 obtain ⟨bs, rfl, hx⟩ := h1.ex
 obtain ⟨xs, rfl, hxs⟩ := h3.ex
 clear h1 h3
 rw [unB_bL, unI_iL]
 obtain ⟨i, rfl⟩ := Int.eq_ofNat_of_zero_le h2
 rw [Int.toNat_natCast]
 have e : pickM xs bs (i, h) = (xs.getD (belowM xs.length bs (i, h)).1.toNat 0, (belowM xs.length bs (i, h)).2) := rfl
 rw [e]
 clear e
 have hl : 0 < xs.length := by
  cases xs with
  | nil => exact absurd rfl h4
  | cons => simp
 have r1 := @belowM_range xs.length bs (i, h) (by omega)
 generalize hA : belowM xs.length bs (i, h) = A at r1 ⊢
 have hg := iL_getE (xs := xs) (i := A.1.toNat) (by omega)
 clear h4
 (repeat' (first | (refine gate_a fun _ => ?_) | (refine fork_intro (fun hb => ?_) (fun hb => ?_) <;> (try simp only [ew, hA, hg] at hb)) | (simp only [go_sem, Nat.reduceLeDiff, Nat.reduceEqDiff, reduceIte, reduceCtorEq, Nat.reduceAdd, Nat.reduceMul, Nat.reduceSub, Nat.reduceLT, Int.reduceLT, Int.reduceLE, Int.reduceNeg, Int.reduceToNat, Nat.reduceBEq, Nat.reduceBNe, Int.reduceGE, Int.reduceGT, *, cPickI, cBelow, Tryz.results69, hA, hg])))
 all_goals first | rfl | skip
def cuP (bs : List Int) (s : Cu) : List PC := [.n (.sl 1 (bL bs)), .d (.v (.int .i64 (s.1 : Nat))), .d (.v (.int .i64 s.2))]
theorem iL_sn {xs : List Int} {n : Int} : iL xs ++ [[D.v (.int .i64 n)]] = iL (xs ++ [n]) := by simp [iL]
end Go.Own
namespace Go.Own
open Go Go.Proofs
attribute [local go_sem] cuO rI rB cuP unB_bL bL_length wfB_bL
def cellM (wide : Int) : Dr Int := fun bs s => (if (onceM 12 bs (belowM wide bs s).2).1 then -1 else (belowM wide bs s).1, (onceM 12 bs (belowM wide bs s).2).2)
def rowM (wide : Int) : Nat → Dr (List Int)
 | 0 => fun _ s => ([], s)
 | n + 1 => fun bs s => ((rowM wide n bs s).1 ++ [(cellM wide bs (rowM wide n bs s).2).1], (cellM wide bs (rowM wide n bs s).2).2)
theorem rowM_len {wide : Int} {bs : List Int} {s : Cu} : ∀ {n : Nat}, (rowM wide n bs s).1.length = n
 | 0 => rfl
 | n + 1 => by simp [rowM, @rowM_len wide bs s n]
theorem cellM_range {wide : Int} {bs : List Int} {s : Cu} (h : 0 < wide) : -1 ≤ (cellM wide bs s).1 ∧ (cellM wide bs s).1 < wide := by
 have := @belowM_range wide bs s h
 unfold cellM
 dsimp only
 split <;> omega
theorem rowM_range {wide : Int} {bs : List Int} {s : Cu} (h : 0 < wide) : ∀ {n : Nat}, ∀ v ∈ (rowM wide n bs s).1, -1 ≤ v ∧ v < wide
 | 0, v, hv => nomatch hv
 | n + 1, v, hv => by
  rw [rowM] at hv
  rcases List.mem_append.1 hv with hv | hv
  ·exact rowM_range h v hv
  ·rw [List.mem_singleton] at hv; rw [hv]; exact cellM_range h
def cRow : Contract := ⟨[true], false, fun
 | [.box [.sl 1 l, .v (.int .i64 i), .v (.int .i64 h)], .one (.v (.int .i64 n)), .one (.v (.int .i64 w))] => some (WfB l ∧ 0 ≤ i ∧ n ≤ 1000, [⟨false, [.own 1 (iL (rowM w n.toNat (unB l) (i.toNat, h)).1) 1]⟩], cuO l (rowM w n.toNat (unB l) (i.toNat, h)).2)
 | _ => none⟩
theorem row_ok : ContractOK E0 92 cRow := by
 refine contract_of_wpcB (E := E0) (T := mkT Tryz.prog [(68, cBelow), (66, cOnce)] false (fun _ => false) false (fun _ => false)) (mkT_ok (E := E0) (.cons below_ok (.cons once_ok .nil))) rfl (fn := Tryz.f92) Tryz.func92 (by kernel_rfl) rfl mixedT (by kernel_rfl) rfl rfl (Nat.le_of_ble_eq_true rfl) ?_
 intro args p rs ms hr
 unfold cRow at hr
 dsimp only at hr
 split at hr
 rotate_left
 ·cases hr
 rename_i l i h n w
 simp only [Option.some.injEq, Prod.mk.injEq] at hr
 obtain ⟨rfl, rfl, rfl⟩ := hr
 refine ⟨_, _, _, rfl, rfl, rfl, rfl, Nat.le_of_ble_eq_true rfl, ?_⟩
 have hm : maxLen = 9223372036854775807 := rfl
 rintro ⟨h1, h2, h3⟩ bs0
 obtain ⟨bs, rfl, hx⟩ := h1.ex
 clear h1
 rw [unB_bL]
 obtain ⟨i, rfl⟩ := Int.eq_ofNat_of_zero_le h2
 rw [Int.toNat_natCast]
 have e0 : iL [] = [] := rfl
 have hl := fun k => @rowM_len w bs (i, h) k
 (repeat' (first | (refine gate_a fun _ => ?_) | (refine fork_intro (fun hb => ?_) (fun hb => ?_) <;> (try simp only [ew, e0] at hb)) | (simp only [go_sem, Nat.reduceLeDiff, Nat.reduceEqDiff, reduceIte, reduceCtorEq, Nat.reduceAdd, Nat.reduceMul, Nat.reduceSub, Nat.reduceLT, Int.reduceLT, Int.reduceLE, Int.reduceNeg, Int.reduceToNat, Nat.reduceBEq, Nat.reduceBNe, Int.reduceGE, Int.reduceGT, *, cRow, cBelow, cOnce, Tryz.results92, e0])))
 refine loop_intro { ι := Nat, rs := [(9, 10), (11, 25)], mods := [(8, fun k => .one (.d (.v (.int .i64 k)))), (7, fun k => .one (.own 1 (iL (rowM w k bs (i, h)).1) 1))], boxes := [(0, fun k => cuP bs (rowM w k bs (i, h)).2)], arrs := [], ok := fun k => k ≤ n.toNat, mu := fun k => n.toNat - k } rfl 0 (Nat.zero_le _) ?_ fun k hk => ?_
 ·have e1 : rowM w 0 bs (i, h) = ([], (i, h)) := rfl
  clear hl
  (repeat' (first | (refine gate_a fun _ => ?_) | (refine fork_intro (fun hb => ?_) (fun hb => ?_) <;> (try simp only [ew, e0, e1] at hb)) | (simp only [go_sem, Nat.reduceLeDiff, Nat.reduceEqDiff, reduceIte, reduceCtorEq, Nat.reduceAdd, Nat.reduceMul, Nat.reduceSub, Nat.reduceLT, Int.reduceLT, Int.reduceLE, Int.reduceNeg, Int.reduceToNat, Nat.reduceBEq, Nat.reduceBNe, Int.reduceGE, Int.reduceGT, *, cRow, cBelow, cOnce, Tryz.results92, e0, e1])))
  all_goals first | rfl | skip
 ·dsimp only at k hk
  have hk1 := hl k
  clear hl
  have eS : rowM w (k + 1) bs (i, h) = ((rowM w k bs (i, h)).1 ++ [(cellM w bs (rowM w k bs (i, h)).2).1], (cellM w bs (rowM w k bs (i, h)).2).2) := rfl
  have eC : cellM w bs (rowM w k bs (i, h)).2 = (if (onceM 12 bs (belowM w bs (rowM w k bs (i, h)).2).2).1 then -1 else (belowM w bs (rowM w k bs (i, h)).2).1, (onceM 12 bs (belowM w bs (rowM w k bs (i, h)).2).2).2) := rfl
  by_cases h5 : ((k : Nat) : Int) < n
  ·generalize hR : rowM w k bs (i, h) = R at hk1 eS eC
   generalize hB : belowM w bs R.2 = B at eC
   generalize hO : onceM 12 bs B.2 = O at eC
   have hm1 : R.1.length ≤ maxLen := by rw [hk1]; exact Nat.le_trans (show k ≤ 1000 by omega) (by decide)
   cases ho : O.1
   ·rw [ho, if_neg (by decide)] at eC
    rw [eC] at eS
    clear eC
    (repeat' (first | (refine gate_a fun _ => ?_) | (refine fork_intro (fun hb => ?_) (fun hb => ?_) <;> (try simp only [ew, hR, hB, hO, ho, iL_sn] at hb)) | (simp only [go_sem, Nat.reduceLeDiff, Nat.reduceEqDiff, reduceIte, reduceCtorEq, Nat.reduceAdd, Nat.reduceMul, Nat.reduceSub, Nat.reduceLT, Int.reduceLT, Int.reduceLE, Int.reduceNeg, Int.reduceToNat, Nat.reduceBEq, Nat.reduceBNe, Int.reduceGE, Int.reduceGT, *, cRow, cBelow, cOnce, Tryz.results92, hR, hB, hO, ho, iL_sn])))
    refine loop_next (k + 1) (by dsimp only; omega) (by dsimp only; omega) ?_
    (repeat' (first | (refine gate_a fun _ => ?_) | (refine fork_intro (fun hb => ?_) (fun hb => ?_) <;> (try simp only [ew, eS, iL_sn] at hb)) | (simp only [go_sem, Nat.reduceLeDiff, Nat.reduceEqDiff, reduceIte, reduceCtorEq, Nat.reduceAdd, Nat.reduceMul, Nat.reduceSub, Nat.reduceLT, Int.reduceLT, Int.reduceLE, Int.reduceNeg, Int.reduceToNat, Nat.reduceBEq, Nat.reduceBNe, Int.reduceGE, Int.reduceGT, *, cRow, cBelow, cOnce, Tryz.results92, eS, iL_sn])))
    all_goals first | rfl | skip
   ·rw [ho, if_pos rfl] at eC
    rw [eC] at eS
    clear eC
    (repeat' (first | (refine gate_a fun _ => ?_) | (refine fork_intro (fun hb => ?_) (fun hb => ?_) <;> (try simp only [ew, hR, hB, hO, ho, iL_sn] at hb)) | (simp only [go_sem, Nat.reduceLeDiff, Nat.reduceEqDiff, reduceIte, reduceCtorEq, Nat.reduceAdd, Nat.reduceMul, Nat.reduceSub, Nat.reduceLT, Int.reduceLT, Int.reduceLE, Int.reduceNeg, Int.reduceToNat, Nat.reduceBEq, Nat.reduceBNe, Int.reduceGE, Int.reduceGT, *, cRow, cBelow, cOnce, Tryz.results92, hR, hB, hO, ho, iL_sn])))
    refine loop_next (k + 1) (by dsimp only; omega) (by dsimp only; omega) ?_
    (repeat' (first | (refine gate_a fun _ => ?_) | (refine fork_intro (fun hb => ?_) (fun hb => ?_) <;> (try simp only [ew, eS, iL_sn] at hb)) | (simp only [go_sem, Nat.reduceLeDiff, Nat.reduceEqDiff, reduceIte, reduceCtorEq, Nat.reduceAdd, Nat.reduceMul, Nat.reduceSub, Nat.reduceLT, Int.reduceLT, Int.reduceLE, Int.reduceNeg, Int.reduceToNat, Nat.reduceBEq, Nat.reduceBNe, Int.reduceGE, Int.reduceGT, *, cRow, cBelow, cOnce, Tryz.results92, eS, iL_sn])))
    all_goals first | rfl | skip
  ·have e5 : n.toNat = k := by omega
   rw [e5]
   clear eS eC
   generalize hR : rowM w k bs (i, h) = R at hk1
   (repeat' (first | (refine gate_a fun _ => ?_) | (refine fork_intro (fun hb => ?_) (fun hb => ?_) <;> (try simp only [ew, hR] at hb)) | (simp only [go_sem, Nat.reduceLeDiff, Nat.reduceEqDiff, reduceIte, reduceCtorEq, Nat.reduceAdd, Nat.reduceMul, Nat.reduceSub, Nat.reduceLT, Int.reduceLT, Int.reduceLE, Int.reduceNeg, Int.reduceToNat, Nat.reduceBEq, Nat.reduceBNe, Int.reduceGE, Int.reduceGT, *, cRow, cBelow, cOnce, Tryz.results92, hR])))
   all_goals first | rfl | skip
def tblS (c w : Int) (rows : List (List Int)) : Dr (List (List Int)) := fun bs s =>
 if (onceM 3 bs (rowM w c.toNat bs s).2).1 then
  (rows ++ [(rowM w c.toNat bs s).1] ++ [(rowM w c.toNat bs s).1.set (belowM c bs (onceM 3 bs (rowM w c.toNat bs s).2).2).1.toNat (belowM w bs (belowM c bs (onceM 3 bs (rowM w c.toNat bs s).2).2).2).1], (belowM w bs (belowM c bs (onceM 3 bs (rowM w c.toNat bs s).2).2).2).2)
 else (rows ++ [(rowM w c.toNat bs s).1], (onceM 3 bs (rowM w c.toNat bs s).2).2)
def tblN (c w : Int) : Nat → Dr (List (List Int))
 | 0 => fun _ s => ([], s)
 | k + 1 => fun bs s => tblS c w (tblN c w k bs s).1 bs (tblN c w k bs s).2
def tblM : Dr (Int × List (List Int)) := fun bs s =>
 let a := belowM 3 bs s
 let b := belowM 3 bs a.2
 let n := belowM 7 bs b.2
 let t := tblN (2 + a.1) (2 + b.1) n.1.toNat bs n.2
 ((2 + a.1, t.1), t.2)
theorem tblN_facts {c w : Int} {bs : List Int} {s : Cu} (hw : 0 < w) : ∀ {k : Nat}, (tblN c w k bs s).1.length ≤ 2 * k ∧ ∀ r ∈ (tblN c w k bs s).1, r.length = c.toNat ∧ ∀ v ∈ r, -1 ≤ v ∧ v < w
 | 0 => by simp [tblN]
 | k + 1 => by
  obtain ⟨h1, h2⟩ := @tblN_facts c w bs s hw k
  rw [tblN]
  unfold tblS
  have hr := @rowM_len w bs (tblN c w k bs s).2 c.toNat
  have hv := @rowM_range w bs (tblN c w k bs s).2 hw c.toNat
  dsimp only
  split
  ·refine ⟨by simp; omega, fun r hm => ?_⟩
   simp only [List.mem_append, List.mem_singleton] at hm
   rcases hm with (hm | hm) | hm
   ·exact h2 r hm
   ·rw [hm]; exact ⟨hr, hv⟩
   ·rw [hm]
    refine ⟨by rw [List.length_set]; exact hr, fun v hm2 => ?_⟩
    rcases List.mem_or_eq_of_mem_set hm2 with h | h
    ·exact hv v h
    ·rw [h]
     have := @belowM_range w bs (belowM c bs (onceM 3 bs (rowM w c.toNat bs (tblN c w k bs s).2).2).2).2 hw
     omega
  ·refine ⟨by simp; omega, fun r hm => ?_⟩
   simp only [List.mem_append, List.mem_singleton] at hm
   rcases hm with hm | hm
   ·exact h2 r hm
   ·rw [hm]; exact ⟨hr, hv⟩
theorem tblM_facts {bs : List Int} {s : Cu} : (2 ≤ (tblM bs s).1.1 ∧ (tblM bs s).1.1 ≤ 4) ∧ (tblM bs s).1.2.length ≤ 12 ∧ ∀ r ∈ (tblM bs s).1.2, r.length = (tblM bs s).1.1.toNat ∧ ∀ v ∈ r, -1 ≤ v ∧ v ≤ 3 := by
 unfold tblM
 dsimp only
 have h1 := @belowM_range 3 bs s (by decide)
 have h2 := @belowM_range 3 bs (belowM 3 bs s).2 (by decide)
 have h3 := @belowM_range 7 bs (belowM 3 bs (belowM 3 bs s).2).2 (by decide)
 obtain ⟨h4, h5⟩ := @tblN_facts (2 + (belowM 3 bs s).1) (2 + (belowM 3 bs (belowM 3 bs s).2).1) bs (belowM 7 bs (belowM 3 bs (belowM 3 bs s).2).2).2 (by omega) (belowM 7 bs (belowM 3 bs (belowM 3 bs s).2).2).1.toNat
 refine ⟨by omega, by omega, fun r hr => ⟨(h5 r hr).1, fun v hv => ?_⟩⟩
 have := (h5 r hr).2 v hv
 omega
theorem sL_sn {rs : List (List Int)} {r : List Int} : sL rs ++ [[D.sl 1 (iL r)]] = sL (rs ++ [r]) := by simp [sL]
theorem sL_last {rs : List (List Int)} {r : List Int} {d : List D} : (sL (rs ++ [r])).getD rs.length d = [D.sl 1 (iL r)] := by simp [sL, List.getD_eq_getElem?_getD]
theorem iL_asc {xs : List Int} : ∀ e ∈ iL xs, ∀ x ∈ e, Scalar x := by
 intro e he x hx
 obtain ⟨n, _, rfl⟩ := List.mem_map.1 he
 rw [List.mem_singleton] at hx
 rw [hx]; trivial
theorem iL_asc2 {xs : List Int} : (∀ e ∈ iL xs, ∀ x ∈ e, Scalar x) ↔ True := ⟨fun _ => trivial, fun _ => iL_asc⟩
def cTbl : Contract := ⟨[true], false, fun
 | [.box [.sl 1 l, .v (.int .i64 i), .v (.int .i64 h)]] => some (WfB l ∧ 0 ≤ i, [⟨true, [.d (.v (.int .i64 (tblM (unB l) (i.toNat, h)).1.1)), .own 1 (sL (tblM (unB l) (i.toNat, h)).1.2) 1]⟩], cuO l (tblM (unB l) (i.toNat, h)).2)
 | _ => none⟩
theorem tbl_ok : ContractOK E0 65 cTbl := by
 refine contract_of_wpcB (E := E0) (T := mkT Tryz.prog [(68, cBelow), (92, cRow), (66, cOnce)] false (fun d => d == 30) false (fun _ => false)) (mkT_ok (E := E0) (.cons below_ok (.cons row_ok (.cons once_ok .nil)))) rfl (fn := Tryz.f65) Tryz.func65 (by kernel_rfl) rfl mixedT (by kernel_rfl) rfl rfl (Nat.le_of_ble_eq_true rfl) ?_
 intro args p rs ms hr
 unfold cTbl at hr
 dsimp only at hr
 split at hr
 rotate_left
 ·cases hr
 rename_i l i h
 simp only [Option.some.injEq, Prod.mk.injEq] at hr
 obtain ⟨rfl, rfl, rfl⟩ := hr
 refine ⟨_, _, _, rfl, rfl, rfl, rfl, Nat.le_of_ble_eq_true rfl, ?_⟩
 have hm : maxLen = 9223372036854775807 := rfl
 rintro ⟨h1, h2⟩ bs0
 obtain ⟨bs, rfl, hx⟩ := h1.ex
 clear h1
 rw [unB_bL]
 obtain ⟨i, rfl⟩ := Int.eq_ofNat_of_zero_le h2
 rw [Int.toNat_natCast]
 have e : tblM bs (i, h) = ((2 + (belowM 3 bs (i, h)).1, (tblN (2 + (belowM 3 bs (i, h)).1) (2 + (belowM 3 bs (belowM 3 bs (i, h)).2).1) (belowM 7 bs (belowM 3 bs (belowM 3 bs (i, h)).2).2).1.toNat bs (belowM 7 bs (belowM 3 bs (belowM 3 bs (i, h)).2).2).2).1), (tblN (2 + (belowM 3 bs (i, h)).1) (2 + (belowM 3 bs (belowM 3 bs (i, h)).2).1) (belowM 7 bs (belowM 3 bs (belowM 3 bs (i, h)).2).2).1.toNat bs (belowM 7 bs (belowM 3 bs (belowM 3 bs (i, h)).2).2).2).2) := rfl
 rw [e]
 clear e
 have r1 := @belowM_range 3 bs (i, h) (by decide)
 generalize hA : belowM 3 bs (i, h) = A at r1 ⊢
 have r2 := @belowM_range 3 bs A.2 (by decide)
 generalize hB : belowM 3 bs A.2 = B at r2 ⊢
 have r3 := @belowM_range 7 bs B.2 (by decide)
 generalize hC : belowM 7 bs B.2 = C at r3 ⊢
 obtain ⟨N, hN⟩ := Int.eq_ofNat_of_zero_le r3.1
 have hN2 : C.1.toNat = N := by omega
 have hN6 : N ≤ 6 := by omega
 rw [hN2]
 have hF := fun k => @tblN_facts (2 + A.1) (2 + B.1) bs C.2 (by omega) k
 (repeat' (first | (refine gate_a fun _ => ?_) | (refine fork_intro (fun hb => ?_) (fun hb => ?_) <;> (try simp only [ew, hA, hB, hC] at hb)) | (simp only [go_sem, Nat.reduceLeDiff, Nat.reduceEqDiff, reduceIte, reduceCtorEq, Nat.reduceAdd, Nat.reduceMul, Nat.reduceSub, Nat.reduceLT, Int.reduceLT, Int.reduceLE, Int.reduceNeg, Int.reduceToNat, Nat.reduceBEq, Nat.reduceBNe, Int.reduceGE, Int.reduceGT, *, cTbl, cBelow, cRow, cOnce, Tryz.results65, hA, hB, hC])))
 refine loop_intro { ι := Nat, rs := [(6, 8), (17, 52)], mods := [(5, fun k => .one (.d (.v (.int .i64 ((N : Int) - k)))))], boxes := [(0, fun k => cuP bs (tblN (2 + A.1) (2 + B.1) k bs C.2).2), (2, fun _ => [.d (.v (.int .i64 0)), .d (.v (.slice none 0 0))]), (3, fun k => [.d (.v (.int .i64 (2 + A.1))), .own 1 (sL (tblN (2 + A.1) (2 + B.1) k bs C.2).1) 1])], arrs := [], ok := fun k => k ≤ N, mu := fun k => N - k } rfl 0 (Nat.zero_le _) ?_ fun k hk => ?_
 ·have e1 : tblN (2 + A.1) (2 + B.1) 0 bs C.2 = ([], C.2) := rfl
  have e0 : sL [] = [] := rfl
  clear hF
  (repeat' (first | (refine gate_a fun _ => ?_) | (refine fork_intro (fun hb => ?_) (fun hb => ?_) <;> (try simp only [ew, e1, e0] at hb)) | (simp only [go_sem, Nat.reduceLeDiff, Nat.reduceEqDiff, reduceIte, reduceCtorEq, Nat.reduceAdd, Nat.reduceMul, Nat.reduceSub, Nat.reduceLT, Int.reduceLT, Int.reduceLE, Int.reduceNeg, Int.reduceToNat, Nat.reduceBEq, Nat.reduceBNe, Int.reduceGE, Int.reduceGT, *, cTbl, cBelow, cRow, cOnce, Tryz.results65, e1, e0])))
  all_goals first | rfl | (simp; omega) | skip
 ·dsimp only at k hk
  obtain ⟨f1, f2⟩ := hF k
  clear hF
  by_cases h5 : k < N
  ·have eS : tblN (2 + A.1) (2 + B.1) (k + 1) bs C.2 = tblS (2 + A.1) (2 + B.1) (tblN (2 + A.1) (2 + B.1) k bs C.2).1 bs (tblN (2 + A.1) (2 + B.1) k bs C.2).2 := rfl
   unfold tblS at eS
   generalize hP : tblN (2 + A.1) (2 + B.1) k bs C.2 = P at f1 f2 eS
   have q1 := @rowM_len (2 + B.1) bs P.2 (2 + A.1).toNat
   generalize hR : rowM (2 + B.1) (2 + A.1).toNat bs P.2 = R at q1 eS
   generalize hO : onceM 3 bs R.2 = O at eS
   have q2 := @belowM_range (2 + A.1) bs O.2 (by omega)
   generalize hJ : belowM (2 + A.1) bs O.2 = J at q2 eS
   generalize hV : belowM (2 + B.1) bs J.2 = V at eS
   have m1 : P.1.length ≤ maxLen := Nat.le_trans (show P.1.length ≤ 20 by omega) (by decide)
   have m2 : R.1.length ≤ maxLen := Nat.le_trans (show R.1.length ≤ 20 by omega) (by decide)
   have hpos : ((N : Int) - k) > 0 := by omega
   clear f2
   cases ho : O.1
   ·rw [ho, if_neg (by decide)] at eS
    (repeat' (first | (refine gate_a fun _ => ?_) | (refine fork_intro (fun hb => ?_) (fun hb => ?_) <;> (try simp only [ew, hP, hR, hO, ho, sL_sn, iL_asc2] at hb)) | (simp only [go_sem, Nat.reduceLeDiff, Nat.reduceEqDiff, reduceIte, reduceCtorEq, Nat.reduceAdd, Nat.reduceMul, Nat.reduceSub, Nat.reduceLT, Int.reduceLT, Int.reduceLE, Int.reduceNeg, Int.reduceToNat, Nat.reduceBEq, Nat.reduceBNe, Int.reduceGE, Int.reduceGT, *, cTbl, cBelow, cRow, cOnce, Tryz.results65, hP, hR, hO, ho, sL_sn, iL_asc2])))
    refine loop_next (k + 1) (by dsimp only; omega) (by dsimp only; omega) ?_
    (repeat' (first | (refine gate_a fun _ => ?_) | (refine fork_intro (fun hb => ?_) (fun hb => ?_) <;> (try simp only [ew, eS, sL_sn, iL_asc2] at hb)) | (simp only [go_sem, Nat.reduceLeDiff, Nat.reduceEqDiff, reduceIte, reduceCtorEq, Nat.reduceAdd, Nat.reduceMul, Nat.reduceSub, Nat.reduceLT, Int.reduceLT, Int.reduceLE, Int.reduceNeg, Int.reduceToNat, Nat.reduceBEq, Nat.reduceBNe, Int.reduceGE, Int.reduceGT, *, cTbl, cBelow, cRow, cOnce, Tryz.results65, eS, sL_sn, iL_asc2])))
    all_goals first | rfl | omega | skip
   ·rw [ho, if_pos rfl] at eS
    (repeat' (first | (refine gate_a fun _ => ?_) | (refine fork_intro (fun hb => ?_) (fun hb => ?_) <;> (try simp only [ew, hP, hR, hO, hJ, hV, ho, sL_sn, iL_asc2, sL_last] at hb)) | (simp only [go_sem, Nat.reduceLeDiff, Nat.reduceEqDiff, reduceIte, reduceCtorEq, Nat.reduceAdd, Nat.reduceMul, Nat.reduceSub, Nat.reduceLT, Int.reduceLT, Int.reduceLE, Int.reduceNeg, Int.reduceToNat, Nat.reduceBEq, Nat.reduceBNe, Int.reduceGE, Int.reduceGT, *, cTbl, cBelow, cRow, cOnce, Tryz.results65, hP, hR, hO, hJ, hV, ho, sL_sn, iL_asc2, sL_last])))
    refine loop_next (k + 1) (by dsimp only; omega) (by dsimp only; omega) ?_
    (repeat' (first | (refine gate_a fun _ => ?_) | (refine fork_intro (fun hb => ?_) (fun hb => ?_) <;> (try simp only [ew, eS, sL_sn, iL_asc2] at hb)) | (simp only [go_sem, Nat.reduceLeDiff, Nat.reduceEqDiff, reduceIte, reduceCtorEq, Nat.reduceAdd, Nat.reduceMul, Nat.reduceSub, Nat.reduceLT, Int.reduceLT, Int.reduceLE, Int.reduceNeg, Int.reduceToNat, Nat.reduceBEq, Nat.reduceBNe, Int.reduceGE, Int.reduceGT, *, cTbl, cBelow, cRow, cOnce, Tryz.results65, eS, sL_sn, iL_asc2])))
    all_goals first | rfl | omega | skip
  ·have e5 : k = N := by omega
   subst e5
   generalize hP : tblN (2 + A.1) (2 + B.1) k bs C.2 = P at f1 f2
   have z0 : ((k : Nat) : Int) - ((k : Nat) : Int) = 0 := by omega
   clear f2
   (repeat' (first | (refine gate_a fun _ => ?_) | (refine fork_intro (fun hb => ?_) (fun hb => ?_) <;> (try simp only [ew, hP, z0] at hb)) | (simp only [go_sem, Nat.reduceLeDiff, Nat.reduceEqDiff, reduceIte, reduceCtorEq, Nat.reduceAdd, Nat.reduceMul, Nat.reduceSub, Nat.reduceLT, Int.reduceLT, Int.reduceLE, Int.reduceNeg, Int.reduceToNat, Nat.reduceBEq, Nat.reduceBNe, Int.reduceGE, Int.reduceGT, *, cTbl, cBelow, cRow, cOnce, Tryz.results65, hP, z0])))
   all_goals first | rfl | skip
end Go.Own
/-
  The draws of tables and of pairs of columns. Conditions: as each theorem states them.
-/
namespace Go.Own
open Go Go.Proofs
attribute [local go_sem] cuO rI rB cuP unB_bL bL_length wfB_bL
def anyM : Dr (Int × List (List Int)) := fun bs s =>
 let t := tblM bs s
 let x := belowM 12 bs t.2
 if x.1 = 0 then (((pickM [0, 1, 5, 6] bs x.2).1, t.1.2), (pickM [0, 1, 5, 6] bs x.2).2)
 else if x.1 = 1 then ((t.1.1, t.1.2 ++ [[1, (pickM [-2, -1, 40, 41] bs x.2).1]]), (pickM [-2, -1, 40, 41] bs x.2).2)
 else (t.1, x.2)
theorem anyM_facts {bs : List Int} {s : Cu} : (0 ≤ (anyM bs s).1.1 ∧ (anyM bs s).1.1 ≤ 6) ∧ (anyM bs s).1.2.length ≤ 13 ∧ ∀ r ∈ (anyM bs s).1.2, r.length ≤ 4 ∧ ∀ v ∈ r, -2 ≤ v ∧ v ≤ 41 := by
 obtain ⟨h1, h2, h3⟩ := @tblM_facts bs s
 have h3' : ∀ r ∈ (tblM bs s).1.2, r.length ≤ 4 ∧ ∀ v ∈ r, -2 ≤ v ∧ v ≤ 41 := fun r hr => by
  obtain ⟨q1, q2⟩ := h3 r hr
  refine ⟨by omega, fun v hv => ?_⟩
  have := q2 v hv; omega
 unfold anyM
 dsimp only
 split
 ·have := @pickM_mem [0, 1, 5, 6] bs (belowM 12 bs (tblM bs s).2).2 (by simp)
  simp only [List.mem_cons, List.not_mem_nil, or_false] at this
  dsimp only
  exact ⟨by omega, by omega, h3'⟩
 ·split
  ·have := @pickM_mem [-2, -1, 40, 41] bs (belowM 12 bs (tblM bs s).2).2 (by simp)
   simp only [List.mem_cons, List.not_mem_nil, or_false] at this
   dsimp only
   refine ⟨by omega, by simp; omega, fun r hr => ?_⟩
   rw [List.mem_append, List.mem_singleton] at hr
   rcases hr with hr | rfl
   ·exact h3' r hr
   ·refine ⟨by simp, fun v hv => ?_⟩
    simp only [List.mem_cons, List.not_mem_nil, or_false] at hv
    omega
  ·dsimp only
   exact ⟨by omega, by omega, h3'⟩
def cAny : Contract := ⟨[true], false, fun
 | [.box [.sl 1 l, .v (.int .i64 i), .v (.int .i64 h)]] => some (WfB l ∧ 0 ≤ i, [⟨true, [.d (.v (.int .i64 (anyM (unB l) (i.toNat, h)).1.1)), .own 1 (sL (anyM (unB l) (i.toNat, h)).1.2) 1]⟩], cuO l (anyM (unB l) (i.toNat, h)).2)
 | _ => none⟩
theorem any_ok : ContractOK E0 67 cAny := by
 refine contract_of_wpcB (E := E0) (T := mkT Tryz.prog [(65, cTbl), (68, cBelow), (69, cPickI)] false (fun d => d == 11 || d == 19) false (fun d => d == 17 || d == 16 || d == 1000 || d == 1004)) (mkT_ok (E := E0) (.cons tbl_ok (.cons below_ok (.cons pickI_ok .nil)))) rfl (fn := Tryz.f67) Tryz.func67 (by kernel_rfl) rfl mixedT (by kernel_rfl) rfl rfl (Nat.le_of_ble_eq_true rfl) ?_
 intro args p rs ms hr
 unfold cAny at hr
 dsimp only at hr
 split at hr
 rotate_left
 ·cases hr
 rename_i l i h
 simp only [Option.some.injEq, Prod.mk.injEq] at hr
 obtain ⟨rfl, rfl, rfl⟩ := hr
 refine ⟨_, _, _, rfl, rfl, rfl, rfl, Nat.le_of_ble_eq_true rfl, ?_⟩
 have hm : maxLen = 9223372036854775807 := rfl
 rintro ⟨h1, h2⟩ bs0
 obtain ⟨bs, rfl, hx⟩ := h1.ex
 clear h1
 rw [unB_bL]
 obtain ⟨i, rfl⟩ := Int.eq_ofNat_of_zero_le h2
 rw [Int.toNat_natCast]
 have e : anyM bs (i, h) = if (belowM 12 bs (tblM bs (i, h)).2).1 = 0 then (((pickM [0, 1, 5, 6] bs (belowM 12 bs (tblM bs (i, h)).2).2).1, (tblM bs (i, h)).1.2), (pickM [0, 1, 5, 6] bs (belowM 12 bs (tblM bs (i, h)).2).2).2)
  else if (belowM 12 bs (tblM bs (i, h)).2).1 = 1 then (((tblM bs (i, h)).1.1, (tblM bs (i, h)).1.2 ++ [[1, (pickM [-2, -1, 40, 41] bs (belowM 12 bs (tblM bs (i, h)).2).2).1]]), (pickM [-2, -1, 40, 41] bs (belowM 12 bs (tblM bs (i, h)).2).2).2)
  else ((tblM bs (i, h)).1, (belowM 12 bs (tblM bs (i, h)).2).2) := rfl
 rw [e]
 clear e
 obtain ⟨t1, t2, t3⟩ := @tblM_facts bs (i, h)
 generalize hT : tblM bs (i, h) = T at t1 t2 t3 ⊢
 have r1 := @belowM_range 12 bs T.2 (by decide)
 generalize hX : belowM 12 bs T.2 = X at r1 ⊢
 have m1 : T.1.2.length ≤ maxLen := Nat.le_trans t2 (by decide)
 have m2 : ∀ r ∈ T.1.2, r.length ≤ maxLen := fun r hr => by have := (t3 r hr).1; omega
 clear t3
 have eA : [[D.v (.int .i64 0)], [D.v (.int .i64 1)], [D.v (.int .i64 5)], [D.v (.int .i64 6)]] = iL [0, 1, 5, 6] := rfl
 have eB : [[D.v (.int .i64 (-2))], [D.v (.int .i64 (-1))], [D.v (.int .i64 40)], [D.v (.int .i64 41)]] = iL [-2, -1, 40, 41] := rfl
 have nA : ¬ iL [0, 1, 5, 6] = [] := by simp [iL]
 have nB : ¬ iL [-2, -1, 40, 41] = [] := by simp [iL]
 by_cases h0 : X.1 = 0
 ·rw [if_pos h0]
  generalize hP : pickM [0, 1, 5, 6] bs X.2 = P
  (repeat' (first | (refine gate_a fun _ => ?_) | (refine fork_intro (fun hb => ?_) (fun hb => ?_) <;> (try simp only [ew, hT, hX, h0, eA, hP] at hb)) | (simp only [go_sem, Nat.reduceLeDiff, Nat.reduceEqDiff, reduceIte, reduceCtorEq, Nat.reduceAdd, Nat.reduceMul, Nat.reduceSub, Nat.reduceLT, Int.reduceLT, Int.reduceLE, Int.reduceNeg, Int.reduceToNat, Nat.reduceBEq, Nat.reduceBNe, Int.reduceGE, Int.reduceGT, *, cAny, cTbl, cBelow, cPickI, Tryz.results67, hT, hX, h0, eA, hP])))
  all_goals first | rfl | skip
 ·rw [if_neg h0]
  by_cases h1 : X.1 = 1
  ·rw [if_pos h1]
   generalize hP : pickM [-2, -1, 40, 41] bs X.2 = P
   have q0 : (X.1 == 0) = false := by rw [h1]; rfl
   have q1 : (X.1 == 1) = true := by rw [h1]; rfl
   clear h0 h1
   have eC : [[D.v (.int .i64 1)], [D.v (.int .i64 P.1)]] = iL [1, P.1] := rfl
   (repeat' (first | (refine gate_a fun _ => ?_) | (refine fork_intro (fun hb => ?_) (fun hb => ?_) <;> (try simp only [ew, hT, hX, q0, q1, eB, hP, eC, sL_sn, iL_asc2] at hb)) | (simp only [go_sem, Nat.reduceLeDiff, Nat.reduceEqDiff, reduceIte, reduceCtorEq, Nat.reduceAdd, Nat.reduceMul, Nat.reduceSub, Nat.reduceLT, Int.reduceLT, Int.reduceLE, Int.reduceNeg, Int.reduceToNat, Nat.reduceBEq, Nat.reduceBNe, Int.reduceGE, Int.reduceGT, *, cAny, cTbl, cBelow, cPickI, Tryz.results67, hT, hX, q0, q1, eB, hP, eC, sL_sn, iL_asc2])))
   all_goals first | rfl | skip
  ·rw [if_neg h1]
   have q0 : (X.1 == 0) = false := beq_eq_false_iff_ne.2 h0
   have q1 : (X.1 == 1) = false := beq_eq_false_iff_ne.2 h1
   (repeat' (first | (refine gate_a fun _ => ?_) | (refine fork_intro (fun hb => ?_) (fun hb => ?_) <;> (try simp only [ew, hT, hX, q0, q1] at hb)) | (simp only [go_sem, Nat.reduceLeDiff, Nat.reduceEqDiff, reduceIte, reduceCtorEq, Nat.reduceAdd, Nat.reduceMul, Nat.reduceSub, Nat.reduceLT, Int.reduceLT, Int.reduceLE, Int.reduceNeg, Int.reduceToNat, Nat.reduceBEq, Nat.reduceBNe, Int.reduceGE, Int.reduceGT, *, cAny, cTbl, cBelow, cPickI, Tryz.results67, hT, hX, q0, q1])))
   all_goals first | rfl | skip
end Go.Own
/-
  The draws of dependencies, and of tables with a mode. Conditions: as each theorem states them.
-/
namespace Go.Own
open Go Go.Proofs
theorem tf1b : (true == false) = false := rfl
theorem ft1b : (false == true) = false := rfl
attribute [local go_sem] tf1b ft1b cuO rI rB cuP unB_bL bL_length wfB_bL
def l4M : Dr ((Int × List (List Int)) × Int) := fun bs s =>
 let t := tblM bs s
 let o := onceM 14 bs t.2
 let u := if o.1 then anyM bs o.2 else (t.1, o.2)
 let m := belowM 2 bs u.2
 let q := onceM 20 bs m.2
 if q.1 then ((u.1, (pickM [-1, 2] bs q.2).1), (pickM [-1, 2] bs q.2).2) else ((u.1, m.1), q.2)
theorem l4M_facts {bs : List Int} {s : Cu} : (0 ≤ (l4M bs s).1.1.1 ∧ (l4M bs s).1.1.1 ≤ 6) ∧ (l4M bs s).1.1.2.length ≤ 13 ∧ ∀ r ∈ (l4M bs s).1.1.2, r.length ≤ 4 := by
 have key : ∀ u : (Int × List (List Int)) × Cu, u = (if (onceM 14 bs (tblM bs s).2).1 then anyM bs (onceM 14 bs (tblM bs s).2).2 else ((tblM bs s).1, (onceM 14 bs (tblM bs s).2).2)) → (0 ≤ u.1.1 ∧ u.1.1 ≤ 6) ∧ u.1.2.length ≤ 13 ∧ ∀ r ∈ u.1.2, r.length ≤ 4 := by
  intro u hu
  subst hu
  split
  ·exact ⟨anyM_facts.1, anyM_facts.2.1, fun r hr => (anyM_facts.2.2 r hr).1⟩
  ·obtain ⟨k1, k2, k3⟩ := @tblM_facts bs s
   dsimp only
   exact ⟨by omega, by omega, fun r hr => by have := (k3 r hr).1; omega⟩
 have := key _ rfl
 unfold l4M
 dsimp only
 generalize (if (onceM 14 bs (tblM bs s).2).1 = true then anyM bs (onceM 14 bs (tblM bs s).2).2 else ((tblM bs s).1, (onceM 14 bs (tblM bs s).2).2)) = u at this ⊢
 split <;> exact this
def cL4D : Contract := ⟨[true], false, fun
 | [.box [.sl 1 l, .v (.int .i64 i), .v (.int .i64 h)]] => some (WfB l ∧ 0 ≤ i, [⟨true, [.d (.v (.int .i64 (l4M (unB l) (i.toNat, h)).1.1.1)), .own 1 (sL (l4M (unB l) (i.toNat, h)).1.1.2) 1]⟩, ⟨false, [.d (.v (.int .i64 (l4M (unB l) (i.toNat, h)).1.2))]⟩], cuO l (l4M (unB l) (i.toNat, h)).2)
 | _ => none⟩
theorem l4D_ok : ContractOK E0 25 cL4D := by
 refine contract_of_wpcB (E := E0) (T := mkT Tryz.prog [(65, cTbl), (66, cOnce), (67, cAny), (68, cBelow), (69, cPickI)] false (fun d => d == 17) false (fun _ => false)) (mkT_ok (E := E0) (.cons tbl_ok (.cons once_ok (.cons any_ok (.cons below_ok (.cons pickI_ok .nil)))))) rfl (fn := Tryz.f25) Tryz.func25 (by kernel_rfl) rfl mixedT (by kernel_rfl) rfl rfl (Nat.le_of_ble_eq_true rfl) ?_
 intro args p rs ms hr
 unfold cL4D at hr
 dsimp only at hr
 split at hr
 rotate_left
 ·cases hr
 rename_i l i h
 simp only [Option.some.injEq, Prod.mk.injEq] at hr
 obtain ⟨rfl, rfl, rfl⟩ := hr
 refine ⟨_, _, _, rfl, rfl, rfl, rfl, Nat.le_of_ble_eq_true rfl, ?_⟩
 have hm : maxLen = 9223372036854775807 := rfl
 rintro ⟨h1, h2⟩ bs0
 obtain ⟨bs, rfl, hx⟩ := h1.ex
 clear h1
 rw [unB_bL]
 obtain ⟨i, rfl⟩ := Int.eq_ofNat_of_zero_le h2
 rw [Int.toNat_natCast]
 have f1 := @tblM_facts bs (i, h)
 have f2 := @anyM_facts bs (onceM 14 bs (tblM bs (i, h)).2).2
 generalize hL : l4M bs (i, h) = L
 unfold l4M at hL
 dsimp only at hL
 generalize hT : tblM bs (i, h) = T at *
 obtain ⟨t1, t2, t3⟩ := f1
 have m1 : T.1.2.length ≤ maxLen := Nat.le_trans t2 (by decide)
 have m2 : ∀ r ∈ T.1.2, r.length ≤ maxLen := fun r hr => by have := (t3 r hr).1; omega
 clear t3
 generalize hO : onceM 14 bs T.2 = O at *
 have eB : [[D.v (.int .i64 (-1))], [D.v (.int .i64 2)]] = iL [-1, 2] := rfl
 have nB : ¬ iL [-1, 2] = [] := by simp [iL]
 cases ho : O.1
 ·simp only [ho, Bool.false_eq_true, if_false] at hL
  clear f2
  generalize hM : belowM 2 bs O.2 = M at *
  generalize hQ : onceM 20 bs M.2 = Q at *
  cases hq : Q.1
  ·simp only [hq, Bool.false_eq_true, if_false] at hL
   subst hL
   (repeat' (first | (refine gate_a fun _ => ?_) | (refine fork_intro (fun hb => ?_) (fun hb => ?_) <;> (try simp only [ew, hT, hO, ho, hM, hQ, hq] at hb)) | (simp only [go_sem, Nat.reduceLeDiff, Nat.reduceEqDiff, reduceIte, reduceCtorEq, Nat.reduceAdd, Nat.reduceMul, Nat.reduceSub, Nat.reduceLT, Int.reduceLT, Int.reduceLE, Int.reduceNeg, Int.reduceToNat, Nat.reduceBEq, Nat.reduceBNe, Int.reduceGE, Int.reduceGT, *, cL4D, cTbl, cOnce, cAny, cBelow, cPickI, Tryz.results25, hT, hO, ho, hM, hQ, hq])))
   all_goals first | rfl | skip
  ·simp only [hq, if_true] at hL
   generalize hP : pickM [-1, 2] bs Q.2 = P at *
   subst hL
   (repeat' (first | (refine gate_a fun _ => ?_) | (refine fork_intro (fun hb => ?_) (fun hb => ?_) <;> (try simp only [ew, hT, hO, ho, hM, hQ, hq, eB, hP] at hb)) | (simp only [go_sem, Nat.reduceLeDiff, Nat.reduceEqDiff, reduceIte, reduceCtorEq, Nat.reduceAdd, Nat.reduceMul, Nat.reduceSub, Nat.reduceLT, Int.reduceLT, Int.reduceLE, Int.reduceNeg, Int.reduceToNat, Nat.reduceBEq, Nat.reduceBNe, Int.reduceGE, Int.reduceGT, *, cL4D, cTbl, cOnce, cAny, cBelow, cPickI, Tryz.results25, hT, hO, ho, hM, hQ, hq, eB, hP])))
   all_goals first | rfl | skip
 ·simp only [ho, if_true] at hL
  generalize hA : anyM bs O.2 = A at *
  obtain ⟨a1, a2, a3⟩ := f2
  have m3 : A.1.2.length ≤ maxLen := Nat.le_trans a2 (by decide)
  have m4 : ∀ r ∈ A.1.2, r.length ≤ maxLen := fun r hr => by have := (a3 r hr).1; omega
  clear a3
  generalize hM : belowM 2 bs A.2 = M at *
  generalize hQ : onceM 20 bs M.2 = Q at *
  cases hq : Q.1
  ·simp only [hq, Bool.false_eq_true, if_false] at hL
   subst hL
   (repeat' (first | (refine gate_a fun _ => ?_) | (refine fork_intro (fun hb => ?_) (fun hb => ?_) <;> (try simp only [ew, hT, hO, ho, hA, hM, hQ, hq] at hb)) | (simp only [go_sem, Nat.reduceLeDiff, Nat.reduceEqDiff, reduceIte, reduceCtorEq, Nat.reduceAdd, Nat.reduceMul, Nat.reduceSub, Nat.reduceLT, Int.reduceLT, Int.reduceLE, Int.reduceNeg, Int.reduceToNat, Nat.reduceBEq, Nat.reduceBNe, Int.reduceGE, Int.reduceGT, *, cL4D, cTbl, cOnce, cAny, cBelow, cPickI, Tryz.results25, hT, hO, ho, hA, hM, hQ, hq])))
   all_goals first | rfl | skip
  ·simp only [hq, if_true] at hL
   generalize hP : pickM [-1, 2] bs Q.2 = P at *
   subst hL
   (repeat' (first | (refine gate_a fun _ => ?_) | (refine fork_intro (fun hb => ?_) (fun hb => ?_) <;> (try simp only [ew, hT, hO, ho, hA, hM, hQ, hq, eB, hP] at hb)) | (simp only [go_sem, Nat.reduceLeDiff, Nat.reduceEqDiff, reduceIte, reduceCtorEq, Nat.reduceAdd, Nat.reduceMul, Nat.reduceSub, Nat.reduceLT, Int.reduceLT, Int.reduceLE, Int.reduceNeg, Int.reduceToNat, Nat.reduceBEq, Nat.reduceBNe, Int.reduceGE, Int.reduceGT, *, cL4D, cTbl, cOnce, cAny, cBelow, cPickI, Tryz.results25, hT, hO, ho, hA, hM, hQ, hq, eB, hP])))
   all_goals first | rfl | skip
end Go.Own
/-
  Short codes. Conditions: as each theorem states them.
-/
namespace Go.Own
open Go Go.Proofs
theorem tf1 : (true == false) = false := rfl
theorem ft1 : (false == true) = false := rfl
attribute [local go_sem] tf1 ft1 unB_bL bL_length wfB_bL unD_dL dL_length dL_get dL_set dL_inj wfD_dL scal2 beq2 pair_eta
attribute [local go_sem] tf1 ft1 unB_bL bL_length wfB_bL unD_dL dL_length dL_get dL_set dL_inj wfD_dL scal2 beq2 pair_eta
def cBig : Contract := ⟨[], false, fun
 | [.one (.sl 1 l)] => some (WfB l, [⟨false, [.d (.v (.bool (decide (l.length > 1048576))))]⟩], [])
 | _ => none⟩
theorem big_ok : ContractOK E0 4 cBig := by
 refine contract_of_wpc (E := E0) (T := mkT Tryz.prog [] false (fun _ => false) true (fun _ => false)) (mkT_ok (E := E0) .nil) (fn := Tryz.f4) Tryz.func4 (by kernel_rfl) rfl mixedT (by kernel_rfl) rfl ?_
 intro args p rs ms hr
 unfold cBig at hr
 dsimp only at hr
 split at hr
 rotate_left
 ·cases hr
 rename_i l
 simp only [Option.some.injEq, Prod.mk.injEq] at hr
 obtain ⟨rfl, rfl, rfl⟩ := hr
 refine ⟨rfl, rfl, Nat.le_of_ble_eq_true rfl, ?_⟩
 have hm : maxLen = 9223372036854775807 := rfl
 rintro h1 bs0
 obtain ⟨bs, rfl, hx⟩ := h1.ex
 clear h1
 (repeat' (first | (refine gate_a fun _ => ?_) | (refine fork_intro (fun hb => ?_) (fun hb => ?_) <;> (try simp only [ew] at hb)) | (simp only [go_sem, Nat.reduceLeDiff, Nat.reduceEqDiff, reduceIte, reduceCtorEq, Nat.reduceAdd, Nat.reduceMul, Nat.reduceSub, Nat.reduceLT, Int.reduceLT, Int.reduceLE, Int.reduceNeg, Int.reduceToNat, Nat.reduceBEq, Nat.reduceBNe, Int.reduceGE, Int.reduceGT, *, cBig, Tryz.results4])))
 all_goals first | rfl | (rw [decide_eq_decide]; omega)
def cLawC : Contract := ⟨[], false, fun
 | [.one (.sl 1 l)] => some (WfB l ∧ ∀ b ∈ unB l, 0 ≤ b ∧ b ≤ 255, [⟨false, [.d (.v (.bool true))]⟩], [])
 | _ => none⟩
end Go.Own
