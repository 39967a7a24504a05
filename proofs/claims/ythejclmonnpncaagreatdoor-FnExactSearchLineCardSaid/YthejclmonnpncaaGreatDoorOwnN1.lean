/-
  Numbers as text. Conditions: as each theorem states them.
-/
import Derived.Test.YthejclmonnpncaaGreatDoorOwnG6
import Derived.Lib.ItoaNum
namespace Go.Own
open Go Go.Proofs
set_option linter.unusedSimpArgs false
set_option linter.unusedVariables false
set_option maxRecDepth 20000
set_option maxHeartbeats 2000000

attribute [local go_sem] unB_bL bL_length bL_snoc

def numL (n : Int) : List Int := if n = 0 then [48] else dgF 20 n []
def numB (n : Int) : ByteArray := baOf (numL n)
theorem numB_zero : numB 0 = baOf [48] := rfl
theorem numB_pos {n : Int} (h : ¬ n = 0) : numB n = baOf (dgF 20 n []) := by unfold numB numL; rw [if_neg h]
/-- The digits, as the library has them. -/
def byL (l : List UInt8) : List Int := l.map fun b => ((b.toNat : Nat) : Int)
theorem dg_dec : ∀ (j : Nat) (n : Nat) (acc : List Int), 0 < n → n < 10 ^ j → dgF j (n : Nat) acc = byL (Lib.decDigits n) ++ acc := by
  intro j
  induction j with
  | zero => intro n acc h1 h2; simp at h2; omega
  | succ j ih =>
    intro n acc h1 h2
    rw [dgF_go (by omega)]
    have e1 : ((n : Nat) : Int) / 10 = ((n / 10 : Nat) : Int) := by omega
    have e2 : ((n : Nat) : Int) % 10 = ((n % 10 : Nat) : Int) := by omega
    rw [e1, e2]
    have hb : ∀ d : Nat, d < 10 → byL [UInt8.ofNat (48 + d)] = [48 + ((d : Nat) : Int)] := by
      intro d hd
      have : d = 0 ∨ d = 1 ∨ d = 2 ∨ d = 3 ∨ d = 4 ∨ d = 5 ∨ d = 6 ∨ d = 7 ∨ d = 8 ∨ d = 9 := by omega
      rcases this with rfl | rfl | rfl | rfl | rfl | rfl | rfl | rfl | rfl | rfl <;> rfl
    by_cases h : n < 10
    · have e3 : n / 10 = 0 := by omega
      have e4 : n % 10 = n := by omega
      rw [e3, e4]
      rw [show ((0 : Nat) : Int) = 0 from rfl, dgF_zero, Lib.decDigits_one h, hb n h]
      rfl
    · rw [ih (n / 10) _ (by omega) (by rw [Nat.pow_succ] at h2; omega)]
      have eD : Lib.decDigits n = Lib.decDigits (n / 10) ++ [UInt8.ofNat (48 + n % 10)] := by rw [Lib.decDigits.eq_def n, dif_neg h]
      rw [eD]
      unfold byL at *
      rw [List.map_append, hb (n % 10) (by omega), List.append_assoc]
      rfl
theorem byL_push : ∀ (l : List UInt8), (baOf (byL l)).data.toList = l := by
  intro l
  have : ∀ (l : List UInt8) (r : ByteArray), ((byL l).foldl (fun r n => r.push (UInt8.ofNat n.toNat)) r).data.toList = r.data.toList ++ l := by
    intro l
    induction l with
    | nil => intro r; simp [byL]
    | cons b l ih =>
      intro r
      simp only [byL, List.map_cons, List.foldl_cons] at ih ⊢
      rw [ih]
      have : (r.push (UInt8.ofNat ((b.toNat : Nat) : Int).toNat)).data.toList = r.data.toList ++ [b] := by
        simp [ByteArray.push]
      rw [this, List.append_assoc]; rfl
  have h := this l ByteArray.empty
  unfold baOf
  rw [h]; rfl
theorem numB_itoa {n : Int} (h0 : 0 ≤ n) (h1 : n ≤ 9223372036854775807) : numB n = ⟨(Lib.itoa n).toArray⟩ := by
  obtain ⟨k, rfl⟩ := Int.eq_ofNat_of_zero_le h0
  have e : Lib.itoa ((k : Nat) : Int) = Lib.decDigits k := by unfold Lib.itoa; rw [if_neg (by omega), Int.toNat_natCast]
  rw [e]
  have key : numL ((k : Nat) : Int) = byL (Lib.decDigits k) := by
    unfold numL
    by_cases hk : k = 0
    · subst hk; rw [Lib.decDigits_one (by omega)]; rfl
    · rw [if_neg (by omega), dg_dec 20 k [] (by omega) (by have : (9223372036854775807 : Nat) < 10 ^ 20 := by decide
                                                           omega), List.append_nil]
  unfold numB
  rw [key]
  have := byL_push (Lib.decDigits k)
  cases hx : baOf (byL (Lib.decDigits k)) with
  | mk d =>
    rw [hx] at this
    congr 1
    apply Array.toList_inj.1
    simpa using this
def cNum : Contract := ⟨[], false, fun
  | [.one (.v (.int .i64 n))] => some (0 ≤ n ∧ n ≤ 999999, [⟨false, [.d (.v (.string (numB n)))]⟩], [])
  | _ => none⟩
theorem numS_ok : ContractOK E0 12 cNum := by
  refine contract_of_wpc (E := E0) (T := mkT Tryz.prog [] false (fun _ => false) true (fun _ => false)) (mkT_ok (E := E0) .nil) (fn := Tryz.f12) Tryz.func12 (by kernel_rfl) rfl mixedT (by kernel_rfl) rfl ?_
  intro args p rs ms hr
  unfold cNum at hr
  dsimp only at hr
  split at hr
  rotate_left
  · cases hr
  rename_i k
  simp only [Option.some.injEq, Prod.mk.injEq] at hr
  obtain ⟨rfl, rfl, rfl⟩ := hr
  refine ⟨rfl, rfl, Nat.le_of_ble_eq_true rfl, ?_⟩
  have hm : maxLen = 9223372036854775807 := rfl
  rintro ⟨h1, h2⟩ bs
  by_cases hk : k = 0
  · subst hk
    rw [numB_zero]
    have eb : (⟨#[48]⟩ : ByteArray) = baOf [48] := rfl
    (repeat' (first
      | (refine gate_a fun _ => ?_)
      | (refine fork_intro (fun hb => ?_) (fun hb => ?_) <;> (try simp only [ew, eb] at hb))
      | (simp only [go_sem, Nat.reduceLeDiff, Nat.reduceEqDiff, reduceIte, reduceCtorEq, Nat.reduceAdd, Nat.reduceMul, Nat.reduceSub, Nat.reduceLT, Int.reduceLT, Int.reduceLE, Int.reduceNeg, Int.reduceToNat, Nat.reduceBEq, Nat.reduceBNe, Int.reduceGE, Int.reduceGT, *, cNum, Tryz.results12, eb])))
    all_goals first | rfl | skip
  · rw [numB_pos hk]
    have hk2 : (k == 0) = false := beq_eq_false_iff_ne.2 hk
    have hk3 : decide (k < 0) = false := decide_eq_false (by omega)
    have e0 : (⟨#[]⟩ : ByteArray) = baOf [] := rfl
    generalize hF : dgF 20 k [] = F
    (repeat' (first
      | (refine gate_a fun _ => ?_)
      | (refine fork_intro (fun hb => ?_) (fun hb => ?_) <;> (try simp only [ew, hk2, hk3, e0] at hb))
      | (simp only [go_sem, Nat.reduceLeDiff, Nat.reduceEqDiff, reduceIte, reduceCtorEq, Nat.reduceAdd, Nat.reduceMul, Nat.reduceSub, Nat.reduceLT, Int.reduceLT, Int.reduceLE, Int.reduceNeg, Int.reduceToNat, Nat.reduceBEq, Nat.reduceBNe, Int.reduceGE, Int.reduceGT, *, cNum, Tryz.results12, hk2, hk3, e0])))
    refine loop_intro { ι := Nat × Int × List Int, rs := [(5, 6), (10, 27)], mods := [(0, fun i => .one (.d (.v (.int .i64 i.2.1)))), (3, fun i => .one (.d (.v (.string (baOf i.2.2)))))], boxes := [], arrs := [], ok := fun i => ((0 ≤ i.2.1 ∧ i.2.1 ≤ 1125899906842625) ∧ i.2.1 < 10 ^ i.1) ∧ (i.1 ≤ 20 ∧ i.2.2.length + i.1 ≤ 20) ∧ dgF i.1 i.2.1 i.2.2 = F, mu := fun i => i.1 } rfl (20, k, []) ⟨⟨⟨h1, by dsimp only; omega⟩, by dsimp only; omega⟩, ⟨by dsimp only; omega, by simp⟩, hF⟩ ?_ ?_
    · (repeat' (first
      | (refine gate_a fun _ => ?_)
      | (refine fork_intro (fun hb => ?_) (fun hb => ?_) <;> (try simp only [ew, e0] at hb))
      | (simp only [go_sem, Nat.reduceLeDiff, Nat.reduceEqDiff, reduceIte, reduceCtorEq, Nat.reduceAdd, Nat.reduceMul, Nat.reduceSub, Nat.reduceLT, Int.reduceLT, Int.reduceLE, Int.reduceNeg, Int.reduceToNat, Nat.reduceBEq, Nat.reduceBNe, Int.reduceGE, Int.reduceGT, *, cNum, Tryz.results12, e0])))
      all_goals first | rfl | skip
    · rintro ⟨j, m, acc⟩ hi
      dsimp only at hi
      obtain ⟨⟨⟨m0, mK⟩, mj⟩, ⟨j20, ja⟩, ht⟩ := hi
      clear hF hk2 hk3
      by_cases h5 : m > 0
      · have h5' : (m != 0) = true := by rw [bne_iff_ne]; omega
        cases j with
        | zero => exfalso; simp at mj; omega
        | succ j =>
          rw [dgF_go (by omega)] at ht
          rw [p10s] at mj
          have mj2 : m / 10 < 10 ^ j := by
            generalize (10 : Int) ^ j = p at mj
            omega
          have e1 : m.tmod 10 = m % 10 := Int.tmod_eq_emod_of_nonneg m0
          have e2 : m.tdiv 10 = m / 10 := Int.tdiv_eq_ediv_of_nonneg m0
          have r0 : 0 ≤ m % 10 := by omega
          have r10 : m % 10 < 10 := by omega
          have r1 : decide (m % 10 < 0) = false := decide_eq_false (by omega)
          have ew := wrap48 r0 r10
          have eb : baOf [48 + m % 10] ++ baOf acc = baOf ((48 + m % 10) :: acc) := by rw [baOf_append]; rfl
          (repeat' (first
      | (refine gate_a fun _ => ?_)
      | (refine fork_intro (fun hb => ?_) (fun hb => ?_) <;> (try simp only [ew, e1, e2, r1, ew, eb, baOf_size, h5'] at hb))
      | (simp only [go_sem, Nat.reduceLeDiff, Nat.reduceEqDiff, reduceIte, reduceCtorEq, Nat.reduceAdd, Nat.reduceMul, Nat.reduceSub, Nat.reduceLT, Int.reduceLT, Int.reduceLE, Int.reduceNeg, Int.reduceToNat, Nat.reduceBEq, Nat.reduceBNe, Int.reduceGE, Int.reduceGT, *, cNum, Tryz.results12, e1, e2, r1, ew, eb, baOf_size, h5'])))
          refine loop_next (j, m / 10, (48 + m % 10) :: acc) ⟨⟨⟨by dsimp only; omega, by dsimp only; omega⟩, mj2⟩, ⟨by dsimp only; omega, by dsimp only [List.length_cons]; omega⟩, ht⟩ (by dsimp only; omega) ?_
          clear ht
          (repeat' (first
      | (refine gate_a fun _ => ?_)
      | (refine fork_intro (fun hb => ?_) (fun hb => ?_) <;> (try simp only [ew, e1, e2, ew, eb] at hb))
      | (simp only [go_sem, Nat.reduceLeDiff, Nat.reduceEqDiff, reduceIte, reduceCtorEq, Nat.reduceAdd, Nat.reduceMul, Nat.reduceSub, Nat.reduceLT, Int.reduceLT, Int.reduceLE, Int.reduceNeg, Int.reduceToNat, Nat.reduceBEq, Nat.reduceBNe, Int.reduceGE, Int.reduceGT, *, cNum, Tryz.results12, e1, e2, ew, eb])))
      · have h5' : (m != 0) = false := by rw [bne_eq_false_iff_eq]; omega
        have em : m = 0 := by omega
        subst em
        rw [dgF_zero] at ht
        subst ht
        (repeat' (first
      | (refine gate_a fun _ => ?_)
      | (refine fork_intro (fun hb => ?_) (fun hb => ?_) <;> (try simp only [ew, h5', baOf_size] at hb))
      | (simp only [go_sem, Nat.reduceLeDiff, Nat.reduceEqDiff, reduceIte, reduceCtorEq, Nat.reduceAdd, Nat.reduceMul, Nat.reduceSub, Nat.reduceLT, Int.reduceLT, Int.reduceLE, Int.reduceNeg, Int.reduceToNat, Nat.reduceBEq, Nat.reduceBNe, Int.reduceGE, Int.reduceGT, *, cNum, Tryz.results12, h5', baOf_size])))
        all_goals first | rfl | skip
end Go.Own
