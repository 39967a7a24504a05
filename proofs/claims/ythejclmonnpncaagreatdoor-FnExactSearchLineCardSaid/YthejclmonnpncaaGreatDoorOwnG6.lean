import Derived.Test.YthejclmonnpncaaGreatDoorOwnG3
namespace Go.Own
open Go Go.Proofs
set_option linter.unusedSimpArgs false
set_option linter.unusedVariables false
set_option maxRecDepth 20000
set_option maxHeartbeats 2000000


theorem tL_get {ss : List ByteArray} {i : Nat} (h : i < ss.length) : (tL ss).getD i [] = [D.v (.string (ss.getD i ⟨#[]⟩))] := by
  simp [tL, List.getD_eq_getElem?_getD, h]
theorem tL_set {ss : List ByteArray} {i : Nat} {s : ByteArray} : (tL ss).set i [D.v (.string s)] = tL (ss.set i s) := by
  simp [tL, List.map_set]
theorem tL_inj {xs ys : List ByteArray} : tL xs = tL ys ↔ xs = ys := by
  constructor
  · intro h
    have := congrArg unT h
    simpa only [unT_tL] using this
  · rintro rfl; rfl
theorem tL_scal {xs : List ByteArray} : (∀ e ∈ tL xs, ∀ x ∈ e, Scalar x) ↔ True := by
  refine ⟨fun _ => trivial, fun _ e he x hx => ?_⟩
  obtain ⟨n, _, rfl⟩ := List.mem_map.1 he
  simp at hx
  subst hx
  trivial
theorem WfL.ex {l : List (List D)} (h : WfL l) : ∃ xs, l = tL xs ∧ xs.length ≤ maxLen := ⟨unT l, h.1, by have := h.2; rw [h.1, tL_length] at this; exact this⟩
theorem ba_beq (a b : ByteArray) : (a == b) = decide (a = b) := by
  obtain ⟨x⟩ := a; obtain ⟨y⟩ := b
  show (x == y) = _
  rw [Bool.eq_iff_iff, beq_iff_eq, decide_eq_true_iff, ByteArray.mk.injEq]
instance : LawfulBEq ByteArray where
  eq_of_beq := by intro a b h; rw [ba_beq] at h; exact of_decide_eq_true h
  rfl := by intro a; rw [ba_beq]; exact decide_eq_true rfl
theorem str_eq {a b : ByteArray} : (a.toList == b.toList) = (a == b) := by
  rw [ByteArray.toList_eq, ByteArray.toList_eq, Bool.eq_iff_iff, beq_iff_eq, beq_iff_eq]
  exact ⟨ba_ext, fun h => by rw [h]⟩

attribute [local go_sem] unB_bL bL_length bL_snoc unT_tL tL_length tL_snoc wfL_tL tL_get tL_set tL_inj tL_scal

/-! Equal lists of strings. -/
def cEqT : Contract := ⟨[], false, fun
  | [.one (.sl 1 a), .one (.sl 1 b)] => some (WfL a ∧ WfL b, [⟨false, [.d (.v (.bool (unT a == unT b)))]⟩], [])
  | _ => none⟩
theorem not_lenT {xs ys : List ByteArray} (h : ¬ (xs.length : Int) = ys.length) : (xs == ys) = false := beq_eq_false_iff_ne.2 fun e => h (by rw [e])
/-! The text of a mark. -/
def cMT : Contract := ⟨[], false, fun
  | [.one (.v (.int .i64 k))] => some (0 ≤ k ∧ k ≤ 1125899906842625, [⟨false, [.d (.v (.string (mt k)))]⟩], [])
  | _ => none⟩
theorem wrap48 {m : Int} (h0 : 0 ≤ m) (h5 : m < 10) : IntKind.wrap .u8 (48 + m) = 48 + m := by
  have : m = 0 ∨ m = 1 ∨ m = 2 ∨ m = 3 ∨ m = 4 ∨ m = 5 ∨ m = 6 ∨ m = 7 ∨ m = 8 ∨ m = 9 := by omega
  rcases this with rfl | rfl | rfl | rfl | rfl | rfl | rfl | rfl | rfl | rfl <;> rfl
theorem m0_ba : (⟨#[109, 48]⟩ : ByteArray) = baOf [109, 48] := rfl
theorem m_ba : (⟨#[109]⟩ : ByteArray) = baOf [109] := rfl
theorem mt_le {k : Int} (h : k ≤ 0) : mt k = ⟨#[109, 48]⟩ := by unfold mt mtL; rw [if_pos h]; rfl
theorem mt_gt {k : Int} (h : ¬ k ≤ 0) : mt k = ⟨#[109]⟩ ++ baOf (dgF 20 k []) := by
  unfold mt mtL; rw [if_neg h, m_ba, baOf_append]; rfl
theorem p10s (j : Nat) : (10 : Int) ^ (j + 1) = 10 * 10 ^ j := by rw [Int.pow_succ]; omega
theorem one_size : ByteArray.size ⟨#[109]⟩ = 1 := rfl

end Go.Own
