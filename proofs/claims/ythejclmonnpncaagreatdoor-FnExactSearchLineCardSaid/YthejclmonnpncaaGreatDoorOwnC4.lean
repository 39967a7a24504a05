import Derived.Test.YthejclmonnpncaaGreatDoorOwnZ5
namespace Go.Own
open Go Go.Proofs
set_option linter.unusedSimpArgs false
set_option linter.unusedVariables false
set_option maxRecDepth 20000
set_option maxHeartbeats 2000000

/-! Marks. -/
def marks (k : Int) (n : Nat) : List Int := (List.range n).map fun i => k + (i : Nat)
def tot : List (List Int) → Int
  | [] => 0
  | r :: rs => r.length + tot rs
def markRows : List (List Int) → Int → List (List Int)
  | [], _ => []
  | r :: rs, k => marks k r.length :: markRows rs (k + r.length)
def heldI (xs : List Int) (k : Int) : Int := if xs = marks k xs.length then k + xs.length else -1
def heldL : List (List Int) → Int → Int
  | [], k => k
  | r :: rs, k => if heldI r k < 0 then -1 else heldL rs (heldI r k)

theorem marks_length {k : Int} {n : Nat} : (marks k n).length = n := by simp [marks]
theorem marks_succ {k : Int} {n : Nat} : marks k (n + 1) = marks k n ++ [k + n] := by simp [marks, List.range_succ]
theorem tot_nonneg : ∀ {rs : List (List Int)}, 0 ≤ tot rs
  | [] => Int.le_refl _
  | r :: rs => by have := @tot_nonneg rs; simp only [tot]; omega
theorem tot_append : ∀ {rs ss : List (List Int)}, tot (rs ++ ss) = tot rs + tot ss
  | [], ss => by simp [tot]
  | r :: rs, ss => by simp only [List.cons_append, tot, tot_append]; omega
theorem markRows_length : ∀ {rs : List (List Int)} {k : Int}, (markRows rs k).length = rs.length
  | [], k => rfl
  | r :: rs, k => by simp [markRows, markRows_length]
theorem markRows_append : ∀ {rs ss : List (List Int)} {k : Int}, markRows (rs ++ ss) k = markRows rs k ++ markRows ss (k + tot rs)
  | [], ss, k => by simp [markRows, tot]
  | r :: rs, ss, k => by simp only [List.cons_append, markRows, tot, markRows_append]; rw [show k + (r.length : Int) + tot rs = k + (r.length + tot rs) by omega]
theorem heldI_marks {k : Int} {n : Nat} : heldI (marks k n) k = k + n := by simp [heldI, marks_length]
theorem heldL_marks : ∀ {rs : List (List Int)} {k : Int}, 0 ≤ k → heldL (markRows rs k) k = k + tot rs
  | [], k, _ => by simp [markRows, heldL, tot]
  | r :: rs, k, h => by
    simp only [markRows, heldL, heldI_marks, tot]
    rw [if_neg (by omega), heldL_marks (by omega)]
    omega
theorem markRows_lens : ∀ {rs : List (List Int)} {k : Int}, (markRows rs k).map List.length = rs.map List.length
  | [], k => rfl
  | r :: rs, k => by simp [markRows, markRows_lens, marks_length]

/-! laws.markIntS -/
def cMarkI : Contract := ⟨[true], false, fun
  | [.arr 1 l _, .one (.v (.int .i64 k))] => some (WfI l ∧ l.length ≤ 16777216 ∧ 0 ≤ k ∧ k ≤ 1125899906842624, [⟨false, [.d (.v (.int .i64 (k + l.length)))]⟩], [.arr 1 (iL (marks k l.length)) 1])
  | _ => none⟩

theorem mark_set {xs : List Int} {k : Int} {i : Nat} (h : i < xs.length) : (marks k i ++ xs.drop i).set i (k + i) = marks k (i + 1) ++ xs.drop (i + 1) := by
  rw [List.set_append_right _ _ (by rw [marks_length]; omega), marks_length, Nat.sub_self, drop_getD h 0, List.set_cons_zero, marks_succ]; simp

/-! laws.markIntSS -/
def cMarkSS : Contract := ⟨[true], false, fun
  | [.arr 1 l _, .one (.v (.int .i64 k))] => some (WfS l ∧ (l.length ≤ 16777216 ∧ ∀ r ∈ unS l, r.length ≤ 16777216) ∧ 0 ≤ k ∧ k + tot (unS l) ≤ 1125899906842624, [⟨false, [.d (.v (.int .i64 (k + tot (unS l))))]⟩], [.arr 1 (sL (markRows (unS l) k)) 1])
  | _ => none⟩

def mR (rs : List (List Int)) (k : Int) (i : Nat) : List (List Int) := markRows (rs.take i) k ++ rs.drop i
theorem mR_length {rs : List (List Int)} {k : Int} {i : Nat} : (mR rs k i).length = rs.length := by
  simp only [mR, List.length_append, markRows_length, List.length_take, List.length_drop]; omega
theorem mR_get {rs : List (List Int)} {k : Int} {i : Nat} (h : i < rs.length) : (mR rs k i).getD i [] = rs.getD i [] := by
  have e : (markRows (rs.take i) k).length = i := by rw [markRows_length, List.length_take]; omega
  unfold mR
  rw [List.getD_eq_getElem?_getD, List.getElem?_append_right (by omega), e, Nat.sub_self, drop_getD h []]; simp
theorem tot_take {rs : List (List Int)} {i : Nat} (h : i < rs.length) : tot (rs.take (i + 1)) = tot (rs.take i) + (rs.getD i []).length := by
  rw [take_succ_getD h [], tot_append]; simp [tot]
theorem mR_set {rs : List (List Int)} {k : Int} {i : Nat} (h : i < rs.length) : (mR rs k i).set i (marks (k + tot (rs.take i)) (rs.getD i []).length) = mR rs k (i + 1) := by
  have e : (markRows (rs.take i) k).length = i := by rw [markRows_length, List.length_take]; omega
  unfold mR
  rw [List.set_append_right _ _ (by omega), e, Nat.sub_self, drop_getD h [], List.set_cons_zero, take_succ_getD h [], markRows_append]
  simp [markRows]
theorem sL_set1 {rs : List (List Int)} {i : Nat} {r : List Int} : (sL rs).set i [D.sl 1 (iL r)] = sL (rs.set i r) := by
  simp [sL, List.map_set]
theorem tot_split {rs : List (List Int)} (i : Nat) : tot rs = tot (rs.take i) + tot (rs.drop i) := by
  conv => lhs; rw [← List.take_append_drop i rs, tot_append]

/-! laws.heldIntS -/
def cHeldI : Contract := ⟨[], false, fun
  | [.one (.sl 1 l), .one (.v (.int .i64 k))] => some (WfI l ∧ l.length ≤ 16777216 ∧ 0 ≤ k ∧ k ≤ 1125899906842624, [⟨false, [.d (.v (.int .i64 (heldI (unI l) k)))]⟩], [])
  | _ => none⟩

theorem marks_getD {k : Int} {n i : Nat} (h : i < n) : (marks k n).getD i 0 = k + i := by
  simp [marks, List.getD_eq_getElem?_getD, h]

/-! laws.heldIntSS -/
def cHeldSS : Contract := ⟨[], false, fun
  | [.one (.sl 1 l), .one (.v (.int .i64 k))] => some (WfS l ∧ (l.length ≤ 16777216 ∧ ∀ r ∈ unS l, r.length ≤ 16777216) ∧ 0 ≤ k ∧ k + tot (unS l) ≤ 1125899906842624, [⟨false, [.d (.v (.int .i64 (heldL (unS l) k)))]⟩], [])
  | _ => none⟩

theorem heldI_le {xs : List Int} {k : Int} (h : ¬ heldI xs k < 0) : heldI xs k = k + xs.length := by
  unfold heldI at *
  split at h
  · rw [if_pos ‹_›]
  · omega

/-! laws.markTable, laws.heldTable -/
def cMarkT : Contract := ⟨[true], false, fun
  | [.mag [.inl (.v (.int .i64 c)), .inr (1, l, _)], .one (.v (.int .i64 k))] => some (WfS l ∧ (l.length ≤ 16777216 ∧ ∀ r ∈ unS l, r.length ≤ 16777216) ∧ 0 ≤ k ∧ k + tot (unS l) ≤ 1125899906842624, [⟨false, [.d (.v (.int .i64 (k + tot (unS l))))]⟩], [.mag [.inl (.v (.int .i64 c)), .inr (1, sL (markRows (unS l) k), 1)]])
  | _ => none⟩

def cHeldT : Contract := ⟨[], false, fun
  | [.agg [.v (.int .i64 c), .sl 1 l], .one (.v (.int .i64 k))] => some (WfS l ∧ (l.length ≤ 16777216 ∧ ∀ r ∈ unS l, r.length ≤ 16777216) ∧ 0 ≤ k ∧ k + tot (unS l) ≤ 1125899906842624, [⟨false, [.d (.v (.int .i64 (heldL (unS l) k)))]⟩], [])
  | _ => none⟩

theorem heldL_neg : ∀ {rs : List (List Int)} {k : Int}, 0 ≤ k → heldL rs k < 0 → heldL rs k = -1
  | [], k, h, h1 => by simp [heldL] at h1; omega
  | r :: rs, k, h, h1 => by
    simp only [heldL] at h1 ⊢
    split
    · rfl
    · rw [if_neg ‹_›] at h1
      exact heldL_neg (by omega) h1

end Go.Own
