/-
  Own calculus, part A: data that memory is read as ('D'), and the reading itself ('Reps') with its frame law. Conditions: none (plain definitions and lemmas over the model's heap).
-/
import Derived.Orders
import Derived.Laws.AppendOwn
import Derived.RowKit3
namespace Go.Own
open Go
set_option linter.unusedVariables false
set_option linter.unusedSimpArgs false

/-- A datum of one cell: a value that holds no memory, or a slice: the elements' size in cells, the elements, each a list of cells. -/
inductive D where
  | v (x : Value)
  | sl (s : Nat) (l : List (List D))
  deriving Inhabited

abbrev Heap := Array Obj

/-- The cells 'vs' read as the data 'ds'; 'F': the blocks that the reading meets. 'W': each slice is the head of a row of its own that may be written. -/
inductive RepsW (W : Bool) (h : Heap) : List D → List Value → List Nat → Prop
  | nil : RepsW W h [] [] []
  | v {x ds vs F} : x.oneCell' = true → RepsW W h ds vs F → RepsW W h (.v x :: ds) (x :: vs) F
  | none {s ds vs F} {a : Option Addr} : (W = true → a = Option.none) → RepsW W h ds vs F → RepsW W h (.sl s [] :: ds) (.slice a 0 0 :: vs) F
  | sl {s l b off cap c e fz G ds vs F} : (W = true → off = 0 ∧ fz = (0, 0) ∧ c.size = cap * s) → h[b]? = some (.cells c e fz) → l.length ≤ cap → cap ≤ maxLen → off + l.length * s ≤ c.size → (∀ x ∈ l, x.length = s) →
      RepsW W h l.flatten ((c.toList.drop off).take (l.length * s)) G → RepsW W h ds vs F →
      RepsW W h (.sl s l :: ds) (.slice (some ⟨b, off, Option.none⟩) l.length cap :: vs) (b :: (G ++ F))

abbrev Reps (h : Heap) : List D → List Value → List Nat → Prop := RepsW false h

theorem RepsW.weak {W : Bool} {h : Heap} {ds vs F} (r : RepsW W h ds vs F) : Reps h ds vs F := by
  induction r with
  | nil => exact .nil
  | v h1 _ ih => exact .v h1 ih
  | none _ _ ih => exact .none (fun h => nomatch h) ih
  | sl _ a1 a2 a3 a4 a5 _ _ ih1 ih2 => exact .sl (fun h => nomatch h) a1 a2 a3 a4 a5 ih1 ih2

theorem RepsW.length {W : Bool} {h : Heap} {ds vs F} (r : RepsW W h ds vs F) : ds.length = vs.length := by
  induction r with
  | nil => rfl
  | v _ _ ih => simp [ih]
  | none _ _ ih => simp [ih]
  | sl _ _ _ _ _ _ _ _ _ ih => simp [ih]

theorem RepsW.frame {W : Bool} {h h' : Heap} {ds vs F} (r : RepsW W h ds vs F) (hf : ∀ b ∈ F, h'[b]? = h[b]?) : RepsW W h' ds vs F := by
  induction r with
  | nil => exact .nil
  | v hx _ ih => exact .v hx (ih hf)
  | none _ _ ih => exact .none ‹_› (ih hf)
  | sl q hb h1 h2 h3 h4 _ _ ih1 ih2 =>
    refine .sl q (by rw [hf _ (by simp)]; exact hb) h1 h2 h3 h4 (ih1 fun b hb => hf b (by simp [hb])) (ih2 fun b hb => hf b (by simp [hb]))

theorem RepsW.lt {W : Bool} {h : Heap} {ds vs F} (r : RepsW W h ds vs F) : ∀ b ∈ F, b < h.size := by
  induction r with
  | nil => simp
  | v _ _ ih => exact ih
  | none _ _ ih => exact ih
  | sl _ hb _ _ _ _ _ _ ih1 ih2 =>
    intro b hm
    simp only [List.mem_cons, List.mem_append] at hm
    rcases hm with rfl | hm | hm
    · exact (Array.getElem?_eq_some_iff.1 hb).1
    · exact ih1 b hm
    · exact ih2 b hm

theorem RepsW.append {W : Bool} {h : Heap} {ds vs F ds' vs' F'} (r : RepsW W h ds vs F) (r' : RepsW W h ds' vs' F') : RepsW W h (ds ++ ds') (vs ++ vs') (F ++ F') := by
  induction r with
  | nil => exact r'
  | v hx _ ih => exact .v hx ih
  | none _ _ ih => exact .none ‹_› ih
  | sl q hb h1 h2 h3 h4 hi _ _ ih2 =>
    simp only [List.cons_append, List.append_assoc]
    exact .sl q hb h1 h2 h3 h4 hi ih2

theorem RepsW.split {W : Bool} {h : Heap} : ∀ (ds ds' : List D) {vs F}, RepsW W h (ds ++ ds') vs F → ∃ vs1 vs2 F1 F2, vs = vs1 ++ vs2 ∧ F = F1 ++ F2 ∧ RepsW W h ds vs1 F1 ∧ RepsW W h ds' vs2 F2
  | [], ds', vs, F, r => ⟨[], vs, [], F, rfl, rfl, .nil, r⟩
  | d :: ds, ds', vs, F, r => by
    cases r with
    | v hx r =>
      obtain ⟨vs1, vs2, F1, F2, rfl, rfl, r1, r2⟩ := RepsW.split ds ds' r
      exact ⟨_ :: vs1, vs2, F1, F2, rfl, rfl, .v hx r1, r2⟩
    | none q r =>
      obtain ⟨vs1, vs2, F1, F2, rfl, rfl, r1, r2⟩ := RepsW.split ds ds' r
      exact ⟨_ :: vs1, vs2, F1, F2, rfl, rfl, .none q r1, r2⟩
    | sl q hb h1 h2 h3 h4 hi r =>
      obtain ⟨vs1, vs2, F1, F2, rfl, rfl, r1, r2⟩ := RepsW.split ds ds' r
      exact ⟨_ :: vs1, vs2, _, F2, rfl, by simp, .sl q hb h1 h2 h3 h4 hi r1, r2⟩

/-- One cell out of a reading. -/
theorem RepsW.cons_inv {W : Bool} {h : Heap} {d : D} {ds v vs F} (r : RepsW W h (d :: ds) (v :: vs) F) : ∃ F1 F2, F = F1 ++ F2 ∧ RepsW W h [d] [v] F1 ∧ RepsW W h ds vs F2 := by
  obtain ⟨vs1, vs2, F1, F2, hv, hF, r1, r2⟩ := RepsW.split [d] ds (by simpa using r)
  have h1 := r1.length
  match vs1, h1 with
  | [x], _ =>
    simp only [List.cons_append, List.nil_append, List.cons.injEq] at hv
    obtain ⟨rfl, rfl⟩ := hv
    exact ⟨F1, F2, hF, r1, r2⟩

theorem RepsW.cons {W : Bool} {h : Heap} {d : D} {ds v vs F1 F2} (r1 : RepsW W h [d] [v] F1) (r2 : RepsW W h ds vs F2) : RepsW W h (d :: ds) (v :: vs) (F1 ++ F2) := by
  simpa using RepsW.append r1 r2

/-- The elements of a list of lists of one length: the i-th, between what stands before and after. -/
theorem flatten_at {α : Type} : ∀ (l : List (List α)) (s i : Nat) (_ : ∀ x ∈ l, x.length = s) (hi : i < l.length),
    l.flatten = (l.take i).flatten ++ (l[i] ++ (l.drop (i + 1)).flatten) ∧ (l.take i).flatten.length = i * s := by
  intro l
  induction l with
  | nil => intro s i _ hi; simp at hi
  | cons x l ih =>
    intro s i hs hi
    cases i with
    | zero => simp
    | succ i =>
      have hx : x.length = s := hs x (by simp)
      obtain ⟨h1, h2⟩ := ih s i (fun y hy => hs y (by simp [hy])) (by simpa using hi)
      refine ⟨?_, ?_⟩
      · simp only [List.flatten_cons, List.take_succ_cons, List.getElem_cons_succ, List.drop_succ_cons, List.append_assoc]
        rw [h1]
      · simp only [List.take_succ_cons, List.flatten_cons, List.length_append, h2, hx]
        rw [Nat.add_mul]; omega

theorem flatten_len {α : Type} : ∀ (l : List (List α)) (s : Nat) (_ : ∀ x ∈ l, x.length = s), l.flatten.length = l.length * s := by
  intro l s hs
  induction l with
  | nil => simp
  | cons x l ih =>
    have hx : x.length = s := hs x (by simp)
    simp only [List.flatten_cons, List.length_append, hx, ih (fun y hy => hs y (by simp [hy])), List.length_cons]
    rw [Nat.add_mul]; omega

/-- The i-th element of a slice, read off the row. -/
theorem RepsW.elem {W : Bool} {h : Heap} {s : Nat} {l : List (List D)} {off : Nat} {c : Array Value} {G : List Nat} (hs : ∀ x ∈ l, x.length = s) (hsz : off + l.length * s ≤ c.size)
    (r : RepsW W h l.flatten ((c.toList.drop off).take (l.length * s)) G) {i : Nat} (hi : i < l.length) :
    off + i * s + s ≤ c.size ∧ ∃ G', (∀ b ∈ G', b ∈ G) ∧ RepsW W h l[i] ((c.toList.drop (off + i * s)).take s) G' := by
  obtain ⟨h1, h2⟩ := flatten_at l s i hs hi
  have hli : l[i].length = s := hs _ (List.getElem_mem hi)
  have hle : (i + 1) * s ≤ l.length * s := Nat.mul_le_mul_right _ hi
  rw [Nat.add_mul] at hle
  rw [h1] at r
  obtain ⟨v1, v2, F1, F2, hv, hF, r1, r2⟩ := RepsW.split _ _ r
  obtain ⟨v3, v4, F3, F4, hv', hF', r3, r4⟩ := RepsW.split _ _ r2
  refine ⟨by omega, F3, fun b hb => by simp [hF, hF', hb], ?_⟩
  have e1 : v1.length = i * s := by rw [← r1.length, h2]
  have e3 : v3.length = s := by rw [← r3.length, hli]
  have hv3 : v3 = (c.toList.drop (off + i * s)).take s := by
    have : ((c.toList.drop off).take (l.length * s)).drop (i * s) = v3 ++ v4 := by
      rw [hv, hv', ← e1, List.drop_left]
    have h5 : (((c.toList.drop off).take (l.length * s)).drop (i * s)).take s = v3 := by
      rw [this, ← e3, List.take_left]
    rw [← h5, List.drop_take, List.take_take, List.drop_drop]
    congr 1
    omega
  rw [← hv3]
  exact r3

theorem RepsW.one {W : Bool} {h : Heap} {d : D} {v : Value} {F} (r : RepsW W h [d] [v] F) : v.oneCell' = true := by
  cases r with
  | v hx _ => exact hx
  | none _ _ => rfl
  | sl => rfl

theorem RepsW.ones {W : Bool} {h : Heap} {ds vs F} (r : RepsW W h ds vs F) : ∀ v ∈ vs, v.oneCell' = true := by
  induction r with
  | nil => simp
  | v hx _ ih => intro v hv; rcases List.mem_cons.1 hv with rfl | hv; exact hx; exact ih v hv
  | none _ _ ih => intro v hv; rcases List.mem_cons.1 hv with rfl | hv; rfl; exact ih v hv
  | sl _ _ _ _ _ _ _ _ _ ih => intro v hv; rcases List.mem_cons.1 hv with rfl | hv; rfl; exact ih v hv

theorem RepsW.of_all {W : Bool} {h : Heap} : ∀ {ds : List D} {vs : List Value} {F}, RepsW W h ds vs F → ∀ {P : Nat → Prop}, (∀ b ∈ F, P b) → ∀ (i : Nat) (d : D) (v : Value), ds[i]? = some d → vs[i]? = some v → ∃ F', RepsW W h [d] [v] F' ∧ ∀ b ∈ F', P b := by
  intro ds
  induction ds with
  | nil => intro vs F r P hP i d v h1 _; simp at h1
  | cons d0 ds ih =>
    intro vs F r P hP i d v h1 h2
    match vs, r with
    | [], r => have := r.length; simp at this
    | v0 :: vs, r =>
      obtain ⟨F1, F2, rfl, r1, r2⟩ := r.cons_inv
      cases i with
      | zero =>
        simp only [List.getElem?_cons_zero, Option.some.injEq] at h1 h2
        subst h1; subst h2
        exact ⟨F1, r1, fun b hb => hP b (by simp [hb])⟩
      | succ i => exact ih r2 (fun b hb => hP b (by simp [hb])) i d v (by simpa using h1) (by simpa using h2)

/-- What a captured variable is read as. -/
inductive CapsOK (h : Heap) : List (List D) → List Value → List Nat → Prop
  | nil : CapsOK h [] [] []
  | cons {ds b c e fz F l vs G} : h[b]? = some (.cells c e fz) → Reps h ds c.toList F → CapsOK h l vs G → CapsOK h (ds :: l) (.pointer (some ⟨b, 0, none⟩) :: vs) (b :: (F ++ G))

theorem CapsOK.frame {h h' : Heap} {l vs F} (r : CapsOK h l vs F) (hf : ∀ b ∈ F, h'[b]? = h[b]?) : CapsOK h' l vs F := by
  induction r with
  | nil => exact .nil
  | cons h1 h2 _ ih => exact .cons (by rw [hf _ (by simp)]; exact h1) (h2.frame fun b hb => hf b (by simp [hb])) (ih fun b hb => hf b (by simp [hb]))

theorem CapsOK.lt {h : Heap} {l vs F} (r : CapsOK h l vs F) : ∀ b ∈ F, b < h.size := by
  induction r with
  | nil => simp
  | cons h1 h2 _ ih =>
    intro x hx
    rcases List.mem_cons.1 hx with rfl | hx
    · exact (Array.getElem?_eq_some_iff.1 h1).1
    · exact (List.mem_append.1 hx).elim (h2.lt x) (ih x)

end Go.Own
