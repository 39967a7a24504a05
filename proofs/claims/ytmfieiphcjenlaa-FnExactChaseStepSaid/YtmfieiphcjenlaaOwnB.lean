/-
  Own calculus, part B: abstract states, what they say of a frame and a world ('ConcO'), and the law by which they are carried over a step. Conditions: none (definitions and lemmas).
-/
import Derived.Test.YtmfieiphcjenlaaOwnA
namespace Go.Own
open Go
set_option linter.unusedVariables false
set_option linter.unusedSimpArgs false

abbrev Id := Nat × Nat

/-- What is known of one cell. -/
inductive Cell where
  | any
  | d (x : D)
  | n (x : D)
  | fr (id : Id) (s : Nat) (l : List (List D)) (deep : Nat)
  | osl (id : Id)
  | bptr (id : Id) (off : Nat)
  | optr (id : Id) (i : Nat) (off : Nat)
  | isl (id : Id) (i : Nat) (off : Nat)
  | nptr (id : Id) (i : Nat) (off : Nat) (s : Nat) (j : Nat)
  | iptr (ds : List D)
  | fn (f : FuncId) (caps : List Id)
  | fni (f : FuncId) (l : List (List D))
  deriving Inhabited

/-- What is known of one slot. 'any': never written since its row was last cleared. -/
inductive AV where
  | any
  | unk
  | one (c : Cell)
  | agg (cs : List Cell)
  | tup (vs : List (Bool × List Cell))
  | lit (id : Id) (s : Nat) (els : List (List Cell))
  | cnd (g : Bool) (av : AV)
  deriving Inhabited

inductive Ob where
  | none
  | dead
  | box (cs : List Cell)
  | arr (s : Nat) (l : List (List D)) (deep : Nat)
  deriving Inhabited

structure St where
  bs : Nat → Prop
  sl : Nat → AV
  ob : Id → Ob

inductive All2 {α β : Type} (R : α → β → Prop) : List α → List β → Prop
  | nil : All2 R [] []
  | cons {a b l m} : R a b → All2 R l m → All2 R (a :: l) (b :: m)

theorem forall₂_imp {α β : Type} {R S : α → β → Prop} (H : ∀ a b, R a b → S a b) {l : List α} {m : List β} (a : All2 R l m) : All2 S l m := by
  induction a with
  | nil => exact .nil
  | cons h _ ih => exact .cons (H _ _ h) ih

/-- Block b is owned by nobody. -/
def Imm (own : Id → List Nat) (h : Heap) (b : Nat) : Prop := b < h.size ∧ ∀ id, b ∉ own id

/-- Object id is an array that lies at the head of block b. -/
def ArrB (own : Id → List Nat) (h : Heap) (id : Id) (s : Nat) (l : List (List D)) (deep : Nat) (b cap : Nat) : Prop :=
  ∃ c e G, own id = b :: (if deep = 0 then [] else G) ∧ h[b]? = some (.cells c e (0, 0)) ∧ l.length ≤ cap ∧ cap ≤ maxLen ∧ c.size = cap * s ∧ (∀ x ∈ l, x.length = s) ∧
    RepsW (deep != 0) h l.flatten (c.toList.take (l.length * s)) G ∧ (deep = 0 → ∀ x ∈ G, Imm own h x)

def ArrOK (own : Id → List Nat) (h : Heap) (id : Id) (s : Nat) (l : List (List D)) (deep : Nat) (v : Value) : Prop :=
  (v = .slice none 0 0 ∧ l = [] ∧ own id = []) ∨ ∃ b cap, v = .slice (some ⟨b, 0, none⟩) l.length cap ∧ ArrB own h id s l deep b cap

def BoxPtr (own : Id → List Nat) (ob : Id → Ob) (id : Id) (off : Nat) (v : Value) : Prop :=
  ∃ b, v = .pointer (some ⟨b, off, none⟩) ∧ match ob id with
  | .box _ => own id = [b]
  | .dead => True
  | _ => False

/-- A slice that lies in an owned array. -/
def IslOK (own : Id → List Nat) (h : Heap) (s : St) (id : Id) (i off : Nat) (v : Value) : Prop := v.oneCell' = true ∧ s.sl id.1 ≠ .any ∧ match s.ob id with
    | .arr sz l deep => deep = 2 → ∃ b cap c e, ArrB own h id sz l deep b cap ∧ h[b]? = some (.cells c e (0, 0)) ∧ off < sz ∧ i < l.length ∧ c[i * sz + off]? = some v
    | .dead => True
    | _ => False

def CellOK (own : Id → List Nat) (h : Heap) (s : St) : Cell → Value → Prop
  | .any, v => v.oneCell' = true
  | .d x, v => ∃ F, Reps h [x] [v] F ∧ ∀ b ∈ F, Imm own h b
  | .n x, v => ∃ F, Reps h [x] [v] F ∧ ∀ b ∈ F, Imm own h b ∧ s.bs b
  | .fr id sz l deep, v => v.oneCell' = true ∧ s.sl id.1 ≠ .any ∧ (s.ob id = .none → ArrOK own h id sz l deep v)
  | .osl id, v => v.oneCell' = true ∧ s.sl id.1 ≠ .any ∧ match s.ob id with
    | .arr sz l deep => ArrOK own h id sz l deep v
    | .dead => True
    | _ => False
  | .bptr id off, v => s.sl id.1 ≠ .any ∧ BoxPtr own s.ob id off v
  | .optr id i off, v => s.sl id.1 ≠ .any ∧ ∃ b o, v = .pointer (some ⟨b, o, none⟩) ∧ ∃ si, o = si + off ∧ match s.ob id with
    | .arr sz l deep => si = i * sz ∧ ∃ cap, ArrB own h id sz l deep b cap
    | .dead => True
    | _ => False
  | .isl id i off, v => IslOK own h s id i off v
  | .nptr id i off sz' j, v => ∃ b0 len cap0, v = .pointer (some ⟨b0, j * sz', none⟩) ∧ j < len ∧ IslOK own h s id i off (.slice (some ⟨b0, 0, none⟩) len cap0)
  | .iptr ds, v => ∃ b off c e fz F, v = .pointer (some ⟨b, off, none⟩) ∧ h[b]? = some (.cells c e fz) ∧ off + ds.length ≤ c.size ∧ Reps h ds ((c.toList.drop off).take ds.length) F ∧ Imm own h b ∧ ∀ x ∈ F, Imm own h x
  | .fni f l, v => ∃ (vs : List Value) (F : List Nat), v = .func (.func f) #[] vs.toArray ∧ CapsOK h l vs F ∧ ∀ b ∈ F, Imm own h b
  | .fn f caps, v => ∃ vs : List Value, v = .func (.func f) #[] vs.toArray ∧ All2 (fun id u => s.sl id.1 ≠ .any ∧ BoxPtr own s.ob id 0 u) caps vs

def CellsOK (own : Id → List Nat) (h : Heap) (s : St) (cs : List Cell) (vs : List Value) : Prop := All2 (CellOK own h s) cs vs

def PartOK (own : Id → List Nat) (h : Heap) (s : St) (p : Bool × List Cell) (v : Value) : Prop :=
  if p.1 then ∃ vs, v = .agg vs ∧ CellsOK own h s p.2 vs.toList else ∃ c, p.2 = [c] ∧ CellOK own h s c v

/-- A temporary row of elements, written out. -/
def LitB (own : Id → List Nat) (h : Heap) (s : St) (id : Id) (sz : Nat) (els : List (List Cell)) (v : Value) : Prop :=
  ∃ b c e, v = .slice (some ⟨b, 0, none⟩) els.length els.length ∧ own id = [b] ∧ h[b]? = some (.cells c e (0, 0)) ∧ c.size = els.length * sz ∧ els.length ≤ maxLen ∧ (∀ x ∈ els, x.length = sz) ∧
    CellsOK own h s els.flatten c.toList

def AVOK (own : Id → List Nat) (h : Heap) (s : St) : AV → Value → Prop
  | .any, _ => True
  | .unk, _ => True
  | .one c, v => CellOK own h s c v
  | .agg cs, v => ∃ vs, v = .agg vs ∧ CellsOK own h s cs vs.toList
  | .tup ps, v => ∃ vs : Array Value, v = .tuple vs ∧ All2 (PartOK own h s) ps vs.toList
  | .lit id sz els, v => s.sl id.1 ≠ .any ∧ (s.ob id = .none → LitB own h s id sz els v)
  | .cnd g av, v => (g = true → AVOK own h s av v) ∧ (g = false → v = undef)

def ObOK (own : Id → List Nat) (h : Heap) (s : St) (id : Id) : Ob → Prop
  | .box cs => ∃ b c e, own id = [b] ∧ h[b]? = some (.cells c e (0, 0)) ∧ CellsOK own h s cs c.toList
  | _ => True

/-- How object id may turn over a step. -/
inductive Trans (own own' : Id → List Nat) (h h' : Heap) (id : Id) : Ob → Ob → Prop
  | dead (o : Ob) : Trans own own' h h' id o .dead
  | same (o : Ob) : own' id = own id → (∀ b ∈ own id, h'[b]? = h[b]?) → Trans own own' h h' id o o
  | mat (s : Nat) (l : List (List D)) (deep : Nat) : Trans own own' h h' id .none (.arr s l deep)
  | boxed (cs cs' : List Cell) : own' id = own id → Trans own own' h h' id (.box cs) (.box cs')
  | upd (s : Nat) (l l' : List (List D)) (deep deep' : Nat) : (own id = [] → own' id = []) → l'.length = l.length → (∀ b cap, ArrB own h id s l deep b cap → ArrB own' h' id s l' deep' b cap) →
      (deep' = 2 → deep = 2 ∧ ∀ b ∈ (own id).head?, h'[b]? = h[b]?) → Trans own own' h h' id (.arr s l deep) (.arr s l' deep')

section
variable {own own' : Id → List Nat} {h h' : Heap} {s s' : St}

/-- All that a step must keep. -/
structure Keeps (own own' : Id → List Nat) (h h' : Heap) (s s' : St) : Prop where
  bs : s'.bs = s.bs
  imm : ∀ b, Imm own h b → Imm own' h' b ∧ h'[b]? = h[b]?
  row : ∀ r, s.sl r ≠ .any → s'.sl r ≠ .any
  tr : ∀ id : Id, s.sl id.1 ≠ .any → Trans own own' h h' id (s.ob id) (s'.ob id)

theorem Keeps.reps (k : Keeps own own' h h' s s') {W ds vs F} (r : RepsW W h ds vs F) (hi : ∀ b ∈ F, Imm own h b) : RepsW W h' ds vs F ∧ ∀ b ∈ F, Imm own' h' b :=
  ⟨r.frame fun b hb => (k.imm b (hi b hb)).2, fun b hb => (k.imm b (hi b hb)).1⟩

theorem ArrB.same {id : Id} {sz : Nat} {l : List (List D)} {deep b cap : Nat} (k : Keeps own own' h h' s s') (ho : own' id = own id) (hb : ∀ x ∈ own id, h'[x]? = h[x]?)
    (a : ArrB own h id sz l deep b cap) : ArrB own' h' id sz l deep b cap := by
  obtain ⟨c, e, G, h1, h2, h3, h4, h5, h6, h7, h8⟩ := a
  by_cases hd : deep = 0
  · obtain ⟨r1, r2⟩ := k.reps h7 (h8 hd)
    exact ⟨c, e, G, ho.trans h1, (hb b (by simp [h1])).trans h2, h3, h4, h5, h6, r1, fun _ => r2⟩
  · refine ⟨c, e, G, ho.trans h1, (hb b (by simp [h1])).trans h2, h3, h4, h5, h6, h7.frame fun x hx => hb x (by simp [h1, hd, hx]), fun h0 => absurd h0 hd⟩

theorem ArrOK.same {id : Id} {sz : Nat} {l : List (List D)} {deep : Nat} {v : Value} (k : Keeps own own' h h' s s') (ho : own' id = own id) (hb : ∀ x ∈ own id, h'[x]? = h[x]?)
    (a : ArrOK own h id sz l deep v) : ArrOK own' h' id sz l deep v := by
  rcases a with ⟨h1, h2, h3⟩ | ⟨b, cap, h1, h2⟩
  · exact .inl ⟨h1, h2, ho.trans h3⟩
  · exact .inr ⟨b, cap, h1, h2.same k ho hb⟩

theorem BoxPtr.keep {id : Id} {off : Nat} {v : Value} (t : Trans own own' h h' id (s.ob id) (s'.ob id)) (a : BoxPtr own s.ob id off v) : BoxPtr own' s'.ob id off v := by
  unfold BoxPtr at *
  obtain ⟨b, h1, a⟩ := a
  refine ⟨b, h1, ?_⟩
  generalize s.ob id = o at *
  generalize s'.ob id = o' at *
  cases t with
  | dead => trivial
  | same o ho hb => cases o <;> simp_all
  | mat => exact a.elim
  | boxed cs cs' ho => simp_all
  | upd => exact a.elim

theorem IslOK.keep (k : Keeps own own' h h' s s') {id : Id} {i off : Nat} {v : Value} (a : IslOK own h s id i off v) : IslOK own' h' s' id i off v := by
  obtain ⟨h1c, ha, hb⟩ := a
  have t := k.tr id ha
  refine ⟨h1c, k.row _ ha, ?_⟩
  generalize s.ob id = o at t hb
  generalize s'.ob id = o' at t
  cases t with
  | dead => trivial
  | same o ho hbb =>
    cases o with
    | arr sz l deep =>
      intro hd
      obtain ⟨b, cap, c, e, h1, h2, h3, h4, h5⟩ := hb hd
      have hbo : b ∈ own id := by obtain ⟨c', e', G, q, _⟩ := h1; simp [q]
      exact ⟨b, cap, c, e, h1.same k ho hbb, (hbb b hbo).trans h2, h3, h4, h5⟩
    | dead => trivial
    | _ => exact hb.elim
  | mat => exact hb.elim
  | boxed => exact hb.elim
  | upd sz l l' deep deep' ho hl hup hin =>
    intro hd
    obtain ⟨hd0, hh⟩ := hin hd
    obtain ⟨b, cap, c, e, h1, h2, h3, h4, h5⟩ := hb hd0
    have hbo : b ∈ (own id).head? := by obtain ⟨c', e', G, q, _⟩ := h1; simp [q]
    exact ⟨b, cap, c, e, hup b cap h1, (hh b hbo).trans h2, h3, by omega, h5⟩

theorem CellOK.keep (k : Keeps own own' h h' s s') {c : Cell} {v : Value} (a : CellOK own h s c v) : CellOK own' h' s' c v := by
  cases c with
  | any => exact a
  | n x => obtain ⟨F, r, hi⟩ := a; obtain ⟨r1, r2⟩ := k.reps r (fun b hb => (hi b hb).1); exact ⟨F, r1, fun b hb => ⟨r2 b hb, by rw [k.bs]; exact (hi b hb).2⟩⟩
  | d x => obtain ⟨F, r, hi⟩ := a; obtain ⟨r1, r2⟩ := k.reps r hi; exact ⟨F, r1, r2⟩
  | fr id sz l deep =>
    obtain ⟨h1c, ha, hb⟩ := a
    have t := k.tr id ha
    refine ⟨h1c, k.row _ ha, fun hn => ?_⟩
    rw [hn] at t
    generalize s.ob id = o at t hb
    cases t with
    | same _ ho hbb => exact (hb rfl).same k ho hbb
  | osl id =>
    obtain ⟨h1c, ha, hb⟩ := a
    have t := k.tr id ha
    refine ⟨h1c, k.row _ ha, ?_⟩
    generalize s.ob id = o at t hb
    generalize s'.ob id = o' at t
    cases t with
    | dead => trivial
    | same o ho hbb =>
      cases o with
      | arr sz l deep => exact ArrOK.same k ho hbb hb
      | dead => trivial
      | _ => exact hb.elim
    | mat => exact hb.elim
    | boxed => exact hb.elim
    | upd sz l l' deep deep' ho hl hup _ =>
      rcases hb with ⟨h1, h2, h3⟩ | ⟨b, cap, h1, h2⟩
      · subst h2
        exact .inl ⟨h1, List.eq_nil_of_length_eq_zero (by simpa using hl), ho h3⟩
      · exact .inr ⟨b, cap, by rw [hl]; exact h1, hup b cap h2⟩
  | bptr id off => exact ⟨k.row _ a.1, a.2.keep (k.tr id a.1)⟩
  | optr id i off =>
    obtain ⟨ha, b, o, h1, si, h2, hb⟩ := a
    have t := k.tr id ha
    refine ⟨k.row _ ha, b, o, h1, si, h2, ?_⟩
    generalize s.ob id = o at t hb
    generalize s'.ob id = o' at t
    cases t with
    | dead => trivial
    | same o ho hbb =>
      cases o with
      | arr sz l deep => obtain ⟨h3, cap, h4⟩ := hb; exact ⟨h3, cap, h4.same k ho hbb⟩
      | dead => trivial
      | _ => exact hb.elim
    | mat => exact hb.elim
    | boxed => exact hb.elim
    | upd sz l l' deep deep' ho hl hup _ => obtain ⟨h3, cap, h4⟩ := hb; exact ⟨h3, cap, hup b cap h4⟩
  | isl id i off => exact IslOK.keep k a
  | nptr id i off sz' j =>
    obtain ⟨b0, len, cap0, h1, h2, h3⟩ := a
    exact ⟨b0, len, cap0, h1, h2, h3.keep k⟩
  | iptr ds =>
    obtain ⟨b, off, c, e, fz, F, h1, h2, h3, h4, h5, h6⟩ := a
    obtain ⟨r1, r2⟩ := k.reps h4 h6
    exact ⟨b, off, c, e, fz, F, h1, (k.imm b h5).2.trans h2, h3, r1, (k.imm b h5).1, r2⟩
  | fni f l =>
    obtain ⟨vs, F, h1, h2, h3⟩ := a
    exact ⟨vs, F, h1, h2.frame fun b hb => (k.imm b (h3 b hb)).2, fun b hb => (k.imm b (h3 b hb)).1⟩
  | fn f caps =>
    obtain ⟨vs, h1, h2⟩ := a
    exact ⟨vs, h1, forall₂_imp (fun _ _ ha => ⟨k.row _ ha.1, ha.2.keep (k.tr _ ha.1)⟩) h2⟩

theorem CellsOK.keep (k : Keeps own own' h h' s s') {cs : List Cell} {vs : List Value} (a : CellsOK own h s cs vs) : CellsOK own' h' s' cs vs :=
  forall₂_imp (fun _ _ ha => CellOK.keep k ha) a

theorem PartOK.keep (k : Keeps own own' h h' s s') {p : Bool × List Cell} {v : Value} (a : PartOK own h s p v) : PartOK own' h' s' p v := by
  unfold PartOK at *
  split
  · rename_i hp; simp only [hp, if_true] at a; obtain ⟨vs, h1, h2⟩ := a; exact ⟨vs, h1, h2.keep k⟩
  · rename_i hp; simp only [hp] at a; obtain ⟨c, h1, h2⟩ := a; exact ⟨c, h1, h2.keep k⟩

theorem AVOK.keep (k : Keeps own own' h h' s s') : ∀ {av : AV} {v : Value}, AVOK own h s av v → AVOK own' h' s' av v
  | .any, _, _ => trivial
  | .unk, _, _ => trivial
  | .one _, _, a => CellOK.keep k a
  | .agg _, _, a => by obtain ⟨vs, h1, h2⟩ := a; exact ⟨vs, h1, h2.keep k⟩
  | .tup _, _, a => by obtain ⟨vs, h1, h2⟩ := a; exact ⟨vs, h1, forall₂_imp (fun _ _ ha => PartOK.keep k ha) h2⟩
  | .lit id sz els, v, a => by
    obtain ⟨ha, hb⟩ := a
    have t := k.tr id ha
    refine ⟨k.row _ ha, fun hn => ?_⟩
    rw [hn] at t
    generalize s.ob id = o at t hb
    cases t with
    | same _ ho hbb =>
      obtain ⟨b, c, e, h1, h2, h3, h4, h5, h6, h7⟩ := hb rfl
      exact ⟨b, c, e, h1, ho.trans h2, (hbb b (by simp [h2])).trans h3, h4, h5, h6, h7.keep k⟩
  | .cnd _ _, _, a => ⟨fun hg => AVOK.keep k (a.1 hg), a.2⟩
end

theorem CellOK.one {own : Id → List Nat} {h : Heap} {s : St} {c : Cell} {v : Value} (a : CellOK own h s c v) : v.oneCell' = true := by
  cases c with
  | any => exact a
  | d x => obtain ⟨F, r, _⟩ := a; exact r.one
  | n x => obtain ⟨F, r, _⟩ := a; exact r.one
  | fr => exact a.1
  | osl => exact a.1
  | bptr => obtain ⟨_, b, rfl, _⟩ := a; rfl
  | optr => obtain ⟨_, b, o, rfl, _⟩ := a; rfl
  | isl => exact a.1
  | nptr => obtain ⟨_, _, _, rfl, _⟩ := a; rfl
  | iptr => obtain ⟨b, off, c, e, fz, F, rfl, _⟩ := a; rfl
  | fn => obtain ⟨vs, rfl, _⟩ := a; rfl
  | fni => obtain ⟨vs, F, rfl, _⟩ := a; rfl

theorem All2.length {α β : Type} {R : α → β → Prop} {l : List α} {m : List β} (a : All2 R l m) : l.length = m.length := by
  induction a with
  | nil => rfl
  | cons _ _ ih => simp [ih]

theorem All2.get {α β : Type} {R : α → β → Prop} {l : List α} {m : List β} (a : All2 R l m) : ∀ (i : Nat) (x : α), l[i]? = some x → ∃ y, m[i]? = some y ∧ R x y := by
  induction a with
  | nil => intro i x h; simp at h
  | cons h _ ih =>
    intro i x hx
    cases i with
    | zero => simp only [List.getElem?_cons_zero, Option.some.injEq] at hx; subst hx; exact ⟨_, rfl, h⟩
    | succ i => simpa using ih i x (by simpa using hx)

theorem All2.drop {α β : Type} {R : α → β → Prop} {l : List α} {m : List β} (a : All2 R l m) : ∀ n, All2 R (l.drop n) (m.drop n) := by
  induction a with
  | nil => intro n; simp; exact .nil
  | cons h ha ih =>
    intro n
    cases n with
    | zero => exact .cons h ha
    | succ n => simpa using ih n

theorem All2.take {α β : Type} {R : α → β → Prop} {l : List α} {m : List β} (a : All2 R l m) : ∀ n, All2 R (l.take n) (m.take n) := by
  induction a with
  | nil => intro n; simp; exact .nil
  | cons h ha ih =>
    intro n
    cases n with
    | zero => simp; exact .nil
    | succ n => simpa using .cons h (ih n)

theorem All2.append {α β : Type} {R : α → β → Prop} {l l' : List α} {m m' : List β} (a : All2 R l m) (b : All2 R l' m') : All2 R (l ++ l') (m ++ m') := by
  induction a with
  | nil => exact b
  | cons h _ ih => exact .cons h ih

theorem All2.set {α β : Type} {R : α → β → Prop} {l : List α} {m : List β} (a : All2 R l m) {x : α} {y : β} (hxy : R x y) : ∀ n, All2 R (l.set n x) (m.set n y) := by
  induction a with
  | nil => intro n; simp; exact .nil
  | cons h ha ih =>
    intro n
    cases n with
    | zero => exact .cons hxy ha
    | succ n => exact .cons h (ih n)

end Go.Own
