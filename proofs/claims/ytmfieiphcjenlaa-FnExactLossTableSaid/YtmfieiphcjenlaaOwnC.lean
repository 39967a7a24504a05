/-
  Own calculus, part C: the concretization 'ConcO' (a frame and a world against an abstract state) and its step laws. Conditions: none (definitions and lemmas).
-/
import Derived.Test.YtmfieiphcjenlaaOwnB
namespace Go.Own
open Go
set_option linter.unusedVariables false
set_option linter.unusedSimpArgs false

/-- The program, and what is known of the first N blocks of the heap at all times. -/
structure Env where
  P : Program
  N : Nat
  J : Heap → Prop
  st : ∀ h h', J h → (∀ b, b < N → h'[b]? = h[b]?) → J h'

structure Ctx extends Env where
  n : Nat
  dok : Nat → Bool
  hdok : ∀ x, dok x = true → x < n
  tm : Nat → Value
  w0 : World
  M : List Nat
  nw : Nat → Prop
  hnw : ∀ b, w0.heap.size ≤ b → nw b

structure ConcO (X : Ctx) (own : Id → List Nat) (s : St) (a : Act) (w : World) : Prop where
  defers : a.defers = []
  size : a.tmps.size = X.n
  fix : ∀ x, X.dok x = false → a.tmps.getD x undef = X.tm x
  bs : s.bs = X.nw
  os : w.os = X.w0.os
  tape : w.tape = X.w0.tape
  output : w.output = X.w0.output
  grow : X.w0.heap.size ≤ w.heap.size
  old : ∀ b, b < X.w0.heap.size → b ∉ X.M → w.heap[b]? = X.w0.heap[b]?
  hN : X.N ≤ X.w0.heap.size ∧ ∀ b ∈ X.M, X.N ≤ b
  hJ : X.J w.heap
  lt : ∀ id b, b ∈ own id → b < w.heap.size ∧ (X.w0.heap.size ≤ b ∨ b ∈ X.M)
  nodup : ∀ id, (own id).Nodup
  disj : ∀ id id' b, b ∈ own id → b ∈ own id' → id = id'
  obs : ∀ id, ObOK own w.heap s id (s.ob id)
  sls : ∀ i, AVOK own w.heap s (s.sl i) (a.tmps.getD i undef)

def Conc (X : Ctx) (s : St) (a : Act) (w : World) : Prop := ∃ own, ConcO X own s a w

section
variable {X : Ctx} {own own' : Id → List Nat} {s s' : St} {a a' : Act} {w w' : World}

theorem ConcO.bsle (c : ConcO X own s a w) (b : Nat) (hb : X.w0.heap.size ≤ b) : s.bs b := by rw [c.bs]; exact X.hnw b hb

theorem ConcO.next (c : ConcO X own s a w) (hd : a'.defers = []) (hn : a'.tmps.size = X.n) (ho : w'.os = w.os) (ht : w'.tape = w.tape) (hp : w'.output = w.output)
    (hg : w.heap.size ≤ w'.heap.size) (hb : ∀ b, b < w.heap.size → (∀ id, b ∉ own id) → w'.heap[b]? = w.heap[b]?)
    (hlt : ∀ id b, b ∈ own' id → b < w'.heap.size ∧ (X.w0.heap.size ≤ b ∨ b ∈ X.M)) (hnd : ∀ id, (own' id).Nodup)
    (hdj : ∀ id id' b, b ∈ own' id → b ∈ own' id' → id = id') (hbs : s'.bs = s.bs)
    (hobs : ∀ id, ObOK own' w'.heap s' id (s'.ob id)) (hsls : ∀ i, AVOK own' w'.heap s' (s'.sl i) (a'.tmps.getD i undef)) (hfix : ∀ x, X.dok x = false → a'.tmps.getD x undef = a.tmps.getD x undef) : ConcO X own' s' a' w' where
  defers := hd
  size := hn
  fix := fun x hx => (hfix x hx).trans (c.fix x hx)
  bs := hbs.trans c.bs
  os := ho.trans c.os
  tape := ht.trans c.tape
  output := hp.trans c.output
  grow := Nat.le_trans c.grow hg
  old := fun b h1 h2 => by
    rw [hb b (Nat.lt_of_lt_of_le h1 c.grow) fun id hm => ?_]
    · exact c.old b h1 h2
    · rcases (c.lt id b hm).2 with h | h
      · omega
      · exact h2 h
  hN := c.hN
  hJ := X.st _ _ c.hJ fun b h1 => hb b (by have := c.hN.1; have := c.grow; omega) fun id hm => by
    rcases (c.lt id b hm).2 with h | h
    · have := c.hN.1; omega
    · have := c.hN.2 b h; omega
  lt := hlt
  nodup := hnd
  disj := hdj
  obs := hobs
  sls := hsls

def upd (f : Nat → AV) (d : Nat) (v : AV) : Nat → AV := fun i => if i = d then v else f i

theorem upd_same (f : Nat → AV) (d : Nat) (v : AV) : upd f d v d = v := by simp [upd]
theorem upd_ne (f : Nat → AV) (d i : Nat) (v : AV) (h : i ≠ d) : upd f d v i = f i := by simp [upd, h]

def updO (g : Id → Ob) : List (Id × Ob) → Id → Ob
  | [] => g
  | (k, o) :: r => updO (fun id => if id = k then o else g id) r

/-- Nothing but the bare 'any' is turned into 'unk': a slot that has been written is not 'any'. -/
def AV.mk : AV → AV
  | .any => .unk
  | v => v

theorem AV.mk_ne (v : AV) : v.mk ≠ .any := by cases v <;> simp [AV.mk]
theorem AVOK.mk {h : Heap} {av : AV} {v : Value} (a : AVOK own h s av v) : AVOK own h s av.mk v := by cases av <;> first | exact a | trivial

def St.put (s : St) (d : Option Nat) (v : AV) (us : List (Id × Ob)) : St :=
  match d with
  | some d => ⟨s.bs, upd s.sl d v.mk, updO s.ob us⟩
  | none => ⟨s.bs, s.sl, updO s.ob us⟩

theorem St.put_bs (s : St) (d : Option Nat) (v : AV) (us : List (Id × Ob)) : (s.put d v us).bs = s.bs := by cases d <;> rfl
theorem St.put_ob (s : St) (d : Option Nat) (v : AV) (us : List (Id × Ob)) : (s.put d v us).ob = updO s.ob us := by cases d <;> rfl
theorem St.put_row (s : St) (d : Option Nat) (v : AV) (us : List (Id × Ob)) (r : Nat) (h : s.sl r ≠ .any) : (s.put d v us).sl r ≠ .any := by
  cases d with
  | none => exact h
  | some d =>
    simp only [St.put, upd]
    split
    · exact AV.mk_ne v
    · exact h
theorem St.put_dst (s : St) (d : Nat) (v : AV) (us : List (Id × Ob)) : (s.put (some d) v us).sl d ≠ .any := by
  simp only [St.put, upd_same]; exact AV.mk_ne v

theorem Act.put_getD (a : Act) (d : Option Nat) (v : Value) (hd : ∀ x, d = some x → x < a.tmps.size) (i : Nat) :
    (a.put d v).tmps.getD i undef = if d = some i then v else a.tmps.getD i undef := by
  cases d with
  | none => simp [Act.put]
  | some d =>
    have := hd d rfl
    simp only [Act.put, Array.getD_eq_getD_getElem?, Array.getElem?_setIfInBounds, Option.some.injEq]
    split
    · simp
    · rfl

/-- The common step: slots and objects turn as 'put' says; the objects not among 'us' are as they were. -/
theorem ConcO.put_slots {d : Option Nat} {v : Value} {av : AV} {us : List (Id × Ob)} (k : Keeps own own' w.heap w'.heap s s') (hd : ∀ x, d = some x → x < a.tmps.size)
    (hs : s' = s.put d av us) (c : ConcO X own s a w) (hv : AVOK own' w'.heap s' av v) : ∀ i, AVOK own' w'.heap s' (s'.sl i) ((a.put d v).tmps.getD i undef) := by
  intro i
  rw [Act.put_getD a d v hd i]
  cases d with
  | none => simp only [hs, St.put]; subst hs; exact (c.sls i).keep k
  | some d =>
    by_cases hi : i = d
    · subst hi
      simp only [if_true]
      have : s'.sl i = av.mk := by rw [hs]; simp [St.put, upd_same]
      rw [this]; exact hv.mk
    · have : s'.sl i = s.sl i := by rw [hs]; simp [St.put, upd_ne _ _ _ _ hi]
      rw [this, if_neg (by simpa using Ne.symm hi)]
      exact (c.sls i).keep k

theorem Keeps.refl_heap (hs : ∀ r, s.sl r ≠ .any → s'.sl r ≠ .any) (hb : s'.bs = s.bs) (ho : s'.ob = s.ob) {h : Heap} : Keeps own own h h s s' where
  bs := hb
  imm := fun _ hi => ⟨hi, rfl⟩
  row := hs
  tr := fun id _ => by rw [ho]; exact .same _ rfl fun _ _ => rfl

theorem ObOK.keep {h h' : Heap} (k : Keeps own own' h h' s s') {id : Id} (hs : s'.ob id = s.ob id) (ho : own' id = own id) (hb : ∀ b ∈ own id, h'[b]? = h[b]?)
    (a : ObOK own h s id (s.ob id)) : ObOK own' h' s' id (s'.ob id) := by
  rw [hs]
  generalize s.ob id = o at a
  cases o with
  | box cs => obtain ⟨b, c, e, h1, h2, h3⟩ := a; exact ⟨b, c, e, ho.trans h1, (hb b (by simp [h1])).trans h2, h3.keep k⟩
  | _ => trivial

/-- The general step. -/
theorem ConcO.turn {d : Option Nat} {av : AV} {v : Value} {us : List (Id × Ob)} (c : ConcO X own s a w) (k : Keeps own own' w.heap w'.heap s (s.put d av us))
    (ho : w'.os = w.os) (ht : w'.tape = w.tape) (hp : w'.output = w.output) (hg : w.heap.size ≤ w'.heap.size) (hd : ∀ x, d = some x → X.dok x = true)
    (hlt : ∀ id b, b ∈ own' id → b < w'.heap.size ∧ (X.w0.heap.size ≤ b ∨ b ∈ X.M)) (hnd : ∀ id, (own' id).Nodup)
    (hdj : ∀ id id' b, b ∈ own' id → b ∈ own' id' → id = id')
    (hobs : ∀ id, ObOK own' w'.heap (s.put d av us) id ((s.put d av us).ob id)) (hv : AVOK own' w'.heap (s.put d av us) av v) :
    ConcO X own' (s.put d av us) (a.put d v) w' :=
  c.next (by cases d <;> exact c.defers) (by cases d <;> simp [Act.put, c.size]) ho ht hp hg (fun b h1 h2 => (k.imm b ⟨h1, h2⟩).2) hlt hnd hdj (St.put_bs s d av us) hobs
    (ConcO.put_slots k (fun x hx => by rw [c.size]; exact X.hdok x (hd x hx)) rfl c hv) fun x hx => by
      rw [Act.put_getD a d v (fun y hy => by rw [c.size]; exact X.hdok y (hd y hy)) x, if_neg]
      intro h
      rw [hd x h] at hx; cases hx

/-- A step that makes a value and turns nothing but the draws. -/
theorem ConcO.pure {d : Option Nat} {av : AV} {v : Value} (c : ConcO X own s a w) (hw : w'.heap = w.heap) (ho : w'.os = w.os) (ht : w'.tape = w.tape) (hp : w'.output = w.output)
    (hd : ∀ x, d = some x → X.dok x = true) (hv : AVOK own w.heap s av v) : ConcO X own (s.put d av []) (a.put d v) w' := by
  have k : Keeps own own w.heap w'.heap s (s.put d av []) := by
    rw [hw]; exact Keeps.refl_heap (St.put_row s d av []) (St.put_bs s d av []) (by rw [St.put_ob]; rfl)
  exact c.turn k ho ht hp (by rw [hw]; exact Nat.le_refl _) hd (by rw [hw]; exact c.lt) c.nodup c.disj (fun id => ObOK.keep k (by rw [St.put_ob]; rfl) rfl (fun b _ => by rw [hw]) (c.obs id)) (hv.keep k)
end

end Go.Own
