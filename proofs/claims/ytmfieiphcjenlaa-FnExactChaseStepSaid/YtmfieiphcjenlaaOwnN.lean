/-
  Own calculus, part N: contracts of functions, and a call by contract (arguments are read only). Conditions: as each theorem states them.
-/
import Derived.Test.YtmfieiphcjenlaaOwnM
namespace Go.Own
open Go
set_option linter.unusedVariables false
set_option linter.unusedSimpArgs false

/-- An owned array, by the blocks that it owns ('m') and those that it only leads to ('F'). -/
def ArrAt (h : Heap) (m F : List Nat) (sz : Nat) (l : List (List D)) (dp : Nat) (v : Value) : Prop :=
  (v = .slice none 0 0 ∧ l = [] ∧ m = [] ∧ F = []) ∨
  ∃ b cap c e G, v = .slice (some ⟨b, 0, none⟩) l.length cap ∧ m = b :: (if dp = 0 then [] else G) ∧ F = (if dp = 0 then G else []) ∧ h[b]? = some (.cells c e (0, 0)) ∧ l.length ≤ cap ∧ cap ≤ maxLen ∧ c.size = cap * sz ∧
    (∀ x ∈ l, x.length = sz) ∧ RepsW (dp != 0) h l.flatten (c.toList.take (l.length * sz)) G

theorem ArrAt.of_ok {own : Id → List Nat} {h : Heap} {id : Id} {sz : Nat} {l : List (List D)} {dp : Nat} {v : Value} (a : ArrOK own h id sz l dp v) : ∃ F, ArrAt h (own id) F sz l dp v ∧ ∀ x ∈ F, Imm own h x := by
  rcases a with ⟨h1, h2, h3⟩ | ⟨b, cap, h1, c, e, G, a1, a2, a3, a4, a5, a6, a7, a8⟩
  · exact ⟨[], .inl ⟨h1, h2, h3, rfl⟩, by simp⟩
  · refine ⟨_, .inr ⟨b, cap, c, e, G, h1, a1, rfl, a2, a3, a4, a5, a6, a7⟩, fun x hx => ?_⟩
    split at hx
    · exact a8 ‹_› x hx
    · cases hx

theorem ArrAt.to_ok {own : Id → List Nat} {h : Heap} {id : Id} {F : List Nat} {sz : Nat} {l : List (List D)} {dp : Nat} {v : Value} (a : ArrAt h (own id) F sz l dp v) (hF : ∀ x ∈ F, Imm own h x) : ArrOK own h id sz l dp v := by
  rcases a with ⟨h1, h2, h3, _⟩ | ⟨b, cap, c, e, G, h1, a1, rfl, a2, a3, a4, a5, a6, a7⟩
  · exact .inl ⟨h1, h2, h3⟩
  · exact .inr ⟨b, cap, h1, c, e, G, a1, a2, a3, a4, a5, a6, a7, fun h0 x hx => hF x (by rw [if_pos h0]; exact hx)⟩

theorem ArrAt.lt {h : Heap} {m F : List Nat} {sz : Nat} {l : List (List D)} {dp : Nat} {v : Value} (a : ArrAt h m F sz l dp v) : (∀ b ∈ m, b < h.size) ∧ ∀ b ∈ F, b < h.size := by
  rcases a with ⟨_, _, rfl, rfl⟩ | ⟨b, cap, c, e, G, h1, rfl, rfl, a2, a3, a4, a5, a6, a7⟩
  · simp
  · have hb := (Array.getElem?_eq_some_iff.1 a2).1
    have hG := a7.lt
    constructor
    · intro x hx
      rcases List.mem_cons.1 hx with rfl | hx
      · exact hb
      · split at hx
        · cases hx
        · exact hG x hx
    · intro x hx
      split at hx
      · exact hG x hx
      · cases hx

theorem ArrAt.reps {h : Heap} {m F : List Nat} {sz : Nat} {l : List (List D)} {dp : Nat} {v : Value} (a : ArrAt h m F sz l dp v) : ∃ F', Reps h [.sl sz l] [v] F' ∧ ∀ b ∈ F', b ∈ m ∨ b ∈ F := by
  rcases a with ⟨rfl, rfl, rfl, rfl⟩ | ⟨b, cap, c, e, G, rfl, rfl, rfl, a2, a3, a4, a5, a6, a7⟩
  · exact ⟨[], .none (fun h => nomatch h) .nil, by simp⟩
  · refine ⟨b :: (G ++ []), .sl (fun h => nomatch h) a2 a3 a4 (by have := Nat.mul_le_mul_right sz a3; omega) a6 (by simpa using a7.weak) .nil, fun x hx => ?_⟩
    simp only [List.append_nil, List.mem_cons] at hx
    rcases hx with rfl | hx
    · left; simp
    · by_cases hd : dp = 0
      · right; simp [hd, hx]
      · left; simp [hd, hx]

inductive MagOK (h : Heap) : List (D ⊕ (Nat × List (List D) × Nat)) → List Value → List Nat → List (List Nat) → Prop
  | nil : MagOK h [] [] [] []
  | d {x v F l vs G ms} : Reps h [x] [v] F → MagOK h l vs G ms → MagOK h (.inl x :: l) (v :: vs) (F ++ G) ms
  | arr {s r dp v m l vs G ms} : ArrAt h m [] s r dp v → dp ≠ 0 → MagOK h l vs G ms → MagOK h (.inr (s, r, dp) :: l) (v :: vs) G (m :: ms)

inductive ArgOK (h : Heap) : Arg → Value → List Nat → List (List Nat) → Prop
  | one {d v F} : Reps h [d] [v] F → ArgOK h (.one d) v F []
  | agg {ds vs F} : Reps h ds vs F → ArgOK h (.agg ds) (.agg vs.toArray) F []
  | ptr {ds b off c e fz F} : h[b]? = some (.cells c e fz) → off + ds.length ≤ c.size → Reps h ds ((c.toList.drop off).take ds.length) F → ArgOK h (.ptr ds) (.pointer (some ⟨b, off, none⟩)) (b :: F) []
  | fnc {f l vs F} : CapsOK h l vs F → ArgOK h (.fnc f l) (.func (.func f) #[] vs.toArray) F []
  | arr {s l dp v m} : ArrAt h m [] s l dp v → dp ≠ 0 → ArgOK h (.arr s l dp) v [] [m]
  | box {ds b c e F} : h[b]? = some (.cells c e (0, 0)) → Reps h ds c.toList F → ArgOK h (.box ds) (.pointer (some ⟨b, 0, none⟩)) F [[b]]
  | mag {l vs F ms} : MagOK h l vs F ms → ArgOK h (.mag l) (.agg vs.toArray) F ms

inductive ArgsOK (h : Heap) : List Arg → List Value → List Nat → List (List Nat) → Prop
  | nil : ArgsOK h [] [] [] []
  | cons {x v F ms l vs G ns} : ArgOK h x v F ms → ArgsOK h l vs G ns → ArgsOK h (x :: l) (v :: vs) (F ++ G) (ms ++ ns)

inductive RCsOK (h : Heap) : List RC → List Value → List Nat → List (List Nat) → Prop
  | nil : RCsOK h [] [] [] []
  | d {x v F l vs G os} : Reps h [x] [v] F → RCsOK h l vs G os → RCsOK h (.d x :: l) (v :: vs) (F ++ G) os
  | own {s r dp v m F l vs G os} : ArrAt h m F s r dp v → RCsOK h l vs G os → RCsOK h (.own s r dp :: l) (v :: vs) (F ++ G) (m :: os)

def RVOK (h : Heap) (r : RV) (v : Value) (F : List Nat) (os : List (List Nat)) : Prop :=
  if r.agg then ∃ vs, v = .agg vs ∧ RCsOK h r.cs vs.toList F os else RCsOK h r.cs [v] F os

inductive RVsOK (h : Heap) : List RV → List Value → List Nat → List (List Nat) → Prop
  | nil : RVsOK h [] [] [] []
  | cons {r v F os l vs G ps} : RVOK h r v F os → RVsOK h l vs G ps → RVsOK h (r :: l) (v :: vs) (F ++ G) (os ++ ps)

def RetsOK (h : Heap) (rs : List RV) (v : Value) (F : List Nat) (os : List (List Nat)) : Prop :=
  match rs with
  | [] => F = [] ∧ os = []
  | [r] => RVOK h r v F os
  | rs => ∃ vs, v = .tuple vs ∧ RVsOK h rs vs.toList F os

/-- The mutable arguments, behind the call. -/
def FnFact (P : Program) (f : FuncId) : Prop := ∃ fn, P.funcs[f]? = some fn ∧ (fn.name == "runtime.NumGoroutine") = false ∧ fn.body.isNone = false

/-- The values of the mutable arguments. -/
def mutVals : List Bool → List Value → List Value
  | _, [] => []
  | ms, v :: r => if ms.headD false then v :: mutVals ms.tail r else mutVals ms.tail r

structure PostOK (alias : Bool) (w w' : World) (F : List Nat) (Ms : List (List Nat)) (mv : List Value) (rs : List RV) (ms : List Arg) (v : Value) : Prop where
  os : w'.os = w.os
  tape : w'.tape = w.tape
  output : w'.output = w.output
  grow : w.heap.size ≤ w'.heap.size
  old : ∀ b, b < w.heap.size → b ∉ Ms.flatten → w'.heap[b]? = w.heap[b]?
  res : ∃ F' os F2 Ms', RetsOK w'.heap rs v F' os ∧ ArgsOK w'.heap ms mv F2 Ms' ∧ os.flatten.Nodup ∧ (∀ b ∈ os.flatten, w.heap.size ≤ b ∧ b < w'.heap.size) ∧
    (∀ b ∈ F', b < w'.heap.size ∧ b ∉ os.flatten ∧ b ∉ Ms'.flatten ∧ (w.heap.size ≤ b ∨ (alias = true ∧ b ∈ F))) ∧
    Ms'.flatten.Nodup ∧ (∀ b ∈ Ms'.flatten, b < w'.heap.size ∧ b ∉ os.flatten ∧ (w.heap.size ≤ b ∨ b ∈ Ms.flatten))

def ContractOK (E : Env) (f : FuncId) (c : Contract) : Prop :=
  FnFact E.P f ∧ ∀ args p rs ms, c.run args = some (p, rs, ms) → p → ∀ (w : World) vals F Ms, ArgsOK w.heap args vals F Ms → Ms.flatten.Nodup → (∀ b ∈ F, b ∉ Ms.flatten) → E.J w.heap → E.N ≤ w.heap.size → (∀ b ∈ Ms.flatten, E.N ≤ b) →
    Calls E.P f vals.toArray w fun e w' => ∃ v, e = .returned v ∧ PostOK c.alias w w' F Ms (mutVals c.muts vals) rs ms v

structure TabsOK (E : Env) (T : Tabs) : Prop where
  ty : ∀ t y, T.ty t = some y → TyOK E.P t y
  ct : ∀ f c, T.ct f = some c → ContractOK E f c

section
variable {X : Ctx} {T : Tabs} {own : Id → List Nat} {s : St} {w : World} {a : Act} {ρ : Operand → AV} {h : Heap}

theorem caps_ok (hob : ∀ id, ObOK own h s id (s.ob id)) : ∀ {caps : List Id} {l : List (List D)} {vs : List Value}, capsD s.ob caps = some l → All2 (fun id u => s.sl id.1 ≠ .any ∧ BoxPtr own s.ob id 0 u) caps vs → ∃ F, CapsOK h l vs F ∧ ∀ b ∈ F, b < h.size
  | [], l, vs, hc, a => by
    simp only [capsD, Option.some.injEq] at hc
    subst hc
    cases a
    exact ⟨[], .nil, by simp⟩
  | id :: caps, l, vs, hc, a => by
    simp only [capsD] at hc
    split at hc
    · rename_i cs l' ho hl
      split at hc
      · rename_i ds hds
        simp only [Option.some.injEq] at hc
        subst hc
        cases a with
        | cons a1 a2 =>
          obtain ⟨_, b, hb, hbo⟩ := a1
          rw [ho] at hbo
          have := hob id
          rw [ho] at this
          obtain ⟨b', c, e, h1, h2, h3⟩ := this
          have : b' = b := by rw [h1] at hbo; simpa using hbo
          subst this
          obtain ⟨G, g1, g2⟩ := caps_ok hob hl a2
          have hcd : ∀ {cs : List Cell} {ds : List D} {us : List Value}, cellsD s.ob cs = some ds → CellsOK own h s cs us → ∃ F, Reps h ds us F := by
            intro cs
            induction cs with
            | nil => intro ds us h1 h2; simp only [cellsD, Option.some.injEq] at h1; subst h1; cases h2; exact ⟨[], .nil⟩
            | cons c cs ih =>
              intro ds us h1 h2
              simp only [cellsD] at h1
              split at h1
              · rename_i x l e1 e2
                simp only [Option.some.injEq] at h1
                subst h1
                cases h2 with
                | cons h3 h4 =>
                  obtain ⟨F1, r1, _⟩ := toD_ok e1 h3
                  obtain ⟨F2, r2⟩ := ih e2 h4
                  exact ⟨_, r1.cons r2⟩
              · cases h1
          obtain ⟨F, r⟩ := hcd hds h3
          subst hb
          refine ⟨_, .cons h2 r g1, fun x hx => ?_⟩
          rcases List.mem_cons.1 hx with rfl | hx
          · exact (Array.getElem?_eq_some_iff.1 h2).1
          · rcases List.mem_append.1 hx with hx | hx
            · exact r.lt x hx
            · exact g2 x hx
      · cases hc
    · cases hc

theorem cellsD_ok : ∀ {cs : List Cell} {ds : List D} {us : List Value}, cellsD s.ob cs = some ds → CellsOK own h s cs us → ∃ F, Reps h ds us F ∧ (cs.all cellImm = true → ∀ b ∈ F, Imm own h b) ∧ (cs.all cellNew = true → ∀ b ∈ F, Imm own h b ∧ s.bs b) := by
  intro cs
  induction cs with
  | nil => intro ds us h1 h2; simp only [cellsD, Option.some.injEq] at h1; subst h1; cases h2; exact ⟨[], .nil, by simp, by simp⟩
  | cons c cs ih =>
    intro ds us h1 h2
    simp only [cellsD] at h1
    split at h1
    · rename_i x l e1 e2
      simp only [Option.some.injEq] at h1
      subst h1
      cases h2 with
      | @cons _ v _ vs h3 h4 =>
        obtain ⟨F2, r2, i2, n2⟩ := ih e2 h4
        have : ∃ F1, Reps h [x] [v] F1 ∧ (cellImm c = true → ∀ b ∈ F1, Imm own h b) ∧ (cellNew c = true → ∀ b ∈ F1, Imm own h b ∧ s.bs b) := by
          cases c with
          | d y =>
            simp only [toD, Option.some.injEq] at e1
            subst e1
            obtain ⟨F, r, hF⟩ := h3
            refine ⟨F, r, fun _ => hF, fun hn => ?_⟩
            cases y with
            | v z => cases r with | v _ r => cases r; simp
            | sl => cases hn
          | n y =>
            simp only [toD, Option.some.injEq] at e1
            subst e1
            obtain ⟨F, r, hF⟩ := h3
            exact ⟨F, r, fun _ b hb => (hF b hb).1, fun _ => hF⟩
          | fn f l => cases e1
          | _ =>
            obtain ⟨F, r, _⟩ := toD_ok e1 h3
            exact ⟨F, r, fun hi => (by cases hi), fun hi => (by cases hi)⟩
        obtain ⟨F1, r1, i1, n1⟩ := this
        refine ⟨F1 ++ F2, r1.cons r2, fun hi b hb => ?_, fun hi b hb => ?_⟩
        · simp only [List.all_cons, Bool.and_eq_true] at hi
          rcases List.mem_append.1 hb with hb | hb
          · exact i1 hi.1 b hb
          · exact i2 hi.2 b hb
        · simp only [List.all_cons, Bool.and_eq_true] at hi
          rcases List.mem_append.1 hb with hb | hb
          · exact n1 hi.1 b hb
          · exact n2 hi.2 b hb
    · cases h1

theorem argOf_ok (hob : ∀ id, ObOK own h s id (s.ob id)) {av : AV} {x : Arg} (ha : argOf s.ob false av = some x) {v : Value} (a : AVOK own h s av v) :
    ∃ F, ArgOK h x v F [] ∧ (∀ b ∈ F, b < h.size) ∧ (avImm av = true → ∀ b ∈ F, Imm own h b) ∧ (avNew av = true → ∀ b ∈ F, Imm own h b ∧ s.bs b) := by
  cases av with
  | one c =>
    have one : ∀ {d : D}, toD s.ob c = some d → ∃ F, ArgOK h (.one d) v F [] ∧ (∀ b ∈ F, b < h.size) ∧ (avImm (.one c) = true → ∀ b ∈ F, Imm own h b) ∧ (avNew (.one c) = true → ∀ b ∈ F, Imm own h b ∧ s.bs b) := fun {d} hd => by
      obtain ⟨F, r, i, n⟩ := cellsD_ok (own := own) (s := s) (cs := [c]) (ds := [d]) (us := [v]) (by simp [cellsD, hd]) (.cons a .nil)
      exact ⟨F, .one r, r.lt, fun hi => i (by simpa [avImm] using hi), fun hi => n (by simpa [avNew] using hi)⟩
    simp only [argOf, Bool.false_eq_true, if_false] at ha
    split at ha
    · rename_i id
      split at ha
      · rename_i cs ho
        split at ha
        · rename_i ds hds
          simp only [Option.some.injEq] at ha
          subst ha
          obtain ⟨_, b, hb, hbo⟩ := a
          rw [ho] at hbo
          have := hob id
          rw [ho] at this
          obtain ⟨b', c, e, h1, h2, h3⟩ := this
          have : b' = b := by rw [h1] at hbo; simpa using hbo
          subst this
          obtain ⟨F, r, _⟩ := cellsD_ok hds h3
          subst hb
          have hlen : ds.length = c.toList.length := r.length
          refine ⟨_, .ptr (off := 0) h2 (by simp at hlen; omega) (F := F) ?_, fun x hx => ?_, fun hi => (by cases hi), fun hi => (by cases hi)⟩
          · rw [List.drop_zero, hlen, List.take_length]; exact r
          · rcases List.mem_cons.1 hx with rfl | hx
            · exact (Array.getElem?_eq_some_iff.1 h2).1
            · exact r.lt x hx
        · cases ha
      · cases ha
    · rename_i ds
      simp only [Option.some.injEq] at ha
      subst ha
      obtain ⟨b, off, c, e, fz, F, rfl, a2, a3, a4, a5, a6⟩ := a
      exact ⟨_, .ptr a2 a3 a4, fun x hx => by rcases List.mem_cons.1 hx with rfl | hx; exact a5.1; exact a4.lt x hx, fun hi => (by cases hi), fun hi => (by cases hi)⟩
    · rename_i f l
      simp only [Option.some.injEq] at ha
      subst ha
      obtain ⟨vs, F, rfl, g1, g2⟩ := a
      exact ⟨F, .fnc g1, g1.lt, fun hi => (by cases hi), fun hi => (by cases hi)⟩
    · rename_i f caps
      split at ha
      · rename_i l hl
        simp only [Option.some.injEq] at ha
        subst ha
        obtain ⟨vs, rfl, hc⟩ := a
        obtain ⟨F, g1, g2⟩ := caps_ok hob hl hc
        refine ⟨F, .fnc g1, g2, fun hi => ?_, fun hi => (by cases hi)⟩
        cases caps with
        | nil =>
          simp only [capsD, Option.some.injEq] at hl
          subst hl
          cases g1
          intro b hb; cases hb
        | cons => cases hi
      · cases ha
    · split at ha
      · rename_i d hd
        simp only [Option.some.injEq] at ha
        subst ha
        exact one hd
      · cases ha
  | agg cs =>
    simp only [argOf, Bool.false_eq_true, if_false] at ha
    split at ha
    · rename_i ds hds
      simp only [Option.some.injEq] at ha
      subst ha
      obtain ⟨vs, rfl, hc⟩ := a
      obtain ⟨F, r, i, n⟩ := cellsD_ok hds hc
      exact ⟨F, by simpa using ArgOK.agg r, r.lt, fun hi => i (by simpa [avImm] using hi), fun hi => n (by simpa [avNew] using hi)⟩
    · cases ha
  | _ => simp [argOf] at ha
end

end Go.Own
