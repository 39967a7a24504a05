/-
  Own calculus, part G: a loop's head: what is asked of a state to enter it, the state that the round begins with; that the second follows from the first. Conditions: none (definitions and lemmas).
-/
import Derived.Test.YtmfieiphcjenlaaOwnF
namespace Go.Own
open Go
set_option linter.unusedVariables false
set_option linter.unusedSimpArgs false

inductive PC where
  | d (x : D)
  | n (x : D)
  | own (s : Nat) (l : List (List D)) (deep : Nat)
  deriving Inhabited

inductive Pat where
  | unk
  | one (c : PC)
  | agg (cs : List PC)
  | box (cs : List PC)
  deriving Inhabited

def headCell (p k : Nat) : PC → Cell × List (Id × Ob)
  | .d x => (.d x, [])
  | .n x => (.n x, [])
  | .own s l dp => (.osl (p, k), [((p, k), .arr s l dp)])

def pcN : PC → Nat
  | .own .. => 1
  | _ => 0

def headCells (p : Nat) : Nat → List PC → List Cell × List (Id × Ob)
  | _, [] => ([], [])
  | k, c :: r => ((headCell p k c).1 :: (headCells p (k + pcN c) r).1, (headCell p k c).2 ++ (headCells p (k + pcN c) r).2)

def headPat (p : Nat) : Pat → AV × List (Id × Ob)
  | .unk => (.unk, [])
  | .one c => (.one (headCell p 0 c).1, (headCell p 0 c).2)
  | .agg cs => (.agg (headCells p 0 cs).1, (headCells p 0 cs).2)
  | .box cs => (.one (.bptr (p, 0) 0), ((p, 0), .box (headCells p 1 cs).1) :: (headCells p 1 cs).2)

/-- Equal data; a nil slice is an empty one. -/
def DEq : D → D → Prop
  | .v (.slice none 0 0), .sl _ l => l = []
  | y, x => y = x

/-- What becomes of an object: its new name, its old one, and whether its elements' memory is let go. -/
structure Mv where
  new : Option Id
  old : Option Id
  cut : Bool

def matchCell (ob : Id → Ob) (nm : Bool) (p k : Nat) : Cell → PC → Option (Prop × List Mv)
  | .d y, .d x => some (DEq y x, [])
  | .n y, .d x => some (DEq y x, [])
  | .n y, .n x => some (DEq y x, [])
  | .d (.v y), .n x => some (DEq (.v y) x, [])
  | .d (.v (.slice none 0 0)), .own _ l _ => some (l = [], [⟨some (p, k), none, false⟩])
  | c, .own s l dp => match ownCell ob c with
    | some (id, s', l', dp') => some (s' = s ∧ l' = l ∧ (dp = 0 ∨ dp' ≠ 0), [⟨some (p, k), some id, dp == 0⟩])
    | none => none
  | c, .d x => match ownCell ob c with
    | some (id, s', l', _) => some (D.sl s' l' = x, [⟨none, some id, false⟩])
    | none => none
  | c, .n x => match ownCell ob c with
    | some (id, s', l', dp') => some (D.sl s' l' = x ∧ nm = true ∧ dp' ≠ 0, [⟨none, some id, false⟩])
    | none => none

def matchCells (ob : Id → Ob) (nm : Bool) (p : Nat) : Nat → List Cell → List PC → Option (Prop × List Mv)
  | _, [], [] => some (True, [])
  | k, c :: cs, x :: xs => match matchCell ob nm p k c x, matchCells ob nm p (k + pcN x) cs xs with
    | some (q, m), some (q', m') => some (q ∧ q', m ++ m')
    | _, _ => none
  | _, _, _ => none

def matchPat (ob : Id → Ob) (nm : Bool) (p : Nat) : AV → Pat → Option (Prop × List Mv)
  | _, .unk => some (True, [])
  | .one c, .one x => matchCell ob nm p 0 c x
  | .agg cs, .agg xs => matchCells ob nm p 0 cs xs
  | .one (.bptr id 0), .box xs => match ob id with
    | .box cs => match matchCells ob nm p 1 cs xs with
      | some (q, m) => some (q, ⟨some (p, 0), some id, false⟩ :: m)
      | none => none
    | _ => none
  | _, _ => none

def matchAll (s : St) (nm : Bool) : List (Nat × Pat) → Option (Prop × List Mv)
  | [] => some (True, [])
  | (p, x) :: r => match matchPat s.ob nm p (s.sl p) x, matchAll s nm r with
    | some (q, m), some (q', m') => some (q ∧ q', m ++ m')
    | _, _ => none

def objsOf : List (Nat × Pat) → List (Id × Ob)
  | [] => []
  | (p, x) :: r => (headPat p x).2 ++ objsOf r

def cellFree : Cell → Bool
  | .any | .d _ | .n _ | .iptr _ | .fni .. | .fn _ [] => true
  | _ => false

def scrub : AV → AV
  | .any => .any
  | .one c => if cellFree c then .one c else .unk
  | .agg cs => if cs.all cellFree then .agg cs else .unk
  | _ => .unk

def inRs (rs : List (Nat × Nat)) (j : Nat) : Bool := rs.any fun r => decide (r.1 ≤ j) && decide (j < r.2)

def slotsOf (rs : List (Nat × Nat)) (f : Nat → AV) : List (Nat × Pat) → Nat → AV
  | [], j => if inRs rs j then .any else scrub (f j)
  | (p, x) :: r, j => if j = p then (headPat p x).1 else slotsOf rs f r j

def headSt (rs : List (Nat × Nat)) (s : St) (ps : List (Nat × Pat)) : St := ⟨s.bs, slotsOf rs s.sl ps, updO (fun _ => .none) (objsOf ps)⟩

/-- All that is asked at a loop's head. -/
def Enter (s : St) (nm : Bool) (ps : List (Nat × Pat)) : Prop :=
  match matchAll s nm ps with
  | some (q, m) => q ∧ (m.filterMap (·.old)).Nodup ∧ (m.filterMap (·.new)).Nodup
  | none => False

theorem updO_get {us : List (Id × Ob)} (hn : (us.map (·.1)).Nodup) : ∀ (g : Id → Ob) (k : Id) (o : Ob), (k, o) ∈ us → updO g us k = o := by
  have keep : ∀ (us : List (Id × Ob)) (g : Id → Ob) (k : Id), k ∉ us.map (·.1) → updO g us k = g k := by
    intro us
    induction us with
    | nil => intros; rfl
    | cons x r ih =>
      intro g k hk
      obtain ⟨k0, o0⟩ := x
      simp only [List.map_cons, List.mem_cons, not_or] at hk
      simp only [updO]
      rw [ih _ _ hk.2, if_neg hk.1]
  induction us with
  | nil => intro g k o h; cases h
  | cons x r ih =>
    intro g k o h
    obtain ⟨k0, o0⟩ := x
    simp only [List.map_cons, List.nodup_cons] at hn
    simp only [updO]
    rcases List.mem_cons.1 h with h | h
    · simp only [Prod.mk.injEq] at h
      obtain ⟨rfl, rfl⟩ := h
      rw [keep _ _ _ hn.1, if_pos rfl]
    · exact ih hn.2 _ _ _ h

theorem updO_none {us : List (Id × Ob)} : ∀ (g : Id → Ob) (k : Id), k ∉ us.map (·.1) → updO g us k = g k := by
  induction us with
  | nil => intros; rfl
  | cons x r ih =>
    intro g k hk
    obtain ⟨k0, o0⟩ := x
    simp only [List.map_cons, List.mem_cons, not_or] at hk
    simp only [updO]
    rw [ih _ _ hk.2, if_neg hk.1]

/-- The new owners. -/
def mvOwn (own : Id → List Nat) (m : List Mv) (id : Id) : List Nat :=
  match m.find? (fun q => q.new == some id) with
  | some q => match q.old with
    | some o => if q.cut then (own o).take 1 else own o
    | none => []
  | none => []

section
variable {own : Id → List Nat} {h : Heap} {s s' : St} {m : List Mv}

theorem mvOwn_some {id : Id} {b : Nat} (hb : b ∈ mvOwn own m id) : ∃ q ∈ m, q.new = some id ∧ ∃ o, q.old = some o ∧ b ∈ own o := by
  unfold mvOwn at hb
  split at hb
  · rename_i q hq
    have h1 := List.mem_of_find?_eq_some hq
    have h2 := List.find?_some hq
    split at hb
    · rename_i o ho
      refine ⟨q, h1, by simpa using h2, o, ho, ?_⟩
      split at hb
      · exact List.mem_of_mem_take hb
      · exact hb
    · cases hb
  · cases hb

theorem nodup_filterMap_unique {α β : Type} {f : α → Option β} : ∀ {l : List α}, (l.filterMap f).Nodup → ∀ {x y : α} {b : β}, x ∈ l → y ∈ l → f x = some b → f y = some b → x = y
  | [], _, x, _, _, hx, _, _, _ => by cases hx
  | z :: l, hn, x, y, b, hx, hy, h1, h2 => by
    cases hz : f z with
    | none =>
      rw [List.filterMap_cons, hz] at hn
      rcases List.mem_cons.1 hx with rfl | hx
      · rw [hz] at h1; cases h1
      · rcases List.mem_cons.1 hy with rfl | hy
        · rw [hz] at h2; cases h2
        · exact nodup_filterMap_unique hn hx hy h1 h2
    | some c =>
      rw [List.filterMap_cons, hz] at hn
      simp only [List.nodup_cons] at hn
      rcases List.mem_cons.1 hx with ex | hx'
      · rcases List.mem_cons.1 hy with ey | hy'
        · rw [ex, ey]
        · rw [ex, hz] at h1
          cases h1
          exact absurd (List.mem_filterMap.2 ⟨y, hy', h2⟩) hn.1
      · rcases List.mem_cons.1 hy with ey | hy'
        · rw [ey, hz] at h2
          cases h2
          exact absurd (List.mem_filterMap.2 ⟨x, hx', h1⟩) hn.1
        · exact nodup_filterMap_unique hn.2 hx' hy' h1 h2

theorem mvOwn_eq (hnew : (m.filterMap (·.new)).Nodup) {q : Mv} {id o : Id} (hq : q ∈ m) (h1 : q.new = some id) (h2 : q.old = some o) : mvOwn own m id = if q.cut then (own o).take 1 else own o := by
  unfold mvOwn
  have : m.find? (fun q => q.new == some id) = some q := by
    cases hf : m.find? (fun q => q.new == some id) with
    | none => have := List.find?_eq_none.1 hf q hq; simp [h1] at this
    | some q' =>
      have a := List.mem_of_find?_eq_some hf
      have b := List.find?_some hf
      rw [nodup_filterMap_unique (f := (·.new)) hnew a hq (by simpa using b) h1]
  rw [this]
  simp only [h2]

theorem mvOwn_nil (hnew : (m.filterMap (·.new)).Nodup) {q : Mv} {id : Id} (hq : q ∈ m) (h1 : q.new = some id) (h2 : q.old = none) : mvOwn own m id = [] := by
  unfold mvOwn
  have : m.find? (fun q => q.new == some id) = some q := by
    cases hf : m.find? (fun q => q.new == some id) with
    | none => have := List.find?_eq_none.1 hf q hq; simp [h1] at this
    | some q' =>
      have a := List.mem_of_find?_eq_some hf
      have b := List.find?_some hf
      rw [nodup_filterMap_unique (f := (·.new)) hnew a hq (by simpa using b) h1]
  rw [this]
  simp only [h2]

theorem imm_mv {b : Nat} (hb : Imm own h b) : Imm (mvOwn own m) h b :=
  ⟨hb.1, fun id hm => by obtain ⟨_, _, _, o, _, ho⟩ := mvOwn_some hm; exact hb.2 o ho⟩

/-- All that the cells' laws need. -/
structure MvOK (own : Id → List Nat) (h : Heap) (s' : St) (m : List Mv) (us : List (Id × Ob)) : Prop where
  old : (m.filterMap (·.old)).Nodup
  new : (m.filterMap (·.new)).Nodup
  nd : ∀ id, (own id).Nodup
  dj : ∀ id id' b, b ∈ own id → b ∈ own id' → id = id'
  lt : ∀ id b, b ∈ own id → b < h.size
  ob : ∀ k o, (k, o) ∈ us → s'.ob k = o

/-- What is let go is owned by nobody. -/
theorem MvOK.free {us} (k : MvOK own h s' m us) {q : Mv} {o : Id} (hq : q ∈ m) (ho : q.old = some o) {b : Nat} (hb : b ∈ own o) (hn : q.new = none ∨ (q.cut = true ∧ b ∉ (own o).take 1)) :
    Imm (mvOwn own m) h b := by
  refine ⟨k.lt o b hb, fun id hm => ?_⟩
  obtain ⟨q', hq', h1, o', ho', hb'⟩ := mvOwn_some hm
  have := k.dj o o' b hb hb'
  subst this
  have := nodup_filterMap_unique (f := (·.old)) k.old hq hq' ho ho'
  subst this
  rcases hn with hn | ⟨hc, hn⟩
  · rw [hn] at h1; cases h1
  · rw [mvOwn_eq k.new hq h1 ho, if_pos hc] at hm
    exact hn hm

theorem ArrB.mv {us} (k : MvOK own h s' m us) {q : Mv} {id o : Id} {sz : Nat} {l : List (List D)} {dp dp' b cap : Nat} (hq : q ∈ m) (h1 : q.new = some id) (h2 : q.old = some o) (hc : q.cut = (dp' == 0))
    (hd : dp' = 0 ∨ dp ≠ 0) (a : ArrB own h o sz l dp b cap) : ArrB (mvOwn own m) h id sz l dp' b cap := by
  obtain ⟨c, e, G, a1, a2, a3, a4, a5, a6, a7, a8⟩ := a
  have e1 := mvOwn_eq (own := own) k.new hq h1 h2
  by_cases h0 : dp' = 0
  · refine ⟨c, e, G, ?_, a2, a3, a4, a5, a6, by rw [h0]; exact a7.weak, fun _ x hx => ?_⟩
    · rw [e1, hc, h0, a1]; simp
    · by_cases hdp : dp = 0
      · exact imm_mv (a8 hdp x hx)
      · refine k.free hq h2 (by rw [a1]; simp [hdp, hx]) (.inr ⟨by simp [hc, h0], ?_⟩)
        have := k.nd o
        rw [a1] at this ⊢
        simp only [hdp, if_false, List.nodup_cons] at this
        simp only [List.take_succ_cons, List.take_zero, List.mem_singleton]
        rintro rfl
        exact this.1 hx
  · have hdp : dp ≠ 0 := hd.resolve_left h0
    have hcut : q.cut = false := by rw [hc]; simpa using h0
    refine ⟨c, e, G, ?_, a2, a3, a4, a5, a6, by rw [bne_iff_ne.2 h0]; rwa [bne_iff_ne.2 hdp] at a7, fun hz => absurd hz h0⟩
    rw [e1, hcut, a1]; simp [h0, hdp]

theorem ownCell_ok {c : Cell} {v : Value} {id : Id} {sz : Nat} {l : List (List D)} {dp : Nat} (ho : ownCell s.ob c = some (id, sz, l, dp)) (a : CellOK own h s c v) : ArrOK own h id sz l dp v := by
  cases c with
  | fr id' s' l' dp' =>
    simp only [ownCell] at ho
    split at ho
    · rename_i hn
      simp only [Option.some.injEq, Prod.mk.injEq] at ho
      obtain ⟨rfl, rfl, rfl, rfl⟩ := ho
      exact a.2.2 hn
    · cases ho
  | osl id' =>
    simp only [ownCell] at ho
    split at ho
    · rename_i hn
      simp only [Option.some.injEq, Prod.mk.injEq] at ho
      obtain ⟨rfl, rfl, rfl, rfl⟩ := ho
      have := a.2.2
      rw [hn] at this
      exact this
    · cases ho
  | _ => simp [ownCell] at ho

theorem DEq.reps {y x : D} (hq : DEq y x) {v : Value} {F} (r : Reps h [y] [v] F) : Reps h [x] [v] F := by
  unfold DEq at hq
  split at hq
  · subst hq
    cases r with
    | v _ r => cases r; exact .none (fun h => nomatch h) .nil
  · exact hq ▸ r

theorem ArrOK.reps {id : Id} {sz : Nat} {l : List (List D)} {dp : Nat} {v : Value} (a : ArrOK own h id sz l dp v) :
    ∃ F, Reps h [.sl sz l] [v] F ∧ ∀ b ∈ F, b ∈ own id ∨ Imm own h b := by
  rcases a with ⟨rfl, rfl, _⟩ | ⟨b, cap, rfl, c, e, G, a1, a2, a3, a4, a5, a6, a7, a8⟩
  · exact ⟨[], .none (fun h => nomatch h) .nil, by simp⟩
  · refine ⟨b :: (G ++ []), .sl (fun h => nomatch h) a2 a3 a4 ?_ a6 (by simpa using a7.weak) .nil, fun x hx => ?_⟩
    · have := Nat.mul_le_mul_right sz a3
      omega
    · simp only [List.append_nil, List.mem_cons] at hx
      rcases hx with rfl | hx
      · left; rw [a1]; simp
      · by_cases hd : dp = 0
        · exact .inr (a8 hd x hx)
        · left; rw [a1]; simp [hd, hx]

theorem ArrOK.repsW {id : Id} {sz : Nat} {l : List (List D)} {dp : Nat} {v : Value} (a : ArrOK own h id sz l dp v) (hd : dp ≠ 0) :
    ∃ F, RepsW true h [.sl sz l] [v] F ∧ F = own id := by
  rcases a with ⟨rfl, rfl, h3⟩ | ⟨b, cap, rfl, c, e, G, a1, a2, a3, a4, a5, a6, a7, a8⟩
  · exact ⟨[], .none (fun _ => rfl) .nil, h3.symm⟩
  · rw [bne_iff_ne.2 hd] at a7
    refine ⟨b :: (G ++ []), .sl (fun _ => ⟨rfl, rfl, a5⟩) a2 a3 a4 ?_ a6 (by simpa using a7) .nil, by rw [a1]; simp [hd]⟩
    have := Nat.mul_le_mul_right sz a3
    omega

theorem matchCell_nil {ob : Id → Ob} {nm : Bool} {p k : Nat} {y : D} {sz : Nat} {l : List (List D)} {dp : Nat} {r} (hm : matchCell ob nm p k (.d y) (.own sz l dp) = some r) : y = .v (.slice none 0 0) := by
  unfold matchCell at hm
  split at hm
  all_goals (first | (simp_all [ownCell]; done) | skip)
  all_goals (simp only [Cell.d.injEq] at *; assumption)

theorem CellOK.mv {us} (k : MvOK own h s' m us) {nm : Bool} (hnm : nm = true → ∀ id b, b ∈ own id → s.bs b) (hbs : s'.bs = s.bs) {p kk : Nat} (hp : s'.sl p ≠ .any) {c : Cell} {x : PC} {pr : Prop} {mm : List Mv}
    (hm : matchCell s.ob nm p kk c x = some (pr, mm)) (hpr : pr) (hmm : ∀ q ∈ mm, q ∈ m) (hus : ∀ q ∈ (headCell p kk x).2, q ∈ us) {v : Value} (a : CellOK own h s c v) :
    CellOK (mvOwn own m) h s' (headCell p kk x).1 v := by
  have ownD : ∀ {id sz l dp}, ownCell s.ob c = some (id, sz, l, dp) → (⟨none, some id, false⟩ : Mv) ∈ m → CellOK (mvOwn own m) h s' (.d (.sl sz l)) v := fun ho hin => by
    obtain ⟨F, r, hF⟩ := (ownCell_ok ho a).reps
    refine ⟨F, r, fun b hb => ?_⟩
    rcases hF b hb with hh | hh
    · exact k.free hin rfl hh (.inl rfl)
    · exact imm_mv hh
  have ownN : nm = true → ∀ {id sz l dp}, ownCell s.ob c = some (id, sz, l, dp) → dp ≠ 0 → (⟨none, some id, false⟩ : Mv) ∈ m → CellOK (mvOwn own m) h s' (.n (.sl sz l)) v := fun hn id sz l dp ho hdp hin => by
    have ha := ownCell_ok ho a
    rcases ha with ⟨rfl, rfl, _⟩ | ⟨b, cap, rfl, c, e, G, a1, a2, a3, a4, a5, a6, a7, a8⟩
    · exact ⟨[], .none (fun h => nomatch h) .nil, by simp⟩
    · refine ⟨b :: (G ++ []), .sl (fun h => nomatch h) a2 a3 a4 (by have := Nat.mul_le_mul_right sz a3; omega) a6 (by simpa using a7.weak) .nil, fun x hx => ?_⟩
      have hx' : x ∈ own id := by rw [a1]; simpa [hdp] using hx
      exact ⟨k.free hin rfl hx' (.inl rfl), by rw [hbs]; exact hnm hn id x hx'⟩
  have imm1 : ∀ {y x : D}, DEq y x → (∃ F, Reps h [y] [v] F ∧ ∀ b ∈ F, Imm own h b) → CellOK (mvOwn own m) h s' (.d x) v := fun hq ⟨F, r, hF⟩ => ⟨F, hq.reps r, fun b hb => imm_mv (hF b hb)⟩
  cases x with
  | d x =>
    have own1 : ∀ {cc : Cell}, cc = c → (match ownCell s.ob cc with
        | some (id, s', l', _) => some (D.sl s' l' = x, [(⟨none, some id, false⟩ : Mv)])
        | none => none) = some (pr, mm) → CellOK (mvOwn own m) h s' (.d x) v := fun {cc} hcc hm2 => by
      subst hcc
      clear hm
      split at hm2
      · rename_i id sz l dp ho
        simp only [Option.some.injEq, Prod.mk.injEq] at hm2
        obtain ⟨rfl, rfl⟩ := hm2
        have := ownD ho (hmm _ (by simp))
        rw [← hpr]; exact this
      · cases hm2
    cases c with
    | d y => simp only [matchCell, Option.some.injEq, Prod.mk.injEq] at hm; obtain ⟨rfl, rfl⟩ := hm; exact imm1 hpr a
    | n y =>
      simp only [matchCell, Option.some.injEq, Prod.mk.injEq] at hm
      obtain ⟨rfl, rfl⟩ := hm
      obtain ⟨F, r, hF⟩ := a
      exact imm1 hpr ⟨F, r, fun b hb => (hF b hb).1⟩
    | fr id s1 l1 d1 => exact own1 rfl hm
    | osl id => exact own1 rfl hm
    | _ => simp [matchCell, ownCell] at hm
  | n x =>
    have own1 : ∀ {cc : Cell}, cc = c → (match ownCell s.ob cc with
        | some (id, s', l', dp') => some (D.sl s' l' = x ∧ nm = true ∧ dp' ≠ 0, [(⟨none, some id, false⟩ : Mv)])
        | none => none) = some (pr, mm) → CellOK (mvOwn own m) h s' (.n x) v := fun {cc} hcc hm2 => by
      subst hcc
      clear hm
      split at hm2
      · rename_i id sz l dp ho
        simp only [Option.some.injEq, Prod.mk.injEq] at hm2
        obtain ⟨rfl, rfl⟩ := hm2
        have := ownN hpr.2.1 ho hpr.2.2 (hmm _ (by simp))
        rw [← hpr.1]; exact this
      · cases hm2
    cases c with
    | d y =>
      cases y with
      | v y =>
        simp only [matchCell, Option.some.injEq, Prod.mk.injEq] at hm
        obtain ⟨rfl, rfl⟩ := hm
        obtain ⟨F, r, hF⟩ := a
        have hF0 : F = [] := by cases r with | v _ r => cases r; rfl
        subst hF0
        exact ⟨[], hpr.reps r, by simp⟩
      | sl => simp [matchCell, ownCell] at hm
    | n y =>
      simp only [matchCell, Option.some.injEq, Prod.mk.injEq] at hm
      obtain ⟨rfl, rfl⟩ := hm
      obtain ⟨F, r, hF⟩ := a
      exact ⟨F, hpr.reps r, fun b hb => ⟨imm_mv (hF b hb).1, by rw [hbs]; exact (hF b hb).2⟩⟩
    | fr id s1 l1 d1 => exact own1 rfl hm
    | osl id => exact own1 rfl hm
    | _ => simp [matchCell, ownCell] at hm
  | own sz l dp =>
    have hob := k.ob (p, kk) (.arr sz l dp) (hus _ (by simp [headCell]))
    have own1 : ∀ {cc : Cell}, cc = c → (match ownCell s.ob cc with
        | some (id, s', l', dp') => some (s' = sz ∧ l' = l ∧ (dp = 0 ∨ dp' ≠ 0), [(⟨some (p, kk), some id, dp == 0⟩ : Mv)])
        | none => none) = some (pr, mm) → CellOK (mvOwn own m) h s' (.osl (p, kk)) v := fun {cc} hcc hm2 => by
      subst hcc
      clear hm
      split at hm2
      · rename_i id sz' l' dp' ho
        simp only [Option.some.injEq, Prod.mk.injEq] at hm2
        obtain ⟨rfl, rfl⟩ := hm2
        obtain ⟨rfl, rfl, hd⟩ := hpr
        have hin : (⟨some (p, kk), some id, dp == 0⟩ : Mv) ∈ m := hmm _ (by simp)
        refine ⟨a.one, hp, ?_⟩
        rw [hob]
        rcases ownCell_ok ho a with ⟨h1, h2, h3⟩ | ⟨b, cap, h1, h2⟩
        · exact .inl ⟨h1, h2, by rw [mvOwn_eq k.new hin rfl rfl, h3]; simp⟩
        · exact .inr ⟨b, cap, h1, h2.mv k hin rfl rfl rfl hd⟩
      · cases hm2
    cases c with
    | fr id s1 l1 d1 => exact own1 rfl hm
    | osl id => exact own1 rfl hm
    | d y =>
      have hy := matchCell_nil hm
      subst hy
      simp only [matchCell, Option.some.injEq, Prod.mk.injEq] at hm
      obtain ⟨rfl, rfl⟩ := hm
      obtain ⟨F, r, hF⟩ := a
      refine ⟨r.one, hp, ?_⟩
      have hv : v = .slice none 0 0 := by cases r with | v _ r => rfl
      rw [hob]
      exact .inl ⟨hv, hpr, mvOwn_nil (q := ⟨some (p, kk), none, false⟩) k.new (hmm _ (by simp)) rfl rfl⟩
    | _ => simp [matchCell, ownCell] at hm

theorem CellsOK.mv {us} (k : MvOK own h s' m us) {nm : Bool} (hnm : nm = true → ∀ id b, b ∈ own id → s.bs b) (hbs : s'.bs = s.bs) {p : Nat} (hp : s'.sl p ≠ .any) : ∀ {cs : List Cell} {xs : List PC} {kk : Nat} {pr : Prop} {mm : List Mv}
    (_ : matchCells s.ob nm p kk cs xs = some (pr, mm)) (_ : pr) (_ : ∀ q ∈ mm, q ∈ m) (_ : ∀ q ∈ (headCells p kk xs).2, q ∈ us) {vs : List Value} (_ : CellsOK own h s cs vs),
    CellsOK (mvOwn own m) h s' (headCells p kk xs).1 vs
  | [], [], _, _, _, _, _, _, _, _, a => by cases a; exact .nil
  | c :: cs, x :: xs, kk, pr, mm, hm, hpr, hmm, hus, vs, a => by
    simp only [matchCells] at hm
    split at hm
    · rename_i q m1 q' m2 h1 h2
      simp only [Option.some.injEq, Prod.mk.injEq] at hm
      obtain ⟨rfl, rfl⟩ := hm
      cases a with
      | cons a1 a2 =>
        simp only [headCells] at hus ⊢
        exact .cons (a1.mv k hnm hbs hp h1 hpr.1 (fun q hq => hmm q (by simp [hq])) (fun q hq => hus q (by simp [hq])))
          (CellsOK.mv k hnm hbs hp h2 hpr.2 (fun q hq => hmm q (by simp [hq])) (fun q hq => hus q (by simp [hq])) a2)
    · cases hm
  | [], _ :: _, _, _, _, hm, _, _, _, _, _ => by simp [matchCells] at hm
  | _ :: _, [], _, _, _, hm, _, _, _, _, _ => by simp [matchCells] at hm

theorem AVOK.mv {us} (k : MvOK own h s' m us) {nm : Bool} (hnm : nm = true → ∀ id b, b ∈ own id → s.bs b) (hbs : s'.bs = s.bs) {p : Nat} (hp : s'.sl p ≠ .any) {av : AV} {x : Pat} {pr : Prop} {mm : List Mv}
    (hm : matchPat s.ob nm p av x = some (pr, mm)) (hpr : pr) (hmm : ∀ q ∈ mm, q ∈ m) (hus : ∀ q ∈ (headPat p x).2, q ∈ us) {v : Value} (a : AVOK own h s av v)
    (hbox : ∀ id, ObOK own h s id (s.ob id)) : AVOK (mvOwn own m) h s' (headPat p x).1 v ∧ (∀ cs, ((p, 0), Ob.box cs) ∈ (headPat p x).2 → ObOK (mvOwn own m) h s' (p, 0) (.box cs)) := by
  have noB : ∀ (xs : List PC) (kk : Nat) cs id, (id, Ob.box cs) ∉ (headCells p kk xs).2 := by
    intro xs
    induction xs with
    | nil => intro kk cs id hx; simp [headCells] at hx
    | cons y ys ih =>
      intro kk cs id hx
      simp only [headCells, List.mem_append] at hx
      rcases hx with hx | hx
      · cases y <;> simp [headCell] at hx
      · exact ih _ _ _ hx
  cases x with
  | unk => exact ⟨trivial, fun cs hx => by simp [headPat] at hx⟩
  | one c =>
    cases av with
    | one c' => exact ⟨CellOK.mv k hnm hbs hp hm hpr hmm hus a, fun cs hx => by cases c <;> simp [headPat, headCell] at hx⟩
    | _ => simp [matchPat] at hm
  | agg xs =>
    cases av with
    | agg cs =>
      obtain ⟨vs, rfl, a⟩ := a
      exact ⟨⟨vs, rfl, CellsOK.mv k hnm hbs hp hm hpr hmm hus a⟩, fun cs hx => absurd hx (noB _ _ _ _)⟩
    | _ => simp [matchPat] at hm
  | box xs =>
    unfold matchPat at hm
    split at hm
    · cases ‹Pat.box xs = Pat.unk›
    · cases ‹Pat.box xs = Pat.one _›
    · cases ‹Pat.box xs = Pat.agg _›
    · rename_i id ys heq
      simp only [Pat.box.injEq] at heq
      subst heq
      split at hm
      · rename_i cs ho
        split at hm
        · rename_i q m1 hmc
          simp only [Option.some.injEq, Prod.mk.injEq] at hm
          obtain ⟨rfl, rfl⟩ := hm
          have hb := hbox id
          rw [ho] at hb
          obtain ⟨b, c, e, h1, h2, h3⟩ := hb
          have hin : (⟨some (p, 0), some id, false⟩ : Mv) ∈ m := hmm _ (by simp)
          have hown : mvOwn own m (p, 0) = [b] := by rw [mvOwn_eq k.new hin rfl rfl, h1]; simp
          have hcs := CellsOK.mv k hnm hbs hp hmc hpr (fun q hq => hmm q (by simp [hq])) (fun q hq => hus q (by simp [headPat, hq])) h3
          refine ⟨?_, fun cs' hx => ?_⟩
          · obtain ⟨ha, b', hb1, hb2⟩ := a
            rw [ho] at hb2
            have : b' = b := by rw [h1] at hb2; simpa using hb2.symm
            subst this
            refine ⟨hp, b', hb1, ?_⟩
            have hob := k.ob (p, 0) _ (hus ((p, 0), .box (headCells p 1 xs).1) (by simp [headPat]))
            rw [hob]
            exact hown
          · simp only [headPat, List.mem_cons, Prod.mk.injEq, Ob.box.injEq, true_and] at hx
            rcases hx with rfl | hx
            · exact ⟨b, c, e, hown, h2, hcs⟩
            · exact absurd hx (noB _ _ _ _)
        · cases hm
      · cases hm
    · cases hm

theorem CellOK.free {own' : Id → List Nat} {c : Cell} {v : Value} (hf : cellFree c = true) (hi : ∀ b, Imm own h b → Imm own' h b) (hbs : s'.bs = s.bs) (a : CellOK own h s c v) : CellOK own' h s' c v := by
  cases c with
  | any => exact a
  | d x => obtain ⟨F, r, hF⟩ := a; exact ⟨F, r, fun b hb => hi b (hF b hb)⟩
  | n x => obtain ⟨F, r, hF⟩ := a; exact ⟨F, r, fun b hb => ⟨hi b (hF b hb).1, by rw [hbs]; exact (hF b hb).2⟩⟩
  | iptr ds => obtain ⟨b, off, c, e, fz, F, h1, h2, h3, h4, h5, h6⟩ := a; exact ⟨b, off, c, e, fz, F, h1, h2, h3, h4, hi b h5, fun x hx => hi x (h6 x hx)⟩
  | fni f l => obtain ⟨vs, F, h1, h2, h3⟩ := a; exact ⟨vs, F, h1, h2, fun b hb => hi b (h3 b hb)⟩
  | fn f caps =>
    cases caps with
    | nil => obtain ⟨vs, h1, h2⟩ := a; cases h2; exact ⟨[], h1, .nil⟩
    | cons => simp [cellFree] at hf
  | _ => simp [cellFree] at hf

theorem CellsOK.free {own' : Id → List Nat} (hi : ∀ b, Imm own h b → Imm own' h b) (hbs : s'.bs = s.bs) : ∀ {cs : List Cell} {vs : List Value}, cs.all cellFree = true → CellsOK own h s cs vs → CellsOK own' h s' cs vs
  | _, _, _, .nil => .nil
  | _, _, hf, .cons a b => by
    simp only [List.all_cons, Bool.and_eq_true] at hf
    exact .cons (a.free hf.1 hi hbs) (CellsOK.free hi hbs hf.2 b)

theorem AVOK.scrub {own' : Id → List Nat} (hi : ∀ b, Imm own h b → Imm own' h b) (hbs : s'.bs = s.bs) {av : AV} {v : Value} (a : AVOK own h s av v) : AVOK own' h s' (scrub av) v := by
  cases av with
  | one c =>
    simp only [Own.scrub]
    split
    · exact CellOK.free ‹_› hi hbs a
    · trivial
  | agg cs =>
    simp only [Own.scrub]
    split
    · obtain ⟨vs, h1, h2⟩ := a; exact ⟨vs, h1, CellsOK.free hi hbs ‹_› h2⟩
    · trivial
  | _ => trivial

theorem matchAll_mem : ∀ {ps : List (Nat × Pat)} {nm : Bool} {pr : Prop} {mm : List Mv}, matchAll s nm ps = some (pr, mm) → pr → ∀ px ∈ ps, ∃ q m1, matchPat s.ob nm px.1 (s.sl px.1) px.2 = some (q, m1) ∧ q ∧ ∀ x ∈ m1, x ∈ mm
  | [], _, _, _, _, _, px, hx => by cases hx
  | (p, x) :: r, nm, pr, mm, hm, hpr, px, hx => by
    simp only [matchAll] at hm
    split at hm
    · rename_i q m1 q' m2 h1 h2
      simp only [Option.some.injEq, Prod.mk.injEq] at hm
      obtain ⟨rfl, rfl⟩ := hm
      rcases List.mem_cons.1 hx with rfl | hx
      · exact ⟨q, m1, h1, hpr.1, fun x hx => by simp [hx]⟩
      · obtain ⟨q3, m3, e1, e2, e3⟩ := matchAll_mem h2 hpr.2 px hx
        exact ⟨q3, m3, e1, e2, fun x hx => by simp [e3 x hx]⟩
    · cases hm

theorem objsOf_mem : ∀ {ps : List (Nat × Pat)} {px : Nat × Pat}, px ∈ ps → ∀ q ∈ (headPat px.1 px.2).2, q ∈ objsOf ps
  | (p, x) :: r, px, hx, q, hq => by
    simp only [objsOf, List.mem_append]
    rcases List.mem_cons.1 hx with rfl | hx
    · exact .inl hq
    · exact .inr (objsOf_mem hx q hq)

theorem objsOf_inv : ∀ {ps : List (Nat × Pat)} {q : Id × Ob}, q ∈ objsOf ps → ∃ px ∈ ps, q ∈ (headPat px.1 px.2).2
  | (p, x) :: r, q, hq => by
    simp only [objsOf, List.mem_append] at hq
    rcases hq with hq | hq
    · exact ⟨(p, x), by simp, hq⟩
    · obtain ⟨px, h1, h2⟩ := objsOf_inv hq; exact ⟨px, by simp [h1], h2⟩

theorem headCells_row (p : Nat) : ∀ (xs : List PC) (k : Nat), (∀ q ∈ (headCells p k xs).2, q.1.1 = p ∧ k ≤ q.1.2) ∧ ((headCells p k xs).2.map (·.1)).Nodup
  | [], _ => by simp [headCells]
  | y :: ys, k => by
    obtain ⟨h1, h2⟩ := headCells_row p ys (k + pcN y)
    cases y with
    | d x => simpa [headCells, headCell, pcN] using headCells_row p ys k
    | n x => simpa [headCells, headCell, pcN] using headCells_row p ys k
    | own s l dp =>
      simp only [pcN] at h1 h2
      refine ⟨fun q hq => ?_, ?_⟩
      · simp only [headCells, headCell, pcN, List.cons_append, List.nil_append, List.mem_cons] at hq
        rcases hq with rfl | hq
        · exact ⟨rfl, Nat.le_refl _⟩
        · have := h1 q hq; exact ⟨this.1, by omega⟩
      · simp only [headCells, headCell, pcN, List.cons_append, List.nil_append, List.map_cons, List.nodup_cons]
        refine ⟨fun hm => ?_, h2⟩
        obtain ⟨q, hq, he⟩ := List.mem_map.1 hm
        have := (h1 q hq).2
        rw [he] at this
        simp at this
        omega

theorem headPat_row (p : Nat) (x : Pat) : (∀ q ∈ (headPat p x).2, q.1.1 = p) ∧ ((headPat p x).2.map (·.1)).Nodup := by
  cases x with
  | unk => simp [headPat]
  | one c => cases c <;> simp [headPat, headCell]
  | agg cs => exact ⟨fun q hq => ((headCells_row p cs 0).1 q hq).1, (headCells_row p cs 0).2⟩
  | box cs =>
    obtain ⟨h1, h2⟩ := headCells_row p cs 1
    refine ⟨fun q hq => ?_, ?_⟩
    · simp only [headPat, List.mem_cons] at hq
      rcases hq with rfl | hq
      · rfl
      · exact (h1 q hq).1
    · simp only [headPat, List.map_cons, List.nodup_cons]
      refine ⟨fun hm => ?_, h2⟩
      obtain ⟨q, hq, he⟩ := List.mem_map.1 hm
      have := (h1 q hq).2
      rw [he] at this
      simp at this

theorem objsOf_nodup : ∀ {ps : List (Nat × Pat)}, (ps.map (·.1)).Nodup → ((objsOf ps).map (·.1)).Nodup
  | [], _ => by simp [objsOf]
  | (p, x) :: r, hn => by
    simp only [List.map_cons, List.nodup_cons] at hn
    simp only [objsOf, List.map_append]
    refine List.nodup_append.2 ⟨(headPat_row p x).2, objsOf_nodup hn.2, fun a ha b hb => ?_⟩
    obtain ⟨q, hq, rfl⟩ := List.mem_map.1 ha
    obtain ⟨q', hq', rfl⟩ := List.mem_map.1 hb
    obtain ⟨px, h1, h2⟩ := objsOf_inv hq'
    have e1 := (headPat_row p x).1 q hq
    have e2 := (headPat_row px.1 px.2).1 q' h2
    intro he
    apply hn.1
    rw [← e1, he, e2]
    exact List.mem_map.2 ⟨px, h1, rfl⟩

theorem slotsOf_pat {rs : List (Nat × Nat)} {f : Nat → AV} : ∀ {ps : List (Nat × Pat)} {j : Nat}, (ps.map (·.1)).Nodup →
    (∃ x, (j, x) ∈ ps ∧ slotsOf rs f ps j = (headPat j x).1) ∨ (j ∉ ps.map (·.1) ∧ slotsOf rs f ps j = if inRs rs j then .any else scrub (f j))
  | [], j, _ => .inr ⟨by simp, rfl⟩
  | (p, x) :: r, j, hn => by
    simp only [List.map_cons, List.nodup_cons] at hn
    simp only [slotsOf]
    by_cases hj : j = p
    · subst hj; exact .inl ⟨x, by simp, by simp⟩
    · rcases slotsOf_pat (rs := rs) (f := f) (j := j) hn.2 with ⟨y, h1, h2⟩ | ⟨h1, h2⟩
      · exact .inl ⟨y, by simp [h1], by simp [hj, h2]⟩
      · exact .inr ⟨by simpa [hj] using h1, by simp [hj, h2]⟩

theorem headPat_ne (p : Nat) (x : Pat) : (headPat p x).1 ≠ .any := by cases x <;> simp [headPat]
end

/-- THE HEAD: a state that may enter is carried to the head's. -/
theorem Conc.head0 {X : Ctx} {s : St} {a : Act} {w : World} {nm : Bool} {rs : List (Nat × Nat)} {ps : List (Nat × Pat)} (c : Conc X s a w) (hnm : nm = true → X.M = []) (hps : (ps.map (·.1)).Nodup) (he : Enter s nm ps) :
    ∃ own', ConcO X own' (headSt rs s ps) a w ∧ ∀ p q, q ∈ ps.map (·.1) → s.sl p = s.sl q → AVOK own' w.heap (headSt rs s ps) (slotsOf rs s.sl ps q) (a.tmps.getD p undef) := by
  obtain ⟨own, c⟩ := c
  unfold Enter at he
  split at he
  · rename_i q m hm
    obtain ⟨hq, hold, hnew⟩ := he
    have k : MvOK own w.heap (headSt rs s ps) m (objsOf ps) := ⟨hold, hnew, c.nodup, c.disj, fun id b hb => (c.lt id b hb).1, fun k o hk => updO_get (objsOf_nodup hps) _ _ _ hk⟩
    have hnm' : nm = true → ∀ id b, b ∈ own id → s.bs b := fun hn id b hb => by
      rcases (c.lt id b hb).2 with h | h
      · exact c.bsle b h
      · rw [hnm hn] at h; cases h
    have hrow : ∀ p x, (p, x) ∈ ps → (headSt rs s ps).sl p ≠ .any := fun p x hx => by
      rcases slotsOf_pat (rs := rs) (f := s.sl) (j := p) hps with ⟨y, _, h2⟩ | ⟨h1, _⟩
      · show slotsOf rs s.sl ps p ≠ .any
        rw [h2]; exact headPat_ne p y
      · exact absurd (List.mem_map.2 ⟨(p, x), hx, rfl⟩) h1
    have key : ∀ p x, (p, x) ∈ ps → AVOK (mvOwn own m) w.heap (headSt rs s ps) (headPat p x).1 (a.tmps.getD p undef) ∧
        (∀ cs, ((p, 0), Ob.box cs) ∈ (headPat p x).2 → ObOK (mvOwn own m) w.heap (headSt rs s ps) (p, 0) (.box cs)) := fun p x hx => by
      obtain ⟨q1, m1, e1, e2, e3⟩ := matchAll_mem hm hq (p, x) hx
      exact AVOK.mv k hnm' rfl (hrow p x hx) e1 e2 e3 (objsOf_mem hx) (c.sls p) c.obs
    refine ⟨mvOwn own m, c.next c.defers c.size rfl rfl rfl (Nat.le_refl _) (fun _ _ _ => rfl) ?_ ?_ ?_ rfl ?_ ?_ fun _ _ => rfl, fun p q hq0 hpq => ?_⟩
    rotate_right
    · rcases slotsOf_pat (rs := rs) (f := s.sl) (j := q) hps with ⟨y, h1, h2⟩ | ⟨h1, _⟩
      · rw [h2]
        obtain ⟨q1, m1, e1, e2, e3⟩ := matchAll_mem hm hq (q, y) h1
        have hv := c.sls p
        rw [hpq] at hv
        exact (AVOK.mv k hnm' rfl (hrow q y h1) e1 e2 e3 (objsOf_mem h1) hv c.obs).1
      · exact absurd hq0 h1
    · intro id b hb
      obtain ⟨_, _, _, o, _, ho⟩ := mvOwn_some hb
      exact c.lt o b ho
    · intro id
      unfold mvOwn
      split
      · split
        · split
          · exact (c.nodup _).sublist (List.take_sublist _ _)
          · exact c.nodup _
        · simp
      · simp
    · intro id id' b h1 h2
      obtain ⟨q1, hq1, e1, o1, f1, g1⟩ := mvOwn_some h1
      obtain ⟨q2, hq2, e2, o2, f2, g2⟩ := mvOwn_some h2
      have := c.disj o1 o2 b g1 g2
      subst this
      have := nodup_filterMap_unique (f := (·.old)) hold hq1 hq2 f1 f2
      subst this
      rw [e1] at e2
      simpa using e2
    · intro id
      by_cases hid : id ∈ (objsOf ps).map (·.1)
      · obtain ⟨⟨id', o⟩, hmem, rfl⟩ := List.mem_map.1 hid
        have ho : (headSt rs s ps).ob id' = o := k.ob id' o hmem
        simp only [ho]
        cases o with
        | box cs =>
          obtain ⟨⟨p, x⟩, h1, h2⟩ := objsOf_inv hmem
          have hr := (headPat_row p x).1 _ h2
          have : id' = (p, 0) := by
            cases x with
            | unk => simp [headPat] at h2
            | one c => cases c <;> simp [headPat, headCell] at h2
            | agg xs =>
              exfalso
              have : ∀ (xs : List PC) (kk : Nat) cs id, (id, Ob.box cs) ∉ (headCells p kk xs).2 := by
                intro xs
                induction xs with
                | nil => intro kk cs id hx; simp [headCells] at hx
                | cons y ys ih =>
                  intro kk cs id hx
                  simp only [headCells, List.mem_append] at hx
                  rcases hx with hx | hx
                  · cases y <;> simp [headCell] at hx
                  · exact ih _ _ _ hx
              exact this _ _ _ _ h2
            | box xs =>
              have : ∀ (xs : List PC) (kk : Nat) cs id, (id, Ob.box cs) ∉ (headCells p kk xs).2 := by
                intro xs
                induction xs with
                | nil => intro kk cs id hx; simp [headCells] at hx
                | cons y ys ih =>
                  intro kk cs id hx
                  simp only [headCells, List.mem_append] at hx
                  rcases hx with hx | hx
                  · cases y <;> simp [headCell] at hx
                  · exact ih _ _ _ hx
              simp only [headPat, List.mem_cons, Prod.mk.injEq] at h2
              rcases h2 with ⟨h2, _⟩ | h2
              · exact h2
              · exact absurd h2 (this _ _ _ _)
          subst this
          exact (key p x h1).2 cs h2
        | _ => trivial
      · have ho : (headSt rs s ps).ob id = .none := updO_none _ _ hid
        rw [ho]; trivial
    · intro j
      rcases slotsOf_pat (rs := rs) (f := s.sl) (j := j) hps with ⟨x, h1, h2⟩ | ⟨h1, h2⟩
      · show AVOK _ _ _ (slotsOf rs s.sl ps j) _
        rw [h2]; exact (key j x h1).1
      · show AVOK _ _ _ (slotsOf rs s.sl ps j) _
        rw [h2]
        split
        · trivial
        · exact AVOK.scrub (s := s) (s' := headSt rs s ps) (own' := mvOwn own m) (fun b hb => imm_mv hb) rfl (c.sls j)
  · exact he.elim

/-- Slots that hold the same slice as another. -/
def aliSl (rs : List (Nat × Nat)) (f : Nat → AV) (ps : List (Nat × Pat)) : List (Nat × Nat) → Nat → AV
  | [], j => slotsOf rs f ps j
  | (p, q) :: r, j => if j = p then slotsOf rs f ps q else aliSl rs f ps r j

def headStA (rs : List (Nat × Nat)) (s : St) (ps : List (Nat × Pat)) (as : List (Nat × Nat)) : St := ⟨s.bs, aliSl rs s.sl ps as, updO (fun _ => .none) (objsOf ps)⟩

def aliOK (s : St) : List (Nat × Nat) → Prop
  | [] => True
  | (p, q) :: r => s.sl p = s.sl q ∧ aliOK s r

theorem aliSl_cases {rs : List (Nat × Nat)} {f : Nat → AV} {ps : List (Nat × Pat)} : ∀ {as : List (Nat × Nat)} {j : Nat}, (∃ q, (j, q) ∈ as ∧ aliSl rs f ps as j = slotsOf rs f ps q ∧ ∀ f', aliSl rs f' ps as j = slotsOf rs f' ps q) ∨ (j ∉ as.map (·.1) ∧ aliSl rs f ps as j = slotsOf rs f ps j ∧ ∀ f', aliSl rs f' ps as j = slotsOf rs f' ps j)
  | [], j => .inr ⟨by simp, rfl, fun _ => rfl⟩
  | (p, q) :: r, j => by
    simp only [aliSl]
    by_cases hj : j = p
    · exact .inl ⟨q, by simp [hj], by simp [hj], fun _ => by simp [hj]⟩
    · rcases aliSl_cases (rs := rs) (f := f) (ps := ps) (as := r) (j := j) with ⟨q', h1, h2, h3⟩ | ⟨h1, h2, h3⟩
      · exact .inl ⟨q', by simp [h1], by simp [hj, h2], fun f' => by simp [hj, h3 f']⟩
      · exact .inr ⟨by simpa [hj] using h1, by simp [hj, h2], fun f' => by simp [hj, h3 f']⟩

theorem aliOK_mem {s : St} : ∀ {as : List (Nat × Nat)}, aliOK s as → ∀ z ∈ as, s.sl z.1 = s.sl z.2
  | [], _, z, hz => by cases hz
  | (p, q) :: r, h, z, hz => by
    rcases List.mem_cons.1 hz with rfl | hz
    · exact h.1
    · exact aliOK_mem h.2 z hz

theorem Conc.head {X : Ctx} {s : St} {a : Act} {w : World} {nm : Bool} {rs : List (Nat × Nat)} {ps : List (Nat × Pat)} {as : List (Nat × Nat)} (c : Conc X s a w) (hnm : nm = true → X.M = []) (hps : (ps.map (·.1)).Nodup) (he : Enter s nm ps)
    (ha : aliOK s as) (hq : ∀ z ∈ as, z.2 ∈ ps.map (·.1)) : Conc X (headStA rs s ps as) a w := by
  obtain ⟨own, c, h⟩ := Conc.head0 (rs := rs) c hnm hps he
  have hne : ∀ q, q ∈ ps.map (·.1) → slotsOf rs s.sl ps q ≠ .any := fun q hq0 => by
    rcases slotsOf_pat (rs := rs) (f := s.sl) (j := q) hps with ⟨y, _, h2⟩ | ⟨h1, _⟩
    · rw [h2]; exact headPat_ne q y
    · exact absurd hq0 h1
  have k : Keeps own own w.heap w.heap (headSt rs s ps) (headStA rs s ps as)  := Keeps.refl_heap (s := headSt rs s ps) (s' := headStA rs s ps as) (fun r hr => by
    show aliSl rs s.sl ps as r ≠ .any
    rcases aliSl_cases (rs := rs) (f := s.sl) (ps := ps) (as := as) (j := r) with ⟨q, h1, h2, _⟩ | ⟨_, h2, _⟩
    · rw [h2]; exact hne q (hq _ h1)
    · rw [h2]; exact hr) rfl rfl
  refine ⟨own, c.next c.defers c.size rfl rfl rfl (Nat.le_refl _) (fun _ _ _ => rfl) c.lt c.nodup c.disj rfl (fun id => ?_) (fun j => ?_) fun _ _ => rfl⟩
  · exact ObOK.keep (s := headSt rs s ps) (s' := headStA rs s ps as) k rfl rfl (fun _ _ => rfl) (c.obs id)
  · show AVOK own w.heap (headStA rs s ps as) (aliSl rs s.sl ps as j) _
    rcases aliSl_cases (rs := rs) (f := s.sl) (ps := ps) (as := as) (j := j) with ⟨q, h1, h2, _⟩ | ⟨_, h2, _⟩
    · rw [h2]; exact (h j q (hq _ h1) (aliOK_mem ha _ h1)).keep k
    · rw [h2]; exact (c.sls j).keep k

end Go.Own
