/-
  Own calculus, part O: a call by contract is sound (its arguments are read only). Conditions: as each theorem states them.
-/
import Derived.Test.YtmfieiphcjenlaaOwnN
namespace Go.Own
open Go
set_option linter.unusedVariables false
set_option linter.unusedSimpArgs false

section
variable {X : Ctx} {T : Tabs} {own own' : Id → List Nat} {s s' : St} {w : World} {a : Act} {ρ : Operand → AV} {h : Heap}

theorem argsOf_ok (hob : ∀ id, ObOK own h s id (s.ob id)) : ∀ {vs : List AV} {ms : List Bool} {xs : List Arg} {vals : List Value}, muty ms = false → argsOf s.ob ms vs = some xs → All2 (AVOK own h s) vs vals →
    ∃ F, ArgsOK h xs vals F [] ∧ (∀ b ∈ F, b < h.size) ∧ (vs.all avImm = true → ∀ b ∈ F, Imm own h b) ∧ (vs.all avNew = true → ∀ b ∈ F, Imm own h b ∧ s.bs b)
  | [], ms, xs, vals, _, hx, a => by
    simp only [argsOf, Option.some.injEq] at hx
    subst hx
    cases a
    exact ⟨[], .nil, by simp, by simp, by simp⟩
  | v :: vs, ms, xs, vals, hm, hx, a => by
    have h1 : ms.headD false = false ∧ muty ms.tail = false := by
      cases ms with
      | nil => exact ⟨rfl, rfl⟩
      | cons m ms => simpa [muty] using hm
    simp only [argsOf, h1.1] at hx
    split at hx
    · rename_i x l e1 e2
      simp only [Option.some.injEq] at hx
      subst hx
      cases a with
      | cons a1 a2 =>
        obtain ⟨F, f1, f2, f3, f4⟩ := argOf_ok hob e1 a1
        obtain ⟨G, g1, g2, g3, g4⟩ := argsOf_ok hob h1.2 e2 a2
        refine ⟨F ++ G, by simpa using ArgsOK.cons f1 g1, fun b hb => ?_, fun hi b hb => ?_, fun hi b hb => ?_⟩
        · rcases List.mem_append.1 hb with hb | hb
          · exact f2 b hb
          · exact g2 b hb
        · simp only [List.all_cons, Bool.and_eq_true] at hi
          rcases List.mem_append.1 hb with hb | hb
          · exact f3 hi.1 b hb
          · exact g3 hi.2 b hb
        · simp only [List.all_cons, Bool.and_eq_true] at hi
          rcases List.mem_append.1 hb with hb | hb
          · exact f4 hi.1 b hb
          · exact g4 hi.2 b hb
    · cases hx

theorem scalN_ok {c : Cell} {v : Value} (a : CellOK own h s c v) : CellOK own h s (scalN c) v := by
  unfold scalN
  split
  · obtain ⟨F, r, hF⟩ := a; exact ⟨F, r, fun b hb => (hF b hb).1⟩
  · exact a

theorem rcCells_ok {row : Nat} {nw im : Bool} : ∀ {l : List RC} {k : Nat} {vs : List Value} {F : List Nat} {os : List (List Nat)}, RCsOK h l vs F os → (∀ b ∈ F, Imm own h b ∧ (nw = true → s.bs b)) →
    (im = true → ∀ m ∈ os, ∀ b ∈ m, Imm own h b ∧ s.bs b) → (im = false → ∀ (j : Nat) m, os[j]? = some m → own (row, k + j) = m ∧ s.sl row ≠ .any) → CellsOK own h s ((rcCells row nw im k l).map scalN) vs ∧ nOwn l = os.length
  | [], k, vs, F, os, r, _, _, _ => by cases r; exact ⟨.nil, rfl⟩
  | .d x :: l, k, vs, F, os, r, hF, hi, ho => by
    cases r with
    | @d _ v F1 _ vs G _ r1 r2 =>
      obtain ⟨g1, g2⟩ := rcCells_ok (row := row) (nw := nw) (im := im) (k := k) r2 (fun b hb => hF b (by simp [hb])) hi ho
      refine ⟨.cons (scalN_ok ?_) g1, g2⟩
      cases nw with
      | true => exact ⟨F1, r1, fun b hb => ⟨(hF b (by simp [hb])).1, (hF b (by simp [hb])).2 rfl⟩⟩
      | false => exact ⟨F1, r1, fun b hb => (hF b (by simp [hb])).1⟩
  | .own sz r0 dp :: l, k, vs, F, os, r, hF, hi, ho => by
    cases r with
    | @own _ _ _ v m F1 _ vs G os' r1 r2 =>
      obtain ⟨g1, g2⟩ := rcCells_ok (row := row) (nw := nw) (im := im) (k := k + 1) r2 (fun b hb => hF b (by simp [hb])) (fun hi' m' hm => hi hi' m' (by simp [hm])) (fun hi' j m' hm => by
        have := ho hi' (j + 1) m' (by simpa using hm)
        rw [show k + 1 + j = k + (j + 1) from by omega]; exact this)
      refine ⟨.cons (scalN_ok ?_) g1, by simp [nOwn, g2]⟩
      cases im with
      | true =>
        obtain ⟨F', f1, f2⟩ := r1.reps
        have hall : ∀ b ∈ F', Imm own h b ∧ (nw = true → s.bs b) := fun b hb => by
          rcases f2 b hb with hb | hb
          · have := hi rfl m (by simp) b hb; exact ⟨this.1, fun _ => this.2⟩
          · exact hF b (by simp [hb])
        cases nw with
        | true => exact ⟨F', f1, fun b hb => ⟨(hall b hb).1, (hall b hb).2 rfl⟩⟩
        | false => exact ⟨F', f1, fun b hb => (hall b hb).1⟩
      | false =>
        obtain ⟨o1, o2⟩ := ho rfl 0 m (by simp)
        simp only [Nat.add_zero] at o1
        refine ⟨?_, o2, fun _ => ?_⟩
        · obtain ⟨F', f1, _⟩ := r1.reps; exact f1.one
        · rw [← o1] at r1
          exact r1.to_ok fun b hb => (hF b (by simp [hb])).1

theorem rv_part {row : Nat} {nw im : Bool} {r : RV} {k : Nat} {v : Value} {F : List Nat} {os : List (List Nat)} (hr : RVOK h r v F os) (hF : ∀ b ∈ F, Imm own h b ∧ (nw = true → s.bs b))
    (hi : im = true → ∀ m ∈ os, ∀ b ∈ m, Imm own h b ∧ s.bs b) (ho : im = false → ∀ (j : Nat) m, os[j]? = some m → own (row, k + j) = m ∧ s.sl row ≠ .any) :
    PartOK own h s (r.agg, (rcCells row nw im k r.cs).map scalN) v ∧ nOwn r.cs = os.length := by
  unfold RVOK at hr
  unfold PartOK
  cases hagg : r.agg with
  | true =>
    rw [hagg] at hr
    simp only [if_true] at hr ⊢
    obtain ⟨vs, rfl, hc⟩ := hr
    obtain ⟨g1, g2⟩ := rcCells_ok hc hF hi ho
    exact ⟨⟨vs, rfl, g1⟩, g2⟩
  | false =>
    rw [hagg] at hr
    simp only [Bool.false_eq_true, if_false] at hr ⊢
    obtain ⟨g1, g2⟩ := rcCells_ok hr hF hi ho
    refine ⟨?_, g2⟩
    generalize (rcCells row nw im k r.cs).map scalN = cs at g1
    cases g1 with
    | cons g1 g3 => cases g3; exact ⟨_, rfl, g1⟩

theorem part_av {q : Bool × List Cell} {v : Value} (hp : PartOK own h s q v) : AVOK own h s (partAV q) v := by
  obtain ⟨b, cs⟩ := q
  unfold PartOK at hp
  cases b with
  | true => simp only [if_true] at hp; exact hp
  | false =>
    simp only [Bool.false_eq_true, if_false] at hp
    obtain ⟨c, rfl, hc⟩ := hp
    exact hc

theorem rvs_parts {row : Nat} {nw im : Bool} : ∀ {rs : List RV} {k : Nat} {vs : List Value} {F : List Nat} {os : List (List Nat)}, RVsOK h rs vs F os → (∀ b ∈ F, Imm own h b ∧ (nw = true → s.bs b)) →
    (im = true → ∀ m ∈ os, ∀ b ∈ m, Imm own h b ∧ s.bs b) → (im = false → ∀ (j : Nat) m, os[j]? = some m → own (row, k + j) = m ∧ s.sl row ≠ .any) → All2 (PartOK own h s) (resParts row nw im k rs) vs ∧ rvN rs = os.length
  | [], k, vs, F, os, r, _, _, _ => by cases r; exact ⟨.nil, rfl⟩
  | r :: rs, k, vs, F, os, hr, hF, hi, ho => by
    cases hr with
    | @cons _ v F1 o1 _ vs G o2 r1 r2 =>
      obtain ⟨g1, g2⟩ := rv_part (row := row) (nw := nw) (im := im) (k := k) r1 (fun b hb => hF b (by simp [hb])) (fun h' m hm => hi h' m (by simp [hm])) (fun h' j m hm => ho h' j m (by
        rw [List.getElem?_append_left (by
          rcases Nat.lt_or_ge j o1.length with h | h
          · exact h
          · rw [List.getElem?_eq_none h] at hm; cases hm)]
        exact hm))
      obtain ⟨g3, g4⟩ := rvs_parts (row := row) (nw := nw) (im := im) (k := k + nOwn r.cs) r2 (fun b hb => hF b (by simp [hb])) (fun h' m hm => hi h' m (by simp [hm])) (fun h' j m hm => by
        have := ho h' (o1.length + j) m (by rw [List.getElem?_append_right (by omega)]; simpa using hm)
        rw [g2, Nat.add_assoc]
        exact this)
      exact ⟨.cons g1 g3, by simp [rvN, g2, g4]⟩

theorem rets_av {row : Nat} {nw im : Bool} {rs : List RV} {v : Value} {F : List Nat} {os : List (List Nat)} (hr : RetsOK h rs v F os) (hF : ∀ b ∈ F, Imm own h b ∧ (nw = true → s.bs b))
    (hi : im = true → ∀ m ∈ os, ∀ b ∈ m, Imm own h b ∧ s.bs b) (ho : im = false → ∀ (j : Nat) m, os[j]? = some m → own (row, j) = m ∧ s.sl row ≠ .any) : AVOK own h s (resAV row nw im rs) v ∧ rvN rs = os.length := by
  have ho' : im = false → ∀ (j : Nat) m, os[j]? = some m → own (row, 0 + j) = m ∧ s.sl row ≠ .any := fun h' j m hm => by rw [Nat.zero_add]; exact ho h' j m hm
  unfold RetsOK at hr
  unfold resAV
  split at hr
  · obtain ⟨_, rfl⟩ := hr; exact ⟨trivial, rfl⟩
  · obtain ⟨g1, g2⟩ := rv_part hr hF hi ho'
    exact ⟨part_av g1, by simp [rvN, g2]⟩
  · rename_i rs' h1 h2
    obtain ⟨vs, rfl, hc⟩ := hr
    obtain ⟨g1, g2⟩ := rvs_parts hc hF hi ho'
    refine ⟨?_, g2⟩
    match rs, h1, h2, g1 with
    | [], h1, _, _ => exact absurd rfl h1
    | [r], _, h2, _ => exact absurd rfl (h2 r)
    | r1 :: r2 :: rs, _, _, g1 => exact ⟨vs, rfl, g1⟩

theorem rets_len {rs : List RV} {v : Value} {F : List Nat} {os : List (List Nat)} (hr : RetsOK h rs v F os) : rvN rs = os.length := by
  have c1 : ∀ {l vs F os}, RCsOK h l vs F os → nOwn l = os.length := by
    intro l vs F os r
    induction r with
    | nil => rfl
    | d _ _ ih => simpa [nOwn] using ih
    | own _ _ ih => simp [nOwn, ih]
  have c2 : ∀ {r v F os}, RVOK h r v F os → nOwn r.cs = os.length := by
    intro r v F os hr
    unfold RVOK at hr
    split at hr
    · obtain ⟨_, _, hr⟩ := hr; exact c1 hr
    · exact c1 hr
  have c3 : ∀ {rs vs F os}, RVsOK h rs vs F os → rvN rs = os.length := by
    intro rs vs F os hr
    induction hr with
    | nil => rfl
    | cons r1 _ ih => simp [rvN, c2 r1, ih]
  unfold RetsOK at hr
  split at hr
  · obtain ⟨_, rfl⟩ := hr; rfl
  · simp [rvN, c2 hr]
  · obtain ⟨vs, _, hr⟩ := hr
    exact c3 hr

theorem mutVals_nil : ∀ {ms : List Bool} {vs : List Value}, muty ms = false → mutVals ms vs = []
  | _, [], _ => by simp [mutVals]
  | ms, v :: vs, hm => by
    have h1 : ms.headD false = false ∧ muty ms.tail = false := by
      cases ms with
      | nil => exact ⟨rfl, rfl⟩
      | cons m ms => simpa [muty] using hm
    simp only [mutVals, h1.1, Bool.false_eq_true, if_false]
    exact mutVals_nil h1.2

def ownCall (own : Id → List Nat) (d : Nat) (im : Bool) (os : List (List Nat)) : Id → List Nat := fun id => if im = false ∧ id.1 = d then (os[id.2]?).getD (own id) else own id

theorem flatten_disj : ∀ {os : List (List Nat)} {i j : Nat} {m m' : List Nat} {b : Nat}, os.flatten.Nodup → os[i]? = some m → os[j]? = some m' → b ∈ m → b ∈ m' → i = j
  | [], i, j, m, m', b, _, h1, _, _, _ => by simp at h1
  | o :: os, i, j, m, m', b, hn, h1, h2, hb, hb' => by
    simp only [List.flatten_cons, List.nodup_append] at hn
    cases i with
    | zero =>
      cases j with
      | zero => rfl
      | succ j =>
        simp at h1 h2
        subst h1
        exact absurd rfl (hn.2.2 b hb b (List.mem_flatten.2 ⟨m', List.mem_of_getElem? h2, hb'⟩))
    | succ i =>
      cases j with
      | zero =>
        simp at h1 h2
        subst h2
        exact absurd rfl (hn.2.2 b hb' b (List.mem_flatten.2 ⟨m, List.mem_of_getElem? h1, hb⟩))
      | succ j => exact congrArg Nat.succ (flatten_disj (os := os) (i := i) (j := j) hn.2.1 (by simpa using h1) (by simpa using h2) hb hb')

theorem nodup_of_flatten : ∀ {os : List (List Nat)} {m : List Nat}, os.flatten.Nodup → m ∈ os → m.Nodup
  | o :: os, m, hn, hm => by
    simp only [List.flatten_cons, List.nodup_append] at hn
    rcases List.mem_cons.1 hm with rfl | hm
    · exact hn.1
    · exact nodup_of_flatten hn.2.1 hm

theorem call_sound {d : Nat} {dst : Option Nat} {fresh im : Bool} {f : FuncId} {vs : List AV} {vals : List Value} {p : Prop} {v : AV} (hT : TabsOK X.toEnv T) (c : ConcO X own s a w) (hd : ∀ x, dst = some x → X.dok x = true) (hdd : d = dst.getD 0)
    (hfr : fresh = true → freshAt s dst = true) (hvs : All2 (AVOK own w.heap s) vs vals) (hf : callF T d s.ob fresh im false f vs = some (p, v, [])) (hp : p) :
    FnFact X.P f ∧ Calls X.P f vals.toArray w fun e w' => ∃ u, e = .returned u ∧ ∃ own', ConcO X own' (s.put dst v []) (a.put dst u) w' := by
  unfold callF at hf
  split at hf
  · rename_i ct hct
    obtain ⟨hfn, hck⟩ := hT.ct f ct hct
    refine ⟨hfn, ?_⟩
    split at hf
    · cases hf
    · rename_i hmu
      have hmut : muty ct.muts = false := by simpa using hmu
      split at hf
      · rename_i xs hxs
        obtain ⟨F, g1, g2, g3, g4⟩ := argsOf_ok c.obs hmut hxs hvs
        split at hf
        · rename_i p0 rs ms hrun
          have main : p0 → rvN rs ≤ 4 → ms = [] → (im = false → rvOwns rs = true → fresh = true) → (ct.alias = true → vs.all avImm = true) → ∀ nw : Bool, (ct.alias = true → nw = true → vs.all avNew = true) → v = resAV d nw im rs →
              Calls X.P f vals.toArray w fun e w' => ∃ u, e = .returned u ∧ ∃ own', ConcO X own' (s.put dst v []) (a.put dst u) w' := fun hp0 h4 hms hfresh hal nw hnw hv => by
            have hN : X.N ≤ w.heap.size := by have := c.hN.1; have := c.grow; omega
            refine (hck xs p0 rs ms hrun hp0 w vals F [] g1 (by simp) (by simp) c.hJ hN (by simp)).mono ?_
            rintro e w' ⟨u, rfl, po⟩
            refine ⟨u, rfl, ?_⟩
            obtain ⟨F', os, F2, Ms', r1, _, r3, r4, r5, _⟩ := po.res
            have hlen := rets_len r1
            have hold : ∀ b, b < w.heap.size → w'.heap[b]? = w.heap[b]? := fun b hb => po.old b hb (by simp)
            have hfrs : im = false → os ≠ [] → ∃ d', dst = some d' ∧ d = d' ∧ Fresh s d' := fun hi ho => by
              have : rvOwns rs = true := by
                simp only [rvOwns, bne_iff_ne]
                rw [hlen]
                intro h0
                exact ho (List.eq_nil_of_length_eq_zero h0)
              obtain ⟨d', e1, e2⟩ := freshAt_ok (hfr (hfresh hi this))
              exact ⟨d', e1, hdd.trans (by rw [e1]; rfl), e2⟩
            have hgot : ∀ id : Id, im = false → id.1 = d → ∀ m, os[id.2]? = some m → Fresh s d := fun id hi _ m hm => by
              obtain ⟨d', _, e2, e3⟩ := hfrs hi (fun h0 => by rw [h0] at hm; simp at hm)
              rw [e2]; exact e3
            have own_cases : ∀ id : Id, (ownCall own d im os id = own id ∧ (s.sl id.1 = .any → True)) ∨ (im = false ∧ id.1 = d ∧ os[id.2]? = some (ownCall own d im os id) ∧ Fresh s d) := fun id => by
              unfold ownCall
              split
              · rename_i hc
                cases hm : os[id.2]? with
                | none => exact .inl ⟨rfl, fun _ => trivial⟩
                | some m => exact .inr ⟨hc.1, hc.2, by simp, hgot id hc.1 hc.2 m hm⟩
              · exact .inl ⟨rfl, fun _ => trivial⟩
            have ref_same : ∀ id : Id, s.sl id.1 ≠ .any → ownCall own d im os id = own id := fun id hid => by
              rcases own_cases id with h | ⟨_, h2, _, h4⟩
              · exact h.1
              · exact absurd (by rw [h2]; exact h4.row) hid
            have k : Keeps own (ownCall own d im os) w.heap w'.heap s (s.put dst v []) := by
              refine ⟨St.put_bs _ _ _ _, fun b hb => ⟨⟨by have := hb.1; have := po.grow; omega, fun id hm => ?_⟩, hold b hb.1⟩, St.put_row s dst v [], fun id hid => ?_⟩
              · rcases own_cases id with h | ⟨_, _, h3, _⟩
                · rw [h.1] at hm; exact hb.2 id hm
                · have := (r4 b (List.mem_flatten.2 ⟨_, List.mem_of_getElem? h3, hm⟩)).1
                  have := hb.1
                  omega
              · rw [St.put_ob]
                exact .same _ (ref_same id hid) fun b hb => hold b (c.lt id b hb).1
            have hrow : os ≠ [] → im = false → (s.put dst v []).sl d ≠ .any := fun ho hi => by
              obtain ⟨d', e1, e2, _⟩ := hfrs hi ho
              rw [e1, e2]; exact St.put_dst s d' v []
            have hbs : ∀ b, w.heap.size ≤ b → (s.put dst v []).bs b := fun b hb => by rw [St.put_bs]; exact c.bsle b (Nat.le_trans c.grow hb)
            refine ⟨ownCall own d im os, c.turn k po.os po.tape po.output po.grow hd ?_ ?_ ?_ ?_ ?_⟩
            · intro id b hb
              rcases own_cases id with h | ⟨_, _, h3, _⟩
              · rw [h.1] at hb
                have := c.lt id b hb
                exact ⟨by have := po.grow; omega, this.2⟩
              · have := r4 b (List.mem_flatten.2 ⟨_, List.mem_of_getElem? h3, hb⟩)
                exact ⟨this.2, .inl (by have := c.grow; omega)⟩
            · intro id
              rcases own_cases id with h | ⟨_, _, h3, _⟩
              · rw [h.1]; exact c.nodup id
              · exact nodup_of_flatten r3 (List.mem_of_getElem? h3)
            · intro id id' b h1 h2
              rcases own_cases id with h | ⟨_, q1, q2, _⟩
              · rcases own_cases id' with h' | ⟨_, q3, q4, _⟩
                · rw [h.1] at h1; rw [h'.1] at h2; exact c.disj id id' b h1 h2
                · exfalso
                  rw [h.1] at h1
                  have := (c.lt id b h1).1
                  have := (r4 b (List.mem_flatten.2 ⟨_, List.mem_of_getElem? q4, h2⟩)).1
                  omega
              · rcases own_cases id' with h' | ⟨_, q3, q4, _⟩
                · exfalso
                  rw [h'.1] at h2
                  have := (c.lt id' b h2).1
                  have := (r4 b (List.mem_flatten.2 ⟨_, List.mem_of_getElem? q2, h1⟩)).1
                  omega
                · have := flatten_disj r3 q2 q4 h1 h2
                  exact Prod.ext (q1.trans q3.symm) this
            · intro id
              rcases own_cases id with h | ⟨_, q1, q2, q3⟩
              · exact ObOK.keep k (by rw [St.put_ob]; rfl) h.1 (fun b hb => hold b (c.lt id b hb).1) (c.obs id)
              · rw [St.put_ob]
                have : s.ob id = .none := by
                  obtain ⟨i1, i2⟩ := id
                  simp only at q1 q2
                  subst q1
                  refine q3.ob i2 ?_
                  rcases Nat.lt_or_ge i2 os.length with hlt | hge
                  · omega
                  · rw [List.getElem?_eq_none hge] at q2; cases q2
                show ObOK _ _ _ id (updO s.ob [] id)
                rw [updO, this]; trivial
            · rw [hv]
              rw [hv] at k hrow hbs
              refine (rets_av r1 (fun b hb => ?_) (fun hi m hm b hb => ?_) (fun hi j m hm => ?_)).1
              · obtain ⟨t1, t2, _, t4⟩ := r5 b hb
                have himm : Imm (ownCall own d im os) w'.heap b := by
                  refine ⟨t1, fun id hm => ?_⟩
                  rcases own_cases id with h | ⟨_, _, h3, _⟩
                  · rw [h.1] at hm
                    rcases t4 with t4 | ⟨t4, t5⟩
                    · have := (c.lt id b hm).1; omega
                    · exact (g3 (hal t4) b t5).2 id hm
                  · exact t2 (List.mem_flatten.2 ⟨_, List.mem_of_getElem? h3, hm⟩)
                refine ⟨himm, fun hn => ?_⟩
                rcases t4 with t4 | ⟨t4, t5⟩
                · exact hbs b t4
                · rw [St.put_bs]; exact (g4 (hnw t4 hn) b t5).2
              · have t := r4 b (List.mem_flatten.2 ⟨m, hm, hb⟩)
                refine ⟨⟨t.2, fun id hm' => ?_⟩, hbs b t.1⟩
                rcases own_cases id with h | ⟨h1, _⟩
                · rw [h.1] at hm'; have := (c.lt id b hm').1; omega
                · rw [hi] at h1; cases h1
              · refine ⟨?_, hrow (fun h0 => by rw [h0] at hm; simp at hm) hi⟩
                unfold ownCall
                rw [if_pos ⟨hi, rfl⟩]
                simp [hm]
          split at hf
          · simp only [Option.some.injEq, Prod.mk.injEq] at hf
            obtain ⟨rfl, hv, hms⟩ := hf
            exact main hp.1 hp.2.1 hms hp.2.2.2 (fun _ => hp.2.2.1) _ (fun _ h => h) hv.symm
          · rename_i hna
            simp only [Option.some.injEq, Prod.mk.injEq] at hf
            obtain ⟨rfl, hv, hms⟩ := hf
            exact main hp.1 hp.2.1 hms hp.2.2 (fun h => absurd h hna) true (fun h => absurd h hna) hv.symm
        · cases hf
      · cases hf
  · cases hf
end

end Go.Own
