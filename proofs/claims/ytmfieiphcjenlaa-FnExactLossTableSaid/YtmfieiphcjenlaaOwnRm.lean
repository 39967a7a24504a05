/-
  Own calculus, part Rm: a call of a function that changes its first argument is sound. Conditions: as each theorem states them.
-/
import Derived.Test.YtmfieiphcjenlaaOwnR
namespace Go.Own
open Go
set_option linter.unusedVariables false
set_option linter.unusedSimpArgs false

section
variable {X : Ctx} {T : Tabs} {own own' : Id → List Nat} {s : St} {w w' : World} {a : Act} {h h' : Heap}

/-- A step in which the objects 'ids' turn. -/
theorem ConcO.mutTurn {ids : List Id} {us : List (Id × Ob)} {dst : Option Nat} {av : AV} {u : Value} (c : ConcO X own s a w) (hd : ∀ x, dst = some x → X.dok x = true)
    (ho : w'.os = w.os) (ht : w'.tape = w.tape) (hp : w'.output = w.output) (hg : w.heap.size ≤ w'.heap.size)
    (h1 : ∀ id, id ∉ ids → own' id = own id) (hnd : ∀ id ∈ ids, (own' id).Nodup) (hdj : ∀ id ∈ ids, ∀ id' ∈ ids, ∀ b, b ∈ own' id → b ∈ own' id' → id = id')
    (hlt : ∀ id ∈ ids, ∀ b ∈ own' id, b < w'.heap.size ∧ (w.heap.size ≤ b ∨ ∃ id2 ∈ ids, b ∈ own id2))
    (hold : ∀ b, b < w.heap.size → (∀ id ∈ ids, b ∉ own id) → w'.heap[b]? = w.heap[b]?)
    (hob0 : ∀ id, id ∉ ids → updO s.ob us id = s.ob id) (hob1 : ∀ id ∈ ids, ∃ sz l dp, updO s.ob us id = .arr sz l dp)
    (htr : ∀ id ∈ ids, Trans own own' w.heap w'.heap id (s.ob id) (updO s.ob us id))
    (hv : Keeps own own' w.heap w'.heap s (s.put dst av us) → AVOK own' w'.heap (s.put dst av us) av u) : ConcO X own' (s.put dst av us) (a.put dst u) w' := by
  have k : Keeps own own' w.heap w'.heap s (s.put dst av us) := by
    refine ⟨St.put_bs _ _ _ _, fun b hb => ⟨⟨by have := hb.1; omega, fun id hm => ?_⟩, hold b hb.1 fun id _ => hb.2 id⟩, St.put_row s dst av us, fun id _ => ?_⟩
    · by_cases hi : id ∈ ids
      · rcases (hlt id hi b hm).2 with q | ⟨id2, _, q⟩
        · have := hb.1; omega
        · exact hb.2 id2 q
      · rw [h1 id hi] at hm; exact hb.2 id hm
    · rw [St.put_ob]
      by_cases hi : id ∈ ids
      · exact htr id hi
      · rw [hob0 id hi]
        exact .same _ (h1 id hi) fun b hb => hold b (c.lt id b hb).1 fun id2 h2 hb2 => hi (c.disj id id2 b hb hb2 ▸ h2)
  refine c.turn k ho ht hp hg hd (fun id b hb => ?_) (fun id => ?_) (fun id id' b hb hb' => ?_) (fun id => ?_) (hv k)
  · by_cases hi : id ∈ ids
    · obtain ⟨q1, q2⟩ := hlt id hi b hb
      refine ⟨q1, ?_⟩
      rcases q2 with q | ⟨id2, _, q⟩
      · exact .inl (by have := c.grow; omega)
      · exact (c.lt id2 b q).2
    · rw [h1 id hi] at hb
      have := c.lt id b hb
      exact ⟨by omega, this.2⟩
  · by_cases hi : id ∈ ids
    · exact hnd id hi
    · rw [h1 id hi]; exact c.nodup id
  · by_cases hi : id ∈ ids
    · by_cases hi' : id' ∈ ids
      · exact hdj id hi id' hi' b hb hb'
      · rw [h1 id' hi'] at hb'
        rcases (hlt id hi b hb).2 with q | ⟨id2, q0, q⟩
        · have := (c.lt id' b hb').1; omega
        · exact absurd (c.disj id2 id' b q hb' ▸ q0) hi'
    · rw [h1 id hi] at hb
      by_cases hi' : id' ∈ ids
      · rcases (hlt id' hi' b hb').2 with q | ⟨id2, q0, q⟩
        · have := (c.lt id b hb).1; omega
        · exact absurd (c.disj id2 id b q hb ▸ q0) hi
      · rw [h1 id' hi'] at hb'; exact c.disj id id' b hb hb'
  · rw [St.put_ob]
    by_cases hi : id ∈ ids
    · obtain ⟨sz, l, dp, e⟩ := hob1 id hi
      rw [e]; trivial
    · have := ObOK.keep (id := id) k (by rw [St.put_ob]; exact hob0 id hi) (h1 id hi) (fun b hb => hold b (c.lt id b hb).1 fun id2 h2 hb2 => hi (c.disj id id2 b hb hb2 ▸ h2)) (c.obs id)
      rwa [St.put_ob] at this

theorem ArrAt.repsW {m F : List Nat} {sz : Nat} {l : List (List D)} {dp : Nat} {v : Value} (q : ArrAt h m F sz l dp v) (hd : dp ≠ 0) : RepsW true h [.sl sz l] [v] m := by
  rcases q with ⟨rfl, rfl, rfl, rfl⟩ | ⟨b, cap, c, e, G, rfl, rfl, rfl, a2, a3, a4, a5, a6, a7⟩
  · exact .none (fun _ => rfl) .nil
  · rw [bne_iff_ne.2 hd] at a7
    rw [if_neg hd]
    have := RepsW.sl (W := true) (off := 0) (ds := []) (vs := []) (F := []) (fun _ => ⟨rfl, rfl, a5⟩) a2 a3 a4 (by have := Nat.mul_le_mul_right sz a3; omega) a6 (by simpa using a7) .nil
    simpa using this

theorem ArrAt.of_repsW {m : List Nat} {sz : Nat} {l : List (List D)} {v : Value} (r : RepsW true h [.sl sz l] [v] m) : ArrAt h m [] sz l 1 v := by
  rcases r.sl_invW with ⟨a0, rfl, rfl, rfl, h0⟩ | ⟨b, off, cap, c, e, fz, G, rfl, a1, a2, a3, a4, a5, a6, rfl, h0⟩
  · obtain rfl := h0 rfl
    exact .inl ⟨rfl, rfl, rfl, rfl⟩
  · obtain ⟨rfl, rfl, h1⟩ := h0 rfl
    exact .inr ⟨b, cap, c, e, G, rfl, rfl, rfl, a1, a2, a3, h1, a5, by simpa using a6⟩

/-- An owned array, ahead of the call and behind it. -/
def PairOK (own : Id → List Nat) (h h' : Heap) (s : St) (us : List (Id × Ob)) (id : Id) (m' : List Nat) : Prop :=
  ∃ sz l dp l' dp' x, s.ob id = .arr sz l dp ∧ dp ≠ 0 ∧ 0 < sz ∧ (id, Ob.arr sz l' 1) ∈ us ∧ ArrOK own h id sz l dp x ∧ ArrAt h' m' [] sz l' dp' x ∧ dp' ≠ 0

theorem PairOK.trans {us : List (Id × Ob)} {id : Id} {m' : List Nat} (hn : (us.map (·.1)).Nodup) (q : PairOK own h h' s us id m') (ho : own' id = m') :
    Trans own own' h h' id (s.ob id) (updO s.ob us id) ∧ ∃ sz l dp, updO s.ob us id = .arr sz l dp := by
  obtain ⟨sz, l, dp, l', dp', x, e1, h0, hsz, hus, hA, hB, h0'⟩ := q
  have e2 := updO_get hn s.ob id _ hus
  rw [e1, e2]
  refine ⟨?_, _, _, _, rfl⟩
  rcases hA with ⟨rfl, rfl, e3⟩ | ⟨b, cap, rfl, hb⟩
  · rcases hB with ⟨_, rfl, rfl, _⟩ | ⟨b', cap', c', e', G', q1, _⟩
    · exact .upd _ _ _ _ _ (fun _ => ho) rfl (fun b cap hb => by obtain ⟨_, _, _, q, _⟩ := hb; rw [e3] at q; cases q) (fun h => by cases h)
    · cases q1
  · rcases hB with ⟨q1, _⟩ | ⟨b', cap', c', e', G', q1, rfl, _, a2, a3, a4, a5, a6, a7⟩
    · cases q1
    · simp only [Value.slice.injEq, Option.some.injEq, Addr.mk.injEq, and_true] at q1
      obtain ⟨rfl, q2, rfl⟩ := q1
      refine .upd _ _ _ _ _ (fun hh => ?_) q2.symm (fun b2 cap2 hb2 => ?_) (fun h => by cases h)
      · obtain ⟨_, _, _, q, _⟩ := hb; rw [hh] at q; cases q
      · obtain ⟨c, e, G, f1, f2, f3, f4, f5, f6, f7, f8⟩ := hb
        obtain ⟨c2, e2, G2, g1, g2, g3, g4, g5, g6, g7, g8⟩ := hb2
        rw [f1] at g1
        obtain ⟨rfl, _⟩ := List.cons.inj g1
        rw [f2] at g2
        simp only [Option.some.injEq, Obj.cells.injEq] at g2
        obtain ⟨rfl, _⟩ := g2
        have hcap : cap2 = cap := Nat.eq_of_mul_eq_mul_right hsz (g5.symm.trans f5)
        subst hcap
        rw [bne_iff_ne.2 h0'] at a7
        exact ⟨c', e', G', by rw [ho]; simp [h0'], a2, a3, a4, a5, a6, a7, fun h => by cases h⟩

/-- The owners behind the call. -/
def zipOwn : List Id → List (List Nat) → (Id → List Nat) → Id → List Nat
  | i :: is, m :: ms, f => fun j => if j = i then m else zipOwn is ms f j
  | _, _, f => f

theorem zip_out {P : Id → List Nat → Prop} {f : Id → List Nat} {ids : List Id} {ms : List (List Nat)} (q : All2 P ids ms) {j : Id} (hj : j ∉ ids) : zipOwn ids ms f j = f j := by
  induction q with
  | nil => rfl
  | cons _ _ ih =>
    simp only [List.mem_cons, not_or] at hj
    simp only [zipOwn, if_neg hj.1]
    exact ih hj.2

theorem zip_get {P : Id → List Nat → Prop} {f : Id → List Nat} {ids : List Id} {ms : List (List Nat)} (q : All2 P ids ms) (hn : ids.Nodup) : ∀ {id : Id}, id ∈ ids → ∃ k : Nat, ids[k]? = some id ∧ ∃ m', ms[k]? = some m' ∧ P id m' ∧ zipOwn ids ms f id = m' := by
  induction q with
  | nil => intro id h; cases h
  | @cons i m is ms h1 h2 ih =>
    intro id hid
    rw [List.nodup_cons] at hn
    rcases List.mem_cons.1 hid with rfl | hid
    · exact ⟨0, rfl, m, rfl, h1, by simp [zipOwn]⟩
    · obtain ⟨k, e1, m', e2, e3, e4⟩ := ih hn.2 hid
      have hne : id ≠ i := fun e => hn.1 (e ▸ hid)
      exact ⟨k + 1, by simpa using e1, m', by simpa using e2, e3, by simp only [zipOwn, if_neg hne]; exact e4⟩

/-- What a mutable argument is and may become. -/
def Pack (own : Id → List Nat) (h : Heap) (s : St) (x : Value) (a0 a1 : Arg) (us : List (Id × Ob)) : Prop :=
  ∃ (F0 : List Nat) (Ms : List (List Nat)) (ids : List Id), ArgOK h a0 x F0 Ms ∧ Ms.flatten.Nodup ∧ (∀ b ∈ F0, Imm own h b) ∧ (∀ b ∈ Ms.flatten, ∃ id ∈ ids, b ∈ own id) ∧ (∀ id, id ∉ ids → updO s.ob us id = s.ob id) ∧
    ∀ h' F2 Ms', ArgOK h' a1 x F2 Ms' → Ms'.flatten.Nodup → (∀ b ∈ Ms'.flatten, b < h'.size ∧ (h.size ≤ b ∨ b ∈ Ms.flatten)) → h.size ≤ h'.size → (∀ b, b < h.size → b ∉ Ms.flatten → h'[b]? = h[b]?) →
      ∃ own', (∀ id, id ∉ ids → own' id = own id) ∧ (∀ id ∈ ids, (own' id).Nodup) ∧ (∀ id ∈ ids, ∀ id' ∈ ids, ∀ b, b ∈ own' id → b ∈ own' id' → id = id') ∧
        (∀ id ∈ ids, ∀ b ∈ own' id, b < h'.size ∧ ((h.size ≤ b ∧ b ∈ Ms'.flatten) ∨ ∃ id2 ∈ ids, b ∈ own id2)) ∧ (∀ id ∈ ids, Trans own own' h h' id (s.ob id) (updO s.ob us id)) ∧ (∀ id ∈ ids, ∃ sz l dp, updO s.ob us id = .arr sz l dp)

theorem updO_out {us : List (Id × Ob)} : ∀ (g : Id → Ob) (k : Id), k ∉ us.map (·.1) → updO g us k = g k := by
  induction us with
  | nil => intros; rfl
  | cons q us ih =>
    intro g k hk
    obtain ⟨i, o⟩ := q
    simp only [List.map_cons, List.mem_cons, not_or] at hk
    rw [updO, ih _ k hk.2, if_neg hk.1]

/-- Whole objects. -/
theorem pack_ids {x : Value} {a0 a1 : Arg} {us : List (Id × Ob)} {F0 : List Nat} (hn : (us.map (·.1)).Nodup) (hdis : ∀ id id' b, b ∈ own id → b ∈ own id' → id = id') (hnd : ∀ id, (own id).Nodup) (hA : ArgOK h a0 x F0 ((us.map (·.1)).map own)) (hF : ∀ b ∈ F0, Imm own h b)
    (hP : ∀ h' F2 Ms', ArgOK h' a1 x F2 Ms' → All2 (PairOK own h h' s us) (us.map (·.1)) Ms') : Pack own h s x a0 a1 us := by
  refine ⟨F0, _, us.map (·.1), hA, ?_, hF, fun b hb => ?_, fun id hid => updO_out _ _ hid, fun h' F2 Ms' hA' hnd' hlt hg hold => ?_⟩
  · clear hA hP
    generalize us.map (·.1) = ids at hn
    induction ids with
    | nil => simp
    | cons i is ih =>
      rw [List.nodup_cons] at hn
      simp only [List.map_cons, List.flatten_cons, List.nodup_append]
      refine ⟨hnd i, ih hn.2, fun p hp q hq e => ?_⟩
      subst e
      obtain ⟨m, hm, hq⟩ := List.mem_flatten.1 hq
      obtain ⟨j, hj, rfl⟩ := List.mem_map.1 hm
      exact hn.1 (hdis i j p hp hq ▸ hj)
  · obtain ⟨m, hm, hb⟩ := List.mem_flatten.1 hb
    obtain ⟨j, hj, rfl⟩ := List.mem_map.1 hm
    exact ⟨j, hj, hb⟩
  · have hz := hP h' F2 Ms' hA'
    have get := fun {id : Id} (hi : id ∈ us.map (·.1)) => zip_get (f := own) hz hn hi
    refine ⟨zipOwn (us.map (·.1)) Ms' own, fun id hi => zip_out hz hi, fun id hi => ?_, fun id hi id' hi' b hb hb' => ?_, fun id hi b hb => ?_, fun id hi => ?_, fun id hi => ?_⟩
    · obtain ⟨k, e1, m', e2, e3, e4⟩ := get hi
      rw [e4]; exact nodup_of_flatten hnd' (List.mem_of_getElem? e2)
    · obtain ⟨k, e1, m', e2, e3, e4⟩ := get hi
      obtain ⟨k', e1', m'', e2', e3', e4'⟩ := get hi'
      rw [e4] at hb
      rw [e4'] at hb'
      have := flatten_disj hnd' e2 e2' hb hb'
      subst this
      rw [e1] at e1'
      exact Option.some.inj e1'
    · obtain ⟨k, e1, m', e2, e3, e4⟩ := get hi
      rw [e4] at hb
      have hbm := List.mem_flatten.2 ⟨m', List.mem_of_getElem? e2, hb⟩
      obtain ⟨q1, q2⟩ := hlt b hbm
      refine ⟨q1, q2.imp (fun q => ⟨q, hbm⟩) fun q => ?_⟩
      obtain ⟨m, hm, hb⟩ := List.mem_flatten.1 q
      obtain ⟨j, hj, rfl⟩ := List.mem_map.1 hm
      exact ⟨j, hj, hb⟩
    · obtain ⟨k, e1, m', e2, e3, e4⟩ := get hi
      exact (e3.trans hn e4).1
    · obtain ⟨k, e1, m', e2, e3, e4⟩ := get hi
      exact (PairOK.trans (own' := zipOwn (us.map (·.1)) Ms' own) hn e3 e4).2

theorem ArrAt.own_nil {m F : List Nat} {sz : Nat} {l : List (List D)} {dp : Nat} {v : Value} (q : ArrAt h m F sz l dp v) (hd : dp ≠ 0) : F = [] := by
  rcases q with ⟨_, _, _, rfl⟩ | ⟨b, cap, c, e, G, _, _, rfl, _⟩
  · rfl
  · rw [if_neg hd]

theorem pack_osl {id : Id} {sz : Nat} {l : List (List D)} {dp : Nat} {a1 : Arg} {x : Value} {q : Prop} {us : List (Id × Ob)} (hdis : ∀ id id' b, b ∈ own id → b ∈ own id' → id = id') (hnd : ∀ id, (own id).Nodup) (ho : s.ob id = .arr sz l dp) (h0 : dp ≠ 0) (hx : CellOK own h s (.osl id) x) (hs : setMut s.ob (.one (.osl id)) a1 = some (q, us)) (hq : q) :
    Pack own h s x (.arr sz l dp) a1 us := by
  have hA := hx.2.2
  rw [ho] at hA
  obtain ⟨F, hA2, hF⟩ := ArrAt.of_ok hA
  have := hA2.own_nil h0
  subst this
  cases a1 with
  | arr s' l' dp' =>
    simp only [setMut, ho, Option.some.injEq, Prod.mk.injEq] at hs
    obtain ⟨rfl, rfl⟩ := hs
    obtain ⟨rfl, hsz⟩ := hq
    refine pack_ids (F0 := []) (by simp) hdis hnd (.arr hA2 h0) (by simp) fun h' F2 Ms' hA' => ?_
    cases hA' with
    | arr g1 g2 => exact .cons ⟨_, l, dp, l', dp', x, ho, h0, hsz, by simp, hA, g1, g2⟩ .nil
  | _ => simp [setMut] at hs

theorem magOf_ok : ∀ {cs : List Cell} {l ns : List (D ⊕ (Nat × List (List D) × Nat))} {vs : List Value} {q : Prop} {us us0 : List (Id × Ob)}, magOf s.ob cs = some l → setMag s.ob cs ns = some (q, us) → q → (∀ z ∈ us, z ∈ us0) → CellsOK own h s cs vs →
    ∃ F, MagOK h l vs F ((us.map (·.1)).map own) ∧ (∀ b ∈ F, Imm own h b) ∧ ∀ h' F2 Ms', MagOK h' ns vs F2 Ms' → All2 (PairOK own h h' s us0) (us.map (·.1)) Ms'
  | [], l, ns, vs, q, us, us0, hm, hs, hq, hsub, hc => by
    simp only [magOf, Option.some.injEq] at hm
    subst hm
    cases ns with
    | cons => simp [setMag] at hs
    | nil =>
      simp only [setMag, Option.some.injEq, Prod.mk.injEq] at hs
      obtain ⟨rfl, rfl⟩ := hs
      cases hc
      refine ⟨[], .nil, by simp, fun h' F2 Ms' hM => ?_⟩
      cases hM
      exact .nil
  | c :: cs, l, ns, vs, q, us, us0, hm, hs, hq, hsub, hc => by
    cases c with
    | d y =>
      simp only [magOf] at hm
      split at hm
      · rename_i l0 hl0
        simp only [Option.some.injEq] at hm
        subst hm
        cases ns with
        | nil => simp [setMag] at hs
        | cons n ns =>
          cases n with
          | inr z => simp [setMag] at hs
          | inl y' =>
            simp only [setMag] at hs
            cases hc with
            | cons c1 c2 =>
              obtain ⟨F1, r1, i1⟩ := c1
              obtain ⟨F, g1, g2, g3⟩ := magOf_ok hl0 hs hq hsub c2
              refine ⟨F1 ++ F, .d r1 g1, fun b hb => (List.mem_append.1 hb).elim (i1 b) (g2 b), fun h' F2 Ms' hM => ?_⟩
              cases hM with
              | d _ hM => exact g3 _ _ _ hM
      · cases hm
    | osl id =>
      simp only [magOf] at hm
      split at hm
      · rename_i sz m dp l0 ho hl0
        split at hm
        · cases hm
        · rename_i h0
          simp only [Option.some.injEq] at hm
          subst hm
          cases ns with
          | nil => simp [setMag] at hs
          | cons n ns =>
            cases n with
            | inl z => simp [setMag] at hs
            | inr z =>
              obtain ⟨s', l', dp'⟩ := z
              simp only [setMag, ho] at hs
              split at hs
              · rename_i _ _ _ p0 us1 he hs1
                simp only [Ob.arr.injEq] at he
                obtain ⟨rfl, rfl, rfl⟩ := he
                simp only [Option.some.injEq, Prod.mk.injEq] at hs
                obtain ⟨rfl, rfl⟩ := hs
                obtain ⟨⟨rfl, hsz⟩, hq⟩ := hq
                cases hc with
                | @cons _ v _ vs c1 c2 =>
                  obtain ⟨F, g1, g2, g3⟩ := magOf_ok hl0 hs1 hq (fun z hz => hsub z (by simp [hz])) c2
                  have hA := c1.2.2
                  rw [ho] at hA
                  obtain ⟨F', hA2, _⟩ := ArrAt.of_ok hA
                  have := hA2.own_nil h0
                  subst this
                  refine ⟨F, .arr hA2 h0 g1, g2, fun h' F2 Ms' hM => ?_⟩
                  cases hM with
                  | arr q1 q2 hM => exact .cons ⟨_, m, dp, l', dp', v, ho, h0, hsz, hsub _ (by simp), hA, q1, q2⟩ (g3 _ _ _ hM)
              · cases hs
      · cases hm
    | _ => simp [magOf] at hm

theorem pack_mag {cs : List Cell} {l : List (D ⊕ (Nat × List (List D) × Nat))} {a1 : Arg} {x : Value} {q : Prop} {us : List (Id × Ob)} (hdis : ∀ id id' b, b ∈ own id → b ∈ own id' → id = id') (hnd : ∀ id, (own id).Nodup) (hm : magOf s.ob cs = some l) (hx : AVOK own h s (.agg cs) x) (hs : setMut s.ob (.agg cs) a1 = some (q, us)) (hq : q) (hn : (us.map (·.1)).Nodup) :
    Pack own h s x (.mag l) a1 us := by
  obtain ⟨vs, rfl, hc⟩ := hx
  cases a1 with
  | mag ns =>
    simp only [setMut] at hs
    obtain ⟨F, g1, g2, g3⟩ := magOf_ok hm hs hq (fun _ hz => hz) hc
    refine pack_ids hn hdis hnd (by simpa using ArgOK.mag g1) g2 fun h' F2 Ms' hA' => ?_
    generalize hv : Value.agg vs = x at hA'
    cases hA' with
    | @mag _ vs' _ _ hM =>
      simp only [Value.agg.injEq] at hv
      subst hv
      exact g3 h' F2 Ms' (by simpa using hM)
  | _ => simp [setMut] at hs

theorem pack_isl {id : Id} {i o sz : Nat} {l : List (List D)} {s0 : Nat} {r : List (List D)} {a1 : Arg} {x : Value} {q : Prop} {us : List (Id × Ob)} (hdis : ∀ id id' b, b ∈ own id → b ∈ own id' → id = id') (hnd : ∀ id, (own id).Nodup) (ho : s.ob id = .arr sz l 2) (hD : (l.getD i []).getD o default = .sl s0 r)
    (hx : CellOK own h s (.isl id i o) x) (hs : setMut s.ob (.one (.isl id i o)) a1 = some (q, us)) (hq : q) : Pack own h s x (.arr s0 r 1) a1 us := by
  have hA := hx.2.2
  rw [ho] at hA
  obtain ⟨b, cap, c, e, hB, hb, hoz, hil, hcx⟩ := hA rfl
  obtain ⟨c1, e1, G, f1, f2, f3, f4, f5, f6, f7, f8⟩ := _root_.id hB
  rw [hb] at f2
  simp only [Option.some.injEq, Obj.cells.injEq] at f2
  obtain ⟨rfl, rfl, _⟩ := f2
  rw [if_neg (by decide)] at f1
  have f7' : RepsW true h l.flatten (c.toList.take (l.length * sz)) G := f7
  obtain ⟨p1, p2, p3, p4⟩ := arr_parts f6 hil (o := o) (n := 1) (by omega)
  have hget : l.getD i [] = l[i] := by simp [List.getD_eq_getElem?_getD, hil]
  have hli : (l.getD i []).length = sz := by rw [hget]; exact f6 _ (List.getElem_mem hil)
  have hone : ((l.getD i []).drop o).take 1 = [.sl s0 r] := by
    rw [List.drop_eq_getElem_cons (by omega)]
    simp only [List.take_succ_cons, List.take_zero, List.cons.injEq, and_true]
    rw [← hD]; simp only [List.getD_eq_getElem?_getD (l := l.getD i []), List.getElem?_eq_getElem (show o < (l.getD i []).length by omega), Option.getD_some]
  rw [hone] at p1 p3
  rw [p1] at f7'
  obtain ⟨v1, v2, F1, G2, g1, g2, r1, r2⟩ := RepsW.split _ _ f7'
  obtain ⟨v3, v4, FM, F2, g3, g4, r3, r4⟩ := RepsW.split _ _ r2
  subst g2 g4
  have l1 := r1.length
  have l3 := r3.length
  rw [p2] at l1
  match v3, l3 with
  | [y], _ =>
    have hle : (i + 1) * sz ≤ l.length * sz := Nat.mul_le_mul_right _ hil
    rw [Nat.add_mul] at hle
    have hy : y = x := by
      have : (c.toList.take (l.length * sz))[i * sz + o]? = some y := by rw [g1, g3, List.getElem?_append_right (by omega), ← l1]; simp
      rw [List.getElem?_take_of_lt (by omega)] at this
      have h2 : c.toList[i * sz + o]? = some x := by simpa using hcx
      rw [h2] at this; exact (Option.some.inj this).symm
    subst hy
    cases a1 with
    | arr s' r' dp' =>
      simp only [setMut, ho, hD, Option.some.injEq, Prod.mk.injEq] at hs
      obtain ⟨rfl, rfl⟩ := hs
      subst hq
      have hndo := hnd id
      rw [f1] at hndo
      have hset : (l.getD i []).take o ++ [D.sl s' r'] ++ (l.getD i []).drop (o + 1) = (l.getD i []).set o (.sl s' r') := by
        rw [List.set_eq_take_append_cons_drop, if_pos (by omega)]; simp
      have p4' := p4 [.sl s' r']
      rw [hset] at p4'
      refine ⟨[], [FM], [id], .arr (ArrAt.of_repsW r3) (by decide), ?_, by simp, fun z hz => ⟨id, by simp, ?_⟩, fun j hj => ?_, fun h' F2' Ms' hA' hnd' hlt hg hold => ?_⟩
      · simp only [List.flatten_cons, List.flatten_nil, List.append_nil]
        simp only [List.nodup_cons, List.nodup_append] at hndo
        exact hndo.2.2.1.1
      · simp only [List.flatten_cons, List.flatten_nil, List.append_nil] at hz
        rw [f1]; simp [hz]
      · simp only [List.mem_singleton] at hj
        simp [updO, hj]
      · cases hA' with
        | @arr _ _ _ _ m' q1 q2 =>
          simp only [List.flatten_cons, List.flatten_nil, List.append_nil] at hnd' hlt hold
          have rN := q1.repsW q2
          have hbn : b ∉ F1 ++ (FM ++ F2) := by simp only [List.nodup_cons] at hndo; exact hndo.1
          have hbs : b < h.size := (Array.getElem?_eq_some_iff.1 hb).1
          have hbM : b ∉ FM := fun hm => hbn (by simp [hm])
          have hb' : h'[b]? = h[b]? := hold b hbs hbM
          have hF1 : ∀ z ∈ F1, z ∉ FM := fun z hz hm => by
            simp only [List.nodup_cons, List.nodup_append] at hndo
            exact hndo.2.2.2 z hz z (by simp [hm]) rfl
          have hF2 : ∀ z ∈ F2, z ∉ FM := fun z hz hm => by
            simp only [List.nodup_cons, List.nodup_append] at hndo
            exact hndo.2.2.1.2.2 z hm z hz rfl
          have r1' := r1.frame fun z hz => hold z (r1.lt z hz) (hF1 z hz)
          have r4' := r4.frame fun z hz => hold z (r4.lt z hz) (hF2 z hz)
          have hnew := r1'.append (rN.append r4')
          rw [← p4'] at hnew
          have hcells : v1 ++ ([y] ++ v4) = c.toList.take (l.length * sz) := by rw [g1, g3]
          rw [hcells] at hnew
          have hup : updO s.ob [(id, Ob.arr sz (l.set i ((l.getD i []).set o (.sl s' r'))) 2)] id = .arr sz (l.set i ((l.getD i []).set o (.sl s' r'))) 2 := by simp [updO]
          have hlow : ∀ z ∈ m', z ∈ FM ∨ h.size ≤ z := fun z hz => (hlt z hz).2.symm
          refine ⟨fun j => if j = id then b :: (F1 ++ (m' ++ F2)) else own j, fun j hj => ?_, fun j hj => ?_, fun j hj j' hj' z _ _ => ?_, fun j hj z hz => ?_, fun j hj => ?_, fun j hj => ?_⟩
          · simp only [List.mem_singleton] at hj; simp [hj]
          · simp only [List.mem_singleton] at hj
            subst hj
            simp only [if_true]
            have big : ∀ z, z ∈ F1 ∨ z ∈ F2 ∨ z = b → ¬ h.size ≤ z := fun z hz => by
              rcases hz with hz | hz | rfl
              · have := r1.lt z hz; omega
              · have := r4.lt z hz; omega
              · omega
            simp only [List.nodup_cons, List.nodup_append, List.mem_append, not_or] at hndo ⊢
            obtain ⟨⟨u1, u2, u3⟩, u4, ⟨u5, u6, u7⟩, u8⟩ := hndo
            refine ⟨⟨u1, fun hm => (hlow b hm).elim u2 (big b (.inr (.inr rfl))), u3⟩, u4, ⟨hnd', u6, fun z hz z' hz' e => ?_⟩, fun z hz z' hz' e => ?_⟩
            · subst e; exact (hlow z hz).elim (fun q => u7 z q z hz' rfl) (big z (.inr (.inl hz')))
            · subst e
              rcases hz' with hz' | hz'
              · exact (hlow z hz').elim (fun q => hF1 z hz q) (big z (.inl hz))
              · exact u8 z hz z (.inr hz') rfl
          · simp only [List.mem_singleton] at hj hj'; rw [hj, hj']
          · simp only [List.mem_singleton] at hj
            subst hj
            simp only [if_true, List.mem_cons, List.mem_append] at hz
            rcases hz with rfl | hz | hz | hz
            · exact ⟨by omega, .inr ⟨j, by simp, by rw [f1]; simp⟩⟩
            · exact ⟨by have := r1.lt z hz; omega, .inr ⟨j, by simp, by rw [f1]; simp [hz]⟩⟩
            · refine ⟨(hlt z hz).1, ?_⟩
              rcases (hlt z hz).2 with q | q
              · exact .inl ⟨q, by simpa using hz⟩
              · exact .inr ⟨j, by simp, by rw [f1]; simp [q]⟩
            · exact ⟨by have := r4.lt z hz; omega, .inr ⟨j, by simp, by rw [f1]; simp [hz]⟩⟩
          · simp only [List.mem_singleton] at hj
            subst hj
            rw [hup, ho]
            refine .upd _ _ _ _ _ (fun hh => by rw [f1] at hh; cases hh) (by simp) (fun b2 cap2 hb2 => ?_) (fun _ => ⟨rfl, fun z hz => ?_⟩)
            · obtain ⟨c2, e2, G2, k1, k2, k3, k4, k5, k6, k7, k8⟩ := hb2
              rw [f1] at k1
              obtain ⟨rfl, _⟩ := List.cons.inj k1
              rw [hb] at k2
              simp only [Option.some.injEq, Obj.cells.injEq] at k2
              obtain ⟨rfl, rfl, _⟩ := k2
              refine ⟨c, e, F1 ++ (m' ++ F2), by simp, hb'.trans hb, by simpa using k3, k4, k5, fun z hz => ?_, ?_, fun h => by cases h⟩
              · rcases List.mem_or_eq_of_mem_set hz with hz | rfl
                · exact k6 z hz
                · rw [List.length_set]; exact hli
              · rw [List.length_set]; exact hnew
            · rw [f1] at hz
              simp only [List.head?_cons, Option.mem_def, Option.some.injEq] at hz
              subst hz; exact hb'
          · simp only [List.mem_singleton] at hj
            subst hj
            exact ⟨_, _, _, hup⟩
    | _ => simp [setMut] at hs

theorem mut_pack {v0 : AV} {x : Value} {a0 a1 : Arg} {q : Prop} {us : List (Id × Ob)} (hdis : ∀ id id' b, b ∈ own id → b ∈ own id' → id = id') (hnd : ∀ id, (own id).Nodup) (hm : mutArg s.ob v0 = some a0) (hs : setMut s.ob v0 a1 = some (q, us)) (hq : q) (hn : (us.map (·.1)).Nodup) (hx : AVOK own h s v0 x) :
    Pack own h s x a0 a1 us := by
  unfold mutArg at hm
  split at hm
  · rename_i id
    split at hm
    · rename_i sz l dp ho
      split at hm
      · cases hm
      · simp only [Option.some.injEq] at hm
        subst hm
        exact pack_osl hdis hnd ho ‹_› hx hs hq
    · cases hm
  · rename_i id i o
    split at hm
    · rename_i s0 l ho
      split at hm
      · rename_i sz r hD
        simp only [Option.some.injEq] at hm
        subst hm
        exact pack_isl hdis hnd ho hD hx hs hq
      · cases hm
    · cases hm
  · rename_i cs
    split at hm
    · rename_i l hl
      simp only [Option.some.injEq] at hm
      subst hm
      exact pack_mag hdis hnd hl hx hs hq hn
    · cases hm
  · cases hm

theorem callM_sound {d : Nat} {dst : Option Nat} {f : FuncId} {vs : List AV} {vals : List Value} {p : Prop} {v : AV} {us : List (Id × Ob)} (hT : TabsOK X.toEnv T) (c : ConcO X own s a w) (hd : ∀ x, dst = some x → X.dok x = true)
    (hvs : All2 (AVOK own w.heap s) vs vals) (hf : callM T d s.ob f vs = some (p, v, us)) (hp : p) :
    FnFact X.P f ∧ Calls X.P f vals.toArray w fun e w' => ∃ u, e = .returned u ∧ ∃ own', ConcO X own' (s.put dst v us) (a.put dst u) w' := by
  unfold callM at hf
  split at hf
  · rename_i ct hct
    obtain ⟨hfn, hck⟩ := hT.ct f ct hct
    refine ⟨hfn, ?_⟩
    split at hf
    · rename_i hmu
      obtain ⟨hmu, hal⟩ := hmu
      cases hvs with
      | nil => cases hf
      | @cons v0 x vr xr hx hr =>
        dsimp only at hf
        split at hf
        · rename_i a0 as hm has
          split at hf
          · rename_i p0 rs a1 hrun
            split at hf
            · rename_i q us1 hset
              simp only [Option.some.injEq, Prod.mk.injEq] at hf
              obtain ⟨rfl, rfl, rfl⟩ := hf
              obtain ⟨hp0, hq, hrn, himm, hn⟩ := hp
              obtain ⟨F0, Ms, ids, g1, g2, g3, g4, g5, g6⟩ := mut_pack c.disj c.nodup hm hset hq hn hx
              obtain ⟨F, k1, k2, k3, _⟩ := argsOf_ok c.obs (ms := []) rfl has hr
              have hN : X.N ≤ w.heap.size := by have := c.hN.1; have := c.grow; omega
              have hargs : ArgsOK w.heap (a0 :: as) (x :: xr) (F0 ++ F) (Ms ++ []) := .cons g1 k1
              have hFM : ∀ b ∈ F0 ++ F, b ∉ (Ms ++ []).flatten := fun b hb hm => by
                rw [List.append_nil] at hm
                obtain ⟨id, _, hid⟩ := g4 b hm
                rcases List.mem_append.1 hb with hb | hb
                · exact (g3 b hb).2 id hid
                · exact (k3 himm b hb).2 id hid
              have hMN : ∀ b ∈ (Ms ++ []).flatten, X.N ≤ b := fun b hb => by
                rw [List.append_nil] at hb
                obtain ⟨id, _, hid⟩ := g4 b hb
                rcases (c.lt id b hid).2 with q | q
                · have := c.hN.1; omega
                · exact c.hN.2 b q
              refine (hck _ _ _ _ hrun hp0 w (x :: xr) (F0 ++ F) (Ms ++ []) hargs (by rw [List.append_nil]; exact g2) hFM c.hJ hN hMN).mono ?_
              rintro e w' ⟨u, rfl, po⟩
              refine ⟨u, rfl, ?_⟩
              obtain ⟨F', os, F2, Ms', r1, r2, r3, r4, r5, r6, r7⟩ := po.res
              have hlen := rets_len r1
              have hos : os = [] := List.eq_nil_of_length_eq_zero (by rw [← hlen]; exact hrn)
              subst hos
              rw [hmu] at r2
              have hmv : mutVals [true] (x :: xr) = [x] := by
                simp only [mutVals, List.headD_cons, if_true, List.tail_cons]
                rw [mutVals_nil (by rfl)]
              rw [hmv] at r2
              obtain ⟨F2a, Ms2, rfl, q1⟩ : ∃ F2a Ms2, Ms' = Ms2 ∧ ArgOK w'.heap a1 x F2a Ms2 := by
                cases r2 with
                | cons h1 h2 => cases h2; exact ⟨_, _, by simp, h1⟩
              rw [List.append_nil] at r7
              have hold : ∀ b, b < w.heap.size → b ∉ Ms.flatten → w'.heap[b]? = w.heap[b]? := fun b h1 h2 => po.old b h1 (by rw [List.append_nil]; exact h2)
              obtain ⟨own', o1, o2, o3, o4, o5, o6⟩ := g6 w'.heap F2a Ms' q1 r6 (fun b hb => ⟨(r7 b hb).1, (r7 b hb).2.2⟩) po.grow hold
              refine ⟨own', c.mutTurn (ids := ids) hd po.os po.tape po.output po.grow o1 o2 o3 (fun id hi b hb => ⟨(o4 id hi b hb).1, (o4 id hi b hb).2.imp (fun q => q.1) fun q => q⟩) (fun b h1 h2 => hold b h1 fun hm => ?_) g5 o6 o5 fun k => ?_⟩
              · obtain ⟨id, hi, hid⟩ := g4 b hm
                exact h2 id hi hid
              · refine (rets_av r1 (fun b hb => ?_) (fun hi => by cases hi) (fun hi j m hm => by simp at hm)).1
                obtain ⟨t1, t2, t3, t4⟩ := r5 b hb
                have t4' : w.heap.size ≤ b := by
                  rcases t4 with t4 | ⟨t4, _⟩
                  · exact t4
                  · rw [hal] at t4; cases t4
                refine ⟨⟨t1, fun id hm => ?_⟩, fun _ => ?_⟩
                · by_cases hi : id ∈ ids
                  · rcases (o4 id hi b hm).2 with ⟨_, q⟩ | ⟨id2, _, q⟩
                    · exact t3 q
                    · have := (c.lt id2 b q).1; omega
                  · rw [o1 id hi] at hm
                    have := (c.lt id b hm).1; omega
                · rw [St.put_bs]; exact c.bsle b (Nat.le_trans c.grow t4')
            · cases hf
          · cases hf
        · cases hf
    · cases hf
  · cases hf
end
end Go.Own
