/-
  Own calculus, part P: assignments, boxes, stores. Conditions: as each theorem states them.
-/
import Derived.Test.YtmfieiphcjenlaaOwnO
namespace Go.Own
open Go
set_option linter.unusedVariables false
set_option linter.unusedSimpArgs false

section
variable {X : Ctx} {T : Tabs} {own own' : Id → List Nat} {s s' : St} {w : World} {a : Act} {ρ : Operand → AV} {h : Heap}
variable {dst : Option Nat} {type : TypeId} {pos : String} {after : Array Edge} {guard : Option (Nat × Bool)} {p : Prop} {v : AV} {d : Nat} {fresh im : Bool} {us : List (Id × Ob)}

theorem updO_append (g : Id → Ob) : ∀ (us vs : List (Id × Ob)), updO g (us ++ vs) = updO (updO g us) vs
  | [], _ => rfl
  | (k, o) :: us, vs => by simp only [List.cons_append, updO]; exact updO_append _ us vs

theorem put_put_none (s : St) (dst : Option Nat) (v : AV) (us vs : List (Id × Ob)) : (s.put none .unk us).put dst v vs = s.put dst v (us ++ vs) := by
  cases dst <;> simp only [St.put, updO_append]

/-- What is made an object of, is fresh until then. -/
def Mats (own : Id → List Nat) (h : Heap) (s : St) (us : List (Id × Ob)) : Prop := (us.map (·.1)).Nodup ∧ ∀ q ∈ us, s.sl q.1.1 ≠ .any ∧ s.ob q.1 = .none ∧ ∃ sz l dp, q.2 = .arr sz l dp

theorem Mats.look (m : Mats own h s us) (id : Id) : (updO s.ob us id = s.ob id) ∨ (s.ob id = .none ∧ ∃ sz l dp, updO s.ob us id = .arr sz l dp) := by
  by_cases hid : id ∈ us.map (·.1)
  · obtain ⟨q, hq, rfl⟩ := List.mem_map.1 hid
    obtain ⟨h1, h2, sz, l, dp, h3⟩ := m.2 q hq
    exact .inr ⟨h2, sz, l, dp, by rw [← h3]; exact updO_get m.1 _ q.1 q.2 hq⟩
  · exact .inl (updO_none _ _ hid)

theorem Mats.keeps (m : Mats own h s us) : Keeps own own h h s (s.put none .unk us) := by
  refine ⟨rfl, fun b hb => ⟨hb, rfl⟩, fun r hr => hr, fun id hid => ?_⟩
  show Trans own own h h id (s.ob id) (updO s.ob us id)
  rcases m.look id with h1 | ⟨h1, sz, l, dp, h2⟩
  · rw [h1]; exact .same _ rfl fun _ _ => rfl
  · rw [h1, h2]; exact .mat sz l dp

theorem Mats.conc (m : Mats own w.heap s us) (c : ConcO X own s a w) : ConcO X own (s.put none .unk us) a w := by
  have := c.turn (d := none) (av := .unk) (v := undef) (us := us) m.keeps rfl rfl rfl (Nat.le_refl _) (fun x hx => by cases hx) c.lt c.nodup c.disj (fun id => ?_) trivial
  · exact this
  · show ObOK own w.heap _ id (updO s.ob us id)
    rcases m.look id with h1 | ⟨_, sz, l, dp, h2⟩
    · exact ObOK.keep (s := s) m.keeps (by show updO s.ob us id = _; exact h1) rfl (fun _ _ => rfl) (c.obs id)
    · rw [h2]; trivial

theorem matCells_ok : ∀ {cs cs' : List Cell} {us : List (Id × Ob)} {vs : List Value}, matCells s.ob cs = some (cs', us) → CellsOK own h s cs vs →
    (∀ q ∈ us, s.sl q.1.1 ≠ .any ∧ s.ob q.1 = .none ∧ ∃ sz l dp, q.2 = .arr sz l dp) ∧
    ∀ us', (∀ q ∈ us, q ∈ us') → Mats own h s us' → CellsOK own h (s.put none .unk us') cs' vs
  | [], cs', us, vs, hm, a => by
    simp only [matCells, Option.some.injEq, Prod.mk.injEq] at hm
    obtain ⟨rfl, rfl⟩ := hm
    cases a
    exact ⟨by simp, fun _ _ _ => .nil⟩
  | c :: cs, cs', us, vs, hm, a => by
    cases a with
    | @cons _ v _ vs a1 a2 =>
      have plain : ∀ {cs1 us1}, matCells s.ob cs = some (cs1, us1) → cs' = c :: cs1 → us = us1 → (∀ q ∈ us, s.sl q.1.1 ≠ .any ∧ s.ob q.1 = .none ∧ ∃ sz l dp, q.2 = .arr sz l dp) ∧
          ∀ us', (∀ q ∈ us, q ∈ us') → Mats own h s us' → CellsOK own h (s.put none .unk us') cs' (v :: vs) := fun hm1 h1 h2 => by
        subst h1; subst h2
        obtain ⟨g1, g2⟩ := matCells_ok hm1 a2
        exact ⟨g1, fun us' hu m => .cons (a1.keep m.keeps) (g2 us' hu m)⟩
      cases c with
      | fr id sz l dp =>
        simp only [matCells] at hm
        split at hm
        · rename_i cs1 us1 ho hm1
          simp only [Option.some.injEq, Prod.mk.injEq] at hm
          obtain ⟨rfl, rfl⟩ := hm
          obtain ⟨g1, g2⟩ := matCells_ok hm1 a2
          refine ⟨fun q hq => ?_, fun us' hu m => ?_⟩
          · rcases List.mem_cons.1 hq with rfl | hq
            · exact ⟨a1.2.1, ho, sz, l, dp, rfl⟩
            · exact g1 q hq
          · refine .cons ⟨a1.1, a1.2.1, ?_⟩ (g2 us' (fun q hq => hu q (by simp [hq])) m)
            have : (s.put none .unk us').ob id = .arr sz l dp := updO_get m.1 _ id _ (hu _ (by simp))
            rw [this]
            exact ArrOK.same (s := s) m.keeps rfl (fun _ _ => rfl) (a1.2.2 ho)
        · cases hm
      | _ =>
        simp only [matCells] at hm
        split at hm
        · rename_i hm1
          simp only [Option.some.injEq, Prod.mk.injEq] at hm
          exact plain hm1 hm.1.symm hm.2.symm
        · cases hm

theorem allCells_ok {f : List Cell → Option (List D)} (hf : ∀ cs ds vs, f cs = some ds → CellsOK own h s cs vs → ds.length = cs.length ∧ ∃ F, Reps h ds vs F ∧ ∀ b ∈ F, Imm own h b) : ∀ {els : List (List Cell)} {l : List (List D)} {vs : List Value}, allCells f els = some l → CellsOK own h s els.flatten vs →
    l.length = els.length ∧ (∀ sz, (∀ x ∈ els, x.length = sz) → ∀ x ∈ l, x.length = sz) ∧ ∃ F, Reps h l.flatten vs F ∧ ∀ b ∈ F, Imm own h b
  | [], l, vs, hl, a => by
    simp only [allCells, Option.some.injEq] at hl
    subst hl
    cases a
    exact ⟨rfl, by simp, [], .nil, by simp⟩
  | c :: els, l, vs, hl, a => by
    simp only [allCells] at hl
    split at hl
    · rename_i x l' h1 h2
      simp only [Option.some.injEq] at hl
      subst hl
      simp only [List.flatten_cons] at a
      have a1 := All2.take a c.length
      have a2 := All2.drop a c.length
      rw [List.take_left] at a1
      rw [List.drop_left] at a2
      obtain ⟨g1, F, g2, g3⟩ := hf c x _ h1 a1
      obtain ⟨k1, k2, G, k3, k4⟩ := allCells_ok hf h2 a2
      refine ⟨by simp [k1], fun sz hs y hy => ?_, F ++ G, ?_, fun b hb => ?_⟩
      · rcases List.mem_cons.1 hy with rfl | hy
        · rw [g1]; exact hs c (by simp)
        · exact k2 sz (fun z hz => hs z (by simp [hz])) y hy
      · have := RepsW.append g2 k3
        rw [List.take_append_drop] at this
        simpa using this
      · rcases List.mem_append.1 hb with hb | hb
        · exact g3 b hb
        · exact k4 b hb
    · cases hl

theorem scalCells_ok {W : Bool} : ∀ {cs : List Cell} {ds : List D} {vs : List Value}, scalCells cs = some ds → CellsOK own h s cs vs → ds.length = cs.length ∧ (∀ x ∈ ds, Scalar x) ∧ RepsW W h ds vs []
  | [], ds, vs, hc, a => by
    simp only [scalCells, Option.some.injEq] at hc
    subst hc
    cases a
    exact ⟨rfl, by simp, .nil⟩
  | c :: cs, ds, vs, hc, a => by
    simp only [scalCells] at hc
    split at hc
    · rename_i x l h1 h2
      simp only [Option.some.injEq] at hc
      subst hc
      cases a with
      | cons a1 a2 =>
        obtain ⟨g1, g2, g3⟩ := scalCells_ok h2 a2
        cases c with
        | d y =>
          cases y with
          | v z =>
            simp only [scalCell, Option.some.injEq] at h1
            subst h1
            have := v_of_d a1
            have ho := CellOK.one a1
            subst this
            exact ⟨by simp [g1], fun x hx => by rcases List.mem_cons.1 hx with rfl | hx; trivial; exact g2 x hx, .v ho g3⟩
          | sl => simp [scalCell] at h1
        | _ => simp [scalCell] at h1
    · cases hc

theorem immCells_ok : ∀ {cs : List Cell} {ds : List D} {vs : List Value}, immCells cs = some ds → CellsOK own h s cs vs → ds.length = cs.length ∧ ∃ F, Reps h ds vs F ∧ ∀ b ∈ F, Imm own h b
  | [], ds, vs, hc, a => by
    simp only [immCells, Option.some.injEq] at hc
    subst hc
    cases a
    exact ⟨rfl, [], .nil, by simp⟩
  | c :: cs, ds, vs, hc, a => by
    simp only [immCells] at hc
    split at hc
    · rename_i x l h1 h2
      simp only [Option.some.injEq] at hc
      subst hc
      cases a with
      | @cons _ v _ vs a1 a2 =>
        obtain ⟨g1, G, g2, g3⟩ := immCells_ok h2 a2
        have : ∃ F, Reps h [x] [v] F ∧ ∀ b ∈ F, Imm own h b := by
          cases c with
          | d y => simp only [immCell, Option.some.injEq] at h1; subst h1; exact a1
          | n y => simp only [immCell, Option.some.injEq] at h1; subst h1; obtain ⟨F, r, hF⟩ := a1; exact ⟨F, r, fun b hb => (hF b hb).1⟩
          | _ => simp [immCell] at h1
        obtain ⟨F, f1, f2⟩ := this
        refine ⟨by simp [g1], F ++ G, f1.cons g2, fun b hb => ?_⟩
        rcases List.mem_append.1 hb with hb | hb
        · exact f2 b hb
        · exact g3 b hb
    · cases hc

theorem lit_arr {id : Id} {sz : Nat} {els : List (List Cell)} {u : Value} (hb : LitB own h s id sz els u) {l : List (List D)} {dp : Nat} (hl : l.length = els.length) (hs : ∀ x ∈ l, x.length = sz)
    (hr : ∀ c : List Value, CellsOK own h s els.flatten c → ∃ F, RepsW (dp != 0) h l.flatten c F ∧ (∀ b ∈ F, Imm own h b) ∧ (dp ≠ 0 → F = [])) : ArrOK own h id sz l dp u := by
  obtain ⟨b, c, e, g1, g2, g3, g4, g5, g6, g7⟩ := hb
  obtain ⟨F, f1, f2, f3⟩ := hr _ g7
  refine .inr ⟨b, els.length, by rw [hl]; exact g1, c, e, F, ?_, g3, by omega, g5, g4, hs, ?_, fun _ => f2⟩
  · rw [g2]
    by_cases h0 : dp = 0
    · simp [h0]
    · simp [h0, f3 h0]
  · have : l.length * sz = c.toList.length := by rw [hl]; simp; omega
    rw [this, List.take_length]
    exact f1

theorem matAV_ok {av av' : AV} {us : List (Id × Ob)} (hm : matAV s.ob av = some (av', us)) {u : Value} (a : AVOK own h s av u) : Mats own h s us ∧ AVOK own h (s.put none .unk us) av' u := by
  have m0 : Mats own h s [] := ⟨by simp, by simp⟩
  unfold matAV at hm
  split at hm
  · rename_i id sz l dp
    split at hm
    · rename_i ho
      simp only [Option.some.injEq, Prod.mk.injEq] at hm
      obtain ⟨rfl, rfl⟩ := hm
      have m : Mats own h s [(id, .arr sz l dp)] := ⟨by simp, fun q hq => by simp at hq; subst hq; exact ⟨a.2.1, ho, sz, l, dp, rfl⟩⟩
      refine ⟨m, a.1, a.2.1, ?_⟩
      have : (s.put none .unk [(id, .arr sz l dp)]).ob id = .arr sz l dp := updO_get m.1 _ id _ (by simp)
      rw [this]
      exact ArrOK.same (s := s) m.keeps rfl (fun _ _ => rfl) (a.2.2 ho)
    · cases hm
  · simp only [Option.some.injEq, Prod.mk.injEq] at hm
    obtain ⟨rfl, rfl⟩ := hm
    exact ⟨m0, AVOK.keep m0.keeps a⟩
  · split at hm
    · rename_i cs us1 hm1
      split at hm
      · rename_i hnd
        simp only [Option.some.injEq, Prod.mk.injEq] at hm
        obtain ⟨rfl, rfl⟩ := hm
        obtain ⟨vs, rfl, hc⟩ := a
        obtain ⟨g1, g2⟩ := matCells_ok hm1 hc
        have m : Mats own h s us1 := ⟨hnd, g1⟩
        exact ⟨m, vs, rfl, g2 us1 (fun _ hq => hq) m⟩
      · cases hm
    · cases hm
  · rename_i id sz els
    split at hm
    · rename_i ho
      have fin : ∀ {l dp}, av' = .one (.osl id) → us = [(id, .arr sz l dp)] → ArrOK own h id sz l dp u → Mats own h s us ∧ AVOK own h (s.put none .unk us) av' u := fun {l dp} e1 e2 ha => by
        subst e1; subst e2
        have m : Mats own h s [(id, .arr sz l dp)] := ⟨by simp, fun q hq => by simp at hq; subst hq; exact ⟨a.1, ho, sz, l, dp, rfl⟩⟩
        refine ⟨m, ?_, a.1, ?_⟩
        · obtain ⟨b, c, e, g1, _⟩ := a.2 ho; rw [g1]; rfl
        · have : (s.put none .unk [(id, .arr sz l dp)]).ob id = .arr sz l dp := updO_get m.1 _ id _ (by simp)
          rw [this]
          exact ArrOK.same (s := s) m.keeps rfl (fun _ _ => rfl) ha
      have hlit := a.2 ho
      split at hm
      · rename_i l hl
        simp only [Option.some.injEq, Prod.mk.injEq] at hm
        refine fin hm.1.symm hm.2.symm (lit_arr hlit ?_ ?_ fun c hc => ?_)
        · obtain ⟨b, c, e, _, _, _, _, _, _, g7⟩ := hlit
          exact (allCells_ok (fun cs ds vs h1 h2 => ⟨(scalCells_ok (W := false) h1 h2).1, [], (scalCells_ok h1 h2).2.2, by simp⟩) hl g7).1
        · obtain ⟨b, c, e, _, _, _, _, _, g6, g7⟩ := hlit
          exact (allCells_ok (fun cs ds vs h1 h2 => ⟨(scalCells_ok (W := false) h1 h2).1, [], (scalCells_ok h1 h2).2.2, by simp⟩) hl g7).2.1 sz g6
        · have key : ∀ {els : List (List Cell)} {l : List (List D)} {vs : List Value}, allCells scalCells els = some l → CellsOK own h s els.flatten vs → RepsW (1 != 0) h l.flatten vs [] := by
            intro els
            induction els with
            | nil => intro l vs h1 h2; simp only [allCells, Option.some.injEq] at h1; subst h1; cases h2; exact .nil
            | cons c els ih =>
              intro l vs h1 h2
              simp only [allCells] at h1
              split at h1
              · rename_i x l' e1 e2
                simp only [Option.some.injEq] at h1
                subst h1
                simp only [List.flatten_cons] at h2
                have a1 := All2.take h2 c.length
                have a2 := All2.drop h2 c.length
                rw [List.take_left] at a1
                rw [List.drop_left] at a2
                have := RepsW.append (scalCells_ok e1 a1).2.2 (ih e2 a2)
                rw [List.take_append_drop] at this
                simpa using this
              · cases h1
          exact ⟨[], key hl hc, by simp, fun _ => rfl⟩
      · split at hm
        · rename_i l hl
          simp only [Option.some.injEq, Prod.mk.injEq] at hm
          refine fin hm.1.symm hm.2.symm (lit_arr hlit ?_ ?_ fun c hc => ?_)
          · obtain ⟨b, c, e, _, _, _, _, _, _, g7⟩ := hlit
            exact (allCells_ok (fun cs ds vs h1 h2 => immCells_ok h1 h2) hl g7).1
          · obtain ⟨b, c, e, _, _, _, _, _, g6, g7⟩ := hlit
            exact (allCells_ok (fun cs ds vs h1 h2 => immCells_ok h1 h2) hl g7).2.1 sz g6
          · obtain ⟨_, _, F, f1, f2⟩ := allCells_ok (fun cs ds vs h1 h2 => immCells_ok h1 h2) hl hc
            exact ⟨F, f1, f2, fun h0 => absurd rfl h0⟩
        · cases hm
    · cases hm
  · cases hm

theorem M_assign {x : Operand} (c : ConcO X own s a w) (hd : ∀ x, dst = some x → X.dok x = true) (hx : AVOK own w.heap s (ρ x) (a.eval x)) (hf : opM T d ρ s.ob fresh (.assign x) = some (p, v, us)) :
    Does X s a w ⟨dst, .assign x, type, pos, after, guard⟩ v us := by
  unfold opM at hf
  dsimp only at hf
  split at hf
  · cases hf
  split at hf
  · rename_i v' us' hm
    simp only [Option.some.injEq, Prod.mk.injEq] at hf
    obtain ⟨_, rfl, rfl⟩ := hf
    obtain ⟨m, ha⟩ := matAV_ok hm hx
    refine Does.of_value (own' := own) (u := a.eval x) (w' := w) rfl ?_
    have := (m.conc c).pure (w' := w) rfl rfl rfl rfl hd ha
    rw [put_put_none, List.append_nil] at this
    exact this
  · split at hf
    · cases hf
    · cases hf
    · cases hf
    · cases hf
    · simp only [Option.some.injEq, Prod.mk.injEq] at hf
      obtain ⟨_, rfl, rfl⟩ := hf
      exact Does.of_value (own' := own) (u := a.eval x) (w' := w) rfl (c.pure rfl rfl rfl rfl hd hx)

theorem M_box {t : TypeId} {x : Operand} (hty : ∀ t y, T.ty t = some y → TyOK X.P t y) (c : ConcO X own s a w) (hd : ∀ x, dst = some x → X.dok x = true) (hdd : d = dst.getD 0) (hfr : fresh = true → freshAt s dst = true) (hx : AVOK own w.heap s (ρ x) (a.eval x))
    (hf : opM T d ρ s.ob fresh (.box t x) = some (p, v, us)) (hp : p) : Does X s a w ⟨dst, .box t x, type, pos, after, guard⟩ v us := by
  unfold opM at hf
  dsimp only at hf
  split at hf
  · rename_i y v' us' hy hm
    split at hf
    · rename_i cs hcs
      split at hf
      · rename_i hlen
        simp only [Option.some.injEq, Prod.mk.injEq] at hf
        obtain ⟨rfl, rfl, rfl⟩ := hf
        obtain ⟨dd, rfl, hfs⟩ := freshAt_ok (hfr hp)
        obtain rfl : d = dd := hdd
        obtain ⟨m, ha⟩ := matAV_ok hm hx
        have c1 := m.conc c
        have hcells := avCells_ok hcs ha
        have hfs1 : Fresh (s.put none .unk us') d := ⟨hfs.row, fun k hk => by
          show updO s.ob us' (d, k) = .none
          rcases m.look (d, k) with h1 | ⟨_, sz, l, dp, h2⟩
          · rw [h1]; exact hfs.ob k hk
          · exfalso
            by_cases hid : ((d, k) : Id) ∈ us'.map (·.1)
            · obtain ⟨q, hq, hqe⟩ := List.mem_map.1 hid
              have := (m.2 q hq).1
              rw [hqe] at this
              exact this hfs.row
            · rw [updO_none _ _ hid, hfs.ob k hk] at h2; cases h2⟩
        refine Does.of_value (own' := ownNew own (d, 0) [w.heap.size]) (u := .pointer (some ⟨w.heap.size, 0, none⟩)) (w' := w.alloc (.cells (a.eval x).cells t)) rfl ?_
        have := c1.newObj (w' := w.alloc (.cells (a.eval x).cells t)) (av := .one (.bptr (d, 0) 0)) (u := .pointer (some ⟨w.heap.size, 0, none⟩)) (us := [((d, 0), .box cs)]) hfs1 (hd d rfl) rfl rfl rfl rfl
          (.inr ⟨_, rfl, fun k => ⟨w.heap.size, (a.eval x).cells, t, ownNew_same _ _, heap_alloc_new w _, CellsOK.keep k hcells⟩⟩) (fun k => ⟨St.put_dst _ d _ _, w.heap.size, rfl, by
            rw [St.put_ob]
            simp only [updO, if_true]
            exact ownNew_same _ _⟩)
        rw [put_put_none] at this
        exact this
      · cases hf
    · cases hf
  · cases hf

theorem M_alloc {t : TypeId} (hty : ∀ t y, T.ty t = some y → TyOK X.P t y) (c : ConcO X own s a w) (hd : ∀ x, dst = some x → X.dok x = true) (hdd : d = dst.getD 0) (hfr : fresh = true → freshAt s dst = true)
    (hf : opM T d ρ s.ob fresh (.alloc t) = some (p, v, us)) (hp : p) : Does X s a w ⟨dst, .alloc t, type, pos, after, guard⟩ v us := by
  unfold opM at hf
  dsimp only at hf
  split at hf
  · rename_i y hy
    simp only [Option.some.injEq, Prod.mk.injEq] at hf
    obtain ⟨rfl, rfl, rfl⟩ := hf
    obtain ⟨dd, rfl, hfs⟩ := freshAt_ok (hfr hp)
    obtain rfl : d = dd := hdd
    have hyo := hty t y hy
    obtain ⟨z, hz1, hz2⟩ := hyo.zeroV w
    refine Does.of_value (own' := ownNew own (d, 0) [w.heap.size]) (u := .pointer (some ⟨w.heap.size, 0, none⟩)) (w' := w.alloc (.cells z.cells t)) ?_ ?_
    · simp [execOp, Instr.alloc, hz1, newVar, newRow]
    · have hc : CellsOK own w.heap s (y.zero.map fun v => Cell.d (.v v)) z.cells.toList := by rw [hz2]; exact scal_cells hyo.2.2.1
      exact c.newObj (w' := w.alloc (.cells z.cells t)) hfs (hd d rfl) rfl rfl rfl rfl (.inr ⟨_, rfl, fun k => ⟨w.heap.size, z.cells, t, ownNew_same _ _, heap_alloc_new w _, CellsOK.keep k hc⟩⟩) (fun k => ⟨St.put_dst _ d _ _, w.heap.size, rfl, by
            rw [St.put_ob]
            simp only [updO, if_true]
            exact ownNew_same _ _⟩)
  · cases hf
end

end Go.Own
