/-
  Own calculus, part L: slices of slices, struct parts, new memory ('make', a literal row). Conditions: as each theorem states them.
-/
import Derived.Test.YtmfieiphcjenlaaOwnK
import Derived.Laws.MakeOwn
namespace Go.Own
open Go
set_option linter.unusedVariables false
set_option linter.unusedSimpArgs false

section
variable {X : Ctx} {T : Tabs} {own : Id → List Nat} {s : St} {w : World} {a : Act} {ρ : Operand → AV}
variable {dst : Option Nat} {type : TypeId} {pos : String} {after : Array Edge} {guard : Option (Nat × Bool)} {p : Prop} {v : AV} {d : Nat} {fresh im : Bool}

/-- A part of a reading. -/
theorem Reps.sub {h : Heap} {sz : Nat} {l : List (List D)} {off : Nat} {c : Array Value} {G : List Nat} (hs : ∀ x ∈ l, x.length = sz)
    (r : Reps h l.flatten ((c.toList.drop off).take (l.length * sz)) G) {lo hi : Nat} (h1 : lo ≤ hi) (h2 : hi ≤ l.length) :
    ∃ G', (∀ b ∈ G', b ∈ G) ∧ Reps h ((l.take hi).drop lo).flatten ((c.toList.drop (off + lo * sz)).take ((hi - lo) * sz)) G' := by
  have e1 : l = l.take lo ++ ((l.take hi).drop lo ++ l.drop hi) := by
    have : l.take hi = l.take lo ++ (l.take hi).drop lo := by
      conv => lhs; rw [← List.take_append_drop lo (l.take hi)]
      rw [List.take_take, Nat.min_eq_left h1]
    rw [← List.append_assoc, ← this, List.take_append_drop]
  have f1 : (l.take lo).flatten.length = lo * sz := by rw [flatten_len _ sz (fun x hx => hs x (List.mem_of_mem_take hx)), List.length_take, Nat.min_eq_left (by omega)]
  have f2 : ((l.take hi).drop lo).flatten.length = (hi - lo) * sz := by
    rw [flatten_len _ sz (fun x hx => hs x (List.mem_of_mem_take (List.mem_of_mem_drop hx))), List.length_drop, List.length_take, Nat.min_eq_left h2]
  have e2 : l.flatten = (l.take lo).flatten ++ (((l.take hi).drop lo).flatten ++ (l.drop hi).flatten) := by
    conv => lhs; rw [e1]
    rw [List.flatten_append, List.flatten_append]
  rw [e2] at r
  obtain ⟨v1, v2, F1, F2, hv, hF, r1, r2⟩ := RepsW.split _ _ r
  obtain ⟨v3, v4, F3, F4, hv', hF', r3, r4⟩ := RepsW.split _ _ r2
  refine ⟨F3, fun b hb => by simp [hF, hF', hb], ?_⟩
  have l1 : v1.length = lo * sz := by rw [← r1.length, f1]
  have l3 : v3.length = (hi - lo) * sz := by rw [← r3.length, f2]
  have : v3 = (c.toList.drop (off + lo * sz)).take ((hi - lo) * sz) := by
    have g1 : ((c.toList.drop off).take (l.length * sz)).drop (lo * sz) = v3 ++ v4 := by rw [hv, hv', ← l1, List.drop_left]
    have g2 : (((c.toList.drop off).take (l.length * sz)).drop (lo * sz)).take ((hi - lo) * sz) = v3 := by rw [g1, ← l3, List.take_left]
    rw [← g2, List.drop_take, List.take_take, List.drop_drop]
    congr 1
    have : (hi - lo) * sz ≤ l.length * sz - lo * sz := by
      rw [← Nat.sub_mul]; exact Nat.mul_le_mul_right _ (by omega)
    omega
  rw [← this]
  exact r3

theorem asNat_ok {x : Option Operand} {r : Option Int} (h : asNat ρ x = some r) {hp : Heap} (hx : ∀ y ∈ x.toList, AVOK own hp s (ρ y) (a.eval y)) :
    (x = none ∧ r = none) ∨ ∃ y k n, x = some y ∧ r = some n ∧ a.eval y = .int k n := by
  cases x with
  | none => simp only [asNat, Option.some.injEq] at h; exact .inl ⟨rfl, h.symm⟩
  | some y =>
    simp only [asNat] at h
    split at h
    · rename_i k n e
      simp only [Option.some.injEq] at h
      have := hx y (by simp)
      rw [e] at this
      exact .inr ⟨y, k, n, rfl, h.symm, v_of_av this⟩
    · cases h

theorem sliceBounds_ok {P : Program} {isS : Bool} {len cap : Nat} (hlc : len ≤ cap) {lo hi : Option Operand} {l h : Option Int} (hl : (lo = none ∧ l = none) ∨ ∃ y k n, lo = some y ∧ l = some n ∧ a.eval y = .int k n)
    (hh : (hi = none ∧ h = none) ∨ ∃ y k n, hi = some y ∧ h = some n ∧ a.eval y = .int k n) (h0 : 0 ≤ l.getD 0) (h1 : l.getD 0 ≤ h.getD len) (h2 : h.getD len ≤ len) :
    (Instr.sliceBounds isS len cap (lo.map a.eval) (hi.map a.eval) none).run P w = .ok ((l.getD 0).toNat, (h.getD len).toNat, cap) w := by
  have b : ∀ (k : IntKind) (n : Int) (y : Nat) (code : BoundsCode), 0 ≤ n → n ≤ y → (Instr.sliceBound (.int k n) y code).run P w = .ok n.toNat w := fun k n y code g1 g2 => by
    simp [Instr.sliceBound, asIntOf, g1, g2]
  rcases hh with ⟨rfl, rfl⟩ | ⟨y, k, n, rfl, rfl, he⟩
  · rcases hl with ⟨rfl, rfl⟩ | ⟨y', k', n', rfl, rfl, he'⟩
    · simp [Instr.sliceBounds]
    · simp only [Option.getD_some, Option.getD_none] at h0 h1 h2
      simp [Instr.sliceBounds, he', b k' n' len _ h0 h1]
  · rcases hl with ⟨rfl, rfl⟩ | ⟨y', k', n', rfl, rfl, he'⟩
    · simp only [Option.getD_some, Option.getD_none] at h0 h1 h2
      simp [Instr.sliceBounds, he, b k n cap _ h1 (by omega)]
    · simp only [Option.getD_some] at h0 h1 h2
      have hn : n = (n.toNat : Int) := by omega
      simp [Instr.sliceBounds, he, b k n cap _ (by omega) (by omega), he', b k' n' n.toNat _ h0 (by omega)]

theorem slice_data {P : Program} {sz : Nat} {e : TypeId} {y : TyI} {t : TypeId} (hu : P.underlying t = some (.slice e)) (hye : TyOK P e y) (hsz : y.size = sz) {l : List (List D)} {lo hi : Option Operand} {lo' hi' : Option Int}
    (hl : (lo = none ∧ lo' = none) ∨ ∃ y k n, lo = some y ∧ lo' = some n ∧ a.eval y = .int k n) (hh : (hi = none ∧ hi' = none) ∨ ∃ y k n, hi = some y ∧ hi' = some n ∧ a.eval y = .int k n)
    (h0 : 0 ≤ lo'.getD 0) (h1 : lo'.getD 0 ≤ hi'.getD l.length) (h2 : hi'.getD l.length ≤ l.length) {v : Value} {F} (r : Reps w.heap [.sl sz l] [v] F) :
    ∃ u F', (Instr.sliceAt t v (lo.map a.eval) (hi.map a.eval) none).run P w = .ok u w ∧ Reps w.heap [.sl sz ((l.take (hi'.getD l.length).toNat).drop (lo'.getD 0).toNat)] [u] F' ∧ ∀ b ∈ F', b ∈ F := by
  rcases r.sl_inv with ⟨a0, rfl, rfl, rfl⟩ | ⟨b, off, cap, c, ee, fz, G, rfl, a1, a2, a3, a4, a5, a6, rfl⟩
  · simp only [List.length_nil, Int.natCast_zero] at h1 h2
    have hz1 : hi'.getD 0 = 0 := by have := h1; have := h2; simp at *; omega
    have hz2 : lo'.getD 0 = 0 := by have := h1; simp at *; omega
    have hb := sliceBounds_ok (P := P) (w := w) (a := a) (isS := true) (len := 0) (cap := 0) (Nat.le_refl _) hl hh h0 (by simpa using h1) (by simpa using h2)
    refine ⟨.slice a0 0 0, [], ?_, ?_, by simp⟩
    · cases a0 <;> simp [Instr.sliceAt, Instr.slice, run_underlying hu, hb, hye.size, hz1, hz2]
    · simpa using (RepsW.none (fun h => nomatch h) .nil : Reps w.heap [.sl sz []] [.slice a0 0 0] [])
  · have hb := sliceBounds_ok (P := P) (w := w) (a := a) (isS := true) (len := l.length) (cap := cap) a2 hl hh h0 h1 h2
    obtain ⟨lo2, e2⟩ : ∃ n, (lo'.getD 0).toNat = n := ⟨_, rfl⟩
    obtain ⟨hi2, e3⟩ : ∃ n, (hi'.getD l.length).toNat = n := ⟨_, rfl⟩
    have hle : lo2 ≤ hi2 := by omega
    have hhl : hi2 ≤ l.length := by omega
    rw [e2, e3] at hb ⊢
    obtain ⟨G', g1, g2⟩ := Reps.sub a5 a6 hle hhl
    have hlen : ((l.take hi2).drop lo2).length = hi2 - lo2 := by simp; omega
    have hrun : (Instr.sliceAt t (.slice (some ⟨b, off, none⟩) l.length cap) (lo.map a.eval) (hi.map a.eval) none).run P w =
        .ok (.slice (if cap = lo2 then some ⟨b, off, none⟩ else some ⟨b, off + lo2 * sz, none⟩) (hi2 - lo2) (cap - lo2)) w := by
      simp only [Instr.sliceAt, Instr.slice, Sem.run_bind, run_underlying hu, Result.andThen_ok, hb, hye.size, hsz, Sem.run_pure]
      split <;> simp [add_off]
    refine ⟨_, b :: G', hrun, ?_, fun x hx => by rcases List.mem_cons.1 hx with rfl | hx; simp; simp [g1 x hx]⟩
    by_cases hc : cap = lo2
    · have : hi2 - lo2 = 0 := by omega
      have hnil : (l.take hi2).drop lo2 = [] := List.eq_nil_of_length_eq_zero (by omega)
      have r0 : Reps w.heap [.sl sz ([] : List (List D))] [.slice (some ⟨b, off, none⟩) ([] : List (List D)).length (cap - lo2)] (b :: ([] ++ [])) :=
        .sl (fun h => nomatch h) a1 (by simp) (by omega) (by simp; omega) (by simp) (by simpa using RepsW.nil) .nil
      rw [hnil, if_pos hc, this]
      have r1 : Reps w.heap [.sl sz ([] : List (List D))] [.slice (some ⟨b, off, none⟩) 0 (cap - lo2)] [b] := by simpa using r0
      have hG : G' = [] := by rw [hnil, this] at g2; simp at g2; cases g2; rfl
      rw [hG]; exact r1
    · rw [if_neg hc]
      have := RepsW.sl (W := false) (fz := fz) (c := c) (e := ee) (h := w.heap) (ds := []) (vs := []) (F := []) (s := sz) (l := (l.take hi2).drop lo2) (b := b) (off := off + lo2 * sz) (cap := cap - lo2) (G := G') (fun h => nomatch h) a1 (by omega) (by omega)
        (by
          rw [hlen]
          have : lo2 * sz + (hi2 - lo2) * sz = hi2 * sz := by rw [← Nat.add_mul]; congr 1; omega
          have : hi2 * sz ≤ l.length * sz := Nat.mul_le_mul_right _ hhl
          omega)
        (fun x hx => a5 x (List.mem_of_mem_take (List.mem_of_mem_drop hx))) (by rw [hlen]; exact g2) .nil
      rw [hlen] at this
      simpa using this

theorem R_slice {t : TypeId} {x : Operand} {lo hi mx : Option Operand} (hty : ∀ t y, T.ty t = some y → TyOK X.P t y) (hx : AVOK own w.heap s (ρ x) (a.eval x)) (hlo : ∀ y ∈ lo.toList, AVOK own w.heap s (ρ y) (a.eval y))
    (hhi : ∀ y ∈ hi.toList, AVOK own w.heap s (ρ y) (a.eval y)) (hf : opR T d ρ s.ob fresh im (.slice t x lo hi mx) = some (p, v)) (hp : p) :
    Computes X.P own w.heap s ⟨dst, .slice t x lo hi mx, type, pos, after, guard⟩ a.eval w v := by
  unfold opR at hf
  dsimp only at hf
  split at hf
  · rename_i l h hyt e1 e2
    have hu := (hty t _ hyt).2.2.2.2
    simp only at hu
    have hl := asNat_ok e1 hlo
    have hh := asNat_ok e2 hhi
    split at hf
    · rename_i b e3
      simp only [Option.some.injEq, Prod.mk.injEq] at hf
      obtain ⟨rfl, rfl⟩ := hf
      rw [e3] at hx
      have hb := sliceBounds_ok (P := X.P) (w := w) (a := a) (isS := false) (len := b.size) (cap := b.size) (Nat.le_refl _) hl hh hp.1 hp.2.1 hp.2.2
      refine ⟨_, ?_, av_of_v _ rfl⟩
      simp [execOp, v_of_av hx, Instr.sliceAt, Instr.slice, run_underlying hu.1, hb]
    · cases hf
  · rename_i e l h hyt e1 e2
    have hu := (hty t _ hyt).2.2.2.2
    simp only at hu
    have hl := asNat_ok e1 hlo
    have hh := asNat_ok e2 hhi
    split at hf
    · rename_i y sz m hye e3
      simp only [Option.some.injEq, Prod.mk.injEq] at hf
      obtain ⟨rfl, rfl⟩ := hf
      rw [e3] at hx
      obtain ⟨F, r, hF⟩ := hx
      obtain ⟨u, F', g1, g2, g3⟩ := slice_data (w := w) hu.1 (hty _ y hye) hp.1 hl hh hp.2.1 hp.2.2.1 hp.2.2.2 r
      exact ⟨u, by simp only [execOp, Option.map_none, Sem.run_bind, g1, Result.andThen_ok, Sem.run_pure], F', g2, fun b hb => hF b (g3 b hb)⟩
    · rename_i y sz m hye e3
      simp only [Option.some.injEq, Prod.mk.injEq] at hf
      obtain ⟨rfl, rfl⟩ := hf
      rw [e3] at hx
      obtain ⟨F, r, hF⟩ := hx
      obtain ⟨u, F', g1, g2, g3⟩ := slice_data (w := w) hu.1 (hty _ y hye) hp.1 hl hh hp.2.1 hp.2.2.1 hp.2.2.2 r
      exact ⟨u, by simp only [execOp, Option.map_none, Sem.run_bind, g1, Result.andThen_ok, Sem.run_pure], F', g2, fun b hb => hF b (g3 b hb)⟩
    · cases hf
  · cases hf

theorem P_field {h : Heap} {t : TypeId} {x : Operand} {f : Nat} {ev : Operand → Value} (hty : ∀ t y, T.ty t = some y → TyOK X.P t y) (hx : AVOK own h s (ρ x) (ev x)) (hf : opP T ρ (.field t x f) = some (p, v)) :
    Computes X.P own h s ⟨dst, .field t x f, type, pos, after, guard⟩ ev w v := by
  unfold opP at hf
  dsimp only at hf
  split at hf
  · rename_i off ft cs e1 e2
    split at hf
    · rename_i y hy
      split at hf
      · rename_i av hav
        simp only [Option.some.injEq, Prod.mk.injEq] at hf
        obtain ⟨rfl, rfl⟩ := hf
        obtain ⟨F, h1, fd, h2, h3, h4⟩ := fieldOf_ok hty e1
        rw [e2] at hx
        obtain ⟨vs, hv, hc⟩ := hx
        obtain ⟨u, g1, g2⟩ := run_part (hty ft y hy) hav hc w
        refine ⟨u, ?_, g2⟩
        have : vs = vs.toList.toArray := by simp
        rw [this] at hv
        rw [← h4, ← h3] at g1
        simp only [execOp, hv, Instr.field, asAgg, Sem.run_bind, run_underlying h1, Result.andThen_ok, h2, Sem.run_pure, h3, h4] at g1 ⊢
        rw [g1]
        rfl
      · cases hf
    · cases hf
  · cases hf

theorem P_extract {h : Heap} {x : Operand} {i : Nat} {ev : Operand → Value} (hx : AVOK own h s (ρ x) (ev x)) (hf : opP T ρ (.extract x i) = some (p, v)) :
    Computes X.P own h s ⟨dst, .extract x i, type, pos, after, guard⟩ ev w v := by
  unfold opP at hf
  dsimp only at hf
  split at hf
  · rename_i ps e1
    rw [e1] at hx
    obtain ⟨vs, hv, hc⟩ := hx
    split at hf
    · rename_i cs hi
      simp only [Option.some.injEq, Prod.mk.injEq] at hf
      obtain ⟨rfl, rfl⟩ := hf
      obtain ⟨u, g1, g2⟩ := All2.get hc i _ hi
      have g3 : vs[i]? = some u := by simpa using g1
      refine ⟨u, by simp [execOp, hv, Instr.extract, g3], ?_⟩
      simp only [PartOK, if_true] at g2
      exact g2
    · rename_i c hi
      simp only [Option.some.injEq, Prod.mk.injEq] at hf
      obtain ⟨rfl, rfl⟩ := hf
      obtain ⟨u, g1, g2⟩ := All2.get hc i _ hi
      have g3 : vs[i]? = some u := by simpa using g1
      refine ⟨u, by simp [execOp, hv, Instr.extract, g3], ?_⟩
      simp only [PartOK, Bool.false_eq_true, if_false] at g2
      obtain ⟨c', hc', g2⟩ := g2
      simp only [List.cons.injEq, and_true] at hc'
      subst hc'
      exact g2
    · cases hf
  · cases hf

theorem P_nilCheck {h : Heap} {x : Operand} {ev : Operand → Value} (hx : AVOK own h s (ρ x) (ev x)) (hf : opP T ρ (.nilCheck x) = some (p, v)) :
    Computes X.P own h s ⟨dst, .nilCheck x, type, pos, after, guard⟩ ev w v := by
  unfold opP at hf
  dsimp only at hf
  split at hf
  · rename_i id o e1
    simp only [Option.some.injEq, Prod.mk.injEq] at hf
    obtain ⟨rfl, rfl⟩ := hf
    rw [e1] at hx
    obtain ⟨b, hb, _⟩ := hx.2
    exact ⟨ev x, by simp [execOp, hb], hx⟩
  · rename_i ds e1
    simp only [Option.some.injEq, Prod.mk.injEq] at hf
    obtain ⟨rfl, rfl⟩ := hf
    rw [e1] at hx
    obtain ⟨b, off, c, e, fz, F, hb, _⟩ := id hx
    exact ⟨ev x, by simp [execOp, hb], hx⟩
  · cases hf

/-- What 'fresh' is good for. -/
structure Fresh (s : St) (d : Nat) : Prop where
  row : s.sl d = .any
  ob : ∀ k, k < 4 → s.ob (d, k) = .none

theorem freshAt_ok {o : Option Nat} (h : freshAt s o = true) : ∃ d, o = some d ∧ Fresh s d := by
  cases o with
  | none => cases h
  | some d =>
    simp only [freshAt, Bool.and_eq_true] at h
    obtain ⟨⟨⟨⟨h1, h2⟩, h3⟩, h4⟩, h5⟩ := h
    have f : ∀ {x : Ob}, x.isNone = true → x = .none := fun {x} hx => by cases x <;> simp_all [Ob.isNone]
    refine ⟨d, rfl, ?_, fun k hk => ?_⟩
    · cases hs : s.sl d <;> simp_all [AV.isAny]
    · rcases k with _ | _ | _ | _ | k
      · exact f h2
      · exact f h3
      · exact f h4
      · exact f h5
      · omega

def ownNew (own : Id → List Nat) (id : Id) (l : List Nat) : Id → List Nat := fun i => if i = id then l else own i

theorem ownNew_same (id : Id) (l : List Nat) : ownNew own id l id = l := by simp [ownNew]
theorem ownNew_ne {id i : Id} (l : List Nat) (h : i ≠ id) : ownNew own id l i = own i := by simp [ownNew, h]

/-- A new block, owned under a fresh name. -/
theorem ConcO.newObj {w' : World} {cv : Array Value} {e : TypeId} {av : AV} {u : Value} {us : List (Id × Ob)} (c : ConcO X own s a w) (hfr : Fresh s d) (hd : X.dok d = true) (hw : w'.heap = w.heap.push (.cells cv e)) (ho : w'.os = w.os)
    (ht : w'.tape = w.tape) (hout : w'.output = w.output) (hus : us = [] ∨ ∃ o, us = [((d, 0), o)] ∧ ∀ k : Keeps own (ownNew own (d, 0) [w.heap.size]) w.heap w'.heap s (s.put (some d) av us), ObOK (ownNew own (d, 0) [w.heap.size]) w'.heap (s.put (some d) av us) (d, 0) o)
    (hv : ∀ k : Keeps own (ownNew own (d, 0) [w.heap.size]) w.heap w'.heap s (s.put (some d) av us), AVOK (ownNew own (d, 0) [w.heap.size]) w'.heap (s.put (some d) av us) av u) :
    ConcO X (ownNew own (d, 0) [w.heap.size]) (s.put (some d) av us) (a.put (some d) u) w' := by
  have hold : ∀ b, b < w.heap.size → w'.heap[b]? = w.heap[b]? := fun b hb => by rw [hw, Array.getElem?_push, if_neg (by omega)]
  have hsz : w'.heap.size = w.heap.size + 1 := by rw [hw]; simp
  have hob : ∀ id : Id, id ≠ (d, 0) → (s.put (some d) av us).ob id = s.ob id := fun id hid => by
    rw [St.put_ob]
    rcases hus with rfl | ⟨o, rfl, _⟩
    · rfl
    · simp [updO, hid]
  have hne : ∀ id : Id, s.sl id.1 ≠ .any → id ≠ (d, 0) := fun id h e => h (by rw [e]; exact hfr.row)
  have k : Keeps own (ownNew own (d, 0) [w.heap.size]) w.heap w'.heap s (s.put (some d) av us) := by
    refine ⟨St.put_bs _ _ _ _, fun b hb => ⟨⟨by have := hb.1; omega, fun id hm => ?_⟩, hold b hb.1⟩, St.put_row s (some d) av us, fun id hid => ?_⟩
    · by_cases hi : id = (d, 0)
      · subst hi; rw [ownNew_same] at hm; simp at hm; have := hb.1; omega
      · rw [ownNew_ne _ hi] at hm; exact hb.2 id hm
    · rw [hob id (hne id hid)]
      exact .same _ (ownNew_ne _ (hne id hid)) fun b hb => hold b (c.lt id b hb).1
  refine c.turn k ho ht hout (by omega) (fun x hx => by cases hx; exact hd) ?_ ?_ ?_ ?_ (hv k)
  · intro id b hb
    by_cases hi : id = (d, 0)
    · subst hi; rw [ownNew_same] at hb; simp at hb; subst hb
      exact ⟨by omega, .inl c.grow⟩
    · rw [ownNew_ne _ hi] at hb
      have := c.lt id b hb
      exact ⟨by omega, this.2⟩
  · intro id
    by_cases hi : id = (d, 0)
    · subst hi; rw [ownNew_same]; simp
    · rw [ownNew_ne _ hi]; exact c.nodup id
  · intro id id' b h1 h2
    by_cases hi : id = (d, 0)
    · by_cases hi' : id' = (d, 0)
      · rw [hi, hi']
      · exfalso
        subst hi
        rw [ownNew_same] at h1; simp at h1; subst h1
        rw [ownNew_ne _ hi'] at h2
        have := (c.lt id' _ h2).1; omega
    · by_cases hi' : id' = (d, 0)
      · exfalso
        subst hi'
        rw [ownNew_same] at h2; simp at h2; subst h2
        rw [ownNew_ne _ hi] at h1
        have := (c.lt id _ h1).1; omega
      · rw [ownNew_ne _ hi] at h1
        rw [ownNew_ne _ hi'] at h2
        exact c.disj id id' b h1 h2
  · intro id
    by_cases hi : id = (d, 0)
    · subst hi
      rcases hus with rfl | ⟨o, rfl, ho⟩
      · rw [St.put_ob, updO, hfr.ob 0 (by omega)]; trivial
      · have : (s.put (some d) av [((d, 0), o)]).ob (d, 0) = o := by rw [St.put_ob]; simp [updO]
        rw [this]; exact ho k
    · exact ObOK.keep k (hob id hi) (ownNew_ne _ hi) (fun b hb => hold b (c.lt id b hb).1) (c.obs id)

theorem scal_reps {W : Bool} {h : Heap} : ∀ {vs : List Value}, (∀ v ∈ vs, v.oneCell' = true) → RepsW W h (vs.map .v) vs []
  | [], _ => .nil
  | v :: vs, hv => .v (hv v (by simp)) (scal_reps fun x hx => hv x (by simp [hx]))

theorem made_take (z : List Value) (hz : 0 < z.length) (n m : Nat) (hn : n ≤ m) : (madeCells z.toArray (m * z.length)).toList.take (n * z.length) = (List.replicate n z).flatten := by
  apply List.ext_getElem?
  intro i
  by_cases hi : i < n * z.length
  · have him : i < m * z.length := Nat.lt_of_lt_of_le hi (Nat.mul_le_mul_right _ hn)
    rw [List.getElem?_take_of_lt hi]
    have e1 : (madeCells z.toArray (m * z.length)).toList[i]? = some (z.toArray[i % z.toArray.size]!) := by
      simp only [madeCells, Array.toList_map, List.getElem?_map, Array.toList_range, List.getElem?_range him, Option.map_some]
    rw [e1]
    have hq : i / z.length < n := Nat.div_lt_of_lt_mul (by rw [Nat.mul_comm]; exact hi)
    obtain ⟨h1, h2⟩ := flatten_at (List.replicate n z) z.length (i / z.length) (by intro x hx; rw [List.eq_of_mem_replicate hx]) (by simpa using hq)
    have hr : i % z.length < z.length := Nat.mod_lt _ hz
    have hdm : i = i / z.length * z.length + i % z.length := by rw [Nat.mul_comm]; exact (Nat.div_add_mod i z.length).symm
    rw [h1, List.getElem?_append_right (by rw [h2]; omega), h2]
    rw [List.getElem?_append_left (by simp; omega)]
    have : i - i / z.length * z.length = i % z.length := by omega
    rw [this]
    simp [hr]
  · have e2 : (List.replicate n z).flatten.length = n * z.length := by rw [flatten_len _ z.length (by intro x hx; rw [List.eq_of_mem_replicate hx])]; simp
    rw [List.getElem?_eq_none (by simp; omega), List.getElem?_eq_none (by omega)]

theorem flatten_map_v (l : List (List Value)) : (l.map fun x => x.map D.v).flatten = l.flatten.map .v := by
  induction l with
  | nil => rfl
  | cons x l ih => simp only [List.map_cons, List.flatten_cons, List.map_append, ih]

theorem R_makeSlice {t : TypeId} {n cc : Operand} (hty : ∀ t y, T.ty t = some y → TyOK X.P t y) (c : ConcO X own s a w) (hd : ∀ x, dst = some x → X.dok x = true) (hdd : d = dst.getD 0) (hfr : fresh = true → freshAt s dst = true)
    (hn : AVOK own w.heap s (ρ n) (a.eval n)) (hc : AVOK own w.heap s (ρ cc) (a.eval cc)) (hf : opR T d ρ s.ob fresh im (.makeSlice t n cc) = some (p, v)) (hp : p) :
    Does X s a w ⟨dst, .makeSlice t n cc, type, pos, after, guard⟩ v [] := by
  unfold opR at hf
  dsimp only at hf
  split at hf
  · rename_i e _ hyt
    have hu := (hty t _ hyt).2.2.2.2
    simp only at hu
    split at hf
    · rename_i y n' c' hye e1 e2
      simp only [Option.some.injEq, Prod.mk.injEq] at hf
      obtain ⟨rfl, rfl⟩ := hf
      obtain ⟨h0, h1, h2, h3, h4, h5⟩ := hp
      rw [e1] at hn
      rw [e2] at hc
      obtain ⟨dd, rfl, hfs⟩ := freshAt_ok (hfr h4)
      obtain rfl : d = dd := hdd
      obtain ⟨⟨i, z, g1, g2, g3, g4, g5⟩, g6, g7, _⟩ := hty e y hye
      have hb' : (i.bytes : Int) * c' ≤ 281474976710656 := by rw [g3, Int.mul_comm]; omega
      have hr := run_make (P := X.P) w t e i z hu.1 g1 g4 .i64 .i64 n' c' h0 h1 hb' (by unfold maxLen at h2; omega)
      have hzc : z.cells = y.zero.toArray := by rw [← g5]
      rw [g2, hzc, ← g6] at hr
      refine Does.of_value (own' := ownNew own (d, 0) [w.heap.size]) (u := .slice (some ⟨w.heap.size, 0, none⟩) n'.toNat c'.toNat) (w' := w.alloc (.cells (madeCells y.zero.toArray (c'.toNat * y.zero.length)) e)) ?_ ?_
      · simp only [execOp, v_of_av hn, v_of_av hc, Sem.run_bind, hr, Result.andThen_ok, Sem.run_pure]
      · refine c.newObj hfs (hd d rfl) rfl rfl rfl rfl (.inl rfl) fun k => ?_
        refine ⟨rfl, St.put_dst s d _ _, fun _ => .inr ⟨w.heap.size, c'.toNat, by simp, ?_⟩⟩
        refine ⟨madeCells y.zero.toArray (c'.toNat * y.zero.length), e, [], by rw [ownNew_same]; rfl, heap_alloc_new w _, by rw [List.length_replicate]; omega, by unfold maxLen at *; omega, by rw [size_madeCells, g6],
          fun x hx => by rw [List.eq_of_mem_replicate hx]; simp [g6], ?_, fun h0 => by cases h0⟩
        have hrep : (List.replicate n'.toNat (y.zero.map D.v)).flatten = ((List.replicate n'.toNat y.zero).flatten).map D.v := by
          rw [← flatten_map_v]; simp
        rw [hrep, List.length_replicate, ← g6, made_take y.zero (by omega) n'.toNat c'.toNat (by omega)]
        refine scal_reps fun x hx => g7 x ?_
        rw [List.mem_flatten] at hx
        obtain ⟨l, hl, hx⟩ := hx
        rw [List.eq_of_mem_replicate hl] at hx
        exact hx
    · cases hf
  · cases hf
end

end Go.Own
