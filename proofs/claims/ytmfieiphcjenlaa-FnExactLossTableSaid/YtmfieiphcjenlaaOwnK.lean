/-
  Own calculus, part K: indexing, slicing, lengths, conversions, struct literals. Conditions: as each theorem states them.
-/
import Derived.Test.YtmfieiphcjenlaaOwnJ
import Derived.Laws.BytesString
namespace Go.Own
open Go
set_option linter.unusedVariables false
set_option linter.unusedSimpArgs false

section
variable {X : Ctx} {T : Tabs} {own : Id → List Nat} {s : St} {w : World} {a : Act} {ρ : Operand → AV}
variable {dst : Option Nat} {type : TypeId} {pos : String} {after : Array Edge} {guard : Option (Nat × Bool)} {p : Prop} {v : AV} {d : Nat} {fresh im : Bool}

theorem RepsW.sl_invW {W : Bool} {h : Heap} {sz : Nat} {l : List (List D)} {v : Value} {F} (r : RepsW W h [.sl sz l] [v] F) :
    (∃ a0, v = .slice a0 0 0 ∧ l = [] ∧ F = [] ∧ (W = true → a0 = Option.none)) ∨ ∃ b off cap c e fz G, v = .slice (some ⟨b, off, Option.none⟩) l.length cap ∧ h[b]? = some (.cells c e fz) ∧ l.length ≤ cap ∧ cap ≤ maxLen ∧ off + l.length * sz ≤ c.size ∧ (∀ x ∈ l, x.length = sz) ∧
      RepsW W h l.flatten ((c.toList.drop off).take (l.length * sz)) G ∧ F = b :: G ∧ (W = true → off = 0 ∧ fz = (0, 0) ∧ c.size = cap * sz) := by
  cases r with
  | none q r => cases r; exact .inl ⟨_, rfl, rfl, rfl, q⟩
  | sl q hb h1 h2 h3 h4 hi r => cases r; exact .inr ⟨_, _, _, _, _, _, _, rfl, hb, h1, h2, h3, h4, hi, by simp, q⟩

theorem RepsW.sl_inv {h : Heap} {sz : Nat} {l : List (List D)} {v : Value} {F} (r : Reps h [.sl sz l] [v] F) :
    (∃ a0, v = .slice a0 0 0 ∧ l = [] ∧ F = []) ∨ ∃ b off cap c e fz G, v = .slice (some ⟨b, off, Option.none⟩) l.length cap ∧ h[b]? = some (.cells c e fz) ∧ l.length ≤ cap ∧ cap ≤ maxLen ∧ off + l.length * sz ≤ c.size ∧ (∀ x ∈ l, x.length = sz) ∧
      Reps h l.flatten ((c.toList.drop off).take (l.length * sz)) G ∧ F = b :: G := by
  rcases r.sl_invW with ⟨a0, h1, h2, h3, _⟩ | ⟨b, off, cap, c, e, fz, G, h1, h2, h3, h4, h5, h6, h7, h8, _⟩
  · exact .inl ⟨a0, h1, h2, h3⟩
  · exact .inr ⟨b, off, cap, c, e, fz, G, h1, h2, h3, h4, h5, h6, h7, h8⟩

theorem cells_sl {sz : Nat} {l : List (List D)} {h : Heap} {n : Int} (h0 : 0 ≤ n) (hl : n < l.length) {v : Value} {F} (r : Reps h [.sl sz l] [v] F) (hF : ∀ x ∈ F, Imm own h x) :
    ∃ b off cap, v = .slice (some ⟨b, off, none⟩) l.length cap ∧ CellOK own h s (.iptr (l.getD n.toNat [])) (.pointer (some ⟨b, off + n.toNat * sz, none⟩)) := by
  rcases r.sl_inv with ⟨_, _, rfl, _⟩ | ⟨b, off, cap, c, e, fz, G, rfl, a1, a2, a3, a4, a5, a6, rfl⟩
  · simp at hl; omega
  · have hi : n.toNat < l.length := by omega
    obtain ⟨e1, G', e2, e3⟩ := RepsW.elem a5 a4 a6 hi
    have hget : l.getD n.toNat [] = l[n.toNat] := by simp [List.getD_eq_getElem?_getD, hi]
    have hlen : l[n.toNat].length = sz := a5 _ (List.getElem_mem hi)
    refine ⟨b, off, cap, rfl, b, off + n.toNat * sz, c, e, fz, G', rfl, a1, by rw [hget, hlen]; exact e1, by rw [hget, hlen]; exact e3, hF b (by simp), fun x hx => hF x (by simp [e2 x hx])⟩

theorem R_indexAddr {t : TypeId} {x i : Operand} (hty : ∀ t y, T.ty t = some y → TyOK X.P t y) (hx : AVOK own w.heap s (ρ x) (a.eval x)) (hi : AVOK own w.heap s (ρ i) (a.eval i)) (hf : opR T d ρ s.ob fresh im (.indexAddr t x i) = some (p, v)) (hp : p) :
    Computes X.P own w.heap s ⟨dst, .indexAddr t x i, type, pos, after, guard⟩ a.eval w v := by
  unfold opR at hf
  dsimp only at hf
  split at hf
  · rename_i e _ hyt
    have hu := (hty t _ hyt).2.2.2.2
    simp only at hu
    split at hf
    · rename_i y k n hye hin
      have hyo := hty e y hye
      rw [hin] at hi
      have hiv := v_of_av hi
      have run : ∀ (b off len cap : Nat), y.size = y.size → 0 ≤ n → n < (len : Int) → a.eval x = .slice (some ⟨b, off, none⟩) len cap →
          (execOp a.eval ⟨dst, .indexAddr t x i, type, pos, after, guard⟩).run X.P w = .ok (.value (.pointer (some ⟨b, off + n.toNat * y.size, none⟩))) w := fun b off len cap _ h0 hl hv => by
        simp only [execOp, hv, hiv, Instr.indexAt, asIntOf, Sem.run_bind, Sem.run_pure, Result.andThen_ok, run_underlying hu.1]
        simp only [h0, hl, and_self, if_true, Sem.run_bind, hyo.size, Result.andThen_ok, Sem.run_pure, add_off]
      have dcase : ∀ (sz : Nat) (l : List (List D)) (F : List Nat), Reps w.heap [.sl sz l] [a.eval x] F → (∀ b ∈ F, Imm own w.heap b) → y.size = sz ∧ 0 ≤ n ∧ n < l.length →
          Computes X.P own w.heap s ⟨dst, .indexAddr t x i, type, pos, after, guard⟩ a.eval w (.one (.iptr (l.getD n.toNat []))) := fun sz l F r hF hp => by
        obtain ⟨rfl, h0, hl⟩ := hp
        obtain ⟨b, off, cap, hv, hc⟩ := cells_sl (own := own) (s := s) h0 hl r hF
        exact ⟨_, run b off _ cap rfl h0 (by omega) hv, hc⟩
      split at hf
      · rename_i sz l e1
        simp only [Option.some.injEq, Prod.mk.injEq] at hf
        obtain ⟨rfl, rfl⟩ := hf
        rw [e1] at hx
        obtain ⟨F, r, hF⟩ := hx
        exact dcase sz l F r hF hp
      · rename_i sz l e1
        simp only [Option.some.injEq, Prod.mk.injEq] at hf
        obtain ⟨rfl, rfl⟩ := hf
        rw [e1] at hx
        obtain ⟨F, r, hF⟩ := hx
        exact dcase sz l F r (fun b hb => (hF b hb).1) hp
      · rename_i id e1
        rw [e1] at hx
        split at hf
        · rename_i sz l dp ho
          simp only [Option.some.injEq, Prod.mk.injEq] at hf
          obtain ⟨rfl, rfl⟩ := hf
          obtain ⟨rfl, h0, hl⟩ := hp
          obtain ⟨_, ha, hb⟩ := hx
          rw [ho] at hb
          rcases hb with ⟨_, rfl, _⟩ | ⟨b, cap, hv, hb⟩
          · simp at hl; omega
          · refine ⟨_, run b 0 _ cap rfl h0 (by omega) hv, ha, b, 0 + n.toNat * y.size, rfl, n.toNat * y.size, by omega, ?_⟩
            rw [ho]; exact ⟨rfl, cap, hb⟩
        · cases hf
      · rename_i id ii oo e1
        rw [e1] at hx
        split at hf
        · rename_i sz l ho
          split at hf
          · rename_i s0 r hD
            simp only [Option.some.injEq, Prod.mk.injEq] at hf
            obtain ⟨rfl, rfl⟩ := hf
            obtain ⟨rfl, h0, hl⟩ := hp
            have hx1 : IslOK own w.heap s id ii oo (a.eval x) := hx
            obtain ⟨F, rr, hF⟩ := IslOK.repsW ho hx1
            rw [hD] at rr
            rcases rr.sl_invW with ⟨_, _, rfl, _⟩ | ⟨b, off, cap, c, e, fz, G, hv, a1, a2, a3, a4, a5, a6, a7, q⟩
            · simp at hl; omega
            · obtain ⟨rfl, _, _⟩ := q rfl
              rw [hv] at hx1
              refine ⟨_, run b 0 _ cap rfl h0 (by omega) hv, b, r.length, cap, by rw [Nat.zero_add], by omega, hx1⟩
          · cases hf
        · cases hf
      · cases hf
    · cases hf
  · cases hf

theorem R_index {t : TypeId} {x i : Operand} (hty : ∀ t y, T.ty t = some y → TyOK X.P t y) (hx : AVOK own w.heap s (ρ x) (a.eval x)) (hi : AVOK own w.heap s (ρ i) (a.eval i)) (hf : opR T d ρ s.ob fresh im (.index t x i) = some (p, v)) (hp : p) :
    Computes X.P own w.heap s ⟨dst, .index t x i, type, pos, after, guard⟩ a.eval w v := by
  unfold opR at hf
  dsimp only at hf
  split at hf
  · rename_i b k n hyt e1 e2
    have hu := (hty t _ hyt).2.2.2.2
    simp only at hu
    simp only [Option.some.injEq, Prod.mk.injEq] at hf
    obtain ⟨rfl, rfl⟩ := hf
    obtain ⟨h0, hl⟩ := hp
    rw [e1] at hx
    rw [e2] at hi
    have hn : n.toNat < b.size := by omega
    have hb : b[n.toNat]? = some b[n.toNat] := getElem?_pos b n.toNat hn
    have hs : strAt b n.toNat = (b[n.toNat]).toNat := by
      unfold strAt
      have : b.data.toList[n.toNat]? = some b[n.toNat] := by
        have h1 : n.toNat < b.data.toList.length := by simpa using hn
        rw [List.getElem?_eq_getElem h1]
        rfl
      rw [this]; rfl
    refine ⟨.int .u8 (strAt b n.toNat), ?_, av_of_v _ rfl⟩
    simp only [execOp, v_of_av hx, v_of_av hi, Instr.index, asIntOf, Sem.run_bind, Sem.run_pure, Result.andThen_ok, run_underlying hu.1, h0, if_true, hb, hs]
  · cases hf

theorem toD_ok {h : Heap} {cc : Cell} {x : D} (ht : toD s.ob cc = some x) {u : Value} (hc : CellOK own h s cc u) : ∃ F, Reps h [x] [u] F ∧ ∀ b ∈ F, (∃ id, b ∈ own id) ∨ Imm own h b := by
  cases cc with
  | d y => simp only [toD, Option.some.injEq] at ht; subst ht; obtain ⟨F, r, hF⟩ := hc; exact ⟨F, r, fun b hb => .inr (hF b hb)⟩
  | n y => simp only [toD, Option.some.injEq] at ht; subst ht; obtain ⟨F, r, hF⟩ := hc; exact ⟨F, r, fun b hb => .inr (hF b hb).1⟩
  | fr id sz l dp =>
    simp only [toD] at ht
    split at ht
    · rename_i ho
      simp only [Option.some.injEq] at ht
      subst ht
      obtain ⟨F, r, hF⟩ := (hc.2.2 ho).reps
      exact ⟨F, r, fun b hb => (hF b hb).imp (fun h => ⟨id, h⟩) (fun h => h)⟩
    · cases ht
  | osl id =>
    simp only [toD] at ht
    split at ht
    · rename_i sz l dp ho
      simp only [Option.some.injEq] at ht
      subst ht
      have := hc.2.2
      rw [ho] at this
      obtain ⟨F, r, hF⟩ := ArrOK.reps this
      exact ⟨F, r, fun b hb => (hF b hb).imp (fun h => ⟨id, h⟩) (fun h => h)⟩
    · cases ht
  | isl id i o =>
    simp only [toD] at ht
    split at ht
    · rename_i sz l ho
      simp only [Option.some.injEq] at ht
      subst ht
      have := hc.2.2
      rw [ho] at this
      obtain ⟨b, cap, cc, e, b4, g1, g2, g3, g4⟩ := this rfl
      obtain ⟨c', e', G', f1, f2, f3, f4, f5, f6⟩ := b4.elem g3
      rw [g1] at f1
      simp only [Option.some.injEq, Obj.cells.injEq] at f1
      obtain ⟨rfl, rfl, _⟩ := f1
      obtain ⟨u', F', k1, k2, k3⟩ := f4.at (i := o) (by rw [f3]; exact g2)
      rw [List.getElem?_take_of_lt g2, List.getElem?_drop] at k1
      have : u' = u := by
        have h2 : cc[i * sz + o]? = some u' := by simpa using k1
        rw [g4] at h2
        simpa using h2.symm
      subst this
      exact ⟨F', k2, fun b hb => .inl ⟨id, f6 (by decide) b (k3 b hb)⟩⟩
    · cases ht
  | _ => simp [toD] at ht

theorem litBytes_ok {own : Id → List Nat} {h : Heap} {s : St} : ∀ {els : List (List Cell)} {ns : List Int} {vs : List Value}, litBytes els = some ns → CellsOK own h s els.flatten vs → vs = ns.map (Value.int .u8) ∧ els.length = ns.length
  | [], ns, vs, hl, hc => by
    simp only [litBytes, Option.some.injEq] at hl
    subst hl
    cases hc; exact ⟨rfl, rfl⟩
  | e :: r, ns, vs, hl, hc => by
    unfold litBytes at hl
    split at hl
    · rename_i h1; cases h1
    · rename_i n r' h1
      simp only [List.cons.injEq] at h1
      obtain ⟨rfl, rfl⟩ := h1
      split at hl
      · rename_i l e2
        simp only [Option.some.injEq] at hl
        subst hl
        simp only [List.flatten_cons, List.cons_append, List.nil_append] at hc
        cases hc with
        | cons a1 a2 =>
          obtain ⟨i1, i2⟩ := litBytes_ok e2 a2
          obtain ⟨F, r1, _⟩ := a1
          cases r1 with
          | v _ r2 => rw [i1]; exact ⟨rfl, by simp [i2]⟩
      · cases hl
    · cases hl
theorem R_convert {t u : TypeId} {x : Operand} (hty : ∀ t y, T.ty t = some y → TyOK X.P t y) (hx : AVOK own w.heap s (ρ x) (a.eval x)) (hf : opR T d ρ s.ob fresh im (.convert t u x) = some (p, v)) (hp : p) :
    Computes X.P own w.heap s ⟨dst, .convert t u x, type, pos, after, guard⟩ a.eval w v := by
  unfold opR at hf
  dsimp only at hf
  split at hf
  · rename_i k1 k2 k3 n h1 h2 e1
    have hu1 := (hty t _ h1).2.2.2.2
    have hu2 := (hty u _ h2).2.2.2.2
    simp only at hu1 hu2
    simp only [Option.some.injEq, Prod.mk.injEq] at hf
    obtain ⟨rfl, rfl⟩ := hf
    rw [e1] at hx
    exact ⟨_, by simp only [execOp, v_of_av hx, convert, Sem.run_bind, run_underlying hu1.1, run_underlying hu2.1, Result.andThen_ok, Conv.intToInt, Sem.run_pure], av_of_v _ rfl⟩
  · rename_i b h1 h2 e1
    have hu1 := (hty t _ h1).2.2.2.2
    have hu2 := (hty u _ h2).2.2.2.2
    simp only at hu1 hu2
    simp only [Option.some.injEq, Prod.mk.injEq] at hf
    obtain ⟨rfl, rfl⟩ := hf
    rw [e1] at hx
    exact ⟨_, by simp only [execOp, v_of_av hx, convert, Sem.run_bind, run_underlying hu1.1, run_underlying hu2.1, Result.andThen_ok, Sem.run_pure], av_of_v _ rfl⟩
  · rename_i et _ _ _ _ _ _ cc h1 h2 e1
    split at hf
    · rename_i l h3 h4
      simp only [Option.some.injEq, Prod.mk.injEq] at hf
      obtain ⟨rfl, rfl⟩ := hf
      rw [e1] at hx
      obtain ⟨F, r, _⟩ := toD_ok h4 hx
      refine ⟨_, ?_, av_of_v _ rfl⟩
      have h5 := (hty t _ h1).2.2.2.2
      have h6 := (hty u _ h2).2.2.2.2
      have h7 := (hty et _ h3).2.2.2.2
      simp only at h5 h6 h7
      have hrun : ∀ (ad : Option Addr) (n c : Nat), (Conv.bytesToString (.slice ad n c)).run X.P w = .ok (.string (baOf (unB l))) w → a.eval x = .slice ad n c → (execOp a.eval ⟨dst, .convert t u x, type, pos, after, guard⟩).run X.P w = .ok (.value (.string (baOf (unB l)))) w := fun ad n c h8 h9 => by
        simp only [execOp, h9, Sem.run_bind, run_convert_bytes_string w t u et ad n c h5.1 h7.1 h6.1, h8, Result.andThen_ok, Sem.run_pure]
      rcases r.sl_inv with ⟨a0, hv, hl, _⟩ | ⟨b, off, cap, c, e', fz, G, hv, a1, a2, a3, a4, a5, a6, _⟩
      · subst hl
        refine hrun a0 0 0 ?_ hv
        cases a0 with
        | none => rfl
        | some ad => exact run_bytesToString w ad 0 0 [] rfl
      · refine hrun _ _ cap ?_ hv
        refine run_bytesToString w ⟨b, off, none⟩ l.length cap (unB l) ?_
        rw [loadCells_row a1 (by omega)]
        rw [hp] at a6
        have : ∀ (ns : List Int) (vs : List Value) (G : List Nat), Reps w.heap (bL ns).flatten vs G → vs = ns.map (Value.int .u8) := by
          intro ns
          induction ns with
          | nil => intro vs G r; cases r; rfl
          | cons n ns ih =>
            intro vs G r
            simp only [bL, List.map_cons, List.flatten_cons, List.cons_append, List.nil_append] at r
            cases r with
            | v _ r => rw [ih _ _ r]; rfl
        have h8 := this _ _ _ a6
        have h9 : (bL (unB l)).length = l.length := by rw [← hp]
        rw [h9, Nat.mul_one] at h8
        rw [h8]
    · cases hf
  · rename_i et _ _ _ _ _ _ id sz els h1 h2 e1
    split at hf
    · rename_i ns h3 ho h4
      simp only [Option.some.injEq, Prod.mk.injEq] at hf
      obtain ⟨rfl, rfl⟩ := hf
      rw [e1] at hx
      obtain ⟨b, c, e, g1, g2, g3, g4, g5, g6, g7⟩ := hx.2 ho
      subst hp
      obtain ⟨i1, i2⟩ := litBytes_ok h4 g7
      refine ⟨_, ?_, av_of_v _ rfl⟩
      have h5 := (hty t _ h1).2.2.2.2
      have h6 := (hty u _ h2).2.2.2.2
      have h7 := (hty et _ h3).2.2.2.2
      simp only at h5 h6 h7
      have h8 : (Conv.bytesToString (.slice (some ⟨b, 0, none⟩) els.length els.length)).run X.P w = .ok (.string (baOf ns)) w := by
        refine run_bytesToString w ⟨b, 0, none⟩ els.length els.length ns ?_
        rw [loadCells_row g3 (by omega)]
        rw [List.drop_zero, i1, List.take_of_length_le (by rw [List.length_map]; omega)]
      simp only [execOp, g1, Sem.run_bind, run_convert_bytes_string w t u et _ _ _ h5.1 h7.1 h6.1, h8, Result.andThen_ok, Sem.run_pure]
    · cases hf
  · cases hf

theorem R_len {c : Call} (hc : c.callee = .builtin .len) (hty : ∀ t y, T.ty t = some y → TyOK X.P t y) (hx : ∀ x ∈ c.args, AVOK own w.heap s (ρ x) (a.eval x)) (hf : opR T d ρ s.ob fresh im (.call c) = some (p, v)) :
    Computes X.P own w.heap s ⟨dst, .call c, type, pos, after, guard⟩ a.eval w v := by
  obtain ⟨cal, as, ts⟩ := c
  dsimp only at hc hx
  subst hc
  unfold opR at hf
  dsimp only at hf
  split at hf
  · rename_i cc t e1 e2
    have has : ∃ x, as = #[x] ∧ ρ x = .one cc := by
      obtain ⟨as⟩ := as
      match as, e1 with
      | [x], e1 => exact ⟨x, rfl, by simpa using e1⟩
      | [], e1 => simp at e1
      | _ :: _ :: _, e1 => simp at e1
    obtain ⟨x, rfl, hxx⟩ := has
    have hts : ts = #[t] := by
      obtain ⟨ts⟩ := ts
      simpa using e2
    subst hts
    have hx' := hx x (by simp)
    rw [hxx] at hx'
    split at hf
    · rename_i hyt
      have hu := (hty t _ hyt).2.2.2.2
      simp only at hu
      split at hf
      · simp only [Option.some.injEq, Prod.mk.injEq] at hf
        obtain ⟨rfl, rfl⟩ := hf
        exact ⟨_, by simp [execOp, resolve, invoke, builtin, Builtin.len_, v_of_av hx', run_underlying hu.1, goInt], av_of_v _ rfl⟩
      · cases hf
    · rename_i e hyt
      have hu := (hty t _ hyt).2.2.2.2
      simp only at hu
      split at hf
      · simp only [Option.some.injEq, Prod.mk.injEq] at hf
        obtain ⟨rfl, rfl⟩ := hf
        exact ⟨_, by simp [execOp, resolve, invoke, builtin, Builtin.len_, v_of_av hx', run_underlying hu.1, goInt], av_of_v _ rfl⟩
      · split at hf
        · rename_i sz l hl
          simp only [Option.some.injEq, Prod.mk.injEq] at hf
          obtain ⟨rfl, rfl⟩ := hf
          obtain ⟨F, r, _⟩ := toD_ok hl hx'
          have hv : ∃ b cap, a.eval x = .slice b l.length cap := by
            rcases r.sl_inv with ⟨_, hv, rfl, _⟩ | ⟨b, off, cap, _, _, _, _, hv, _⟩
            · exact ⟨_, _, hv⟩
            · exact ⟨_, _, hv⟩
          obtain ⟨b, cap, hv⟩ := hv
          exact ⟨_, by simp [execOp, resolve, invoke, builtin, Builtin.len_, hv, run_underlying hu.1, goInt], av_of_v _ rfl⟩
        · cases hf
    · cases hf
  · cases hf

theorem maxAV_ok {h : Heap} {mx : Bool} {x y : AV} {v : AV} (hm : maxAV mx x y = some v) {u1 u2 : Value} (h1 : AVOK own h s x u1) (h2 : AVOK own h s y u2) :
    ∃ k a b, u1 = .int k a ∧ u2 = .int k b ∧ v = .one (.d (.v (.int k (if mx then max a b else min a b)))) := by
  unfold maxAV at hm
  split at hm
  · split at hm
    · rename_i hk
      subst hk
      simp only [Option.some.injEq] at hm
      exact ⟨_, _, _, v_of_av h1, v_of_av h2, hm.symm⟩
    · cases hm
  · cases hm

theorem R_maxmin {c : Call} {mx : Bool} (hc : c.callee = .builtin (if mx then .max else .min)) (hx : ∀ x ∈ c.args, AVOK own w.heap s (ρ x) (a.eval x)) (hf : opR T d ρ s.ob fresh im (.call c) = some (p, v)) :
    Computes X.P own w.heap s ⟨dst, .call c, type, pos, after, guard⟩ a.eval w v := by
  obtain ⟨cal, as, ts⟩ := c
  dsimp only at hc hx
  subst hc
  have key : ∀ {x y : Operand} {v' : AV}, as = #[x, y] → maxAV mx (ρ x) (ρ y) = some v' → Computes X.P own w.heap s ⟨dst, .call ⟨.builtin (if mx then .max else .min), as, ts⟩, type, pos, after, guard⟩ a.eval w v' := fun {x y v'} has hm => by
    subst has
    obtain ⟨k, i, j, h1, h2, rfl⟩ := maxAV_ok hm (hx x (by simp)) (hx y (by simp))
    cases mx with
    | true =>
      refine ⟨.int k (max i j), ?_, av_of_v _ rfl⟩
      have : (if j > i then j else i) = max i j := by omega
      simp [execOp, resolve, invoke, builtin, Builtin.max_, Builtin.max2, h1, h2, this]
    | false =>
      refine ⟨.int k (min i j), ?_, av_of_v _ rfl⟩
      have : (if j < i then j else i) = min i j := by omega
      simp [execOp, resolve, invoke, builtin, Builtin.min_, Builtin.min2, h1, h2, this]
  have two : ∀ {x y : AV}, as.toList.map ρ = [x, y] → ∃ x' y', as = #[x', y'] ∧ ρ x' = x ∧ ρ y' = y := fun {x y} h => by
    obtain ⟨as⟩ := as
    match as, h with
    | [x', y'], h => simp at h; exact ⟨x', y', rfl, h.1, h.2⟩
    | [], h => simp at h
    | [_], h => simp at h
    | _ :: _ :: _ :: _, h => simp at h
  cases mx with
  | true =>
    unfold opR at hf
    simp only [if_true] at hf
    split at hf
    · rename_i x y e1
      obtain ⟨x', y', rfl, rfl, rfl⟩ := two e1
      split at hf
      · rename_i v' hm
        simp only [Option.some.injEq, Prod.mk.injEq] at hf
        obtain ⟨rfl, rfl⟩ := hf
        exact key rfl hm
      · cases hf
    · cases hf
  | false =>
    unfold opR at hf
    simp only [Bool.false_eq_true, if_false] at hf
    split at hf
    · rename_i x y e1
      obtain ⟨x', y', rfl, rfl, rfl⟩ := two e1
      split at hf
      · rename_i v' hm
        simp only [Option.some.injEq, Prod.mk.injEq] at hf
        obtain ⟨rfl, rfl⟩ := hf
        exact key rfl hm
      · cases hf
    · cases hf
end

end Go.Own
