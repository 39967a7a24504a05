/-
  Own calculus, part J: the operations that read memory, and those that make new memory, are sound. Conditions: as each theorem states them.
-/
import Derived.Test.YtmfieiphcjenlaaOwnI
import Derived.Laws.Cells
namespace Go.Own
open Go
set_option linter.unusedVariables false
set_option linter.unusedSimpArgs false

section
variable {X : Ctx} {T : Tabs} {own : Id → List Nat} {s : St} {w : World} {a : Act} {ρ : Operand → AV}

/-- The operation runs, and the state that it leaves is as 'v' and 'us' say. -/
def Does (X : Ctx) (s : St) (a : Act) (w : World) (o : Oper) (v : AV) (us : List (Id × Ob)) : Prop :=
  ∀ (K : Act → World → Prop) (Q : Exit → Act → World → Prop), (∀ u w', Conc X (s.put o.dst v us) (a.put o.dst u) w' → K (a.put o.dst u) w') → o.wp X.P a w K Q

theorem Does.of_computes {o : Oper} {v : AV} (c : ConcO X own s a w) (hd : ∀ x, o.dst = some x → X.dok x = true) (h : Computes X.P own w.heap s o a.eval w v) : Does X s a w o v [] := by
  obtain ⟨u, h1, h2⟩ := h
  intro K Q hK
  unfold Oper.wp
  rw [h1]
  exact hK u w ⟨own, c.pure rfl rfl rfl rfl hd h2⟩

theorem Does.of_value {own' : Id → List Nat} {o : Oper} {v : AV} {us : List (Id × Ob)} {u : Value} {w' : World} (h1 : (execOp a.eval o).run X.P w = .ok (.value u) w') (h2 : ConcO X own' (s.put o.dst v us) (a.put o.dst u) w') : Does X s a w o v us := by
  intro K Q hK
  unfold Oper.wp
  rw [h1]
  exact hK u w' ⟨own', h2⟩

theorem Does.of_skip {own' : Id → List Nat} {o : Oper} {v : AV} {us : List (Id × Ob)} {w' : World} (h1 : (execOp a.eval o).run X.P w = .ok .skip w') (h2 : ConcO X own' (s.put o.dst v us) (a.put o.dst undef) w') : Does X s a w o v us := by
  intro K Q hK
  unfold Oper.wp
  rw [h1]
  exact hK undef w' ⟨own', h2⟩

theorem cell_row {h : Heap} {b off : Nat} {c : Array Value} {e : TypeId} {fz : Nat × Nat} {w : World} (hw : w.heap = h) (hb : h[b]? = some (.cells c e fz)) : w.cell? ⟨b, off, none⟩ = c[off]? := by
  subst hw
  simp [World.cell?, hb]

theorem loadCells_row {P : Program} {b off n : Nat} {c : Array Value} {e : TypeId} {fz : Nat × Nat} (hb : w.heap[b]? = some (.cells c e fz)) (hn : off + n ≤ c.size) :
    (loadCells ⟨b, off, none⟩ n).run P w = .ok ((c.toList.drop off).take n).toArray w := by
  have hl : ((c.toList.drop off).take n).length = n := by simp; omega
  have := run_loadCells_list (P := P) (w := w) ⟨b, off, none⟩ ((c.toList.drop off).take n) (fun j v hj => by
    rw [add_off, cell_row rfl hb]
    rw [List.getElem?_take] at hj
    split at hj
    · rw [List.getElem?_drop] at hj; simpa using hj
    · cases hj)
  rw [hl] at this
  exact this

theorem load_row {P : Program} {b off : Nat} {c : Array Value} {e : TypeId} {fz : Nat × Nat} {v : Value} (hb : w.heap[b]? = some (.cells c e fz)) (hv : c[off]? = some v) : (load ⟨b, off, none⟩).run P w = .ok v w := by
  rw [run_load, cell_row rfl hb, hv]

/-- Loading a variable off a row whose cells are known. -/
theorem loadVar_row {P : Program} {h : Heap} {t : TypeId} {y : TyI} (hy : TyOK P t y) {b off : Nat} {c : Array Value} {e : TypeId} {fz : Nat × Nat} (hb : w.heap[b]? = some (.cells c e fz)) {cs : List Cell} {av : AV}
    (hp : partOf y.agg off y.size cs = some av) (hc : CellsOK own h s cs c.toList) : ∃ u, (loadVar t ⟨b, off, none⟩).run P w = .ok u w ∧ AVOK own h s av u := by
  unfold partOf at hp
  unfold loadVar
  cases hagg : y.agg with
  | true =>
    rw [hagg] at hp
    simp only [if_true] at hp
    split at hp
    · rename_i hle
      simp only [Option.some.injEq] at hp
      subst hp
      refine ⟨.agg ((c.toList.drop off).take y.size).toArray, ?_, _, rfl, ?_⟩
      · have hle' : off + y.size ≤ c.size := by have := All2.length hc; simp at this; omega
        simp only [Sem.run_bind, hy.isAgg, hagg, hy.size, Result.andThen_ok, if_true, loadCells_row hb hle', Sem.run_pure]
      · exact (All2.drop hc off).take y.size
    · cases hp
  | false =>
    rw [hagg] at hp
    simp only [Bool.false_eq_true, if_false] at hp
    split at hp
    · rename_i cc hcc
      simp only [Option.some.injEq] at hp
      subst hp
      obtain ⟨u, hu, hcu⟩ := All2.get hc off cc hcc
      exact ⟨u, by simp only [Sem.run_bind, hy.isAgg, hagg, Result.andThen_ok, Bool.false_eq_true, if_false, load_row hb (v := u) (by simpa using hu)], hcu⟩
    · cases hp

theorem imm_cells {h : Heap} : ∀ {ds : List D} {vs : List Value} {F : List Nat}, Reps h ds vs F → (∀ b ∈ F, Imm own h b) → CellsOK own h s (ds.map .d) vs
  | [], vs, F, r, _ => by
    have := r.length
    cases vs with
    | nil => exact .nil
    | cons => simp at this
  | d :: ds, [], F, r, _ => by have := r.length; simp at this
  | d :: ds, v :: vs, F, r, hF => by
    obtain ⟨F1, F2, rfl, r1, r2⟩ := r.cons_inv
    exact .cons ⟨F1, r1, fun b hb => hF b (by simp [hb])⟩ (imm_cells r2 fun b hb => hF b (by simp [hb]))

variable {dst : Option Nat} {type : TypeId} {pos : String} {after : Array Edge} {guard : Option (Nat × Bool)} {p : Prop} {v : AV} {d : Nat} {fresh im : Bool}

/-- The i-th element of an owned array. -/
theorem ArrB.elem {h : Heap} {id : Id} {sz : Nat} {l : List (List D)} {dp b cap : Nat} (hb : ArrB own h id sz l dp b cap) {i : Nat} (hi : i < l.length) : ∃ c e G', h[b]? = some (.cells c e (0, 0)) ∧ i * sz + sz ≤ c.size ∧ (l.getD i []).length = sz ∧
    Reps h (l.getD i []) ((c.toList.drop (i * sz)).take sz) G' ∧ (dp = 0 → ∀ x ∈ G', Imm own h x) ∧ (dp ≠ 0 → ∀ x ∈ G', x ∈ own id) := by
  obtain ⟨c, e, G, a1, a2, a3, a4, a5, a6, a7, a8⟩ := hb
  have hle : 0 + l.length * sz ≤ c.size := by have := Nat.mul_le_mul_right sz a3; omega
  obtain ⟨e1, G', e2, e3⟩ := RepsW.elem (off := 0) a6 hle (by simpa using a7) hi
  have hget : l.getD i [] = l[i] := by simp [List.getD_eq_getElem?_getD, hi]
  refine ⟨c, e, G', a2, by simpa using e1, by rw [hget]; exact a6 _ (List.getElem_mem hi), by rw [hget]; simpa using e3.weak, fun h0 x hx => a8 h0 x (e2 x hx), fun h0 x hx => by rw [a1]; simp [h0, e2 x hx]⟩

theorem RepsW.at {W : Bool} {h : Heap} {ds vs F} (r : RepsW W h ds vs F) {i : Nat} (hi : i < ds.length) : ∃ v F', vs[i]? = some v ∧ RepsW W h [ds.getD i default] [v] F' ∧ ∀ x ∈ F', x ∈ F := by
  have hl := r.length
  have h1 : vs[i]? = some vs[i] := List.getElem?_eq_getElem (by omega)
  have h2 : ds[i]? = some (ds.getD i default) := by simp [List.getD_eq_getElem?_getD, hi]
  obtain ⟨F', r', hF⟩ := RepsW.of_all r (P := fun b => b ∈ F) (fun b hb => hb) i _ _ h2 h1
  exact ⟨vs[i], F', h1, r', hF⟩

theorem RepsW.scal {W : Bool} {h : Heap} {ds vs F} (r : RepsW W h ds vs F) (hs : ∀ x ∈ ds, Scalar x) : F = [] := by
  induction r with
  | nil => rfl
  | v _ _ ih => exact ih fun x hx => hs x (by simp [hx])
  | none _ _ ih => exact (hs _ (List.mem_cons_self ..)).elim
  | sl => exact (hs _ (List.mem_cons_self ..)).elim

theorem RepsW.subr {h : Heap} {ds vs F} (r : Reps h ds vs F) (o n : Nat) : ∃ F', Reps h ((ds.drop o).take n) ((vs.drop o).take n) F' ∧ ∀ x ∈ F', x ∈ F := by
  have hl := r.length
  have step : ∀ {ds : List D} {vs : List Value} {F : List Nat} (k : Nat), Reps h ds vs F → ∃ F1 F2, Reps h (ds.take k) (vs.take k) F1 ∧ Reps h (ds.drop k) (vs.drop k) F2 ∧ F = F1 ++ F2 := fun {ds vs F} k r => by
    have hl := r.length
    rw [← List.take_append_drop k ds] at r
    obtain ⟨v1, v2, F1, F2, rfl, rfl, r1, r2⟩ := RepsW.split _ _ r
    have l1 : (v1 ++ v2).take k = v1 ∧ (v1 ++ v2).drop k = v2 := by
      have e1 := r1.length
      have e2 := r2.length
      rw [List.length_take] at e1
      rw [List.length_drop] at e2
      by_cases hk : k ≤ ds.length
      · have : v1.length = k := by omega
        rw [← this]; exact ⟨List.take_left, List.drop_left⟩
      · have : v2 = [] := List.eq_nil_of_length_eq_zero (by omega)
        subst this
        simp only [List.append_nil]
        exact ⟨List.take_of_length_le (by omega), List.drop_of_length_le (by omega)⟩
    exact ⟨F1, F2, by rw [l1.1]; exact r1, by rw [l1.2]; exact r2, rfl⟩
  obtain ⟨F1, F2, _, r2, rfl⟩ := step o r
  obtain ⟨F3, F4, r3, _, rfl⟩ := step n r2
  exact ⟨F3, r3, fun x hx => by simp [hx]⟩

/-- A slice that lies in an owned array, read. -/
theorem IslOK.repsW {h : Heap} {id : Id} {i o sz : Nat} {l : List (List D)} {u : Value} (ho : s.ob id = .arr sz l 2) (hx : IslOK own h s id i o u) : ∃ F, RepsW true h [(l.getD i []).getD o default] [u] F ∧ ∀ b ∈ F, b ∈ own id := by
  have hA := hx.2.2
  rw [ho] at hA
  obtain ⟨b, cap, c, e, hB, hb, hoz, hil, hcx⟩ := hA rfl
  obtain ⟨c1, e1, G, f1, f2, f3, f4, f5, f6, f7, f8⟩ := hB
  rw [hb] at f2
  simp only [Option.some.injEq, Obj.cells.injEq] at f2
  obtain ⟨rfl, rfl, _⟩ := f2
  have hle : 0 + l.length * sz ≤ c.size := by have := Nat.mul_le_mul_right sz f3; omega
  have f7' : RepsW true h l.flatten (c.toList.take (l.length * sz)) G := f7
  obtain ⟨e1, G', e2, e3⟩ := RepsW.elem (off := 0) f6 hle (by simpa using f7') hil
  have hget : l.getD i [] = l[i] := by simp [List.getD_eq_getElem?_getD, hil]
  have hli : l[i].length = sz := f6 _ (List.getElem_mem hil)
  obtain ⟨u', F', k1, k2, k3⟩ := e3.at (i := o) (by rw [hli]; exact hoz)
  rw [List.getElem?_take_of_lt hoz, List.getElem?_drop] at k1
  have : u' = u := by
    have h2 : c[i * sz + o]? = some u' := by simpa using k1
    rw [hcx] at h2
    simpa using h2.symm
  subst this
  rw [hget]
  refine ⟨F', k2, fun x hx => ?_⟩
  rw [f1, if_neg (by decide)]
  exact List.mem_cons_of_mem _ (e2 x (k3 x hx))

theorem R_load {t : TypeId} {x : Operand} (hty : ∀ t y, T.ty t = some y → TyOK X.P t y) (c : ConcO X own s a w) (hx : AVOK own w.heap s (ρ x) (a.eval x)) (hf : opR T d ρ s.ob fresh im (.load t x) = some (p, v)) (hp : p) :
    Computes X.P own w.heap s ⟨dst, .load t x, type, pos, after, guard⟩ a.eval w v := by
  unfold opR at hf
  dsimp only at hf
  split at hf
  · cases hf
  split at hf
  · rename_i y hy
    have hyo := hty t y hy
    split at hf
    · rename_i ds e1
      rw [e1] at hx
      obtain ⟨b, off, cc, e, fz, F, a1, a2, a3, a4, a5, a6⟩ := hx
      cases hagg : y.agg with
      | true =>
        rw [hagg] at hf
        simp only [if_true, Option.some.injEq, Prod.mk.injEq] at hf
        obtain ⟨rfl, rfl⟩ := hf
        refine ⟨.agg (((cc.toList.drop off).take y.size)).toArray, ?_, _, rfl, ?_⟩
        · simp only [execOp, a1, Instr.loadAt, Instr.sureAddr, loadVar, Sem.run_bind, Sem.run_pure, Result.andThen_ok, hyo.isAgg, hagg, hyo.size, if_true, loadCells_row a2 (show off + y.size ≤ cc.size by omega)]
        · rw [← List.take_append_drop y.size ds] at a4
          obtain ⟨v1, v2, F1, F2, g1, g2, r1, r2⟩ := RepsW.split _ _ a4
          have : v1 = (cc.toList.drop off).take y.size := by
            have l1 : v1.length = y.size := by rw [← r1.length, List.length_take]; omega
            have : ((cc.toList.drop off).take ds.length).take y.size = v1 := by
              rw [List.take_append_drop] at g1
              rw [g1, ← l1, List.take_left]
            rw [← this, List.take_take]
            congr 1
            omega
          rw [← this]
          exact imm_cells r1 fun b hb => a6 b (by rw [g2]; simp [hb])
      | false =>
        rw [hagg] at hf
        simp only [Bool.false_eq_true, if_false, Option.some.injEq, Prod.mk.injEq] at hf
        obtain ⟨rfl, rfl⟩ := hf
        obtain ⟨u, F', g1, g2, g3⟩ := a4.at (i := 0) (by omega)
        have hd : ds.headD default = ds.getD 0 default := by cases ds <;> rfl
        rw [hd]
        refine ⟨u, ?_, F', g2, fun b hb => a6 b (g3 b hb)⟩
        have hcell : cc[off]? = some u := by
          rw [List.getElem?_take] at g1
          split at g1
          · rw [List.getElem?_drop] at g1; simpa using g1
          · cases g1
        simp only [execOp, a1, Instr.loadAt, Instr.sureAddr, loadVar, Sem.run_bind, Sem.run_pure, Result.andThen_ok, hyo.isAgg, hagg, Bool.false_eq_true, if_false, load_row a2 hcell]
    · rename_i id oo e1
      rw [e1] at hx
      split at hf
      · rename_i cs ho
        split at hf
        · rename_i av hav
          simp only [Option.some.injEq, Prod.mk.injEq] at hf
          obtain ⟨rfl, rfl⟩ := hf
          obtain ⟨_, b, b1, b2⟩ := hx
          rw [ho] at b2
          have hob := c.obs id
          rw [ho] at hob
          obtain ⟨b', cc, e, h1, h2, h3⟩ := hob
          have : b' = b := by rw [h1] at b2; simpa using b2
          subst this
          obtain ⟨u, hu, hav'⟩ := loadVar_row hyo h2 hav h3
          exact ⟨u, by simp only [execOp, b1, Instr.loadAt, Instr.sureAddr, Sem.run_bind, Sem.run_pure, Result.andThen_ok, hu], hav'⟩
        · cases hf
      · cases hf
    · rename_i id i oo e1
      rw [e1] at hx
      split at hf
      · rename_i sz l dp ho
        obtain ⟨ha, b, o, b1, si, b2, b3⟩ := hx
        rw [ho] at b3
        obtain ⟨rfl, cap, b4⟩ := b3
        subst b2
        split at hf
        · rename_i hagg
          simp only [Option.some.injEq, Prod.mk.injEq] at hf
          obtain ⟨rfl, rfl⟩ := hf
          obtain ⟨hi, hoo, hsc⟩ := hp
          obtain ⟨cc, e, G', g1, g2, g3, g4, _⟩ := b4.elem hi
          obtain ⟨F', r', _⟩ := g4.subr oo y.size
          have e1 : ((((cc.toList.drop (i * sz)).take sz).drop oo).take y.size) = (cc.toList.drop (i * sz + oo)).take y.size := by
            rw [List.drop_take, List.drop_drop, List.take_take]; congr 1; omega
          rw [e1] at r'
          have hF' := r'.scal hsc
          subst hF'
          refine ⟨.agg ((cc.toList.drop (i * sz + oo)).take y.size).toArray, ?_, _, rfl, imm_cells r' (by simp)⟩
          simp only [execOp, b1, Instr.loadAt, Instr.sureAddr, loadVar, Sem.run_bind, Sem.run_pure, Result.andThen_ok, hyo.isAgg, hagg, hyo.size, if_true, loadCells_row g1 (show i * sz + oo + y.size ≤ cc.size by omega)]
        · rename_i hagg
          have hagg' : y.agg = false := by simpa using hagg
          have run : ∀ u, i < l.length → oo < sz → (∃ cc e, w.heap[b]? = some (.cells cc e (0, 0)) ∧ cc[i * sz + oo]? = some u) → (execOp a.eval ⟨dst, .load t x, type, pos, after, guard⟩).run X.P w = .ok (.value u) w := fun u _ _ ⟨cc, e, g1, g2⟩ => by
            simp only [execOp, b1, Instr.loadAt, Instr.sureAddr, loadVar, Sem.run_bind, Sem.run_pure, Result.andThen_ok, hyo.isAgg, hagg', Bool.false_eq_true, if_false, load_row g1 g2]
          have cell : i < l.length → oo < sz → ∃ u cc e F, w.heap[b]? = some (.cells cc e (0, 0)) ∧ cc[i * sz + oo]? = some u ∧ Reps w.heap [(l.getD i []).getD oo default] [u] F ∧ (dp = 0 → ∀ x ∈ F, Imm own w.heap x) := fun hi ho => by
            obtain ⟨cc, e, G', g1, g2, g3, g4, g5, _⟩ := b4.elem hi
            obtain ⟨u, F', f1, f2, f3⟩ := g4.at (i := oo) (by rw [g3]; exact ho)
            refine ⟨u, cc, e, F', g1, ?_, f2, fun h0 x hx => g5 h0 x (f3 x hx)⟩
            rw [List.getElem?_take_of_lt ho, List.getElem?_drop] at f1
            simpa using f1
          have scal : Scalar ((l.getD i []).getD oo default) → i < l.length → oo < sz → Computes X.P own w.heap s ⟨dst, .load t x, type, pos, after, guard⟩ a.eval w (.one (.d ((l.getD i []).getD oo default))) := fun hs hi ho => by
            obtain ⟨u, cc, e, F, g1, g2, g3, _⟩ := cell hi ho
            refine ⟨u, run u hi ho ⟨cc, e, g1, g2⟩, ?_⟩
            cases hdd : (l.getD i []).getD oo default with
            | v z =>
              rw [hdd] at g3
              cases g3 with
              | v hz g3 => exact ⟨[], .v hz .nil, by simp⟩
            | sl => rw [hdd] at hs; exact hs.elim
          split at hf
          · split at hf
            · simp only [Option.some.injEq, Prod.mk.injEq] at hf
              obtain ⟨rfl, rfl⟩ := hf
              obtain ⟨u, cc, e, F, g1, g2, g3, g4⟩ := cell hp.1 hp.2
              exact ⟨u, run u hp.1 hp.2 ⟨cc, e, g1, g2⟩, F, g3, g4 rfl⟩
            · simp only [Option.some.injEq, Prod.mk.injEq] at hf
              obtain ⟨rfl, rfl⟩ := hf
              obtain ⟨u, cc, e, F, g1, g2, g3, _⟩ := cell hp.1 hp.2
              refine ⟨u, run u hp.1 hp.2 ⟨cc, e, g1, g2⟩, g3.one, ha, ?_⟩
              rw [ho]
              exact fun _ => ⟨b, cap, cc, e, b4, g1, hp.2, hp.1, g2⟩
            · cases hf
          · simp only [Option.some.injEq, Prod.mk.injEq] at hf
            obtain ⟨rfl, rfl⟩ := hf
            exact scal hp.2.2 hp.1 hp.2.1
      · cases hf
    · rename_i id i oo s' j e1
      rw [e1] at hx
      split at hf
      · rename_i sz l ho
        split at hf
        · rename_i s0 r hD
          split at hf
          · cases hf
          · rename_i hagg
            have hagg' : y.agg = false := by simpa using hagg
            simp only [Option.some.injEq, Prod.mk.injEq] at hf
            obtain ⟨rfl, rfl⟩ := hf
            obtain ⟨rfl, hs0, hj, hsc⟩ := hp
            obtain ⟨b0, len, cap0, hv, hjl, hisl⟩ := hx
            obtain ⟨F, rr, hFF⟩ := IslOK.repsW ho hisl
            rw [hD] at rr
            cases rr with
            | none => simp at hj
            | sl q hb0 h1 h2 h3 h4 h5 h6 =>
              rename_i cc e fz G F2
              obtain ⟨e1, G', e2, e3⟩ := RepsW.elem h4 h3 h5 hj
              have hget : r.getD j [] = r[j] := by simp [List.getD_eq_getElem?_getD, hj]
              have hli : r[j].length = s0 := h4 _ (List.getElem_mem hj)
              obtain ⟨u, F', k1, k2, _⟩ := e3.at (i := 0) (by rw [hli]; exact hs0)
              rw [List.getElem?_take_of_lt hs0, List.getElem?_drop] at k1
              have hcell : cc[j * s0]? = some u := by simpa using k1
              rw [hget] at hsc ⊢
              refine ⟨u, ?_, ?_⟩
              · simp only [execOp, hv, Instr.loadAt, Instr.sureAddr, loadVar, Sem.run_bind, Sem.run_pure, Result.andThen_ok, hyo.isAgg, hagg', Bool.false_eq_true, if_false, load_row hb0 hcell]
              · cases hdd : r[j].getD 0 default with
                | v z =>
                  rw [hdd] at k2
                  cases k2 with
                  | v hz g3 => exact ⟨[], .v hz .nil, by simp⟩
                | sl => rw [hdd] at hsc; exact hsc.elim
        · cases hf
      · cases hf
    · cases hf
  · cases hf
end

end Go.Own
