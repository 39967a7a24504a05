/-
  Own calculus, part M: literal rows and struct literals. Conditions: as each theorem states them.
-/
import Derived.Test.YtmfieiphcjenlaaOwnL
namespace Go.Own
open Go
set_option linter.unusedVariables false
set_option linter.unusedSimpArgs false

section
variable {X : Ctx} {T : Tabs} {own : Id → List Nat} {s : St} {w : World} {a : Act} {ρ : Operand → AV}
variable {dst : Option Nat} {type : TypeId} {pos : String} {after : Array Edge} {guard : Option (Nat × Bool)} {p : Prop} {v : AV} {d : Nat} {fresh im : Bool}

theorem fold_set (off : Nat) : ∀ (vs : List Value) (j0 : Nat) (cells : Array Value), off + j0 + vs.length ≤ cells.size →
    ((vs.zipIdx j0).foldl (fun cs (q : Value × Nat) => cs.setIfInBounds (off + q.2) q.1) cells).toList = cells.toList.take (off + j0) ++ vs ++ cells.toList.drop (off + j0 + vs.length)
  | [], j0, cells, _ => by simp
  | v :: vs, j0, cells, h => by
    simp only [List.length_cons] at h
    simp only [List.zipIdx_cons, List.foldl_cons]
    rw [fold_set off vs (j0 + 1) _ (by simp; omega)]
    have hlen : off + j0 < cells.toList.length := by simp; omega
    have hk : (cells.toList.take (off + j0)).length = off + j0 := by simp; omega
    have e1 : (cells.setIfInBounds (off + j0) v).toList = cells.toList.take (off + j0) ++ v :: cells.toList.drop (off + j0 + 1) := by
      rw [Array.toList_setIfInBounds, List.set_eq_take_append_cons_drop, if_pos hlen]
    rw [e1]
    have e2 : (cells.toList.take (off + j0) ++ v :: cells.toList.drop (off + j0 + 1)).take (off + (j0 + 1)) = cells.toList.take (off + j0) ++ [v] := by
      rw [show off + (j0 + 1) = (cells.toList.take (off + j0)).length + 1 from by omega, List.take_length_add_append]
      rfl
    have e3 : (cells.toList.take (off + j0) ++ v :: cells.toList.drop (off + j0 + 1)).drop (off + (j0 + 1) + vs.length) = cells.toList.drop (off + j0 + (vs.length + 1)) := by
      rw [show off + (j0 + 1) + vs.length = (cells.toList.take (off + j0)).length + (vs.length + 1) from by omega, List.drop_length_add_append, List.drop_succ_cons, List.drop_drop]
      congr 1
      omega
    rw [e2, e3]
    simp

theorem fill_one (place : Nat → Option (Nat × Nat)) (cells : Array Value) (i off size : Nat) (v : Value) (rest : List (Nat × Value)) (hp : place i = some (off, size)) (hs : v.cells.size = size) (hle : off + size ≤ cells.size) :
    ∃ c', Instr.fill place cells ((i, v) :: rest) = Instr.fill place c' rest ∧ c'.toList = cells.toList.take off ++ v.cells.toList ++ cells.toList.drop (off + size) := by
  refine ⟨v.cells.zipIdx.foldl (fun cs (q : Value × Nat) => cs.setIfInBounds (off + q.2) q.1) cells, ?_, ?_⟩
  · simp only [Instr.fill, hp]
    rw [if_neg]
    simp [hs]; omega
  · have := fold_set off v.cells.toList 0 cells (by simp [hs]; omega)
    rw [← Array.foldl_toList, Array.toList_zipIdx]
    rw [this]
    simp [hs]

/-- Parts written one behind the other. -/
theorem fill_row (size N : Nat) : ∀ (L : List Value) (k : Nat) (cells : Array Value), cells.size = N * size → k + L.length ≤ N → (∀ v ∈ L, v.cells.size = size) →
    ∃ r, Instr.fill (fun i => some (i * size, size)) cells ((List.range' k L.length).zip L) = some r ∧ r.toList = cells.toList.take (k * size) ++ (L.map fun v => v.cells.toList).flatten ++ cells.toList.drop ((k + L.length) * size)
  | [], k, cells, _, _, _ => ⟨cells, by simp [Instr.fill], by simp⟩
  | v :: L, k, cells, h1, h2, h3 => by
    simp only [List.length_cons] at h2
    have hv := h3 v (by simp)
    have hks : k * size + size ≤ cells.size := by
      rw [h1]
      have : (k + 1) * size ≤ N * size := Nat.mul_le_mul_right _ (by omega)
      rw [Nat.add_mul] at this
      omega
    obtain ⟨c', e1, e2⟩ := fill_one (fun i => some (i * size, size)) cells k (k * size) size v ((List.range' (k + 1) L.length).zip L) rfl hv hks
    have hc' : c'.size = N * size := by
      have h := congrArg List.length e2
      simp [hv] at h
      omega
    obtain ⟨r, f1, f2⟩ := fill_row size N L (k + 1) c' hc' (by omega) (fun x hx => h3 x (by simp [hx]))
    refine ⟨r, ?_, ?_⟩
    · simp only [List.length_cons, List.range'_succ, List.zip_cons_cons, e1]; exact f1
    · rw [f2, e2]
      simp only [List.map_cons, List.flatten_cons, List.length_cons]
      have hl : (cells.toList.take (k * size) ++ v.cells.toList).length = (k + 1) * size := by simp [hv]; rw [Nat.add_mul]; omega
      have t1 : (cells.toList.take (k * size) ++ v.cells.toList ++ cells.toList.drop (k * size + size)).take ((k + 1) * size) = cells.toList.take (k * size) ++ v.cells.toList := by
        rw [← hl, List.take_left]
      have t2 : (cells.toList.take (k * size) ++ v.cells.toList ++ cells.toList.drop (k * size + size)).drop ((k + 1 + L.length) * size) = cells.toList.drop ((k + (L.length + 1)) * size) := by
        have : (k + 1 + L.length) * size = (k + 1) * size + L.length * size := by rw [Nat.add_mul]
        rw [this, ← List.drop_drop, ← hl, List.drop_left, List.drop_drop]
        congr 1
        rw [show k + (L.length + 1) = k + 1 + L.length from by omega, Nat.add_mul, Nat.add_mul]
        omega
      rw [t1, t2]
      simp [List.append_assoc]

theorem cells_one {v : Value} (h : v.oneCell' = true) : v.cells = #[v] := by cases v <;> first | rfl | (simp [Value.oneCell'] at h)

theorem avCells_ok {h : Heap} {av : AV} {cs : List Cell} (hc : avCells av = some cs) {v : Value} (a : AVOK own h s av v) : CellsOK own h s cs v.cells.toList := by
  cases av with
  | one c =>
    simp only [avCells, Option.some.injEq] at hc
    subst hc
    rw [cells_one (CellOK.one a)]
    exact .cons a .nil
  | agg cs' =>
    simp only [avCells, Option.some.injEq] at hc
    subst hc
    obtain ⟨vs, rfl, a⟩ := a
    exact a
  | _ => simp [avCells] at hc

/-- The parts of a literal row, cell by cell. -/
theorem lit_cells {h : Heap} {ev : Operand → Value} {sz : Nat} : ∀ {xs : List Operand} {els : List (List Cell)}, ((sz = 1 ∧ litOne (xs.map ρ) = some els) ∨ litAgg sz (xs.map ρ) = some els) → (∀ x ∈ xs, AVOK own h s (ρ x) (ev x)) →
    els.length = xs.length ∧ (∀ e ∈ els, e.length = sz) ∧ (∀ x ∈ xs, (ev x).cells.size = sz) ∧ CellsOK own h s els.flatten ((xs.map fun x => (ev x).cells.toList).flatten)
  | [], els, hl, _ => by
    have : els = [] := by rcases hl with ⟨_, hl⟩ | hl <;> simpa [litOne, litAgg] using hl.symm
    subst this
    exact ⟨rfl, by simp, by simp, .nil⟩
  | x :: xs, els, hl, hx => by
    have hx0 := hx x (by simp)
    rcases hl with ⟨rfl, hl⟩ | hl
    · simp only [List.map_cons] at hl
      unfold litOne at hl
      split at hl
      · rename_i heq; cases heq
      · rename_i c r heq
        simp only [List.cons.injEq] at heq
        obtain ⟨h1, rfl⟩ := heq
        split at hl
        · rename_i l hl'
          simp only [Option.some.injEq] at hl
          subst hl
          obtain ⟨g1, g2, g3, g4⟩ := lit_cells (.inl ⟨rfl, hl'⟩) (fun y hy => hx y (by simp [hy]))
          rw [h1] at hx0
          have hcell := cells_one (CellOK.one hx0)
          refine ⟨by simp [g1], fun e he => by rcases List.mem_cons.1 he with rfl | he; rfl; exact g2 e he, fun y hy => by rcases List.mem_cons.1 hy with rfl | hy; rw [hcell]; rfl; exact g3 y hy, ?_⟩
          simp only [List.map_cons, List.flatten_cons, hcell]
          exact .cons hx0 g4
        · cases hl
      · cases hl
    · simp only [List.map_cons] at hl
      unfold litAgg at hl
      split at hl
      · rename_i heq; cases heq
      · rename_i cs r heq
        simp only [List.cons.injEq] at heq
        obtain ⟨h1, rfl⟩ := heq
        split at hl
        · rename_i hlen
          split at hl
          · rename_i l hl'
            simp only [Option.some.injEq] at hl
            subst hl
            obtain ⟨g1, g2, g3, g4⟩ := lit_cells (.inr hl') (fun y hy => hx y (by simp [hy]))
            rw [h1] at hx0
            obtain ⟨vs, hv, hc⟩ := hx0
            refine ⟨by simp [g1], fun e he => by rcases List.mem_cons.1 he with rfl | he; exact hlen; exact g2 e he, fun y hy => ?_, ?_⟩
            · rcases List.mem_cons.1 hy with rfl | hy
              · rw [hv]
                have := All2.length hc
                simp [Value.cells] at this ⊢
                omega
              · exact g3 y hy
            · simp only [List.map_cons, List.flatten_cons, hv, Value.cells]
              exact All2.append hc g4
          · cases hl
        · cases hl
      · cases hl

theorem R_buildSlice {t : TypeId} {n : Nat} {ps : Array (Nat × Operand)} (hty : ∀ t y, T.ty t = some y → TyOK X.P t y) (c : ConcO X own s a w) (hd : ∀ x, dst = some x → X.dok x = true) (hdd : d = dst.getD 0) (hfr : fresh = true → freshAt s dst = true)
    (hx : ∀ q ∈ ps, AVOK own w.heap s (ρ q.2) (a.eval q.2)) (hf : opR T d ρ s.ob fresh im (.buildSlice t n ps) = some (p, v)) (hp : p) : Does X s a w ⟨dst, .buildSlice t n ps, type, pos, after, guard⟩ v [] := by
  unfold opR at hf
  dsimp only at hf
  split at hf
  · rename_i e _ hyt
    have hu := (hty t _ hyt).2.2.2.2
    simp only at hu
    split at hf
    · rename_i y hye
      have hyo := hty e y hye
      have key : ∀ (els : List (List Cell)), ((y.size = 1 ∧ litOne ((ps.toList.map (·.2)).map ρ) = some els) ∨ litAgg y.size ((ps.toList.map (·.2)).map ρ) = some els) → ps.toList.map (·.1) = List.range n → n * y.size ≤ 16777216 → 0 < y.size → fresh = true →
          Does X s a w ⟨dst, .buildSlice t n ps, type, pos, after, guard⟩ (.lit (d, 0) y.size els) [] := fun els hl hidx hle hpos hfresh => by
        obtain ⟨dd, rfl, hfs⟩ := freshAt_ok (hfr hfresh)
        obtain rfl : d = dd := hdd
        obtain ⟨g1, g2, g3, g4⟩ := lit_cells (own := own) (h := w.heap) (s := s) (ev := a.eval) hl (fun x hx' => by
          obtain ⟨q, hq, rfl⟩ := List.mem_map.1 hx'
          exact hx q (by simpa using hq))
        have hn : ps.toList.length = n := by have := congrArg List.length hidx; simpa using this
        simp only [List.length_map] at g1
        have hzip : (ps.map fun (q : Nat × Operand) => (q.1, a.eval q.2)).toList = (List.range' 0 (ps.toList.map fun q => a.eval q.2).length).zip (ps.toList.map fun q => a.eval q.2) := by
          rw [List.length_map, hn, ← List.range_eq_range', ← hidx]
          simp only [Array.toList_map]
          generalize ps.toList = L
          induction L with
          | nil => rfl
          | cons q L ih => simp [ih]
        obtain ⟨z, hz1, hz2⟩ := hyo.zeroV w
        obtain ⟨r, f1, f2⟩ := fill_row y.size n (ps.toList.map fun q => a.eval q.2) 0 ((Array.range (n * y.size)).map (fun i => (if n * y.size = 0 then #[] else z.cells)[i % (if n * y.size = 0 then #[] else z.cells).size]!)) (by simp) (by simp [hn]) (fun x hx' => by
          obtain ⟨q, hq, rfl⟩ := List.mem_map.1 hx'
          exact g3 q.2 (List.mem_map.2 ⟨q, hq, rfl⟩))
        have hrl : r.toList = ((ps.toList.map (·.2)).map fun x => (a.eval x).cells.toList).flatten := by
          rw [f2]
          simp [hn, List.map_map, Function.comp_def]
        have hrun : (execOp a.eval ⟨some d, .buildSlice t n ps, type, pos, after, guard⟩).run X.P w = .ok (.value (.slice (some ⟨w.heap.size, 0, none⟩) n n)) (w.alloc (.cells r e)) := by
          have hle' : ¬ n * y.size > 2 ^ 24 := by simp; omega
          simp only [execOp, Instr.buildSlice, Sem.run_bind, run_underlying hu.1, Result.andThen_ok, hyo.size]
          rw [if_neg hle']
          simp only [hzip]
          by_cases h0 : n * y.size = 0
          · simp only [h0, if_true] at f1 ⊢
            simp only [Sem.run_pure, Result.andThen_ok, Sem.run_bind]
            rw [f1]
            simp [newRow]
          · simp only [h0, if_false] at f1 ⊢
            simp only [Sem.run_pure, Result.andThen_ok, Sem.run_bind, hz1]
            rw [f1]
            simp [newRow]
        refine Does.of_value (own' := ownNew own (d, 0) [w.heap.size]) hrun ?_
        refine c.newObj hfs (hd d rfl) rfl rfl rfl rfl (.inl rfl) fun k => ?_
        refine ⟨St.put_dst s d _ _, fun _ => ⟨w.heap.size, r, e, by rw [g1, hn], ownNew_same _ _, heap_alloc_new w _, ?_, ?_, g2, ?_⟩⟩
        · have h4 : els.flatten.length = r.toList.length := by rw [hrl]; exact All2.length g4
          have h5 := flatten_len els y.size g2
          rw [h5] at h4
          simpa using h4.symm
        · have : n ≤ n * y.size := Nat.le_mul_of_pos_right n hpos
          rw [g1, hn]; unfold maxLen; omega
        · rw [hrl]; exact CellsOK.keep k g4
      split at hf
      · rename_i hc
        obtain ⟨hc1, hc2, hc3, hc4, hc5⟩ := hc
        split at hf
        · rename_i els hl
          simp only [Option.some.injEq, Prod.mk.injEq] at hf
          obtain ⟨rfl, rfl⟩ := hf
          have := key els (.inl ⟨hc2, hl⟩) hc3 hc4 hc5 hp
          rw [hc2] at this
          exact this
        · cases hf
      · split at hf
        · rename_i hc
          obtain ⟨hc3, hc4, hc5⟩ := hc
          split at hf
          · rename_i els hl
            simp only [Option.some.injEq, Prod.mk.injEq] at hf
            obtain ⟨rfl, rfl⟩ := hf
            exact key els (.inr hl) hc3 hc4 hc5 hp
          · cases hf
        · cases hf
    · cases hf
  · cases hf

theorem run_mapM_list {α β : Type} {P : Program} {f : α → Sem β} {g : α → β} (w : World) : ∀ (l : List α), (∀ x ∈ l, (f x).run P w = .ok (g x) w) → (l.mapM f).run P w = .ok (l.map g) w
  | [], _ => by simp
  | x :: l, h => by
    simp only [List.mapM_cons, Sem.run_bind, h x (by simp), Result.andThen_ok, run_mapM_list w l (fun y hy => h y (by simp [hy])), Sem.run_pure, List.map_cons]

theorem build_fill {h : Heap} {ev : Operand → Value} {fs : List (Nat × TypeId)} {place : Nat → Option (Nat × Nat)} (hty : ∀ t y, T.ty t = some y → TyOK X.P t y)
    (hpl : ∀ i off ft y, fs[i]? = some (off, ft) → T.ty ft = some y → place i = some (off, y.size)) : ∀ {is : List Nat} {xs : List Operand} {cs : List Cell} {p : Prop} {v : AV} {cells : Array Value}, is.length = xs.length →
    buildCells T fs cs is (xs.map ρ) = some (p, v) → (∀ x ∈ xs, AVOK own h s (ρ x) (ev x)) → CellsOK own h s cs cells.toList →
    ∃ r cs', Instr.fill place cells (is.zip (xs.map ev)) = some r ∧ v = .agg cs' ∧ CellsOK own h s cs' r.toList
  | [], [], cs, p, v, cells, _, hb, _, hc => by
    simp only [buildCells, List.map_nil, Option.some.injEq, Prod.mk.injEq] at hb
    obtain ⟨_, rfl⟩ := hb
    exact ⟨cells, cs, rfl, rfl, hc⟩
  | i :: is, x :: xs, cs, p, v, cells, hl, hb, hx, hc => by
    simp only [List.map_cons] at hb
    unfold buildCells at hb
    split at hb
    · rename_i off ft hf
      split at hb
      · rename_i y hy
        split at hb
        · rename_i new hnew
          split at hb
          · rename_i hle
            have hcx := avCells_ok hnew (hx x (by simp))
            have hlx := All2.length hcx
            have hlc := All2.length hc
            simp at hlx hlc
            obtain ⟨c', e1, e2⟩ := fill_one place cells i off y.size (ev x) (is.zip (xs.map ev)) (hpl i off ft y hf hy) (by omega) (by omega)
            have hc' : CellsOK own h s (cs.take off ++ new ++ cs.drop (off + new.length)) c'.toList := by
              rw [e2, ← hle.1]
              exact All2.append (All2.append (All2.take hc off) hcx) (All2.drop hc _)
            obtain ⟨r, cs', f1, f2, f3⟩ := build_fill hty hpl (by simpa using hl) hb (fun z hz => hx z (by simp [hz])) hc'
            exact ⟨r, cs', by simp only [List.map_cons, List.zip_cons_cons, e1]; exact f1, f2, f3⟩
          · cases hb
        · cases hb
      · cases hb
    · cases hb
  | [], _ :: _, _, _, _, _, hl, _, _, _ => by simp at hl
  | _ :: _, [], _, _, _, _, hl, _, _, _ => by simp at hl

theorem scal_cells {h : Heap} : ∀ {z : List Value}, (∀ v ∈ z, v.oneCell' = true) → CellsOK own h s (z.map fun v => Cell.d (.v v)) z
  | [], _ => .nil
  | v :: z, h3 => .cons (d_of_v v (h3 v (by simp))) (scal_cells fun x hx => h3 x (by simp [hx]))

theorem R_build {t : TypeId} {ps : Array (Nat × Operand)} (hty : ∀ t y, T.ty t = some y → TyOK X.P t y) (hx : ∀ q ∈ ps, AVOK own w.heap s (ρ q.2) (a.eval q.2)) (hf : opR T d ρ s.ob fresh im (.build t ps) = some (p, v)) :
    Computes X.P own w.heap s ⟨dst, .build t ps, type, pos, after, guard⟩ a.eval w v := by
  unfold opR at hf
  dsimp only at hf
  split at hf
  · rename_i sz by' ag eq fs z hyt
    split at hf
    · cases hf
    · rename_i hall
      have hall' : ∀ f ∈ fs, ∃ y, T.ty f.2 = some y := by
        intro f hf'
        have : fs.all (fun f => (T.ty f.2).isSome) = true := by
          cases hb : fs.all (fun f => (T.ty f.2).isSome) with
          | true => rfl
          | false => exact absurd hb hall
        exact Option.isSome_iff_exists.1 (List.all_eq_true.1 this f hf')
      have hyo := hty t _ hyt
      obtain ⟨⟨F, hu, hF⟩, _⟩ := hyo.2.2.2.2
      obtain ⟨zv, hz1, hz2⟩ := hyo.zeroV w
      have hF' : F.toList.map (fun f => (f.offset, f.type)) = fs := hF
      have hm : (F.mapM fun (f : Field) => (do pure (f.offset, ← sizeOf f.type) : Sem (Nat × Nat))).run X.P w = .ok (F.toList.map fun f => (f.offset, ((T.ty f.type).map (·.size)).getD 0)).toArray w := by
        rw [Array.mapM_eq_mapM_toList]
        simp only [Sem.run_map]
        rw [run_mapM_list (g := fun (f : Field) => (f.offset, ((T.ty f.type).map (·.size)).getD 0)) w F.toList (fun f hf' => ?_)]
        · rfl
        · obtain ⟨y, hy⟩ := hall' (f.offset, f.type) (by rw [← hF']; exact List.mem_map.2 ⟨f, hf', rfl⟩)
          simp only [Sem.run_bind, (hty _ y hy).size, Result.andThen_ok, Sem.run_pure, hy, Option.map_some, Option.getD_some]
      have hpl : ∀ i off ft y, fs[i]? = some (off, ft) → T.ty ft = some y → ((F.toList.map fun f => (f.offset, ((T.ty f.type).map (·.size)).getD 0)).toArray[i]?) = some (off, y.size) := fun i off ft y h1 h2 => by
        rw [← hF', List.getElem?_map] at h1
        cases hfi : F.toList[i]? with
        | none => rw [hfi] at h1; cases h1
        | some f =>
          rw [hfi] at h1
          simp only [Option.map_some, Option.some.injEq, Prod.mk.injEq] at h1
          have hfi' : F[i]? = some f := by simpa using hfi
          rw [List.getElem?_toArray, List.getElem?_map, hfi, Option.map_some, h1.1, h1.2, h2]
          rfl
      have hzc : CellsOK own w.heap s (z.map fun v => Cell.d (.v v)) zv.cells.toList := by
        rw [hz2]
        exact scal_cells hyo.2.2.1
      obtain ⟨r, cs', f1, rfl, f3⟩ := build_fill (X := X) (T := T) (ρ := ρ) (own := own) (s := s) (h := w.heap) (ev := a.eval) hty hpl (by simp) hf (fun x hx' => by
        obtain ⟨q, hq, rfl⟩ := List.mem_map.1 hx'
        exact hx q (by simpa using hq)) hzc
      refine ⟨.agg r, ?_, r, rfl, f3⟩
      have hzip : (ps.map fun (q : Nat × Operand) => (q.1, a.eval q.2)).toList = (ps.toList.map (·.1)).zip ((ps.toList.map (·.2)).map a.eval) := by
        simp only [Array.toList_map]
        generalize ps.toList = L
        induction L with
        | nil => rfl
        | cons q L ih => simp [ih]
      simp only [execOp, Instr.build, Sem.run_bind, hz1, Result.andThen_ok, run_underlying hu, hm, hzip, f1, Sem.run_pure]
  · cases hf
end

end Go.Own
