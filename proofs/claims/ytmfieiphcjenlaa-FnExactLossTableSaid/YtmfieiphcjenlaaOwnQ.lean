/-
  Own calculus, part Q: stores into boxes and into owned arrays. Conditions: as each theorem states them.
-/
import Derived.Test.YtmfieiphcjenlaaOwnP
namespace Go.Own
open Go
set_option linter.unusedVariables false
set_option linter.unusedSimpArgs false

section
variable {X : Ctx} {T : Tabs} {own own' : Id → List Nat} {s s' : St} {w : World} {a : Act} {ρ : Operand → AV} {h : Heap}
variable {dst : Option Nat} {type : TypeId} {pos : String} {after : Array Edge} {guard : Option (Nat × Bool)} {p : Prop} {v : AV} {d : Nat} {fresh im : Bool} {us : List (Id × Ob)}

theorem storeVar_run {P : Program} {t : TypeId} {y : TyI} (hy : TyOK P t y) {u : Value} (hu : u.cells.size = y.size) (h1 : ∀ v ∈ u.cells.toList, v.oneCell' = true) {b o : Nat} {c : Array Value} {e : TypeId} (hb : w.heap[b]? = some (.cells c e (0, 0))) (ho : o + y.size ≤ c.size) :
    (storeVar t ⟨b, o, none⟩ u).run P w = .ok () (w.setRow b (c.toList.take o ++ u.cells.toList ++ c.toList.drop (o + y.size)).toArray) := by
  have := run_storeCells_at P b o e u.cells.toList 0 c w hb (by simp; omega) h1
  simp only [Nat.add_zero] at this
  simp only [storeVar, Sem.run_bind, hy.size, Result.andThen_ok, hu, ne_eq, not_true_eq_false, if_false, this]
  rw [show u.cells.toList.length = y.size from by simpa using hu]

theorem cells_ones {cs : List Cell} {vs : List Value} (hc : CellsOK own h s cs vs) : ∀ v ∈ vs, v.oneCell' = true := by
  induction hc with
  | nil => simp
  | cons a _ ih => intro v hv; rcases List.mem_cons.1 hv with rfl | hv; exact CellOK.one a; exact ih v hv

theorem store_exec {P : Program} {t : TypeId} {x ad : Operand} {b o : Nat} {w' : World} (hv : a.eval ad = .pointer (some ⟨b, o, none⟩)) (hs : (storeVar t ⟨b, o, none⟩ (a.eval x)).run P w = .ok () w') :
    (execOp a.eval ⟨dst, .store t ad x, type, pos, after, guard⟩).run P w = .ok .skip w' := by
  simp only [execOp, hv, Instr.storeAt, Instr.sureAddr, Sem.run_bind, Sem.run_pure, Result.andThen_ok, hs]

/-- A row of an owned block is set: everything else is kept. -/
theorem ConcO.setRow_keeps {s1 : St} (c : ConcO X own s a w) {id : Id} {b : Nat} (hb : b ∈ own id) (cs : Array Value) {own' : Id → List Nat} (hown : ∀ i, i ≠ id → own' i = own i ∨ (s1.ob i = .dead ∧ own' i = [])) (hsub : ∀ x ∈ own' id, x ∈ own id ∨ ∃ i, s1.ob i = .dead ∧ own' i = [] ∧ x ∈ own i)
    (hbs : s1.bs = s.bs) (hrow : ∀ r, s.sl r ≠ .any → s1.sl r ≠ .any) (hob : ∀ i, i ≠ id → s1.ob i = s.ob i ∨ (s1.ob i = .dead))
    (htr : Trans own own' w.heap (w.setRow b cs).heap id (s.ob id) (s1.ob id)) : Keeps own own' w.heap (w.setRow b cs).heap s s1 := by
  have hoth : ∀ x, x ≠ b → (w.setRow b cs).heap[x]? = w.heap[x]? := fun x hx => setRow_other w b x cs hx
  refine ⟨hbs, fun x hx => ⟨⟨by simpa using hx.1, fun i hm => ?_⟩, hoth x fun e => hx.2 id (e ▸ hb)⟩, hrow, fun i hi => ?_⟩
  · by_cases hid : i = id
    · subst hid
      rcases hsub x hm with h1 | ⟨j, _, _, h1⟩
      · exact hx.2 _ h1
      · exact hx.2 _ h1
    · rcases hown i hid with h1 | ⟨_, h1⟩
      · rw [h1] at hm; exact hx.2 i hm
      · rw [h1] at hm; cases hm
  · by_cases hid : i = id
    · subst hid; exact htr
    · rcases hob i hid with h1 | h1
      · rcases hown i hid with h2 | ⟨h2, _⟩
        · rw [h1]; exact .same _ h2 fun x hx => hoth x fun e => hid (c.disj i id x hx (e ▸ hb))
        · rw [h2]; exact .dead _
      · rw [h1]; exact .dead _

theorem M_store_box {t : TypeId} {ad x : Operand} {y : TyI} {v' : AV} {us' : List (Id × Ob)} {cs cs0 : List Cell} {id : Id} {o : Nat} (hyo : TyOK X.P t y) (c : ConcO X own s a w) (hdn : dst = none)
    (had : AVOK own w.heap s (.one (.bptr id o)) (a.eval ad)) (hx : AVOK own w.heap s (ρ x) (a.eval x)) (hm : matAV s.ob (ρ x) = some (v', us')) (hcs : avCells v' = some cs) (hlen : cs.length = y.size) (ho : s.ob id = .box cs0) (hle : o + cs.length ≤ cs0.length) :
    Does X s a w ⟨dst, .store t ad x, type, pos, after, guard⟩ .unk (us' ++ [(id, .box (cs0.take o ++ cs ++ cs0.drop (o + cs.length)))]) := by
  subst hdn
  obtain ⟨m, ha⟩ := matAV_ok hm hx
  have c1 := m.conc c
  have hcells := avCells_ok hcs ha
  have ho1 : (s.put none .unk us').ob id = .box cs0 := by
    show updO s.ob us' id = _
    rcases m.look id with h1 | ⟨h1, _⟩
    · rw [h1, ho]
    · rw [h1] at ho; cases ho
  have had1 := AVOK.keep m.keeps had
  obtain ⟨hr, b, hb, hbo⟩ := had1
  rw [ho1] at hbo
  have hobj := c1.obs id
  rw [ho1] at hobj
  obtain ⟨b', cc, e, h1, h2, h3⟩ := hobj
  have : b' = b := by rw [h1] at hbo; simpa using hbo
  subst this
  have hl0 := All2.length h3
  have hlc := All2.length hcells
  simp at hl0 hlc
  have hrun := storeVar_run (w := w) hyo (u := a.eval x) (by omega) (cells_ones hcells) h2 (o := o) (by omega)
  rw [← hlen] at hrun
  have hown : ∀ i, i ≠ id → own i = own i ∨ ((s.put none .unk us').ob i = .dead ∧ own i = []) := fun _ _ => .inl rfl
  refine Does.of_skip (own' := own) (store_exec hb hrun) ?_
  have hput : s.put none .unk (us' ++ [(id, .box (cs0.take o ++ cs ++ cs0.drop (o + cs.length)))]) = (s.put none .unk us').put none .unk [(id, .box (cs0.take o ++ cs ++ cs0.drop (o + cs.length)))] := (put_put_none s none .unk us' _).symm
  rw [hput]
  have hob2 : ∀ i, ((s.put none .unk us').put none .unk [(id, Ob.box (cs0.take o ++ cs ++ cs0.drop (o + cs.length)))]).ob i = if i = id then Ob.box (cs0.take o ++ cs ++ cs0.drop (o + cs.length)) else (s.put none .unk us').ob i := fun i => by
    rw [St.put_ob]; rfl
  have k : Keeps own own w.heap (w.setRow b' ((cc.toList.take o ++ (a.eval x).cells.toList ++ cc.toList.drop (o + cs.length)).toArray)).heap (s.put none .unk us') ((s.put none .unk us').put none .unk [(id, Ob.box (cs0.take o ++ cs ++ cs0.drop (o + cs.length)))]) := by
    refine c1.setRow_keeps (id := id) (by rw [h1]; simp) _ (fun _ _ => .inl rfl) (fun x hx => .inl hx) rfl (fun r hr => hr) (fun i hi => .inl (by rw [hob2, if_neg hi])) ?_
    rw [ho1, hob2, if_pos rfl]
    exact .boxed _ _ rfl
  refine c1.turn (d := none) (av := .unk) (v := undef) k rfl rfl rfl (by simp) (fun x hx => by cases hx) (fun i x hx => by simpa using c.lt i x hx) c.nodup c.disj (fun i => ?_) trivial
  rw [hob2]
  by_cases hi : i = id
  · subst hi
    rw [if_pos rfl]
    refine ⟨b', _, e, h1, setRow_heap w b' cc _ e (0, 0) h2, ?_⟩
    have q1 := CellsOK.keep k h3
    have q2 := CellsOK.keep k hcells
    exact All2.append (All2.append (All2.take q1 o) q2) (All2.drop q1 (o + cs.length))
  · rw [if_neg hi]
    have := ObOK.keep (id := i) k (by rw [hob2, if_neg hi]) rfl (fun x hx => setRow_other w b' x _ fun e => hi (c.disj i id x hx (by rw [e, h1]; simp))) (c1.obs i)
    rw [hob2, if_neg hi] at this
    exact this

/-- Cells in the midst of a reading are replaced. -/
theorem RepsW.mid {W : Bool} {ds1 M ds2 N : List D} {v1 vM v2 vN : List Value} {F : List Nat} (r : RepsW W h (ds1 ++ (M ++ ds2)) (v1 ++ (vM ++ v2)) F) (h1 : ds1.length = v1.length) (hM : M.length = vM.length) {FN : List Nat} (rN : RepsW W h N vN FN) :
    ∃ F1 FM F2, F = F1 ++ (FM ++ F2) ∧ RepsW W h M vM FM ∧ RepsW W h (ds1 ++ (N ++ ds2)) (v1 ++ (vN ++ v2)) (F1 ++ (FN ++ F2)) := by
  obtain ⟨a1, a2, F1, G, e1, e2, r1, r2⟩ := RepsW.split _ _ r
  obtain ⟨b1, b2, FM, F2, e3, e4, r3, r4⟩ := RepsW.split _ _ r2
  have l1 := r1.length
  have l3 := r3.length
  obtain ⟨rfl, e5⟩ := List.append_inj e1 (by omega)
  rw [e3] at e5
  obtain ⟨rfl, rfl⟩ := List.append_inj e5 (by omega)
  exact ⟨F1, FM, F2, by rw [e2, e4], r3, r1.append (rN.append r4)⟩

theorem scal_foot {W : Bool} : ∀ {M : List D} {vs : List Value} {F : List Nat}, RepsW W h M vs F → (∀ x ∈ M, Scalar x) → F = []
  | [], vs, F, r, _ => by
    have := r.length
    cases vs with
    | nil => cases r; rfl
    | cons => simp at this
  | .v z :: M, vs, F, r, hM => by
    cases r with | v _ r => exact scal_foot r fun x hx => hM x (by simp [hx])
  | .sl a b :: M, vs, F, r, hM => False.elim (hM (.sl a b) (by simp))

theorem RepsW.scalUp {W W' : Bool} : ∀ {M : List D} {vs : List Value} {F : List Nat}, RepsW W h M vs F → (∀ x ∈ M, Scalar x) → RepsW W' h M vs F
  | [], vs, F, r, _ => by
    cases r; exact .nil
  | .v z :: M, vs, F, r, hM => by
    cases r with | v q r => exact .v q (r.scalUp fun x hx => hM x (by simp [hx]))
  | .sl a b :: M, vs, F, r, hM => False.elim (hM (.sl a b) (by simp))

/-- An element's cells in an array, taken apart. -/
theorem arr_parts {sz : Nat} {l : List (List D)} (hs : ∀ x ∈ l, x.length = sz) {i o n : Nat} (hi : i < l.length) (ho : o + n ≤ sz) :
    l.flatten = ((l.take i).flatten ++ (l.getD i []).take o) ++ ((((l.getD i []).drop o).take n) ++ ((l.getD i []).drop (o + n) ++ (l.drop (i + 1)).flatten)) ∧ ((l.take i).flatten ++ (l.getD i []).take o).length = i * sz + o ∧
      (((l.getD i []).drop o).take n).length = n ∧ ∀ ds : List D, (l.set i ((l.getD i []).take o ++ ds ++ (l.getD i []).drop (o + n))).flatten = ((l.take i).flatten ++ (l.getD i []).take o) ++ (ds ++ ((l.getD i []).drop (o + n) ++ (l.drop (i + 1)).flatten)) := by
  obtain ⟨h1, h2⟩ := flatten_at l sz i hs hi
  have hget : l.getD i [] = l[i] := by simp [List.getD_eq_getElem?_getD, hi]
  have hli : l[i].length = sz := hs _ (List.getElem_mem hi)
  rw [hget]
  refine ⟨?_, ?_, ?_, fun ds => ?_⟩
  · rw [h1]
    conv => lhs; rw [← List.take_append_drop o l[i], ← List.take_append_drop n (l[i].drop o), List.drop_drop]
    simp [List.append_assoc]
  · rw [List.length_append, h2, List.length_take, hli]; omega
  · rw [List.length_take, List.length_drop, hli]; omega
  · rw [List.set_eq_take_append_cons_drop, if_pos hi]
    simp [List.append_assoc]

/-- The cells of the row behind a store, against the array's new contents. -/
theorem ArrB.stored {W : Bool} {sz : Nat} {l : List (List D)} {cap : Nat} {c : Array Value} {G : List Nat} (a5 : c.size = cap * sz) (a3 : l.length ≤ cap) (a6 : ∀ x ∈ l, x.length = sz)
    (a7 : RepsW W h l.flatten (c.toList.take (l.length * sz)) G) {i o : Nat} (hi : i < l.length) {ds : List D} {xs : List Value} {FN : List Nat} (ho : o + ds.length ≤ sz) (hx : RepsW W h ds xs FN) :
    ∃ F1 FM F2, G = F1 ++ (FM ++ F2) ∧ RepsW W h (((l.getD i []).drop o).take ds.length) ((c.toList.drop (i * sz + o)).take ds.length) FM ∧
      RepsW W h (l.set i ((l.getD i []).take o ++ ds ++ (l.getD i []).drop (o + ds.length))).flatten (((c.toList.take (i * sz + o) ++ xs ++ c.toList.drop (i * sz + o + ds.length))).take (l.length * sz)) (F1 ++ (FN ++ F2)) := by
  obtain ⟨p1, p2, p3, p4⟩ := arr_parts a6 hi ho
  have hle : (i + 1) * sz ≤ l.length * sz := Nat.mul_le_mul_right _ hi
  rw [Nat.add_mul] at hle
  have hcs : l.length * sz ≤ c.size := by rw [a5]; exact Nat.mul_le_mul_right _ a3
  have hv : c.toList.take (l.length * sz) = c.toList.take (i * sz + o) ++ ((c.toList.drop (i * sz + o)).take ds.length ++ (c.toList.take (l.length * sz)).drop (i * sz + o + ds.length)) := by
    conv => lhs; rw [← List.take_append_drop (i * sz + o) (c.toList.take (l.length * sz)), ← List.take_append_drop ds.length ((c.toList.take (l.length * sz)).drop (i * sz + o)), List.drop_drop]
    rw [List.take_take, Nat.min_eq_left (by omega), List.drop_take, List.take_take, Nat.min_eq_left (by omega)]
  rw [p1, hv] at a7
  have hxl := hx.length
  obtain ⟨F1, FM, F2, q1, q2, q3⟩ := RepsW.mid a7 (by rw [p2]; simp; omega) (by rw [p3]; simp; omega) hx
  refine ⟨F1, FM, F2, q1, q2, ?_⟩
  rw [p4 ds]
  have : ((c.toList.take (i * sz + o) ++ xs ++ c.toList.drop (i * sz + o + ds.length))).take (l.length * sz) = c.toList.take (i * sz + o) ++ (xs ++ (c.toList.take (l.length * sz)).drop (i * sz + o + ds.length)) := by
    have l1 : (c.toList.take (i * sz + o)).length = i * sz + o := by simp; omega
    have l2 : (c.toList.take (i * sz + o) ++ xs).length = i * sz + o + ds.length := by rw [List.length_append, l1]; omega
    have e1 : l.length * sz = (c.toList.take (i * sz + o) ++ xs).length + (l.length * sz - (i * sz + o + ds.length)) := by omega
    conv => lhs; rw [e1, List.take_length_add_append]
    rw [List.append_assoc, List.drop_take]
  rw [this]
  exact q3

theorem M_store_arr {t : TypeId} {ad x : Operand} {y : TyI} {cs : List Cell} {ds : List D} {id : Id} {i o sz dp : Nat} {l : List (List D)} (hyo : TyOK X.P t y) (c : ConcO X own s a w) (hdn : dst = none)
    (had : AVOK own w.heap s (.one (.optr id i o)) (a.eval ad)) (hcells : CellsOK own w.heap s cs (a.eval x).cells.toList) (hlen : cs.length = y.size) (ho : s.ob id = .arr sz l dp) (hds : scalCells cs = some ds)
    (hp : i < l.length ∧ o + ds.length ≤ sz ∧ ∀ x ∈ ((l.getD i []).drop o).take ds.length, Scalar x) :
    Does X s a w ⟨dst, .store t ad x, type, pos, after, guard⟩ .unk [(id, .arr sz (l.set i ((l.getD i []).take o ++ ds ++ (l.getD i []).drop (o + ds.length))) (min dp 1))] := by
  subst hdn
  obtain ⟨hr, b, oo, hv, si, hoo, hb⟩ := had
  rw [ho] at hb
  obtain ⟨rfl, cap, hb⟩ := hb
  subst hoo
  obtain ⟨hi, hole, hsc⟩ := hp
  obtain ⟨cc, e, G, a1, a2, a3, a4, a5, a6, a7, a8⟩ := _root_.id hb
  obtain ⟨g1, g2, g3⟩ := scalCells_ok hds hcells
  have hlc := All2.length hcells
  simp at hlc
  have hle : (i + 1) * sz ≤ cap * sz := Nat.mul_le_mul_right _ (by omega)
  rw [Nat.add_mul] at hle
  have hrun := storeVar_run (w := w) hyo (u := a.eval x) (by omega) (cells_ones hcells) a2 (o := i * sz + o) (by omega)
  refine Does.of_skip (own' := own) (store_exec hv hrun) ?_
  have hbo : b ∈ own id := by rw [a1]; simp
  have hnd := c.nodup id
  have hbG : b ∉ G := by
    by_cases h0 : dp = 0
    · intro hm; exact (a8 h0 b hm).2 id hbo
    · rw [a1] at hnd; simp only [h0, if_false, List.nodup_cons] at hnd; exact hnd.1
  have hnewlen : ∀ z ∈ l.set i ((l.getD i []).take o ++ ds ++ (l.getD i []).drop (o + ds.length)), z.length = sz := fun z hz => by
    rcases List.mem_or_eq_of_mem_set hz with hz | rfl
    · exact a6 z hz
    · have hget : l.getD i [] = l[i] := by simp [List.getD_eq_getElem?_getD, hi]
      have hli : (l.getD i []).length = sz := by rw [hget]; exact a6 _ (List.getElem_mem hi)
      simp only [List.length_append, List.length_take, List.length_drop, hli]
      omega
  have hob2 : ∀ j, (s.put none .unk [(id, Ob.arr sz (l.set i ((l.getD i []).take o ++ ds ++ (l.getD i []).drop (o + ds.length))) (min dp 1))]).ob j = if j = id then Ob.arr sz (l.set i ((l.getD i []).take o ++ ds ++ (l.getD i []).drop (o + ds.length))) (min dp 1) else s.ob j := fun j => by
    rw [St.put_ob]; rfl
  have hds' : ds.length = y.size := by omega
  have k : Keeps own own w.heap (w.setRow b ((cc.toList.take (i * sz + o) ++ (a.eval x).cells.toList ++ cc.toList.drop (i * sz + o + y.size)).toArray)).heap s (s.put none .unk [(id, Ob.arr sz (l.set i ((l.getD i []).take o ++ ds ++ (l.getD i []).drop (o + ds.length))) (min dp 1))]) := by
    refine c.setRow_keeps (id := id) hbo _ (fun _ _ => .inl rfl) (fun x hx => .inl hx) rfl (fun r hr => hr) (fun j hj => .inl (by rw [hob2, if_neg hj])) ?_
    rw [ho, hob2, if_pos rfl]
    refine .upd _ _ _ _ _ (fun hh => hh) (by simp) (fun b2 cap2 hb2 => ?_) (fun h2 => by omega)
    obtain ⟨c2, e2, G2, f1, f2, f3, f4, f5, f6, f7, f8⟩ := hb2
    have : b2 = b := by rw [a1] at f1; simpa using (List.cons.inj f1).1.symm
    subst this
    rw [a2] at f2
    simp only [Option.some.injEq, Obj.cells.injEq] at f2
    obtain ⟨rfl, rfl, _⟩ := f2
    obtain ⟨F1, FM, F2, q1, q2, q3⟩ := ArrB.stored f5 f3 f6 f7 hi hole g3
    have hFM := scal_foot q2 hsc
    subst hFM
    simp only [List.nil_append] at q1 q3
    have hG2 : b2 ∉ G2 := by
      by_cases h0 : dp = 0
      · intro hm; exact (f8 h0 b2 hm).2 id hbo
      · rw [f1] at hnd; simp only [h0, if_false, List.nodup_cons] at hnd; exact hnd.1
    refine ⟨_, e, F1 ++ F2, ?_, setRow_heap w b2 cc _ e (0, 0) a2, by simpa using f3, f4, ?_, hnewlen, ?_, fun h0 x hx => ?_⟩
    · rw [f1, q1]
      by_cases h0 : dp = 0
      · simp [h0]
      · have : ¬ min dp 1 = 0 := by omega
        simp [h0, this]
    · have hlx : (a.eval x).cells.toList.length = y.size := by simp; omega
      simp only [List.size_toArray, List.length_append, List.length_take, List.length_drop, hlx]
      simp only [Array.length_toList]
      omega
    · rw [List.length_set, ← hds', show (min dp 1 != 0) = (dp != 0) by cases dp <;> simp [Nat.min_def]; try omega]
      refine q3.frame fun x hx => setRow_other w b2 x _ fun e => hG2 (by rw [q1]; exact e ▸ hx)
    · have hx' := f8 (by omega) x (by rw [q1]; exact hx)
      exact ⟨by simpa using hx'.1, hx'.2⟩
  refine c.turn (d := none) (av := .unk) (v := undef) k rfl rfl rfl (by simp) (fun x hx => by cases hx) (fun j x hx => by simpa using c.lt j x hx) c.nodup c.disj (fun j => ?_) trivial
  rw [hob2]
  by_cases hj : j = id
  · rw [if_pos hj]; trivial
  · rw [if_neg hj]
    have := ObOK.keep (id := j) k (by rw [hob2, if_neg hj]) rfl (fun x hx => setRow_other w b x _ fun e => hj (c.disj j id x hx (by rw [e]; exact hbo))) (c.obs j)
    rw [hob2, if_neg hj] at this
    exact this

theorem nodup_mid {A M B N : List Nat} {b : Nat} (h1 : (b :: (A ++ (M ++ B))).Nodup) (h2 : N.Nodup) (h3 : ∀ x ∈ N, x ∉ b :: (A ++ (M ++ B))) : (b :: (A ++ (N ++ B))).Nodup := by
  simp only [List.nodup_cons, List.nodup_append, List.mem_append, List.mem_cons, not_or] at *
  obtain ⟨⟨p1, p2, p3⟩, p4, ⟨p5, p6, p7⟩, p8⟩ := h1
  refine ⟨⟨p1, fun hm => (h3 b hm).1 rfl, p3⟩, p4, ⟨h2, p6, fun x hx y hy => ?_⟩, fun x hx y hy => ?_⟩
  · intro e; subst e; exact (h3 x hx).2.2.2 hy
  · rcases hy with hy | hy
    · intro e; subst e; exact (h3 x hy).2.1 hx
    · exact p8 x hx y (.inr hy)

/-- A fresh slice is moved into an owned array. -/
theorem M_store_own {t : TypeId} {ad x : Operand} {y : TyI} {id id2 : Id} {i o sz s2 dp2 : Nat} {l l2 : List (List D)} (hyo : TyOK X.P t y) (c : ConcO X own s a w) (hdn : dst = none) (hsz : y.size = 1)
    (had : AVOK own w.heap s (.one (.optr id i o)) (a.eval ad)) (hx : CellOK own w.heap s (.fr id2 s2 l2 dp2) (a.eval x)) (ho : s.ob id = .arr sz l 1) (ho2 : s.ob id2 = .none)
    (hp : i < l.length ∧ o < sz ∧ dp2 ≠ 0 ∧ id2 ≠ id) :
    Does X s a w ⟨dst, .store t ad x, type, pos, after, guard⟩ .unk [(id2, .dead), (id, .arr sz (l.set i ((l.getD i []).set o (.sl s2 l2))) 1)] := by
  subst hdn
  obtain ⟨hr, b, oo, hv, si, hoo, hb⟩ := had
  rw [ho] at hb
  obtain ⟨rfl, cap, hb⟩ := hb
  subst hoo
  obtain ⟨hi, hole, hdp2, hne⟩ := hp
  obtain ⟨cc, e, G, a1, a2, a3, a4, a5, a6, a7, a8⟩ := _root_.id hb
  simp only [Nat.one_ne_zero, if_false] at a1
  have hx1 := hx.1
  obtain ⟨FN, rN, hFN⟩ : ∃ FN, RepsW true w.heap [.sl s2 l2] [a.eval x] FN ∧ FN = own id2 := ArrOK.repsW (hx.2.2 ho2) hdp2
  have hcell := cells_one hx1
  have hle : (i + 1) * sz ≤ cap * sz := Nat.mul_le_mul_right _ (by omega)
  rw [Nat.add_mul] at hle
  have hrun := storeVar_run (w := w) hyo (u := a.eval x) (by rw [hcell, hsz]; rfl) (by rw [hcell]; simpa using hx1) a2 (o := i * sz + o) (by omega)
  have hbo : b ∈ own id := by rw [a1]; simp
  obtain ⟨F1, FM, F2, q1, q2, q3⟩ := ArrB.stored (W := true) a5 a3 a6 a7 hi (o := o) (ds := [.sl s2 l2]) (by simp only [List.length_cons, List.length_nil]; omega) rN
  have hset : (l.getD i []).take o ++ [D.sl s2 l2] ++ (l.getD i []).drop (o + [D.sl s2 l2].length) = (l.getD i []).set o (.sl s2 l2) := by
    have hget : l.getD i [] = l[i] := by simp [List.getD_eq_getElem?_getD, hi]
    have hli : (l.getD i []).length = sz := by rw [hget]; exact a6 _ (List.getElem_mem hi)
    rw [List.set_eq_take_append_cons_drop, if_pos (by omega)]
    simp
  rw [hset] at q3
  obtain ⟨own2, hown2⟩ : ∃ o2 : Id → List Nat, o2 = fun j => if j = id then b :: (F1 ++ (FN ++ F2)) else if j = id2 then [] else own j := ⟨_, rfl⟩
  have hown_id : own2 id = b :: (F1 ++ (FN ++ F2)) := by rw [hown2]; simp
  have hown_id2 : own2 id2 = [] := by rw [hown2]; simp [hne]
  have hown_j : ∀ j, j ≠ id → j ≠ id2 → own2 j = own j := fun j h1 h2 => by rw [hown2]; simp [h1, h2]
  have hsub : ∀ z ∈ own2 id, z ∈ own id ∨ z ∈ own id2 := fun z hz => by
    rw [hown_id] at hz
    rw [a1, q1, ← hFN]
    simp only [List.mem_cons, List.mem_append] at hz ⊢
    rcases hz with h | h | h | h
    · exact .inl (.inl h)
    · exact .inl (.inr (.inl h))
    · exact .inr h
    · exact .inl (.inr (.inr (.inr h)))
  refine Does.of_skip (own' := own2) (store_exec hv hrun) ?_
  have hnd := c.nodup id
  rw [a1, q1] at hnd
  have hob2 : ∀ j, (s.put none .unk [(id2, Ob.dead), (id, Ob.arr sz (l.set i ((l.getD i []).set o (.sl s2 l2))) 1)]).ob j = if j = id then Ob.arr sz (l.set i ((l.getD i []).set o (.sl s2 l2))) 1 else if j = id2 then .dead else s.ob j := fun j => by
    rw [St.put_ob]; rfl
  have hnewlen : ∀ z ∈ l.set i ((l.getD i []).set o (.sl s2 l2)), z.length = sz := fun z hz => by
    rcases List.mem_or_eq_of_mem_set hz with hz | rfl
    · exact a6 z hz
    · have hget : l.getD i [] = l[i] := by simp [List.getD_eq_getElem?_getD, hi]
      rw [List.length_set, hget]; exact a6 _ (List.getElem_mem hi)
  have k : Keeps own own2 w.heap (w.setRow b ((cc.toList.take (i * sz + o) ++ (a.eval x).cells.toList ++ cc.toList.drop (i * sz + o + y.size)).toArray)).heap s (s.put none .unk [(id2, Ob.dead), (id, Ob.arr sz (l.set i ((l.getD i []).set o (.sl s2 l2))) 1)]) := by
    refine c.setRow_keeps (id := id) hbo _ (fun j hj => ?_) (fun z hz => ?_) rfl (fun r hr => hr) (fun j hj => ?_) ?_
    · by_cases h2 : j = id2
      · subst h2; exact .inr ⟨by rw [hob2, if_neg hne, if_pos rfl], hown_id2⟩
      · exact .inl (hown_j j hj h2)
    · rcases hsub z hz with h | h
      · exact .inl h
      · exact .inr ⟨id2, by rw [hob2, if_neg hne, if_pos rfl], hown_id2, h⟩
    · by_cases h2 : j = id2
      · subst h2; exact .inr (by rw [hob2, if_neg hne, if_pos rfl])
      · exact .inl (by rw [hob2, if_neg hj, if_neg h2])
    · rw [ho, hob2, if_pos rfl]
      refine .upd _ _ _ _ _ (fun hh => by rw [a1] at hh; cases hh) (by simp) (fun b2 cap2 hb2 => ?_) (fun h2 => by cases h2)
      obtain ⟨c2, e2, G2, f1, f2, f3, f4, f5, f6, f7, f8⟩ := hb2
      have : b2 = b := by rw [a1] at f1; simpa using (List.cons.inj f1).1.symm
      subst this
      rw [a2] at f2
      simp only [Option.some.injEq, Obj.cells.injEq] at f2
      obtain ⟨rfl, rfl, _⟩ := f2
      refine ⟨_, e, F1 ++ (FN ++ F2), by rw [hown_id]; rfl, setRow_heap w b2 cc _ e (0, 0) a2, by simpa using f3, f4, ?_, hnewlen, ?_, fun h0 => by cases h0⟩
      · rw [hcell]
        simp only [List.size_toArray, List.length_append, List.length_take, List.length_drop, Array.length_toList]
        simp only [List.length_cons, List.length_nil, hsz]
        omega
      · rw [List.length_set, hcell, hsz]
        refine q3.frame fun z hz => setRow_other w b2 z _ fun e => ?_
        subst e
        simp only [List.nodup_cons, List.mem_append, not_or] at hnd
        simp only [List.mem_append] at hz
        rcases hz with hz | hz | hz
        · exact hnd.1.1 hz
        · exact hne (c.disj id2 id z (by rw [← hFN]; exact hz) hbo)
        · exact hnd.1.2.2 hz
  refine c.turn (d := none) (av := .unk) (v := undef) k rfl rfl rfl (by simp) (fun x hx => by cases hx) (fun j z hz => ?_) (fun j => ?_) (fun j j' z h1 h2 => ?_) (fun j => ?_) trivial
  · by_cases hj : j = id
    · subst hj
      rcases hsub z hz with h | h
      · simpa using c.lt _ z h
      · simpa using c.lt _ z h
    · by_cases h2 : j = id2
      · subst h2; rw [hown_id2] at hz; cases hz
      · rw [hown_j j hj h2] at hz; simpa using c.lt j z hz
  · by_cases hj : j = id
    · subst hj
      rw [hown_id]
      refine nodup_mid hnd (by rw [hFN]; exact c.nodup id2) fun z hz hm => ?_
      exact hne (c.disj id2 _ z (by rw [← hFN]; exact hz) (by rw [a1, q1]; exact hm))
    · by_cases h2 : j = id2
      · subst h2; rw [hown_id2]; simp
      · rw [hown_j j hj h2]; exact c.nodup j
  · have key : ∀ j z, z ∈ own2 j → (j = id ∧ (z ∈ own id ∨ z ∈ own id2)) ∨ (j ≠ id ∧ j ≠ id2 ∧ z ∈ own j) := fun j z hz => by
      by_cases hj : j = id
      · subst hj; exact .inl ⟨rfl, hsub z hz⟩
      · by_cases h2 : j = id2
        · subst h2; rw [hown_id2] at hz; cases hz
        · rw [hown_j j hj h2] at hz; exact .inr ⟨hj, h2, hz⟩
    rcases key j z h1 with ⟨rfl, h | h⟩ | ⟨n1, n2, h⟩
    · rcases key j' z h2 with ⟨rfl, _⟩ | ⟨m1, m2, h'⟩
      · rfl
      · exact c.disj _ _ z h h'
    · rcases key j' z h2 with ⟨rfl, _⟩ | ⟨m1, m2, h'⟩
      · rfl
      · exact absurd (c.disj _ _ z h' h) m2
    · rcases key j' z h2 with ⟨rfl, h' | h'⟩ | ⟨m1, m2, h'⟩
      · exact c.disj _ _ z h h'
      · exact absurd (c.disj _ _ z h h') n2
      · exact c.disj _ _ z h h'
  · rw [hob2]
    by_cases hj : j = id
    · rw [if_pos hj]; trivial
    · by_cases h2 : j = id2
      · rw [if_neg hj, if_pos h2]; trivial
      · rw [if_neg hj, if_neg h2]
        have := ObOK.keep (id := j) k (by rw [hob2, if_neg hj, if_neg h2]) (hown_j j hj h2) (fun x hx => setRow_other w b x _ fun e => hj (c.disj j id x hx (by rw [e]; exact hbo))) (c.obs j)
        rw [hob2, if_neg hj, if_neg h2] at this
        exact this

theorem scal_move {own1 : Id → List Nat} {h1 : Heap} : ∀ {cs : List Cell} {ds : List D} {vs : List Value} {s1 s2 : St}, scalCells cs = some ds → CellsOK own1 h1 s1 cs vs → CellsOK own1 h1 s2 cs vs := by
  intro cs
  induction cs with
  | nil => intro ds vs s1 s2 _ h2; cases h2; exact .nil
  | cons cc cs ih =>
    intro ds vs s1 s2 h1 h2
    simp only [scalCells] at h1
    split at h1
    · rename_i z l f1 f2
      cases h2 with
      | cons h3 h4 =>
        refine .cons ?_ (ih f2 h4)
        cases cc with
        | d => exact h3
        | _ => simp [scalCell] at f1
    · cases h1

theorem isl_parts {id : Id} {i o sz : Nat} {l : List (List D)} {s0 : Nat} {r : List (List D)} {x : Value} (ho : s.ob id = .arr sz l 2) (hD : (l.getD i []).getD o default = .sl s0 r) (hx : IslOK own h s id i o x) :
    ∃ b cap c e F1 FM F2 v1 v4 pre post, own id = b :: (F1 ++ (FM ++ F2)) ∧ h[b]? = some (.cells c e (0, 0)) ∧ l.length ≤ cap ∧ cap ≤ maxLen ∧ c.size = cap * sz ∧ (∀ x ∈ l, x.length = sz) ∧ c.toList.take (l.length * sz) = v1 ++ ([x] ++ v4) ∧
      RepsW true h pre v1 F1 ∧ RepsW true h [.sl s0 r] [x] FM ∧ RepsW true h post v4 F2 ∧ (∀ z, (l.set i ((l.getD i []).set o z)).flatten = pre ++ ([z] ++ post)) ∧ (∀ z, ∀ y ∈ l.set i ((l.getD i []).set o z), y.length = sz) := by
  have hA := hx.2.2
  rw [ho] at hA
  obtain ⟨b, cap, c, e, hB, hb, hoz, hil, hcx⟩ := hA rfl
  obtain ⟨c1, e1, G, f1, f2, f3, f4, f5, f6, f7, f8⟩ := hB
  rw [hb] at f2
  simp only [Option.some.injEq, Obj.cells.injEq] at f2
  obtain ⟨rfl, rfl, _⟩ := f2
  rw [if_neg (by decide)] at f1
  have f7' : RepsW true h l.flatten (c.toList.take (l.length * sz)) G := f7
  obtain ⟨p1, p2, p3, p4⟩ := arr_parts f6 hil (o := o) (n := 1) (by omega)
  have hget : l.getD i [] = l[i] := by simp [List.getD_eq_getElem?_getD, hil]
  have hli : (l.getD i []).length = sz := by rw [hget]; exact f6 _ (List.getElem_mem hil)
  have hone : ((l.getD i []).drop o).take 1 = [.sl s0 r] := by
    rw [List.drop_eq_getElem_cons (by omega)]
    simp only [List.take_succ_cons, List.take_zero, List.cons.injEq, and_true]
    rw [← hD]; simp only [List.getD_eq_getElem?_getD (l := l.getD i []), List.getElem?_eq_getElem (show o < (l.getD i []).length by omega), Option.getD_some]
  rw [hone] at p1 p3
  rw [p1] at f7'
  obtain ⟨v1, v2, F1, G2, g1, g2, r1, r2⟩ := RepsW.split _ _ f7'
  obtain ⟨v3, v4, FM, F2, g3, g4, r3, r4⟩ := RepsW.split _ _ r2
  subst g2 g4
  have l1 := r1.length
  have l3 := r3.length
  rw [p2] at l1
  match v3, l3 with
  | [y], _ =>
    have hle : (i + 1) * sz ≤ l.length * sz := Nat.mul_le_mul_right _ hil
    rw [Nat.add_mul] at hle
    have hy : y = x := by
      have : (c.toList.take (l.length * sz))[i * sz + o]? = some y := by rw [g1, g3, List.getElem?_append_right (by omega), ← l1]; simp
      rw [List.getElem?_take_of_lt (by omega)] at this
      have h2 : c.toList[i * sz + o]? = some x := by simpa using hcx
      rw [h2] at this; exact (Option.some.inj this).symm
    subst hy
    refine ⟨b, cap, c, e, F1, FM, F2, v1, v4, _, _, f1, hb, f3, f4, f5, f6, by rw [g1, g3], r1, r3, r4, fun z => ?_, fun z q hq => ?_⟩
    · have hset : (l.getD i []).take o ++ [z] ++ (l.getD i []).drop (o + 1) = (l.getD i []).set o z := by
        rw [List.set_eq_take_append_cons_drop, if_pos (by omega)]; simp
      rw [← hset]; exact p4 [z]
    · rcases List.mem_or_eq_of_mem_set hq with hq | rfl
      · exact f6 q hq
      · rw [List.length_set]; exact hli

/-- A store into a slice that lies in an owned array. -/
theorem M_store_nest {t : TypeId} {ad x : Operand} {y : TyI} {cs : List Cell} {ds : List D} {id : Id} {i o s0 j sz : Nat} {l r : List (List D)} (hyo : TyOK X.P t y) (c : ConcO X own s a w) (hdn : dst = none)
    (had : AVOK own w.heap s (.one (.nptr id i o s0 j)) (a.eval ad)) (hcells : CellsOK own w.heap s cs (a.eval x).cells.toList) (hlen : cs.length = y.size) (ho : s.ob id = .arr sz l 2) (hds : scalCells cs = some ds) (hD : (l.getD i []).getD o default = .sl s0 r)
    (hp : ds.length = s0 ∧ j < r.length ∧ ∀ x ∈ r.getD j [], Scalar x) :
    Does X s a w ⟨dst, .store t ad x, type, pos, after, guard⟩ .unk [(id, .arr sz (l.set i ((l.getD i []).set o (.sl s0 (r.set j ds)))) 2)] := by
  subst hdn
  obtain ⟨b0, len, cap0, hv, hjl, hisl⟩ := had
  obtain ⟨hdl, hj, hsc⟩ := hp
  obtain ⟨b, cap, c0, e0, F1, FM, F2, v1, v4, pre, post, f1, f2, f3, f4, f5, f6, f7, r1, r3, r4, hset, hsetl⟩ := isl_parts ho hD hisl
  have hnd := c.nodup id
  rw [f1] at hnd
  obtain ⟨g1, g2, g3⟩ := scalCells_ok (W := true) hds hcells
  have hlc := All2.length hcells
  simp at hlc
  cases r3 with
  | none => simp at hj
  | sl q hb0 h1 h2 h3 h4 h5 h6 =>
    rename_i cc e fz G FF
    cases h6
    obtain ⟨-, rfl, hcs⟩ := q rfl
    have hbo : b0 ∈ own id := by rw [f1]; simp
    have hbne : b ≠ b0 := fun e => by
      subst e
      exact (List.nodup_cons.1 hnd).1 (by simp)
    have hjc : (j + 1) * s0 ≤ cap0 * s0 := Nat.mul_le_mul_right _ (by omega)
    rw [Nat.add_mul] at hjc
    have hrun := storeVar_run (w := w) hyo (u := a.eval x) (by omega) (cells_ones hcells) hb0 (o := j * s0) (by omega)
    refine Does.of_skip (own' := own) (store_exec hv hrun) ?_
    have hds' : ds.length = y.size := by omega
    have hlx : (a.eval x).cells.toList.length = y.size := by simp; omega
    obtain ⟨A1, AM, A2, q1, q2, q3⟩ := ArrB.stored (W := true) (o := 0) hcs h1 h4 (by simpa using h5) hj (ds := ds) (by omega) g3
    have hget : r.getD j [] = r[j] := by simp [List.getD_eq_getElem?_getD, hj]
    have hrj : (r.getD j []).length = s0 := by rw [hget]; exact h4 _ (List.getElem_mem hj)
    have hAM := scal_foot q2 (fun z hz => hsc z (List.mem_of_mem_drop (List.mem_of_mem_take hz)))
    subst hAM
    simp only [List.nil_append] at q1 q3
    have hnew : (r.getD j []).take 0 ++ ds ++ (r.getD j []).drop (0 + ds.length) = ds := by
      rw [List.drop_of_length_le (by omega)]; simp
    rw [hnew, Nat.add_zero] at q3
    subst q1
    have hG : b0 ∉ A1 ++ A2 := by
      simp only [List.nodup_cons, List.nodup_append, List.cons_append, List.mem_append, List.mem_cons, not_or, List.append_nil] at hnd ⊢
      exact hnd.2.2.1.1.1
    have hF1 : b0 ∉ F1 := fun hm => by
      simp only [List.nodup_cons, List.nodup_append] at hnd
      exact hnd.2.2.2 b0 hm b0 (by simp) rfl
    have hF2 : b0 ∉ F2 := fun hm => by
      simp only [List.nodup_cons, List.nodup_append] at hnd
      exact hnd.2.2.1.2.2 b0 (by simp) b0 hm rfl
    have hob2 : ∀ k, (s.put none .unk [(id, Ob.arr sz (l.set i ((l.getD i []).set o (.sl s0 (r.set j ds)))) 2)]).ob k = if k = id then Ob.arr sz (l.set i ((l.getD i []).set o (.sl s0 (r.set j ds)))) 2 else s.ob k := fun k => by
      rw [St.put_ob]; rfl
    have hoth : ∀ z (cs : Array Value), z ≠ b0 → (w.setRow b0 cs).heap[z]? = w.heap[z]? := fun z cs hz => setRow_other w b0 z cs hz
    have k : Keeps own own w.heap (w.setRow b0 ((cc.toList.take (j * s0) ++ (a.eval x).cells.toList ++ cc.toList.drop (j * s0 + y.size)).toArray)).heap s (s.put none .unk [(id, Ob.arr sz (l.set i ((l.getD i []).set o (.sl s0 (r.set j ds)))) 2)]) := by
      refine c.setRow_keeps (id := id) hbo _ (fun _ _ => .inl rfl) (fun x hx => .inl hx) rfl (fun r hr => hr) (fun j hj => .inl (by rw [hob2, if_neg hj])) ?_
      rw [ho, hob2, if_pos rfl]
      refine .upd _ _ _ _ _ (fun hh => hh) (by simp) (fun b2 cap2 hb2 => ?_) (fun _ => ⟨rfl, fun z hz => ?_⟩)
      · obtain ⟨c2, e2, G2, k1, k2, k3, k4, k5, k6, k7, k8⟩ := hb2
        have : b2 = b := by rw [f1] at k1; simpa using (List.cons.inj k1).1.symm
        subst this
        rw [f2] at k2
        simp only [Option.some.injEq, Obj.cells.injEq] at k2
        obtain ⟨rfl, rfl, _⟩ := k2
        refine ⟨c0, e0, F1 ++ (b0 :: (A1 ++ A2 ++ []) ++ F2), by rw [f1]; simp, by rw [hoth _ _ hbne]; exact f2, by simpa using k3, k4, k5, hsetl _, ?_, fun h0 => by cases h0⟩
        show RepsW true _ _ _ _
        rw [hset, List.length_set, f7]
        refine (r1.frame fun z hz => hoth z _ fun e => hF1 (e ▸ hz)).append (RepsW.append ?_ (r4.frame fun z hz => hoth z _ fun e => hF2 (e ▸ hz)))
        have hl' : (r.set j ds).length = r.length := List.length_set ..
        rw [← hl']
        refine .sl (fun _ => ⟨rfl, rfl, ?_⟩) (setRow_heap w b0 cc _ e (0, 0) hb0) (by rw [hl']; exact h1) h2 ?_ (fun z hz => ?_) ?_ .nil
        · simp only [List.size_toArray, List.length_append, List.length_take, List.length_drop, hlx]
          simp only [Array.length_toList]
          omega
        · rw [hl']
          simp only [List.size_toArray, List.length_append, List.length_take, List.length_drop, hlx]
          simp only [Array.length_toList]
          omega
        · rcases List.mem_or_eq_of_mem_set hz with hz | rfl
          · exact h4 z hz
          · exact hdl
        · rw [hl', List.drop_zero, ← hds']
          exact q3.frame fun z hz => hoth z _ fun e => hG (e ▸ hz)
      · rw [f1] at hz
        simp only [List.head?_cons, Option.mem_def, Option.some.injEq] at hz
        subst hz
        exact hoth _ _ hbne
    refine c.turn (d := none) (av := .unk) (v := undef) k rfl rfl rfl (by simp) (fun x hx => by cases hx) (fun j x hx => by simpa using c.lt j x hx) c.nodup c.disj (fun j => ?_) trivial
    rw [hob2]
    by_cases hj : j = id
    · rw [if_pos hj]; trivial
    · rw [if_neg hj]
      have := ObOK.keep (id := j) k (by rw [hob2, if_neg hj]) rfl (fun x hx => setRow_other w b0 x _ fun e => hj (c.disj j id x hx (by rw [e]; exact hbo))) (c.obs j)
      rw [hob2, if_neg hj] at this
      exact this

theorem M_store {t : TypeId} {ad x : Operand} (hty : ∀ t y, T.ty t = some y → TyOK X.P t y) (c : ConcO X own s a w) (hdn : dst = none) (had : AVOK own w.heap s (ρ ad) (a.eval ad)) (hx : AVOK own w.heap s (ρ x) (a.eval x))
    (hf : opM T d ρ s.ob fresh (.store t ad x) = some (p, v, us)) (hp : p) : Does X s a w ⟨dst, .store t ad x, type, pos, after, guard⟩ v us := by
  unfold opM at hf
  dsimp only at hf
  split at hf
  · rename_i y v' us' hy hm
    have hyo := hty t y hy
    split at hf
    · rename_i cs hcs
      split at hf
      · rename_i hlen
        split at hf
        · rename_i id o e1
          rw [e1] at had
          split at hf
          · rename_i cs0 ho
            split at hf
            · rename_i hle
              simp only [Option.some.injEq, Prod.mk.injEq] at hf
              obtain ⟨_, rfl, rfl⟩ := hf
              exact M_store_box hyo c hdn had hx hm hcs hlen ho hle
            · cases hf
          · cases hf
        · rename_i id i o e1
          rw [e1] at had
          split at hf
          · rename_i sz l dp ds ho hds
            simp only [Option.some.injEq, Prod.mk.injEq] at hf
            obtain ⟨rfl, rfl, rfl⟩ := hf
            obtain ⟨m, ha⟩ := matAV_ok hm hx
            have hcells : CellsOK own w.heap s cs (a.eval x).cells.toList := by
              have := avCells_ok hcs ha
              have hr : ∀ {cs : List Cell} {ds : List D} {vs : List Value} {s1 s2 : St}, scalCells cs = some ds → CellsOK own w.heap s1 cs vs → CellsOK own w.heap s2 cs vs := by
                intro cs
                induction cs with
                | nil => intro ds vs s1 s2 _ h2; cases h2; exact .nil
                | cons cc cs ih =>
                  intro ds vs s1 s2 h1 h2
                  simp only [scalCells] at h1
                  split at h1
                  · rename_i z l f1 f2
                    cases h2 with
                    | cons h3 h4 =>
                      refine .cons ?_ (ih f2 h4)
                      cases cc with
                      | d => exact h3
                      | _ => simp [scalCell] at f1
                  · cases h1
              exact hr hds this
            exact M_store_arr hyo c hdn had hcells hlen ho hds hp
          · rename_i sz l ho hds
            split at hf
            · rename_i id2 s2 l2 dp2 e2
              split at hf
              · rename_i ho2
                simp only [Option.some.injEq, Prod.mk.injEq] at hf
                obtain ⟨rfl, rfl, rfl⟩ := hf
                rw [e2] at hx
                have hsz : y.size = 1 := by
                  rw [e2] at hm
                  simp only [matAV, ho2, Option.some.injEq, Prod.mk.injEq] at hm
                  rw [← hm.1] at hcs
                  simp only [avCells, Option.some.injEq] at hcs
                  rw [← hlen, ← hcs]; rfl
                exact M_store_own hyo c hdn hsz had hx ho ho2 hp
              · cases hf
            · cases hf
          · cases hf
        · rename_i id i o s' j e1
          rw [e1] at had
          split at hf
          · rename_i sz l ds ho hds
            split at hf
            · rename_i s0 r hD
              simp only [Option.some.injEq, Prod.mk.injEq] at hf
              obtain ⟨rfl, rfl, rfl⟩ := hf
              obtain ⟨rfl, hp⟩ := hp
              obtain ⟨m, ha⟩ := matAV_ok hm hx
              exact M_store_nest hyo c hdn had (scal_move hds (avCells_ok hcs ha)) hlen ho hds hD hp
            · cases hf
          · cases hf
        · cases hf
      · cases hf
    · cases hf
  · cases hf
end

end Go.Own
