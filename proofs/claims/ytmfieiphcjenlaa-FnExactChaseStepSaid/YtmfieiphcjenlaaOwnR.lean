/-
  Own calculus, part R: append. Conditions: as each theorem states them.
-/
import Derived.Test.YtmfieiphcjenlaaOwnQ
import Derived.Laws.OwnMore
namespace Go.Own
open Go
set_option linter.unusedVariables false
set_option linter.unusedSimpArgs false

section
variable {X : Ctx} {T : Tabs} {own own' : Id → List Nat} {s s' : St} {w : World} {a : Act} {ρ : Operand → AV} {h : Heap}
variable {dst : Option Nat} {type : TypeId} {pos : String} {after : Array Edge} {guard : Option (Nat × Bool)} {p : Prop} {v : AV} {d : Nat} {fresh im : Bool} {us : List (Id × Ob)}

/-- The target of an append on the machine. -/
def TgtV (h : Heap) (sz : Nat) (v : Value) (n : Nat) (xs : List Value) : Prop :=
  (v = .slice none 0 0 ∧ n = 0 ∧ xs = []) ∨ ∃ b cap c e, v = .slice (some ⟨b, 0, none⟩) n cap ∧ h[b]? = some (.cells c e (0, 0)) ∧ n ≤ cap ∧ cap ≤ maxLen ∧ c.size = cap * sz ∧ c.toList.take (n * sz) = xs

/-- Its source. -/
def SrcV (w : World) (sz : Nat) (u : Value) (m : Nat) (news : List Value) : Prop :=
  (u = .slice none 0 0 ∧ m = 0 ∧ news = []) ∨ ∃ (ad : Addr) (cap : Nat), u = .slice (some ad) m cap ∧ news.length = m * sz ∧ ∀ j x, news[j]? = some x → w.cell? (ad.add j) = some x

theorem run_app {P : Program} {t ty e : TypeId} {y : TyI} (hu : P.underlying t = some (.slice e)) (hy : TyOK P e y) (hsz : 0 < y.size) {v u : Value} {n m : Nat} {xs news : List Value} (hv : TgtV w.heap y.size v n xs) (hs : SrcV w y.size u m news)
    (h1 : ∀ z ∈ news, z.oneCell' = true) (h63 : n + m ≤ maxLen) (hby : (n + m) * y.bytes ≤ 140737488355328) :
    ∃ v' w', (Builtin.append_ #[t, t] ty #[v, u]).run P w = .ok v' w' ∧ w'.os = w.os ∧ w'.tape = w.tape ∧ w'.output = w.output ∧ w.heap.size ≤ w'.heap.size ∧
      ((v = .slice none 0 0 ∧ m = 0 ∧ v' = .slice none 0 0 ∧ w' = w) ∨
       (∃ b cap c' e', v = .slice (some ⟨b, 0, none⟩) n cap ∧ v' = .slice (some ⟨b, 0, none⟩) (n + m) cap ∧ w'.heap[b]? = some (.cells c' e' (0, 0)) ∧ (∀ k, k ≠ b → w'.heap[k]? = w.heap[k]?) ∧ n + m ≤ cap ∧ cap ≤ maxLen ∧ c'.size = cap * y.size ∧ c'.toList.take ((n + m) * y.size) = xs ++ news) ∨
       (∃ cap c', v' = .slice (some ⟨w.heap.size, 0, none⟩) (n + m) cap ∧ w'.heap[w.heap.size]? = some (.cells c' e (0, 0)) ∧ w.heap.size < w'.heap.size ∧ (∀ k, k < w.heap.size → w'.heap[k]? = w.heap[k]?) ∧ n + m ≤ cap ∧ cap ≤ maxLen ∧ c'.size = cap * y.size ∧ c'.toList.take ((n + m) * y.size) = xs ++ news)) := by
  obtain ⟨⟨i, z, g1, g2, g3, g4, g5⟩, g6, _⟩ := hy
  have hzs : z.cells.size = y.size := by rw [← g6, ← g5]; simp
  have hsmall : n + m ≤ 9223372036854775807 := by unfold maxLen at h63; omega
  have newrow : ∀ (olds : List Value) (need old : Nat), olds.length = need * y.size → need ≤ maxLen →
      need ≤ grownCap w need old e ∧ grownCap w need old e ≤ maxLen ∧ (olds.toArray ++ Builtin.zeroCells z.cells (grownCap w need old e - need)).size = grownCap w need old e * y.size ∧ (olds.toArray ++ Builtin.zeroCells z.cells (grownCap w need old e - need)).toList.take (need * y.size) = olds := fun olds need old ho hm => by
    have q1 := grownCap_ge w need old e
    refine ⟨q1, grownCap_le_maxLen w need old e hm, ?_, ?_⟩
    · simp only [Array.size_append, List.size_toArray, size_zeroCells, hzs, ho, ← Nat.add_mul]
      congr 1
      omega
    · simp only [Array.toList_append]
      rw [← ho]; exact List.take_left
  rcases hs with ⟨rfl, rfl, rfl⟩ | ⟨ad, scap, rfl, hl, hcell'⟩
  · rcases hv with ⟨rfl, rfl, rfl⟩ | ⟨b, cap, c, e', rfl, hb, hn, hcm, hcs, htake⟩
    · exact ⟨.slice none 0 0, w, by simp [Builtin.append_, run_underlying hu, sizeOf, typeInfo, g1, Builtin.lenOf, Builtin.firstCells], rfl, rfl, rfl, Nat.le_refl _, .inl ⟨rfl, rfl, rfl, rfl⟩⟩
    · refine ⟨.slice (some ⟨b, 0, none⟩) n cap, w, by simp [Builtin.append_, run_underlying hu, sizeOf, typeInfo, g1, Builtin.lenOf, Builtin.firstCells, hn, storeCells], rfl, rfl, rfl, Nat.le_refl _, .inr (.inl ⟨b, cap, c, e', rfl, rfl, hb, fun _ _ => rfl, by omega, hcm, hcs, by simpa using htake⟩)⟩
  · rcases hv with ⟨rfl, rfl, rfl⟩ | ⟨b, cap, c, e', rfl, hb, hn, hcm, hcs, htake⟩
    · by_cases hm : m = 0
      · subst hm
        have hnn : news = [] := List.eq_nil_of_length_eq_zero (by simpa using hl)
        subst hnn
        exact ⟨.slice none 0 0, w, by simp [Builtin.append_, run_underlying hu, sizeOf, typeInfo, g1, Builtin.lenOf, Builtin.firstCells, loadCells, loadCellsFrom], rfl, rfl, rfl, Nat.le_refl _, .inl ⟨rfl, rfl, rfl, rfl⟩⟩
      · rw [← g2] at hl
        have hr := run_append_nil (P := P) w t ty e i z hu g1 g4 ad m scap news hl hcell' (by omega) (by omega) (by rw [g3]; simp only [Nat.zero_add] at hby; omega)
        rw [g2] at hl
        obtain ⟨q1, q2, q3, q4⟩ := newrow news m 0 hl (by omega)
        exact ⟨_, _, hr, rfl, rfl, rfl, by simp, .inr (.inr ⟨_, _, by simp, heap_alloc_new w.drew _, by simp, fun k hk => heap_alloc_old w.drew _ hk, by simpa using q1, q2, q3, by simpa using q4⟩)⟩
    · by_cases hroom : n + m ≤ cap
      · have hf := run_firstCells_some (P := P) w i.size m ad m scap news (by rw [g2]; exact hl) hcell'
        have hle : (n + m) * y.size ≤ cap * y.size := Nat.mul_le_mul_right _ hroom
        have hnm : (n + m) * y.size = n * y.size + m * y.size := Nat.add_mul ..
        have hfit : n * y.size + news.length ≤ c.size := by omega
        have hst := run_storeCells_at P b (n * i.size) e' news 0 c w hb (by rw [g2]; simpa using hfit) h1
        simp only [Nat.add_zero] at hst
        refine ⟨.slice (some ⟨b, 0, none⟩) (n + m) cap, w.setRow b (c.toList.take (n * y.size) ++ news ++ c.toList.drop (n * y.size + news.length)).toArray, ?_, rfl, rfl, rfl, by simp, .inr (.inl ⟨b, cap, _, e', rfl, rfl, setRow_heap w b c _ e' (0, 0) hb, fun k hk => setRow_other w b k _ hk, hroom, hcm, ?_, ?_⟩)⟩
        · rw [← g2]
          simp [Builtin.append_, run_underlying hu, sizeOf, typeInfo, g1, Builtin.lenOf, hroom, hf, Addr.add_lit, hst]
        · simp only [List.size_toArray, List.length_append, List.length_take, List.length_drop, Array.length_toList]
          omega
        · rw [htake]
          have hxl : (xs ++ news).length = (n + m) * y.size := by rw [List.length_append, ← htake, List.length_take]; simp; omega
          rw [← hxl]
          exact List.take_left
      · have hxl : xs.length = n * i.size := by
          rw [← htake, g2, List.length_take]
          have := Nat.mul_le_mul_right y.size hn
          simp; omega
        have holds : ∀ j x, xs[j]? = some x → w.cell? ((⟨b, 0, none⟩ : Addr).add j) = some x := fun j x hj => by
          rw [add_off, cell_row rfl hb]
          rw [← htake, List.getElem?_take] at hj
          split at hj
          · simpa using hj
          · cases hj
        have hfits := growslice_fits (need := n + m) (old := cap) (bytes := i.bytes) (by omega) (by rw [g3]; exact hby)
        have hr := run_append_grow (P := P) w t ty e i z hu g1 g4 ⟨b, 0, none⟩ n cap xs hxl holds ad m scap news (by rw [g2]; exact hl) hcell' (by omega) (by omega) hfits
        obtain ⟨q1, q2, q3, q4⟩ := newrow (xs ++ news) (n + m) cap (by rw [List.length_append, hxl, hl, g2, Nat.add_mul]) h63
        refine ⟨_, _, hr, rfl, rfl, rfl, by simp, .inr (.inr ⟨_, _, rfl, heap_alloc_new w.drew _, by simp, fun k hk => heap_alloc_old w.drew _ hk, q1, q2, ?_, ?_⟩)⟩
        · simpa using q3
        · simpa using q4

/-- The target, by its object. -/
def TgtOK (own : Id → List Nat) (h : Heap) (sz : Nat) (l : List (List D)) (dp : Nat) (v : Value) (oid : Option Id) : Prop :=
  (v = .slice none 0 0 ∧ l = [] ∧ ∀ id, oid = some id → own id = []) ∨ ∃ id b cap, oid = some id ∧ v = .slice (some ⟨b, 0, none⟩) l.length cap ∧ ArrB own h id sz l dp b cap

theorem tgtOf_ok {sz : Nat} {x : AV} {l : List (List D)} {dp : Nat} (hx : tgtOf s.ob sz x = some (l, dp, us)) {u : Value} (a : AVOK own h s x u) :
    ∃ oid : Option Id, us = (oid.toList.map fun id => (id, Ob.dead)) ∧ (∀ id, oid = some id → s.sl id.1 ≠ .any) ∧ TgtOK own h sz l dp u oid := by
  unfold tgtOf at hx
  split at hx
  · simp only [Option.some.injEq, Prod.mk.injEq] at hx
    obtain ⟨rfl, rfl, rfl⟩ := hx
    exact ⟨none, rfl, by simp, .inl ⟨v_of_av a, rfl, by simp⟩⟩
  · rename_i c _
    split at hx
    · rename_i id s' l' dp' ho
      split at hx
      · rename_i hs
        subst hs
        simp only [Option.some.injEq, Prod.mk.injEq] at hx
        obtain ⟨rfl, rfl, rfl⟩ := hx
        have hr : s.sl id.1 ≠ .any := by
          cases c with
          | fr id' => simp only [ownCell] at ho; split at ho <;> simp at ho; obtain ⟨rfl, _⟩ := ho; exact a.2.1
          | osl id' => simp only [ownCell] at ho; split at ho <;> simp at ho; obtain ⟨rfl, _⟩ := ho; exact a.2.1
          | _ => simp [ownCell] at ho
        refine ⟨some id, rfl, fun i hi => by cases hi; exact hr, ?_⟩
        rcases ownCell_ok ho a with ⟨h1, h2, h3⟩ | ⟨b, cap, h1, h2⟩
        · exact .inl ⟨h1, h2, fun i hi => by cases hi; exact h3⟩
        · exact .inr ⟨id, b, cap, rfl, h1, h2⟩
      · cases hx
    · cases hx
  · rename_i id s' els
    split at hx
    · rename_i l' ho hl
      split at hx
      · rename_i hs
        subst hs
        simp only [Option.some.injEq, Prod.mk.injEq] at hx
        obtain ⟨rfl, rfl, rfl⟩ := hx
        have hm : matAV s.ob (.lit id s' els) = some (.one (.osl id), [(id, .arr s' l' 1)]) := by simp [matAV, ho, hl]
        obtain ⟨m, ha⟩ := matAV_ok hm a
        refine ⟨some id, rfl, fun i hi => by cases hi; exact a.1, ?_⟩
        have h3 := ha.2.2
        have : (s.put none .unk [(id, .arr s' l' 1)]).ob id = .arr s' l' 1 := updO_get m.1 _ id _ (by simp)
        rw [this] at h3
        rcases h3 with ⟨h1, h2, h3⟩ | ⟨b, cap, h1, h2⟩
        · exact .inl ⟨h1, h2, fun i hi => by cases hi; exact h3⟩
        · exact .inr ⟨id, b, cap, rfl, h1, h2⟩
      · cases hx
    · cases hx
  · cases hx

/-- What the source's elements lead to: nothing; one moved object; or memory that nobody owns. -/
def SrcOK (own : Id → List Nat) (w : World) (s : St) (sz : Nat) (dp : Nat) (m : List (List D)) (dp' : Nat) (u : Value) (oid2 : Option Id) : Prop :=
  ∃ news G, SrcV w sz u m.length news ∧ (∀ e ∈ m, e.length = sz) ∧ RepsW (dp' != 0) w.heap m.flatten news G ∧
    ((G = [] ∧ oid2 = none ∧ dp' = dp) ∨ (∃ id2, oid2 = some id2 ∧ G = own id2 ∧ s.sl id2.1 ≠ .any ∧ dp ≠ 0 ∧ dp' = 1) ∨ ((∀ b ∈ G, Imm own w.heap b) ∧ oid2 = none ∧ dp' = 0))

theorem lit_src {id : Id} {sz : Nat} {els : List (List Cell)} {u : Value} (hb : LitB own w.heap s id sz els u) : ∃ news, SrcV w sz u els.length news ∧ CellsOK own w.heap s els.flatten news := by
  obtain ⟨b, c, e, g1, g2, g3, g4, g5, g6, g7⟩ := hb
  refine ⟨c.toList, .inr ⟨⟨b, 0, none⟩, els.length, g1, by simpa using g4, fun j x hj => ?_⟩, g7⟩
  rw [add_off, cell_row rfl g3]; simpa using hj

theorem all_imm_src {dp : Nat} {id : Id} {sz : Nat} {els : List (List Cell)} {u : Value} (hb : LitB own w.heap s id sz els u) {l : List (List D)} (hl : allCells immCells els = some l) : SrcOK own w s sz dp l 0 u none := by
  obtain ⟨news, h1, h2⟩ := lit_src hb
  obtain ⟨g1, g2, F, g3, g4⟩ := allCells_ok (fun cs ds vs h1 h2 => immCells_ok h1 h2) hl h2
  obtain ⟨_, _, _, _, _, _, _, _, g6, _⟩ := hb
  exact ⟨news, F, by rw [g1]; exact h1, g2 sz g6, g3, .inr (.inr ⟨g4, rfl, rfl⟩)⟩

theorem srcOf_ok {sz dp : Nat} {x : AV} {q : Prop} {m : List (List D)} {dp' : Nat} {us' : List (Id × Ob)} {us0 : List (Id × Ob)} (hus0 : ∀ q ∈ us0, q.2 = Ob.dead) (hx : srcOf (updO s.ob us0) sz dp x = some (q, m, dp', us')) (hq : q) {u : Value} (a : AVOK own w.heap s x u) :
    ∃ oid2 : Option Id, us' = (oid2.toList.map fun id => (id, Ob.dead)) ∧ (∀ id, oid2 = some id → id ∉ us0.map (·.1)) ∧ SrcOK own w s sz dp m dp' u oid2 := by
  have hdead : ∀ id, (updO s.ob us0 id = s.ob id ∧ id ∉ us0.map (·.1)) ∨ updO s.ob us0 id = .dead := fun id => by
    by_cases hid : id ∈ us0.map (·.1)
    · right
      have : ∀ (us0 : List (Id × Ob)) (g : Id → Ob), (∀ q ∈ us0, q.2 = Ob.dead) → id ∈ us0.map (·.1) → updO g us0 id = .dead := by
        intro us0
        induction us0 with
        | nil => intro g _ h; cases h
        | cons z r ih =>
          intro g h1 h2
          obtain ⟨k, o⟩ := z
          have ho : o = .dead := h1 (k, o) (by simp)
          simp only [updO]
          by_cases hr : id ∈ r.map (·.1)
          · exact ih _ (fun q hq => h1 q (by simp [hq])) hr
          · rw [updO_none _ _ hr]
            simp only [List.map_cons, List.mem_cons] at h2
            rcases h2 with h2 | h2
            · rw [if_pos h2, ho]
            · exact absurd h2 hr
      exact this us0 s.ob hus0 hid
    · exact .inl ⟨updO_none _ _ hid, hid⟩
  unfold srcOf at hx
  split at hx
  · rename_i id s' els
    split at hx
    · rename_i ho
      have ho' : s.ob id = .none := by
        rcases hdead id with h | h
        · rw [← h.1]; exact ho
        · rw [h] at ho; cases ho
      have hb := a.2 ho'
      split at hx
      · rename_i hs
        subst hs
        split at hx
        · rename_i l hl
          simp only [Option.some.injEq, Prod.mk.injEq] at hx
          obtain ⟨rfl, rfl, rfl, rfl⟩ := hx
          refine ⟨none, rfl, by simp, ?_⟩
          obtain ⟨news, h1, h2⟩ := lit_src hb
          obtain ⟨g1, g2, F, g3, g4⟩ := allCells_ok (fun cs ds vs h1 h2 => ⟨(scalCells_ok (W := false) h1 h2).1, [], (scalCells_ok h1 h2).2.2, by simp⟩) hl h2
          have hsc : ∀ {els : List (List Cell)} {l : List (List D)}, allCells scalCells els = some l → ∀ z ∈ l.flatten, Scalar z := by
            intro els
            induction els with
            | nil => intro l h1; simp only [allCells, Option.some.injEq] at h1; subst h1; simp
            | cons cc els ih =>
              intro l h1
              simp only [allCells] at h1
              split at h1
              · rename_i z l' e1 e2
                simp only [Option.some.injEq] at h1
                subst h1
                have e3 : ∀ {cs : List Cell} {ds : List D}, scalCells cs = some ds → ∀ z ∈ ds, Scalar z := by
                  intro cs
                  induction cs with
                  | nil => intro ds h; simp only [scalCells, Option.some.injEq] at h; subst h; simp
                  | cons c1 cs ih2 =>
                    intro ds h
                    simp only [scalCells] at h
                    split at h
                    · rename_i y ys f1 f2
                      simp only [Option.some.injEq] at h
                      subst h
                      intro z hz
                      rcases List.mem_cons.1 hz with rfl | hz
                      · cases c1 with
                        | d y => cases y <;> simp [scalCell] at f1; subst f1; trivial
                        | _ => simp [scalCell] at f1
                      · exact ih2 f2 z hz
                    · cases h
                intro z hz
                simp only [List.flatten_cons, List.mem_append] at hz
                rcases hz with hz | hz
                · exact e3 e1 z hz
                · exact ih e2 z hz
              · cases h1
          have hF := scal_foot g3 (hsc hl)
          subst hF
          obtain ⟨_, _, _, _, _, _, _, _, g6, _⟩ := hb
          exact ⟨news, [], by rw [g1]; exact h1, g2 s' g6, g3.scalUp (hsc hl), .inl ⟨rfl, rfl, rfl⟩⟩
        · split at hx
          · rename_i c hno
            split at hx
            · rename_i id2 s2 l2 dp2 ho2
              split at hx
              · cases hx
              · rename_i hdp
                simp only [not_or] at hdp
                simp only [Option.some.injEq, Prod.mk.injEq] at hx
                obtain ⟨rfl, rfl, rfl, rfl⟩ := hx
                obtain ⟨news, h1, h2⟩ := lit_src hb
                have hg6 : s' = 1 := by
                  obtain ⟨_, _, _, _, _, _, _, _, g6, _⟩ := hb
                  exact (g6 [c] (by simp)).symm
                subst hg6
                cases h2 with
                | @cons _ v0 _ vs0 hc0 hr0 =>
                  cases hr0
                  have hob2 : ownCell s.ob c = some (id2, s2, l2, dp2) ∧ id2 ∉ us0.map (·.1) := by
                    cases c with
                    | fr id' =>
                      simp only [ownCell] at ho2 ⊢
                      rcases hdead id' with h | h
                      · rw [h.1] at ho2
                        split at ho2
                        · simp only [Option.some.injEq, Prod.mk.injEq] at ho2
                          obtain ⟨rfl, rfl, rfl, rfl⟩ := ho2
                          exact ⟨rfl, h.2⟩
                        · cases ho2
                      · rw [h] at ho2; cases ho2
                    | osl id' =>
                      simp only [ownCell] at ho2 ⊢
                      rcases hdead id' with h | h
                      · rw [h.1] at ho2
                        split at ho2
                        · simp only [Option.some.injEq, Prod.mk.injEq] at ho2
                          obtain ⟨rfl, rfl, rfl, rfl⟩ := ho2
                          exact ⟨rfl, h.2⟩
                        · cases ho2
                      · rw [h] at ho2; cases ho2
                    | _ => simp [ownCell] at ho2
                  have hr : s.sl id2.1 ≠ .any := by
                    have ho3 := hob2.1
                    cases c with
                    | fr id' => simp only [ownCell] at ho3; split at ho3 <;> simp at ho3; obtain ⟨rfl, _⟩ := ho3; exact hc0.2.1
                    | osl id' => simp only [ownCell] at ho3; split at ho3 <;> simp at ho3; obtain ⟨rfl, _⟩ := ho3; exact hc0.2.1
                    | _ => simp [ownCell] at ho3
                  refine ⟨some id2, rfl, fun i hi => by cases hi; exact hob2.2, ?_⟩
                  obtain ⟨FN, rN, hFN⟩ : ∃ FN, RepsW true w.heap [.sl s2 l2] [v0] FN ∧ FN = own id2 := ArrOK.repsW (ownCell_ok hob2.1 hc0) hdp.2
                  exact ⟨[v0], FN, by simpa using h1, by simp, by simpa [(by decide : ((1 : Nat) != 0) = true)] using rN, .inr (.inl ⟨id2, rfl, hFN, hr, hdp.1, rfl⟩)⟩
            · split at hx
              · rename_i l hl
                simp only [Option.some.injEq, Prod.mk.injEq] at hx
                obtain ⟨rfl, rfl, rfl, rfl⟩ := hx
                exact ⟨none, rfl, by simp, all_imm_src hb hl⟩
              · cases hx
          · split at hx
            · rename_i l hl
              simp only [Option.some.injEq, Prod.mk.injEq] at hx
              obtain ⟨rfl, rfl, rfl, rfl⟩ := hx
              exact ⟨none, rfl, by simp, all_imm_src hb hl⟩
            · cases hx
      · cases hx
    · cases hx
  · rename_i c
    have toDs : ∀ {x : D}, toD (updO s.ob us0) c = some x → toD s.ob c = some x := fun {x} ht => by
      cases c with
      | fr id' => simp only [toD] at ht ⊢; rcases hdead id' with h | h <;> simp_all
      | osl id' => simp only [toD] at ht ⊢; rcases hdead id' with h | h <;> simp_all
      | isl id' => simp only [toD] at ht ⊢; rcases hdead id' with h | h <;> simp_all
      | _ => exact ht
    split at hx
    · rename_i s1 m1 ht
      simp only [Option.some.injEq, Prod.mk.injEq] at hx
      obtain ⟨rfl, rfl, rfl, rfl⟩ := hx
      obtain ⟨rfl, hsc⟩ := hq
      refine ⟨none, rfl, by simp, ?_⟩
      obtain ⟨F, r, _⟩ := toD_ok (toDs ht) a
      rcases r.sl_inv with ⟨a0, hu, rfl, _⟩ | ⟨b, off, cap, cc, e, fz, G, hu, a1, a2, a3, a4, a5, a6, _⟩
      · cases a0 with
        | none => exact ⟨[], [], .inl ⟨hu, rfl, rfl⟩, by simp, .nil, .inl ⟨rfl, rfl, rfl⟩⟩
        | some ad => exact ⟨[], [], .inr ⟨ad, 0, hu, by simp, by simp⟩, by simp, .nil, .inl ⟨rfl, rfl, rfl⟩⟩
      · have hG := scal_foot a6 (fun z hz => by
          rw [List.mem_flatten] at hz
          obtain ⟨e, he, hz⟩ := hz
          exact hsc e he z hz)
        subst hG
        refine ⟨_, [], .inr ⟨⟨b, off, none⟩, cap, hu, ?_, fun j x hj => ?_⟩, a5, a6.scalUp (fun z hz => by
            rw [List.mem_flatten] at hz
            obtain ⟨e, he, hz⟩ := hz
            exact hsc e he z hz), .inl ⟨rfl, rfl, rfl⟩⟩
        · rw [List.length_take, List.length_drop]; simp; omega
        · rw [add_off, cell_row rfl a1]
          rw [List.getElem?_take] at hj
          split at hj
          · rw [List.getElem?_drop] at hj; simpa using hj
          · cases hj
    · rename_i ht
      simp only [Option.some.injEq, Prod.mk.injEq] at hx
      obtain ⟨rfl, rfl, rfl, rfl⟩ := hx
      obtain ⟨F, r, _⟩ := toD_ok (toDs ht) a
      refine ⟨none, rfl, by simp, [], [], .inl ⟨?_, rfl, rfl⟩, by simp, .nil, .inl ⟨rfl, rfl, rfl⟩⟩
      cases r with | v _ _ => rfl
    · cases hx
  · cases hx

/-- The new owners behind an append. -/
def appOwn (own : Id → List Nat) (d : Nat) (I : List Id) (nl : List Nat) : Id → List Nat := fun j => if j = (d, 0) then nl else if j ∈ I then [] else own j

theorem append_core {t ty e : TypeId} {y : TyI} {tv uv : Value} {l m : List (List D)} {dp dp' : Nat} {oid oid2 : Option Id} (hu : X.P.underlying t = some (.slice e)) (hy : TyOK X.P e y) (hsz : 0 < y.size) (c : ConcO X own s a w) (hd : X.dok d = true) (hfs : Fresh s d)
    (ht : TgtOK own w.heap y.size l dp tv oid) (hor : ∀ id, oid = some id → s.sl id.1 ≠ .any) (hs : SrcOK own w s y.size dp m dp' uv oid2) (hne : ∀ id, oid = some id → oid2 ≠ some id) (h63 : l.length + m.length ≤ maxLen) (hby : (l.length + m.length) * y.bytes ≤ 140737488355328) :
    ∃ v' w' nl, (Builtin.append_ #[t, t] ty #[tv, uv]).run X.P w = .ok v' w' ∧
      ConcO X (appOwn own d (oid.toList ++ oid2.toList) nl) (s.put (some d) (.one (.fr (d, 0) y.size (l ++ m) dp')) ((oid.toList ++ oid2.toList).map fun id => (id, Ob.dead))) (a.put (some d) v') w' := by
  obtain ⟨news, Gm, s1, s2, s3, s4⟩ := hs
  -- the target on the machine, with its inner footprint
  have htv : ∃ xs Gl, TgtV w.heap y.size tv l.length xs ∧ RepsW (dp != 0) w.heap l.flatten xs Gl ∧ (∀ z ∈ l, z.length = y.size) ∧
      ((tv = .slice none 0 0 ∧ Gl = [] ∧ ∀ id, oid = some id → own id = []) ∨ ∃ id b, oid = some id ∧ (∃ cap, tv = .slice (some ⟨b, 0, none⟩) l.length cap) ∧ own id = b :: (if dp = 0 then [] else Gl) ∧ b ∉ Gl ∧ (dp = 0 → ∀ z ∈ Gl, Imm own w.heap z)) := by
    rcases ht with ⟨h1, h2, h3⟩ | ⟨id, b, cap, h1, h2, cc, ee, G, a1, a2, a3, a4, a5, a6, a7, a8⟩
    · subst h2
      exact ⟨[], [], .inl ⟨h1, rfl, rfl⟩, .nil, by simp, .inl ⟨h1, rfl, h3⟩⟩
    · refine ⟨_, G, .inr ⟨b, cap, cc, ee, h2, a2, a3, a4, a5, rfl⟩, a7, a6, .inr ⟨id, b, h1, ⟨cap, h2⟩, a1, ?_, a8⟩⟩
      by_cases h0 : dp = 0
      · intro hm; exact (a8 h0 b hm).2 id (by rw [a1]; simp)
      · have hnd := c.nodup id
        rw [a1] at hnd
        simp only [h0, if_false, List.nodup_cons] at hnd
        exact hnd.1
  obtain ⟨xs, Gl, t1, t2, t3, t4⟩ := htv
  obtain ⟨v', w', r1, r2, r3, r4, r5, r6⟩ := run_app (P := X.P) (ty := ty) hu hy hsz t1 s1 s3.ones h63 hby
  -- whose blocks the pieces are
  have hGl : ∀ z ∈ Gl, Imm own w.heap z ∨ ∃ id, oid = some id ∧ z ∈ own id ∧ dp ≠ 0 := fun z hz => by
    rcases t4 with ⟨_, rfl, _⟩ | ⟨id, b, h1, _, h2, _, h3⟩
    · cases hz
    · by_cases h0 : dp = 0
      · exact .inl (h3 h0 z hz)
      · exact .inr ⟨id, h1, by rw [h2]; simp [h0, hz], h0⟩
  have hGm : ∀ z ∈ Gm, Imm own w.heap z ∨ ∃ id, oid2 = some id ∧ z ∈ own id ∧ dp ≠ 0 := fun z hz => by
    rcases s4 with ⟨rfl, _⟩ | ⟨id2, h1, rfl, _, h2, _⟩ | ⟨h1, _⟩
    · cases hz
    · exact .inr ⟨id2, h1, hz, h2⟩
    · exact .inl (h1 z hz)
  have hd2 : ∀ id, oid2 = some id → s.sl id.1 ≠ .any := fun id hid => by
    rcases s4 with ⟨_, h, _⟩ | ⟨id2, h1, _, h3, _⟩ | ⟨_, h, _⟩
    · rw [h] at hid; cases hid
    · rw [h1] at hid; cases hid; exact h3
    · rw [h] at hid; cases hid
  have hI : ∀ id ∈ oid.toList ++ oid2.toList, s.sl id.1 ≠ .any := fun id hid => by
    simp only [List.mem_append, Option.mem_toList] at hid
    rcases hid with h | h
    · exact hor id h
    · exact hd2 id h
  have hId : (d, 0) ∉ oid.toList ++ oid2.toList := fun h => hI _ h hfs.row
  -- what the step keeps, whatever block was written: b0 is owned by the target, or new
  have fin : ∀ (nl : List Nat) (hw : ∀ k, k < w.heap.size → (∀ id, oid = some id → k ∈ own id → k ∉ nl ∨ True) → True), True := fun _ _ => trivial
  clear fin
  have step : ∀ (nl : List Nat), (∀ k, k < w.heap.size → (∀ id, oid = some id → k ∉ own id) → w'.heap[k]? = w.heap[k]?) → (∀ id, oid = some id → ∀ k ∈ own id, ∀ j, j ≠ id → k ∉ own j) →
      (∀ z ∈ nl, z < w'.heap.size ∧ (w.heap.size ≤ z ∨ ∃ id, id ∈ oid.toList ++ oid2.toList ∧ z ∈ own id)) → nl.Nodup →
      (∀ (k : Keeps own (appOwn own d (oid.toList ++ oid2.toList) nl) w.heap w'.heap s (s.put (some d) (.one (.fr (d, 0) y.size (l ++ m) dp')) ((oid.toList ++ oid2.toList).map fun id => (id, Ob.dead)))),
        ArrOK (appOwn own d (oid.toList ++ oid2.toList) nl) w'.heap (d, 0) y.size (l ++ m) dp' v') →
      ConcO X (appOwn own d (oid.toList ++ oid2.toList) nl) (s.put (some d) (.one (.fr (d, 0) y.size (l ++ m) dp')) ((oid.toList ++ oid2.toList).map fun id => (id, Ob.dead))) (a.put (some d) v') w' := by
    intro nl hheap _ hnl hnd hfin
    have hob : ∀ j, (s.put (some d) (.one (.fr (d, 0) y.size (l ++ m) dp')) ((oid.toList ++ oid2.toList).map fun id => (id, Ob.dead))).ob j = if j ∈ oid.toList ++ oid2.toList then .dead else s.ob j := fun j => by
      rw [St.put_ob]
      generalize oid.toList ++ oid2.toList = I
      have : ∀ (I : List Id) (g : Id → Ob), updO g (I.map fun id => (id, Ob.dead)) j = if j ∈ I then .dead else g j := by
        intro I
        induction I with
        | nil => intro g; simp [updO]
        | cons i I ih =>
          intro g
          simp only [List.map_cons, updO]
          rw [ih]
          by_cases h1 : j ∈ I
          · simp [h1]
          · by_cases h2 : j = i <;> simp [h1, h2]
      exact this I s.ob
    have hown : ∀ j, j ≠ (d, 0) → j ∉ oid.toList ++ oid2.toList → appOwn own d (oid.toList ++ oid2.toList) nl j = own j := fun j h1 h2 => by simp only [appOwn]; rw [if_neg h1, if_neg h2]
    have hownI : ∀ j, j ∈ oid.toList ++ oid2.toList → appOwn own d (oid.toList ++ oid2.toList) nl j = [] := fun j h1 => by
      simp only [appOwn]
      rw [if_neg (fun e : j = (d, 0) => hId (e ▸ h1)), if_pos h1]
    have hownD : appOwn own d (oid.toList ++ oid2.toList) nl (d, 0) = nl := by simp [appOwn]
    have hne2 : ∀ id : Id, s.sl id.1 ≠ .any → id ≠ (d, 0) := fun id h e => h (by rw [e]; exact hfs.row)
    have k : Keeps own (appOwn own d (oid.toList ++ oid2.toList) nl) w.heap w'.heap s (s.put (some d) (.one (.fr (d, 0) y.size (l ++ m) dp')) ((oid.toList ++ oid2.toList).map fun id => (id, Ob.dead))) := by
      refine ⟨St.put_bs _ _ _ _, fun b hb => ⟨⟨by have := hb.1; omega, fun id hm => ?_⟩, hheap b hb.1 fun id _ => hb.2 id⟩, St.put_row s (some d) _ _, fun id hid => ?_⟩
      · by_cases h1 : id = (d, 0)
        · subst h1
          rw [hownD] at hm
          rcases (hnl b hm).2 with h | ⟨j, _, h⟩
          · have := hb.1; omega
          · exact hb.2 j h
        · by_cases h2 : id ∈ oid.toList ++ oid2.toList
          · rw [hownI id h2] at hm; cases hm
          · rw [hown id h1 h2] at hm; exact hb.2 id hm
      · rw [hob]
        by_cases h2 : id ∈ oid.toList ++ oid2.toList
        · rw [if_pos h2]; exact .dead _
        · rw [if_neg h2]
          refine .same _ (hown id (hne2 id hid) h2) fun b hb => hheap b (c.lt id b hb).1 fun j hj hbj => ?_
          have := c.disj id j b hb hbj
          subst this
          exact h2 (by simp [hj])
    refine c.turn k r2 r3 r4 r5 (fun x hx => by cases hx; exact hd) (fun j b hb => ?_) (fun j => ?_) (fun j j' b h1 h2 => ?_) (fun j => ?_) ?_
    · by_cases h1 : j = (d, 0)
      · subst h1
        rw [hownD] at hb
        obtain ⟨q1, q2⟩ := hnl b hb
        refine ⟨q1, ?_⟩
        rcases q2 with q2 | ⟨i, _, q2⟩
        · exact .inl (by have := c.grow; omega)
        · exact (c.lt i b q2).2
      · by_cases h2 : j ∈ oid.toList ++ oid2.toList
        · rw [hownI j h2] at hb; cases hb
        · rw [hown j h1 h2] at hb
          have := c.lt j b hb
          exact ⟨by omega, this.2⟩
    · by_cases h1 : j = (d, 0)
      · subst h1; rw [hownD]; exact hnd
      · by_cases h2 : j ∈ oid.toList ++ oid2.toList
        · rw [hownI j h2]; simp
        · rw [hown j h1 h2]; exact c.nodup j
    · have key : ∀ j b, b ∈ appOwn own d (oid.toList ++ oid2.toList) nl j → (j = (d, 0) ∧ (w.heap.size ≤ b ∨ ∃ id, id ∈ oid.toList ++ oid2.toList ∧ b ∈ own id)) ∨ (j ≠ (d, 0) ∧ j ∉ oid.toList ++ oid2.toList ∧ b ∈ own j) := fun j b hb => by
        by_cases h1 : j = (d, 0)
        · subst h1; rw [hownD] at hb; exact .inl ⟨rfl, (hnl b hb).2⟩
        · by_cases h2 : j ∈ oid.toList ++ oid2.toList
          · rw [hownI j h2] at hb; cases hb
          · rw [hown j h1 h2] at hb; exact .inr ⟨h1, h2, hb⟩
      rcases key j b h1 with ⟨rfl, q⟩ | ⟨n1, n2, q⟩
      · rcases key j' b h2 with ⟨rfl, _⟩ | ⟨m1, m2, q'⟩
        · rfl
        · exfalso
          rcases q with q | ⟨i, hi, q⟩
          · have := (c.lt j' b q').1; omega
          · exact m2 (c.disj i j' b q q' ▸ hi)
      · rcases key j' b h2 with ⟨rfl, q'⟩ | ⟨m1, m2, q'⟩
        · exfalso
          rcases q' with q' | ⟨i, hi, q'⟩
          · have := (c.lt j b q).1; omega
          · exact n2 (c.disj i j b q' q ▸ hi)
        · exact c.disj j j' b q q'
    · rw [hob]
      by_cases h2 : j ∈ oid.toList ++ oid2.toList
      · rw [if_pos h2]; trivial
      · rw [if_neg h2]
        by_cases h1 : j = (d, 0)
        · subst h1; rw [hfs.ob 0 (by omega)]; trivial
        · have := ObOK.keep (id := j) k (by rw [hob, if_neg h2]) (hown j h1 h2) (fun b hb => hheap b (c.lt j b hb).1 fun i hi hbi => by
            have := c.disj j i b hb hbi
            subst this
            exact h2 (by simp [hi])) (c.obs j)
          rw [hob, if_neg h2] at this
          exact this
    · have hok := hfin k
      refine ⟨?_, St.put_dst s d _ _, fun _ => hok⟩
      rcases hok with ⟨h1, _⟩ | ⟨b, cap, h1, _⟩ <;> rw [h1] <;> rfl
  have t2' : RepsW (dp' != 0) w.heap l.flatten xs Gl := by
    rcases s4 with ⟨_, _, rfl⟩ | ⟨_, _, _, _, h0, rfl⟩ | ⟨_, _, rfl⟩
    · exact t2
    · rw [bne_iff_ne.2 h0] at t2; exact t2
    · exact t2.weak
  -- the inner memory, behind the append
  have hrep : ∀ (nl : List Nat) (b' : Nat) (cap' : Nat) (c' : Array Value) (e' : TypeId), v' = .slice (some ⟨b', 0, none⟩) (l.length + m.length) cap' → w'.heap[b']? = some (.cells c' e' (0, 0)) → l.length + m.length ≤ cap' → cap' ≤ maxLen → c'.size = cap' * y.size →
      c'.toList.take ((l.length + m.length) * y.size) = xs ++ news → nl = b' :: (if dp' = 0 then [] else Gl ++ Gm) → (∀ z ∈ Gl ++ Gm, w'.heap[z]? = w.heap[z]?) → b' ∉ Gl ++ Gm → w.heap.size ≤ w'.heap.size →
      ArrOK (appOwn own d (oid.toList ++ oid2.toList) nl) w'.heap (d, 0) y.size (l ++ m) dp' v' := by
    intro nl b' cap' c' e' q1 q2 q3 q4 q5 q6 q7 q8 q9 q10
    refine .inr ⟨b', cap', by rw [List.length_append]; exact q1, c', e', Gl ++ Gm, ?_, q2, by rw [List.length_append]; exact q3, q4, q5, fun z hz => ?_, ?_, fun h0 z hz => ?_⟩
    · simp only [appOwn, if_true]; exact q7
    · rcases List.mem_append.1 hz with hz | hz
      · exact t3 z hz
      · exact s2 z hz
    · rw [List.flatten_append, List.length_append, q6]
      exact (t2'.append s3).frame q8
    · have hlt : z < w.heap.size := (t2'.append s3).lt z hz
      refine ⟨by omega, fun j hj => ?_⟩
      have hz' : Imm own w.heap z ∨ ∃ id, id ∈ oid.toList ++ oid2.toList ∧ z ∈ own id := by
        rcases List.mem_append.1 hz with hz | hz
        · rcases hGl z hz with h | ⟨id, h1, h2, _⟩
          · exact .inl h
          · exact .inr ⟨id, by simp [h1], h2⟩
        · rcases hGm z hz with h | ⟨id, h1, h2, _⟩
          · exact .inl h
          · exact .inr ⟨id, by simp [h1], h2⟩
      simp only [appOwn] at hj
      split at hj
      · rw [q7, h0] at hj
        simp at hj
        subst hj
        exact q9 hz
      · split at hj
        · cases hj
        · rename_i n1 n2
          rcases hz' with h | ⟨id, h1, h2⟩
          · exact h.2 j hj
          · exact n2 (c.disj id j z h2 hj ▸ h1)
  -- the inner lists do not overlap
  have hdpne : dp' ≠ 0 → dp ≠ 0 := fun h => by
    rcases s4 with ⟨_, _, h1⟩ | ⟨_, _, _, _, h1, _⟩ | ⟨_, _, h1⟩
    · rw [← h1]; exact h
    · exact h1
    · exact absurd h1 h
  have hGlm : ∀ z ∈ Gl, dp ≠ 0 → dp' ≠ 0 → z ∉ Gm := fun z hz h0 h0' hm => by
    rcases t4 with ⟨_, rfl, _⟩ | ⟨id, b, h1, _, h2, _, _⟩
    · cases hz
    · rcases s4 with ⟨rfl, _⟩ | ⟨id2, g1, rfl, _⟩ | ⟨_, _, g⟩
      · cases hm
      · exact hne id h1 (by rw [g1, c.disj id id2 z (by rw [h2]; simp [h0, hz]) hm])
      · exact h0' g
  have hGmn : dp' ≠ 0 → Gm.Nodup := fun h0 => by
    rcases s4 with ⟨rfl, _⟩ | ⟨id2, _, rfl, _⟩ | ⟨_, _, g⟩
    · simp
    · exact c.nodup id2
    · exact absurd g h0
  have hGln : dp ≠ 0 → Gl.Nodup := fun h0 => by
    rcases t4 with ⟨_, rfl, _⟩ | ⟨id, b, h1, _, h2, _, _⟩
    · simp
    · have := c.nodup id
      rw [h2] at this
      simp only [h0, if_false, List.nodup_cons] at this
      exact this.2
  have hin : ∀ z ∈ (if dp' = 0 then [] else Gl ++ Gm), ∃ id, id ∈ oid.toList ++ oid2.toList ∧ z ∈ own id := fun z hz => by
    split at hz
    · cases hz
    · rename_i h0
      have h0' := hdpne h0
      rcases List.mem_append.1 hz with hz | hz
      · rcases t4 with ⟨_, rfl, _⟩ | ⟨id, b, h1, _, h2, _, _⟩
        · cases hz
        · exact ⟨id, by simp [h1], by rw [h2]; simp [h0', hz]⟩
      · rcases s4 with ⟨rfl, _⟩ | ⟨id2, g1, rfl, _⟩ | ⟨_, _, g⟩
        · cases hz
        · exact ⟨id2, by simp [g1], hz⟩
        · exact absurd g h0
  have hnod : ∀ b', b' ∉ Gl ++ Gm → (b' :: (if dp' = 0 then [] else Gl ++ Gm)).Nodup := fun b' hb' => by
    split
    · simp
    · rename_i h0
      rw [List.nodup_cons]
      exact ⟨hb', List.nodup_append.2 ⟨hGln (hdpne h0), hGmn h0, fun x hx z hz e => hGlm x hx (hdpne h0) h0 (e ▸ hz)⟩⟩
  rcases r6 with ⟨q1, q2, q3, q4⟩ | ⟨b, cap, c', e', q1, q2, q3, q4, q5, q6, q7, q8⟩ | ⟨cap, c', q1, q2, q2', q3, q4, q5, q6, q7⟩
  · refine ⟨v', w', [], r1, step [] (fun k hk _ => by rw [q4]) (fun id hid k hk => by
      rcases t4 with ⟨_, _, h3⟩ | ⟨id', b, h1, ⟨cap, h2⟩, _⟩
      · rw [h3 id hid] at hk; cases hk
      · rw [q1] at h2; cases h2) (by simp) (by simp) fun k => .inl ⟨q3, ?_, by simp [appOwn]⟩⟩
    have hm : m = [] := List.eq_nil_of_length_eq_zero q2
    have hl : l = [] := by
      rcases t4 with _ | ⟨id', b, h1, ⟨cap, h2⟩, _⟩
      · rcases ht with ⟨_, h2, _⟩ | ⟨_, _, _, _, h2, _⟩
        · exact h2
        · rw [q1] at h2; cases h2
      · rw [q1] at h2; cases h2
    rw [hl, hm]; rfl
  · obtain ⟨id, h1, h2, h3, h4⟩ : ∃ id, oid = some id ∧ own id = b :: (if dp = 0 then [] else Gl) ∧ b ∉ Gl ∧ (dp = 0 → ∀ z ∈ Gl, Imm own w.heap z) := by
      rcases t4 with ⟨h0, _⟩ | ⟨id, b1, h1, ⟨cap1, h2⟩, h3, h4, h5⟩
      · rw [q1] at h0; cases h0
      · rw [q1] at h2
        simp only [Value.slice.injEq, Option.some.injEq, Addr.mk.injEq] at h2
        obtain ⟨⟨rfl, _⟩, _⟩ := h2
        exact ⟨id, h1, h3, h4, h5⟩
    have hbo : b ∈ own id := by rw [h2]; simp
    have hbGm : b ∉ Gm := fun hm => by
      rcases hGm b hm with h | ⟨id2, g1, g2, _⟩
      · exact h.2 id hbo
      · exact hne id h1 (by rw [g1, c.disj id2 id b g2 hbo])
    have hb' : b ∉ Gl ++ Gm := by simp [h3, hbGm]
    refine ⟨v', w', b :: (if dp' = 0 then [] else Gl ++ Gm), r1, step _ (fun k hk hno => q4 k fun e => hno id h1 (e ▸ hbo)) (fun i hi k hk j hj hkj => hj (c.disj j i k hkj hk)) (fun z hz => ?_) (hnod b hb') fun k => hrep _ b cap c' e' q2 q3 q5 q6 q7 q8 rfl (fun z hz => q4 z fun e => hb' (e ▸ hz)) hb' r5⟩
    rcases List.mem_cons.1 hz with rfl | hz
    · have := (c.lt id _ hbo).1
      exact ⟨by omega, .inr ⟨id, by simp [h1], hbo⟩⟩
    · obtain ⟨i, hi, hzi⟩ := hin z hz
      have := (c.lt i z hzi).1
      exact ⟨by omega, .inr ⟨i, hi, hzi⟩⟩
  · have hb' : w.heap.size ∉ Gl ++ Gm := fun hm => by have := (t2'.append s3).lt _ hm; omega
    refine ⟨v', w', w.heap.size :: (if dp' = 0 then [] else Gl ++ Gm), r1, step _ (fun k hk _ => q3 k hk) (fun i hi k hk j hj hkj => hj (c.disj j i k hkj hk)) (fun z hz => ?_) (hnod _ hb') fun k => hrep _ w.heap.size cap c' e q1 q2 q4 q5 q6 q7 rfl (fun z hz => q3 z ((t2'.append s3).lt z hz)) hb' r5⟩
    rcases List.mem_cons.1 hz with rfl | hz
    · exact ⟨q2', .inl (Nat.le_refl _)⟩
    · obtain ⟨i, hi, hzi⟩ := hin z hz
      have := (c.lt i z hzi).1
      exact ⟨by omega, .inr ⟨i, hi, hzi⟩⟩

theorem M_append {cl : Call} (hc : cl.callee = .builtin .append) (hty : ∀ t y, T.ty t = some y → TyOK X.P t y) (c : ConcO X own s a w) (hd : ∀ x, dst = some x → X.dok x = true) (hdd : d = dst.getD 0) (hfr : fresh = true → freshAt s dst = true)
    (hx : ∀ x ∈ cl.args, AVOK own w.heap s (ρ x) (a.eval x)) (hf : opM T d ρ s.ob fresh (.call cl) = some (p, v, us)) (hp : p) : Does X s a w ⟨dst, .call cl, type, pos, after, guard⟩ v us := by
  obtain ⟨cal, as, ts⟩ := cl
  dsimp only at hc hx
  subst hc
  unfold opM at hf
  dsimp only at hf
  split at hf
  · rename_i x y t t' e1 e2
    split at hf
    · rename_i htt
      subst htt
      have hargs : ∃ x' y', as = #[x', y'] ∧ ρ x' = x ∧ ρ y' = y := by
        obtain ⟨as⟩ := as
        match as, e1 with
        | [x', y'], h => simp at h; exact ⟨x', y', rfl, h.1, h.2⟩
        | [], h => simp at h
        | [_], h => simp at h
        | _ :: _ :: _ :: _, h => simp at h
      obtain ⟨x', y', rfl, rfl, rfl⟩ := hargs
      have hts : ts = #[t, t] := by
        obtain ⟨ts⟩ := ts
        simpa using e2
      subst hts
      unfold appF at hf
      split at hf
      · rename_i e _ hyt
        have hu := (hty t _ hyt).2.2.2.2
        simp only at hu
        split at hf
        · rename_i yi hye
          split at hf
          · rename_i l dp us1 htgt
            split at hf
            · rename_i q m dp' us2 hsrc
              simp only [Option.some.injEq, Prod.mk.injEq] at hf
              obtain ⟨rfl, rfl, rfl⟩ := hf
              obtain ⟨hq, hsz, hfresh, h63, hby⟩ := hp
              obtain ⟨dd, rfl, hfs⟩ := freshAt_ok (hfr hfresh)
              obtain rfl : d = dd := hdd
              obtain ⟨oid, rfl, hor, ht⟩ := tgtOf_ok htgt (hx x' (by simp))
              obtain ⟨oid2, rfl, hne, hs⟩ := srcOf_ok (us0 := oid.toList.map fun id => (id, Ob.dead)) (fun q hq => by obtain ⟨_, _, rfl⟩ := List.mem_map.1 hq; rfl) hsrc hq (hx y' (by simp))
              obtain ⟨v', w', nl, f1, f2⟩ := append_core (ty := type) hu.1 (hty e yi hye) hsz c (hd d rfl) hfs ht hor hs (fun id hid h2 => hne id h2 (by simp [hid])) h63 hby
              rw [List.map_append] at f2
              refine Does.of_value (u := v') (w' := w') ?_ f2
              simp only [execOp, resolve, invoke, builtin, Sem.run_bind, Sem.run_pure, Result.andThen_ok]
              simp only [Array.map, ← Array.toList_map] at f1 ⊢
              simp [f1]
            · cases hf
          · cases hf
        · cases hf
      · cases hf
    · cases hf
  · cases hf
end

end Go.Own
