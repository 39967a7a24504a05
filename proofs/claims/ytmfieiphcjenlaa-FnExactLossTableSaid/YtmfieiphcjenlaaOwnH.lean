/-
  Own calculus, part H: the weakest precondition 'wpc' of code over abstract states, and its soundness. Conditions: each operation is sound ('Sound1'); the static checks of 'statOK'.
-/
import Derived.Test.YtmfieiphcjenlaaOwnG
namespace Go.Own
open Go
set_option linter.unusedVariables false
set_option linter.unusedSimpArgs false

structure LoopInv where
  ι : Type
  rs : List (Nat × Nat)
  mods : List (Nat × (ι → Pat))
  boxes : List (Nat × (ι → List PC))
  arrs : List (Nat × (ι → Nat × List (List D) × Nat))
  ok : ι → Prop
  mu : ι → Nat
  alis : List (Nat × Nat) := []

def LoopInv.st (I : LoopInv) (i : I.ι) : List (Nat × Pat) :=
  I.mods.map (fun q => (q.1, q.2 i)) ++ (I.boxes.map (fun q => (q.1, .box (q.2 i))) ++ I.arrs.map (fun q => (q.1, .one (.own (q.2 i).1 (q.2 i).2.1 (q.2 i).2.2))))

def isRef : AV → Bool
  | .one (.osl _) | .one (.fr ..) => true
  | _ => false

def dsts : Code → List Nat
  | .region _ ops _ => ops.toList.filterMap (·.dst)
  | .seq a b => dsts a ++ dsts b
  | .cond _ a b => dsts a ++ dsts b
  | .block _ c => dsts c
  | .loop c => dsts c
  | _ => []

/-- The static look at a loop: what its body writes is cleared or named; what is cleared or named as written is written. -/
def chkLoop (rs : List (Nat × Nat)) (mods fix : List Nat) (D : List Nat) : Bool :=
  D.all (fun d => inRs rs d || mods.contains d) && mods.all (fun p => D.contains p) && rs.all (fun r => (List.range' r.1 (r.2 - r.1)).all fun j => D.contains j) &&
    decide (mods ++ fix).Nodup

def LoopInv.chk (I : LoopInv) (D : List Nat) : Bool := chkLoop I.rs (I.mods.map (·.1)) (I.boxes.map (·.1) ++ I.arrs.map (·.1)) D &&
  I.alis.all (fun z => !D.contains z.1 && (I.arrs.map (·.1)).contains z.2)

def EnterI (nm : Bool) (I : LoopInv) (i : I.ι) (s : St) : Prop := Enter s nm (I.st i) ∧ I.arrs.all (fun q => isRef (s.sl q.1)) = true ∧ aliOK s I.alis

def seqK (k : St → Prop) (Q : Exit → St → Prop) : Exit → St → Prop
  | .normal, s => k s
  | e, s => Q e s

def blockK (id : Nat) (Q : Exit → St → Prop) : Exit → St → Prop
  | .exit id', s => if id' = id then Q .normal s else Q (.exit id') s
  | e, s => Q e s

def loopK (nm : Bool) (I : LoopInv) (i : I.ι) (Q : Exit → St → Prop) : Exit → St → Prop
  | .normal, s => ∃ j, I.ok j ∧ I.mu j < I.mu i ∧ EnterI nm I j s
  | e, s => Q e s

def condK (v : AV) (A B : Prop) : Prop :=
  match v with
  | .one (.d (.v (.bool b))) => (b = true → A) ∧ (b = false → B)
  | _ => False

def LoopVC (T : Tabs) (W : (Exit → St → Prop) → St → Prop) (D : List Nat) (Q : Exit → St → Prop) (s : St) : Prop :=
  ∃ I : LoopInv, I.chk D = true ∧ (∃ i, I.ok i ∧ EnterI T.nm I i s) ∧ ∀ i, I.ok i → W (loopK T.nm I i Q) (headStA I.rs s (I.st i) I.alis)

def wpc (T : Tabs) : Code → (Exit → St → Prop) → St → Prop
  | .skip, Q, s => Q .normal s
  | .label _, Q, s => Q .normal s
  | .region _ ops _, Q, s => TL T ops (Q .normal) ops.toList s
  | .seq a b, Q, s => wpc T a (seqK (wpc T b Q) Q) s
  | .cond c x y, Q, s => condK (rho s c) (wpc T x Q s) (wpc T y Q s)
  | .block id c, Q, s => wpc T c (blockK id Q) s
  | .loop c, Q, s => LoopVC T (wpc T c) (dsts c) Q s
  | .exit id, Q, s => Q (.exit id) s
  | .ret, Q, s => Q .ret s
  | _, _, _ => False

def isStore : Op → Bool
  | .store .. => true
  | _ => false

def statOK (T : Tabs) (n : Nat → Bool) : Code → Bool
  | .region _ ops draw => (ops.all fun o => match o.dst with
      | some d => n d && !isStore o.op
      | none => true) && (!draw || orderOK T ops)
  | .seq a b => statOK T n a && statOK T n b
  | .cond _ a b => statOK T n a && statOK T n b
  | .block _ c => statOK T n c
  | .loop c => statOK T n c
  | _ => true

section
variable {T : Tabs}

theorem seqK_mono {k k' : St → Prop} {Q Q' : Exit → St → Prop} (hk : ∀ s, k s → k' s) (hq : ∀ e s, Q e s → Q' e s) (e : Exit) (s : St) (h : seqK k Q e s) : seqK k' Q' e s := by
  cases e with
  | normal => exact hk s h
  | _ => exact hq _ _ h

theorem blockK_mono {id : Nat} {Q Q' : Exit → St → Prop} (hq : ∀ e s, Q e s → Q' e s) (e : Exit) (s : St) (h : blockK id Q e s) : blockK id Q' e s := by
  cases e with
  | exit id' => simp only [blockK] at *; split at h <;> simp_all
  | _ => exact hq _ _ h

theorem loopK_mono {nm : Bool} {I : LoopInv} {i : I.ι} {Q Q' : Exit → St → Prop} (hq : ∀ e s, Q e s → Q' e s) (e : Exit) (s : St) (h : loopK nm I i Q e s) : loopK nm I i Q' e s := by
  cases e with
  | normal => exact h
  | _ => exact hq _ _ h

theorem TL_mono {ops : Array Oper} {Q Q' : St → Prop} (hq : ∀ s, Q s → Q' s) : ∀ (l : List Oper) (s : St), TL T ops Q l s → TL T ops Q' l s
  | [], s, h => hq s h
  | o :: r, s, h => bindF_mono (fun _ _ h => TL_mono hq r _ h) h

theorem condK_mono {v : AV} {A B A' B' : Prop} (ha : A → A') (hb : B → B') (h : condK v A B) : condK v A' B' := by
  unfold condK at *
  split at h
  · exact ⟨fun e => ha (h.1 e), fun e => hb (h.2 e)⟩
  · exact h.elim

theorem wpc_mono : ∀ (c : Code) {Q Q' : Exit → St → Prop} (_ : ∀ e s, Q e s → Q' e s) (s : St), wpc T c Q s → wpc T c Q' s
  | .skip, _, _, hq, s, h => hq _ s h
  | .label _, _, _, hq, s, h => hq _ s h
  | .region _ ops _, _, _, hq, s, h => TL_mono (fun s => hq _ s) _ s h
  | .seq a b, _, _, hq, s, h => wpc_mono a (seqK_mono (fun s => wpc_mono b hq s) hq) s h
  | .cond _ x y, _, _, hq, s, h => condK_mono (wpc_mono x hq s) (wpc_mono y hq s) h
  | .block _ c, _, _, hq, s, h => wpc_mono c (blockK_mono hq) s h
  | .loop c, _, _, hq, s, h => by
    obtain ⟨I, h1, h2, h3⟩ := h
    exact ⟨I, h1, h2, fun i hi => wpc_mono c (loopK_mono hq) _ (h3 i hi)⟩
  | .exit _, _, _, hq, s, h => hq _ s h
  | .ret, _, _, hq, s, h => hq _ s h
  | .rangeFunc .., _, _, _, _, h => h.elim
  | .scope _, _, _, _, _, h => h.elim
  | .goto _, _, _, _, _, h => h.elim
  | .refuse _, _, _, _, _, h => h.elim

theorem scrub_scrub (v : AV) : scrub (scrub v) = scrub v := by
  cases v with
  | one c =>
    cases hc : cellFree c with
    | true => simp only [scrub, hc, if_true]
    | false => simp only [scrub, hc, Bool.false_eq_true, if_false]
  | agg cs =>
    cases hc : cs.all cellFree with
    | true => simp only [scrub, hc, if_true]
    | false => simp only [scrub, hc, Bool.false_eq_true, if_false]
  | _ => rfl

/-- What a piece of code does not write keeps what is known of it without objects. -/
def Fr (D : List Nat) (s s' : St) : Prop := ∀ j, j ∉ D → scrub (s'.sl j) = scrub (s.sl j)

theorem Fr.refl (D : List Nat) (s : St) : Fr D s s := fun _ _ => rfl
theorem Fr.trans {D : List Nat} {a b c : St} (h : Fr D a b) (k : Fr D b c) : Fr D a c := fun j hj => (k j hj).trans (h j hj)
theorem Fr.mono {D D' : List Nat} {a b : St} (h : Fr D a b) (hd : ∀ j ∈ D, j ∈ D') : Fr D' a b := fun j hj => h j fun hm => hj (hd j hm)

theorem TL_frame {ops : Array Oper} {Q : St → Prop} : ∀ (l : List Oper) (s : St), TL T ops Q l s → TL T ops (fun s' => Q s' ∧ Fr (l.filterMap (·.dst)) s s') l s
  | [], s, h => ⟨h, Fr.refl _ s⟩
  | o :: r, s, h => bindF_mono (fun v us h => TL_mono (fun s' hs => ⟨hs.1, fun j hj => by
      have hj2 : j ∉ r.filterMap (·.dst) := fun hm => hj (by
        rw [List.filterMap_cons]; split
        · exact hm
        · exact List.mem_cons_of_mem _ hm)
      have hj1 : o.dst ≠ some j := fun he => hj (by rw [List.filterMap_cons, he]; simp)
      rw [hs.2 j hj2, put_sl_ne _ _ _ _ _ hj1]⟩) r _ (TL_frame r _ h)) h

theorem head_frame0 {I : LoopInv} {D : List Nat} (hc : I.chk D = true) {nm : Bool} {i : I.ι} {s : St} (he : EnterI nm I i s) (i' : I.ι) : Fr D s (headSt I.rs s (I.st i')) := by
  simp only [LoopInv.chk, chkLoop, Bool.and_eq_true, List.all_eq_true, List.contains_iff_mem, decide_eq_true_eq] at hc
  obtain ⟨⟨⟨⟨h1, h2⟩, h3⟩, h4⟩, h5⟩ := hc
  have hst : ∀ i, (I.st i).map (·.1) = I.mods.map (·.1) ++ (I.boxes.map (·.1) ++ I.arrs.map (·.1)) := fun i => by
    simp [LoopInv.st, List.map_append, List.map_map, Function.comp_def]
  intro j hj
  show scrub (slotsOf I.rs s.sl (I.st i') j) = scrub (s.sl j)
  rcases slotsOf_pat (rs := I.rs) (f := s.sl) (j := j) (ps := I.st i') (by rw [hst]; exact h4) with ⟨x, e1, e2⟩ | ⟨e1, e2⟩
  · rw [e2]
    simp only [LoopInv.st, List.mem_append, List.mem_map, Prod.mk.injEq] at e1
    rcases e1 with ⟨q, hq, rfl, _⟩ | ⟨q, hq, rfl, rfl⟩ | ⟨q, hq, rfl, rfl⟩
    · exact absurd (h2 q.1 (List.mem_map.2 ⟨q, hq, rfl⟩)) hj
    · obtain ⟨he, _⟩ := he
      unfold Enter at he
      split at he
      · rename_i pr m hm
        obtain ⟨q1, m1, f1, _, _⟩ := matchAll_mem hm he.1 (q.1, .box (q.2 i)) (by simp only [LoopInv.st, List.mem_append, List.mem_map]; exact .inr (.inl ⟨q, hq, rfl⟩))
        simp only [headPat]
        unfold matchPat at f1
        split at f1
        · cases ‹Pat.box _ = Pat.unk›
        · cases ‹Pat.box _ = Pat.one _›
        · cases ‹Pat.box _ = Pat.agg _›
        · rename_i heq _; rw [heq]; rfl
        · cases f1
      · exact he.elim
    · have := he.2.1
      rw [List.all_eq_true] at this
      have := this q hq
      simp only [headPat, headCell]
      unfold isRef at this
      split at this
      · rename_i heq; rw [heq]; rfl
      · rename_i heq; rw [heq]; rfl
      · cases this
  · rw [e2]
    split
    · rename_i hr
      simp only [inRs, List.any_eq_true, Bool.and_eq_true, decide_eq_true_eq] at hr
      obtain ⟨r, hr1, hr2, hr3⟩ := hr
      refine absurd (h3 r hr1 j ?_) hj
      rw [List.mem_range'_1]
      omega
    · exact scrub_scrub _

theorem st_keys (I : LoopInv) (i : I.ι) : (I.st i).map (·.1) = I.mods.map (·.1) ++ (I.boxes.map (·.1) ++ I.arrs.map (·.1)) := by
  simp [LoopInv.st, List.map_append, List.map_map, Function.comp_def]

theorem chk_ali {I : LoopInv} {D : List Nat} (hc : I.chk D = true) : ∀ z ∈ I.alis, z.1 ∉ D ∧ z.2 ∈ I.arrs.map (·.1) := fun z hz => by
  simp only [LoopInv.chk, Bool.and_eq_true, List.all_eq_true] at hc
  have := hc.2 z hz
  simp only [Bool.and_eq_true, Bool.not_eq_true', List.contains_iff_mem] at this
  refine ⟨fun h => ?_, this.2⟩
  have h1 := this.1
  rw [List.contains_iff_mem.2 h] at h1
  cases h1

theorem chk_keys {I : LoopInv} {D : List Nat} (hc : I.chk D = true) (i : I.ι) : ((I.st i).map (·.1)).Nodup := by
  simp only [LoopInv.chk, chkLoop, Bool.and_eq_true, decide_eq_true_eq] at hc
  rw [st_keys]; exact hc.1.2

theorem ali_keys {I : LoopInv} {D : List Nat} (hc : I.chk D = true) (i : I.ι) : ∀ z ∈ I.alis, z.2 ∈ (I.st i).map (·.1) := fun z hz => by
  rw [st_keys]
  simp only [List.mem_append]
  exact .inr (.inr (chk_ali hc z hz).2)

/-- At a slot that holds an owned slice the head holds one. -/
theorem head_arr {I : LoopInv} {D : List Nat} (hc : I.chk D = true) (i : I.ι) {q : Nat} (hq : q ∈ I.arrs.map (·.1)) (f : Nat → AV) : slotsOf I.rs f (I.st i) q = .one (.osl (q, 0)) := by
  have hk := chk_keys hc i
  rcases slotsOf_pat (rs := I.rs) (f := f) (j := q) hk with ⟨x, e1, e2⟩ | ⟨e1, _⟩
  · rw [e2]
    have hn := hk
    rw [st_keys] at hn
    simp only [LoopInv.st, List.mem_append, List.mem_map, Prod.mk.injEq] at e1
    rw [List.nodup_append, List.nodup_append] at hn
    rcases e1 with ⟨z, hz, rfl, _⟩ | ⟨z, hz, rfl, rfl⟩ | ⟨z, hz, rfl, rfl⟩
    · exact absurd rfl (hn.2.2 z.1 (List.mem_map.2 ⟨z, hz, rfl⟩) z.1 (List.mem_append_right _ hq))
    · exact absurd rfl (hn.2.1.2.2 z.1 (List.mem_map.2 ⟨z, hz, rfl⟩) z.1 hq)
    · rfl
  · exact absurd (by rw [st_keys]; simp only [List.mem_append]; exact .inr (.inr hq)) e1

theorem head_frame {I : LoopInv} {D : List Nat} (hc : I.chk D = true) {nm : Bool} {i : I.ι} {s : St} (he : EnterI nm I i s) (i' : I.ι) : Fr D s (headStA I.rs s (I.st i') I.alis) := by
  intro j hj
  have h0 := head_frame0 hc he i' j hj
  show scrub (aliSl I.rs s.sl (I.st i') I.alis j) = _
  rcases aliSl_cases (rs := I.rs) (f := s.sl) (ps := I.st i') (as := I.alis) (j := j) with ⟨q, h1, h2, _⟩ | ⟨_, h2, _⟩
  · rw [h2, head_arr hc i' (chk_ali hc _ h1).2]
    have hs := aliOK_mem he.2.2 _ h1
    simp only at hs
    rw [hs]
    obtain ⟨z, hz, hzq⟩ := List.mem_map.1 (chk_ali hc _ h1).2
    have hr := he.2.1
    rw [List.all_eq_true] at hr
    have hr := hr z hz
    rw [hzq] at hr
    simp only at hr
    unfold isRef at hr
    split at hr
    · rename_i heq; rw [heq]; rfl
    · rename_i heq; rw [heq]; rfl
    · cases hr
  · rw [h2]; exact h0

theorem wpc_frame : ∀ (c : Code) {Q : Exit → St → Prop} (s : St), wpc T c Q s → wpc T c (fun e s' => Q e s' ∧ Fr (dsts c) s s') s
  | .skip, _, s, h => ⟨h, Fr.refl _ s⟩
  | .label _, _, s, h => ⟨h, Fr.refl _ s⟩
  | .region _ ops _, _, s, h => TL_frame _ s h
  | .seq a b, Q, s, h => by
    refine wpc_mono a (fun e s1 hs => ?_) s (wpc_frame a s h)
    cases e with
    | normal => exact wpc_mono b (fun e s2 hs2 => ⟨hs2.1, (hs.2.mono (fun j hj => by simp only [dsts, List.mem_append]; exact .inl hj)).trans (hs2.2.mono (fun j hj => by simp only [dsts, List.mem_append]; exact .inr hj))⟩) s1 (wpc_frame b s1 hs.1)
    | _ => exact ⟨hs.1, hs.2.mono (fun j hj => by simp only [dsts, List.mem_append]; exact .inl hj)⟩
  | .cond c x y, Q, s, h => condK_mono (fun h => wpc_mono x (fun e s' hs => ⟨hs.1, hs.2.mono (fun j hj => by simp only [dsts, List.mem_append]; exact .inl hj)⟩) s (wpc_frame x s h))
      (fun h => wpc_mono y (fun e s' hs => ⟨hs.1, hs.2.mono (fun j hj => by simp only [dsts, List.mem_append]; exact .inr hj)⟩) s (wpc_frame y s h)) h
  | .block id c, Q, s, h => by
    refine wpc_mono c (fun e s1 hs => ?_) s (wpc_frame c s h)
    cases e with
    | exit id' =>
      simp only [blockK] at hs ⊢
      split
      · rename_i hid; rw [if_pos hid] at hs; exact hs
      · rename_i hid; rw [if_neg hid] at hs; exact hs
    | _ => exact hs
  | .loop c, Q, s, h => by
    obtain ⟨I, h1, ⟨i0, hi0, he0⟩, h3⟩ := h
    refine ⟨I, h1, ⟨i0, hi0, he0⟩, fun i hi => ?_⟩
    refine wpc_mono c (fun e s1 hs => ?_) _ (wpc_frame c _ (h3 i hi))
    have hf := (head_frame h1 he0 i).trans hs.2
    cases e with
    | normal => exact hs.1
    | _ => exact ⟨hs.1, hf⟩
  | .exit _, _, s, h => ⟨h, Fr.refl _ s⟩
  | .ret, _, s, h => ⟨h, Fr.refl _ s⟩
  | .rangeFunc .., _, _, h => h.elim
  | .scope _, _, _, h => h.elim
  | .goto _, _, _, h => h.elim
  | .refuse _, _, _, h => h.elim
end

section
variable {X : Ctx} {T : Tabs}

theorem head_eq {I : LoopInv} {D : List Nat} (hc : I.chk D = true) {s s' : St} {i j : I.ι} (hb : s'.bs = s.bs) (hf : Fr D (headStA I.rs s (I.st i) I.alis) s') : headStA I.rs s' (I.st j) I.alis = headStA I.rs s (I.st j) I.alis := by
  have hc0 := hc
  simp only [LoopInv.chk, chkLoop, Bool.and_eq_true, List.all_eq_true, List.contains_iff_mem, decide_eq_true_eq, Bool.or_eq_true] at hc
  obtain ⟨⟨⟨⟨h1, h2⟩, h3⟩, h4⟩, h5⟩ := hc
  have hst : ∀ i, (I.st i).map (·.1) = I.mods.map (·.1) ++ (I.boxes.map (·.1) ++ I.arrs.map (·.1)) := fun i => by
    simp [LoopInv.st, List.map_append, List.map_map, Function.comp_def]
  have key : ∀ (ps : List (Nat × Pat)) (k : Nat), (k ∉ ps.map (·.1) → inRs I.rs k = false → scrub (s'.sl k) = scrub (s.sl k)) → slotsOf I.rs s'.sl ps k = slotsOf I.rs s.sl ps k := by
    intro ps
    induction ps with
    | nil =>
      intro k hk
      simp only [slotsOf]
      cases hr : inRs I.rs k with
      | true => rfl
      | false => simp only [Bool.false_eq_true, if_false]; exact hk (by simp) hr
    | cons x r ih =>
      intro k hk
      obtain ⟨p, y⟩ := x
      simp only [slotsOf]
      by_cases hkp : k = p
      · simp [hkp]
      · simp only [hkp, if_false]
        exact ih k fun hm hr => hk (by simp [hkp]; simpa using hm) hr
  simp only [headStA, hb]
  congr 1
  funext k
  rcases aliSl_cases (rs := I.rs) (f := s.sl) (ps := I.st j) (as := I.alis) (j := k) with ⟨q, g1, g2, g3⟩ | ⟨g1, g2, g3⟩
  · rw [g3 s'.sl, g2, head_arr hc0 j (chk_ali hc0 _ g1).2, head_arr hc0 j (chk_ali hc0 _ g1).2]
  rw [g3 s'.sl, g2]
  refine key _ k fun hk hr => ?_
  have hkD : k ∉ D := fun hm => by
    rcases h1 k hm with h | h
    · rw [hr] at h; cases h
    · exact hk (by rw [hst]; simp only [List.mem_append]; exact .inl h)
  rw [hf k hkD]
  show scrub (aliSl I.rs s.sl (I.st i) I.alis k) = _
  rcases aliSl_cases (rs := I.rs) (f := s.sl) (ps := I.st i) (as := I.alis) (j := k) with ⟨q, k1, _, _⟩ | ⟨_, k2, _⟩
  · exact absurd (List.mem_map.2 ⟨_, k1, rfl⟩) g1
  rw [k2]
  rcases slotsOf_pat (rs := I.rs) (f := s.sl) (j := k) (ps := I.st i) (by rw [hst]; exact h4) with ⟨x, e1, _⟩ | ⟨_, e2⟩
  · exact absurd (by rw [hst, ← hst i]; exact List.mem_map.2 ⟨(k, x), e1, rfl⟩) hk
  · rw [e2, hr]; exact scrub_scrub _

theorem wpc_sound (hS : ∀ (ops : Array Oper) (o : Oper), o ∈ ops.toList → (∀ d, o.dst = some d → X.dok d = true ∧ isStore o.op = false) → Sound1 X T ops o) (hm : X.P.follows .mixedOrders = true) (hnm : T.nm = true → X.M = []) :
    ∀ (c : Code) {Q : Exit → St → Prop} {s : St} {a : Act} {w : World}, statOK T X.dok c = true → wpc T c Q s → Conc X s a w → c.wp X.P (fun e a w => ∃ s', Q e s' ∧ Conc X s' a w) a w
  | .skip, Q, s, a, w, _, h, c => wp_skip ⟨s, h, c⟩
  | .label _, Q, s, a, w, _, h, c => wp_label ⟨s, h, c⟩
  | .region _ ops draw, Q, s, a, w, hst, h, c => by
    simp only [statOK, Bool.and_eq_true, Bool.or_eq_true, Bool.not_eq_true'] at hst
    obtain ⟨h1, h2⟩ := hst
    have hS' : ∀ o ∈ ops.toList, Sound1 X T ops o := fun o ho => hS ops o ho fun d hd => by
      have := Array.all_eq_true_iff_forall_mem.1 h1 o (by simpa using ho)
      simpa [hd] using this
    have hfm : (List.range ops.size).filterMap (ops[·]?) = ops.toList := by
      apply List.ext_getElem?
      intro i
      have : ∀ (l : List Nat), (∀ k ∈ l, k < ops.size) → l.filterMap (ops[·]?) = l.map (fun k => (ops[k]?).getD default) := by
        intro l
        induction l with
        | nil => intro _; rfl
        | cons x r ih =>
          intro hl
          have hx := hl x (by simp)
          rw [List.filterMap_cons, Array.getElem?_eq_getElem hx]
          simp only [List.map_cons, Array.getElem?_eq_getElem hx, Option.getD_some]
          rw [ih fun k hk => hl k (by simp [hk])]
      rw [this _ (by simp)]
      by_cases hi : i < ops.size
      · simp [hi]
      · simp [hi]
    cases draw with
    | false =>
      refine wp_region (ops_sound hS' (fun s a w hq hc => ⟨s, hq, hc⟩) _ s a w (by simp) ?_ c)
      rw [hfm]; exact h
    | true =>
      simp at h2
      refine wp_region_any hm ?_
      have c' : Conc X s a { w with drawn := w.drawn + 1 } := by
        obtain ⟨own, c⟩ := c
        exact ⟨own, c.next c.defers c.size rfl rfl rfl (Nat.le_refl _) (fun _ _ _ => rfl) c.lt c.nodup c.disj rfl c.obs c.sls fun _ _ => rfl⟩
      have hrest : rest ops.size (Array.replicate ops.size false) = List.range ops.size := by
        refine List.filter_eq_self.2 fun k hk => ?_
        have : k < ops.size := by simpa using hk
        simp [this]
      refine any_sound hS' h2 (fun s a w hq hc => ⟨s, hq, hc⟩) _ _ s a _ (by simp) ?_ (by rw [hrest]; simp) (by rw [hrest, hfm]; exact h) c'
      intro j hj
      by_cases hjs : j < ops.size <;> simp [hjs] at hj
  | .seq x y, Q, s, a, w, hst, h, c => by
    simp only [statOK, Bool.and_eq_true] at hst
    refine wp_seq (wp_mono (wpc_sound hS hm hnm x hst.1 h c) fun e a1 w1 hq => ?_)
    obtain ⟨s1, hq, hc⟩ := hq
    cases e with
    | normal => exact wpc_sound hS hm hnm y hst.2 hq hc
    | _ => exact ⟨s1, hq, hc⟩
  | .cond x c1 c2, Q, s, a, w, hst, h, c => by
    simp only [statOK, Bool.and_eq_true] at hst
    have h' : condK (rho s x) (wpc T c1 Q s) (wpc T c2 Q s) := h
    unfold condK at h'
    split at h'
    · rename_i b hb
      have hv : a.eval x = .bool b := by
        obtain ⟨own, c⟩ := c
        cases x with
        | tmp t =>
          have := c.sls t
          simp only [rho] at hb
          rw [hb] at this
          obtain ⟨F, r, _⟩ := this
          show a.tmps.getD t undef = _
          generalize a.tmps.getD t undef = v at r ⊢
          cases r with
          | v _ r => rfl
        | const v =>
          simp only [rho] at hb
          split at hb
          · simp only [AV.one.injEq, Cell.d.injEq, D.v.injEq] at hb; exact hb
          · cases hb
        | global g => cases hb
        | func f => cases hb
      cases b with
      | true => exact wp_cond_true hv (wpc_sound hS hm hnm c1 hst.1 (h'.1 rfl) c)
      | false => exact wp_cond_false hv (wpc_sound hS hm hnm c2 hst.2 (h'.2 rfl) c)
    · exact h'.elim
  | .block id x, Q, s, a, w, hst, h, c => by
    refine wp_block (wp_mono (wpc_sound hS hm hnm x hst h c) fun e a1 w1 hq => ?_)
    obtain ⟨s1, hq, hc⟩ := hq
    cases e with
    | exit id' =>
      simp only [Exit.inBlock]
      simp only [blockK] at hq
      split
      · rename_i hid; rw [if_pos hid] at hq; exact ⟨s1, hq, hc⟩
      · rename_i hid; rw [if_neg hid] at hq; exact ⟨s1, hq, hc⟩
    | _ => exact ⟨s1, hq, hc⟩
  | .loop x, Q, s, a, w, hst, h, c => by
    obtain ⟨I, h1, ⟨i0, hi0, he0⟩, h3⟩ := h
    have hnd : ∀ i, ((I.st i).map (·.1)).Nodup := fun i => chk_keys h1 i
    refine wp_loop_ghost (fun n a w => ∃ i, I.ok i ∧ I.mu i = n ∧ Conc X (headStA I.rs s (I.st i) I.alis) a w) (I.mu i0) ⟨i0, hi0, rfl, c.head hnm (hnd i0) he0.1 he0.2.2 (ali_keys h1 i0)⟩ ?_
    rintro n a1 w1 ⟨i, hi, rfl, hc⟩
    refine wp_mono (wpc_sound hS hm hnm x hst (wpc_frame x _ (h3 i hi)) hc) fun e a2 w2 hq => ?_
    obtain ⟨s2, ⟨hq, hf⟩, hc2⟩ := hq
    cases e with
    | normal =>
      obtain ⟨j, hj, hlt, hen⟩ := hq
      refine ⟨I.mu j, hlt, j, hj, rfl, ?_⟩
      have hb : s2.bs = s.bs := by
        obtain ⟨o1, d1⟩ := c
        obtain ⟨o2, d2⟩ := hc2
        rw [d1.bs, d2.bs]
      rw [← head_eq h1 hb hf]
      exact hc2.head hnm (hnd j) hen.1 hen.2.2 (ali_keys h1 j)
    | _ => exact ⟨s2, hq, hc2⟩
  | .exit _, Q, s, a, w, _, h, c => wp_exit ⟨s, h, c⟩
  | .ret, Q, s, a, w, _, h, c => wp_ret ⟨s, h, c⟩
  | .rangeFunc .., _, _, _, _, _, h, _ => h.elim
  | .scope _, _, _, _, _, _, h, _ => h.elim
  | .goto _, _, _, _, _, _, h, _ => h.elim
  | .refuse _, _, _, _, _, _, h, _ => h.elim
end

end Go.Own
