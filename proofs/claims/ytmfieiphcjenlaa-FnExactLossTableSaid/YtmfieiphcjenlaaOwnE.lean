/-
  Own calculus, part E: an operation looks at its operands alone; two operations apart from each other may change places; so the order of a region does not matter. Conditions: none (lemmas).
-/
import Derived.Test.YtmfieiphcjenlaaOwnD
namespace Go.Own
open Go
set_option linter.unusedVariables false
set_option linter.unusedSimpArgs false

section
variable {T : Tabs} {ρ ρ' : Operand → AV}

theorem map_congr_toList {as : Array Operand} (h : ∀ x ∈ as, ρ x = ρ' x) : as.toList.map ρ = as.toList.map ρ' :=
  List.map_congr_left fun x hx => h x (by simpa using hx)

theorem opP_congr (o : Op) (h : ∀ x ∈ o.operands, ρ x = ρ' x) : opP T ρ o = opP T ρ' o := by
  cases o with
  | makeFunc fn first bs =>
    have hb : bs.toList.map ρ = bs.toList.map ρ' := List.map_congr_left fun x hx => h x (by
      simp only [Op.operands, Array.mem_append]; exact .inr (by simpa using hx))
    cases fn <;> first | rfl | (unfold opP; dsimp only; rw [hb])
  | _ => simp only [Op.operands] at h <;> simp only [opP] <;> (first | rfl | (simp_all; done))

theorem asNat_congr {x : Option Operand} (h : ∀ y ∈ x.toList, ρ y = ρ' y) : asNat ρ x = asNat ρ' x := by
  cases x with
  | none => rfl
  | some x => simp only [asNat]; rw [h x (by simp)]

theorem opR_congr (d : Nat) (ob : Id → Ob) (fr im : Bool) (o : Op) (h : ∀ x ∈ o.operands, ρ x = ρ' x) : opR T d ρ ob fr im o = opR T d ρ' ob fr im o := by
  cases o with
  | load t x => simp only [Op.operands] at h; simp only [opR]; rw [h x (by simp)]
  | indexAddr t x i => simp only [Op.operands] at h; simp only [opR]; rw [h x (by simp), h i (by simp)]
  | index t x i => simp only [Op.operands] at h; simp only [opR]; rw [h x (by simp), h i (by simp)]
  | slice t x lo hi mx =>
    simp only [Op.operands] at h
    simp only [opR]
    rw [h x (by simp), asNat_congr (x := lo) (fun y hy => h y (by simp at hy ⊢; simp [hy])), asNat_congr (x := hi) (fun y hy => h y (by simp at hy ⊢; simp [hy]))]
  | convert a b x => simp only [Op.operands] at h; simp only [opR]; rw [h x (by simp)]
  | makeSlice t n c => simp only [Op.operands] at h; simp only [opR]; rw [h n (by simp), h c (by simp)]
  | buildSlice t n ps =>
    simp only [Op.operands] at h
    have hp : (ps.toList.map (·.2)).map ρ = (ps.toList.map (·.2)).map ρ' := List.map_congr_left fun x hx => h x (by simpa using hx)
    simp only [opR, hp]
  | build t ps =>
    simp only [Op.operands] at h
    have hp : (ps.toList.map (·.2)).map ρ = (ps.toList.map (·.2)).map ρ' := List.map_congr_left fun x hx => h x (by simpa using hx)
    simp only [opR, hp]
  | call c =>
    obtain ⟨cal, as, ts⟩ := c
    have ha : as.toList.map ρ = as.toList.map ρ' := map_congr_toList fun x hx => h x (by simp [Op.operands, Call.operands, hx])
    cases cal with
    | builtin b => cases b <;> simp only [opR, ha]
    | invoke r m => simp only [opR]
    | value f =>
      have hf : ρ f = ρ' f := h f (by simp [Op.operands, Call.operands])
      cases f <;> simp only [opR, ha, hf]
  | _ => rfl

theorem opM_congr (d : Nat) (ob : Id → Ob) (fr : Bool) (o : Op) (h : ∀ x ∈ o.operands, ρ x = ρ' x) : opM T d ρ ob fr o = opM T d ρ' ob fr o := by
  cases o with
  | assign x => simp only [Op.operands] at h; simp only [opM]; rw [h x (by simp)]
  | box t x => simp only [Op.operands] at h; simp only [opM]; rw [h x (by simp)]
  | store t a x => simp only [Op.operands] at h; simp only [opM]; rw [h x (by simp), h a (by simp)]
  | call c =>
    obtain ⟨cal, as, ts⟩ := c
    have ha : as.toList.map ρ = as.toList.map ρ' := map_congr_toList fun x hx => h x (by simp [Op.operands, Call.operands, hx])
    cases cal with
    | builtin b => cases b <;> simp only [opM, ha]
    | invoke r m => simp only [opM]
    | value f => cases f <;> simp only [opM, ha]
  | _ => rfl

theorem opF_congr (d : Nat) (ob : Id → Ob) (fr im : Bool) (o : Op) (h : ∀ x ∈ o.operands, ρ x = ρ' x) : opF T d ρ ob fr im o = opF T d ρ' ob fr im o := by
  simp only [opF]
  cases cls T o with
  | P => simp only [opP_congr o h]
  | R => simp only [opR_congr d ob fr im o h]
  | M => simp only [opM_congr d ob fr o h]
end

theorem opF_P (T : Tabs) (d : Nat) (ρ : Operand → AV) (ob ob' : Id → Ob) (fr fr' im : Bool) (o : Op) (h : cls T o = .P) : opF T d ρ ob fr im o = opF T d ρ ob' fr' im o := by
  simp only [opF, h]

/-- An assignment of a slot that is said to hold a scalar touches no object. -/
def pcls (T : Tabs) : Op → Cls
  | .assign x => if bxq T x then .P else .M
  | o => cls T o
theorem opM_assign_sc {T : Tabs} {d : Nat} {ρ : Operand → AV} {ob : Id → Ob} {fr : Bool} {x : Operand} (h : bxq T x = true) : opM T d ρ ob fr (.assign x) = if isSc (ρ x) = true then some (True, ρ x, []) else none := by
  simp only [opM, h, Bool.true_and]
  unfold isSc
  split <;> simp [matAV, *]
theorem opF_Q (T : Tabs) (d : Nat) (ρ : Operand → AV) (ob ob' : Id → Ob) (fr fr' im : Bool) (o : Op) (h : pcls T o = .P) : opF T d ρ ob fr im o = opF T d ρ ob' fr' im o := by
  cases o with
  | assign x =>
    have hb : bxq T x = true := by
      cases e : bxq T x with
      | true => rfl
      | false => simp [pcls, e] at h
    simp only [opF, cls, opM_assign_sc hb]
  | _ => exact opF_P _ _ _ _ _ _ _ _ _ h

theorem opF_us {T : Tabs} {d : Nat} {ρ : Operand → AV} {ob : Id → Ob} {fr im : Bool} {o : Op} {p v us} (h : cls T o ≠ .M) (hf : opF T d ρ ob fr im o = some (p, v, us)) : us = [] := by
  simp only [opF] at hf
  cases hc : cls T o with
  | P => simp only [hc] at hf; split at hf <;> simp at hf; exact hf.2.2
  | R => simp only [hc] at hf; split at hf <;> simp at hf; exact hf.2.2
  | M => exact absurd hc h

theorem opF_usQ {T : Tabs} {d : Nat} {ρ : Operand → AV} {ob : Id → Ob} {fr im : Bool} {o : Op} {p v us} (h : pcls T o ≠ .M) (hf : opF T d ρ ob fr im o = some (p, v, us)) : us = [] := by
  cases o with
  | assign x =>
    have hb : bxq T x = true := by
      cases e : bxq T x with
      | true => rfl
      | false => simp [pcls, e] at h
    simp only [opF, cls, opM_assign_sc hb] at hf
    split at hf
    · simp at hf; exact hf.2.2
    · cases hf
  | _ =>
    refine opF_us ?_ hf
    exact h

theorem rho_congr {s s' : St} {x : Operand} (h : ∀ t, x = .tmp t → s'.sl t = s.sl t) : rho s' x = rho s x := by
  cases x with
  | tmp t => exact h t rfl
  | _ => rfl

theorem F1_congr {T : Tabs} {ops : Array Oper} (o : Oper) {s s' : St} (h1 : ∀ t ∈ o.looksAt ops, s'.sl t = s.sl t) (h2 : ∀ d, o.dst = some d → s'.sl d = s.sl d)
    (h3 : pcls T o.op = .P ∨ s'.ob = s.ob) : F1 T ops o s' = F1 T ops o s := by
  have hr : ∀ x ∈ o.op.operands, rho s' x = rho s x := fun x hx => rho_congr fun t ht => h1 t (by
    subst ht
    exact List.mem_append_left _ (List.mem_filterMap.2 ⟨.tmp t, by simpa using hx, rfl⟩))
  have hg : gOf ops s' o = gOf ops s o := by
    unfold gOf
    cases hgo : o.guard with
    | none => rfl
    | some jw =>
      obtain ⟨j, want⟩ := jw
      cases hj : (ops[j]?).bind (·.dst) with
      | none => simp only [hj]
      | some t =>
        have := h1 t (by simp [Oper.looksAt, hgo, hj])
        simp only [hj, this]
  have hfr : s'.ob = s.ob → freshAt s' o.dst = freshAt s o.dst := fun ho => by
    cases hd : o.dst with
    | none => rfl
    | some d => simp only [freshAt, h2 d hd, ho]
  have e1 : ∀ b2, opF T (o.dst.getD 0) (rho s') s'.ob (freshAt s' o.dst) b2 o.op = opF T (o.dst.getD 0) (rho s) s.ob (freshAt s o.dst) b2 o.op := fun b2 => by
    rw [opF_congr (ρ := rho s') (ρ' := rho s) _ _ _ _ _ hr]
    rcases h3 with h | h
    · exact opF_Q _ _ _ _ _ _ _ _ _ h
    · rw [hfr h, h]
  have e2 : ∀ b1 b2, opF T (o.dst.getD 0) (fun x => strip (rho s' x)) s'.ob b1 b2 o.op = opF T (o.dst.getD 0) (fun x => strip (rho s x)) s.ob b1 b2 o.op := fun b1 b2 => by
    rw [opF_congr (ρ := fun x => strip (rho s' x)) (ρ' := fun x => strip (rho s x)) _ _ _ _ _ fun x hx => by rw [hr x hx]]
    rcases h3 with h | h
    · exact opF_Q _ _ _ _ _ _ _ _ _ h
    · rw [h]
  have e3 : ∀ g, (∀ x ∈ o.op.operands.toList, condOK g (rho s' x)) = (∀ x ∈ o.op.operands.toList, condOK g (rho s x)) := fun g => by
    refine propext ⟨fun H x hx => ?_, fun H x hx => ?_⟩
    · rw [← hr x (by simpa using hx)]; exact H x hx
    · rw [hr x (by simpa using hx)]; exact H x hx
  have e4 : ∀ g, pickG s' g o.op = pickG s g o.op := fun g => by
    obtain ⟨dst, op, type, pos, after, guard⟩ := o
    dsimp only at hr ⊢
    cases op with
    | pick c a b =>
      have q1 := hr c (by simp [Op.operands])
      have q2 := hr a (by simp [Op.operands])
      have q3 := hr b (by simp [Op.operands])
      simp only [pickG, q1, q2, q3]
    | _ => rfl
  unfold F1
  rw [hg]
  simp only [e1, e2, e3, e4]

theorem F1_us {T : Tabs} {ops : Array Oper} {o : Oper} {s : St} {p v us} (h : pcls T o.op ≠ .M) (hf : F1 T ops o s = some (p, v, us)) : us = [] := by
  unfold F1 at hf
  split at hf
  · cases hf
  · exact opF_usQ h hf
  · split at hf
    · cases hf
    · split at hf
      · simp at hf; exact hf.2.2
      · split at hf
        · simp at hf; exact hf.2.2
        · cases hf

theorem upd_comm (f : Nat → AV) {d e : Nat} (u v : AV) (h : d ≠ e) : upd (upd f d u) e v = upd (upd f e v) d u := by
  funext i
  simp only [upd]
  split <;> split <;> simp_all

theorem St.put_comm (s : St) {x y : Option Nat} {u v : AV} {us vs : List (Id × Ob)} (h : ∀ d, x = some d → y ≠ some d) (hu : us = [] ∨ vs = []) :
    (s.put x u us).put y v vs = (s.put y v vs).put x u us := by
  have ho : updO (updO s.ob us) vs = updO (updO s.ob vs) us := by
    rcases hu with rfl | rfl <;> rfl
  cases x with
  | none => cases y <;> simp only [St.put, ho]
  | some d =>
    cases y with
    | none => simp only [St.put, ho]
    | some e =>
      have hde : d ≠ e := fun he => h d rfl (by rw [he])
      simp only [St.put, ho, upd_comm s.sl _ _ hde]

/-- A read of a variable, and an append: they touch no common object. -/
def ldap (T : Tabs) : Op → Op → Bool
  | .load _ x, .call { callee := .builtin .append, .. } => bxq T x
  | .call { callee := .builtin .append, .. }, .load _ x => bxq T x
  | _, _ => false

/-- Two operations that may change places. -/
def indep (T : Tabs) (ops : Array Oper) (x y : Oper) : Bool :=
  x.apart ops y && ((match pcls T x.op, pcls T y.op with
    | .M, .P | .P, _ | .R, .P | .R, .R => true
    | _, _ => false) || ldap T x.op y.op)

theorem opR_load_box {T : Tabs} {d d' : Nat} {ρ : Operand → AV} {ob ob' : Id → Ob} {fr fr' im im' : Bool} {t : TypeId} {x : Operand} (hb : bxq T x = true) (hbox : ∀ id cs, ob' id = .box cs ↔ ob id = .box cs) :
    opR T d ρ ob' fr' im' (.load t x) = opR T d' ρ ob fr im (.load t x) := by
  simp only [opR, hb, Bool.true_and]
  cases hx : ρ x with
  | one c =>
    cases c with
    | bptr id o =>
      simp only [isBptr, Bool.not_true, Bool.false_eq_true, if_false]
      cases h : ob id with
      | box cs => simp only [(hbox id cs).2 h]
      | _ =>
        cases h' : ob' id with
        | box cs => rw [(hbox id cs).1 h'] at h; cases h
        | _ => rfl
    | _ => simp only [isBptr, Bool.not_false, if_true]
  | _ => simp only [isBptr, Bool.not_false, if_true]

theorem F1_load_box {T : Tabs} {ops : Array Oper} (o : Oper) {s s' : St} {t : TypeId} {x : Operand} (ho : o.op = .load t x) (hb : bxq T x = true) (h1 : ∀ t ∈ o.looksAt ops, s'.sl t = s.sl t) (hbox : ∀ id cs, s'.ob id = .box cs ↔ s.ob id = .box cs) : F1 T ops o s' = F1 T ops o s := by
  have hr : ∀ x ∈ o.op.operands, rho s' x = rho s x := fun x hx => rho_congr fun t ht => h1 t (by
    subst ht
    exact List.mem_append_left _ (List.mem_filterMap.2 ⟨.tmp t, by simpa using hx, rfl⟩))
  have hg : gOf ops s' o = gOf ops s o := by
    unfold gOf
    cases hgo : o.guard with
    | none => rfl
    | some jw =>
      obtain ⟨j, want⟩ := jw
      cases hj : (ops[j]?).bind (·.dst) with
      | none => simp only [hj]
      | some t =>
        have := h1 t (by simp [Oper.looksAt, hgo, hj])
        simp only [hj, this]
  have hxx : rho s' x = rho s x := hr x (by rw [ho]; simp [Op.operands])
  have e0 : ∀ (f f' : Operand → AV) (hf : f x = f' x) (b1 b1' b2 : Bool), opF T (o.dst.getD 0) f s'.ob b1 b2 o.op = opF T (o.dst.getD 0) f' s.ob b1' b2 o.op := fun f f' hf b1 b1' b2 => by
    rw [ho]
    have e : opR T (o.dst.getD 0) f s'.ob b1 b2 (.load t x) = opR T (o.dst.getD 0) f' s.ob b1' b2 (.load t x) := by
      rw [opR_congr (ρ := f) (ρ' := f') _ _ _ _ _ (fun y hy => by simp [Op.operands] at hy; rw [hy, hf])]
      exact opR_load_box hb hbox
    have hc : cls T (.load t x) = .R := rfl
    simp only [opF, hc, e]
  have e3 : ∀ g, (∀ x ∈ o.op.operands.toList, condOK g (rho s' x)) = (∀ x ∈ o.op.operands.toList, condOK g (rho s x)) := fun g => by
    refine propext ⟨fun H x hx => ?_, fun H x hx => ?_⟩
    · rw [← hr x (by simpa using hx)]; exact H x hx
    · rw [hr x (by simpa using hx)]; exact H x hx
  have e4 : ∀ g, pickG s' g o.op = pickG s g o.op := fun g => by rw [ho]; rfl
  unfold F1
  rw [hg]
  simp only [e0 (rho s') (rho s) hxx (freshAt s' o.dst) (freshAt s o.dst), e0 (fun x => strip (rho s' x)) (fun x => strip (rho s x)) (by rw [hxx]) false false, e3, e4]

theorem updO_box {cs : List Cell} {id : Id} : ∀ {us : List (Id × Ob)} {ob : Id → Ob}, (∀ q ∈ us, q.2 = .dead ∧ ∀ cs, ob q.1 ≠ .box cs) → (updO ob us id = .box cs ↔ ob id = .box cs)
  | [], ob, _ => Iff.rfl
  | (k, o) :: us, ob, h => by
    obtain ⟨rfl, hk⟩ := h (k, o) (by simp)
    rw [updO, updO_box (us := us) fun q hq => ⟨(h q (by simp [hq])).1, fun cs => ?_⟩]
    · by_cases e : id = k
      · subst e; simp only [if_true]; exact ⟨fun h => (by cases h), fun h => absurd h (hk cs)⟩
      · simp only [e, if_false]
    · by_cases e : q.1 = k
      · simp [e]
      · simp only [e, if_false]; exact (h q (by simp [hq])).2 cs

theorem ownCell_box {ob : Id → Ob} {c : Cell} {id : Id} {r} (h : ownCell ob c = some (id, r)) : ∀ cs, ob id ≠ .box cs := by
  intro cs hc
  cases c with
  | fr id' =>
    simp only [ownCell] at h
    split at h
    · rename_i e
      simp only [Option.some.injEq, Prod.mk.injEq] at h
      obtain ⟨rfl, _⟩ := h
      rw [hc] at e; cases e
    · cases h
  | osl id' =>
    simp only [ownCell] at h
    split at h
    · rename_i e
      simp only [Option.some.injEq, Prod.mk.injEq] at h
      obtain ⟨rfl, _⟩ := h
      rw [hc] at e; cases e
    · cases h
  | _ => simp [ownCell] at h

theorem tgt_box {ob : Id → Ob} {sz : Nat} {x : AV} {l dp us} (h : tgtOf ob sz x = some (l, dp, us)) : ∀ q ∈ us, q.2 = .dead ∧ ∀ cs, ob q.1 ≠ .box cs := by
  unfold tgtOf at h
  split at h
  · simp only [Option.some.injEq, Prod.mk.injEq] at h; obtain ⟨_, _, rfl⟩ := h; simp
  · split at h
    · rename_i ho
      split at h
      · simp only [Option.some.injEq, Prod.mk.injEq] at h; obtain ⟨_, _, rfl⟩ := h
        intro q hq; simp only [List.mem_singleton] at hq; subst hq; exact ⟨rfl, ownCell_box ho⟩
      · cases h
    · cases h
  · split at h
    · rename_i ho _
      split at h
      · simp only [Option.some.injEq, Prod.mk.injEq] at h; obtain ⟨_, _, rfl⟩ := h
        intro q hq; simp only [List.mem_singleton] at hq; subst hq; exact ⟨rfl, fun cs hc => by rw [hc] at ho; cases ho⟩
      · cases h
    · cases h
  · cases h

theorem src_box {ob : Id → Ob} {sz dp : Nat} {x : AV} {p l dp' us} (h : srcOf ob sz dp x = some (p, l, dp', us)) : ∀ q ∈ us, q.2 = .dead ∧ ∀ cs, ob q.1 ≠ .box cs := by
  have nil : ∀ {P : Id × Ob → Prop}, us = [] → ∀ q ∈ us, P q := fun h q hq => by rw [h] at hq; cases hq
  unfold srcOf at h
  split at h
  · split at h
    · split at h
      · split at h
        · simp only [Option.some.injEq, Prod.mk.injEq] at h; exact nil h.2.2.2.symm
        · split at h
          · split at h
            · rename_i ho
              split at h
              · cases h
              · simp only [Option.some.injEq, Prod.mk.injEq] at h
                intro q hq
                rw [← h.2.2.2] at hq
                simp only [List.mem_singleton] at hq
                subst hq
                exact ⟨rfl, ownCell_box ho⟩
            · split at h
              · simp only [Option.some.injEq, Prod.mk.injEq] at h; exact nil h.2.2.2.symm
              · cases h
          · split at h
            · simp only [Option.some.injEq, Prod.mk.injEq] at h; exact nil h.2.2.2.symm
            · cases h
      · cases h
    · cases h
  · split at h
    · simp only [Option.some.injEq, Prod.mk.injEq] at h; exact nil h.2.2.2.symm
    · simp only [Option.some.injEq, Prod.mk.injEq] at h; exact nil h.2.2.2.symm
    · cases h
  · cases h

theorem append_box {T : Tabs} {ops : Array Oper} {o : Oper} {s : St} {as : Array Operand} {ts : Array TypeId} {p v us} (ho : o.op = .call ⟨.builtin .append, as, ts⟩) (h : F1 T ops o s = some (p, v, us)) : ∀ q ∈ us, q.2 = .dead ∧ ∀ cs, s.ob q.1 ≠ .box cs := by
  have hc : cls T o.op = .M := by rw [ho]; rfl
  unfold F1 at h
  split at h
  · cases h
  · simp only [opF, hc] at h
    rw [ho] at h
    unfold opM at h
    dsimp only at h
    split at h
    · split at h
      · unfold appF at h
        split at h
        · split at h
          · split at h
            · rename_i l dp us1 ht
              split at h
              · rename_i q m dp' us2 hs
                simp only [Option.some.injEq, Prod.mk.injEq] at h
                obtain ⟨_, _, rfl⟩ := h
                intro q hq
                rcases List.mem_append.1 hq with hq | hq
                · exact tgt_box ht q hq
                · refine ⟨(src_box hs q hq).1, fun cs hcs => (src_box hs q hq).2 cs ((updO_box (tgt_box ht)).2 hcs)⟩
              · cases h
            · cases h
          · cases h
        · cases h
      · cases h
    · cases h
  · simp only [hc] at h; cases h

theorem put_sl_ne (s : St) (x : Option Nat) (u : AV) (us : List (Id × Ob)) (t : Nat) (h : x ≠ some t) : (s.put x u us).sl t = s.sl t := by
  cases x with
  | none => rfl
  | some d => simp only [St.put]; exact upd_ne _ _ _ _ fun e => h (e ▸ rfl)

theorem TL_swap {T : Tabs} {ops : Array Oper} {x y : Oper} (h : indep T ops x y = true) {K : St → Prop} {s : St}
    (H : bindF (F1 T ops x s) fun v us => bindF (F1 T ops y (s.put x.dst v us)) fun u vs => K ((s.put x.dst v us).put y.dst u vs)) :
    bindF (F1 T ops y s) fun v us => bindF (F1 T ops x (s.put y.dst v us)) fun u vs => K ((s.put y.dst v us).put x.dst u vs) := by
  unfold indep at h
  rw [Bool.and_eq_true] at h
  obtain ⟨ha, hc⟩ := h
  obtain ⟨h1, h2, h3⟩ := Oper.apart_spec ha
  rw [Bool.or_eq_true] at hc
  have hc' : ldap T x.op y.op = true → (∃ t z as ts, x.op = .load t z ∧ y.op = .call ⟨.builtin .append, as, ts⟩ ∧ bxq T z = true) ∨ (∃ t z as ts, y.op = .load t z ∧ x.op = .call ⟨.builtin .append, as, ts⟩ ∧ bxq T z = true) := fun h => by
    unfold ldap at h
    split at h
    · rename_i e1 e2; exact .inl ⟨_, _, _, _, e1, e2, h⟩
    · rename_i e1 e2; exact .inr ⟨_, _, _, _, e2, e1, h⟩
    · cases h
  have hdst : ∀ d, y.dst = some d → x.dst ≠ some d := fun d hy hx => h2 d hx hy
  cases hx : F1 T ops x s with
  | none => rw [hx] at H; exact H.elim
  | some r =>
    obtain ⟨p, v, us⟩ := r
    rw [hx] at H
    obtain ⟨hp, H⟩ := H
    have cx : pcls T x.op = .M ∨ us = [] := by
      by_cases hm : pcls T x.op = .M
      · exact .inl hm
      · exact .inr (F1_us hm hx)
    have ey : F1 T ops y (s.put x.dst v us) = F1 T ops y s := by
      rcases cx with hm | rfl
      · rcases hc with hc | hc
        · refine F1_congr y (fun t ht => put_sl_ne _ _ _ _ _ fun e => h1 t e ht) (fun d hd => put_sl_ne _ _ _ _ _ (hdst d hd)) ?_
          rw [hm] at hc
          left
          cases hy : pcls T y.op <;> simp_all
        · rcases hc' hc with ⟨t, z, as, ts, e1, e2, e3⟩ | ⟨t, z, as, ts, e1, e2, e3⟩
          · rw [e1] at hm; cases hm
          · exact F1_load_box y e1 e3 (fun t ht => put_sl_ne _ _ _ _ _ fun e => h1 t e ht) fun id cs => by rw [St.put_ob]; exact updO_box (append_box e2 hx)
      · refine F1_congr y (fun t ht => put_sl_ne _ _ _ _ _ fun e => h1 t e ht) (fun d hd => put_sl_ne _ _ _ _ _ (hdst d hd)) ?_
        right; rw [St.put_ob]; rfl
    rw [ey] at H
    cases hy : F1 T ops y s with
    | none => rw [hy] at H; exact H.elim
    | some r =>
      obtain ⟨q, u, vs⟩ := r
      rw [hy] at H
      obtain ⟨hq, H⟩ := H
      have cy : pcls T y.op = .M ∨ vs = [] := by
        by_cases hm : pcls T y.op = .M
        · exact .inl hm
        · exact .inr (F1_us hm hy)
      have ex : F1 T ops x (s.put y.dst u vs) = F1 T ops x s := by
        rcases cy with hm | rfl
        · rcases hc with hc | hc
          · refine F1_congr x (fun t ht => put_sl_ne _ _ _ _ _ fun e => h3 t e ht) (fun d hd => put_sl_ne _ _ _ _ _ fun e => h2 d hd e) ?_
            rw [hm] at hc
            left
            cases hx' : pcls T x.op <;> simp_all
          · rcases hc' hc with ⟨t, z, as, ts, e1, e2, e3⟩ | ⟨t, z, as, ts, e1, e2, e3⟩
            · exact F1_load_box x e1 e3 (fun t ht => put_sl_ne _ _ _ _ _ fun e => h3 t e ht) fun id cs => by rw [St.put_ob]; exact updO_box (append_box e2 hy)
            · rw [e1] at hm; cases hm
        · refine F1_congr x (fun t ht => put_sl_ne _ _ _ _ _ fun e => h3 t e ht) (fun d hd => put_sl_ne _ _ _ _ _ fun e => h2 d hd e) ?_
          right; rw [St.put_ob]; rfl
      refine ⟨hq, ?_⟩
      simp only
      rw [ex, hx]
      refine ⟨hp, ?_⟩
      show K ((s.put y.dst u vs).put x.dst v us)
      rw [show (s.put y.dst u vs).put x.dst v us = (s.put x.dst v us).put y.dst u vs from (St.put_comm s h2 ?_).symm]
      · exact H
      · rcases cx with hm | rfl
        · rcases cy with hm' | rfl
          · rcases hc with hc | hc
            · rw [hm, hm'] at hc; simp at hc
            · rcases hc' hc with ⟨t, z, as, ts, e1, e2, e3⟩ | ⟨t, z, as, ts, e1, e2, e3⟩
              · rw [e1] at hm; cases hm
              · rw [e1] at hm'; cases hm'
          · exact .inr rfl
        · exact .inl rfl

theorem bindF_mono {r : Option (Prop × AV × List (Id × Ob))} {K K' : AV → List (Id × Ob) → Prop} (h : ∀ v us, K v us → K' v us) (H : bindF r K) : bindF r K' := by
  unfold bindF at *
  split at H
  · exact ⟨H.1, h _ _ H.2⟩
  · exact H.elim

/-- An operation that is apart from all that stand before it may be taken first. -/
theorem TL_first {T : Tabs} {ops : Array Oper} {Q : St → Prop} {x : Oper} {post : List Oper} : ∀ (pre : List Oper) (_ : ∀ y ∈ pre, indep T ops y x = true) (s : St),
    TL T ops Q (pre ++ x :: post) s → TL T ops Q (x :: (pre ++ post)) s
  | [], _, _, H => H
  | y :: pre, hi, s, H => by
    have H1 : bindF (F1 T ops y s) fun v us => TL T ops Q (x :: (pre ++ post)) (s.put y.dst v us) :=
      bindF_mono (fun v us h => TL_first pre (fun z hz => hi z (by simp [hz])) _ h) H
    exact TL_swap (K := TL T ops Q (pre ++ post)) (hi y (by simp)) H1

end Go.Own
