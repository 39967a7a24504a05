/-
  Own calculus, part E: an operation looks at its operands alone; two operations apart from each other may change places; so the order of a region does not matter. Conditions: none (lemmas).
-/
import Derived.Test.YtpedafnammofiaaOwnD
namespace Go.Own
open Go
set_option linter.unusedVariables false
set_option linter.unusedSimpArgs false

section
variable {T : Tabs} {ρ ρ' : Operand → AV}

theorem map_congr_toList {as : Array Operand} (h : ∀ x ∈ as, ρ x = ρ' x) : as.toList.map ρ = as.toList.map ρ' :=
  List.map_congr_left fun x hx => h x (by simpa using hx)

theorem opP_congr (o : Op) (h : ∀ x ∈ o.operands, ρ x = ρ' x) : opP T ρ o = opP T ρ' o := by
  cases o <;> simp only [Op.operands] at h <;> simp only [opP]
  all_goals (first | rfl | (simp_all; done))

theorem asNat_congr {x : Option Operand} (h : ∀ y ∈ x.toList, ρ y = ρ' y) : asNat ρ x = asNat ρ' x := by
  cases x with
  | none => rfl
  | some x => simp only [asNat]; rw [h x (by simp)]

theorem opR_congr (d : Nat) (ob : Id → Ob) (fr im : Bool) (o : Op) (h : ∀ x ∈ o.operands, ρ x = ρ' x) : opR T d ρ ob fr im o = opR T d ρ' ob fr im o := by
  cases o with
  | load t x => simp only [Op.operands] at h; simp only [opR]; rw [h x (by simp)]
  | indexAddr t x i => simp only [Op.operands] at h; simp only [opR]; rw [h x (by simp), h i (by simp)]
  | index t x i => simp only [Op.operands] at h; simp only [opR]; rw [h x (by simp), h i (by simp)]
  | slice t x lo hi mx =>
    simp only [Op.operands] at h
    simp only [opR]
    rw [h x (by simp), asNat_congr (x := lo) (fun y hy => h y (by simp at hy ⊢; simp [hy])), asNat_congr (x := hi) (fun y hy => h y (by simp at hy ⊢; simp [hy]))]
  | convert a b x => simp only [Op.operands] at h; simp only [opR]; rw [h x (by simp)]
  | makeSlice t n c => simp only [Op.operands] at h; simp only [opR]; rw [h n (by simp), h c (by simp)]
  | buildSlice t n ps =>
    simp only [Op.operands] at h
    have hp : (ps.toList.map (·.2)).map ρ = (ps.toList.map (·.2)).map ρ' := List.map_congr_left fun x hx => h x (by simpa using hx)
    simp only [opR, hp]
  | build t ps =>
    simp only [Op.operands] at h
    have hp : (ps.toList.map (·.2)).map ρ = (ps.toList.map (·.2)).map ρ' := List.map_congr_left fun x hx => h x (by simpa using hx)
    simp only [opR, hp]
  | call c =>
    obtain ⟨cal, as, ts⟩ := c
    have ha : as.toList.map ρ = as.toList.map ρ' := map_congr_toList fun x hx => h x (by simp [Op.operands, Call.operands, hx])
    cases cal with
    | builtin b => cases b <;> simp only [opR, ha]
    | invoke r m => simp only [opR]
    | value f =>
      have hf : ρ f = ρ' f := h f (by simp [Op.operands, Call.operands])
      cases f <;> simp only [opR, ha, hf]
  | _ => rfl

theorem opM_congr (d : Nat) (ob : Id → Ob) (fr : Bool) (o : Op) (h : ∀ x ∈ o.operands, ρ x = ρ' x) : opM T d ρ ob fr o = opM T d ρ' ob fr o := by
  cases o with
  | assign x => simp only [Op.operands] at h; simp only [opM]; rw [h x (by simp)]
  | box t x => simp only [Op.operands] at h; simp only [opM]; rw [h x (by simp)]
  | store t a x => simp only [Op.operands] at h; simp only [opM]; rw [h x (by simp), h a (by simp)]
  | call c =>
    obtain ⟨cal, as, ts⟩ := c
    have ha : as.toList.map ρ = as.toList.map ρ' := map_congr_toList fun x hx => h x (by simp [Op.operands, Call.operands, hx])
    cases cal with
    | builtin b => cases b <;> simp only [opM, ha]
    | invoke r m => simp only [opM]
    | value f => cases f <;> simp only [opM, ha]
  | _ => rfl

theorem opF_congr (d : Nat) (ob : Id → Ob) (fr im : Bool) (o : Op) (h : ∀ x ∈ o.operands, ρ x = ρ' x) : opF T d ρ ob fr im o = opF T d ρ' ob fr im o := by
  simp only [opF]
  cases cls T o with
  | P => simp only [opP_congr o h]
  | R => simp only [opR_congr d ob fr im o h]
  | M => simp only [opM_congr d ob fr o h]
end

theorem opF_P (T : Tabs) (d : Nat) (ρ : Operand → AV) (ob ob' : Id → Ob) (fr fr' im : Bool) (o : Op) (h : cls T o = .P) : opF T d ρ ob fr im o = opF T d ρ ob' fr' im o := by
  simp only [opF, h]

theorem opF_us {T : Tabs} {d : Nat} {ρ : Operand → AV} {ob : Id → Ob} {fr im : Bool} {o : Op} {p v us} (h : cls T o ≠ .M) (hf : opF T d ρ ob fr im o = some (p, v, us)) : us = [] := by
  simp only [opF] at hf
  cases hc : cls T o with
  | P => simp only [hc] at hf; split at hf <;> simp at hf; exact hf.2.2
  | R => simp only [hc] at hf; split at hf <;> simp at hf; exact hf.2.2
  | M => exact absurd hc h

theorem rho_congr {s s' : St} {x : Operand} (h : ∀ t, x = .tmp t → s'.sl t = s.sl t) : rho s' x = rho s x := by
  cases x with
  | tmp t => exact h t rfl
  | _ => rfl

theorem F1_congr {T : Tabs} {ops : Array Oper} (o : Oper) {s s' : St} (h1 : ∀ t ∈ o.looksAt ops, s'.sl t = s.sl t) (h2 : ∀ d, o.dst = some d → s'.sl d = s.sl d)
    (h3 : cls T o.op = .P ∨ s'.ob = s.ob) : F1 T ops o s' = F1 T ops o s := by
  have hr : ∀ x ∈ o.op.operands, rho s' x = rho s x := fun x hx => rho_congr fun t ht => h1 t (by
    subst ht
    exact List.mem_append_left _ (List.mem_filterMap.2 ⟨.tmp t, by simpa using hx, rfl⟩))
  have hg : gOf ops s' o = gOf ops s o := by
    unfold gOf
    cases hgo : o.guard with
    | none => rfl
    | some jw =>
      obtain ⟨j, want⟩ := jw
      cases hj : (ops[j]?).bind (·.dst) with
      | none => simp only [hj]
      | some t =>
        have := h1 t (by simp [Oper.looksAt, hgo, hj])
        simp only [hj, this]
  have hfr : s'.ob = s.ob → freshAt s' o.dst = freshAt s o.dst := fun ho => by
    cases hd : o.dst with
    | none => rfl
    | some d => simp only [freshAt, h2 d hd, ho]
  have e1 : ∀ b2, opF T (o.dst.getD 0) (rho s') s'.ob (freshAt s' o.dst) b2 o.op = opF T (o.dst.getD 0) (rho s) s.ob (freshAt s o.dst) b2 o.op := fun b2 => by
    rw [opF_congr (ρ := rho s') (ρ' := rho s) _ _ _ _ _ hr]
    rcases h3 with h | h
    · exact opF_P _ _ _ _ _ _ _ _ _ h
    · rw [hfr h, h]
  have e2 : ∀ b1 b2, opF T (o.dst.getD 0) (fun x => strip (rho s' x)) s'.ob b1 b2 o.op = opF T (o.dst.getD 0) (fun x => strip (rho s x)) s.ob b1 b2 o.op := fun b1 b2 => by
    rw [opF_congr (ρ := fun x => strip (rho s' x)) (ρ' := fun x => strip (rho s x)) _ _ _ _ _ fun x hx => by rw [hr x hx]]
    rcases h3 with h | h
    · exact opF_P _ _ _ _ _ _ _ _ _ h
    · rw [h]
  have e3 : ∀ g, (∀ x ∈ o.op.operands.toList, condOK g (rho s' x)) = (∀ x ∈ o.op.operands.toList, condOK g (rho s x)) := fun g => by
    refine propext ⟨fun H x hx => ?_, fun H x hx => ?_⟩
    · rw [← hr x (by simpa using hx)]; exact H x hx
    · rw [hr x (by simpa using hx)]; exact H x hx
  have e4 : ∀ g, pickG s' g o.op = pickG s g o.op := fun g => by
    obtain ⟨dst, op, type, pos, after, guard⟩ := o
    dsimp only at hr ⊢
    cases op with
    | pick c a b =>
      have q1 := hr c (by simp [Op.operands])
      have q2 := hr a (by simp [Op.operands])
      have q3 := hr b (by simp [Op.operands])
      simp only [pickG, q1, q2, q3]
    | _ => rfl
  unfold F1
  rw [hg]
  simp only [e1, e2, e3, e4]

theorem F1_us {T : Tabs} {ops : Array Oper} {o : Oper} {s : St} {p v us} (h : cls T o.op ≠ .M) (hf : F1 T ops o s = some (p, v, us)) : us = [] := by
  unfold F1 at hf
  split at hf
  · cases hf
  · exact opF_us h hf
  · split at hf
    · exact absurd ‹_› h
    · split at hf
      · simp at hf; exact hf.2.2
      · split at hf
        · simp at hf; exact hf.2.2
        · cases hf

theorem upd_comm (f : Nat → AV) {d e : Nat} (u v : AV) (h : d ≠ e) : upd (upd f d u) e v = upd (upd f e v) d u := by
  funext i
  simp only [upd]
  split <;> split <;> simp_all

theorem St.put_comm (s : St) {x y : Option Nat} {u v : AV} {us vs : List (Id × Ob)} (h : ∀ d, x = some d → y ≠ some d) (hu : us = [] ∨ vs = []) :
    (s.put x u us).put y v vs = (s.put y v vs).put x u us := by
  have ho : updO (updO s.ob us) vs = updO (updO s.ob vs) us := by
    rcases hu with rfl | rfl <;> rfl
  cases x with
  | none => cases y <;> simp only [St.put, ho]
  | some d =>
    cases y with
    | none => simp only [St.put, ho]
    | some e =>
      have hde : d ≠ e := fun he => h d rfl (by rw [he])
      simp only [St.put, ho, upd_comm s.sl _ _ hde]

/-- Two operations that may change places. -/
def indep (T : Tabs) (ops : Array Oper) (x y : Oper) : Bool :=
  x.apart ops y && (match cls T x.op, cls T y.op with
    | .M, .P | .P, _ | .R, .P | .R, .R => true
    | _, _ => false)

theorem put_sl_ne (s : St) (x : Option Nat) (u : AV) (us : List (Id × Ob)) (t : Nat) (h : x ≠ some t) : (s.put x u us).sl t = s.sl t := by
  cases x with
  | none => rfl
  | some d => simp only [St.put]; exact upd_ne _ _ _ _ fun e => h (e ▸ rfl)

theorem TL_swap {T : Tabs} {ops : Array Oper} {x y : Oper} (h : indep T ops x y = true) {K : St → Prop} {s : St}
    (H : bindF (F1 T ops x s) fun v us => bindF (F1 T ops y (s.put x.dst v us)) fun u vs => K ((s.put x.dst v us).put y.dst u vs)) :
    bindF (F1 T ops y s) fun v us => bindF (F1 T ops x (s.put y.dst v us)) fun u vs => K ((s.put y.dst v us).put x.dst u vs) := by
  unfold indep at h
  rw [Bool.and_eq_true] at h
  obtain ⟨ha, hc⟩ := h
  obtain ⟨h1, h2, h3⟩ := Oper.apart_spec ha
  have hdst : ∀ d, y.dst = some d → x.dst ≠ some d := fun d hy hx => h2 d hx hy
  cases hx : F1 T ops x s with
  | none => rw [hx] at H; exact H.elim
  | some r =>
    obtain ⟨p, v, us⟩ := r
    rw [hx] at H
    obtain ⟨hp, H⟩ := H
    have cx : cls T x.op = .M ∨ us = [] := by
      by_cases hm : cls T x.op = .M
      · exact .inl hm
      · exact .inr (F1_us hm hx)
    have ey : F1 T ops y (s.put x.dst v us) = F1 T ops y s := by
      refine F1_congr y (fun t ht => put_sl_ne _ _ _ _ _ fun e => h1 t e ht) (fun d hd => put_sl_ne _ _ _ _ _ (hdst d hd)) ?_
      rcases cx with hm | rfl
      · rw [hm] at hc
        left
        cases hy : cls T y.op <;> simp_all
      · right; rw [St.put_ob]; rfl
    rw [ey] at H
    cases hy : F1 T ops y s with
    | none => rw [hy] at H; exact H.elim
    | some r =>
      obtain ⟨q, u, vs⟩ := r
      rw [hy] at H
      obtain ⟨hq, H⟩ := H
      have cy : cls T y.op = .M ∨ vs = [] := by
        by_cases hm : cls T y.op = .M
        · exact .inl hm
        · exact .inr (F1_us hm hy)
      have ex : F1 T ops x (s.put y.dst u vs) = F1 T ops x s := by
        refine F1_congr x (fun t ht => put_sl_ne _ _ _ _ _ fun e => h3 t e ht) (fun d hd => put_sl_ne _ _ _ _ _ fun e => h2 d hd e) ?_
        rcases cy with hm | rfl
        · rw [hm] at hc
          left
          cases hx' : cls T x.op <;> simp_all
        · right; rw [St.put_ob]; rfl
      refine ⟨hq, ?_⟩
      simp only
      rw [ex, hx]
      refine ⟨hp, ?_⟩
      show K ((s.put y.dst u vs).put x.dst v us)
      rw [show (s.put y.dst u vs).put x.dst v us = (s.put x.dst v us).put y.dst u vs from (St.put_comm s h2 ?_).symm]
      · exact H
      · rcases cx with hm | rfl
        · rcases cy with hm' | rfl
          · rw [hm, hm'] at hc; simp at hc
          · exact .inr rfl
        · exact .inl rfl

theorem bindF_mono {r : Option (Prop × AV × List (Id × Ob))} {K K' : AV → List (Id × Ob) → Prop} (h : ∀ v us, K v us → K' v us) (H : bindF r K) : bindF r K' := by
  unfold bindF at *
  split at H
  · exact ⟨H.1, h _ _ H.2⟩
  · exact H.elim

/-- An operation that is apart from all that stand before it may be taken first. -/
theorem TL_first {T : Tabs} {ops : Array Oper} {Q : St → Prop} {x : Oper} {post : List Oper} : ∀ (pre : List Oper) (_ : ∀ y ∈ pre, indep T ops y x = true) (s : St),
    TL T ops Q (pre ++ x :: post) s → TL T ops Q (x :: (pre ++ post)) s
  | [], _, _, H => H
  | y :: pre, hi, s, H => by
    have H1 : bindF (F1 T ops y s) fun v us => TL T ops Q (x :: (pre ++ post)) (s.put y.dst v us) :=
      bindF_mono (fun v us h => TL_first pre (fun z hz => hi z (by simp [hz])) _ h) H
    exact TL_swap (K := TL T ops Q (pre ++ post)) (hi y (by simp)) H1

end Go.Own
