/-
  Own calculus, part S: each operation is sound (calls of functions that change their arguments excepted: 'hmf'). Conditions: as each theorem states them.
-/
import Derived.Test.YtmfieiphcjenlaaOwnRm
namespace Go.Own
open Go
set_option linter.unusedVariables false
set_option linter.unusedSimpArgs false

section
variable {X : Ctx} {T : Tabs} {own : Id → List Nat} {s : St} {w : World} {a : Act} {ρ : Operand → AV} {p : Prop} {v : AV} {us : List (Id × Ob)} {d : Nat} {fresh im : Bool}

theorem rho_ok (c : ConcO X own s a w) (x : Operand) : AVOK own w.heap s (rho s x) (a.eval x) := by
  cases x with
  | tmp t => exact c.sls t
  | const v =>
    simp only [rho, Act.eval]
    split
    · exact av_of_v v ‹_›
    · trivial
  | global g => trivial
  | func f => exact ⟨[], rfl, .nil⟩

theorem All2.of_map {R : AV → Value → Prop} {f : Operand → AV} {g : Operand → Value} : ∀ (xs : List Operand), (∀ x ∈ xs, R (f x) (g x)) → All2 R (xs.map f) (xs.map g)
  | [], _ => .nil
  | x :: xs, h => .cons (h x (by simp)) (All2.of_map xs fun y hy => h y (by simp [hy]))

theorem opP_ok {h : Heap} {ev : Operand → Value} {o : Oper} (hty : ∀ t y, T.ty t = some y → TyOK X.P t y) (hx : ∀ x ∈ o.op.operands.toList, AVOK own h s (ρ x) (ev x)) (hf : opP T ρ o.op = some (p, v)) (hp : p) : Computes X.P own h s o ev w v := by
  obtain ⟨dst, op, type, pos, after, guard⟩ := o
  dsimp only at hx hf
  cases op with
  | move x => exact P_move (hx x (by simp [Op.operands])) hf
  | pick c x y => exact P_pick (hx c (by simp [Op.operands])) (hx x (by simp [Op.operands])) (hx y (by simp [Op.operands])) hf hp
  | unOp op t x => exact P_unOp (hx x (by simp [Op.operands])) hf hp
  | binOp op t x y ty => exact P_binOp hty (hx x (by simp [Op.operands])) (hx y (by simp [Op.operands])) hf hp
  | fieldAddr t x f => exact P_fieldAddr hty (hx x (by simp [Op.operands])) hf hp
  | field t x f => exact P_field hty (hx x (by simp [Op.operands])) hf
  | extract x i => exact P_extract (hx x (by simp [Op.operands])) hf
  | makeFunc fn first bs => exact P_makeFunc (fun x hm => hx x (by simp [Op.operands]; exact .inr (by simpa using hm))) hf
  | nilCheck x => exact P_nilCheck (hx x (by simp [Op.operands])) hf
  | _ => simp [opP] at hf

theorem run_callFunc' {P : Program} {f : FuncId} (h : FnFact P f) (args : Array Value) (w : World) : (callFunc f args).run P w = .ok (.enter f args) w := by
  obtain ⟨fn, h1, h2, h3⟩ := h
  have h2' : fn.name ≠ "runtime.NumGoroutine" := by simpa using h2
  have h3' : fn.body ≠ none := fun h => by rw [h] at h3; cases h3
  simp [callFunc, go_sem, h1, h2', h3']

theorem exec_call {P : Program} {f : FuncId} (h : FnFact P f) {x : Operand} {vs : Array Value} (hv : a.eval x = .func (.func f) #[] vs) {dst : Option Nat} {as : Array Operand} {ts : Array TypeId} {type : TypeId} {pos : String} {after : Array Edge} {guard : Option (Nat × Bool)} :
    (execOp a.eval ⟨dst, .call { callee := .value x, args := as, argTypes := ts }, type, pos, after, guard⟩).run P w = .ok (.enter f (as.map a.eval ++ vs)) w := by
  simp only [execOp, resolve, hv, Deferred.ofValue, Sem.run_bind, Sem.run_pure, Result.andThen_ok, invoke]
  rw [run_callFunc' h]
  simp

theorem Does.of_call {f : FuncId} {args : Array Value} {o : Oper} (h : (execOp a.eval o).run X.P w = .ok (.enter f args) w)
    (hc : Calls X.P f args w fun e w' => ∃ u, e = .returned u ∧ ∃ own', ConcO X own' (s.put o.dst v us) (a.put o.dst u) w') : Does X s a w o v us := by
  intro K Q hK
  unfold Oper.wp
  rw [h, Oper.upon_enter]
  refine hc.mono ?_
  rintro e w' ⟨u, rfl, own', hh⟩
  exact hK u w' ⟨own', hh⟩

theorem opR_ok {o : Oper} (hT : TabsOK X.toEnv T) (c : ConcO X own s a w) (hd : ∀ x, o.dst = some x → X.dok x = true) (hdd : d = o.dst.getD 0) (hfr : fresh = true → freshAt s o.dst = true)
    (hx : ∀ x ∈ o.op.operands.toList, AVOK own w.heap s (ρ x) (a.eval x)) (hf : opR T d ρ s.ob fresh im o.op = some (p, v)) (hp : p) : Does X s a w o v [] := by
  have hty := hT.ty
  obtain ⟨dst, op, type, pos, after, guard⟩ := o
  dsimp only at hd hdd hfr hx hf
  have C : ∀ {v}, Computes X.P own w.heap s ⟨dst, op, type, pos, after, guard⟩ a.eval w v → Does X s a w ⟨dst, op, type, pos, after, guard⟩ v [] := fun h => Does.of_computes c hd h
  cases op with
  | load t x => exact C (R_load hty c (hx x (by simp [Op.operands])) hf hp)
  | indexAddr t x i => exact C (R_indexAddr hty (hx x (by simp [Op.operands])) (hx i (by simp [Op.operands])) hf hp)
  | index t x i => exact C (R_index hty (hx x (by simp [Op.operands])) (hx i (by simp [Op.operands])) hf hp)
  | slice t x lo hi mx => exact C (R_slice hty (hx x (by simp [Op.operands])) (fun y hy => hx y (by cases lo <;> simp_all [Op.operands])) (fun y hy => hx y (by cases hi <;> simp_all [Op.operands])) hf hp)
  | convert t u x => exact C (R_convert hty (hx x (by simp [Op.operands])) hf hp)
  | makeSlice t n cc => exact R_makeSlice hty c hd hdd hfr (hx n (by simp [Op.operands])) (hx cc (by simp [Op.operands])) hf hp
  | buildSlice t n ps => exact R_buildSlice hty c hd hdd hfr (fun q hq => hx q.2 (by simp [Op.operands]; exact ⟨q.1, hq⟩)) hf hp
  | build t ps => exact C (R_build hty (fun q hq => hx q.2 (by simp [Op.operands]; exact ⟨q.1, hq⟩)) hf)
  | call cl =>
    obtain ⟨cal, as, ts⟩ := cl
    have hargs : ∀ x ∈ as.toList, AVOK own w.heap s (ρ x) (a.eval x) := fun x hm => hx x (by cases cal <;> simp_all [Op.operands, Call.operands])
    cases cal with
    | builtin b =>
      cases b with
      | len => exact C (R_len rfl hty (fun x hm => hargs x (by simpa using hm)) hf)
      | max => exact C (R_maxmin (mx := true) rfl (fun x hm => hargs x (by simpa using hm)) hf)
      | min => exact C (R_maxmin (mx := false) rfl (fun x hm => hargs x (by simpa using hm)) hf)
      | _ => simp [opR] at hf
    | invoke r n => simp [opR] at hf
    | value x =>
      have hxx : AVOK own w.heap s (ρ x) (a.eval x) := hx x (by simp [Op.operands, Call.operands])
      have key : ∀ {f : FuncId} {p0 : Prop} {v0 : AV}, callF T d s.ob fresh im false f (as.toList.map ρ) = some (p0, v0, []) → p0 → a.eval x = .func (.func f) #[] #[] → Does X s a w ⟨dst, .call ⟨.value x, as, ts⟩, type, pos, after, guard⟩ v0 [] := fun hcf hp0 hv => by
        obtain ⟨g1, g2⟩ := call_sound hT c hd hdd hfr (All2.of_map as.toList hargs) hcf hp0
        exact Does.of_call (exec_call g1 hv) (by
          have e : (as.toList.map a.eval).toArray = as.map a.eval ++ #[] := by apply Array.toList_inj.1; simp
          rw [← e]; exact g2)
      have key2 : ∀ {f : FuncId} {caps : List Id}, ρ x = .one (.fn f caps) → (match callF T d s.ob fresh im false f (as.toList.map ρ ++ caps.map fun id => .one (.bptr id 0)) with
          | some (p, v, []) => some (p, v)
          | _ => none) = some (p, v) → Does X s a w ⟨dst, .call ⟨.value x, as, ts⟩, type, pos, after, guard⟩ v [] := fun {f caps} hr hf => by
        rw [hr] at hxx
        obtain ⟨vs, hv, hcs⟩ := hxx
        split at hf
        · rename_i p0 v0 hcf
          simp only [Option.some.injEq, Prod.mk.injEq] at hf
          obtain ⟨rfl, rfl⟩ := hf
          have hall : All2 (AVOK own w.heap s) (caps.map fun id => .one (.bptr id 0)) vs := by
            clear hcf hr hv
            induction hcs with
            | nil => exact .nil
            | cons h1 _ ih => exact .cons h1 ih
          obtain ⟨g1, g2⟩ := call_sound hT c hd hdd hfr ((All2.of_map as.toList hargs).append hall) hcf hp
          exact Does.of_call (exec_call g1 hv) (by
            have e : (as.toList.map a.eval ++ vs).toArray = as.map a.eval ++ vs.toArray := by apply Array.toList_inj.1; simp
            rw [← e]; exact g2)
        · cases hf
      have key3 : ∀ {f : FuncId} {l : List (List D)}, ρ x = .one (.fni f l) → (match callF T d s.ob fresh im false f (as.toList.map ρ ++ l.map fun ds => .one (.iptr ds)) with
          | some (p, v, []) => some (p, v)
          | _ => none) = some (p, v) → Does X s a w ⟨dst, .call ⟨.value x, as, ts⟩, type, pos, after, guard⟩ v [] := fun {f l} hr hf => by
        rw [hr] at hxx
        obtain ⟨vs, F, hv, hcs, hF⟩ := hxx
        split at hf
        · rename_i p0 v0 hcf
          simp only [Option.some.injEq, Prod.mk.injEq] at hf
          obtain ⟨rfl, rfl⟩ := hf
          have hall : All2 (AVOK own w.heap s) (l.map fun ds => .one (.iptr ds)) vs := by
            clear hcf hr hv
            induction hcs with
            | nil => exact .nil
            | @cons ds b c e fz F l vs G h1 h2 _ ih =>
              refine .cons ?_ (ih fun b hb => hF b (by simp [hb]))
              have hlen : ds.length = c.toList.length := h2.length
              exact ⟨b, 0, c, e, fz, F, rfl, h1, by simp at hlen; omega, by rw [List.drop_zero, hlen, List.take_length]; exact h2, hF b (by simp), fun x hx => hF x (by simp [hx])⟩
          obtain ⟨g1, g2⟩ := call_sound hT c hd hdd hfr ((All2.of_map as.toList hargs).append hall) hcf hp
          exact Does.of_call (exec_call g1 hv) (by
            have e : (as.toList.map a.eval ++ vs).toArray = as.map a.eval ++ vs.toArray := by apply Array.toList_inj.1; simp
            rw [← e]; exact g2)
        · cases hf
      cases x with
      | func f =>
        unfold opR at hf
        dsimp only at hf
        split at hf
        · rename_i p0 v0 hcf
          simp only [Option.some.injEq, Prod.mk.injEq] at hf
          obtain ⟨rfl, rfl⟩ := hf
          exact key hcf hp rfl
        · cases hf
      | _ =>
        unfold opR at hf
        dsimp only at hf
        split at hf
        · exact key3 ‹_› hf
        · exact key2 ‹_› hf
        · cases hf
  | _ => simp [opR] at hf

theorem opM_ok {o : Oper} (hT : TabsOK X.toEnv T) (c : ConcO X own s a w) (hd : ∀ x, o.dst = some x → X.dok x = true) (hdd : d = o.dst.getD 0) (hfr : fresh = true → freshAt s o.dst = true) (hst : ∀ t x y, o.op = .store t x y → o.dst = none)
    (hx : ∀ x ∈ o.op.operands.toList, AVOK own w.heap s (ρ x) (a.eval x)) (hf : opM T d ρ s.ob fresh o.op = some (p, v, us)) (hp : p) : Does X s a w o v us := by
  have hty := hT.ty
  obtain ⟨dst, op, type, pos, after, guard⟩ := o
  dsimp only at hd hdd hfr hx hf hst
  cases op with
  | assign x => exact M_assign c hd (hx x (by simp [Op.operands])) hf
  | box t x => exact M_box hty c hd hdd hfr (hx x (by simp [Op.operands])) hf hp
  | alloc t => exact M_alloc hty c hd hdd hfr hf hp
  | store t ad x => exact M_store hty c (hst _ _ _ rfl) (hx ad (by simp [Op.operands])) (hx x (by simp [Op.operands])) hf hp
  | call cl =>
    obtain ⟨cal, as, ts⟩ := cl
    have hargs : ∀ x ∈ as.toList, AVOK own w.heap s (ρ x) (a.eval x) := fun x hm => hx x (by cases cal <;> simp_all [Op.operands, Call.operands])
    cases cal with
    | builtin b =>
      cases b with
      | append => exact M_append rfl hty c hd hdd hfr (fun x hm => hargs x (by simpa using hm)) hf hp
      | _ => simp [opM] at hf
    | invoke r n => simp [opM] at hf
    | value x =>
      cases x with
      | func f =>
        obtain ⟨g1, g2⟩ := callM_sound hT c hd (All2.of_map as.toList hargs) hf hp
        exact Does.of_call (exec_call g1 (vs := #[]) rfl) (by
          have e : (as.toList.map a.eval).toArray = as.map a.eval ++ #[] := by apply Array.toList_inj.1; simp
          rw [← e]; exact g2)
      | _ => simp [opM] at hf
  | _ => simp [opM] at hf

theorem opF_ok {o : Oper} (hT : TabsOK X.toEnv T) (c : ConcO X own s a w) (hd : ∀ x, o.dst = some x → X.dok x = true) (hdd : d = o.dst.getD 0) (hfr : fresh = true → freshAt s o.dst = true) (hst : ∀ t x y, o.op = .store t x y → o.dst = none)
    (hx : ∀ x ∈ o.op.operands.toList, AVOK own w.heap s (ρ x) (a.eval x)) (hf : opF T d ρ s.ob fresh im o.op = some (p, v, us)) (hp : p) : Does X s a w o v us := by
  unfold opF at hf
  split at hf
  · split at hf
    · rename_i h1
      simp only [Option.some.injEq, Prod.mk.injEq] at hf
      obtain ⟨rfl, rfl, rfl⟩ := hf
      exact Does.of_computes c hd (opP_ok hT.ty hx h1 hp)
    · cases hf
  · split at hf
    · rename_i h1
      simp only [Option.some.injEq, Prod.mk.injEq] at hf
      obtain ⟨rfl, rfl, rfl⟩ := hf
      exact opR_ok hT c hd hdd hfr hx h1 hp
    · cases hf
  · exact opM_ok hT c hd hdd hfr hst hx hf hp

theorem conc_cnd {dst : Option Nat} (c : ConcO X own (s.put dst v []) a w) : ConcO X own (s.put dst (.cnd true v) []) a w := by
  have hbs : (s.put dst (.cnd true v) []).bs = (s.put dst v []).bs := by rw [St.put_bs, St.put_bs]
  have hob : (s.put dst (.cnd true v) []).ob = (s.put dst v []).ob := by rw [St.put_ob, St.put_ob]
  have k : Keeps own own w.heap w.heap (s.put dst v []) (s.put dst (.cnd true v) []) := by
    refine Keeps.refl_heap (fun r hr => ?_) hbs hob
    cases dst with
    | none => exact hr
    | some d =>
      simp only [St.put, upd] at hr ⊢
      split
      · simp [AV.mk]
      · rename_i h; rw [if_neg h] at hr; exact hr
  refine c.next c.defers c.size rfl rfl rfl (Nat.le_refl _) (fun _ _ _ => rfl) c.lt c.nodup c.disj hbs (fun id => ?_) (fun i => ?_) fun _ _ => rfl
  · exact ObOK.keep k (by rw [hob]) rfl (fun _ _ => rfl) (c.obs id)
  · have h := (c.sls i).keep k
    cases dst with
    | none => exact h
    | some d =>
      by_cases hi : i = d
      · subst hi
        have e1 : (s.put (some i) v []).sl i = v.mk := by simp [St.put, upd_same]
        have e2 : (s.put (some i) (.cnd true v) []).sl i = .cnd true v := by simp [St.put, upd_same, AV.mk]
        rw [e1] at h
        rw [e2]
        refine ⟨fun _ => ?_, fun h => by cases h⟩
        cases v <;> first | exact h | trivial
      · have e1 : (s.put (some d) v []).sl i = (s.put (some d) (.cnd true v) []).sl i := by simp [St.put, upd_ne _ _ _ _ hi]
        rw [← e1]; exact h

theorem undef_not_bool (b : Bool) : undef ≠ .bool b := by simp [undef]

theorem yielded_bool {ops : Array Oper} {t j : Nat} {b : Bool} (hj : (ops[j]?).bind (·.dst) = some t) (hv : a.tmps.getD t undef = .bool b) : yielded ops a.tmps j = some b := by
  unfold yielded
  have ht : a.tmps[t]? = some (.bool b) := by
    rw [Array.getD_eq_getD_getElem?] at hv
    cases h : a.tmps[t]? with
    | none => rw [h] at hv; exact absurd hv (undef_not_bool b)
    | some x => rw [h] at hv; simpa using hv
  simp [hj, ht]

theorem yielded_undef {ops : Array Oper} {t j : Nat} (hj : (ops[j]?).bind (·.dst) = some t) (hv : a.tmps.getD t undef = undef) : yielded ops a.tmps j = none := by
  unfold yielded
  rw [hj]
  rw [Array.getD_eq_getD_getElem?] at hv
  cases h : a.tmps[t]? with
  | none => simp [h]
  | some x => rw [h] at hv; simp at hv; subst hv; simp [h, undef]

theorem gOf_none {ops : Array Oper} {o : Oper} {y : Nat → Option Bool} (h : gOf ops s o = some none) : Region.wanted o y = true := by
  unfold gOf at h
  unfold Region.wanted
  split at h
  · rename_i e; rw [e]
  · split at h
    · split at h <;> simp at h
    · cases h

theorem gOf_some {ops : Array Oper} {o : Oper} {g : Bool} (c : ConcO X own s a w) (h : gOf ops s o = some (some g)) : Region.wanted o (yielded ops a.tmps) = g := by
  unfold gOf at h
  unfold Region.wanted
  split at h
  · cases h
  · rename_i j want e
    rw [e]
    dsimp only
    split at h
    · rename_i t ht
      have hv := c.sls t
      split at h
      · rename_i b hb
        rw [hb] at hv
        simp only [Option.some.injEq] at h
        subst h
        rw [yielded_bool ht (v_of_av hv)]
        cases b <;> cases want <;> rfl
      · rename_i g0 b hb
        rw [hb] at hv
        simp only [Option.some.injEq] at h
        subst h
        cases g0 with
        | true =>
          rw [yielded_bool ht (v_of_av (hv.1 rfl))]
          cases b <;> cases want <;> rfl
        | false =>
          rw [yielded_undef ht (hv.2 rfl)]
          simp
      · cases h
    · cases h

theorem sound1 (hT : TabsOK X.toEnv T) (ops : Array Oper) (o : Oper) (ho : ∀ d, o.dst = some d → X.dok d = true ∧ isStore o.op = false) : Sound1 X T ops o := by
  intro s p v us hf hp a w hc K Q hK
  obtain ⟨own, c⟩ := hc
  have hd : ∀ x, o.dst = some x → X.dok x = true := fun x hx => (ho x hx).1
  have hst : ∀ t x y, o.op = .store t x y → o.dst = none := fun t x y h => by
    cases h1 : o.dst with
    | none => rfl
    | some d => have := (ho d h1).2; rw [h] at this; cases this
  unfold F1 at hf
  split at hf
  · cases hf
  · rename_i hg
    rw [if_pos (gOf_none hg)]
    exact opF_ok hT c hd rfl (fun h => h) hst (fun x _ => rho_ok c x) hf hp K Q hK
  · rename_i g hg
    rw [gOf_some c hg]
    have key : ∀ {p0 : Prop} {v0 : AV} {us0 : List (Id × Ob)}, cls T o.op ≠ .M → opF T (o.dst.getD 0) (fun x => strip (rho s x)) s.ob false true o.op = some (p0, v0, us0) → p = (g = true → ((∀ x ∈ o.op.operands.toList, condOK g (rho s x)) ∧ p0)) → v = .cnd g v0 → us = [] →
        if g = true then o.wp X.P a w K Q else K (a.put o.dst undef) w := fun {p0 v0 us0} hnm h0 hpp hvv huu => by
      subst hpp hvv huu
      cases g with
      | false =>
        simp only [Bool.false_eq_true, if_false]
        exact hK undef w ⟨own, c.pure rfl rfl rfl rfl hd ⟨(fun h => (nomatch h)), fun _ => rfl⟩⟩
      | true =>
        obtain ⟨h1, h2⟩ := hp rfl
        rw [if_pos rfl]
        have hus : us0 = [] := by
          unfold opF at h0
          split at h0
          · split at h0
            · simp only [Option.some.injEq, Prod.mk.injEq] at h0; exact h0.2.2.symm
            · cases h0
          · split at h0
            · simp only [Option.some.injEq, Prod.mk.injEq] at h0; exact h0.2.2.symm
            · cases h0
          · rename_i hh; exact absurd hh hnm
        subst hus
        refine opF_ok hT c hd rfl (fun h => by cases h) hst (fun x hx => ?_) h0 h2 K Q fun u w' hcc => ?_
        · have hr := rho_ok c x
          have hc := h1 x hx
          cases hrr : rho s x with
          | cnd g' v' =>
            rw [hrr] at hr hc
            exact hr.1 (hc rfl)
          | _ => rw [hrr] at hr; exact hr
        · obtain ⟨own', hcc⟩ := hcc
          exact hK u w' ⟨own', conc_cnd hcc⟩
    split at hf
    · cases hf
    · rename_i hnm
      split at hf
      · rename_i h0
        simp only [Option.some.injEq, Prod.mk.injEq] at hf
        obtain ⟨rfl, rfl, rfl⟩ := hf
        cases g with
        | false =>
          simp only [Bool.false_eq_true, if_false]
          exact hK undef w ⟨own, c.pure rfl rfl rfl rfl hd ⟨(fun h => (nomatch h)), fun _ => rfl⟩⟩
        | true =>
          have hp := hp rfl
          rw [if_pos rfl]
          unfold pickG at h0
          split at h0
          · rename_i cc x y hop
            split at h0
            · rename_i b hb
              split at h0
              · rename_i q1 y1 q2 z1 h1 h2
                simp only [Option.some.injEq, Prod.mk.injEq] at h0
                obtain ⟨rfl, rfl⟩ := h0
                have hc : AVOK own w.heap s (bV b) (a.eval cc) := by
                  have hr := rho_ok c cc
                  have h3 := hp.1
                  cases hrr : rho s cc with
                  | cnd g' v' =>
                    rw [hrr] at hr h3 hb
                    have hb' : v' = bV b := hb
                    rw [← hb']
                    exact hr.1 (h3 rfl)
                  | _ => rw [hrr] at hr hb; simp only [strip] at hb; first | (rw [hb] at hr; exact hr) | cases hb
                obtain ⟨dst, op, type, pos, after, guard⟩ := o
                dsimp only at hop
                subst hop
                refine Does.of_computes c hd (P_pick' hc (rho_ok c x) (rho_ok c y) h1 h2 hp.2) K Q fun u w' hcc => ?_
                obtain ⟨own', hcc⟩ := hcc
                exact hK u w' ⟨own', conc_cnd hcc⟩
              · cases h0
            · cases h0
          · cases h0
      split at hf
      · rename_i h0
        simp only [Option.some.injEq, Prod.mk.injEq] at hf
        exact key (by intro h; exact hnm h) h0 hf.1.symm hf.2.1.symm hf.2.2.symm
      · cases hf
end
end Go.Own
