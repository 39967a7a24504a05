/-
  Own calculus, part T: a function's contract out of its weakest precondition (arguments are read only). Conditions: as each theorem states them.
-/
import Derived.Test.YtpedafnammofiaaOwnS
namespace Go.Own
open Go
set_option linter.unusedVariables false
set_option linter.unusedSimpArgs false

def argCell (al : Bool) : D → Cell
  | .v x => .d (.v x)
  | .sl s l => if al then .n (.sl s l) else .d (.sl s l)

def argAV (al : Bool) : Arg → AV
  | .one d => .one (argCell al d)
  | .agg ds => .agg (ds.map (argCell al))
  | .ptr ds => .one (.iptr ds)
  | _ => .unk

def roArg : Arg → Bool
  | .one _ | .agg _ | .ptr _ => true
  | _ => false

def initSt (al : Bool) (bs : Nat → Prop) (args : List Arg) : St := ⟨bs, fun i => (args.map (argAV al)).getD i .any, fun _ => .none⟩

/-- The value of a result variable. -/
def resOf (T : Tabs) (s : St) : ResultVar → Option AV
  | .tmp t => some (s.sl t)
  | .cell a t => match T.ty t, s.sl a with
    | some y, .one (.bptr id 0) => match s.ob id with
      | .box cs => partOf y.agg 0 y.size cs
      | _ => none
    | _, _ => none

def resVal (tmps : Array Value) : ResultVar → Sem Value
  | .tmp t => pure (tmps.getD t undef)
  | .cell a t => do loadVar t (← asAddr (tmps.getD a undef))

theorem results_eq (fn : Func) (tmps : Array Value) : results fn tmps = (do
    let vs ← fn.results.mapM (resVal tmps)
    pure (if h : vs.size = 1 then vs[0] else .tuple vs)) := by
  unfold results
  have : resVal tmps = (fun
    | .tmp t => pure (tmps.getD t undef)
    | .cell a t => do loadVar t (← asAddr (tmps.getD a undef))) := by
    funext x
    cases x <;> rfl
  rw [this]
  rfl

/-- A cell is as the contract says: a premise; the objects that are handed out. -/
def cellRC (ob : Id → Ob) : Cell → RC → Option (Prop × List Id)
  | .d (.v x), .d y => some (D.v x = y, [])
  | .n x, .d y => some (x = y, [])
  | .fr id s l dp, .own s' l' dp' => match ob id with
    | .none => some (s = s' ∧ l = l' ∧ dp = dp' ∧ dp ≠ 0, [id])
    | _ => none
  | .osl id, .own s' l' dp' => match ob id with
    | .arr s l dp => some (s = s' ∧ l = l' ∧ dp = dp' ∧ dp ≠ 0, [id])
    | _ => none
  | _, _ => none

def cellsRC (ob : Id → Ob) : List Cell → List RC → Option (Prop × List Id)
  | [], [] => some (True, [])
  | c :: cs, r :: rs => match cellRC ob c r, cellsRC ob cs rs with
    | some (p, l), some (q, m) => some (p ∧ q, l ++ m)
    | _, _ => none
  | _, _ => none

def avRV (ob : Id → Ob) (av : AV) (r : RV) : Option (Prop × List Id) :=
  match r, av with
  | ⟨false, [c]⟩, .one c' => cellsRC ob [c'] [c]
  | ⟨true, cs⟩, .agg cs' => cellsRC ob cs' cs
  | _, _ => none

def retsRV (T : Tabs) (s : St) : List ResultVar → List RV → Option (Prop × List Id)
  | [], [] => some (True, [])
  | x :: xs, r :: rs => match resOf T s x with
    | some av => match avRV s.ob av r, retsRV T s xs rs with
      | some (p, l), some (q, m) => some (p ∧ q, l ++ m)
      | _, _ => none
    | none => none
  | _, _ => none

def RetOK (T : Tabs) (xs : List ResultVar) (rs : List RV) (s : St) : Prop :=
  match retsRV T s xs rs with
  | some (p, l) => p ∧ l.Nodup
  | none => False

def PostSt (T : Tabs) (xs : List ResultVar) (rs : List RV) : Exit → St → Prop
  | .normal, s => RetOK T xs rs s
  | .ret, s => RetOK T xs rs s
  | _, _ => False

section
variable {X : Ctx} {T : Tabs} {own : Id → List Nat} {s : St} {w : World} {a : Act} {h : Heap}

theorem argCell_ok {al : Bool} (hown : ∀ id, own id = []) : ∀ {ds : List D} {vs : List Value} {F : List Nat}, Reps h ds vs F → (∀ b ∈ F, b < h.size ∧ (al = true → s.bs b)) → CellsOK own h s (ds.map (argCell al)) vs
  | [], vs, F, r, _ => by
    have := r.length
    cases vs with
    | nil => exact .nil
    | cons => simp at this
  | d :: ds, [], F, r, _ => by have := r.length; simp at this
  | d :: ds, v :: vs, F, r, hF => by
    obtain ⟨F1, F2, rfl, r1, r2⟩ := r.cons_inv
    refine .cons ?_ (argCell_ok hown r2 fun b hb => hF b (by simp [hb]))
    have himm : ∀ b ∈ F1, Imm own h b := fun b hb => ⟨(hF b (by simp [hb])).1, fun id => by rw [hown]; simp⟩
    cases d with
    | v x => exact ⟨F1, r1, himm⟩
    | sl sz l =>
      simp only [argCell]
      split
      · exact ⟨F1, r1, fun b hb => ⟨himm b hb, (hF b (by simp [hb])).2 ‹_›⟩⟩
      · exact ⟨F1, r1, himm⟩

theorem args_init {al : Bool} (hown : ∀ id, own id = []) : ∀ {args : List Arg} {vals : List Value} {F : List Nat} {Ms : List (List Nat)}, ArgsOK h args vals F Ms → args.all roArg = true → (∀ b ∈ F, al = true → s.bs b) →
    All2 (AVOK own h s) (args.map (argAV al)) vals
  | [], vals, F, Ms, a, _, _ => by cases a; exact .nil
  | x :: xs, vals, F, Ms, a, hr, hF => by
    cases a with
    | @cons _ v F1 ms _ vs G ns h1 h2 =>
      simp only [List.all_cons, Bool.and_eq_true] at hr
      refine .cons ?_ (args_init hown h2 hr.2 fun b hb => hF b (by simp [hb]))
      have himm : ∀ b, b < h.size → Imm own h b := fun b hb => ⟨hb, fun id => by rw [hown]; simp⟩
      cases h1 with
      | one r =>
        have := argCell_ok (s := s) (al := al) hown r fun b hb => ⟨r.lt b hb, hF b (by simp [hb])⟩
        cases this with
        | cons h1 _ => exact h1
      | agg r =>
        exact ⟨_, rfl, by simpa using argCell_ok (s := s) (al := al) hown r fun b hb => ⟨r.lt b hb, hF b (by simp [hb])⟩⟩
      | @ptr ds b off c e fz F a1 a2 r =>
        exact ⟨b, off, c, e, fz, F, rfl, a1, a2, r, himm b (Array.getElem?_eq_some_iff.1 a1).1, fun x hx => himm x (r.lt x hx)⟩
      | _ => cases hr.1

theorem args_len {h : Heap} {args : List Arg} {vals : List Value} {F : List Nat} {Ms : List (List Nat)} (a : ArgsOK h args vals F Ms) : args.length = vals.length := by
  induction a with
  | nil => rfl
  | cons _ _ ih => simp [ih]

theorem args_ms {h : Heap} {args : List Arg} {vals : List Value} {F : List Nat} {Ms : List (List Nat)} (a : ArgsOK h args vals F Ms) (hr : args.all roArg = true) : Ms = [] := by
  induction a with
  | nil => rfl
  | cons h1 _ ih =>
    simp only [List.all_cons, Bool.and_eq_true] at hr
    rw [ih hr.2]
    cases h1 <;> first | rfl | cases hr.1

theorem cellRC_ok {c : Cell} {r : RC} {p : Prop} {l : List Id} {v : Value} (hc : cellRC s.ob c r = some (p, l)) (hp : p) (a : CellOK own h s c v) :
    ∃ F os, RCsOK h [r] [v] F os ∧ os = l.map own ∧ ∀ b ∈ F, Imm own h b ∧ s.bs b := by
  unfold cellRC at hc
  split at hc
  · simp only [Option.some.injEq, Prod.mk.injEq] at hc
    obtain ⟨rfl, rfl⟩ := hc
    subst hp
    obtain ⟨F, r, _⟩ := a
    cases r with
    | v h1 r => cases r; exact ⟨[], [], by simpa using RCsOK.d (.v h1 .nil) .nil, rfl, by simp⟩
  · simp only [Option.some.injEq, Prod.mk.injEq] at hc
    obtain ⟨rfl, rfl⟩ := hc
    subst hp
    obtain ⟨F, r, hF⟩ := a
    exact ⟨F, [], by simpa using RCsOK.d r .nil, rfl, hF⟩
  · rename_i id sz l dp sz' l' dp'
    split at hc
    · rename_i ho
      simp only [Option.some.injEq, Prod.mk.injEq] at hc
      obtain ⟨rfl, rfl⟩ := hc
      obtain ⟨rfl, rfl, rfl, hdp⟩ := hp
      obtain ⟨F, hA, hF⟩ := ArrAt.of_ok (a.2.2 ho)
      refine ⟨F ++ [], [own id], .own hA .nil, rfl, fun b hb => ?_⟩
      simp only [List.append_nil] at hb
      rcases hA with ⟨_, _, _, rfl⟩ | ⟨b', cap, c, e, G, h1, a1, rfl, _⟩
      · cases hb
      · simp [hdp] at hb
    · cases hc
  · rename_i id sz' l' dp'
    split at hc
    · rename_i sz l dp ho
      simp only [Option.some.injEq, Prod.mk.injEq] at hc
      obtain ⟨rfl, rfl⟩ := hc
      obtain ⟨rfl, rfl, rfl, hdp⟩ := hp
      have ha := a.2.2
      rw [ho] at ha
      obtain ⟨F, hA, hF⟩ := ArrAt.of_ok ha
      refine ⟨F ++ [], [own id], .own hA .nil, rfl, fun b hb => ?_⟩
      simp only [List.append_nil] at hb
      rcases hA with ⟨_, _, _, rfl⟩ | ⟨b', cap, c, e, G, h1, a1, rfl, _⟩
      · cases hb
      · simp [hdp] at hb
    · cases hc
  · cases hc

theorem RCsOK.cons' {r : RC} {v : Value} {F : List Nat} {os : List (List Nat)} {rs : List RC} {vs : List Value} {G : List Nat} {ps : List (List Nat)} (a : RCsOK h [r] [v] F os) (b : RCsOK h rs vs G ps) : RCsOK h (r :: rs) (v :: vs) (F ++ G) (os ++ ps) := by
  cases a with
  | d r' n => cases n; simpa using RCsOK.d r' b
  | own r' n => cases n; simpa using RCsOK.own r' b

theorem cellsRC_ok : ∀ {cs : List Cell} {rs : List RC} {p : Prop} {l : List Id} {vs : List Value}, cellsRC s.ob cs rs = some (p, l) → p → CellsOK own h s cs vs → ∃ F os, RCsOK h rs vs F os ∧ os = l.map own ∧ ∀ b ∈ F, Imm own h b ∧ s.bs b
  | [], [], p, l, vs, hc, hp, a => by
    simp only [cellsRC, Option.some.injEq, Prod.mk.injEq] at hc
    obtain ⟨rfl, rfl⟩ := hc
    cases a
    exact ⟨[], [], .nil, rfl, by simp⟩
  | c :: cs, r :: rs, p, l, vs, hc, hp, a => by
    simp only [cellsRC] at hc
    split at hc
    · rename_i p1 l1 q m h1 h2
      simp only [Option.some.injEq, Prod.mk.injEq] at hc
      obtain ⟨rfl, rfl⟩ := hc
      cases a with
      | cons a1 a2 =>
        obtain ⟨F, os, f1, rfl, f3⟩ := cellRC_ok h1 hp.1 a1
        obtain ⟨G, ps, g1, rfl, g3⟩ := cellsRC_ok h2 hp.2 a2
        exact ⟨_, _, f1.cons' g1, by simp, fun b hb => (List.mem_append.1 hb).elim (f3 b) (g3 b)⟩
    · cases hc
  | [], _ :: _, p, l, vs, hc, hp, a => by simp [cellsRC] at hc
  | _ :: _, [], p, l, vs, hc, hp, a => by simp [cellsRC] at hc

theorem avRV_ok {av : AV} {r : RV} {p : Prop} {l : List Id} {v : Value} (hc : avRV s.ob av r = some (p, l)) (hp : p) (a : AVOK own h s av v) : ∃ F os, RVOK h r v F os ∧ os = l.map own ∧ ∀ b ∈ F, Imm own h b ∧ s.bs b := by
  unfold avRV at hc
  split at hc
  · obtain ⟨F, os, f1, f2, f3⟩ := cellsRC_ok hc hp (.cons a .nil)
    exact ⟨F, os, f1, f2, f3⟩
  · obtain ⟨vs, rfl, hcs⟩ := a
    obtain ⟨F, os, f1, f2, f3⟩ := cellsRC_ok hc hp hcs
    exact ⟨F, os, ⟨vs, rfl, f1⟩, f2, f3⟩
  · cases hc

theorem resOf_ok (hty : ∀ t y, T.ty t = some y → TyOK X.P t y) (c : ConcO X own s a w) {x : ResultVar} {av : AV} (hr : resOf T s x = some av) :
    ∃ v, (resVal a.tmps x).run X.P w = .ok v w ∧ AVOK own w.heap s av v := by
  cases x with
  | tmp t =>
    simp only [resOf, Option.some.injEq] at hr
    subst hr
    exact ⟨_, rfl, c.sls t⟩
  | cell b t =>
    simp only [resOf] at hr
    split at hr
    · rename_i y id hy hb
      split at hr
      · rename_i cs ho
        have hs := c.sls b
        rw [hb] at hs
        obtain ⟨_, b1, e1, e2⟩ := hs
        rw [ho] at e2
        have hob := c.obs id
        rw [ho] at hob
        obtain ⟨b2, cv, e, h1, h2, h3⟩ := hob
        have : b2 = b1 := by rw [h1] at e2; simpa using e2
        subst this
        obtain ⟨u, g1, g2⟩ := loadVar_row (hty t y hy) h2 hr h3
        refine ⟨u, ?_, g2⟩
        show (do loadVar t (← asAddr (a.tmps.getD b undef)) : Sem Value).run X.P w = _
        rw [e1]
        simpa [asAddr, go_sem] using g1
      · cases hr
    · cases hr

theorem retsRV_ok (hty : ∀ t y, T.ty t = some y → TyOK X.P t y) (c : ConcO X own s a w) : ∀ {xs : List ResultVar} {rs : List RV} {p : Prop} {l : List Id}, retsRV T s xs rs = some (p, l) → p →
    ∃ vs F os, (xs.mapM (resVal a.tmps)).run X.P w = .ok vs w ∧ RVsOK w.heap rs vs F os ∧ os = l.map own ∧ ∀ b ∈ F, Imm own w.heap b ∧ s.bs b
  | [], [], p, l, hr, hp => by
    simp only [retsRV, Option.some.injEq, Prod.mk.injEq] at hr
    obtain ⟨rfl, rfl⟩ := hr
    exact ⟨[], [], [], rfl, .nil, rfl, by simp⟩
  | x :: xs, r :: rs, p, l, hr, hp => by
    simp only [retsRV] at hr
    split at hr
    · rename_i av hav
      split at hr
      · rename_i p1 l1 q m h1 h2
        simp only [Option.some.injEq, Prod.mk.injEq] at hr
        obtain ⟨rfl, rfl⟩ := hr
        obtain ⟨v, e1, e2⟩ := resOf_ok hty c hav
        obtain ⟨F, os, f1, rfl, f3⟩ := avRV_ok h1 hp.1 e2
        obtain ⟨vs, G, ps, g0, g1, rfl, g3⟩ := retsRV_ok hty c h2 hp.2
        refine ⟨v :: vs, F ++ G, _, ?_, .cons f1 g1, by simp, fun b hb => (List.mem_append.1 hb).elim (f3 b) (g3 b)⟩
        simp only [List.mapM_cons, Sem.run_bind]
        rw [e1]
        simp only [Result.andThen_ok]
        rw [g0]
        simp [go_sem]
      · cases hr
    · cases hr
  | [], _ :: _, p, l, hr, hp => by simp [retsRV] at hr
  | _ :: _, [], p, l, hr, hp => by simp [retsRV] at hr

theorem ConcO.flat (c : ConcO X own s a w) : ∀ {l : List Id}, l.Nodup → (l.map own).flatten.Nodup
  | [], _ => by simp
  | id :: l, h => by
    rw [List.nodup_cons] at h
    simp only [List.map_cons, List.flatten_cons]
    rw [List.nodup_append]
    refine ⟨c.nodup id, c.flat h.2, fun x hx y hy e => ?_⟩
    subst e
    obtain ⟨m, hm, hy⟩ := List.mem_flatten.1 hy
    obtain ⟨id', hid, rfl⟩ := List.mem_map.1 hm
    exact h.1 (c.disj id id' x hx hy ▸ hid)

theorem rets_ok {fn : Func} (hty : ∀ t y, T.ty t = some y → TyOK X.P t y) (c : ConcO X own s a w) {rs : List RV} (hr : RetOK T fn.results.toList rs s) :
    ∃ v F os, (results fn a.tmps).run X.P w = .ok v w ∧ RetsOK w.heap rs v F os ∧ os.flatten.Nodup ∧ (∀ b ∈ os.flatten, ∃ id, b ∈ own id) ∧ ∀ b ∈ F, Imm own w.heap b ∧ s.bs b := by
  unfold RetOK at hr
  split at hr
  · rename_i p l hrs
    obtain ⟨hp, hl⟩ := hr
    obtain ⟨vs, F, os, g0, g1, rfl, g3⟩ := retsRV_ok hty c hrs hp
    refine ⟨if h : vs.toArray.size = 1 then vs.toArray[0] else .tuple vs.toArray, F, l.map own, ?_, ?_, ?_, ?_, g3⟩
    · rw [results_eq, Array.mapM_eq_mapM_toList, map_eq_pure_bind]
      simp only [Sem.run_bind]
      rw [g0]
      simp only [Result.andThen_ok, Sem.run_pure]
    · unfold RetsOK
      generalize l.map own = os at g1
      cases g1 with
      | nil => exact ⟨rfl, rfl⟩
      | @cons r v F1 os1 l' vs' G ps h1 h2 =>
        cases h2 with
        | nil => simpa using h1
        | cons h3 h4 =>
          refine ⟨_, ?_, .cons h1 (.cons h3 h4)⟩
          simp
    · exact c.flat hl
    · intro b hb
      obtain ⟨m, hm, hb⟩ := List.mem_flatten.1 hb
      obtain ⟨id, _, rfl⟩ := List.mem_map.1 hm
      exact ⟨id, hb⟩
  · exact hr.elim

/-- A function's contract out of its weakest precondition. 'al': the arguments count as new. -/
theorem contract_of_wpc {E : Env} {T : Tabs} {f : FuncId} {fn : Func} {body : Code} {c : Contract} (hT : TabsOK E T) (hmf : ∀ f c, T.ct f = some c → muty c.muts = false)
    (hf : E.P.funcs[f]? = some fn) (hname : (fn.name == "runtime.NumGoroutine") = false) (hb : fn.body = some body) (hm : E.P.follows .mixedOrders = true) (hst : statOK T fn.ntmps body = true) (hmu : muty c.muts = false)
    (hrun : ∀ args p rs ms, c.run args = some (p, rs, ms) → args.all roArg = true ∧ ms = [] ∧ args.length ≤ fn.ntmps ∧ (p → ∀ bs, wpc T body (PostSt T fn.results.toList rs) (initSt c.alias bs args))) : ContractOK E f c := by
  refine ⟨⟨fn, hf, hname, by rw [hb]; rfl⟩, ?_⟩
  intro args p rs ms hr hp w vals F Ms ha hnd hF hJ hN hMN
  obtain ⟨hro, rfl, hlen, hw⟩ := hrun args p rs ms hr
  have hMs := args_ms ha hro
  subst hMs
  have hl := args_len ha
  let X : Ctx := { toEnv := E, n := fn.ntmps, w0 := w, M := [], nw := fun b => w.heap.size ≤ b ∨ (c.alias = true ∧ b ∈ F), hnw := fun b hb => .inl hb }
  have h0 := hw hp X.nw
  have hall : All2 (AVOK (fun _ => []) w.heap (initSt c.alias X.nw args)) (args.map (argAV c.alias)) vals := args_init (fun _ => rfl) ha hro fun b hb hal => .inr ⟨hal, hb⟩
  have hinit : Conc X (initSt c.alias X.nw args) { tmps := vals.toArray ++ Array.replicate (fn.ntmps - vals.toArray.size) undef, defers := [] } w := by
    refine ⟨fun _ => [], ⟨rfl, ?_, rfl, rfl, rfl, rfl, Nat.le_refl _, fun _ _ _ => rfl, ⟨hN, by simp [X]⟩, hJ, by simp, by simp, by simp, fun _ => trivial, fun i => ?_⟩⟩
    · simp [X]; omega
    · show AVOK _ _ _ ((args.map (argAV c.alias)).getD i .any) _
      rw [List.getD_eq_getElem?_getD]
      cases h : (args.map (argAV c.alias))[i]? with
      | none => trivial
      | some av =>
        obtain ⟨v, hv, hok⟩ := All2.get hall i av h
        have hi : i < vals.length := (List.getElem?_eq_some_iff.1 h |>.1) |> fun h => by simpa [hl] using h
        have : (vals.toArray ++ Array.replicate (fn.ntmps - vals.toArray.size) undef).getD i undef = v := by
          rw [Array.getD_eq_getD_getElem?, Array.getElem?_append_left (by simpa using hi)]
          simp [hv]
        rw [this]
        exact hok
  refine calls_of_wp hf hb (wp_mono (wpc_sound (T := T) (X := X) (fun ops o _ ho => sound1 hT hmf ops o ho) hm (fun _ => rfl) body hst h0 hinit) fun e a' w' hq => ?_)
  obtain ⟨s', hq, own, hc⟩ := hq
  have fin : RetOK T fn.results.toList rs s' → a'.defers = [] ∧ ∃ v, (results fn a'.tmps).run E.P w' = .ok v w' ∧ (fun e w' => ∃ v, e = Ending.returned v ∧ PostOK c.alias w w' F [] (mutVals c.muts vals) rs [] v) (.returned v) w' := fun hret => by
    obtain ⟨v, F', os, r1, r2, r3, r4, r5⟩ := rets_ok (X := X) hT.ty hc hret
    refine ⟨hc.defers, v, r1, v, rfl, ⟨hc.os, hc.tape, hc.output, hc.grow, fun b h1 _ => hc.old b h1 (by simp [X]), F', os, [], r2, ?_, r3, fun b hb => ?_, fun b hb => ?_, by simp⟩⟩
    · rw [mutVals_nil hmu]; exact .nil
    · obtain ⟨id, hid⟩ := r4 b hb
      obtain ⟨q1, q2⟩ := hc.lt id b hid
      exact ⟨by simpa [X] using q2, q1⟩
    · obtain ⟨q1, q2⟩ := r5 b hb
      refine ⟨q1.1, fun hm => ?_, by simp, ?_⟩
      · obtain ⟨id, hid⟩ := r4 b hm
        exact q1.2 id hid
      · rw [hc.bs] at q2
        exact q2
  cases e with
  | normal => exact fin hq
  | ret => exact fin hq
  | _ => exact hq.elim
end
end Go.Own
