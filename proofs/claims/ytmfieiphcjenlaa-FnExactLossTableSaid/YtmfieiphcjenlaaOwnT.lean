/-
  Own calculus, part T: a function's contract out of its weakest precondition (arguments are read only). Conditions: as each theorem states them.
-/
import Derived.Test.YtmfieiphcjenlaaOwnS
namespace Go.Own
open Go
set_option linter.unusedVariables false
set_option linter.unusedSimpArgs false

def argCell (al : Bool) : D → Cell
  | .v x => .d (.v x)
  | .sl s l => if al then .n (.sl s l) else .d (.sl s l)

def argAV (al : Bool) : Arg → AV
  | .one d => .one (argCell al d)
  | .agg ds => .agg (ds.map (argCell al))
  | .ptr ds => .one (.iptr ds)
  | .fnc f [] => .one (.fn f [])
  | .fnc f l => .one (.fni f l)
  | _ => .unk

def roArg : Arg → Bool
  | .one _ | .agg _ | .ptr _ | .fnc .. => true
  | _ => false

def initSt (al : Bool) (bs : Nat → Prop) (args : List Arg) : St := ⟨bs, fun i => (args.map (argAV al)).getD i .any, fun _ => .none⟩

/-- The value of a result variable. -/
def resOf (T : Tabs) (s : St) : ResultVar → Option AV
  | .tmp t => some (s.sl t)
  | .cell a t => match T.ty t, s.sl a with
    | some y, .one (.bptr id 0) => match s.ob id with
      | .box cs => partOf y.agg 0 y.size cs
      | _ => none
    | _, _ => none

def resVal (tmps : Array Value) : ResultVar → Sem Value
  | .tmp t => pure (tmps.getD t undef)
  | .cell a t => do loadVar t (← asAddr (tmps.getD a undef))

theorem results_eq (fn : Func) (tmps : Array Value) : results fn tmps = (do
    let vs ← fn.results.mapM (resVal tmps)
    pure (if h : vs.size = 1 then vs[0] else .tuple vs)) := by
  unfold results
  have : resVal tmps = (fun
    | .tmp t => pure (tmps.getD t undef)
    | .cell a t => do loadVar t (← asAddr (tmps.getD a undef))) := by
    funext x
    cases x <;> rfl
  rw [this]
  rfl

/-- A cell is as the contract says: a premise; the objects that are handed out. -/
def cellRC (ob : Id → Ob) : Cell → RC → Option (Prop × List (Option Id))
  | .d (.v x), .d y => some (D.v x = y, [])
  | .d (.v (.slice none 0 0)), .own _ l' dp' => some (l' = [] ∧ dp' ≠ 0, [none])
  | .n x, .d y => some (x = y, [])
  | .fr id s l dp, .own s' l' dp' => match ob id with
    | .none => some (s = s' ∧ l = l' ∧ dp' ≠ 0 ∧ dp ≠ 0, [some id])
    | _ => none
  | .osl id, .own s' l' dp' => match ob id with
    | .arr s l dp => some (s = s' ∧ l = l' ∧ dp' ≠ 0 ∧ dp ≠ 0, [some id])
    | _ => none
  | _, _ => none

def cellsRC (ob : Id → Ob) : List Cell → List RC → Option (Prop × List (Option Id))
  | [], [] => some (True, [])
  | c :: cs, r :: rs => match cellRC ob c r, cellsRC ob cs rs with
    | some (p, l), some (q, m) => some (p ∧ q, l ++ m)
    | _, _ => none
  | _, _ => none

/-- What is handed out. -/
def oOwn (own : Id → List Nat) : Option Id → List Nat
  | some id => own id
  | none => []

def avRV (ob : Id → Ob) (av : AV) (r : RV) : Option (Prop × List (Option Id)) :=
  match r, av with
  | ⟨false, [c]⟩, .one c' => cellsRC ob [c'] [c]
  | ⟨true, cs⟩, .agg cs' => cellsRC ob cs' cs
  | _, _ => none

def retsRV (T : Tabs) (s : St) : List ResultVar → List RV → Option (Prop × List (Option Id))
  | [], [] => some (True, [])
  | x :: xs, r :: rs => match resOf T s x with
    | some av => match avRV s.ob av r, retsRV T s xs rs with
      | some (p, l), some (q, m) => some (p ∧ q, l ++ m)
      | _, _ => none
    | none => none
  | _, _ => none

def RetOK (T : Tabs) (xs : List ResultVar) (rs : List RV) (s : St) : Prop :=
  match retsRV T s xs rs with
  | some (p, l) => p ∧ (l.filterMap fun x => x).Nodup
  | none => False

def PostSt (T : Tabs) (xs : List ResultVar) (rs : List RV) : Exit → St → Prop
  | .normal, s => RetOK T xs rs s
  | .ret, s => RetOK T xs rs s
  | _, _ => False

section
variable {X : Ctx} {T : Tabs} {own : Id → List Nat} {s : St} {w : World} {a : Act} {h : Heap}

theorem argCell_ok {al : Bool} : ∀ {ds : List D} {vs : List Value} {F : List Nat}, Reps h ds vs F → (∀ b ∈ F, Imm own h b ∧ (al = true → s.bs b)) → CellsOK own h s (ds.map (argCell al)) vs
  | [], vs, F, r, _ => by
    have := r.length
    cases vs with
    | nil => exact .nil
    | cons => simp at this
  | d :: ds, [], F, r, _ => by have := r.length; simp at this
  | d :: ds, v :: vs, F, r, hF => by
    obtain ⟨F1, F2, rfl, r1, r2⟩ := r.cons_inv
    refine .cons ?_ (argCell_ok r2 fun b hb => hF b (by simp [hb]))
    have himm : ∀ b ∈ F1, Imm own h b := fun b hb => (hF b (by simp [hb])).1
    cases d with
    | v x => exact ⟨F1, r1, himm⟩
    | sl sz l =>
      simp only [argCell]
      split
      · exact ⟨F1, r1, fun b hb => ⟨himm b hb, (hF b (by simp [hb])).2 ‹_›⟩⟩
      · exact ⟨F1, r1, himm⟩

theorem args_init {al : Bool} : ∀ {args : List Arg} {vals : List Value} {F : List Nat} {Ms : List (List Nat)}, ArgsOK h args vals F Ms → args.all roArg = true → (∀ b ∈ F, Imm own h b ∧ (al = true → s.bs b)) →
    All2 (AVOK own h s) (args.map (argAV al)) vals
  | [], vals, F, Ms, a, _, _ => by cases a; exact .nil
  | x :: xs, vals, F, Ms, a, hr, hF => by
    cases a with
    | @cons _ v F1 ms _ vs G ns h1 h2 =>
      simp only [List.all_cons, Bool.and_eq_true] at hr
      refine .cons ?_ (args_init h2 hr.2 fun b hb => hF b (by simp [hb]))
      cases h1 with
      | one r =>
        have := argCell_ok (s := s) (al := al) r fun b hb => hF b (by simp [hb])
        cases this with
        | cons h1 _ => exact h1
      | agg r =>
        exact ⟨_, rfl, by simpa using argCell_ok (s := s) (al := al) r fun b hb => hF b (by simp [hb])⟩
      | @ptr ds b off c e fz F a1 a2 r =>
        exact ⟨b, off, c, e, fz, F, rfl, a1, a2, r, (hF b (by simp)).1, fun x hx => (hF x (by simp [hx])).1⟩
      | @fnc f l vs F r =>
        cases r with
        | nil => exact ⟨[], rfl, .nil⟩
        | cons q1 q2 q3 => exact ⟨_, _, rfl, .cons q1 q2 q3, fun b hb => (hF b (by simp only [List.mem_append]; exact .inl hb)).1⟩
      | _ => cases hr.1

theorem args_len {h : Heap} {args : List Arg} {vals : List Value} {F : List Nat} {Ms : List (List Nat)} (a : ArgsOK h args vals F Ms) : args.length = vals.length := by
  induction a with
  | nil => rfl
  | cons _ _ ih => simp [ih]

theorem args_lt {h : Heap} {args : List Arg} {vals : List Value} {F : List Nat} {Ms : List (List Nat)} (a : ArgsOK h args vals F Ms) (hr : args.all roArg = true) : ∀ b ∈ F, b < h.size := by
  induction a with
  | nil => simp
  | cons h1 _ ih =>
    simp only [List.all_cons, Bool.and_eq_true] at hr
    intro b hb
    rcases List.mem_append.1 hb with hb | hb
    · cases h1 with
      | one r => exact r.lt b hb
      | agg r => exact r.lt b hb
      | ptr a1 _ r =>
        rcases List.mem_cons.1 hb with rfl | hb
        · exact (Array.getElem?_eq_some_iff.1 a1).1
        · exact r.lt b hb
      | fnc r => exact r.lt b hb
      | _ => cases hr.1
    · exact ih hr.2 b hb

theorem args_ms {h : Heap} {args : List Arg} {vals : List Value} {F : List Nat} {Ms : List (List Nat)} (a : ArgsOK h args vals F Ms) (hr : args.all roArg = true) : Ms = [] := by
  induction a with
  | nil => rfl
  | cons h1 _ ih =>
    simp only [List.all_cons, Bool.and_eq_true] at hr
    rw [ih hr.2]
    cases h1 <;> first | rfl | cases hr.1

theorem ArrAt.dp {m F : List Nat} {sz : Nat} {l : List (List D)} {dp dp' : Nat} {v : Value} (a : ArrAt h m F sz l dp v) (h0 : dp ≠ 0) (h1 : dp' ≠ 0) : ArrAt h m F sz l dp' v := by
  unfold ArrAt at *
  simpa only [h0, h1, if_false, bne_iff_ne.2 h0, bne_iff_ne.2 h1] using a

theorem cellRC_ok {c : Cell} {r : RC} {p : Prop} {l : List (Option Id)} {v : Value} (hc : cellRC s.ob c r = some (p, l)) (hp : p) (a : CellOK own h s c v) :
    ∃ F os, RCsOK h [r] [v] F os ∧ os = l.map (oOwn own) ∧ ∀ b ∈ F, Imm own h b ∧ s.bs b := by
  unfold cellRC at hc
  split at hc
  · simp only [Option.some.injEq, Prod.mk.injEq] at hc
    obtain ⟨rfl, rfl⟩ := hc
    subst hp
    obtain ⟨F, r, _⟩ := a
    cases r with
    | v h1 r => cases r; exact ⟨[], [], by simpa using RCsOK.d (.v h1 .nil) .nil, rfl, by simp⟩
  · simp only [Option.some.injEq, Prod.mk.injEq] at hc
    obtain ⟨rfl, rfl⟩ := hc
    obtain ⟨rfl, hdp⟩ := hp
    obtain ⟨F, r, _⟩ := a
    cases r with
    | v h1 r => cases r; exact ⟨[] ++ [], [[]], .own (.inl ⟨rfl, rfl, rfl, rfl⟩) .nil, rfl, by simp⟩
  · simp only [Option.some.injEq, Prod.mk.injEq] at hc
    obtain ⟨rfl, rfl⟩ := hc
    subst hp
    obtain ⟨F, r, hF⟩ := a
    exact ⟨F, [], by simpa using RCsOK.d r .nil, rfl, hF⟩
  · rename_i id sz l dp sz' l' dp'
    split at hc
    · rename_i ho
      simp only [Option.some.injEq, Prod.mk.injEq] at hc
      obtain ⟨rfl, rfl⟩ := hc
      obtain ⟨rfl, rfl, hdp2, hdp⟩ := hp
      obtain ⟨F, hA, hF⟩ := ArrAt.of_ok (a.2.2 ho)
      refine ⟨F ++ [], [own id], .own (hA.dp hdp hdp2) .nil, rfl, fun b hb => ?_⟩
      simp only [List.append_nil] at hb
      rcases hA with ⟨_, _, _, rfl⟩ | ⟨b', cap, c, e, G, h1, a1, rfl, _⟩
      · cases hb
      · simp [hdp] at hb
    · cases hc
  · rename_i id sz' l' dp'
    split at hc
    · rename_i sz l dp ho
      simp only [Option.some.injEq, Prod.mk.injEq] at hc
      obtain ⟨rfl, rfl⟩ := hc
      obtain ⟨rfl, rfl, hdp2, hdp⟩ := hp
      have ha := a.2.2
      rw [ho] at ha
      obtain ⟨F, hA, hF⟩ := ArrAt.of_ok ha
      refine ⟨F ++ [], [own id], .own (hA.dp hdp hdp2) .nil, rfl, fun b hb => ?_⟩
      simp only [List.append_nil] at hb
      rcases hA with ⟨_, _, _, rfl⟩ | ⟨b', cap, c, e, G, h1, a1, rfl, _⟩
      · cases hb
      · simp [hdp] at hb
    · cases hc
  · cases hc

theorem RCsOK.cons' {r : RC} {v : Value} {F : List Nat} {os : List (List Nat)} {rs : List RC} {vs : List Value} {G : List Nat} {ps : List (List Nat)} (a : RCsOK h [r] [v] F os) (b : RCsOK h rs vs G ps) : RCsOK h (r :: rs) (v :: vs) (F ++ G) (os ++ ps) := by
  cases a with
  | d r' n => cases n; simpa using RCsOK.d r' b
  | own r' n => cases n; simpa using RCsOK.own r' b

theorem cellsRC_ok : ∀ {cs : List Cell} {rs : List RC} {p : Prop} {l : List (Option Id)} {vs : List Value}, cellsRC s.ob cs rs = some (p, l) → p → CellsOK own h s cs vs → ∃ F os, RCsOK h rs vs F os ∧ os = l.map (oOwn own) ∧ ∀ b ∈ F, Imm own h b ∧ s.bs b
  | [], [], p, l, vs, hc, hp, a => by
    simp only [cellsRC, Option.some.injEq, Prod.mk.injEq] at hc
    obtain ⟨rfl, rfl⟩ := hc
    cases a
    exact ⟨[], [], .nil, rfl, by simp⟩
  | c :: cs, r :: rs, p, l, vs, hc, hp, a => by
    simp only [cellsRC] at hc
    split at hc
    · rename_i p1 l1 q m h1 h2
      simp only [Option.some.injEq, Prod.mk.injEq] at hc
      obtain ⟨rfl, rfl⟩ := hc
      cases a with
      | cons a1 a2 =>
        obtain ⟨F, os, f1, rfl, f3⟩ := cellRC_ok h1 hp.1 a1
        obtain ⟨G, ps, g1, rfl, g3⟩ := cellsRC_ok h2 hp.2 a2
        exact ⟨_, _, f1.cons' g1, by simp, fun b hb => (List.mem_append.1 hb).elim (f3 b) (g3 b)⟩
    · cases hc
  | [], _ :: _, p, l, vs, hc, hp, a => by simp [cellsRC] at hc
  | _ :: _, [], p, l, vs, hc, hp, a => by simp [cellsRC] at hc

theorem avRV_ok {av : AV} {r : RV} {p : Prop} {l : List (Option Id)} {v : Value} (hc : avRV s.ob av r = some (p, l)) (hp : p) (a : AVOK own h s av v) : ∃ F os, RVOK h r v F os ∧ os = l.map (oOwn own) ∧ ∀ b ∈ F, Imm own h b ∧ s.bs b := by
  unfold avRV at hc
  split at hc
  · obtain ⟨F, os, f1, f2, f3⟩ := cellsRC_ok hc hp (.cons a .nil)
    exact ⟨F, os, f1, f2, f3⟩
  · obtain ⟨vs, rfl, hcs⟩ := a
    obtain ⟨F, os, f1, f2, f3⟩ := cellsRC_ok hc hp hcs
    exact ⟨F, os, ⟨vs, rfl, f1⟩, f2, f3⟩
  · cases hc

theorem resOf_ok (hty : ∀ t y, T.ty t = some y → TyOK X.P t y) (c : ConcO X own s a w) {x : ResultVar} {av : AV} (hr : resOf T s x = some av) :
    ∃ v, (resVal a.tmps x).run X.P w = .ok v w ∧ AVOK own w.heap s av v := by
  cases x with
  | tmp t =>
    simp only [resOf, Option.some.injEq] at hr
    subst hr
    exact ⟨_, rfl, c.sls t⟩
  | cell b t =>
    simp only [resOf] at hr
    split at hr
    · rename_i y id hy hb
      split at hr
      · rename_i cs ho
        have hs := c.sls b
        rw [hb] at hs
        obtain ⟨_, b1, e1, e2⟩ := hs
        rw [ho] at e2
        have hob := c.obs id
        rw [ho] at hob
        obtain ⟨b2, cv, e, h1, h2, h3⟩ := hob
        have : b2 = b1 := by rw [h1] at e2; simpa using e2
        subst this
        obtain ⟨u, g1, g2⟩ := loadVar_row (hty t y hy) h2 hr h3
        refine ⟨u, ?_, g2⟩
        show (do loadVar t (← asAddr (a.tmps.getD b undef)) : Sem Value).run X.P w = _
        rw [e1]
        simpa [asAddr, go_sem] using g1
      · cases hr
    · cases hr

theorem retsRV_ok (hty : ∀ t y, T.ty t = some y → TyOK X.P t y) (c : ConcO X own s a w) : ∀ {xs : List ResultVar} {rs : List RV} {p : Prop} {l : List (Option Id)}, retsRV T s xs rs = some (p, l) → p →
    ∃ vs F os, (xs.mapM (resVal a.tmps)).run X.P w = .ok vs w ∧ RVsOK w.heap rs vs F os ∧ os = l.map (oOwn own) ∧ ∀ b ∈ F, Imm own w.heap b ∧ s.bs b
  | [], [], p, l, hr, hp => by
    simp only [retsRV, Option.some.injEq, Prod.mk.injEq] at hr
    obtain ⟨rfl, rfl⟩ := hr
    exact ⟨[], [], [], rfl, .nil, rfl, by simp⟩
  | x :: xs, r :: rs, p, l, hr, hp => by
    simp only [retsRV] at hr
    split at hr
    · rename_i av hav
      split at hr
      · rename_i p1 l1 q m h1 h2
        simp only [Option.some.injEq, Prod.mk.injEq] at hr
        obtain ⟨rfl, rfl⟩ := hr
        obtain ⟨v, e1, e2⟩ := resOf_ok hty c hav
        obtain ⟨F, os, f1, rfl, f3⟩ := avRV_ok h1 hp.1 e2
        obtain ⟨vs, G, ps, g0, g1, rfl, g3⟩ := retsRV_ok hty c h2 hp.2
        refine ⟨v :: vs, F ++ G, _, ?_, .cons f1 g1, by simp, fun b hb => (List.mem_append.1 hb).elim (f3 b) (g3 b)⟩
        simp only [List.mapM_cons, Sem.run_bind]
        rw [e1]
        simp only [Result.andThen_ok]
        rw [g0]
        simp [go_sem]
      · cases hr
    · cases hr
  | [], _ :: _, p, l, hr, hp => by simp [retsRV] at hr
  | _ :: _, [], p, l, hr, hp => by simp [retsRV] at hr

theorem ConcO.flatO (c : ConcO X own s a w) : ∀ {l : List (Option Id)}, (l.filterMap fun x => x).Nodup → (l.map (oOwn own)).flatten.Nodup
  | [], _ => by simp
  | none :: l, h => by simpa [oOwn] using c.flatO (l := l) (by simpa using h)
  | some id :: l, h => by
    simp only [List.filterMap_cons, List.nodup_cons] at h
    simp only [List.map_cons, List.flatten_cons, oOwn]
    rw [List.nodup_append]
    refine ⟨c.nodup id, c.flatO h.2, fun x hx y hy e => ?_⟩
    subst e
    obtain ⟨m, hm, hy⟩ := List.mem_flatten.1 hy
    obtain ⟨o, ho, rfl⟩ := List.mem_map.1 hm
    cases o with
    | none => cases hy
    | some id' => exact h.1 (List.mem_filterMap.2 ⟨some id', ho, by rw [c.disj id id' x hx hy]⟩)

theorem ConcO.flat (c : ConcO X own s a w) : ∀ {l : List Id}, l.Nodup → (l.map own).flatten.Nodup
  | [], _ => by simp
  | id :: l, h => by
    rw [List.nodup_cons] at h
    simp only [List.map_cons, List.flatten_cons]
    rw [List.nodup_append]
    refine ⟨c.nodup id, c.flat h.2, fun x hx y hy e => ?_⟩
    subst e
    obtain ⟨m, hm, hy⟩ := List.mem_flatten.1 hy
    obtain ⟨id', hid, rfl⟩ := List.mem_map.1 hm
    exact h.1 (c.disj id id' x hx hy ▸ hid)

theorem rets_ok {fn : Func} (hty : ∀ t y, T.ty t = some y → TyOK X.P t y) (c : ConcO X own s a w) {rs : List RV} (hr : RetOK T fn.results.toList rs s) :
    ∃ v F os, (results fn a.tmps).run X.P w = .ok v w ∧ RetsOK w.heap rs v F os ∧ os.flatten.Nodup ∧ (∀ b ∈ os.flatten, ∃ id, b ∈ own id) ∧ ∀ b ∈ F, Imm own w.heap b ∧ s.bs b := by
  unfold RetOK at hr
  split at hr
  · rename_i p l hrs
    obtain ⟨hp, hl⟩ := hr
    obtain ⟨vs, F, os, g0, g1, rfl, g3⟩ := retsRV_ok hty c hrs hp
    refine ⟨if h : vs.toArray.size = 1 then vs.toArray[0] else .tuple vs.toArray, F, l.map (oOwn own), ?_, ?_, ?_, ?_, g3⟩
    · rw [results_eq, Array.mapM_eq_mapM_toList, map_eq_pure_bind]
      simp only [Sem.run_bind]
      rw [g0]
      simp only [Result.andThen_ok, Sem.run_pure]
    · unfold RetsOK
      generalize l.map (oOwn own) = os at g1
      cases g1 with
      | nil => exact ⟨rfl, rfl⟩
      | @cons r v F1 os1 l' vs' G ps h1 h2 =>
        cases h2 with
        | nil => simpa using h1
        | cons h3 h4 =>
          refine ⟨_, ?_, .cons h1 (.cons h3 h4)⟩
          simp
    · exact c.flatO hl
    · intro b hb
      obtain ⟨m, hm, hb⟩ := List.mem_flatten.1 hb
      obtain ⟨o, _, rfl⟩ := List.mem_map.1 hm
      cases o with
      | none => cases hb
      | some id => exact ⟨id, hb⟩
  · exact hr.elim

/-- A function's contract out of its weakest precondition. 'al': the arguments count as new. -/
theorem contract_of_wpc {E : Env} {T : Tabs} {f : FuncId} {fn : Func} {body : Code} {c : Contract} (hT : TabsOK E T)
    (hf : E.P.funcs[f]? = some fn) (hname : (fn.name == "runtime.NumGoroutine") = false) (hb : fn.body = some body) (hm : E.P.follows .mixedOrders = true) (hst : statOK T (fun x => decide (x < fn.ntmps)) body = true) (hmu : muty c.muts = false)
    (hrun : ∀ args p rs ms, c.run args = some (p, rs, ms) → args.all roArg = true ∧ ms = [] ∧ args.length ≤ fn.ntmps ∧ (p → ∀ bs, wpc T body (PostSt T fn.results.toList rs) (initSt c.alias bs args))) : ContractOK E f c := by
  refine ⟨⟨fn, hf, hname, by rw [hb]; rfl⟩, ?_⟩
  intro args p rs ms hr hp w vals F Ms ha hnd hF hJ hN hMN
  obtain ⟨hro, rfl, hlen, hw⟩ := hrun args p rs ms hr
  have hMs := args_ms ha hro
  subst hMs
  have hl := args_len ha
  let X : Ctx := { toEnv := E, n := fn.ntmps, dok := fun x => decide (x < fn.ntmps), hdok := fun x hx => of_decide_eq_true hx, tm := fun _ => undef, w0 := w, M := [], nw := fun b => w.heap.size ≤ b ∨ (c.alias = true ∧ b ∈ F), hnw := fun b hb => .inl hb }
  have h0 := hw hp X.nw
  have hall : All2 (AVOK (fun _ => []) w.heap (initSt c.alias X.nw args)) (args.map (argAV c.alias)) vals := args_init ha hro fun b hb => ⟨⟨args_lt ha hro b hb, by simp⟩, fun hal => .inr ⟨hal, hb⟩⟩
  have hinit : Conc X (initSt c.alias X.nw args) { tmps := vals.toArray ++ Array.replicate (fn.ntmps - vals.toArray.size) undef, defers := [] } w := by
    refine ⟨fun _ => [], ⟨rfl, ?_, fun x hx => ?_, rfl, rfl, rfl, rfl, Nat.le_refl _, fun _ _ _ => rfl, ⟨hN, by simp [X]⟩, hJ, by simp, by simp, by simp, fun _ => trivial, fun i => ?_⟩⟩
    · simp [X]; omega
    · have hx' : ¬ x < fn.ntmps := of_decide_eq_false hx
      rw [Array.getD_eq_getD_getElem?, Array.getElem?_eq_none (by simp; omega)]; rfl
    · show AVOK _ _ _ ((args.map (argAV c.alias)).getD i .any) _
      rw [List.getD_eq_getElem?_getD]
      cases h : (args.map (argAV c.alias))[i]? with
      | none => trivial
      | some av =>
        obtain ⟨v, hv, hok⟩ := All2.get hall i av h
        have hi : i < vals.length := (List.getElem?_eq_some_iff.1 h |>.1) |> fun h => by simpa [hl] using h
        have : (vals.toArray ++ Array.replicate (fn.ntmps - vals.toArray.size) undef).getD i undef = v := by
          rw [Array.getD_eq_getD_getElem?, Array.getElem?_append_left (by simpa using hi)]
          simp [hv]
        rw [this]
        exact hok
  refine calls_of_wp hf hb (wp_mono (wpc_sound (T := T) (X := X) (fun ops o _ ho => sound1 hT ops o ho) hm (fun _ => rfl) body hst h0 hinit) fun e a' w' hq => ?_)
  obtain ⟨s', hq, own, hc⟩ := hq
  have fin : RetOK T fn.results.toList rs s' → a'.defers = [] ∧ ∃ v, (results fn a'.tmps).run E.P w' = .ok v w' ∧ (fun e w' => ∃ v, e = Ending.returned v ∧ PostOK c.alias w w' F [] (mutVals c.muts vals) rs [] v) (.returned v) w' := fun hret => by
    obtain ⟨v, F', os, r1, r2, r3, r4, r5⟩ := rets_ok (X := X) hT.ty hc hret
    refine ⟨hc.defers, v, r1, v, rfl, ⟨hc.os, hc.tape, hc.output, hc.grow, fun b h1 _ => hc.old b h1 (by simp [X]), F', os, [], [], r2, ?_, r3, fun b hb => ?_, fun b hb => ?_, by simp, by simp⟩⟩
    · rw [mutVals_nil hmu]; exact .nil
    · obtain ⟨id, hid⟩ := r4 b hb
      obtain ⟨q1, q2⟩ := hc.lt id b hid
      exact ⟨by simpa [X] using q2, q1⟩
    · obtain ⟨q1, q2⟩ := r5 b hb
      refine ⟨q1.1, fun hm => ?_, by simp, ?_⟩
      · obtain ⟨id, hid⟩ := r4 b hm
        exact q1.2 id hid
      · rw [hc.bs] at q2
        exact q2
  cases e with
  | normal => exact fin hq
  | ret => exact fin hq
  | _ => exact hq.elim

/-! Functions that change their first argument. -/

def magCells : Nat → List (D ⊕ (Nat × List (List D) × Nat)) → List Cell
  | _, [] => []
  | k, .inl x :: r => .d x :: magCells k r
  | k, .inr _ :: r => .osl (0, k) :: magCells (k + 1) r

def magObs : Nat → List (D ⊕ (Nat × List (List D) × Nat)) → List (Id × Ob)
  | _, [] => []
  | k, .inl _ :: r => magObs k r
  | k, .inr (s, l, _) :: r => ((0, k), .arr s l 2) :: magObs (k + 1) r

def argM : Arg → AV
  | .arr .. => .one (.osl (0, 0))
  | .mag l => .agg (magCells 0 l)
  | _ => .unk

def obsM : Arg → List (Id × Ob)
  | .arr s l _ => [((0, 0), .arr s l 2)]
  | .mag l => magObs 0 l
  | _ => []

def isMut : Arg → Bool
  | .arr .. | .mag _ => true
  | _ => false

def initM (bs : Nat → Prop) (a0 : Arg) (rest : List Arg) : St := ⟨bs, fun i => (argM a0 :: rest.map (argAV false)).getD i .any, updO (fun _ => .none) (obsM a0)⟩

def magFin (ob : Id → Ob) : List Cell → List (D ⊕ (Nat × List (List D) × Nat)) → Option (Prop × List Id)
  | [], [] => some (True, [])
  | .d x :: cs, .inl y :: ns => match magFin ob cs ns with
    | some (p, l) => some (x = y ∧ p, l)
    | none => none
  | .osl id :: cs, .inr (s', l', dp') :: ns => match ob id, magFin ob cs ns with
    | .arr s l dp, some (p, ids) => some ((s = s' ∧ l = l' ∧ dp ≠ 0 ∧ dp' ≠ 0) ∧ p, id :: ids)
    | _, _ => none
  | _, _ => none

def mutFin (ob : Id → Ob) : AV → Arg → Option (Prop × List Id)
  | .one (.osl id), .arr s' l' dp' => match ob id with
    | .arr s l dp => some (s = s' ∧ l = l' ∧ dp ≠ 0 ∧ dp' ≠ 0, [id])
    | _ => none
  | .agg cs, .mag ns => magFin ob cs ns
  | _, _ => none

def RetOKM (T : Tabs) (xs : List ResultVar) (rs : List RV) (a1 : Arg) (s : St) : Prop :=
  RetOK T xs rs s ∧ match mutFin s.ob (s.sl 0) a1 with
    | some (p, l) => p ∧ l.Nodup
    | none => False

def PostM (T : Tabs) (xs : List ResultVar) (rs : List RV) (a1 : Arg) : Exit → St → Prop
  | .normal, s => RetOKM T xs rs a1 s
  | .ret, s => RetOKM T xs rs a1 s
  | _, _ => False

theorem mag_init : ∀ {l : List (D ⊕ (Nat × List (List D) × Nat))} {vs : List Value} {F : List Nat} {Ms : List (List Nat)} {k : Nat}, MagOK h l vs F Ms → (∀ b ∈ F, Imm own h b) → (∀ j m, Ms[j]? = some m → own (0, k + j) = m) → s.sl 0 ≠ .any →
    (∀ j z, (magObs k l)[j]? = some z → s.ob z.1 = z.2 ∧ z.1 = (0, k + j)) → CellsOK own h s (magCells k l) vs
  | [], vs, F, Ms, k, a, hF, hM, hs, ho => by cases a; exact .nil
  | .inl x :: l, vs, F, Ms, k, a, hF, hM, hs, ho => by
    cases a with
    | d r a => exact .cons ⟨_, r, fun b hb => hF b (by simp [hb])⟩ (mag_init a (fun b hb => hF b (by simp [hb])) hM hs ho)
  | .inr (s', l', dp') :: l, vs, F, Ms, k, a, hF, hM, hs, ho => by
    cases a with
    | @arr _ _ _ v m _ vs _ ms q h0 a =>
      refine .cons ?_ (mag_init (k := k + 1) a hF (fun j m hj => by rw [show k + 1 + j = k + (j + 1) by omega]; exact hM (j + 1) m (by simpa using hj)) hs (fun j z hj => ?_))
      · have e1 := (ho 0 ((0, k), .arr s' l' 2) rfl).1
        have e2 : own (0, k) = m := by simpa using hM 0 m rfl
        dsimp only at e1
        refine ⟨(q.repsW h0).weak.one, hs, ?_⟩
        rw [e1]
        exact ArrAt.to_ok (F := []) (by rw [e2]; exact q.dp h0 (by decide)) (by simp)
      · have := ho (j + 1) z (by simpa [magObs] using hj)
        exact ⟨this.1, by rw [this.2]; congr 1; omega⟩

theorem magObs_ids : ∀ {l : List (D ⊕ (Nat × List (List D) × Nat))} {k j : Nat} {z : Id × Ob}, (magObs k l)[j]? = some z → z.1 = (0, k + j)
  | [], k, j, z, h => by simp [magObs] at h
  | .inl x :: l, k, j, z, h => magObs_ids (l := l) (by simpa [magObs] using h)
  | .inr (a, b, c) :: l, k, 0, z, h => by simp [magObs] at h; rw [← h]; rfl
  | .inr (a, b, c) :: l, k, j + 1, z, h => by
    have := magObs_ids (l := l) (k := k + 1) (j := j) (z := z) (by simpa [magObs] using h)
    rw [this]; congr 1; omega

theorem magObs_nodup : ∀ {l : List (D ⊕ (Nat × List (List D) × Nat))} {k : Nat}, ((magObs k l).map (·.1)).Nodup
  | [], k => by simp [magObs]
  | .inl x :: l, k => magObs_nodup (l := l)
  | .inr (a, b, c) :: l, k => by
    simp only [magObs, List.map_cons, List.nodup_cons]
    refine ⟨fun hm => ?_, magObs_nodup⟩
    obtain ⟨z, hz, e⟩ := List.mem_map.1 hm
    obtain ⟨j, hj⟩ := List.getElem?_of_mem hz
    have := magObs_ids hj
    rw [this] at e
    simp only [Prod.mk.injEq, true_and] at e
    omega

theorem updO_cases : ∀ {us : List (Id × Ob)} {g : Id → Ob} {k : Id}, updO g us k = g k ∨ ∃ z ∈ us, updO g us k = z.2
  | [], g, k => .inl rfl
  | (i, o) :: us, g, k => by
    rw [updO]
    rcases updO_cases (us := us) (g := fun id => if id = i then o else g id) (k := k) with h | ⟨z, hz, h⟩
    · by_cases e : k = i
      · exact .inr ⟨(i, o), by simp, by rw [h, if_pos e]⟩
      · exact .inl (by rw [h, if_neg e])
    · exact .inr ⟨z, by simp [hz], h⟩

theorem magObs_arr : ∀ {l : List (D ⊕ (Nat × List (List D) × Nat))} {k : Nat}, ∀ z ∈ magObs k l, ∃ a b c, z.2 = .arr a b c
  | [], k, z, hz => by simp [magObs] at hz
  | .inl x :: l, k, z, hz => magObs_arr (l := l) z hz
  | .inr (a, b, c) :: l, k, z, hz => by
    simp only [magObs, List.mem_cons] at hz
    rcases hz with rfl | hz
    · exact ⟨_, _, _, rfl⟩
    · exact magObs_arr z hz

theorem MagOK.lt {l : List (D ⊕ (Nat × List (List D) × Nat))} {vs : List Value} {F : List Nat} {ms : List (List Nat)} (a : MagOK h l vs F ms) : (∀ b ∈ F, b < h.size) ∧ ∀ b ∈ ms.flatten, b < h.size := by
  induction a with
  | nil => simp
  | d r _ ih => exact ⟨fun b hb => (List.mem_append.1 hb).elim (r.lt b) (ih.1 b), ih.2⟩
  | arr q _ _ ih => exact ⟨ih.1, fun b hb => by
      simp only [List.flatten_cons, List.mem_append] at hb
      exact hb.elim (q.lt.1 b) (ih.2 b)⟩

theorem ArgOK.ltM {a0 : Arg} {v : Value} {F : List Nat} {ms : List (List Nat)} (a : ArgOK h a0 v F ms) (hm : isMut a0 = true) : (∀ b ∈ F, b < h.size) ∧ ∀ b ∈ ms.flatten, b < h.size := by
  cases a with
  | arr q _ => exact ⟨by simp, by simpa using q.lt.1⟩
  | mag q => exact q.lt
  | _ => cases hm

/-- The first argument, at the start. -/
theorem argM_ok {a0 : Arg} {v : Value} {F : List Nat} {ms : List (List Nat)} (a : ArgOK h a0 v F ms) (hm : isMut a0 = true) (hF : ∀ b ∈ F, Imm own h b) (hM : ∀ j m, ms[j]? = some m → own (0, 0 + j) = m) (hs : s.sl 0 ≠ .any) (ho : s.ob = updO (fun _ => .none) (obsM a0)) : AVOK own h s (argM a0) v := by
  cases a with
  | @arr sz l dp v m q h0 =>
    have e1 : s.ob (0, 0) = .arr sz l 2 := by rw [ho]; simp [obsM, updO]
    have e2 : own (0, 0) = m := hM 0 m rfl
    refine ⟨(q.repsW h0).weak.one, hs, ?_⟩
    rw [e1]
    exact ArrAt.to_ok (F := []) (by rw [e2]; exact q.dp h0 (by decide)) (by simp)
  | @mag l vs F ms q =>
    refine ⟨_, rfl, ?_⟩
    have := mag_init (k := 0) (own := own) (s := s) q hF hM hs fun j z hz => ⟨by rw [ho]; exact updO_get magObs_nodup _ _ _ (List.mem_of_getElem? hz), magObs_ids hz⟩
    simpa using this
  | _ => cases hm

theorem magFin_ok : ∀ {cs : List Cell} {ns : List (D ⊕ (Nat × List (List D) × Nat))} {vs : List Value} {p : Prop} {ids : List Id}, magFin s.ob cs ns = some (p, ids) → p → CellsOK own h s cs vs → ∃ F, MagOK h ns vs F (ids.map own)
  | [], ns, vs, p, ids, hm, hp, a => by
    cases ns with
    | cons => simp [magFin] at hm
    | nil => simp only [magFin, Option.some.injEq, Prod.mk.injEq] at hm; obtain ⟨rfl, rfl⟩ := hm; cases a; exact ⟨[], .nil⟩
  | c :: cs, ns, vs, p, ids, hm, hp, a => by
    cases a with
    | @cons _ v _ vs a1 a2 =>
      cases c with
      | d x =>
        cases ns with
        | nil => simp [magFin] at hm
        | cons n ns =>
          cases n with
          | inr z => simp [magFin] at hm
          | inl y =>
            simp only [magFin] at hm
            split at hm
            · rename_i p0 l0 h0
              simp only [Option.some.injEq, Prod.mk.injEq] at hm
              obtain ⟨rfl, rfl⟩ := hm
              obtain ⟨rfl, hp⟩ := hp
              obtain ⟨F, g⟩ := magFin_ok h0 hp a2
              obtain ⟨F1, r, _⟩ := a1
              exact ⟨F1 ++ F, .d r g⟩
            · cases hm
      | osl id =>
        cases ns with
        | nil => simp [magFin] at hm
        | cons n ns =>
          cases n with
          | inl z => simp [magFin] at hm
          | inr z =>
            obtain ⟨s', l', dp'⟩ := z
            simp only [magFin] at hm
            split at hm
            · rename_i sz l dp p0 ids0 ho h0
              simp only [Option.some.injEq, Prod.mk.injEq] at hm
              obtain ⟨rfl, rfl⟩ := hm
              obtain ⟨⟨rfl, rfl, q0, q1⟩, hp⟩ := hp
              obtain ⟨F, g⟩ := magFin_ok h0 hp a2
              have hA := a1.2.2
              rw [ho] at hA
              obtain ⟨F', hA2, _⟩ := ArrAt.of_ok hA
              have := hA2.own_nil q0
              subst this
              exact ⟨F, .arr (hA2.dp q0 q1) q1 g⟩
            · cases hm
      | _ => simp [magFin] at hm

theorem mutFin_ok {av : AV} {a1 : Arg} {v : Value} {p : Prop} {ids : List Id} (hm : mutFin s.ob av a1 = some (p, ids)) (hp : p) (a : AVOK own h s av v) : ∃ F, ArgOK h a1 v F (ids.map own) := by
  unfold mutFin at hm
  split at hm
  · split at hm
    · rename_i sz l dp ho
      simp only [Option.some.injEq, Prod.mk.injEq] at hm
      obtain ⟨rfl, rfl⟩ := hm
      obtain ⟨rfl, rfl, q0, q1⟩ := hp
      have hA := a.2.2
      rw [ho] at hA
      obtain ⟨F', hA2, _⟩ := ArrAt.of_ok hA
      have := hA2.own_nil q0
      subst this
      exact ⟨[], .arr (hA2.dp q0 q1) q1⟩
    · cases hm
  · obtain ⟨vs, rfl, hc⟩ := a
    obtain ⟨F, g⟩ := magFin_ok hm hp hc
    exact ⟨F, by simpa using ArgOK.mag g⟩
  · cases hm

theorem contract_of_wpcM {E : Env} {T : Tabs} {f : FuncId} {fn : Func} {body : Code} {c : Contract} (hT : TabsOK E T) (hnm : T.nm = false)
    (hf : E.P.funcs[f]? = some fn) (hname : (fn.name == "runtime.NumGoroutine") = false) (hb : fn.body = some body) (hm : E.P.follows .mixedOrders = true) (hst : statOK T (fun x => decide (x < fn.ntmps) && x != 0) body = true) (hmu : c.muts = [true]) (hal : c.alias = false) (hn0 : 0 < fn.ntmps)
    (hrun : ∀ args p rs ms, c.run args = some (p, rs, ms) → ∃ a0 rest a1, args = a0 :: rest ∧ isMut a0 = true ∧ rest.all roArg = true ∧ ms = [a1] ∧ rvN rs = 0 ∧ args.length ≤ fn.ntmps ∧ (p → ∀ bs, wpc T body (PostM T fn.results.toList rs a1) (initM bs a0 rest))) : ContractOK E f c := by
  refine ⟨⟨fn, hf, hname, by rw [hb]; rfl⟩, ?_⟩
  intro args p rs ms hr hp w vals F Ms ha hnd hF hJ hN hMN
  obtain ⟨a0, rest, a1, rfl, hmut, hro, rfl, hrn, hlen, hw⟩ := hrun args p rs ms hr
  cases ha with
  | @cons _ x F0 Ms0 _ vs F1 Ms1 h1 h2 =>
    have hMs := args_ms h2 hro
    subst hMs
    rw [List.append_nil] at hnd hF hMN ⊢
    have hl := args_len h2
    obtain ⟨own0, hown⟩ : ∃ o : Id → List Nat, o = fun id => if id.1 = 0 then Ms0.getD id.2 [] else [] := ⟨_, rfl⟩
    have own_mem : ∀ id b, b ∈ own0 id → id.1 = 0 ∧ ∃ m, Ms0[id.2]? = some m ∧ b ∈ m := fun id b hb => by
      rw [hown] at hb
      dsimp only at hb
      split at hb
      · refine ⟨‹_›, ?_⟩
        rw [List.getD_eq_getElem?_getD] at hb
        cases hm : Ms0[id.2]? with
        | none => rw [hm] at hb; cases hb
        | some m => rw [hm] at hb; exact ⟨m, rfl, hb⟩
      · cases hb
    have own_get : ∀ j m, Ms0[j]? = some m → own0 (0, 0 + j) = m := fun j m hj => by
      rw [hown]; simp [List.getD_eq_getElem?_getD, hj]
    have hlt := h1.ltM hmut
    have hF1 := args_lt h2 hro
    have own_flat : ∀ id b, b ∈ own0 id → b ∈ Ms0.flatten := fun id b hb => by
      obtain ⟨_, m, hm, hb⟩ := own_mem id b hb
      exact List.mem_flatten.2 ⟨m, List.mem_of_getElem? hm, hb⟩
    have himm : ∀ b ∈ F0 ++ F1, Imm own0 w.heap b := fun b hb => ⟨(List.mem_append.1 hb).elim (hlt.1 b) (hF1 b), fun id hm => hF b hb (own_flat id b hm)⟩
    let t0 : Array Value := (x :: vs).toArray ++ Array.replicate (fn.ntmps - (x :: vs).toArray.size) undef
    let X : Ctx := { toEnv := E, n := fn.ntmps, dok := fun x => decide (x < fn.ntmps) && x != 0, hdok := fun x hx => by simp only [Bool.and_eq_true, decide_eq_true_eq] at hx; exact hx.1, tm := fun i => t0.getD i undef, w0 := w, M := Ms0.flatten, nw := fun b => w.heap.size ≤ b, hnw := fun b hb => hb }
    have h0 := hw hp X.nw
    have hs0 : (initM X.nw a0 rest).sl 0 ≠ .any := by
      show argM a0 ≠ .any
      cases a0 <;> simp [argM]
    have hall : All2 (AVOK own0 w.heap (initM X.nw a0 rest)) (argM a0 :: rest.map (argAV false)) (x :: vs) :=
      .cons (argM_ok h1 hmut (fun b hb => himm b (by simp [hb])) own_get hs0 rfl) (args_init h2 hro fun b hb => ⟨himm b (by simp [hb]), fun h => by cases h⟩)
    have hsz : t0.size = fn.ntmps := by
      simp only [List.length_cons] at hlen
      simp [t0]; omega
    have hget : ∀ i v, (x :: vs)[i]? = some v → t0.getD i undef = v := fun i v hv => by
      have hi := (List.getElem?_eq_some_iff.1 hv).1
      rw [Array.getD_eq_getD_getElem?, Array.getElem?_append_left (by simpa using hi)]
      simp only [List.getElem?_toArray]
      rw [hv]; rfl
    have hinit : Conc X (initM X.nw a0 rest) { tmps := t0, defers := [] } w := by
      refine ⟨own0, ⟨rfl, hsz, fun x hx => rfl, rfl, rfl, rfl, rfl, Nat.le_refl _, fun _ _ _ => rfl, ⟨hN, fun b hb => hMN b hb⟩, hJ, fun id b hb => ⟨hlt.2 b (own_flat id b hb), .inr (own_flat id b hb)⟩, fun id => ?_, fun id id' b hb hb' => ?_, fun id => ?_, fun i => ?_⟩⟩
      · rw [hown]
        dsimp only
        split
        · rw [List.getD_eq_getElem?_getD]
          cases hm : Ms0[id.2]? with
          | none => simp
          | some m => exact nodup_of_flatten hnd (List.mem_of_getElem? hm)
        · simp
      · obtain ⟨e1, m, e2, e3⟩ := own_mem id b hb
        obtain ⟨e1', m', e2', e3'⟩ := own_mem id' b hb'
        exact Prod.ext (e1.trans e1'.symm) (flatten_disj hnd e2 e2' e3 e3')
      · show ObOK _ _ _ id (updO (fun _ => .none) (obsM a0) id)
        rcases updO_cases (us := obsM a0) (g := fun _ => Ob.none) (k := id) with q | ⟨z, hz, q⟩
        · rw [q]; trivial
        · rw [q]
          have : ∃ p q r, z.2 = .arr p q r := by
            cases a0 with
            | arr => simp only [obsM, List.mem_singleton] at hz; subst hz; exact ⟨_, _, _, rfl⟩
            | mag l => exact magObs_arr z hz
            | _ => simp [obsM] at hz
          obtain ⟨p, q, r, e⟩ := this
          rw [e]; trivial
      · show AVOK _ _ _ ((argM a0 :: rest.map (argAV false)).getD i .any) (t0.getD i undef)
        rw [List.getD_eq_getElem?_getD]
        cases hq : (argM a0 :: rest.map (argAV false))[i]? with
        | none => trivial
        | some av =>
          obtain ⟨v, hv, hok⟩ := All2.get hall i av hq
          rw [hget i v hv]
          exact hok
    refine calls_of_wp hf hb (wp_mono (wpc_sound (T := T) (X := X) (fun ops o _ ho => sound1 hT ops o ho) hm (fun h => by rw [hnm] at h; cases h) body hst h0 hinit) fun e a' w' hq => ?_)
    obtain ⟨s', hq, own, hc⟩ := hq
    have fin : RetOKM T fn.results.toList rs a1 s' → a'.defers = [] ∧ ∃ v, (results fn a'.tmps).run E.P w' = .ok v w' ∧ (fun e w' => ∃ v, e = Ending.returned v ∧ PostOK c.alias w w' (F0 ++ F1) Ms0 (mutVals c.muts (x :: vs)) rs [a1] v) (.returned v) w' := fun hret => by
      obtain ⟨hret, hmf⟩ := hret
      obtain ⟨v, F', os, r1, r2, r3, r4, r5⟩ := rets_ok (X := X) hT.ty hc hret
      have hlenr := rets_len r2
      have hos : os = [] := List.eq_nil_of_length_eq_zero (by rw [← hlenr]; exact hrn)
      subst hos
      split at hmf
      · rename_i p1 ids hmf1
        obtain ⟨hp1, hid⟩ := hmf
        have hx0 : a'.tmps.getD 0 undef = x := by rw [hc.fix 0 (by simp [X])]; exact hget 0 x rfl
        have hav := hc.sls 0
        rw [hx0] at hav
        obtain ⟨F2, g⟩ := mutFin_ok hmf1 hp1 hav
        refine ⟨hc.defers, v, r1, v, rfl, ⟨hc.os, hc.tape, hc.output, hc.grow, fun b h1 h2 => hc.old b h1 h2, F', [], F2 ++ [], ids.map own ++ [], r2, ?_, by simp, by simp, fun b hb => ?_, ?_, fun b hb => ?_⟩⟩
        · rw [hmu]
          have : mutVals [true] (x :: vs) = [x] := by
            simp only [mutVals, List.headD_cons, if_true, List.tail_cons]
            rw [mutVals_nil (by rfl)]
          rw [this]
          exact .cons g .nil
        · obtain ⟨q1, q2⟩ := r5 b hb
          refine ⟨q1.1, by simp, fun hm => ?_, .inl ?_⟩
          · rw [List.append_nil] at hm
            obtain ⟨m, hm, hb⟩ := List.mem_flatten.1 hm
            obtain ⟨id, _, rfl⟩ := List.mem_map.1 hm
            exact q1.2 id hb
          · rw [hc.bs] at q2; exact q2
        · rw [List.append_nil]; exact hc.flat hid
        · rw [List.append_nil] at hb
          obtain ⟨m, hm, hb⟩ := List.mem_flatten.1 hb
          obtain ⟨id, _, rfl⟩ := List.mem_map.1 hm
          obtain ⟨q1, q2⟩ := hc.lt id b hb
          exact ⟨q1, by simp, q2⟩
      · exact hmf.elim
    cases e with
    | normal => exact fin hq
    | ret => exact fin hq
    | _ => exact hq.elim
end
end Go.Own
