/-
  Own calculus, part U: the table of types out of a program; a table of contracts; the words by which 'wpc' is reckoned out. Conditions: as each theorem states them.
-/
import Derived.Test.YtmfieiphcjenlaaOwnT
import Derived.Laws.StructEq
namespace Go.Own
open Go
set_option linter.unusedVariables false
set_option linter.unusedSimpArgs false

/-- A struct of integers whose '==' is that of its cells. -/
def intFields (P : Program) : Nat → List Field → Bool
  | _, [] => true
  | k, f :: fs => (f.name != "_") && (f.offset == k) && (match P.underlying f.type with
    | some (.int _) => true
    | _ => false) && intFields P (k + 1) fs

def eqB (P : Program) (t : TypeId) : Bool := match P.underlying t, P.info? t with
  | some (.struct F), some i => intFields P 0 F.toList && (i.size == F.size) && !P.stoodInHeld t && !P.eqGuardType P.depth t
  | _, _ => false

theorem run_part_int {P : Program} {t : TypeId} {k : IntKind} (h : P.underlying t = some (.int k)) {cs : Array Value} {off : Nat} {v : Value} (hv : cs[off]? = some v) (w : World) : (part t cs off).run P w = .ok v w := by
  simp [part, isAgg, run_underlying h, hv]

theorem eqFields_int {P : Program} (d : Nat) (w : World) (zx zy : List (IntKind × Int)) (hk : zx.map (fun q => q.1) = zy.map (fun q => q.1)) : ∀ (fs : List Field) (k : Nat), intFields P k fs = true → zx.length = k + fs.length → 
    (Op.eqFields (d + 1) (zx.map fun q => Value.int q.1 q.2).toArray (zy.map fun q => Value.int q.1 q.2).toArray fs).run P w = .ok ((zx.drop k).map (fun q => q.2) == (zy.drop k).map (fun q => q.2)) w
  | [], k, _, hl => by
    have hl2 : zy.length = zx.length := by have := congrArg List.length hk; simpa using this.symm
    simp only [List.length_nil, Nat.add_zero] at hl
    rw [List.drop_of_length_le (by omega), List.drop_of_length_le (by omega)]
    simp [Op.eqFields]
  | f :: fs, k, hf, hl => by
    have hl2 : zy.length = zx.length := by have := congrArg List.length hk; simpa using this.symm
    simp only [intFields, Bool.and_eq_true, bne_iff_ne, beq_iff_eq] at hf
    obtain ⟨⟨⟨h1, h2⟩, h3⟩, h4⟩ := hf
    simp only [List.length_cons] at hl
    have hx : k < zx.length := by omega
    have hy : k < zy.length := by omega
    have hkk : zx[k].1 = zy[k].1 := by
      have := congrArg (fun l => l[k]?) hk
      simpa [List.getElem?_map, List.getElem?_eq_getElem hx, List.getElem?_eq_getElem hy] using this
    split at h3
    · rename_i kk hu
      have e1 : (zx.map fun q => Value.int q.1 q.2).toArray[f.offset]? = some (.int zx[k].1 zx[k].2) := by
        rw [h2]; simp [List.getElem?_map, List.getElem?_eq_getElem hx]
      have e2 : (zy.map fun q => Value.int q.1 q.2).toArray[f.offset]? = some (.int zx[k].1 zy[k].2) := by
        rw [h2, hkk]; simp [List.getElem?_map, List.getElem?_eq_getElem hy]
      have ih := eqFields_int d w zx zy hk fs (k + 1) h4 (by omega)
      simp only [Op.eqFields, if_pos h1, Sem.run_bind, run_part_int hu e1, run_part_int hu e2, Result.andThen_ok, run_equalIn_int w d f.type zx[k].1 kk zx[k].2 zy[k].2 hu]
      rw [List.drop_eq_getElem_cons hx, List.drop_eq_getElem_cons hy]
      cases hb : (zx[k].2 == zy[k].2) with
      | true =>
        simp only [Bool.not_true, Bool.false_eq_true, if_false, ih, List.map_cons]
        have : zx[k].2 = zy[k].2 := by simpa using hb
        rw [this]; simp
      | false =>
        simp only [Bool.not_false, if_true, Sem.run_pure, List.map_cons, List.cons_beq_cons, hb, Bool.false_and]
    · cases h3

theorem eqB_ok {P : Program} {t : TypeId} {i : TypeInfo} (hi : P.info? t = some i) (h : eqB P t = true) : EqOK P t i.size := by
  unfold eqB at h
  split at h
  · rename_i F i' hu hi'
    rw [hi] at hi'
    obtain rfl := Option.some.inj hi'
    simp only [Bool.and_eq_true, Bool.not_eq_true', beq_iff_eq] at h
    obtain ⟨⟨⟨h1, h2⟩, h3⟩, h4⟩ := h
    intro op x y xs ys w hx hy hk hop
    have hF : P.fieldsOf t = F := by unfold Program.fieldsOf; rw [hu]
    have hu' : P.underlying t = some (.struct (P.fieldsOf t)) := by rw [hF]; exact hu
    have run := run_equalIn_struct w 9999 t (xs.map fun q => Value.int q.1 q.2).toArray (ys.map fun q => Value.int q.1 q.2).toArray hu' h3
    rw [hF, eqFields_int 9998 w xs ys hk F.toList 0 h1 (by simp; omega)] at run
    simp only [List.drop_zero] at run
    simp only [Sem.run_bind, intVs]
    rw [run_eqGuard_agg w op t x y _ _ h4]
    simp only [Result.andThen_ok]
    rcases hop with rfl | rfl
    · rw [run_eql_struct, run]; simp [Result.andThen]
    · rw [run_neq_struct, run]; simp [Result.andThen]
  · cases h

def tyOf (P : Program) (t : TypeId) : Option TyI :=
  match P.info? t with
  | some i => match i.zero with
    | some z => if z.cells.toList.length = i.size ∧ z.cells.toList.all (·.oneCell') = true then
        match P.underlying t with
        | some (.slice e) => some ⟨i.size, i.bytes, false, false, .slice e, z.cells.toList⟩
        | some (.struct F) => some ⟨i.size, i.bytes, true, eqB P t, .struct (F.toList.map fun f => (f.offset, f.type)), z.cells.toList⟩
        | some (.int k) => some ⟨i.size, i.bytes, false, false, .int k, z.cells.toList⟩
        | some .bool => some ⟨i.size, i.bytes, false, false, .bool, z.cells.toList⟩
        | some .string => some ⟨i.size, i.bytes, false, false, .str, z.cells.toList⟩
        | _ => none
      else none
    | none => none
  | none => none

theorem tyOf_ok {P : Program} {t : TypeId} {y : TyI} (h : tyOf P t = some y) : TyOK P t y := by
  unfold tyOf at h
  split at h
  · rename_i i hi
    split at h
    · rename_i z hz
      split at h
      · rename_i hh
        obtain ⟨h1, h2⟩ := hh
        have h3 : ∀ v ∈ z.cells.toList, v.oneCell' = true := fun v hv => List.all_eq_true.1 h2 v hv
        split at h
        · rename_i e hu
          simp only [Option.some.injEq] at h
          subst h
          exact ⟨⟨i, z, hi, rfl, rfl, hz, rfl⟩, h1, h3, (by simp), hu, rfl⟩
        · rename_i F hu
          simp only [Option.some.injEq] at h
          subst h
          exact ⟨⟨i, z, hi, rfl, rfl, hz, rfl⟩, h1, h3, (fun hq => eqB_ok hi hq), ⟨F, hu, rfl⟩, rfl⟩
        · rename_i k hu
          simp only [Option.some.injEq] at h
          subst h
          exact ⟨⟨i, z, hi, rfl, rfl, hz, rfl⟩, h1, h3, (by simp), hu, rfl⟩
        · rename_i hu
          simp only [Option.some.injEq] at h
          subst h
          exact ⟨⟨i, z, hi, rfl, rfl, hz, rfl⟩, h1, h3, (by simp), hu, rfl⟩
        · rename_i hu
          simp only [Option.some.injEq] at h
          subst h
          exact ⟨⟨i, z, hi, rfl, rfl, hz, rfl⟩, h1, h3, (by simp), hu, rfl⟩
        · cases h
      · cases h
    · cases h
  · cases h

def look (l : List (FuncId × Contract)) (f : FuncId) : Option Contract := match l with
  | [] => none
  | (g, c) :: r => if g = f then some c else look r f

def mkT (P : Program) (l : List (FuncId × Contract)) (wr : Bool) (im : Nat → Bool) (nm : Bool) (bx : Nat → Bool) : Tabs := ⟨tyOf P, look l, wr, im, nm, bx⟩

inductive AllC (E : Env) : List (FuncId × Contract) → Prop
  | nil : AllC E []
  | cons {f c l} : ContractOK E f c → AllC E l → AllC E ((f, c) :: l)

theorem AllC.look {E : Env} {l : List (FuncId × Contract)} (a : AllC E l) {f : FuncId} {c : Contract} (h : look l f = some c) : ContractOK E f c := by
  induction a with
  | nil => cases h
  | cons h1 _ ih =>
    simp only [Own.look] at h
    split at h
    · rename_i e
      simp only [Option.some.injEq] at h
      subst e h
      exact h1
    · exact ih h

theorem mkT_ok {E : Env} {l : List (FuncId × Contract)} {wr : Bool} {im : Nat → Bool} {nm : Bool} {bx : Nat → Bool} (a : AllC E l) : TabsOK E (mkT E.P l wr im nm bx) := ⟨fun _ _ h => tyOf_ok h, fun _ _ h => a.look h⟩

/-! The reckoning of 'wpc'. -/
section
variable {T : Tabs} {Q : Exit → St → Prop} {s : St}

theorem wpc_skip : wpc T .skip Q s = Q .normal s := rfl
theorem wpc_label {l : Nat} : wpc T (.label l) Q s = Q .normal s := rfl
theorem wpc_region {i : Nat} {ops : Array Oper} {dr : Bool} : wpc T (.region i ops dr) Q s = TL T ops (Q .normal) ops.toList s := rfl
theorem wpc_seq {a b : Code} : wpc T (.seq a b) Q s = wpc T a (seqK (wpc T b Q) Q) s := rfl
theorem wpc_cond {c : Operand} {x y : Code} : wpc T (.cond c x y) Q s = condK (rho s c) (wpc T x Q s) (wpc T y Q s) := rfl
theorem wpc_block {i : Nat} {c : Code} : wpc T (.block i c) Q s = wpc T c (blockK i Q) s := rfl
theorem wpc_loop {c : Code} : wpc T (.loop c) Q s = LoopVC T (wpc T c) (dsts c) Q s := rfl
theorem wpc_exit {i : Nat} : wpc T (.exit i) Q s = Q (.exit i) s := rfl
theorem wpc_ret : wpc T .ret Q s = Q .ret s := rfl

theorem TL_nil {ops : Array Oper} {K : St → Prop} : TL T ops K [] s = K s := rfl

/-- One operation's outcome is known; what follows is kept as data, so that the reckoning stops here. -/
def stepT (r : Option (Prop × AV × List (Id × Ob))) (T : Tabs) (ops : Array Oper) (K : St → Prop) (dst : Option Nat) (l : List Oper) (s : St) : Prop := bindF r fun v us => TL T ops K l (s.put dst v us)

def Gate (p : Prop) (T : Tabs) (ops : Array Oper) (K : St → Prop) (dst : Option Nat) (l : List Oper) (s : St) (v : AV) (us : List (Id × Ob)) : Prop := p ∧ TL T ops K l (s.put dst v us)

def forkT (v : AV) (T : Tabs) (x y : Code) (Q : Exit → St → Prop) (s : St) : Prop := condK v (wpc T x Q s) (wpc T y Q s)

theorem TL_cons {ops : Array Oper} {K : St → Prop} {o : Oper} {r : List Oper} : TL T ops K (o :: r) s = stepT (F1 T ops o s) T ops K o.dst r s := rfl
theorem stepT_some {p : Prop} {v : AV} {us : List (Id × Ob)} {ops : Array Oper} {K : St → Prop} {d : Option Nat} {r : List Oper} : stepT (some (p, v, us)) T ops K d r s = Gate p T ops K d r s v us := rfl
theorem gate_true {v : AV} {us : List (Id × Ob)} {ops : Array Oper} {K : St → Prop} {d : Option Nat} {r : List Oper} : Gate True T ops K d r s v us = TL T ops K r (s.put d v us) := by simp [Gate]
theorem gate_intro {p : Prop} {v : AV} {us : List (Id × Ob)} {ops : Array Oper} {K : St → Prop} {d : Option Nat} {r : List Oper} (h : p) (k : p → TL T ops K r (s.put d v us)) : Gate p T ops K d r s v us := ⟨h, k h⟩
theorem wpc_fork {c : Operand} {x y : Code} : wpc T (.cond c x y) Q s = forkT (rho s c) T x y Q s := rfl
theorem fork_true {x y : Code} : forkT (.one (.d (.v (.bool true)))) T x y Q s = wpc T x Q s := by simp [forkT, condK]
theorem fork_false {x y : Code} : forkT (.one (.d (.v (.bool false)))) T x y Q s = wpc T y Q s := by simp [forkT, condK]
theorem fork_intro {b : Bool} {x y : Code} (h1 : b = true → wpc T x Q s) (h2 : b = false → wpc T y Q s) : forkT (.one (.d (.v (.bool b)))) T x y Q s := ⟨h1, h2⟩

theorem loop_intro {c : Code} (I : LoopInv) (h1 : I.chk (dsts c) = true) (i0 : I.ι) (h2 : I.ok i0) (h3 : EnterI T.nm I i0 s) (h4 : ∀ i, I.ok i → wpc T c (loopK T.nm I i Q) (headStA I.rs s (I.st i) I.alis)) : wpc T (.loop c) Q s :=
  ⟨I, h1, ⟨i0, h2, h3⟩, h4⟩
theorem loop_next {nm : Bool} {I : LoopInv} {i : I.ι} (j : I.ι) (h1 : I.ok j) (h2 : I.mu j < I.mu i) (h3 : EnterI nm I j s) : loopK nm I i Q .normal s := ⟨j, h1, h2, h3⟩

attribute [irreducible] Gate forkT stepT

theorem seqK_normal {k : St → Prop} : seqK k Q .normal s = k s := rfl
theorem seqK_exit {k : St → Prop} {i : Nat} : seqK k Q (.exit i) s = Q (.exit i) s := rfl
theorem seqK_ret {k : St → Prop} : seqK k Q .ret s = Q .ret s := rfl
theorem blockK_normal {i : Nat} : blockK i Q .normal s = Q .normal s := rfl
theorem blockK_exit {i j : Nat} : blockK i Q (.exit j) s = if j = i then Q .normal s else Q (.exit j) s := rfl
theorem blockK_ret {i : Nat} : blockK i Q .ret s = Q .ret s := rfl
theorem loopK_exit {nm : Bool} {I : LoopInv} {i : I.ι} {k : Nat} : loopK nm I i Q (.exit k) s = Q (.exit k) s := rfl
theorem loopK_ret {nm : Bool} {I : LoopInv} {i : I.ι} : loopK nm I i Q .ret s = Q .ret s := rfl

theorem put_sl {d : Nat} {v : AV} {us : List (Id × Ob)} {t : Nat} : (s.put (some d) v us).sl t = if t = d then v.mk else s.sl t := rfl
theorem put_sl0 {v : AV} {us : List (Id × Ob)} {t : Nat} : (s.put none v us).sl t = s.sl t := rfl
theorem put_ob' {d : Option Nat} {v : AV} {us : List (Id × Ob)} : (s.put d v us).ob = updO s.ob us := St.put_ob s d v us
theorem updO_nil' {g : Id → Ob} : updO g [] = g := rfl
theorem updO_cons' {g : Id → Ob} {k : Id} {o : Ob} {r : List (Id × Ob)} {i : Id} : updO g ((k, o) :: r) i = updO (fun id => if id = k then o else g id) r i := rfl
theorem updO_nil'' {g : Id → Ob} {i : Id} : updO g [] i = g i := rfl

theorem init_sl {al : Bool} {bs : Nat → Prop} {args : List Arg} {t : Nat} : (initSt al bs args).sl t = (args.map (argAV al)).getD t .any := rfl
theorem init_ob {al : Bool} {bs : Nat → Prop} {args : List Arg} {i : Id} : (initSt al bs args).ob i = .none := rfl

theorem initM_sl {bs : Nat → Prop} {a0 : Arg} {rest : List Arg} {t : Nat} : (initM bs a0 rest).sl t = (argM a0 :: rest.map (argAV false)).getD t .any := rfl
theorem initM_ob {bs : Nat → Prop} {a0 : Arg} {rest : List Arg} {i : Id} : (initM bs a0 rest).ob i = updO (fun _ => .none) (obsM a0) i := rfl

theorem head_sl {rs : List (Nat × Nat)} {ps : List (Nat × Pat)} {as : List (Nat × Nat)} {t : Nat} : (headStA rs s ps as).sl t = aliSl rs s.sl ps as t := rfl
theorem ali_nil {rs : List (Nat × Nat)} {f : Nat → AV} {ps : List (Nat × Pat)} {j : Nat} : aliSl rs f ps [] j = slotsOf rs f ps j := rfl
theorem ali_cons {rs : List (Nat × Nat)} {f : Nat → AV} {ps : List (Nat × Pat)} {r : List (Nat × Nat)} {p q j : Nat} : aliSl rs f ps ((p, q) :: r) j = if j = p then slotsOf rs f ps q else aliSl rs f ps r j := rfl
theorem head_ob {rs : List (Nat × Nat)} {ps : List (Nat × Pat)} {as : List (Nat × Nat)} {i : Id} : (headStA rs s ps as).ob i = updO (fun _ => .none) (objsOf ps) i := rfl
theorem slots_nil {rs : List (Nat × Nat)} {f : Nat → AV} {j : Nat} : slotsOf rs f [] j = if inRs rs j then .any else scrub (f j) := rfl
theorem slots_cons {rs : List (Nat × Nat)} {f : Nat → AV} {j p : Nat} {x : Pat} {r : List (Nat × Pat)} : slotsOf rs f ((p, x) :: r) j = if j = p then (headPat p x).1 else slotsOf rs f r j := rfl

theorem mkT_ty {P : Program} {l : List (FuncId × Contract)} {wr : Bool} {im : Nat → Bool} {nm : Bool} {bx : Nat → Bool} {t : TypeId} : (mkT P l wr im nm bx).ty t = tyOf P t := rfl
theorem mkT_ct {P : Program} {l : List (FuncId × Contract)} {wr : Bool} {im : Nat → Bool} {nm : Bool} {bx : Nat → Bool} {f : FuncId} : (mkT P l wr im nm bx).ct f = look l f := rfl
theorem mkT_wr {P : Program} {l : List (FuncId × Contract)} {wr : Bool} {im : Nat → Bool} {nm : Bool} {bx : Nat → Bool} : (mkT P l wr im nm bx).wr = wr := rfl
theorem mkT_im {P : Program} {l : List (FuncId × Contract)} {wr : Bool} {im : Nat → Bool} {nm : Bool} {bx : Nat → Bool} {d : Nat} : (mkT P l wr im nm bx).im d = im d := rfl
theorem mkT_bx {P : Program} {l : List (FuncId × Contract)} {wr : Bool} {im : Nat → Bool} {nm : Bool} {bx : Nat → Bool} {d : Nat} : (mkT P l wr im nm bx).bx d = bx d := rfl
theorem mkT_nm {P : Program} {l : List (FuncId × Contract)} {wr : Bool} {im : Nat → Bool} {nm : Bool} {bx : Nat → Bool} : (mkT P l wr im nm bx).nm = nm := rfl

/-- A row of integers as data. -/
def iL (xs : List Int) : List (List D) := xs.map fun n => [D.v (.int .i64 n)]
theorem iL_length (xs : List Int) : (iL xs).length = xs.length := by simp [iL]
theorem iL_get {xs : List Int} {i : Nat} (h : i < xs.length) : (iL xs).getD i [] = [D.v (.int .i64 (xs.getD i 0))] := by
  simp [iL, List.getD_eq_getElem?_getD, h]
theorem iL_set {xs : List Int} {i : Nat} {n : Int} : (iL xs).set i [D.v (.int .i64 n)] = iL (xs.set i n) := by
  simp [iL, List.map_set]
theorem succ_eq {i : Nat} : ((i : Int) + 1 = ((i + 1 : Nat) : Int)) = True := by simp
theorem scal_v {x : Value} : Scalar (.v x) = True := rfl
theorem scal_sl {n : Nat} {l : List (List D)} : Scalar (.sl n l) = False := rfl
theorem iL_scal {ys : List Int} {k i : Nat} : (∀ x ∈ List.take k ((iL ys).getD i []), Scalar x) ↔ True := by
  refine ⟨fun _ => trivial, fun _ x hx => ?_⟩
  have := List.mem_of_mem_take hx
  simp only [iL, List.getD_eq_getElem?_getD, List.getElem?_map] at this
  cases h : ys[i]? with
  | none => simp [h] at this
  | some n => simp [h] at this; subst this; trivial
theorem cond_and {a b : Bool} : cond a b false = (a && b) := by cases a <;> rfl
theorem cond_or {a b : Bool} : cond a true b = (a || b) := by cases a <;> rfl
theorem inR64 {n : Int} : inR .i64 n = (-9223372036854775808 ≤ n ∧ n ≤ 9223372036854775807) := rfl
def unI (l : List (List D)) : List Int := l.map fun
  | [.v (.int .i64 n)] => n
  | _ => 0
theorem unI_iL (xs : List Int) : unI (iL xs) = xs := by simp [unI, iL, Function.comp_def]
/-- Rows of integers as data. -/
def sL (rs : List (List Int)) : List (List D) := rs.map fun r => [D.sl 1 (iL r)]
def unS (l : List (List D)) : List (List Int) := l.map fun
  | [.sl _ r] => unI r
  | _ => []
theorem unS_sL (rs : List (List Int)) : unS (sL rs) = rs := by simp [unS, sL, Function.comp_def, unI_iL]
theorem sL_length (rs : List (List Int)) : (sL rs).length = rs.length := by simp [sL]
theorem sL_get {rs : List (List Int)} {i : Nat} (h : i < rs.length) : (sL rs).getD i [] = [D.sl 1 (iL (rs.getD i []))] := by
  simp [sL, List.getD_eq_getElem?_getD, h]
theorem sL_inj {rs ss : List (List Int)} : sL rs = sL ss ↔ rs = ss := by
  constructor
  · intro h
    have := congrArg unS h
    simpa only [unS_sL] using this
  · rintro rfl; rfl
def WfI (l : List (List D)) : Prop := l = iL (unI l) ∧ l.length ≤ maxLen
def WfS (l : List (List D)) : Prop := l = sL (unS l) ∧ l.length ≤ maxLen ∧ ∀ r ∈ unS l, r.length ≤ maxLen
theorem wfI_iL {xs : List Int} : WfI (iL xs) ↔ xs.length ≤ maxLen := by simp [WfI, unI_iL, iL_length]
theorem wfS_sL {rs : List (List Int)} : WfS (sL rs) ↔ rs.length ≤ maxLen ∧ ∀ r ∈ rs, r.length ≤ maxLen := by simp [WfS, unS_sL, sL_length]
theorem WfI.ex {l : List (List D)} (h : WfI l) : ∃ xs, l = iL xs ∧ xs.length ≤ maxLen := ⟨unI l, h.1, by have := h.2; rw [h.1, iL_length] at this; exact this⟩
theorem WfS.ex {l : List (List D)} (h : WfS l) : ∃ rs, l = sL rs ∧ rs.length ≤ maxLen ∧ ∀ r ∈ rs, r.length ≤ maxLen := ⟨unS l, h.1, by have := h.2.1; rw [h.1, sL_length] at this; exact this, h.2.2⟩
theorem take_set {α : Type} {xs : List α} {z : α} {i : Nat} (h : i < xs.length) (d : α) : (xs.take i ++ List.replicate (xs.length - i) z).set i (xs.getD i d) = xs.take (i + 1) ++ List.replicate (xs.length - (i + 1)) z := by
  have e : xs.length - i = xs.length - (i + 1) + 1 := by omega
  have e2 : (xs.take i).length = i := by simp; omega
  rw [List.set_append_right _ _ (by omega), e2, Nat.sub_self, e, List.replicate_succ, List.set_cons_zero, List.take_add_one, List.append_assoc]
  simp [List.getD_eq_getElem?_getD, h]
theorem take_all {α : Type} {xs : List α} {z : α} {i : Nat} (h : ¬ i < xs.length) : xs.take i ++ List.replicate (xs.length - i) z = xs := by
  have : xs.length - i = 0 := by omega
  rw [this, List.take_of_length_le (by omega)]; simp
theorem iL_inj {xs ys : List Int} : iL xs = iL ys ↔ xs = ys := by
  constructor
  · intro h
    have := congrArg (List.map fun (l : List D) => match l with
      | [.v (.int .i64 n)] => n
      | _ => 0) h
    simpa [iL, Function.comp_def] using this
  · rintro rfl; rfl
end
end Go.Own
