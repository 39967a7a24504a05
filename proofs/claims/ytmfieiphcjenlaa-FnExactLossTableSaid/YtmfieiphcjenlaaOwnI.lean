/-
  Own calculus, part I: what the tables must say of the program; the operations that only compute are sound. Conditions: as each theorem states them.
-/
import Derived.Test.YtmfieiphcjenlaaOwnH
import Derived.WalkLawsBesides
namespace Go.Own
open Go
set_option linter.unusedVariables false
set_option linter.unusedSimpArgs false

def intVs (xs : List (IntKind × Int)) : Value := .agg (xs.map fun (q : IntKind × Int) => Value.int q.1 q.2).toArray

/-- Two structs of plain integers are compared field by field. -/
def EqOK (P : Program) (t : TypeId) (n : Nat) : Prop :=
  ∀ (op : BinOp) (x y : Operand) (xs ys : List (IntKind × Int)) (w : World), xs.length = n → ys.length = n → xs.map (fun q => q.1) = ys.map (fun q => q.1) → (op = BinOp.eql ∨ op = BinOp.neq) →
    ((eqGuard op t x y (intVs xs) (intVs ys) : Sem Unit) >>= fun _ => binOp op t (intVs xs) (intVs ys)).run P w =
      .ok (.bool (if op = BinOp.eql then (xs.map (fun q => q.2) == ys.map (fun q => q.2)) else !(xs.map (fun q => q.2) == ys.map (fun q => q.2)))) w

/-- A type's row of the table says what the program says. -/
def TyOK (P : Program) (t : TypeId) (y : TyI) : Prop :=
  (∃ i z, P.info? t = some i ∧ i.size = y.size ∧ i.bytes = y.bytes ∧ i.zero = some z ∧ z.cells.toList = y.zero) ∧ y.zero.length = y.size ∧ (∀ v ∈ y.zero, v.oneCell' = true) ∧ (y.eq = true → EqOK P t y.size) ∧
  match y.d with
  | .slice e => P.underlying t = some (.slice e) ∧ y.agg = false
  | .struct fs => (∃ F : Array Field, P.underlying t = some (.struct F) ∧ F.toList.map (fun f => (f.offset, f.type)) = fs) ∧ y.agg = true
  | .int k => P.underlying t = some (.int k) ∧ y.agg = false
  | .bool => P.underlying t = some .bool ∧ y.agg = false
  | .str => P.underlying t = some .string ∧ y.agg = false
  | .other => ∃ u, P.underlying t = some u ∧ (match u with | .struct _ | .array _ _ => false | _ => true) = true ∧ y.agg = false

section
variable {P : Program} {T : Tabs} {own : Id → List Nat} {s : St} {w : World} {a : Act} {ρ : Operand → AV}

theorem v_of_d {h : Heap} {x v : Value} (c : CellOK own h s (.d (.v x)) v) : v = x := by
  obtain ⟨F, r, _⟩ := c
  cases r with | v _ r => rfl

theorem d_of_v {h : Heap} (x : Value) (hx : x.oneCell' = true) : CellOK own h s (.d (.v x)) x := ⟨[], .v hx .nil, by simp⟩

theorem v_of_av {h : Heap} {x v : Value} (c : AVOK own h s (.one (.d (.v x))) v) : v = x := v_of_d c
theorem av_of_v {h : Heap} (x : Value) (hx : x.oneCell' = true) : AVOK own h s (.one (.d (.v x))) x := d_of_v x hx

theorem run_underlying' {t : TypeId} {d : TypeDesc} (h : P.underlying t = some d) (w : World) : (underlying t).run P w = .ok d w := run_underlying h w

theorem TyOK.size {t : TypeId} {y : TyI} (h : TyOK P t y) (w : World) : (sizeOf t).run P w = .ok y.size w := by
  obtain ⟨⟨i, z, h1, h2, _⟩, _⟩ := h
  simp [sizeOf, typeInfo, h1, h2]

theorem TyOK.isAgg {t : TypeId} {y : TyI} (h : TyOK P t y) (w : World) : (isAgg t).run P w = .ok y.agg w := by
  obtain ⟨_, _, _, _, h⟩ := h
  unfold Go.isAgg
  split at h
  · obtain ⟨h1, h2⟩ := h; simp [run_underlying h1, h2]
  · obtain ⟨⟨F, h1, _⟩, h2⟩ := h; simp [run_underlying h1, h2]
  · obtain ⟨h1, h2⟩ := h; simp [run_underlying h1, h2]
  · obtain ⟨h1, h2⟩ := h; simp [run_underlying h1, h2]
  · obtain ⟨h1, h2⟩ := h; simp [run_underlying h1, h2]
  · obtain ⟨u, h1, h3, h2⟩ := h
    simp only [Sem.run_bind, run_underlying h1, Result.andThen_ok, h2]
    split at h3 <;> simp_all

theorem TyOK.zeroV {t : TypeId} {y : TyI} (h : TyOK P t y) (w : World) : ∃ z, (zeroValue t).run P w = .ok z w ∧ z.cells.toList = y.zero := by
  obtain ⟨⟨i, z, h1, _, _, h4, h5⟩, _⟩ := h
  exact ⟨z, by simp [zeroValue, typeInfo, h1, h4], h5⟩

theorem wrap_in {k : IntKind} {n : Int} (h : inR k n) : k.wrap n = n := by
  obtain ⟨h1, h2⟩ := h
  unfold IntKind.wrap
  cases k <;> simp only [IntKind.min, IntKind.max, IntKind.bits, IntKind.signed] at h1 h2 ⊢ <;> simp at h1 h2 ⊢ <;> omega

theorem ints_run {k : IntKind} {wr : Bool} {n : Int} {p : Prop} {u : Value} (h : ints k wr n = some (p, u)) (hp : p) : u = .int k (k.wrap n) := by
  unfold ints at h
  split at h
  · simp only [Option.some.injEq, Prod.mk.injEq] at h; exact h.2.symm
  · simp only [Option.some.injEq, Prod.mk.injEq] at h; obtain ⟨rfl, rfl⟩ := h; rw [wrap_in hp]

theorem binV_run {wr : Bool} {op : BinOp} {t : TypeId} {x y : Operand} {u v : Value} {p : Prop} {r : Value} (h : binV wr op u v = some (p, r)) (hp : p) (w : World) :
    (do eqGuard op t x y u v; binOp op t u v).run P w = .ok r w ∧ r.oneCell' = true := by
  unfold binV at h
  split at h
  · rename_i k a k' b
    split at h
    · split at h
      · simp only [Option.some.injEq, Prod.mk.injEq] at h; obtain ⟨rfl, rfl⟩ := h
        have hn : ¬ b < 0 := by omega
        simp [eqGuard, binOp, Op.shift, hn, Value.oneCell']
      · simp only [Option.some.injEq, Prod.mk.injEq] at h; obtain ⟨rfl, rfl⟩ := h
        have hn : ¬ b < 0 := by omega
        have hm : min b.toNat k.bits = b.toNat := by omega
        simp [eqGuard, binOp, Op.shift, hn, hm, wrap_in hp.2.2, Value.oneCell']
    · simp only [Option.some.injEq, Prod.mk.injEq] at h; obtain ⟨rfl, rfl⟩ := h
      have hn : ¬ b < 0 := by omega
      have hm : min b.toNat k.bits = b.toNat := by omega
      simp [eqGuard, binOp, Op.shift, hn, hm, Value.oneCell']
    · split at h
      · rename_i hk
        subst hk
        split at h
        · obtain rfl := ints_run h hp; simp [eqGuard, binOp, Op.intArith, Value.oneCell']
        · obtain rfl := ints_run h hp; simp [eqGuard, binOp, Op.intArith, Value.oneCell']
        · obtain rfl := ints_run h hp; simp [eqGuard, binOp, Op.intArith, Value.oneCell']
        all_goals (first | (simp only [Option.some.injEq, Prod.mk.injEq] at h; obtain ⟨rfl, rfl⟩ := h) | (cases h))
        · simp [eqGuard, binOp, Op.intDiv, hp.1, wrap_in hp.2, Value.oneCell']
        · simp [eqGuard, binOp, Op.intDiv, hp, Value.oneCell']
        all_goals (first | (simp [eqGuard, binOp, Op.intBits, bitI, Value.oneCell']; done) | (simp [eqGuard, binOp, Op.intCmp, Value.oneCell']; done))
      · cases h
  · rename_i a b
    split at h
    · simp only [Option.some.injEq, Prod.mk.injEq] at h; obtain ⟨rfl, rfl⟩ := h
      have hn : ¬ ((a.size + b.size : Nat) : Int) > IntKind.i64.max := by simp [IntKind.max, IntKind.bits, IntKind.signed]; omega
      simp only [eqGuard, binOp, Op.stringOp]
      rw [if_neg hn]
      simp [Value.oneCell']
    · simp only [Option.some.injEq, Prod.mk.injEq] at h; obtain ⟨rfl, rfl⟩ := h
      simp [eqGuard, binOp, Op.stringOp, Value.oneCell']
    · simp only [Option.some.injEq, Prod.mk.injEq] at h; obtain ⟨rfl, rfl⟩ := h
      simp [eqGuard, binOp, Op.stringOp, Value.oneCell']
    · cases h
  · cases h


theorem cellInts_ok {h : Heap} : ∀ {cs : List Cell} {xs : List (IntKind × Int)} {vs : List Value}, cellInts cs = some xs → CellsOK own h s cs vs → vs = xs.map fun q => Value.int q.1 q.2
  | [], xs, vs, hc, a => by
    simp only [cellInts, Option.some.injEq] at hc
    subst hc
    cases a; rfl
  | c :: r, xs, vs, hc, a => by
    unfold cellInts at hc
    split at hc
    · rename_i heq; cases heq
    · rename_i k n r' heq
      simp only [List.cons.injEq] at heq
      obtain ⟨rfl, rfl⟩ := heq
      split at hc
      · rename_i l hl
        simp only [Option.some.injEq] at hc
        subst hc
        cases a with
        | cons a1 a2 => rw [v_of_d a1, cellInts_ok hl a2]; rfl
      · cases hc
    · cases hc

theorem fieldOf_ok (hty : ∀ t y, T.ty t = some y → TyOK P t y) {t : TypeId} {f off : Nat} {ft : TypeId} (hf : fieldOf T t f = some (off, ft)) : ∃ F : Array Field, P.underlying t = some (.struct F) ∧ ∃ fd, F[f]? = some fd ∧ fd.offset = off ∧ fd.type = ft := by
  unfold fieldOf at hf
  split at hf
  · rename_i fs heq
    have := (hty t _ heq).2.2.2.2
    obtain ⟨⟨F, h1, h2⟩, _⟩ := this
    rw [← h2, List.getElem?_map] at hf
    cases hF : F.toList[f]? with
    | none => rw [hF] at hf; cases hf
    | some fd =>
      rw [hF] at hf
      simp only [Option.map_some, Option.some.injEq, Prod.mk.injEq] at hf
      exact ⟨F, h1, fd, by simpa using hF, hf.1, hf.2⟩
  · cases hf

theorem run_part {h : Heap} {t : TypeId} {y : TyI} (hy : TyOK P t y) {off : Nat} {cs : List Cell} {av : AV} (hp : partOf y.agg off y.size cs = some av) {vs : List Value} (a : CellsOK own h s cs vs) (w : World) :
    ∃ u, (part t vs.toArray off).run P w = .ok u w ∧ AVOK own h s av u := by
  unfold partOf at hp
  unfold part
  cases hagg : y.agg with
  | true =>
    rw [hagg] at hp
    simp only [if_true] at hp
    split at hp
    · simp only [Option.some.injEq] at hp
      subst hp
      refine ⟨.agg ((vs.drop off).take y.size).toArray, ?_, _, rfl, ?_⟩
      · simp only [Sem.run_bind, hy.isAgg, hagg, hy.size, Result.andThen_ok, if_true, Sem.run_pure]
        congr 2
        apply Array.ext'
        simp
      · exact (All2.drop a off).take y.size
    · cases hp
  | false =>
    rw [hagg] at hp
    simp only [Bool.false_eq_true, if_false] at hp
    split at hp
    · rename_i c hc
      simp only [Option.some.injEq] at hp
      subst hp
      obtain ⟨u, hu, hcu⟩ := All2.get a off c hc
      exact ⟨u, by simp [hy.isAgg, hagg, hu], hcu⟩
    · cases hp

theorem pick_side {h : Heap} {x : Bool} {av : AV} {q : Prop} {y : Bool} (hs : sideOf x av = some (q, y)) (hq : q) (hx : x = true) {v : Value} (a : AVOK own h s av v) : v = .bool y := by
  unfold sideOf at hs
  split at hs
  · simp only [Option.some.injEq, Prod.mk.injEq] at hs; obtain ⟨rfl, rfl⟩ := hs; exact v_of_av a
  · simp only [Option.some.injEq, Prod.mk.injEq] at hs; obtain ⟨rfl, rfl⟩ := hs; exact v_of_av (a.1 (hq hx))
  · cases hs

/-- What an operation of a class is asked to show. -/
def Computes (P : Program) (own : Id → List Nat) (h : Heap) (s : St) (o : Oper) (ev : Operand → Value) (w : World) (v : AV) : Prop :=
  ∃ u, (execOp ev o).run P w = .ok (.value u) w ∧ AVOK own h s v u

section
variable {h : Heap} {ev : Operand → Value} {dst : Option Nat} {type : TypeId} {pos : String} {after : Array Edge} {guard : Option (Nat × Bool)} {p : Prop} {v : AV}

theorem P_move {x : Operand} (hx : AVOK own h s (ρ x) (ev x)) (hf : opP T ρ (.move x) = some (p, v)) : Computes P own h s ⟨dst, .move x, type, pos, after, guard⟩ ev w v := by
  simp only [opP, Option.some.injEq, Prod.mk.injEq] at hf
  obtain ⟨rfl, rfl⟩ := hf
  exact ⟨ev x, rfl, hx⟩

theorem P_pick {c x y : Operand} (hc : AVOK own h s (ρ c) (ev c)) (hx : AVOK own h s (ρ x) (ev x)) (hy : AVOK own h s (ρ y) (ev y)) (hf : opP T ρ (.pick c x y) = some (p, v)) (hp : p) :
    Computes P own h s ⟨dst, .pick c x y, type, pos, after, guard⟩ ev w v := by
  unfold opP at hf
  dsimp only at hf
  split at hf
  · rename_i b hb
    rw [hb] at hc
    have hcv := v_of_av hc
    split at hf
    · rename_i q1 y1 q2 z1 h1 h2
      simp only [Option.some.injEq, Prod.mk.injEq] at hf
      obtain ⟨rfl, rfl⟩ := hf
      cases b with
      | true =>
        have := pick_side h1 hp.1 rfl hx
        exact ⟨.bool y1, by simp [execOp, hcv, asBool, this], av_of_v _ rfl⟩
      | false =>
        have := pick_side h2 hp.2 rfl hy
        exact ⟨.bool z1, by simp [execOp, hcv, asBool, this], av_of_v _ rfl⟩
    · cases hf
  · cases hf

theorem capIds_ok : ∀ {vs : List AV} {us : List Value} {ids : List Id}, capIds vs = some ids → All2 (AVOK own h s) vs us → All2 (fun id u => s.sl id.1 ≠ .any ∧ BoxPtr own s.ob id 0 u) ids us
  | [], us, ids, hc, a => by
    simp only [capIds, Option.some.injEq] at hc
    subst hc
    cases a; exact .nil
  | v :: vs, us, ids, hc, a => by
    unfold capIds at hc
    split at hc
    · rename_i e; cases e
    · rename_i id r e
      simp only [List.cons.injEq] at e
      obtain ⟨rfl, rfl⟩ := e
      split at hc
      · rename_i l hl
        simp only [Option.some.injEq] at hc
        subst hc
        cases a with
        | cons a1 a2 => exact .cons a1 (capIds_ok hl a2)
      · cases hc
    · cases hc

theorem P_makeFunc {fn : Fn} {first bs : Array Operand} (hx : ∀ x ∈ bs.toList, AVOK own h s (ρ x) (ev x)) (hf : opP T ρ (.makeFunc fn first bs) = some (p, v)) :
    Computes P own h s ⟨dst, .makeFunc fn first bs, type, pos, after, guard⟩ ev w v := by
  cases fn with
  | func f =>
    unfold opP at hf
    dsimp only at hf
    split at hf
    · rename_i h0
      split at hf
      · rename_i ids hi
        simp only [Option.some.injEq, Prod.mk.injEq] at hf
        obtain ⟨rfl, rfl⟩ := hf
        have hfirst : first = #[] := by
          apply Array.toList_inj.1
          simpa using h0
        have hall : All2 (AVOK own h s) (bs.toList.map ρ) (bs.toList.map ev) := by
          clear hi
          generalize bs.toList = l at hx
          induction l with
          | nil => exact .nil
          | cons x l ih => exact .cons (hx x (by simp)) (ih fun y hy => hx y (by simp [hy]))
        refine ⟨.func (.func f) #[] (bs.map ev), ?_, bs.toList.map ev, by congr 1; apply Array.toList_inj.1; simp, capIds_ok hi hall⟩
        subst hfirst
        simp [execOp, Instr.makeFunc, Sem.run_pure]
      · cases hf
    · cases hf
  | _ => simp [opP] at hf

theorem P_pick' {c x y : Operand} {b y1 z1 : Bool} {ax ay : AV} {q1 q2 : Prop} (hc : AVOK own h s (bV b) (ev c)) (hx : AVOK own h s ax (ev x)) (hy : AVOK own h s ay (ev y)) (h1 : sideOf b ax = some (q1, y1)) (h2 : sideOf (!b) ay = some (q2, z1)) (hp : q1 ∧ q2) :
    Computes P own h s ⟨dst, .pick c x y, type, pos, after, guard⟩ ev w (bV (cond b y1 z1)) := by
  have hcv := v_of_av hc
  cases b with
  | true =>
    have := pick_side h1 hp.1 rfl hx
    exact ⟨.bool y1, by simp [execOp, hcv, asBool, this], av_of_v _ rfl⟩
  | false =>
    have := pick_side h2 hp.2 rfl hy
    exact ⟨.bool z1, by simp [execOp, hcv, asBool, this], av_of_v _ rfl⟩

theorem P_unOp {op : UnOp} {t : TypeId} {x : Operand} (hx : AVOK own h s (ρ x) (ev x)) (hf : opP T ρ (.unOp op t x) = some (p, v)) (hp : p) :
    Computes P own h s ⟨dst, .unOp op t x, type, pos, after, guard⟩ ev w v := by
  unfold opP at hf
  dsimp only at hf
  split at hf
  · rename_i b hb
    simp only [Option.some.injEq, Prod.mk.injEq] at hf
    obtain ⟨rfl, rfl⟩ := hf
    rw [hb] at hx
    exact ⟨.bool (!b), by simp [execOp, v_of_av hx, Op.unary], av_of_v _ rfl⟩
  · rename_i k n hb
    rw [hb] at hx
    unfold lift at hf
    split at hf
    · rename_i q u hu
      simp only [Option.some.injEq, Prod.mk.injEq] at hf
      obtain ⟨rfl, rfl⟩ := hf
      obtain rfl := ints_run hu hp
      exact ⟨_, by simp [execOp, v_of_av hx, Op.unary, Op.intArith], av_of_v _ rfl⟩
    · cases hf
  · cases hf

theorem run_equal_bool {t : TypeId} (hu : P.underlying t = some .bool) (a b : Bool) : (Op.equal t (.bool a) (.bool b)).run P w = .ok (a == b) w := by
  unfold Op.equal
  rw [show Op.maxDepth = 9999 + 1 from rfl, Op.equalIn]
  simp only [Sem.run_bind, run_underlying hu, Result.andThen_ok, Sem.run_pure]

theorem P_binOp {op : BinOp} {t ty : TypeId} {x y : Operand} (hty : ∀ t y, T.ty t = some y → TyOK P t y) (hx : AVOK own h s (ρ x) (ev x)) (hy : AVOK own h s (ρ y) (ev y)) (hf : opP T ρ (.binOp op t x y ty) = some (p, v)) (hp : p) :
    Computes P own h s ⟨dst, .binOp op t x y ty, type, pos, after, guard⟩ ev w v := by
  unfold opP at hf
  dsimp only at hf
  split at hf
  · rename_i b1 b2 e1 e2
    rw [e1] at hx
    rw [e2] at hy
    split at hf
    · rename_i hyt
      have hu := (hty t _ hyt).2.2.2.2
      simp only at hu
      split at hf
      · simp only [Option.some.injEq, Prod.mk.injEq] at hf
        obtain ⟨rfl, rfl⟩ := hf
        exact ⟨.bool (b1 == b2), by simp only [execOp, v_of_av hx, v_of_av hy, eqGuard, binOp, Sem.run_bind, Sem.run_pure, Result.andThen_ok, run_equal_bool hu.1, Bool.not_true, Bool.false_eq_true, if_false], av_of_v _ rfl⟩
      · simp only [Option.some.injEq, Prod.mk.injEq] at hf
        obtain ⟨rfl, rfl⟩ := hf
        exact ⟨.bool (!(b1 == b2)), by simp only [execOp, v_of_av hx, v_of_av hy, eqGuard, binOp, Sem.run_bind, Sem.run_pure, Result.andThen_ok, run_equal_bool hu.1, Bool.not_true, Bool.false_eq_true, if_false], av_of_v _ rfl⟩
      · cases hf
    · cases hf
  · rename_i u1 u2 _ e1 e2
    rw [e1] at hx
    rw [e2] at hy
    unfold lift at hf
    split at hf
    · rename_i q r hr
      simp only [Option.some.injEq, Prod.mk.injEq] at hf
      obtain ⟨rfl, rfl⟩ := hf
      obtain ⟨h1, h2⟩ := binV_run (P := P) (t := t) (x := x) (y := y) hr hp w
      refine ⟨r, ?_, av_of_v _ h2⟩
      simp only [execOp, v_of_av hx, v_of_av hy]
      rw [Sem.run_bind, h1]
      rfl
    · cases hf
  · rename_i xs ys e1 e2
    rw [e1] at hx
    rw [e2] at hy
    obtain ⟨vs1, g1, a1⟩ := hx
    obtain ⟨vs2, g2, a2⟩ := hy
    split at hf
    · rename_i hyt
      split at hf
      · rename_i hl
        have heq := (hty t _ hyt).2.2.2.1 rfl
        unfold structEq at hf
        split at hf
        · rename_i l1 l2 c1 c2
          have b1 := cellInts_ok c1 a1
          have b2 := cellInts_ok c2 a2
          have n1 : l1.length = xs.length := by rw [All2.length a1, b1]; simp
          have n2 : l2.length = ys.length := by rw [All2.length a2, b2]; simp
          have w1 : Value.agg vs1 = intVs l1 := by unfold intVs; rw [← b1]
          have w2 : Value.agg vs2 = intVs l2 := by unfold intVs; rw [← b2]
          split at hf
          · simp only [Option.some.injEq, Prod.mk.injEq] at hf
            obtain ⟨rfl, rfl⟩ := hf
            have := heq .eql x y l1 l2 w (by rw [n1]; exact hl.1) (by rw [n2]; exact hl.2) hp (.inl rfl)
            refine ⟨_, ?_, av_of_v _ rfl⟩
            simp only [execOp, g1, g2, w1, w2]
            rw [Sem.run_bind, this]
            rfl
          · simp only [Option.some.injEq, Prod.mk.injEq] at hf
            obtain ⟨rfl, rfl⟩ := hf
            have := heq .neq x y l1 l2 w (by rw [n1]; exact hl.1) (by rw [n2]; exact hl.2) hp (.inr rfl)
            refine ⟨_, ?_, av_of_v _ rfl⟩
            simp only [execOp, g1, g2, w1, w2]
            rw [Sem.run_bind, this]
            rfl
          · cases hf
        · cases hf
      · cases hf
    · cases hf
  · cases hf

theorem add_off (b off n : Nat) : (⟨b, off, none⟩ : Addr).add n = ⟨b, off + n, none⟩ := by
  unfold Addr.add
  split
  · simp_all
  · rfl

theorem P_fieldAddr {t : TypeId} {x : Operand} {f : Nat} (hty : ∀ t y, T.ty t = some y → TyOK P t y) (hx : AVOK own h s (ρ x) (ev x)) (hf : opP T ρ (.fieldAddr t x f) = some (p, v)) (hp : p) :
    Computes P own h s ⟨dst, .fieldAddr t x f, type, pos, after, guard⟩ ev w v := by
  unfold opP at hf
  dsimp only at hf
  split at hf
  · rename_i off ft e1
    split at hf
    · rename_i y hy
      split at hf
      · cases hf
      · rename_i hsz
        obtain ⟨F, h1, fd, h2, h3, h4⟩ := fieldOf_ok hty e1
        have hrun : ∀ b o, (Instr.fieldAt t (.pointer (some ⟨b, o, none⟩)) f).run P w = .ok (.pointer (some ⟨b, o + off, none⟩)) w := fun b o => by
          have hs0 := (hty ft y hy).size w
          rw [← h4] at hs0
          simp only [Instr.fieldAt, Sem.run_bind, run_underlying h1, Result.andThen_ok, h2, Instr.sureAddr, Sem.run_pure, fieldPlace, hs0, hsz, if_false, add_off, h3]
        split at hf
        · rename_i id oo e2
          simp only [Option.some.injEq, Prod.mk.injEq] at hf
          obtain ⟨rfl, rfl⟩ := hf
          rw [e2] at hx
          obtain ⟨a1, b, b1, b2⟩ := hx
          exact ⟨.pointer (some ⟨b, oo + off, none⟩), by simp only [execOp, b1, Sem.run_bind, hrun, Result.andThen_ok, Sem.run_pure], a1, b, rfl, b2⟩
        · rename_i ds e2
          simp only [Option.some.injEq, Prod.mk.injEq] at hf
          obtain ⟨rfl, rfl⟩ := hf
          rw [e2] at hx
          obtain ⟨b, o, c, e, fz, F', a1, a2, a3, a4, a5, a6⟩ := hx
          refine ⟨.pointer (some ⟨b, o + off, none⟩), by simp only [execOp, a1, Sem.run_bind, hrun, Result.andThen_ok, Sem.run_pure], b, o + off, c, e, fz, ?_⟩
          rw [← List.take_append_drop off ds] at a4
          obtain ⟨v1, v2, F1, F2, g1, g2, r1, r2⟩ := RepsW.split _ _ a4
          refine ⟨F2, rfl, a2, by rw [List.length_drop]; omega, ?_, a5, fun z hz => a6 z (by rw [g2]; simp [hz])⟩
          have l1 : v1.length = off := by rw [← r1.length, List.length_take]; omega
          have : v2 = (c.toList.drop (o + off)).take (ds.drop off).length := by
            have : ((c.toList.drop o).take ds.length).drop off = v2 := by
              rw [List.take_append_drop] at g1
              rw [g1, ← l1, List.drop_left]
            rw [← this, List.drop_take, List.drop_drop, List.length_drop]
          rw [← this]; exact r2
        · rename_i id i oo e2
          simp only [Option.some.injEq, Prod.mk.injEq] at hf
          obtain ⟨rfl, rfl⟩ := hf
          rw [e2] at hx
          obtain ⟨a1, b, o, b1, si, b2, b3⟩ := hx
          exact ⟨.pointer (some ⟨b, o + off, none⟩), by simp only [execOp, b1, Sem.run_bind, hrun, Result.andThen_ok, Sem.run_pure], a1, b, o + off, rfl, si, by omega, b3⟩
        · cases hf
    · cases hf
  · cases hf
end
end

end Go.Own
