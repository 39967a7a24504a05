/-
  Own calculus, part W: what a law is handed, as data: a type's reading opened. Conditions: as each theorem states them.
-/
import Derived.Test.YthopcpiecbofcaaOwnZ4
import Derived.ChangeArms
import Derived.DataReads
import Derived.Below
import Derived.Test.YthopcpiecbofcaaOwnZ5
import Derived.Test.YthopcpiecbofcaaRows
import Derived.WalkKit
import Derived.ProofKit
import Derived.OpenShut
import Derived.ShutString
import Derived.ChangeOld
import Derived.Test.YthopcpiecbofcaaOwnY3
namespace Go.Own
open Go
set_option linter.unusedVariables false
set_option linter.unusedSimpArgs false

/-- Whatever a value of type t is read as, it is data of this shape. -/
def Opens (P : Program) (w : World) (t : TypeId) (S : List D → Prop) : Prop :=
  ∀ (H : Type) (enc : TypeId × Value → H) (fuel : Nat) (cs : List Value) (x : DataW H × List MemPlace), DataW.trod enc P w 0 (fun _ => true) true fuel t cs = some x → ∃ ds F, Reps w.heap ds cs F ∧ S ds

section
variable {P : Program} {w : World} {t : TypeId}

theorem opens_int {k : IntKind} (ht : P.underlying t = some (.int k)) : Opens P w t fun ds => ∃ n, ds = [.v (.int k n)] ∧ k.min ≤ n ∧ n ≤ k.max := by
  intro H enc fuel cs x h
  obtain ⟨n, rfl, _, hw⟩ := DataW.trod_int ht h
  refine ⟨[.v (.int k n)], [], .v rfl .nil, n, rfl, ?_⟩
  simpa [Lit.wf] using hw

theorem opens_bool (ht : P.underlying t = some .bool) : Opens P w t fun ds => ∃ b, ds = [.v (.bool b)] := by
  intro H enc fuel cs x h
  obtain ⟨b, rfl, _⟩ := DataW.trod_bool ht h
  exact ⟨[.v (.bool b)], [], .v rfl .nil, b, rfl⟩

theorem opens_string (ht : P.underlying t = some .string) : Opens P w t fun ds => ∃ s : ByteArray, ds = [.v (.string s)] ∧ s.size ≤ maxLen := by
  intro H enc fuel cs x h
  obtain ⟨s, rfl, _, hs⟩ := DataW.trod_string ht h
  exact ⟨[.v (.string s)], [], .v rfl .nil, s, rfl, hs⟩

theorem take_add' {α : Type} (l : List α) (a b : Nat) : l.take (a + b) = l.take a ++ (l.drop a).take b := by
  rw [List.take_add]

theorem opens_slice {e : TypeId} {S : List D → Prop} {n : Nat} (ht : P.underlying t = some (.slice e)) (hn : P.cellsOf e = n) (h0 : 0 < n) (he : Opens P w e S) :
    Opens P w t fun ds => ∃ l : List (List D), ds = [.sl n l] ∧ l.length ≤ maxLen ∧ ∀ d ∈ l, d.length = n ∧ S d := by
  intro H enc fuel cs x h
  rcases DataW.trod_slice ht h with ⟨rfl, _⟩ | ⟨a, len, cap, elems, rest, m, _, rfl, _, _, hl, hm, hlen, hel, hsp, _⟩
  · exact ⟨[.sl n []], [], .none (fun h => nomatch h) .nil, [], rfl, by simp, by simp⟩
  · obtain ⟨hrl, hre⟩ := hsp rfl
    rw [hn] at hel hre
    have cells : ∀ i, i < cap → ∃ cs', w.cells? 0 (a.add (i * n)) n = some cs' := fun i hi => by
      by_cases h1 : i < len
      · have := hel i h1
        rw [List.getElem?_eq_getElem (by omega)] at this
        cases hc : w.cells? 0 (a.add (i * n)) n with
        | none => rw [hc] at this; cases this
        | some cs' => exact ⟨cs', rfl⟩
      · have := hre (i - len) (by omega)
        rw [List.getElem?_eq_getElem (by omega)] at this
        have e : len + (i - len) = i := by omega
        rw [e] at this
        cases hc : w.cells? 0 (a.add (i * n)) n with
        | none => rw [hc] at this; cases this
        | some cs' => exact ⟨cs', rfl⟩
    by_cases hc0 : cap = 0
    · have : len = 0 := by omega
      subst this
      subst hc0
      exact ⟨[.sl n []], [], .none (fun h => nomatch h) .nil, [], rfl, by simp, by simp⟩
    · have hcap : 0 < cap := Nat.pos_of_ne_zero hc0
      obtain ⟨b, off, spot⟩ := a
      obtain ⟨c, u, fz, hb, rfl⟩ : ∃ c u fz, w.heap[b]? = some (.cells c u fz) ∧ spot = none := by
        obtain ⟨cs', hcs⟩ := cells 0 hcap
        obtain ⟨_, h2, h3⟩ := World.cells?_some hcs
        have h4 := h3 0 h0
        rw [List.getElem?_eq_getElem (by rw [h2]; exact h0)] at h4
        simp only [Nat.zero_mul, Addr.add, if_true] at h4
        unfold World.cell? at h4
        split at h4
        · rename_i c u fz hb
          split at h4
          · cases h4
          · rename_i hs
            exact ⟨c, u, fz, hb, by cases spot <;> simp_all⟩
        · cases h4
      have row : ∀ i, i < cap → ∀ cs', w.cells? 0 (Addr.add ⟨b, off, none⟩ (i * n)) n = some cs' → cs' = (c.toList.drop (off + i * n)).take n ∧ off + i * n + n ≤ c.size := fun i hi cs' hcs => by
        obtain ⟨_, h2, h3⟩ := World.cells?_some hcs
        have h4 : ∀ j, j < n → c[off + i * n + j]? = cs'[j]? := fun j hj => by
          have := h3 j hj
          rw [add_off, add_off, cell_row rfl hb] at this
          exact this
        refine ⟨?_, ?_⟩
        · apply List.ext_getElem?
          intro j
          by_cases hj : j < n
          · rw [List.getElem?_take_of_lt hj, List.getElem?_drop, ← h4 j hj]; simp
          · rw [List.getElem?_eq_none (by omega), List.getElem?_eq_none (by simp; omega)]
        · have := h4 (n - 1) (by omega)
          rw [List.getElem?_eq_getElem (by omega)] at this
          have := (Array.getElem?_eq_some_iff.1 this).1
          omega
      have hsz : off + cap * n ≤ c.size := by
        obtain ⟨cs', hcs⟩ := cells (cap - 1) (by omega)
        have := (row (cap - 1) (by omega) cs' hcs).2
        have e : (cap - 1) * n + n = cap * n := by
          rw [← Nat.succ_mul]; congr 1; omega
        omega
      have main : ∀ k, k ≤ len → ∃ (l : List (List D)) (F : List Nat), l.length = k ∧ Reps w.heap l.flatten ((c.toList.drop off).take (k * n)) F ∧ ∀ d ∈ l, d.length = n ∧ S d := by
        intro k
        induction k with
        | zero => intro _; exact ⟨[], [], rfl, by simpa using RepsW.nil, by simp⟩
        | succ k ih =>
          intro hk
          obtain ⟨l, F, g1, g2, g3⟩ := ih (by omega)
          obtain ⟨cs', hcs⟩ := cells k (by omega)
          have hrow := (row k (by omega) cs' hcs).1
          have hk2 := hel k (by omega)
          rw [hcs, List.getElem?_eq_getElem (by omega)] at hk2
          obtain ⟨ds, G, q1, q2⟩ := he H enc m cs' _ hk2
          have hdl : ds.length = n := by rw [q1.length]; exact (World.cells?_some hcs).2.1
          refine ⟨l ++ [ds], F ++ G, by simp [g1], ?_, fun d hd => ?_⟩
          · rw [Nat.succ_mul, List.take_add, List.drop_drop, ← hrow]
            simpa using g2.append q1
          · rcases List.mem_append.1 hd with hd | hd
            · exact g3 d hd
            · simp at hd; subst hd; exact ⟨hdl, q2⟩
      obtain ⟨l, F, g1, g2, g3⟩ := main len (Nat.le_refl _)
      subst g1
      refine ⟨[.sl n l], b :: (F ++ []), .sl (fun h => nomatch h) hb hl hm (by have := Nat.mul_le_mul_right n hl; omega) (fun d hd => (g3 d hd).1) g2 .nil, l, rfl, by omega, g3⟩

/-- A struct of two parts. -/
theorem opens_two {f0 f1 : Field} {S0 S1 : List D → Prop} (ht : P.underlying t = some (.struct #[f0, f1])) (h0 : f0.offset = 0) (h1 : f1.offset = P.cellsOf f0.type) (hc : P.cellsOf t = P.cellsOf f0.type + P.cellsOf f1.type)
    (o0 : Opens P w f0.type S0) (o1 : Opens P w f1.type S1) : Opens P w t fun ds => ∃ a b, ds = a ++ b ∧ S0 a ∧ S1 b := by
  intro H enc fuel cs x h
  obtain ⟨xs, m, _, _, hl, hx, hf⟩ := DataW.trod_struct ht h
  have hx2 : xs.length = 2 := hx
  have e0 := hf 0 f0 rfl
  have e1 := hf 1 f1 rfl
  rw [List.getElem?_eq_getElem (by omega)] at e0 e1
  obtain ⟨a, F, r0, s0⟩ := o0 H enc m _ _ e0
  obtain ⟨b, G, r1, s1⟩ := o1 H enc m _ _ e1
  refine ⟨a ++ b, F ++ G, ?_, a, b, rfl, s0, s1⟩
  have := r0.append r1
  rw [h0, h1, List.drop_zero, List.take_of_length_le (l := cs.drop _) (by rw [List.length_drop]; omega), List.take_append_drop] at this
  exact this
end
end Go.Own

/-
  The common part of the laws' proofs: the parameters' types opened as data; what a contract's post says of a law that returns true. Conditions: as each theorem states them.
-/
namespace Go.Own
open Go Go.Proofs Go.WideShapes
set_option linter.unusedVariables false

theorem okWide_agg {P : Program} {w : World} {r : Reach} {base : Nat} {t : TypeId} {v : Value} {fs : Array Field} (ht : P.underlying t = some (.struct fs)) (h : Value.okWide P w r base t v) : ∃ cs, v = .agg cs := by
  simp only [Value.okWide, ht] at h
  obtain ⟨cs, h, _⟩ := h
  exact ⟨cs, h⟩

theorem shapeI {l : List (List D)} (h : ∀ d ∈ l, ∃ n : Int, d = [.v (.int .i64 n)]) : l = iL (unI l) := by
  induction l with
  | nil => rfl
  | cons d l ih =>
    obtain ⟨n, rfl⟩ := h d (by simp)
    have := ih fun d hd => h d (by simp [hd])
    simp only [iL, unI, List.map_cons] at this ⊢
    rw [← this]

theorem shapeS {l : List (List D)} (h : ∀ d ∈ l, ∃ r : List (List D), d = [.sl 1 r] ∧ r = iL (unI r)) : l = sL (unS l) := by
  induction l with
  | nil => rfl
  | cons d l ih =>
    obtain ⟨r, rfl, hr⟩ := h d (by simp)
    have := ih fun d hd => h d (by simp [hd])
    simp only [sL, unS, List.map_cons] at this ⊢
    rw [← this, ← hr]

def ShI (ds : List D) : Prop := ∃ n : Int, ds = [.v (.int .i64 n)] ∧ IntKind.min .i64 ≤ n ∧ n ≤ IntKind.max .i64
def ShIS (ds : List D) : Prop := ∃ l : List (List D), ds = [.sl 1 l] ∧ WfI l
def ShISS (ds : List D) : Prop := ∃ l : List (List D), ds = [.sl 1 l] ∧ WfS l
def ShT (ds : List D) : Prop := ∃ (c : Int) (l : List (List D)), ds = [.v (.int .i64 c), .sl 1 l] ∧ WfS l ∧ -9223372036854775808 ≤ c ∧ c ≤ 9223372036854775807

theorem Opens.mono {P : Program} {w : World} {t : TypeId} {S S' : List D → Prop} (o : Opens P w t S) (h : ∀ ds, S ds → S' ds) : Opens P w t S' := fun H enc fuel cs x hx => by
  obtain ⟨ds, F, r, hs⟩ := o H enc fuel cs x hx
  exact ⟨ds, F, r, h ds hs⟩

theorem oI (w : World) : Opens Try.prog w 3 ShI := (opens_int Try.underlying3).mono fun ds h => h
theorem oIS (w : World) : Opens Try.prog w 25 ShIS := (opens_slice (n := 1) Try.underlying25 (by kernel_rfl) (by decide) (oI w)).mono fun _ h => by
  obtain ⟨l, rfl, h1, h2⟩ := h
  refine ⟨l, rfl, shapeI fun d hd => ?_, h1⟩
  obtain ⟨_, n, rfl, _⟩ := h2 d hd
  exact ⟨n, rfl⟩
theorem oISS (w : World) : Opens Try.prog w 22 ShISS := (opens_slice (n := 1) Try.underlying22 (by kernel_rfl) (by decide) (oIS w)).mono fun _ h => by
  obtain ⟨l, rfl, h1, h2⟩ := h
  have e : l = sL (unS l) := shapeS fun d hd => by
    obtain ⟨_, r, rfl, hr⟩ := h2 d hd
    exact ⟨r, rfl, hr.1⟩
  refine ⟨l, rfl, e, h1, fun r hr => ?_⟩
  have : [D.sl 1 (iL r)] ∈ l := by rw [e]; exact List.mem_map.2 ⟨r, hr, rfl⟩
  obtain ⟨_, r', hr', hw⟩ := h2 _ this
  simp only [List.cons.injEq, D.sl.injEq, true_and, and_true] at hr'
  subst hr'
  exact wfI_iL.1 hw
theorem oT (w : World) : Opens Try.prog w 24 ShT := (opens_two Try.underlying24 rfl (by kernel_rfl) (by kernel_rfl) (oI w) (oISS w)).mono fun _ h => by
  obtain ⟨a, b, rfl, ⟨n, rfl, h1, h2⟩, l, rfl, hl⟩ := h
  exact ⟨n, l, rfl, hl, h1, h2⟩

def ShX (ds : List D) : Prop := ∃ a b : Int, ds = [.v (.int .i64 a), .v (.int .i64 b)] ∧ (-9223372036854775808 ≤ a ∧ a ≤ 9223372036854775807) ∧ -9223372036854775808 ≤ b ∧ b ≤ 9223372036854775807
/-- A struct of three parts. -/
theorem opens_three {P : Program} {w : World} {t : TypeId} {f0 f1 f2 : Field} {S0 S1 S2 : List D → Prop} (ht : P.underlying t = some (.struct #[f0, f1, f2])) (h0 : f0.offset = 0) (h1 : f1.offset = P.cellsOf f0.type) (h2 : f2.offset = P.cellsOf f0.type + P.cellsOf f1.type) (hc : P.cellsOf t = P.cellsOf f0.type + P.cellsOf f1.type + P.cellsOf f2.type)
    (o0 : Opens P w f0.type S0) (o1 : Opens P w f1.type S1) (o2 : Opens P w f2.type S2) : Opens P w t fun ds => ∃ a b c, ds = a ++ (b ++ c) ∧ S0 a ∧ S1 b ∧ S2 c := by
  intro H enc fuel cs x h
  obtain ⟨xs, m, _, _, hl, hx, hf⟩ := DataW.trod_struct ht h
  have hx2 : xs.length = 3 := hx
  have e0 := hf 0 f0 rfl
  have e1 := hf 1 f1 rfl
  have e2 := hf 2 f2 rfl
  rw [List.getElem?_eq_getElem (by omega)] at e0 e1 e2
  obtain ⟨a, F, r0, s0⟩ := o0 H enc m _ _ e0
  obtain ⟨b, G, r1, s1⟩ := o1 H enc m _ _ e1
  obtain ⟨c, K, r2, s2⟩ := o2 H enc m _ _ e2
  refine ⟨a ++ (b ++ c), F ++ (G ++ K), ?_, a, b, c, rfl, s0, s1, s2⟩
  have := r0.append (r1.append r2)
  rw [h0, h1, h2, List.drop_zero] at this
  have k1 : (cs.drop (P.cellsOf f0.type + P.cellsOf f1.type)).take (P.cellsOf f2.type) = cs.drop (P.cellsOf f0.type + P.cellsOf f1.type) := List.take_of_length_le (by rw [List.length_drop]; omega)
  have k2 : (cs.drop (P.cellsOf f0.type)).take (P.cellsOf f1.type) ++ cs.drop (P.cellsOf f0.type + P.cellsOf f1.type) = cs.drop (P.cellsOf f0.type) := by
    rw [← List.drop_drop, List.take_append_drop]
  rw [k1, k2, List.take_append_drop] at this
  exact this

def ShP (ds : List D) : Prop := ∃ a b c d : Int, ds = [.v (.int .i64 a), .v (.int .i64 b), .v (.int .i64 c), .v (.int .i64 d)] ∧ True
theorem ret_true {h : Heap} {v : Value} {F : List Nat} {os : List (List Nat)} (r : RetsOK h [⟨false, [.d (.v (.bool true))]⟩] v F os) : v = .bool true := by
  have r' : RCsOK h [.d (.v (.bool true))] [v] F os := r
  cases r' with
  | d h1 _ => cases h1 with | v _ _ => rfl

theorem below_of_post {alias : Bool} {w w' : World} {F : List Nat} {mv : List Value} {rs : List RV} {ms : List Arg} {v : Value} (po : PostOK alias w w' F [] mv rs ms v) : Go.RowKit.Below w.heap.size w w' :=
  ⟨po.os, po.tape, po.output, po.grow, fun k hk => po.old k hk (by simp)⟩

/-- An argument out of its reading. -/
theorem argOf_trod {P : Program} {w : World} {t : TypeId} {S : List D → Prop} (o : Opens P w t S) {H : Type} {enc : TypeId × Value → H} {v : Value} {d0 : DataW H} {p0 : List MemPlace}
    (h : DataW.Trod enc P w 0 (fun _ => true) true t v d0 p0) : ∃ ds F, Reps w.heap ds v.cells.toList F ∧ S ds := by
  obtain ⟨fuel, hf⟩ := h
  exact o H enc fuel _ _ hf

theorem argOK_agg {h : Heap} {ds : List D} {cs : Array Value} {F : List Nat} (r : Reps h ds (Value.agg cs).cells.toList F) : ArgOK h (.agg ds) (.agg cs) F [] := by
  have h3 := ArgOK.agg r
  have e : (Value.agg cs).cells.toList.toArray = cs := by simp [Value.cells]
  rwa [e] at h3
theorem argOK_slice {h : Heap} {d : D} {a : Option Addr} {n c : Nat} {F : List Nat} (r : Reps h [d] (Value.slice a n c).cells.toList F) : ArgOK h (.one d) (.slice a n c) F [] := ArgOK.one r

theorem int_bounds {w : World} {n : Int} {H : Type} {enc : TypeId × Value → H} {d0 : DataW H} {p0 : List MemPlace} (h : DataW.Trod enc Try.prog w 0 (fun _ => true) true 3 (.int .i64 n) d0 p0) : IntKind.min .i64 ≤ n ∧ n ≤ IntKind.max .i64 := by
  obtain ⟨ds, F, r, m, rfl, hm⟩ := argOf_trod (oI w) h
  have r' : Reps w.heap [.v (.int .i64 m)] [.int .i64 n] F := r
  cases r' with
  | v _ _ => exact hm

end Go.Own

/-
  Lists of dependencies and monitors, opened as data. Conditions: none.
-/
namespace Go.Own
open Go Go.Proofs Go.WideShapes
set_option linter.unusedVariables false

theorem shapeD {l : List (List D)} (h : ∀ d ∈ l, ∃ a b : Int, d = [.v (.int .i64 a), .v (.int .i64 b)]) : l = dL (unD l) := by
  induction l with
  | nil => rfl
  | cons d l ih =>
    obtain ⟨a, b, rfl⟩ := h d (by simp)
    have := ih fun d hd => h d (by simp [hd])
    simp only [dL, unD, List.map_cons] at this ⊢
    rw [← this]

def ShDS (ds : List D) : Prop := ∃ l : List (List D), ds = [.sl 2 l] ∧ WfD l
def ShM (ds : List D) : Prop := ∃ (c : Int) (l : List (List D)) (m : Int) (q : List (List D)), ds = [.v (.int .i64 c), .sl 1 l, .v (.int .i64 m), .sl 2 q] ∧ WfS l ∧ WfD q
end Go.Own

/-
  Monitors, opened as data, with the bounds of their number of columns. Conditions: none.
-/
namespace Go.Own
open Go Go.Proofs Go.WideShapes
set_option linter.unusedVariables false

def ShN (ds : List D) : Prop := ∃ (c : Int) (l : List (List D)) (m : Int) (q : List (List D)), ds = [.v (.int .i64 c), .sl 1 l, .v (.int .i64 m), .sl 2 q] ∧ WfS l ∧ WfD q ∧ -9223372036854775808 ≤ c ∧ c ≤ 9223372036854775807
end Go.Own
