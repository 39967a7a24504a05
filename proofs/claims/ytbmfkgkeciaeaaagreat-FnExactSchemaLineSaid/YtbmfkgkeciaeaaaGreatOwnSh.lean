/-
  The common part of the laws' proofs: the parameters' types opened as data; what a contract's post says of a law that returns true. Conditions: as each theorem states them.
-/
import Derived.Test.YtbmfkgkeciaeaaaGreatOwnZ5
import Derived.Test.YtbmfkgkeciaeaaaGreatOwnW
import Derived.Test.YtbmfkgkeciaeaaaGreatRows
import Derived.WalkKit
import Derived.ProofKit
import Derived.OpenShut
import Derived.ShutString
import Derived.ChangeOld
import Derived.Below
namespace Go.Own
open Go Go.Proofs Go.WideShapes
set_option linter.unusedVariables false

theorem okWide_agg {P : Program} {w : World} {r : Reach} {base : Nat} {t : TypeId} {v : Value} {fs : Array Field} (ht : P.underlying t = some (.struct fs)) (h : Value.okWide P w r base t v) : ∃ cs, v = .agg cs := by
  simp only [Value.okWide, ht] at h
  obtain ⟨cs, h, _⟩ := h
  exact ⟨cs, h⟩

theorem shapeI {l : List (List D)} (h : ∀ d ∈ l, ∃ n : Int, d = [.v (.int .i64 n)]) : l = iL (unI l) := by
  induction l with
  | nil => rfl
  | cons d l ih =>
    obtain ⟨n, rfl⟩ := h d (by simp)
    have := ih fun d hd => h d (by simp [hd])
    simp only [iL, unI, List.map_cons] at this ⊢
    rw [← this]

theorem shapeS {l : List (List D)} (h : ∀ d ∈ l, ∃ r : List (List D), d = [.sl 1 r] ∧ r = iL (unI r)) : l = sL (unS l) := by
  induction l with
  | nil => rfl
  | cons d l ih =>
    obtain ⟨r, rfl, hr⟩ := h d (by simp)
    have := ih fun d hd => h d (by simp [hd])
    simp only [sL, unS, List.map_cons] at this ⊢
    rw [← this, ← hr]

def ShI (ds : List D) : Prop := ∃ n : Int, ds = [.v (.int .i64 n)] ∧ IntKind.min .i64 ≤ n ∧ n ≤ IntKind.max .i64
def ShIS (ds : List D) : Prop := ∃ l : List (List D), ds = [.sl 1 l] ∧ WfI l
def ShISS (ds : List D) : Prop := ∃ l : List (List D), ds = [.sl 1 l] ∧ WfS l
def ShT (ds : List D) : Prop := ∃ (c : Int) (l : List (List D)), ds = [.v (.int .i64 c), .sl 1 l] ∧ WfS l ∧ -9223372036854775808 ≤ c ∧ c ≤ 9223372036854775807

theorem Opens.mono {P : Program} {w : World} {t : TypeId} {S S' : List D → Prop} (o : Opens P w t S) (h : ∀ ds, S ds → S' ds) : Opens P w t S' := fun H enc fuel cs x hx => by
  obtain ⟨ds, F, r, hs⟩ := o H enc fuel cs x hx
  exact ⟨ds, F, r, h ds hs⟩

theorem oI (w : World) : Opens Tryz.prog w 3 ShI := (opens_int Tryz.underlying3).mono fun ds h => h
theorem oIS (w : World) : Opens Tryz.prog w 28 ShIS := (opens_slice (n := 1) Tryz.underlying28 (by kernel_rfl) (by decide) (oI w)).mono fun _ h => by
  obtain ⟨l, rfl, h1, h2⟩ := h
  refine ⟨l, rfl, shapeI fun d hd => ?_, h1⟩
  obtain ⟨_, n, rfl, _⟩ := h2 d hd
  exact ⟨n, rfl⟩
theorem oISS (w : World) : Opens Tryz.prog w 22 ShISS := (opens_slice (n := 1) Tryz.underlying22 (by kernel_rfl) (by decide) (oIS w)).mono fun _ h => by
  obtain ⟨l, rfl, h1, h2⟩ := h
  have e : l = sL (unS l) := shapeS fun d hd => by
    obtain ⟨_, r, rfl, hr⟩ := h2 d hd
    exact ⟨r, rfl, hr.1⟩
  refine ⟨l, rfl, e, h1, fun r hr => ?_⟩
  have : [D.sl 1 (iL r)] ∈ l := by rw [e]; exact List.mem_map.2 ⟨r, hr, rfl⟩
  obtain ⟨_, r', hr', hw⟩ := h2 _ this
  simp only [List.cons.injEq, D.sl.injEq, true_and, and_true] at hr'
  subst hr'
  exact wfI_iL.1 hw
theorem oT (w : World) : Opens Tryz.prog w 24 ShT := (opens_two Tryz.underlying24 rfl (by kernel_rfl) (by kernel_rfl) (oI w) (oISS w)).mono fun _ h => by
  obtain ⟨a, b, rfl, ⟨n, rfl, h1, h2⟩, l, rfl, hl⟩ := h
  exact ⟨n, l, rfl, hl, h1, h2⟩

def ShX (ds : List D) : Prop := ∃ a b : Int, ds = [.v (.int .i64 a), .v (.int .i64 b)] ∧ (-9223372036854775808 ≤ a ∧ a ≤ 9223372036854775807) ∧ -9223372036854775808 ≤ b ∧ b ≤ 9223372036854775807
/-- A struct of three parts. -/
theorem opens_three {P : Program} {w : World} {t : TypeId} {f0 f1 f2 : Field} {S0 S1 S2 : List D → Prop} (ht : P.underlying t = some (.struct #[f0, f1, f2])) (h0 : f0.offset = 0) (h1 : f1.offset = P.cellsOf f0.type) (h2 : f2.offset = P.cellsOf f0.type + P.cellsOf f1.type) (hc : P.cellsOf t = P.cellsOf f0.type + P.cellsOf f1.type + P.cellsOf f2.type)
    (o0 : Opens P w f0.type S0) (o1 : Opens P w f1.type S1) (o2 : Opens P w f2.type S2) : Opens P w t fun ds => ∃ a b c, ds = a ++ (b ++ c) ∧ S0 a ∧ S1 b ∧ S2 c := by
  intro H enc fuel cs x h
  obtain ⟨xs, m, _, _, hl, hx, hf⟩ := DataW.trod_struct ht h
  have hx2 : xs.length = 3 := hx
  have e0 := hf 0 f0 rfl
  have e1 := hf 1 f1 rfl
  have e2 := hf 2 f2 rfl
  rw [List.getElem?_eq_getElem (by omega)] at e0 e1 e2
  obtain ⟨a, F, r0, s0⟩ := o0 H enc m _ _ e0
  obtain ⟨b, G, r1, s1⟩ := o1 H enc m _ _ e1
  obtain ⟨c, K, r2, s2⟩ := o2 H enc m _ _ e2
  refine ⟨a ++ (b ++ c), F ++ (G ++ K), ?_, a, b, c, rfl, s0, s1, s2⟩
  have := r0.append (r1.append r2)
  rw [h0, h1, h2, List.drop_zero] at this
  have k1 : (cs.drop (P.cellsOf f0.type + P.cellsOf f1.type)).take (P.cellsOf f2.type) = cs.drop (P.cellsOf f0.type + P.cellsOf f1.type) := List.take_of_length_le (by rw [List.length_drop]; omega)
  have k2 : (cs.drop (P.cellsOf f0.type)).take (P.cellsOf f1.type) ++ cs.drop (P.cellsOf f0.type + P.cellsOf f1.type) = cs.drop (P.cellsOf f0.type) := by
    rw [← List.drop_drop, List.take_append_drop]
  rw [k1, k2, List.take_append_drop] at this
  exact this

def ShP (ds : List D) : Prop := ∃ a b c d : Int, ds = [.v (.int .i64 a), .v (.int .i64 b), .v (.int .i64 c), .v (.int .i64 d)] ∧ True
theorem oD (w : World) : Opens Tryz.prog w 72 ShX := (opens_two Tryz.underlying72 rfl (by kernel_rfl) (by kernel_rfl) (oI w) (oI w)).mono fun _ h => by
  obtain ⟨a, b, rfl, ⟨n, rfl, h1⟩, m, rfl, h2⟩ := h
  exact ⟨n, m, rfl, h1, h2⟩
theorem ret_true {h : Heap} {v : Value} {F : List Nat} {os : List (List Nat)} (r : RetsOK h [⟨false, [.d (.v (.bool true))]⟩] v F os) : v = .bool true := by
  have r' : RCsOK h [.d (.v (.bool true))] [v] F os := r
  cases r' with
  | d h1 _ => cases h1 with | v _ _ => rfl

theorem below_of_post {alias : Bool} {w w' : World} {F : List Nat} {mv : List Value} {rs : List RV} {ms : List Arg} {v : Value} (po : PostOK alias w w' F [] mv rs ms v) : Go.RowKit.Below w.heap.size w w' :=
  ⟨po.os, po.tape, po.output, po.grow, fun k hk => po.old k hk (by simp)⟩

/-- An argument out of its reading. -/
theorem argOf_trod {P : Program} {w : World} {t : TypeId} {S : List D → Prop} (o : Opens P w t S) {H : Type} {enc : TypeId × Value → H} {v : Value} {d0 : DataW H} {p0 : List MemPlace}
    (h : DataW.Trod enc P w 0 (fun _ => true) true t v d0 p0) : ∃ ds F, Reps w.heap ds v.cells.toList F ∧ S ds := by
  obtain ⟨fuel, hf⟩ := h
  exact o H enc fuel _ _ hf

theorem argOK_agg {h : Heap} {ds : List D} {cs : Array Value} {F : List Nat} (r : Reps h ds (Value.agg cs).cells.toList F) : ArgOK h (.agg ds) (.agg cs) F [] := by
  have h3 := ArgOK.agg r
  have e : (Value.agg cs).cells.toList.toArray = cs := by simp [Value.cells]
  rwa [e] at h3
theorem argOK_slice {h : Heap} {d : D} {a : Option Addr} {n c : Nat} {F : List Nat} (r : Reps h [d] (Value.slice a n c).cells.toList F) : ArgOK h (.one d) (.slice a n c) F [] := ArgOK.one r

theorem int_bounds {w : World} {n : Int} {H : Type} {enc : TypeId × Value → H} {d0 : DataW H} {p0 : List MemPlace} (h : DataW.Trod enc Tryz.prog w 0 (fun _ => true) true 3 (.int .i64 n) d0 p0) : IntKind.min .i64 ≤ n ∧ n ≤ IntKind.max .i64 := by
  obtain ⟨ds, F, r, m, rfl, hm⟩ := argOf_trod (oI w) h
  have r' : Reps w.heap [.v (.int .i64 m)] [.int .i64 n] F := r
  cases r' with
  | v _ _ => exact hm

end Go.Own
