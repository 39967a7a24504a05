/- Own contracts. Conditions: as each theorem states them. -/
import Derived.Test.YthopcpiecbofcaaGreatOwnE2
import Derived.Test.YthopcpiecbofcaaGreatOwnY1
set_option linter.unusedSimpArgs false
set_option linter.unusedVariables false
set_option maxRecDepth 20000
set_option maxHeartbeats 2000000
namespace Go.Own
open Go Go.Proofs
def R5 (x : Int) : Prop := 0 ≤ x ∧ x ≤ 31
def insB (l x : Int) : Bool := bitI .andNot .i64 l x == 0
def addB (x r : Int) : Int := bitI .or .i64 x (1 * 2 ^ r.toNat)
def leB (x y : Int) : Prop := ∀ c : Fin 5, hasB x (c.val : Nat) = true → hasB y (c.val : Nat) = true
theorem add_key : ∀ x : Fin 32, ∀ r : Fin 5, (0 ≤ addB ((x.val : Nat) : Int) ((r.val : Nat) : Int) ∧ addB ((x.val : Nat) : Int) ((r.val : Nat) : Int) ≤ 31) ∧ ∀ c : Fin 5, hasB (addB ((x.val : Nat) : Int) ((r.val : Nat) : Int)) ((c.val : Nat) : Int) = (hasB ((x.val : Nat) : Int) ((c.val : Nat) : Int) || c == r) := by decide +kernel
theorem R5.fin {x : Int} (h : R5 x) : ∃ q : Fin 32, x = ((q.val : Nat) : Int) := by
 have h1 : 0 ≤ x := h.1
 have h2 : x ≤ 31 := h.2
 exact ⟨⟨x.toNat, by omega⟩, by show x = ((x.toNat : Nat) : Int); omega⟩
theorem c5 {r : Int} (h : 0 ≤ r ∧ r ≤ 4) : ∃ q : Fin 5, r = ((q.val : Nat) : Int) := ⟨⟨r.toNat, by omega⟩, by show r = ((r.toNat : Nat) : Int); omega⟩
theorem addB_R {x r : Int} (hx : R5 x) (hr : 0 ≤ r ∧ r ≤ 4) : R5 (addB x r) := by
 obtain ⟨x, rfl⟩ := hx.fin; obtain ⟨r, rfl⟩ := c5 hr
 exact (add_key x r).1
theorem addB_has {x : Int} {r : Fin 5} (hx : R5 x) (c : Fin 5) : hasB (addB x (r.val : Nat)) (c.val : Nat) = (hasB x (c.val : Nat) || c == r) := by
 obtain ⟨x, rfl⟩ := hx.fin
 exact (add_key x r).2 c
theorem ins_key : ∀ l x : Fin 32, insB ((l.val : Nat) : Int) ((x.val : Nat) : Int) = decide (∀ c : Fin 5, hasB ((l.val : Nat) : Int) (c.val : Nat) = true → hasB ((x.val : Nat) : Int) (c.val : Nat) = true) := by decide +kernel
theorem insB_iff {l x : Int} (hl : R5 l) (hx : R5 x) : insB l x = true ↔ leB l x := by
 obtain ⟨l, rfl⟩ := hl.fin; obtain ⟨x, rfl⟩ := hx.fin
 rw [ins_key, decide_eq_true_eq]; rfl
theorem ext_key : ∀ x y : Fin 32, (∀ c : Fin 5, hasB ((x.val : Nat) : Int) (c.val : Nat) = hasB ((y.val : Nat) : Int) (c.val : Nat)) → x = y := by decide +kernel
theorem leB_antisymm {x y : Int} (hx : R5 x) (hy : R5 y) (h1 : leB x y) (h2 : leB y x) : x = y := by
 obtain ⟨x, rfl⟩ := hx.fin; obtain ⟨y, rfl⟩ := hy.fin
 rw [ext_key x y fun c => by
  cases e : hasB ((x.val : Nat) : Int) (c.val : Nat) with
  | true => rw [h1 c e]
  | false => cases e2 : hasB ((y.val : Nat) : Int) (c.val : Nat) with
   | true => rw [h2 c e2] at e; cases e
   | false => rfl]
theorem leB.refl (x : Int) : leB x x := fun _ h => h
theorem leB.trans {x y z : Int} (h1 : leB x y) (h2 : leB y z) : leB x z := fun c h => h2 c (h1 c h)
theorem and_key : ∀ l x : Fin 32, (bitI .and .i64 ((l.val : Nat) : Int) ((x.val : Nat) : Int) == ((l.val : Nat) : Int)) = insB ((l.val : Nat) : Int) ((x.val : Nat) : Int) := by decide +kernel
theorem and_ins {l x : Int} (hl : R5 l) (hx : R5 x) : (bitI .and .i64 l x == l) = insB l x := by
 obtain ⟨l, rfl⟩ := hl.fin; obtain ⟨x, rfl⟩ := hx.fin
 exact and_key l x
def depR (d : Int × Int) : Prop := R5 d.1 ∧ 0 ≤ d.2 ∧ d.2 ≤ 4
end Go.Own
namespace Go.Own
open Go Go.Proofs
def d3L (xs : List (Int × Int × Int)) : List (List D) := xs.map fun q => [D.v (.int .i64 q.1), D.v (.int .i64 q.2.1), D.v (.int .i64 q.2.2)]
def un3 (l : List (List D)) : List (Int × Int × Int) := l.map fun
 | [.v (.int .i64 a), .v (.int .i64 b), .v (.int .i64 c)] => (a, b, c)
 | _ => (0, 0, 0)
theorem un3_d3L (xs : List (Int × Int × Int)) : un3 (d3L xs) = xs := by simp [un3, d3L, Function.comp_def]
theorem d3L_length (xs : List (Int × Int × Int)) : (d3L xs).length = xs.length := by simp [d3L]
theorem d3L_get {xs : List (Int × Int × Int)} {i : Nat} (h : i < xs.length) : (d3L xs).getD i [] = [D.v (.int .i64 (xs.getD i (0, 0, 0)).1), D.v (.int .i64 (xs.getD i (0, 0, 0)).2.1), D.v (.int .i64 (xs.getD i (0, 0, 0)).2.2)] := by
 simp [d3L, List.getD_eq_getElem?_getD, h]
theorem d3L_snoc {xs : List (Int × Int × Int)} {a b c : Int} : d3L xs ++ [[D.v (.int .i64 a), D.v (.int .i64 b), D.v (.int .i64 c)]] = d3L (xs ++ [(a, b, c)]) := by simp [d3L]
theorem scal3 {a b c : Value} : (∀ x ∈ [D.v a, D.v b, D.v c], Scalar x) ↔ True := by
 refine ⟨fun _ => trivial, fun _ x hx => ?_⟩
 simp only [List.mem_cons, List.not_mem_nil, or_false] at hx
 rcases hx with rfl | rfl | rfl <;> trivial
end Go.Own
