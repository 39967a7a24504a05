import Derived.Test.YtgfbdbiebfhphaaOwnF5
namespace Go.Own
open Go Go.Proofs
set_option linter.unusedSimpArgs false
set_option linter.unusedVariables false
set_option maxRecDepth 20000
set_option maxHeartbeats 2000000

attribute [local go_sem] unD_dL dL_length dL_get dL_set dL_inj wfD_dL scal2 beq2 pair_eta

/-! The chase. -/
def cChase : Contract := ⟨[], false, fun
  | [.one (.v (.int .i64 n)), .one (.sl 2 l), .one (.sl 1 p)] => some (WfD l ∧ WfI p ∧ -9223372036854775808 ≤ n ∧ n ≤ 9223372036854775807,
      [⟨false, [.own 1 (sL (chF n (unD l) (unI p))) 1]⟩], [])
  | _ => none⟩

theorem small_rows {rs : List (List Int)} (h : ∀ r ∈ rs, r.length ≤ 5) : (∀ r ∈ rs, r.length ≤ maxLen) ∧ ∀ r ∈ rs, r.length ≤ 16777216 := ⟨fun r hr => Nat.le_trans (h r hr) (by decide), fun r hr => Nat.le_trans (h r hr) (by decide)⟩
theorem csOut_small {n : Int} {ds : List (Int × Int)} {rs y : List (List Int)} (hs : csStep n ds rs = some y) (h1 : rs.length ≤ 10) (h2 : ∀ r ∈ rs, r.length ≤ 5) : csOut n ds rs = y ∧ y.length ≤ 10 ∧ ∀ r ∈ y, r.length ≤ 5 := by
  have e : csOut n ds rs = y := by unfold csOut; rw [hs]; rfl
  obtain ⟨p1, p2, p3⟩ := lens_facts (e ▸ @csOut_lens n ds rs)
  exact ⟨e, by omega, p3 _ h2⟩

/-! Lossless. -/
def zeroR (n : Nat) : List Int := List.replicate n 0
def loB (n : Int) (ds : List (Int × Int)) (ps : List Int) : Bool := depsOK n ds && partsOK n ps && (chF n ds ps).any (fun r => r == zeroR n.toNat)
theorem repI {n : Nat} : List.replicate n [D.v (.int .i64 0)] = iL (zeroR n) := by simp [iL, zeroR]
theorem zeroR_length {n : Nat} : (zeroR n).length = n := by simp [zeroR]
theorem any_drop {α : Type} {xs : List α} {i : Nat} (h : i < xs.length) (d : α) (f : α → Bool) : (xs.drop i).any f = (f (xs.getD i d) || (xs.drop (i + 1)).any f) := by rw [drop_getD h d, List.any_cons]
def cLo : Contract := ⟨[], false, fun
  | [.one (.v (.int .i64 n)), .one (.sl 2 l), .one (.sl 1 p)] => some (WfD l ∧ WfI p ∧ -9223372036854775808 ≤ n ∧ n ≤ 9223372036854775807,
      [⟨false, [.d (.v (.bool (loB n (unD l) (unI p))))]⟩], [])
  | _ => none⟩

/-! The table that is lost. -/
def ltB (n : Int) (ds : List (Int × Int)) (ps : List Int) : Bool := depsOK n ds && partsOK n ps && !loB n ds ps
def ltC (n : Int) (ds : List (Int × Int)) (ps : List Int) : Int := if ltB n ds ps then n else 0
def ltR (n : Int) (ds : List (Int × Int)) (ps : List Int) : List (List Int) := if ltB n ds ps then chF n ds ps else []
def cLt : Contract := ⟨[], false, fun
  | [.one (.v (.int .i64 n)), .one (.sl 2 l), .one (.sl 1 p)] => some (WfD l ∧ WfI p ∧ -9223372036854775808 ≤ n ∧ n ≤ 9223372036854775807,
      [⟨true, [.d (.v (.int .i64 (ltC n (unD l) (unI p)))), .own 1 (sL (ltR n (unD l) (unI p))) 1]⟩, ⟨false, [.d (.v (.bool (ltB n (unD l) (unI p))))]⟩], [])
  | _ => none⟩
end Go.Own
