import Derived.Test.YtnjijpgnfjghfaaGreatOwnG11
import Derived.Test.YtnjijpgnfjghfaaGreatOwnF4
namespace Go.Own
open Go Go.Proofs
set_option linter.unusedSimpArgs false
set_option linter.unusedVariables false
set_option maxRecDepth 20000
set_option maxHeartbeats 2000000

attribute [local go_sem] unD_dL dL_length dL_get dL_set dL_inj wfD_dL scal2 beq2 pair_eta

theorem find_drop {α : Type} {xs : List α} {i : Nat} (h : i < xs.length) (d : α) (f : α → Bool) : (xs.drop i).find? f = if f (xs.getD i d) = true then some (xs.getD i d) else (xs.drop (i + 1)).find? f := by
  rw [drop_getD h d, List.find?_cons]
  cases f (xs.getD i d) <;> simp
theorem and_key2 : ∀ l x : Fin 32, (bitI .and .i64 ((x.val : Nat) : Int) ((l.val : Nat) : Int) != ((l.val : Nat) : Int)) = !insB ((l.val : Nat) : Int) ((x.val : Nat) : Int) := by decide +kernel
theorem and_ins2 {l x : Int} (hl : R5 l) (hx : R5 x) : (bitI .and .i64 x l != l) = !insB l x := by
  obtain ⟨l, rfl⟩ := hl.fin; obtain ⟨x, rfl⟩ := hx.fin
  exact and_key2 l x
theorem hasB_zero {c : Int} (h : 0 ≤ c ∧ c ≤ 4) : hasB 0 c = false := by
  obtain ⟨c, rfl⟩ := c5 h
  have : ∀ c : Fin 5, hasB 0 ((c.val : Nat) : Int) = false := by decide +kernel
  exact this c
end Go.Own
