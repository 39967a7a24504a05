/- Own contracts. Conditions: as each theorem states them. -/
import Derived.Test.YtjembhkhgahhiaaGreatOwnG8
import Derived.Test.YtjembhkhgahhiaaGreatOwnSo
import Derived.Test.YtjembhkhgahhiaaGreatOwnSort
import Derived.WalkKit
import Derived.Test.YtjembhkhgahhiaaGreatOwnG9
set_option linter.unusedSimpArgs false
set_option linter.unusedVariables false
set_option maxRecDepth 20000
set_option maxHeartbeats 2000000
namespace Go.Own
open Go Go.Proofs Go.RowKit Go.Sort Go.Shelf
theorem oc64 (x : Fin 32) (W : World) : Calls Tryz.prog 196 #[.int .u64 x.val] W fun e w' => e = .returned (.int .i64 (cnt x.val)) ∧ w' = W := by
 go_enter Tryz.func196, Tryz.ntmps196
 go_wp2
 go_ret
 refine ⟨?_, rfl⟩
 refine congrArg (fun z => Ending.returned (Value.int .i64 z)) ?_
 revert x
 decide +kernel
theorem oc (x : Fin 32) (W : World) : Calls Tryz.prog 185 #[.int .u64 x.val] W fun e w' => e = .returned (.int .i64 (cnt x.val)) ∧ w' = W := by
 have hcon := oc64 x W
 generalize cnt x.val = r at hcon ⊢
 go_enter Tryz.func185, Tryz.ntmps185
 go_wp2_with (go_at_call 196; refine hcon.mono ?_; rintro e w' ⟨rfl, rfl⟩)
 go_ret
 exact ⟨rfl, rfl⟩
def rng (M : Nat) : List Int := (List.range M).map fun (x : Nat) => (x : Int)
theorem rng_succ {M : Nat} : rng (M + 1) = rng M ++ [(M : Int)] := by simp [rng, List.range_succ]
theorem rng_length {M : Nat} : (rng M).length = M := by simp [rng]
end Go.Own
namespace Go.Own
open Go Go.Proofs
attribute [local go_sem] unD_dL dL_length dL_get dL_set dL_inj wfD_dL scal2 beq2 pair_eta
end Go.Own
namespace Go.Own
open Go Go.Proofs
theorem dL_scal {xs : List (Int × Int)} : (∀ e ∈ dL xs, ∀ x ∈ e, Scalar x) ↔ True := by
 refine ⟨fun _ => trivial, fun _ e he x hx => ?_⟩
 obtain ⟨n, _, rfl⟩ := List.mem_map.1 he
 simp at hx
 rcases hx with rfl | rfl <;> trivial
attribute [local go_sem] unD_dL dL_length dL_get dL_set dL_inj wfD_dL scal2 beq2 pair_eta dL_scal
def delB (x c : Int) : Int := bitI .andNot .i64 x (1 * 2 ^ c.toNat)
theorem del_key : ∀ x : Fin 32, ∀ c : Fin 5, (0 ≤ delB ((x.val : Nat) : Int) ((c.val : Nat) : Int) ∧ delB ((x.val : Nat) : Int) ((c.val : Nat) : Int) ≤ ((x.val : Nat) : Int)) ∧ ((delB ((x.val : Nat) : Int) ((c.val : Nat) : Int) != ((x.val : Nat) : Int)) = hasB ((x.val : Nat) : Int) ((c.val : Nat) : Int)) ∧
  ∀ e : Fin 5, hasB (delB ((x.val : Nat) : Int) ((c.val : Nat) : Int)) ((e.val : Nat) : Int) = (hasB ((x.val : Nat) : Int) ((e.val : Nat) : Int) && !(e == c)) := by decide +kernel
theorem del_le {x c : Int} (hx : R5 x) (hc : 0 ≤ c ∧ c ≤ 4) : 0 ≤ delB x c ∧ delB x c ≤ x := by
 obtain ⟨x, rfl⟩ := hx.fin; obtain ⟨c, rfl⟩ := c5 hc
 exact (del_key x c).1
theorem del_R {x c : Int} (hx : R5 x) (hc : 0 ≤ c ∧ c ≤ 4) : R5 (delB x c) := by
 have := del_le hx hc
 have h2 : 0 ≤ x ∧ x ≤ 31 := hx
 exact ⟨by omega, by omega⟩
theorem del_ne {x c : Int} (hx : R5 x) (hc : 0 ≤ c ∧ c ≤ 4) : (delB x c != x) = hasB x c := by
 obtain ⟨x, rfl⟩ := hx.fin; obtain ⟨c, rfl⟩ := c5 hc
 exact (del_key x c).2.1
theorem del_has {x c e : Int} (hx : R5 x) (hc : 0 ≤ c ∧ c ≤ 4) (he : 0 ≤ e ∧ e ≤ 4) : hasB (delB x c) e = (hasB x e && !(e == c)) := by
 obtain ⟨x, rfl⟩ := hx.fin; obtain ⟨c, rfl⟩ := c5 hc; obtain ⟨e, rfl⟩ := c5 he
 rw [(del_key x c).2.2 e]
 congr 2
 rw [Bool.eq_iff_iff, beq_iff_eq, beq_iff_eq]
 omega
theorem dL_take {ds : List (Int × Int)} {i : Nat} : (dL ds).take i = dL (ds.take i) := by simp [dL, List.map_take]
theorem dL_drop {ds : List (Int × Int)} {i : Nat} : (dL ds).drop i = dL (ds.drop i) := by simp [dL, List.map_drop]
theorem dL_app {xs ys : List (Int × Int)} : dL xs ++ dL ys = dL (xs ++ ys) := by simp [dL]
theorem ins_le_key : ∀ x s : Fin 32, insB ((x.val : Nat) : Int) ((s.val : Nat) : Int) = true → x.val ≤ s.val := by decide +kernel
theorem ins_le {x s : Int} (hx : R5 x) (hs : R5 s) (h : insB x s = true) : x ≤ s := by
 obtain ⟨x, rfl⟩ := hx.fin; obtain ⟨s, rfl⟩ := hs.fin
 have := ins_le_key x s h
 omega
theorem all_take {α : Type} {xs : List α} {i : Nat} (h : i < xs.length) (d : α) (f : α → Bool) : (xs.take (i + 1)).all f = ((xs.take i).all f && f (xs.getD i d)) := by rw [take_succ_getD h d, List.all_append]; simp
theorem filter_take {xs : List Int} {i : Nat} (h : i < xs.length) (f : Int → Bool) : (xs.take (i + 1)).filter f = (xs.take i).filter f ++ (if f (xs.getD i 0) then [xs.getD i 0] else []) := by
 rw [take_succ_getD h 0, List.filter_append, List.filter_cons, List.filter_nil]
end Go.Own
