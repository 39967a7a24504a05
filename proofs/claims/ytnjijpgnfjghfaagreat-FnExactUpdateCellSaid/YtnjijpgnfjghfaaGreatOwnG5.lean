import Derived.Test.YtnjijpgnfjghfaaGreatOwnG4
import Derived.Test.YtnjijpgnfjghfaaGreatOwnG3
namespace Go.Own
open Go Go.Proofs
set_option linter.unusedSimpArgs false
set_option linter.unusedVariables false
set_option maxRecDepth 20000
set_option maxHeartbeats 2000000

attribute [local go_sem] unD_dL dL_length dL_get dL_set dL_inj wfD_dL scal2 beq2 pair_eta un3_d3L d3L_length d3L_get d3L_snoc scal3

/-! Derivations, walked. -/
def drL (n : Int) (ds : List (Int × Int)) (l r : Int) : List (Int × Int × Int) := if impB n ds l r then der ds r l else []
def cDer : Contract := ⟨[], false, fun
  | [.one (.v (.int .i64 n)), .one (.sl 2 l), .agg [.v (.int .i64 a), .v (.int .i64 b)]] => some (WfD l ∧ -9223372036854775808 ≤ n ∧ n ≤ 9223372036854775807,
      [⟨false, [.own 3 (d3L (drL n (unD l) a b)) 1]⟩, ⟨false, [.d (.v (.bool (impB n (unD l) a b)))]⟩], [])
  | _ => none⟩
def derI (ds : List (Int × Int)) (r : Int) (F : List (Int × Int × Int)) (i : Nat) (x : Int) (acc : List (Int × Int × Int)) : Prop := i ≤ ds.length ∧ R5 x ∧ (∀ j, j < i → appB x (ds.getD j (0, 0)) = false) ∧ acc ++ der ds r x = F
theorem derI_add {ds : List (Int × Int)} {r x : Int} {F acc : List (Int × Int × Int)} {i : Nat} (hd : ∀ d ∈ ds, depR d) (h : derI ds r F i x acc) (h5 : i < ds.length) (h0 : hasB x r = false) (ha : appB x (ds.getD i (0, 0)) = true) :
    derI ds r F 0 (addB x (ds.getD i (0, 0)).2) (acc ++ [((i : Int), x, addB x (ds.getD i (0, 0)).2)]) := by
  obtain ⟨h1, h2, h3, h4⟩ := h
  refine ⟨Nat.zero_le _, (appB_cnt hd h2 h5 ha).2, fun j hj => absurd hj (Nat.not_lt_zero _), ?_⟩
  rw [der_some hd h2 h0 (fstA_some h5 ha h3)] at h4
  rw [← h4]; simp
theorem derI_step {ds : List (Int × Int)} {r x : Int} {F acc : List (Int × Int × Int)} {i : Nat} (h : derI ds r F i x acc) (h5 : i < ds.length) (ha : appB x (ds.getD i (0, 0)) = false) : derI ds r F (i + 1) x acc := by
  obtain ⟨h1, h2, h3, h4⟩ := h
  refine ⟨h5, h2, fun j hj => ?_, h4⟩
  by_cases e : j = i
  · subst e; exact ha
  · exact h3 j (by omega)
theorem derI_has {ds : List (Int × Int)} {r x : Int} {F acc : List (Int × Int × Int)} {i : Nat} (h : derI ds r F i x acc) (h0 : hasB x r = true) : acc = F := by
  have := h.2.2.2
  rw [der_has h0, List.append_nil] at this; exact this
theorem derI_none {ds : List (Int × Int)} {r x : Int} {F acc : List (Int × Int × Int)} (h : derI ds r F ds.length x acc) : acc = F := by
  have := h.2.2.2
  rw [der_none (fstA_none h.2.2.1), List.append_nil] at this; exact this
theorem derI_len {ds : List (Int × Int)} {r x : Int} {F acc : List (Int × Int × Int)} {i : Nat} (h : derI ds r F i x acc) (hF : F.length ≤ 6) : acc.length ≤ 6 := by
  have := congrArg List.length h.2.2.2
  rw [List.length_append] at this
  omega
theorem der_len {ds : List (Int × Int)} {r x : Int} (hd : ∀ d ∈ ds, depR d) (hx : R5 x) : (der ds r x).length ≤ 6 := (derF_all hd hx).1

/-- The reference's outer loop also knows that the closure reaches further. -/
def derO (ds : List (Int × Int)) (a r : Int) (F : List (Int × Int × Int)) (x : Int) (acc : List (Int × Int × Int)) : Prop := R5 x ∧ leB a x ∧ acc ++ der ds r x = F
theorem has_eq0 {x r : Int} (hr : 0 ≤ r ∧ r ≤ 4) (hx : R5 x) : (bitI .and .i64 (x.fdiv (2 ^ r.toNat)) 1 == 0) = !hasB x r := by
  obtain ⟨r, rfl⟩ := c5 hr
  obtain ⟨x, rfl⟩ := hx.fin
  have : ∀ x : Fin 32, ∀ r : Fin 5, (bitI .and .i64 (((x.val : Nat) : Int).fdiv (2 ^ ((r.val : Nat) : Int).toNat)) 1 == 0) = !hasB ((x.val : Nat) : Int) ((r.val : Nat) : Int) := by decide +kernel
  exact this x r

end Go.Own
