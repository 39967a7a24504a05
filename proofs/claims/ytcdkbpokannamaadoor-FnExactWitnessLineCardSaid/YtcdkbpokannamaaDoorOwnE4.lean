import Derived.Test.YtcdkbpokannamaaDoorOwnE1
import Derived.Test.YtcdkbpokannamaaDoorOwnC3
import Derived.Test.YtcdkbpokannamaaDoorOwnC8
namespace Go.Own
open Go Go.Proofs
set_option linter.unusedSimpArgs false
set_option linter.unusedVariables false
set_option maxRecDepth 20000
set_option maxHeartbeats 2000000

attribute [local go_sem] unD_dL dL_length dL_get dL_set dL_inj wfD_dL scal2 beq2 pair_eta

/-! Orders and inclusions: the pairs of columns for which a test holds. -/
def cOrd1 : Contract := ⟨[], false, fun
  | [.one (.v (.int .i64 a)), .one (.v (.int .i64 b)), .ptr [.v (.int .i64 c), .sl 1 t]] => some (WfS t ∧ -9223372036854775808 ≤ c ∧ c ≤ 9223372036854775807, [⟨false, [.d (.v (.bool (ohB c (unS t) a b)))]⟩], [])
  | _ => none⟩
def cInc1 : Contract := ⟨[], false, fun
  | [.one (.v (.int .i64 a)), .one (.v (.int .i64 b)), .ptr [.v (.int .i64 c), .sl 1 t]] => some (WfS t ∧ -9223372036854775808 ≤ c ∧ c ≤ 9223372036854775807, [⟨false, [.d (.v (.bool (hiB c (unS t) a b)))]⟩], [])
  | _ => none⟩
theorem prs_max {p : Int → Int → Bool} {c : Int} {rs : List (List Int)} : (prs p c rs).length ≤ maxLen ∧ (prs p c rs).length ≤ 16777216 := by
  have := @prs_length p c rs
  exact ⟨Nat.le_trans this (by decide), by omega⟩
theorem pr_len {p : Int → Int → Bool} {a b n : Nat} (ha : a < n) (hb : b ≤ n) (hn : n ≤ 5) : (prA p n a ++ prB p a b).length ≤ 30 := by
  have h1 := @prA_length p n a
  have h2 := @prB_length p a b
  have h3 : a * n ≤ 5 * 5 := Nat.mul_le_mul (by omega) hn
  rw [List.length_append]; omega
theorem prA_len {p : Int → Int → Bool} {a n : Nat} (ha : a ≤ n) (hn : n ≤ 5) : (prA p n a).length ≤ 30 := by
  have h1 := @prA_length p n a
  have h3 : a * n ≤ 5 * 5 := Nat.mul_le_mul (by omega) hn
  omega

def cOrders : Contract := ⟨[], false, fun
  | [.agg [.v (.int .i64 c), .sl 1 t]] => some (WfS t ∧ -9223372036854775808 ≤ c ∧ c ≤ 9223372036854775807, [⟨false, [.own 2 (dL (prs (ohB c (unS t)) c (unS t))) 1]⟩], [])
  | _ => none⟩
def cIncs : Contract := ⟨[], false, fun
  | [.agg [.v (.int .i64 c), .sl 1 t]] => some (WfS t ∧ -9223372036854775808 ≤ c ∧ c ≤ 9223372036854775807, [⟨false, [.own 2 (dL (prs (hiB c (unS t)) c (unS t))) 1]⟩], [])
  | _ => none⟩
end Go.Own
