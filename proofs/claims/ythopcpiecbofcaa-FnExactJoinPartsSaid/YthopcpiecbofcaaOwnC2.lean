import Derived.Test.YthopcpiecbofcaaOwnC1
namespace Go.Own
open Go Go.Proofs
set_option linter.unusedSimpArgs false
set_option linter.unusedVariables false
set_option maxRecDepth 20000
set_option maxHeartbeats 2000000

/-! hasInt, l2Has -/
def cHas : Contract := ⟨[], false, fun
  | [.one (.sl 1 l), .one (.v (.int .i64 n))] => some (WfI l, [⟨false, [.d (.v (.bool ((unI l).contains n)))]⟩], [])
  | _ => none⟩

theorem contains_drop {xs : List Int} {i : Nat} (h : i < xs.length) (n : Int) : (xs.drop i).contains n = (n == xs.getD i 0 || (xs.drop (i + 1)).contains n) := by
  rw [drop_getD h 0]; rfl

/-! ColumnOf -/
def colL (rs : List (List Int)) (a : Nat) : List Int := rs.map fun r => r.getD a 0
def colF (c : Int) (rs : List (List Int)) (a : Int) : List Int := if tabOK c rs && inB a 0 (c - 1) then colL rs a.toNat else []

def cCol : Contract := ⟨[], false, fun
  | [.agg [.v (.int .i64 c), .sl 1 l], .one (.v (.int .i64 a))] => some (WfS l ∧ -9223372036854775808 ≤ c ∧ c ≤ 9223372036854775807, [⟨false, [.own 1 (iL (colF c (unS l) a)) 1]⟩], [])
  | _ => none⟩

theorem colL_succ {rs : List (List Int)} {a i : Nat} (h : i < rs.length) : iL (colL (rs.take i) a) ++ [[D.v (.int .i64 ((rs.getD i []).getD a 0))]] = iL (colL (rs.take (i + 1)) a) := by
  rw [take_succ_getD h []]; simp [colL, iL]
theorem colL_length {rs : List (List Int)} {a : Nat} : (colL rs a).length = rs.length := by simp [colL]
theorem col_facts {c : Int} {rs : List (List Int)} {a : Int} (ht : tabOK c rs = true) (hi : inB a 0 (c - 1) = true) : ∃ a' c' : Nat, a = a' ∧ c = c' ∧ a' < c' ∧ rs.length ≤ 40 ∧ ∀ i, i < rs.length → (rs.getD i []).length = c' := by
  obtain ⟨a', b', c', h1, h2, h3, h4, h5, h6, h7⟩ := cols_facts (c := c) (rs := rs) (a := a) (b := a) (by rw [colsOK, ht, hi]; rfl)
  exact ⟨a', c', h1, h3, h4, h6, h7⟩

theorem hasC_eq {a c : Int} : (decide (a ≥ 0) && decide (a < c)) = inB a 0 (c - 1) := by
  unfold inB; congr 1; rw [decide_eq_decide]; omega

end Go.Own
