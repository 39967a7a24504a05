import Derived.Test.YtohioponiobalaaOwnC2
namespace Go.Own
open Go Go.Proofs
set_option linter.unusedSimpArgs false
set_option linter.unusedVariables false
set_option maxRecDepth 20000
set_option maxHeartbeats 2000000

/-! copies -/
theorem iL_allscal {xs : List Int} : (∀ e ∈ iL xs, ∀ x ∈ e, Scalar x) ↔ True := by
  refine ⟨fun _ => trivial, fun _ e he x hx => ?_⟩
  obtain ⟨n, _, rfl⟩ := List.mem_map.1 he
  simp at hx
  subst hx
  trivial

def cCopyI : Contract := ⟨[], false, fun
  | [.one (.sl 1 l)] => some (WfI l ∧ l.length ≤ 16777216, [⟨false, [.own 1 l 1]⟩], [])
  | _ => none⟩

/-! SelectRows -/
def selL (rs : List (List Int)) (a : Nat) (v : Int) : List (List Int) := rs.filter fun r => r.getD a 0 == v
def selC (c : Int) (rs : List (List Int)) (a : Int) : Int := if colsOK c rs a a then c else 0
def selR (c : Int) (rs : List (List Int)) (a v : Int) : List (List Int) := if colsOK c rs a a then selL rs a.toNat v else []

def cSel : Contract := ⟨[], false, fun
  | [.agg [.v (.int .i64 c), .sl 1 l], .one (.v (.int .i64 a)), .one (.v (.int .i64 v))] => some (WfS l ∧ -9223372036854775808 ≤ c ∧ c ≤ 9223372036854775807,
      [⟨true, [.d (.v (.int .i64 (selC c (unS l) a))), .own 1 (sL (selR c (unS l) a v)) 1]⟩], [])
  | _ => none⟩

theorem selL_len {rs : List (List Int)} {a : Nat} {v : Int} : (selL rs a v).length ≤ rs.length := List.length_filter_le _ _
theorem selL_take {rs : List (List Int)} {a i : Nat} {v : Int} (h : i < rs.length) : selL (rs.take (i + 1)) a v = if (rs.getD i []).getD a 0 == v then selL (rs.take i) a v ++ [rs.getD i []] else selL (rs.take i) a v := by
  rw [take_succ_getD h []]
  simp only [selL, List.filter_append, List.filter_cons, List.filter_nil]
  split <;> simp_all
theorem sL_snoc {rs : List (List Int)} {r : List Int} : sL rs ++ [[D.sl 1 (iL r)]] = sL (rs ++ [r]) := by simp [sL]
theorem colsOK_aa {c : Int} {rs : List (List Int)} {a : Int} : colsOK c rs a a = (tabOK c rs && inB a 0 (c - 1)) := by
  unfold colsOK; rw [Bool.and_assoc, Bool.and_self]

end Go.Own
