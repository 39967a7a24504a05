import Derived.Test.YthopcpiecbofcaaOwnC2
namespace Go.Own
open Go Go.Proofs
set_option linter.unusedSimpArgs false
set_option linter.unusedVariables false
set_option maxRecDepth 20000
set_option maxHeartbeats 2000000

/-! copies -/
theorem iL_allscal {xs : List Int} : (∀ e ∈ iL xs, ∀ x ∈ e, Scalar x) ↔ True := by
  refine ⟨fun _ => trivial, fun _ e he x hx => ?_⟩
  obtain ⟨n, _, rfl⟩ := List.mem_map.1 he
  simp at hx
  subst hx
  trivial

def cCopyI : Contract := ⟨[], false, fun
  | [.one (.sl 1 l)] => some (WfI l ∧ l.length ≤ 16777216, [⟨false, [.own 1 l 1]⟩], [])
  | _ => none⟩

theorem copyI_ok : ContractOK E0 44 cCopyI := by
  refine contract_of_wpc (E := E0) (T := mkT Try.prog [] false (fun _ => false) true (fun _ => false)) (mkT_ok (E := E0) .nil) (fn := Try.f44) Try.func44 (by kernel_rfl) rfl mixedT (by kernel_rfl) rfl ?_
  intro args p rs ms hr
  unfold cCopyI at hr
  dsimp only at hr
  split at hr
  rotate_left
  · cases hr
  rename_i l
  simp only [Option.some.injEq, Prod.mk.injEq] at hr
  obtain ⟨rfl, rfl, rfl⟩ := hr
  refine ⟨rfl, rfl, Nat.le_of_ble_eq_true rfl, ?_⟩
  have hm : maxLen = 9223372036854775807 := rfl
  rintro ⟨h1, h2⟩ bs
  obtain ⟨xs, rfl, hx⟩ := h1.ex
  clear h1
  rw [iL_length] at h2
  (repeat' (first
      | (refine gate_a fun _ => ?_)
      | (refine fork_intro (fun hb => ?_) (fun hb => ?_) <;> (try simp only [ew, iL_allscal] at hb))
      | (simp only [go_sem, Nat.reduceLeDiff, Nat.reduceEqDiff, reduceIte, reduceCtorEq, Nat.reduceAdd, Nat.reduceMul, Nat.reduceSub, Nat.reduceLT, Int.reduceLT, Int.reduceLE, Int.reduceNeg, Int.reduceToNat, Nat.reduceBEq, Nat.reduceBNe, Int.reduceGE, Int.reduceGT, *, cCopyI, Try.results44, iL_allscal])))

/-! SelectRows -/
def selL (rs : List (List Int)) (a : Nat) (v : Int) : List (List Int) := rs.filter fun r => r.getD a 0 == v
def selC (c : Int) (rs : List (List Int)) (a : Int) : Int := if colsOK c rs a a then c else 0
def selR (c : Int) (rs : List (List Int)) (a v : Int) : List (List Int) := if colsOK c rs a a then selL rs a.toNat v else []

def cSel : Contract := ⟨[], false, fun
  | [.agg [.v (.int .i64 c), .sl 1 l], .one (.v (.int .i64 a)), .one (.v (.int .i64 v))] => some (WfS l ∧ -9223372036854775808 ≤ c ∧ c ≤ 9223372036854775807,
      [⟨true, [.d (.v (.int .i64 (selC c (unS l) a))), .own 1 (sL (selR c (unS l) a v)) 1]⟩], [])
  | _ => none⟩

theorem selL_len {rs : List (List Int)} {a : Nat} {v : Int} : (selL rs a v).length ≤ rs.length := List.length_filter_le _ _
theorem selL_take {rs : List (List Int)} {a i : Nat} {v : Int} (h : i < rs.length) : selL (rs.take (i + 1)) a v = if (rs.getD i []).getD a 0 == v then selL (rs.take i) a v ++ [rs.getD i []] else selL (rs.take i) a v := by
  rw [take_succ_getD h []]
  simp only [selL, List.filter_append, List.filter_cons, List.filter_nil]
  split <;> simp_all
theorem sL_snoc {rs : List (List Int)} {r : List Int} : sL rs ++ [[D.sl 1 (iL r)]] = sL (rs ++ [r]) := by simp [sL]
theorem colsOK_aa {c : Int} {rs : List (List Int)} {a : Int} : colsOK c rs a a = (tabOK c rs && inB a 0 (c - 1)) := by
  unfold colsOK; rw [Bool.and_assoc, Bool.and_self]

end Go.Own
