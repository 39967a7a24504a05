import Derived.Test.YtcdkbpokannamaaDoorOwnC5
import Derived.Test.YtcdkbpokannamaaDoorOwnY3
import Derived.Test.YtcdkbpokannamaaDoorOwnC4
import Derived.Test.YtcdkbpokannamaaDoorOwnV8
namespace Go.Own
open Go Go.Proofs
set_option linter.unusedSimpArgs false
set_option linter.unusedVariables false
set_option maxRecDepth 20000
set_option maxHeartbeats 2000000

theorem tot_leB : ∀ {rs : List (List Int)} {B : Nat}, (∀ r ∈ rs, r.length ≤ B) → tot rs ≤ rs.length * B
  | [], _, _ => by simp [tot]
  | r :: rs, B, h => by
    have h1 := h r (by simp)
    have h2 := tot_leB (rs := rs) fun r hr => h r (by simp [hr])
    simp only [tot, List.length_cons]
    have h3 : (((rs.length + 1 : Nat) : Int)) * B = (rs.length : Int) * B + B := by rw [Int.natCast_add, Int.add_mul]; simp
    rw [h3]; omega
theorem tot_big {rs : List (List Int)} (h1 : rs.length ≤ 16777216) (h2 : ∀ r ∈ rs, r.length ≤ 16777216) : 1 + tot rs ≤ 1125899906842624 := by
  have := tot_leB h2
  have h3 : (rs.length : Int) * ((16777216 : Nat) : Int) ≤ 16777216 * 16777216 := by
    have : (rs.length : Int) ≤ 16777216 := by omega
    omega
  omega
theorem markRows_leB {rs : List (List Int)} {k : Int} {B : Nat} (h : ∀ r ∈ rs, r.length ≤ B) : ∀ r ∈ markRows rs k, r.length ≤ B := by
  intro r hr
  have : r.length ∈ (markRows rs k).map List.length := List.mem_map.2 ⟨r, hr, rfl⟩
  rw [markRows_lens] at this
  obtain ⟨r', hr', e⟩ := List.mem_map.1 this
  rw [← e]; exact h r' hr'
theorem tot_markRowsB : ∀ {rs : List (List Int)} {k : Int}, tot (markRows rs k) = tot rs
  | [], _ => rfl
  | r :: rs, k => by simp [markRows, tot, marks_length, tot_markRowsB]
theorem selR_sub {c : Int} {rs : List (List Int)} {a v : Int} : (selR c rs a v).length ≤ rs.length ∧ ∀ r ∈ selR c rs a v, r ∈ rs := by
  unfold selR
  split
  · exact ⟨selL_len, fun r hr => (List.mem_filter.1 hr).1⟩
  · simp

/-! toDep, toPattern, SupportOf -/
def cToP : Contract := ⟨[], false, fun
  | [.agg [.v (.int .i64 a), .v (.int .i64 b), .v (.int .i64 p), .v (.int .i64 q)]] => some (True, [⟨true, [.d (.v (.int .i64 a)), .d (.v (.int .i64 b)), .d (.v (.int .i64 p)), .d (.v (.int .i64 q))]⟩], [])
  | _ => none⟩

theorem toP_ok : ContractOK E0 7 cToP := by
  refine contract_of_wpc (E := E0) (T := mkT Tryd.prog [(12, cTwo)] false (fun _ => false) true (fun _ => false)) (mkT_ok (E := E0) (.cons toDep_ok .nil)) (fn := Tryd.f7) Tryd.func7 (by kernel_rfl) rfl mixedT (by kernel_rfl) rfl ?_
  intro args p rs ms hr
  unfold cToP at hr
  dsimp only at hr
  split at hr
  rotate_left
  · cases hr
  rename_i a b p q
  simp only [Option.some.injEq, Prod.mk.injEq] at hr
  obtain ⟨rfl, rfl, rfl⟩ := hr
  refine ⟨rfl, rfl, Nat.le_of_ble_eq_true rfl, ?_⟩
  have hm : maxLen = 9223372036854775807 := rfl
  intro _ bs
  (repeat' (first
      | (refine gate_a fun _ => ?_)
      | (refine fork_intro (fun hb => ?_) (fun hb => ?_) <;> (try simp only [ew] at hb))
      | (simp only [go_sem, Nat.reduceLeDiff, Nat.reduceEqDiff, reduceIte, reduceCtorEq, Nat.reduceAdd, Nat.reduceMul, Nat.reduceSub, Nat.reduceLT, Int.reduceLT, Int.reduceLE, Int.reduceNeg, Int.reduceToNat, Nat.reduceBEq, Nat.reduceBNe, Int.reduceGE, Int.reduceGT, *, cToP, cTwo, Tryd.results7])))

def cSup : Contract := ⟨[], false, fun
  | [.agg [.v (.int .i64 c), .sl 1 l], .agg [.v (.int .i64 a), .v (.int .i64 v), .v (.int .i64 p), .v (.int .i64 q)]] => some (WfS l ∧ -9223372036854775808 ≤ c ∧ c ≤ 9223372036854775807,
      [⟨false, [.d (.v (.int .i64 (selR c (unS l) a v).length))]⟩], [])
  | _ => none⟩

theorem supS_ok : ContractOK E0 47 cSup := by
  refine contract_of_wpc (E := E0) (T := mkT Tryd.prog [(26, cSel)] false (fun _ => false) true (fun _ => false)) (mkT_ok (E := E0) (.cons selS_ok .nil)) (fn := Tryd.f47) Tryd.func47 (by kernel_rfl) rfl mixedT (by kernel_rfl) rfl ?_
  intro args p rs ms hr
  unfold cSup at hr
  dsimp only at hr
  split at hr
  rotate_left
  · cases hr
  rename_i c l a v p q
  simp only [Option.some.injEq, Prod.mk.injEq] at hr
  obtain ⟨rfl, rfl, rfl⟩ := hr
  refine ⟨rfl, rfl, Nat.le_of_ble_eq_true rfl, ?_⟩
  have hm : maxLen = 9223372036854775807 := rfl
  rintro ⟨h1, hc1, hc2⟩ bs
  obtain ⟨rs, rfl, hx, hy⟩ := h1.ex
  clear h1
  rw [unS_sL]
  (repeat' (first
      | (refine gate_a fun _ => ?_)
      | (refine fork_intro (fun hb => ?_) (fun hb => ?_) <;> (try simp only [ew] at hb))
      | (simp only [go_sem, Nat.reduceLeDiff, Nat.reduceEqDiff, reduceIte, reduceCtorEq, Nat.reduceAdd, Nat.reduceMul, Nat.reduceSub, Nat.reduceLT, Int.reduceLT, Int.reduceLE, Int.reduceNeg, Int.reduceToNat, Nat.reduceBEq, Nat.reduceBNe, Int.reduceGE, Int.reduceGT, *, cSup, cSel, Tryd.results47])))

theorem supI_ok : ContractOK E0 20 cSup := by
  refine contract_of_wpc (E := E0) (T := mkT Tryd.prog [(23, cSel)] false (fun _ => false) true (fun _ => false)) (mkT_ok (E := E0) (.cons selI_ok .nil)) (fn := Tryd.f20) Tryd.func20 (by kernel_rfl) rfl mixedT (by kernel_rfl) rfl ?_
  intro args p rs ms hr
  unfold cSup at hr
  dsimp only at hr
  split at hr
  rotate_left
  · cases hr
  rename_i c l a v p q
  simp only [Option.some.injEq, Prod.mk.injEq] at hr
  obtain ⟨rfl, rfl, rfl⟩ := hr
  refine ⟨rfl, rfl, Nat.le_of_ble_eq_true rfl, ?_⟩
  have hm : maxLen = 9223372036854775807 := rfl
  rintro ⟨h1, hc1, hc2⟩ bs
  obtain ⟨rs, rfl, hx, hy⟩ := h1.ex
  clear h1
  rw [unS_sL]
  (repeat' (first
      | (refine gate_a fun _ => ?_)
      | (refine fork_intro (fun hb => ?_) (fun hb => ?_) <;> (try simp only [ew] at hb))
      | (simp only [go_sem, Nat.reduceLeDiff, Nat.reduceEqDiff, reduceIte, reduceCtorEq, Nat.reduceAdd, Nat.reduceMul, Nat.reduceSub, Nat.reduceLT, Int.reduceLT, Int.reduceLE, Int.reduceNeg, Int.reduceToNat, Nat.reduceBEq, Nat.reduceBNe, Int.reduceGE, Int.reduceGT, *, cSup, cSel, Tryd.results20])))

def cLawTP : Contract := ⟨[], false, fun
  | [.agg [.v (.int .i64 c), .sl 1 l], .agg [.v (.int .i64 a), .v (.int .i64 v), .v (.int .i64 p), .v (.int .i64 q)]] => some (WfS l ∧ -9223372036854775808 ≤ c ∧ c ≤ 9223372036854775807, [⟨false, [.d (.v (.bool true))]⟩], [])
  | _ => none⟩

end Go.Own
