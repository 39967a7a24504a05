import Derived.Test.YtphpccnlhmmlfaaOwnC5
import Derived.Test.YtphpccnlhmmlfaaOwnC9
import Derived.Test.YtphpccnlhmmlfaaOwnC4
import Derived.Test.YtphpccnlhmmlfaaOwnV8
namespace Go.Own
open Go Go.Proofs
set_option linter.unusedSimpArgs false
set_option linter.unusedVariables false
set_option maxRecDepth 20000
set_option maxHeartbeats 2000000

theorem tot_leB : ∀ {rs : List (List Int)} {B : Nat}, (∀ r ∈ rs, r.length ≤ B) → tot rs ≤ rs.length * B
  | [], _, _ => by simp [tot]
  | r :: rs, B, h => by
    have h1 := h r (by simp)
    have h2 := tot_leB (rs := rs) fun r hr => h r (by simp [hr])
    simp only [tot, List.length_cons]
    have h3 : (((rs.length + 1 : Nat) : Int)) * B = (rs.length : Int) * B + B := by rw [Int.natCast_add, Int.add_mul]; simp
    rw [h3]; omega
theorem tot_big {rs : List (List Int)} (h1 : rs.length ≤ 16777216) (h2 : ∀ r ∈ rs, r.length ≤ 16777216) : 1 + tot rs ≤ 1125899906842624 := by
  have := tot_leB h2
  have h3 : (rs.length : Int) * ((16777216 : Nat) : Int) ≤ 16777216 * 16777216 := by
    have : (rs.length : Int) ≤ 16777216 := by omega
    omega
  omega
theorem markRows_leB {rs : List (List Int)} {k : Int} {B : Nat} (h : ∀ r ∈ rs, r.length ≤ B) : ∀ r ∈ markRows rs k, r.length ≤ B := by
  intro r hr
  have : r.length ∈ (markRows rs k).map List.length := List.mem_map.2 ⟨r, hr, rfl⟩
  rw [markRows_lens] at this
  obtain ⟨r', hr', e⟩ := List.mem_map.1 this
  rw [← e]; exact h r' hr'
theorem tot_markRowsB : ∀ {rs : List (List Int)} {k : Int}, tot (markRows rs k) = tot rs
  | [], _ => rfl
  | r :: rs, k => by simp [markRows, tot, marks_length, tot_markRowsB]
theorem selR_sub {c : Int} {rs : List (List Int)} {a v : Int} : (selR c rs a v).length ≤ rs.length ∧ ∀ r ∈ selR c rs a v, r ∈ rs := by
  unfold selR
  split
  · exact ⟨selL_len, fun r hr => (List.mem_filter.1 hr).1⟩
  · simp

/-! toDep, toPattern, SupportOf -/
def cToP : Contract := ⟨[], false, fun
  | [.agg [.v (.int .i64 a), .v (.int .i64 b), .v (.int .i64 p), .v (.int .i64 q)]] => some (True, [⟨true, [.d (.v (.int .i64 a)), .d (.v (.int .i64 b)), .d (.v (.int .i64 p)), .d (.v (.int .i64 q))]⟩], [])
  | _ => none⟩

theorem toP_ok : ContractOK E0 11 cToP := by
  refine contract_of_wpc (E := E0) (T := mkT Try.prog [(15, cTwo)] false (fun _ => false) true (fun _ => false)) (mkT_ok (E := E0) (.cons toDep_ok .nil)) (fn := Try.f11) Try.func11 (by kernel_rfl) rfl mixedT (by kernel_rfl) rfl ?_
  intro args p rs ms hr
  unfold cToP at hr
  dsimp only at hr
  split at hr
  rotate_left
  · cases hr
  rename_i a b p q
  simp only [Option.some.injEq, Prod.mk.injEq] at hr
  obtain ⟨rfl, rfl, rfl⟩ := hr
  refine ⟨rfl, rfl, Nat.le_of_ble_eq_true rfl, ?_⟩
  have hm : maxLen = 9223372036854775807 := rfl
  intro _ bs
  (repeat' (first
      | (refine gate_intro (by first | omega | (simp only [maxLen]; omega) | simp_all | (simp_all [maxLen]; omega)) fun _ => ?_)
      | ((refine fork_intro (fun hb => ?_) (fun hb => ?_)) <;> (try simp only [decide_eq_true_eq, decide_eq_false_iff_not, iL_length, sL_length, Int.ofNat_lt, Int.ofNat_le, Bool.not_eq_true', Bool.not_eq_false', beq_iff_eq, bne_iff_ne, beq_eq_false_iff_ne, ne_eq, bne_eq_false_iff_eq, Decidable.not_not, Bool.and_eq_true, Bool.and_eq_false_imp, cToP, cTwo, Try.results11] at hb))
      | (simp only [go_sem, Nat.reduceLeDiff, Nat.reduceEqDiff, reduceIte, reduceCtorEq, Nat.reduceAdd, Nat.reduceMul, Nat.reduceSub, Nat.reduceLT, Int.reduceLT, Int.reduceLE, Int.reduceNeg, Int.reduceToNat, Nat.reduceBEq, Nat.reduceBNe, *, cToP, cTwo, Try.results11])))

def cSup : Contract := ⟨[], false, fun
  | [.agg [.v (.int .i64 c), .sl 1 l], .agg [.v (.int .i64 a), .v (.int .i64 v), .v (.int .i64 p), .v (.int .i64 q)]] => some (WfS l ∧ -9223372036854775808 ≤ c ∧ c ≤ 9223372036854775807,
      [⟨false, [.d (.v (.int .i64 (selR c (unS l) a v).length))]⟩], [])
  | _ => none⟩

theorem supS_ok : ContractOK E0 49 cSup := by
  refine contract_of_wpc (E := E0) (T := mkT Try.prog [(42, cSel)] false (fun _ => false) true (fun _ => false)) (mkT_ok (E := E0) (.cons selS_ok .nil)) (fn := Try.f49) Try.func49 (by kernel_rfl) rfl mixedT (by kernel_rfl) rfl ?_
  intro args p rs ms hr
  unfold cSup at hr
  dsimp only at hr
  split at hr
  rotate_left
  · cases hr
  rename_i c l a v p q
  simp only [Option.some.injEq, Prod.mk.injEq] at hr
  obtain ⟨rfl, rfl, rfl⟩ := hr
  refine ⟨rfl, rfl, Nat.le_of_ble_eq_true rfl, ?_⟩
  have hm : maxLen = 9223372036854775807 := rfl
  rintro ⟨h1, hc1, hc2⟩ bs
  obtain ⟨rs, rfl, hx, hy⟩ := h1.ex
  clear h1
  rw [unS_sL]
  (repeat' (first
      | (refine gate_intro (by first | omega | (simp only [maxLen]; omega) | simp_all | (simp_all [maxLen]; omega)) fun _ => ?_)
      | ((refine fork_intro (fun hb => ?_) (fun hb => ?_)) <;> (try simp only [decide_eq_true_eq, decide_eq_false_iff_not, iL_length, sL_length, Int.ofNat_lt, Int.ofNat_le, Bool.not_eq_true', Bool.not_eq_false', beq_iff_eq, bne_iff_ne, beq_eq_false_iff_ne, ne_eq, bne_eq_false_iff_eq, Decidable.not_not, Bool.and_eq_true, Bool.and_eq_false_imp, cSup, cSel, Try.results49] at hb))
      | (simp only [go_sem, Nat.reduceLeDiff, Nat.reduceEqDiff, reduceIte, reduceCtorEq, Nat.reduceAdd, Nat.reduceMul, Nat.reduceSub, Nat.reduceLT, Int.reduceLT, Int.reduceLE, Int.reduceNeg, Int.reduceToNat, Nat.reduceBEq, Nat.reduceBNe, *, cSup, cSel, Try.results49])))

theorem supI_ok : ContractOK E0 51 cSup := by
  refine contract_of_wpc (E := E0) (T := mkT Try.prog [(46, cSel)] false (fun _ => false) true (fun _ => false)) (mkT_ok (E := E0) (.cons selI_ok .nil)) (fn := Try.f51) Try.func51 (by kernel_rfl) rfl mixedT (by kernel_rfl) rfl ?_
  intro args p rs ms hr
  unfold cSup at hr
  dsimp only at hr
  split at hr
  rotate_left
  · cases hr
  rename_i c l a v p q
  simp only [Option.some.injEq, Prod.mk.injEq] at hr
  obtain ⟨rfl, rfl, rfl⟩ := hr
  refine ⟨rfl, rfl, Nat.le_of_ble_eq_true rfl, ?_⟩
  have hm : maxLen = 9223372036854775807 := rfl
  rintro ⟨h1, hc1, hc2⟩ bs
  obtain ⟨rs, rfl, hx, hy⟩ := h1.ex
  clear h1
  rw [unS_sL]
  (repeat' (first
      | (refine gate_intro (by first | omega | (simp only [maxLen]; omega) | simp_all | (simp_all [maxLen]; omega)) fun _ => ?_)
      | ((refine fork_intro (fun hb => ?_) (fun hb => ?_)) <;> (try simp only [decide_eq_true_eq, decide_eq_false_iff_not, iL_length, sL_length, Int.ofNat_lt, Int.ofNat_le, Bool.not_eq_true', Bool.not_eq_false', beq_iff_eq, bne_iff_ne, beq_eq_false_iff_ne, ne_eq, bne_eq_false_iff_eq, Decidable.not_not, Bool.and_eq_true, Bool.and_eq_false_imp, cSup, cSel, Try.results51] at hb))
      | (simp only [go_sem, Nat.reduceLeDiff, Nat.reduceEqDiff, reduceIte, reduceCtorEq, Nat.reduceAdd, Nat.reduceMul, Nat.reduceSub, Nat.reduceLT, Int.reduceLT, Int.reduceLE, Int.reduceNeg, Int.reduceToNat, Nat.reduceBEq, Nat.reduceBNe, *, cSup, cSel, Try.results51])))

def cLawTP : Contract := ⟨[], false, fun
  | [.agg [.v (.int .i64 c), .sl 1 l], .agg [.v (.int .i64 a), .v (.int .i64 v), .v (.int .i64 p), .v (.int .i64 q)]] => some (WfS l ∧ -9223372036854775808 ≤ c ∧ c ≤ 9223372036854775807, [⟨false, [.d (.v (.bool true))]⟩], [])
  | _ => none⟩

end Go.Own
