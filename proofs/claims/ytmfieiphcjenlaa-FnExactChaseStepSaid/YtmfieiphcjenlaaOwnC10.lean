import Derived.Test.YtmfieiphcjenlaaOwnC9
import Derived.Test.YtmfieiphcjenlaaOwnV8
namespace Go.Own
open Go Go.Proofs
set_option linter.unusedSimpArgs false
set_option linter.unusedVariables false
set_option maxRecDepth 20000
set_option maxHeartbeats 2000000



/-! Monitors -/
def szN (n : Nat) (k : Int) : Int := if k - n < 0 then -1 else k - n
def cSzDepS : Contract := ⟨[], false, fun
  | [.one (.sl 2 a), .one (.v (.int .i64 k))] => some (WfD a ∧ 0 ≤ k ∧ k ≤ 1048576, [⟨false, [.d (.v (.int .i64 (szN a.length k)))]⟩], [])
  | _ => none⟩

theorem szDepS_ok : ContractOK E0 9 cSzDepS := by
  refine contract_of_wpc (E := E0) (T := mkT Try.prog [] false (fun _ => false) true (fun _ => false)) (mkT_ok (E := E0) .nil) (fn := Try.f9) Try.func9 (by kernel_rfl) rfl mixedT (by kernel_rfl) rfl ?_
  intro args p rs ms hr
  unfold cSzDepS at hr
  dsimp only at hr
  split at hr
  rotate_left
  · cases hr
  rename_i a k
  simp only [Option.some.injEq, Prod.mk.injEq] at hr
  obtain ⟨rfl, rfl, rfl⟩ := hr
  refine ⟨rfl, rfl, Nat.le_of_ble_eq_true rfl, ?_⟩
  have hm : maxLen = 9223372036854775807 := rfl
  rintro ⟨h1, h2, h3⟩ bs
  obtain ⟨xs, rfl, hx⟩ := h1.ex
  clear h1
  unfold szN
  (repeat' (first
      | (refine gate_intro (by first | omega | ((repeat' (first | apply And.intro | assumption | omega | intro _)); done) | (simp only [maxLen]; omega) | simp_all | (simp_all [maxLen]; omega)) fun _ => ?_)
      | ((refine fork_intro (fun hb => ?_) (fun hb => ?_)) <;> (try simp only [decide_eq_true_eq, decide_eq_false_iff_not, iL_length, sL_length, Int.ofNat_lt, Int.ofNat_le, Bool.not_eq_true', Bool.not_eq_false', beq_iff_eq, bne_iff_ne, beq_eq_false_iff_ne, ne_eq, bne_eq_false_iff_eq, Decidable.not_not, Bool.and_eq_true, Bool.and_eq_false_imp, cSzDepS, Try.results9, unD_dL, dL_length, dL_get, dL_set, dL_inj, wfD_dL, scal2, beq2, pair_eta] at hb))
      | (simp only [go_sem, Nat.reduceLeDiff, Nat.reduceEqDiff, reduceIte, reduceCtorEq, Nat.reduceAdd, Nat.reduceMul, Nat.reduceSub, Nat.reduceLT, Int.reduceLT, Int.reduceLE, Int.reduceNeg, Int.reduceToNat, Nat.reduceBEq, Nat.reduceBNe, Int.reduceGE, Int.reduceGT, *, cSzDepS, Try.results9, unD_dL, dL_length, dL_get, dL_set, dL_inj, wfD_dL, scal2, beq2, pair_eta])))

def szM (rs : List (List Int)) (n : Nat) (k : Int) : Int := if szL rs k < 0 then -1 else szN n (szL rs k)
def cSzMon : Contract := ⟨[], false, fun
  | [.agg [.v (.int .i64 c), .sl 1 l, .v (.int .i64 m), .sl 2 q], .one (.v (.int .i64 k))] => some (WfS l ∧ WfD q ∧ 0 ≤ k ∧ k ≤ 1048576, [⟨false, [.d (.v (.int .i64 (szM (unS l) q.length k)))]⟩], [])
  | _ => none⟩

theorem szGo_le : ∀ {rs : List (List Int)} {k : Int}, ¬ szGo rs k < 0 → szGo rs k ≤ k
  | [], k, h => by simp [szGo]
  | r :: rs, k, h => by
    simp only [szGo] at h ⊢
    by_cases hx : szI r k < 0
    · rw [if_pos hx] at h; omega
    · rw [if_neg hx] at h ⊢
      have := szGo_le h
      have := szI_le hx
      omega
theorem szL_le {rs : List (List Int)} {k : Int} (h : ¬ szL rs k < 0) : szL rs k ≤ k := by
  unfold szL at *
  split at h
  · omega
  · rw [if_neg ‹_›]
    have := szGo_le h
    omega
theorem szN_neg {n : Nat} {k : Int} (h : szN n k < 0) : szN n k = -1 := by
  unfold szN at *; split at h <;> simp_all

def cToMon : Contract := ⟨[], false, fun
  | [.agg [.v (.int .i64 c), .sl 1 l, .v (.int .i64 m), .sl 2 q]] => some (WfS l ∧ (l.length ≤ 16777216 ∧ ∀ r ∈ unS l, r.length ≤ 16777216) ∧ WfD q ∧ q.length ≤ 16777216, [⟨true, [.d (.v (.int .i64 c)), .own 1 l 1, .d (.v (.int .i64 m)), .own 2 q 1]⟩], [])
  | _ => none⟩

def cEqMon : Contract := ⟨[], false, fun
  | [.agg [.v (.int .i64 c), .sl 1 l, .v (.int .i64 m), .sl 2 q], .agg [.v (.int .i64 c2), .sl 1 l2, .v (.int .i64 m2), .sl 2 q2]] => some (WfS l ∧ WfD q ∧ WfS l2 ∧ WfD q2, [⟨false, [.d (.v (.bool ((c == c2 && unS l == unS l2) && m == m2 && unD q == unD q2)))]⟩], [])
  | _ => none⟩

def cLawMM : Contract := ⟨[], false, fun
  | [.agg [.v (.int .i64 c), .sl 1 l, .v (.int .i64 m), .sl 2 q], .agg [.v (.int .i64 c2), .sl 1 l2, .v (.int .i64 m2), .sl 2 q2]] => some (WfS l ∧ WfD q ∧ WfS l2 ∧ WfD q2, [⟨false, [.d (.v (.bool true))]⟩], [])
  | _ => none⟩

theorem szM_facts {rs : List (List Int)} {n : Nat} {k : Int} (hk : k ≤ 1048576) (h : ¬ szM rs n k < 0) : (rs.length ≤ 16777216 ∧ ∀ r ∈ rs, r.length ≤ 16777216) ∧ n ≤ 16777216 ∧ szM rs n k ≤ k := by
  unfold szM at *
  split at h
  · omega
  · rename_i hs
    have h1 := szL_le hs
    rw [if_neg hs]
    unfold szN at h ⊢
    split at h
    · omega
    · rename_i h2
      rw [if_neg h2]
      unfold szL at hs
      split at hs
      · omega
      · refine ⟨⟨by omega, fun r hr => ?_⟩, by omega, by omega⟩
        have := szGo_facts hs r hr
        omega

end Go.Own
