import Derived.Test.YthejclmonnpncaaGreatDoorOwnH8
import Derived.Test.YthejclmonnpncaaGreatDoorOwnY3
import Derived.Test.YthejclmonnpncaaGreatDoorOwnF4
namespace Go.Own
open Go Go.Proofs
set_option linter.unusedSimpArgs false
set_option linter.unusedVariables false
set_option maxRecDepth 20000
set_option maxHeartbeats 2000000

attribute [local go_sem] unD_dL dL_length dL_get dL_set dL_inj wfD_dL scal2 beq2 pair_eta dL_scal

/-! Copies of tables. -/
def cCopyT : Contract := ⟨[], false, fun
  | [.agg [.v (.int .i64 c), .sl 1 l]] => some (WfS l ∧ l.length ≤ 16777216 ∧ ∀ r ∈ unS l, r.length ≤ 16777216, [⟨true, [.d (.v (.int .i64 c)), .own 1 l 1]⟩], [])
  | _ => none⟩
theorem copyTI_ok : ContractOK E0 51 cCopyT := by
  refine contract_of_wpc (E := E0) (T := mkT Tryz.prog [(69, cCopyR)] false (fun _ => false) true (fun _ => false)) (mkT_ok (E := E0) (.cons copyR_ok .nil)) (fn := Tryz.f51) Tryz.func51 (by kernel_rfl) rfl mixedT (by kernel_rfl) rfl ?_
  intro args p rs ms hr
  unfold cCopyT at hr
  dsimp only at hr
  split at hr
  rotate_left
  · cases hr
  rename_i c l
  simp only [Option.some.injEq, Prod.mk.injEq] at hr
  obtain ⟨rfl, rfl, rfl⟩ := hr
  refine ⟨rfl, rfl, Nat.le_of_ble_eq_true rfl, ?_⟩
  have hm : maxLen = 9223372036854775807 := rfl
  rintro ⟨h1, h2, h3⟩ bs
  obtain ⟨rs, rfl, hx, hy⟩ := h1.ex
  clear h1
  rw [unS_sL] at h3
  rw [sL_length] at h2
  (repeat' (first
      | (refine gate_a fun _ => ?_)
      | (refine fork_intro (fun hb => ?_) (fun hb => ?_) <;> (try simp only [ew] at hb))
      | (simp only [go_sem, Nat.reduceLeDiff, Nat.reduceEqDiff, reduceIte, reduceCtorEq, Nat.reduceAdd, Nat.reduceMul, Nat.reduceSub, Nat.reduceLT, Int.reduceLT, Int.reduceLE, Int.reduceNeg, Int.reduceToNat, Nat.reduceBEq, Nat.reduceBNe, Int.reduceGE, Int.reduceGT, *, cCopyT, cCopyR, Tryz.results51])))
/-! NewMonitor. -/
def nmB (c : Int) (rs : List (List Int)) (m : Int) : Bool := tabOK c rs && modeOK m
def nmC (c : Int) (rs : List (List Int)) (m : Int) : Int := if nmB c rs m then c else 0
def nmR (c : Int) (rs : List (List Int)) (m : Int) : List (List Int) := if nmB c rs m then rs else []
def nmM (c : Int) (rs : List (List Int)) (m : Int) : Int := if nmB c rs m then m else 0
theorem tot_leM {B : Nat} : ∀ {rs : List (List Int)}, (∀ r ∈ rs, r.length ≤ B) → tot rs ≤ B * rs.length
  | [], _ => by simp [tot]
  | r :: rs, h => by
    have ih := tot_leM (rs := rs) fun r hr => h r (by simp [hr])
    have h1 := h r (by simp)
    rw [tot, List.length_cons, Int.natCast_add, Int.mul_add]
    omega
theorem tab_small {c : Int} {rs : List (List Int)} (h : tabOK c rs = true) : rs.length ≤ 40 ∧ ∀ r ∈ rs, r.length ≤ 5 := by
  obtain ⟨n, rfl, n1, n5, h40, hl⟩ := tab_rows h
  refine ⟨h40, fun r hr => ?_⟩
  obtain ⟨i, hi, rfl⟩ := List.getElem_of_mem hr
  have := hl i hi
  simp only [List.getD_eq_getElem?_getD, List.getElem?_eq_getElem hi, Option.getD_some] at this
  omega
theorem nmR_facts {c : Int} {rs : List (List Int)} {m : Int} : (nmR c rs m).length ≤ 40 ∧ (∀ r ∈ nmR c rs m, r.length ≤ 5) ∧ tot (nmR c rs m) ≤ 200 := by
  have h : (nmR c rs m).length ≤ 40 ∧ ∀ r ∈ nmR c rs m, r.length ≤ 5 := by
    unfold nmR nmB
    split
    · rename_i h
      rw [Bool.and_eq_true] at h
      exact tab_small h.1
    · simp
  refine ⟨h.1, h.2, ?_⟩
  have := tot_leM h.2
  omega
def cNewM : Contract := ⟨[], false, fun
  | [.agg [.v (.int .i64 c), .sl 1 l], .one (.v (.int .i64 m))] => some (WfS l ∧ -9223372036854775808 ≤ c ∧ c ≤ 9223372036854775807,
      [⟨true, [.d (.v (.int .i64 (nmC c (unS l) m))), .own 1 (sL (nmR c (unS l) m)) 1, .d (.v (.int .i64 (nmM c (unS l) m))), .own 2 (dL (mdL c (unS l) m)) 1]⟩, ⟨false, [.d (.v (.bool (nmB c (unS l) m)))]⟩], [])
  | _ => none⟩
/-! Marks on monitors. -/
def cMarkM : Contract := ⟨[true], false, fun
  | [.mag [.inl (.v (.int .i64 c)), .inr (1, l, _), .inl (.v (.int .i64 m)), .inr (2, q, _)], .one (.v (.int .i64 k))] => some (WfS l ∧ (l.length ≤ 16777216 ∧ ∀ r ∈ unS l, r.length ≤ 16777216) ∧ WfD q ∧ q.length ≤ 16777216 ∧ 0 ≤ k ∧ k + tot (unS l) ≤ 1125899906842624,
      [⟨false, [.d (.v (.int .i64 (k + tot (unS l) + 2 * q.length)))]⟩], [.mag [.inl (.v (.int .i64 c)), .inr (1, sL (markRows (unS l) k), 1), .inl (.v (.int .i64 m)), .inr (2, dL (markD (k + tot (unS l)) q.length), 1)]])
  | _ => none⟩
def heldM (rs : List (List Int)) (ds : List (Int × Int)) (k : Int) : Int := if heldL rs k < 0 then -1 else heldD ds (heldL rs k)
theorem heldL_le : ∀ {rs : List (List Int)} {k : Int}, ¬ heldL rs k < 0 → heldL rs k = k + tot rs
  | [], k, h => by simp [heldL, tot]
  | r :: rs, k, h => by
    simp only [heldL, tot] at h ⊢
    split at h
    · omega
    · rename_i h1
      have := heldI_le h1
      rw [if_neg h1, heldL_le h, this]
      omega
theorem heldD_neg {ds : List (Int × Int)} {k : Int} (hk : 0 ≤ k) (h : heldD ds k < 0) : heldD ds k = -1 := by
  unfold heldD at *
  split at h
  · omega
  · rw [if_neg ‹_›]
def cHeldM : Contract := ⟨[], false, fun
  | [.agg [.v (.int .i64 c), .sl 1 l, .v (.int .i64 m), .sl 2 q], .one (.v (.int .i64 k))] => some (WfS l ∧ (l.length ≤ 16777216 ∧ ∀ r ∈ unS l, r.length ≤ 16777216) ∧ WfD q ∧ q.length ≤ 16777216 ∧ 0 ≤ k ∧ k + tot (unS l) ≤ 1125899906842624, [⟨false, [.d (.v (.int .i64 (heldM (unS l) (unD q) k)))]⟩], [])
  | _ => none⟩
theorem heldM_marks {rs : List (List Int)} {n : Nat} {k : Int} (hk : 0 ≤ k) : heldM (markRows rs k) (markD (k + tot rs) n) k = k + tot rs + 2 * n := by
  have ht := @tot_nonneg rs
  unfold heldM
  rw [heldL_marks hk, if_neg (by omega), heldD_marks]

/-! The law. -/
def cLawTI : Contract := ⟨[], false, fun
  | [.agg [.v (.int .i64 c), .sl 1 l], .one (.v (.int .i64 m))] => some (WfS l ∧ -9223372036854775808 ≤ c ∧ c ≤ 9223372036854775807, [⟨false, [.d (.v (.bool true))]⟩], [])
  | _ => none⟩
end Go.Own
