/-
  Numbers as text: the library's own. Conditions: as each theorem states them.
-/
import Derived.Test.YtcdkbpokannamaaDoorOwnN1
import Derived.Test.YtcdkbpokannamaaDoorOwnItoa
namespace Go.Own
open Go Go.Proofs
set_option linter.unusedSimpArgs false
set_option linter.unusedVariables false
set_option maxRecDepth 20000
set_option maxHeartbeats 2000000

theorem itoa_ok : ContractOK E0 59 cNum := by
  refine ⟨⟨Tryd.f59, Tryd.func59, by kernel_rfl, rfl⟩, ?_⟩
  intro args p rs ms hr hp w vals F Ms ha hnd hF hJ hN hMN
  unfold cNum at hr
  dsimp only at hr
  split at hr
  · rename_i n
    simp only [Option.some.injEq, Prod.mk.injEq] at hr
    obtain ⟨rfl, rfl, rfl⟩ := hr
    obtain ⟨h0, h1⟩ := hp
    cases ha with
    | cons h1' h2 =>
      cases h2
      cases h1' with
      | one r =>
        cases r with
        | v hv hr2 =>
          cases hr2
          obtain ⟨k, rfl⟩ := Int.eq_ofNat_of_zero_le h0
          have hk : k < 100 := by omega
          have hcon := Any.strconv_Itoa_small Tryd.layI k hk w
          change Calls Tryd.prog 59 _ _ _ at hcon
          refine hcon.mono ?_
          rintro e w' ⟨rfl, rfl⟩
          have he : numB ((k : Nat) : Int) = ⟨(Lib.decDigits k).toArray⟩ := by
            rw [numB_itoa (by omega) (by omega)]
            unfold Lib.itoa
            rw [if_neg (by omega), Int.toNat_natCast]
          refine ⟨_, rfl, rfl, rfl, rfl, Nat.le_refl _, fun _ _ _ => rfl, [], [], [], [], ?_, .nil, by simp, by simp, by simp, by simp, by simp⟩
          rw [he]
          exact (by simpa using RCsOK.d (.v rfl .nil) .nil : RCsOK w'.heap [.d (.v (.string ⟨(Lib.decDigits k).toArray⟩))] [.string ⟨(Lib.decDigits k).toArray⟩] [] [])
  · cases hr
theorem numI_ok : ContractOK E0 35 cNum := by
  refine contract_of_wpc (E := E0) (T := mkT Tryd.prog [(59, cNum)] false (fun _ => false) true (fun _ => false)) (mkT_ok (E := E0) (.cons itoa_ok .nil)) (fn := Tryd.f35) Tryd.func35 (by kernel_rfl) rfl mixedT (by kernel_rfl) rfl ?_
  intro args p rs ms hr
  unfold cNum at hr
  dsimp only at hr
  split at hr
  rotate_left
  · cases hr
  rename_i k
  simp only [Option.some.injEq, Prod.mk.injEq] at hr
  obtain ⟨rfl, rfl, rfl⟩ := hr
  refine ⟨rfl, rfl, Nat.le_of_ble_eq_true rfl, ?_⟩
  have hm : maxLen = 9223372036854775807 := rfl
  rintro ⟨h1, h2⟩ bs
  (repeat' (first
      | (refine gate_a fun _ => ?_)
      | (refine fork_intro (fun hb => ?_) (fun hb => ?_) <;> (try simp only [ew] at hb))
      | (simp only [go_sem, Nat.reduceLeDiff, Nat.reduceEqDiff, reduceIte, reduceCtorEq, Nat.reduceAdd, Nat.reduceMul, Nat.reduceSub, Nat.reduceLT, Int.reduceLT, Int.reduceLE, Int.reduceNeg, Int.reduceToNat, Nat.reduceBEq, Nat.reduceBNe, Int.reduceGE, Int.reduceGT, *, cNum, Tryd.results35])))
  all_goals first | rfl | skip
end Go.Own
