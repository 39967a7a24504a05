/-
  Numbers as text: the library's own. Conditions: as each theorem states them.
-/
import Derived.Test.YthejclmonnpncaaGreatDoorOwnN1
import Derived.Test.YthejclmonnpncaaGreatDoorOwnItoa
namespace Go.Own
open Go Go.Proofs
set_option linter.unusedSimpArgs false
set_option linter.unusedVariables false
set_option maxRecDepth 20000
set_option maxHeartbeats 2000000

theorem tabIs_at {w : World} {name : String} {g : Nat} (hg : Tryz.prog.globalNamed name = some g) (hj : ∃ e fz, w.heap[g]? = some (.cells tabC e fz)) : Lib.TabIs Tryz.prog w name .u64 Lib.pow10Tab := by
  obtain ⟨e, fz, hj⟩ := hj
  unfold Lib.TabIs World.var?
  rw [hg]
  show (match w.heap[g]? with | some (.cells cs _ _) => some cs | _ => none) = _
  rw [hj]
  rfl
theorem itoa_ok : ContractOK E0 36 cNum := by
  refine ⟨⟨Tryz.f36, Tryz.func36, by kernel_rfl, rfl⟩, ?_⟩
  intro args p rs ms hr hp w vals F Ms ha hnd hF hJ hN hMN
  unfold cNum at hr
  dsimp only at hr
  split at hr
  · rename_i n
    simp only [Option.some.injEq, Prod.mk.injEq] at hr
    obtain ⟨rfl, rfl, rfl⟩ := hr
    obtain ⟨h0, h1⟩ := hp
    cases ha with
    | cons h1' h2 =>
      cases h2
      cases h1' with
      | one r =>
        cases r with
        | v hv hr2 =>
          cases hr2
          refine (Any.strconv_Itoa Tryz.layIM n (by omega) (by omega) w (tabIs_at (by kernel_rfl) hJ)).mono ?_
          rintro e w' ⟨rfl, k, os, rfl⟩
          have he : numB n = ⟨(Lib.itoa n).toArray⟩ := numB_itoa h0 (by omega)
          refine ⟨_, rfl, rfl, rfl, rfl, by simp [Go.Sort.grow], fun b hb _ => by show (w.heap ++ os)[b]? = _; rw [Array.getElem?_append_left hb], [], [], [], [], ?_, .nil, by simp, by simp, by simp, by simp, by simp⟩
          rw [he]
          exact (by simpa using RCsOK.d (.v rfl .nil) .nil : RCsOK (Go.Sort.grow (w.drewN k) os).heap [.d (.v (.string ⟨(Lib.itoa n).toArray⟩))] [.string ⟨(Lib.itoa n).toArray⟩] [] [])
  · cases hr
theorem numI_ok : ContractOK E0 18 cNum := by
  refine contract_of_wpc (E := E0) (T := mkT Tryz.prog [(36, cNum)] false (fun _ => false) true (fun _ => false)) (mkT_ok (E := E0) (.cons itoa_ok .nil)) (fn := Tryz.f18) Tryz.func18 (by kernel_rfl) rfl mixedT (by kernel_rfl) rfl ?_
  intro args p rs ms hr
  unfold cNum at hr
  dsimp only at hr
  split at hr
  rotate_left
  · cases hr
  rename_i k
  simp only [Option.some.injEq, Prod.mk.injEq] at hr
  obtain ⟨rfl, rfl, rfl⟩ := hr
  refine ⟨rfl, rfl, Nat.le_of_ble_eq_true rfl, ?_⟩
  have hm : maxLen = 9223372036854775807 := rfl
  rintro ⟨h1, h2⟩ bs
  (repeat' (first
      | (refine gate_a fun _ => ?_)
      | (refine fork_intro (fun hb => ?_) (fun hb => ?_) <;> (try simp only [ew] at hb))
      | (simp only [go_sem, Nat.reduceLeDiff, Nat.reduceEqDiff, reduceIte, reduceCtorEq, Nat.reduceAdd, Nat.reduceMul, Nat.reduceSub, Nat.reduceLT, Int.reduceLT, Int.reduceLE, Int.reduceNeg, Int.reduceToNat, Nat.reduceBEq, Nat.reduceBNe, Int.reduceGE, Int.reduceGT, *, cNum, Tryz.results18])))
  all_goals first | rfl | skip
end Go.Own
