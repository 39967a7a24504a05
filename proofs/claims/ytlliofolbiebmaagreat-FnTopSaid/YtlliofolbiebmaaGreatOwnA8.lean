/-
  The law of minimal dependencies: what is drawn; the candidates. Conditions: as each theorem states them.
-/
import Derived.Test.YtlliofolbiebmaaGreatOwnTq
import Derived.Test.YtlliofolbiebmaaGreatOwnTr
import Derived.Test.YtlliofolbiebmaaGreatOwnTp
import Derived.Test.YtlliofolbiebmaaGreatOwnTa
set_option linter.unusedSimpArgs false
set_option linter.unusedVariables false
set_option maxRecDepth 20000
set_option maxHeartbeats 8000000
namespace Go.Own
open Go Go.Proofs
attribute [local go_sem] tf1b ft1b cuO rI rB cuP unB_bL bL_length wfB_bL unD_dL dL_length dL_get dL_set dL_inj wfD_dL scal2 beq2 pair_eta
def cDMd : Contract := ⟨[], false, fun
 | [.one (.sl 1 l)] => some (WfB l ∧ l.length ≤ 1048576 ∧ ∀ b ∈ unB l, 0 ≤ b ∧ b ≤ 255, [⟨true, [.d (.v (.int .i64 (l4M (unB l) (newS (unB l))).1.1.1)), .own 1 (sL (l4M (unB l) (newS (unB l))).1.1.2) 1]⟩, ⟨false, [.d (.v (.int .i64 (l4M (unB l) (newS (unB l))).1.2))]⟩], [])
 | _ => none⟩
theorem dMd_ok : ContractOK E0 5 cDMd := by
 refine contract_of_wpc (E := E0) (T := mkT Tryz.prog [(26, cNewC), (25, cL4D)] false (fun _ => false) true (fun _ => false)) (mkT_ok (E := E0) (.cons newC_ok (.cons l4D_ok .nil))) (fn := Tryz.f5) Tryz.func5 (by kernel_rfl) rfl mixedT (by kernel_rfl) rfl ?_
 intro args p rs ms hr
 unfold cDMd at hr
 dsimp only at hr
 split at hr
 rotate_left
 ·cases hr
 rename_i l
 simp only [Option.some.injEq, Prod.mk.injEq] at hr
 obtain ⟨rfl, rfl, rfl⟩ := hr
 refine ⟨rfl, rfl, Nat.le_of_ble_eq_true rfl, ?_⟩
 have hm : maxLen = 9223372036854775807 := rfl
 rintro ⟨h1, h2, h3⟩ bs0
 obtain ⟨bs, rfl, hx⟩ := h1.ex
 clear h1
 rw [bL_length] at h2
 rw [unB_bL] at h3 ⊢
 obtain ⟨k1, k2, k3⟩ := @l4M_facts bs (newS bs)
 have eM : l4M bs (0, newH bs) = l4M bs (newS bs) := rfl
 generalize hM : l4M bs (newS bs) = M at *
 have m1 : M.1.1.2.length ≤ maxLen := Nat.le_trans k2 (by decide)
 have m2 : ∀ r ∈ M.1.1.2, r.length ≤ maxLen := fun r hr => by have := k3 r hr; omega
 clear k3
 (repeat' (first | (refine gate_a fun _ => ?_) | (refine fork_intro (fun hb => ?_) (fun hb => ?_) <;> (try simp only [ew, eM] at hb)) | (simp only [go_sem, Nat.reduceLeDiff, Nat.reduceEqDiff, reduceIte, reduceCtorEq, Nat.reduceAdd, Nat.reduceMul, Nat.reduceSub, Nat.reduceLT, Int.reduceLT, Int.reduceLE, Int.reduceNeg, Int.reduceToNat, Nat.reduceBEq, Nat.reduceBNe, Int.reduceGE, Int.reduceGT, *, cDMd, cNewC, cL4D, Tryz.results5, eM])))
 all_goals first | rfl | skip
def tW (bs : List Int) : List (Int × Int) := mdL (l4M bs (newS bs)).1.1.1 (l4M bs (newS bs)).1.1.2 (l4M bs (newS bs)).1.2
end Go.Own
