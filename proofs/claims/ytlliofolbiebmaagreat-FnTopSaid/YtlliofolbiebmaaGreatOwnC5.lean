import Derived.Test.YtlliofolbiebmaaGreatOwnTt
set_option linter.unusedSimpArgs false
set_option linter.unusedVariables false
set_option maxRecDepth 20000
set_option maxHeartbeats 2000000
namespace Go.Own
open Go Go.Proofs
theorem iL_allscal {xs : List Int} : (∀ e ∈ iL xs, ∀ x ∈ e, Scalar x) ↔ True := by
 refine ⟨fun _ => trivial, fun _ e he x hx => ?_⟩
 obtain ⟨n, _, rfl⟩ := List.mem_map.1 he
 simp at hx
 subst hx
 trivial
def cCopyI : Contract := ⟨[], false, fun
 | [.one (.sl 1 l)] => some (WfI l ∧ l.length ≤ 16777216, [⟨false, [.own 1 l 1]⟩], [])
 | _ => none⟩
theorem copyI_ok : ContractOK E0 63 cCopyI := by
 refine contract_of_wpc (E := E0) (T := mkT Tryz.prog [] false (fun _ => false) true (fun _ => false)) (mkT_ok (E := E0) .nil) (fn := Tryz.f63) Tryz.func63 (by kernel_rfl) rfl mixedT (by kernel_rfl) rfl ?_
 intro args p rs ms hr
 unfold cCopyI at hr
 dsimp only at hr
 split at hr
 rotate_left
 ·cases hr
 rename_i l
 simp only [Option.some.injEq, Prod.mk.injEq] at hr
 obtain ⟨rfl, rfl, rfl⟩ := hr
 refine ⟨rfl, rfl, Nat.le_of_ble_eq_true rfl, ?_⟩
 have hm : maxLen = 9223372036854775807 := rfl
 rintro ⟨h1, h2⟩ bs
 obtain ⟨xs, rfl, hx⟩ := h1.ex
 clear h1
 rw [iL_length] at h2
 (repeat' (first | (refine gate_a fun _ => ?_) | (refine fork_intro (fun hb => ?_) (fun hb => ?_) <;> (try simp only [ew, iL_allscal] at hb)) | (simp only [go_sem, Nat.reduceLeDiff, Nat.reduceEqDiff, reduceIte, reduceCtorEq, Nat.reduceAdd, Nat.reduceMul, Nat.reduceSub, Nat.reduceLT, Int.reduceLT, Int.reduceLE, Int.reduceNeg, Int.reduceToNat, Nat.reduceBEq, Nat.reduceBNe, Int.reduceGE, Int.reduceGT, *, cCopyI, Tryz.results63, iL_allscal])))
theorem sL_snoc {rs : List (List Int)} {r : List Int} : sL rs ++ [[D.sl 1 (iL r)]] = sL (rs ++ [r]) := by simp [sL]
end Go.Own
