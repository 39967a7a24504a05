import Derived.Test.YtlliofolbiebmaaGreatOwnZ5
set_option linter.unusedSimpArgs false
set_option linter.unusedVariables false
set_option maxRecDepth 20000
set_option maxHeartbeats 2000000
namespace Go.Own
open Go Go.Proofs
theorem bits64 : ((IntKind.bits .i64 : Nat) : Int) = 64 := rfl
theorem pow5 {n : Int} (h0 : 0 ≤ n) (h5 : n ≤ 5) : 1 ≤ (2 : Int) ^ n.toNat ∧ (2 : Int) ^ n.toNat ≤ 32 := by
 have : n = 0 ∨ n = 1 ∨ n = 2 ∨ n = 3 ∨ n = 4 ∨ n = 5 := by omega
 rcases this with rfl | rfl | rfl | rfl | rfl | rfl <;> decide
def all2 (n : Int) : Int := 1 * 2 ^ n.toNat - 1
def isAttr (n x : Int) : Bool := inB n 0 5 && inB x 0 (all2 n)
def hasB (x c : Int) : Bool := bitI .and .i64 (x.fdiv (2 ^ c.toNat)) 1 == 1
theorem inB_iff {x lo hi : Int} : inB x lo hi = true ↔ lo ≤ x ∧ x ≤ hi := by simp [inB]
theorem isAttr_le {n x : Int} (h : isAttr n x = true) : 0 ≤ n ∧ n ≤ 5 ∧ 0 ≤ x ∧ x ≤ 31 := by
 simp only [isAttr, Bool.and_eq_true, inB_iff, all2] at h
 have := pow5 h.1.1 h.1.2
 omega
def cAll2 : Contract := ⟨[], false, fun
 | [.one (.v (.int .i64 n))] => some (0 ≤ n ∧ n ≤ 5, [⟨false, [.d (.v (.int .i64 (all2 n)))]⟩], [])
 | _ => none⟩
theorem all2_ok : ContractOK E0 73 cAll2 := by
 refine contract_of_wpc (E := E0) (T := mkT Tryz.prog [] false (fun _ => false) true (fun _ => false)) (mkT_ok (E := E0) .nil) (fn := Tryz.f73) Tryz.func73 (by kernel_rfl) rfl mixedT (by kernel_rfl) rfl ?_
 intro args p rs ms hr
 unfold cAll2 at hr
 dsimp only at hr
 split at hr
 rotate_left
 ·cases hr
 rename_i n
 simp only [Option.some.injEq, Prod.mk.injEq] at hr
 obtain ⟨rfl, rfl, rfl⟩ := hr
 refine ⟨rfl, rfl, Nat.le_of_ble_eq_true rfl, ?_⟩
 have hm : maxLen = 9223372036854775807 := rfl
 rintro ⟨h0, h5⟩ bs
 have hp := pow5 h0 h5
 unfold all2
 (repeat' (first | (refine gate_a fun _ => ?_) | (refine fork_intro (fun hb => ?_) (fun hb => ?_) <;> (try simp only [ew, bits64] at hb)) | (simp only [go_sem, Nat.reduceLeDiff, Nat.reduceEqDiff, reduceIte, reduceCtorEq, Nat.reduceAdd, Nat.reduceMul, Nat.reduceSub, Nat.reduceLT, Int.reduceLT, Int.reduceLE, Int.reduceNeg, Int.reduceToNat, Nat.reduceBEq, Nat.reduceBNe, Int.reduceGE, Int.reduceGT, *, cAll2, Tryz.results73, bits64])))
def cIsAttr : Contract := ⟨[], false, fun
 | [.one (.v (.int .i64 n)), .one (.v (.int .i64 x))] => some (True, [⟨false, [.d (.v (.bool (isAttr n x)))]⟩], [])
 | _ => none⟩
theorem isAttrS_ok : ContractOK E0 136 cIsAttr := by
 refine contract_of_wpc (E := E0) (T := mkT Tryz.prog [(28, cL1In), (73, cAll2)] false (fun _ => false) true (fun _ => false)) (mkT_ok (E := E0) (.cons l1In_ok (.cons all2_ok .nil))) (fn := Tryz.f136) Tryz.func136 (by kernel_rfl) rfl mixedT (by kernel_rfl) rfl ?_
 intro args p rs ms hr
 unfold cIsAttr at hr
 dsimp only at hr
 split at hr
 rotate_left
 ·cases hr
 rename_i n x
 simp only [Option.some.injEq, Prod.mk.injEq] at hr
 obtain ⟨rfl, rfl, rfl⟩ := hr
 refine ⟨rfl, rfl, Nat.le_of_ble_eq_true rfl, ?_⟩
 have hm : maxLen = 9223372036854775807 := rfl
 intro _ bs
 unfold isAttr
 (repeat' (first | (refine gate_intro (by first | omega | (intro h; rw [inB_iff] at h; exact h) | ((repeat' (first | apply And.intro | assumption | omega | intro _)); done) | (simp only [maxLen]; omega) | simp_all | (simp_all [maxLen]; omega)) fun _ => ?_) | (refine fork_intro (fun hb => ?_) (fun hb => ?_) <;> (try simp only [ew] at hb)) | (simp only [go_sem, Nat.reduceLeDiff, Nat.reduceEqDiff, reduceIte, reduceCtorEq, Nat.reduceAdd, Nat.reduceMul, Nat.reduceSub, Nat.reduceLT, Int.reduceLT, Int.reduceLE, Int.reduceNeg, Int.reduceToNat, Nat.reduceBEq, Nat.reduceBNe, Int.reduceGE, Int.reduceGT, *, cIsAttr, cL1In, cAll2, Tryz.results136])))
theorem isAttrI_ok : ContractOK E0 46 cIsAttr := by
 refine contract_of_wpc (E := E0) (T := mkT Tryz.prog [] false (fun _ => false) true (fun _ => false)) (mkT_ok (E := E0) .nil) (fn := Tryz.f46) Tryz.func46 (by kernel_rfl) rfl mixedT (by kernel_rfl) rfl ?_
 intro args p rs ms hr
 unfold cIsAttr at hr
 dsimp only at hr
 split at hr
 rotate_left
 ·cases hr
 rename_i n x
 simp only [Option.some.injEq, Prod.mk.injEq] at hr
 obtain ⟨rfl, rfl, rfl⟩ := hr
 refine ⟨rfl, rfl, Nat.le_of_ble_eq_true rfl, ?_⟩
 have hm : maxLen = 9223372036854775807 := rfl
 intro _ bs
 unfold isAttr
 (repeat' (first | (refine gate_intro (by first | omega | (intro h; simp only [Bool.and_eq_true, decide_eq_true_eq] at h; have := pow5 h.1.1 h.1.2; omega) | ((repeat' (first | apply And.intro | assumption | omega | intro _)); done) | (simp only [maxLen]; omega) | simp_all | (simp_all [maxLen]; omega)) fun _ => ?_) | (refine fork_intro (fun hb => ?_) (fun hb => ?_) <;> (try simp only [ew, bits64] at hb)) | (simp only [go_sem, Nat.reduceLeDiff, Nat.reduceEqDiff, reduceIte, reduceCtorEq, Nat.reduceAdd, Nat.reduceMul, Nat.reduceSub, Nat.reduceLT, Int.reduceLT, Int.reduceLE, Int.reduceNeg, Int.reduceToNat, Nat.reduceBEq, Nat.reduceBNe, Int.reduceGE, Int.reduceGT, *, cIsAttr, Tryz.results46, bits64])))
 unfold inB all2
 rw [Bool.eq_iff_iff]
 simp only [Bool.and_eq_true, decide_eq_true_eq]
 constructor
 ·rintro ⟨⟨⟨h1, h2⟩, h3⟩, h4⟩; exact ⟨⟨h1, h2⟩, h3, by omega⟩
 ·rintro ⟨⟨h1, h2⟩, h3, h4⟩; exact ⟨⟨⟨h1, h2⟩, h3⟩, by omega⟩
def cValid : Contract := ⟨[], false, fun
 | [.one (.v (.int .i64 x))] => some (True, [⟨false, [.d (.v (.bool (isAttr 5 x)))]⟩], [])
 | _ => none⟩
theorem validS_ok : ContractOK E0 111 cValid := by
 refine contract_of_wpc (E := E0) (T := mkT Tryz.prog [(136, cIsAttr)] false (fun _ => false) true (fun _ => false)) (mkT_ok (E := E0) (.cons isAttrS_ok .nil)) (fn := Tryz.f111) Tryz.func111 (by kernel_rfl) rfl mixedT (by kernel_rfl) rfl ?_
 intro args p rs ms hr
 unfold cValid at hr
 dsimp only at hr
 split at hr
 rotate_left
 ·cases hr
 rename_i x
 simp only [Option.some.injEq, Prod.mk.injEq] at hr
 obtain ⟨rfl, rfl, rfl⟩ := hr
 refine ⟨rfl, rfl, Nat.le_of_ble_eq_true rfl, ?_⟩
 have hm : maxLen = 9223372036854775807 := rfl
 intro _ bs
 (repeat' (first | (refine gate_a fun _ => ?_) | (refine fork_intro (fun hb => ?_) (fun hb => ?_) <;> (try simp only [ew] at hb)) | (simp only [go_sem, Nat.reduceLeDiff, Nat.reduceEqDiff, reduceIte, reduceCtorEq, Nat.reduceAdd, Nat.reduceMul, Nat.reduceSub, Nat.reduceLT, Int.reduceLT, Int.reduceLE, Int.reduceNeg, Int.reduceToNat, Nat.reduceBEq, Nat.reduceBNe, Int.reduceGE, Int.reduceGT, *, cValid, cIsAttr, Tryz.results111])))
theorem validI_ok : ContractOK E0 113 cValid := by
 refine contract_of_wpc (E := E0) (T := mkT Tryz.prog [(46, cIsAttr)] false (fun _ => false) true (fun _ => false)) (mkT_ok (E := E0) (.cons isAttrI_ok .nil)) (fn := Tryz.f113) Tryz.func113 (by kernel_rfl) rfl mixedT (by kernel_rfl) rfl ?_
 intro args p rs ms hr
 unfold cValid at hr
 dsimp only at hr
 split at hr
 rotate_left
 ·cases hr
 rename_i x
 simp only [Option.some.injEq, Prod.mk.injEq] at hr
 obtain ⟨rfl, rfl, rfl⟩ := hr
 refine ⟨rfl, rfl, Nat.le_of_ble_eq_true rfl, ?_⟩
 have hm : maxLen = 9223372036854775807 := rfl
 intro _ bs
 (repeat' (first | (refine gate_a fun _ => ?_) | (refine fork_intro (fun hb => ?_) (fun hb => ?_) <;> (try simp only [ew] at hb)) | (simp only [go_sem, Nat.reduceLeDiff, Nat.reduceEqDiff, reduceIte, reduceCtorEq, Nat.reduceAdd, Nat.reduceMul, Nat.reduceSub, Nat.reduceLT, Int.reduceLT, Int.reduceLE, Int.reduceNeg, Int.reduceToNat, Nat.reduceBEq, Nat.reduceBNe, Int.reduceGE, Int.reduceGT, *, cValid, cIsAttr, Tryz.results113])))
def cHasB : Contract := ⟨[], false, fun
 | [.one (.v (.int .i64 x)), .one (.v (.int .i64 c))] => some (0 ≤ c ∧ c < 64, [⟨false, [.d (.v (.bool (hasB x c)))]⟩], [])
 | _ => none⟩
theorem hasB_ok : ContractOK E0 49 cHasB := by
 refine contract_of_wpc (E := E0) (T := mkT Tryz.prog [] false (fun _ => false) true (fun _ => false)) (mkT_ok (E := E0) .nil) (fn := Tryz.f49) Tryz.func49 (by kernel_rfl) rfl mixedT (by kernel_rfl) rfl ?_
 intro args p rs ms hr
 unfold cHasB at hr
 dsimp only at hr
 split at hr
 rotate_left
 ·cases hr
 rename_i x c
 simp only [Option.some.injEq, Prod.mk.injEq] at hr
 obtain ⟨rfl, rfl, rfl⟩ := hr
 refine ⟨rfl, rfl, Nat.le_of_ble_eq_true rfl, ?_⟩
 have hm : maxLen = 9223372036854775807 := rfl
 rintro ⟨h0, h5⟩ bs
 unfold hasB
 (repeat' (first | (refine gate_a fun _ => ?_) | (refine fork_intro (fun hb => ?_) (fun hb => ?_) <;> (try simp only [ew, bits64] at hb)) | (simp only [go_sem, Nat.reduceLeDiff, Nat.reduceEqDiff, reduceIte, reduceCtorEq, Nat.reduceAdd, Nat.reduceMul, Nat.reduceSub, Nat.reduceLT, Int.reduceLT, Int.reduceLE, Int.reduceNeg, Int.reduceToNat, Nat.reduceBEq, Nat.reduceBNe, Int.reduceGE, Int.reduceGT, *, cHasB, Tryz.results49, bits64])))
end Go.Own
