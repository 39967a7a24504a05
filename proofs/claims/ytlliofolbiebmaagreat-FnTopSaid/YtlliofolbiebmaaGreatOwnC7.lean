import Derived.Test.YtlliofolbiebmaaGreatOwnC6
import Derived.Test.YtlliofolbiebmaaGreatOwnC4
set_option linter.unusedSimpArgs false
set_option linter.unusedVariables false
set_option maxRecDepth 20000
set_option maxHeartbeats 2000000
namespace Go.Own
open Go Go.Proofs
theorem all_drop' {xs : List Int} {i : Nat} (h : i < xs.length) (f : Int → Bool) : (xs.drop i).all f = (f (xs.getD i 0) && (xs.drop (i + 1)).all f) := all_drop h 0 f
def csRow (n : Nat) (x v : Int) : List Int := (List.range n).map fun c => if hasB x (c : Nat) then 0 else v
def cRowFor : Contract := ⟨[], false, fun
 | [.one (.v (.int .i64 n)), .one (.v (.int .i64 x)), .one (.v (.int .i64 v))] => some (0 ≤ n ∧ n ≤ 5, [⟨false, [.own 1 (iL (csRow n.toNat x v)) 1]⟩], [])
 | _ => none⟩
theorem csRow_length {n : Nat} {x v : Int} : (csRow n x v).length = n := by simp [csRow]
theorem csRow_succ {n : Nat} {x v : Int} : csRow (n + 1) x v = csRow n x v ++ [if hasB x (n : Nat) then 0 else v] := by simp [csRow, List.range_succ]
theorem rowFor_ok : ContractOK E0 58 cRowFor := by
 refine contract_of_wpc (E := E0) (T := mkT Tryz.prog [(49, cHasB)] false (fun _ => false) true (fun _ => false)) (mkT_ok (E := E0) (.cons hasB_ok .nil)) (fn := Tryz.f58) Tryz.func58 (by kernel_rfl) rfl mixedT (by kernel_rfl) rfl ?_
 intro args p rs ms hr
 unfold cRowFor at hr
 dsimp only at hr
 split at hr
 rotate_left
 ·cases hr
 rename_i n x v
 simp only [Option.some.injEq, Prod.mk.injEq] at hr
 obtain ⟨rfl, rfl, rfl⟩ := hr
 refine ⟨rfl, rfl, Nat.le_of_ble_eq_true rfl, ?_⟩
 have hm : maxLen = 9223372036854775807 := rfl
 rintro ⟨h0, h5⟩ bs
 obtain ⟨n, rfl⟩ := Int.eq_ofNat_of_zero_le h0
 rw [Int.toNat_natCast]
 (repeat' (first | (refine gate_a fun _ => ?_) | (refine fork_intro (fun hb => ?_) (fun hb => ?_) <;> (try simp only [ew] at hb)) | (simp only [go_sem, Nat.reduceLeDiff, Nat.reduceEqDiff, reduceIte, reduceCtorEq, Nat.reduceAdd, Nat.reduceMul, Nat.reduceSub, Nat.reduceLT, Int.reduceLT, Int.reduceLE, Int.reduceNeg, Int.reduceToNat, Nat.reduceBEq, Nat.reduceBNe, Int.reduceGE, Int.reduceGT, *, cRowFor, cHasB, Tryz.results58])))
 refine loop_intro { ι := Nat, rs := [(8, 9), (14, 25)], mods := [(13, fun i => .one (.d (.v (.int .i64 i))))], boxes := [], arrs := [(7, fun i => (1, iL (csRow i x v ++ List.replicate (n - i) 0), 1))], ok := fun i => i ≤ n, mu := fun i => n - i } rfl 0 (Nat.zero_le _) ?_ fun i hi => ?_
 ·(repeat' (first | (refine gate_a fun _ => ?_) | (refine fork_intro (fun hb => ?_) (fun hb => ?_) <;> (try simp only [ew] at hb)) | (simp only [go_sem, Nat.reduceLeDiff, Nat.reduceEqDiff, reduceIte, reduceCtorEq, Nat.reduceAdd, Nat.reduceMul, Nat.reduceSub, Nat.reduceLT, Int.reduceLT, Int.reduceLE, Int.reduceNeg, Int.reduceToNat, Nat.reduceBEq, Nat.reduceBNe, Int.reduceGE, Int.reduceGT, *, cRowFor, cHasB, Tryz.results58])))
  simp [iL, csRow]
 ·dsimp only at i hi
  (repeat' (first | (refine gate_a fun _ => ?_) | (refine fork_intro (fun hb => ?_) (fun hb => ?_) <;> (try simp only [ew, csRow_length] at hb)) | (simp only [go_sem, Nat.reduceLeDiff, Nat.reduceEqDiff, reduceIte, reduceCtorEq, Nat.reduceAdd, Nat.reduceMul, Nat.reduceSub, Nat.reduceLT, Int.reduceLT, Int.reduceLE, Int.reduceNeg, Int.reduceToNat, Nat.reduceBEq, Nat.reduceBNe, Int.reduceGE, Int.reduceGT, *, cRowFor, cHasB, Tryz.results58, csRow_length])))
  ·have hb := ‹hasB x (i : Nat) = false›
   have e : (csRow i x v ++ List.replicate (n - i) 0).set i v = csRow (i + 1) x v ++ List.replicate (n - (i + 1)) 0 := by
    rw [List.set_append_right _ _ (by rw [csRow_length]; omega), csRow_length, Nat.sub_self, show n - i = n - (i + 1) + 1 by omega, List.replicate_succ, List.set_cons_zero, csRow_succ, hb]
    simp
   refine loop_next (i + 1) (by dsimp only; omega) (by dsimp only; omega) ?_
   (repeat' (first | (refine gate_a fun _ => ?_) | (refine fork_intro (fun hb => ?_) (fun hb => ?_) <;> (try simp only [ew, e] at hb)) | (simp only [go_sem, Nat.reduceLeDiff, Nat.reduceEqDiff, reduceIte, reduceCtorEq, Nat.reduceAdd, Nat.reduceMul, Nat.reduceSub, Nat.reduceLT, Int.reduceLT, Int.reduceLE, Int.reduceNeg, Int.reduceToNat, Nat.reduceBEq, Nat.reduceBNe, Int.reduceGE, Int.reduceGT, *, cRowFor, cHasB, Tryz.results58, e])))
  ·have hb := ‹hasB x (i : Nat) = true›
   have e : csRow i x v ++ List.replicate (n - i) 0 = csRow (i + 1) x v ++ List.replicate (n - (i + 1)) 0 := by
    rw [csRow_succ, hb, show n - i = n - (i + 1) + 1 by omega, List.replicate_succ]; simp
   refine loop_next (i + 1) (by dsimp only; omega) (by dsimp only; omega) ?_
   (repeat' (first | (refine gate_a fun _ => ?_) | (refine fork_intro (fun hb => ?_) (fun hb => ?_) <;> (try simp only [ew, e] at hb)) | (simp only [go_sem, Nat.reduceLeDiff, Nat.reduceEqDiff, reduceIte, reduceCtorEq, Nat.reduceAdd, Nat.reduceMul, Nat.reduceSub, Nat.reduceLT, Int.reduceLT, Int.reduceLE, Int.reduceNeg, Int.reduceToNat, Nat.reduceBEq, Nat.reduceBNe, Int.reduceGE, Int.reduceGT, *, cRowFor, cHasB, Tryz.results58, e])))
  ·have e : i = n := by omega
   subst e
   simp
theorem sL_snoc' {rs : List (List Int)} {r : List Int} : sL rs ++ [[D.sl 1 (iL r)]] = sL (rs ++ [r]) := by simp [sL]
end Go.Own
