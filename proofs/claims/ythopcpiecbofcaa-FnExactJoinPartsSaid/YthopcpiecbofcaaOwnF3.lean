import Derived.Test.YthopcpiecbofcaaOwnF2
import Derived.Test.YthopcpiecbofcaaOwnE1
namespace Go.Own
open Go Go.Proofs
set_option linter.unusedSimpArgs false
set_option linter.unusedVariables false
set_option maxRecDepth 20000
set_option maxHeartbeats 2000000

attribute [local go_sem] unD_dL dL_length dL_get dL_set dL_inj wfD_dL scal2 beq2 pair_eta

def mgL (rs : List (List Int)) (c : Nat) (a b : Int) (j : Nat) : List (List Int) := eqtR (rs.take j) c a b ++ rs.drop j
theorem mgL_length {rs : List (List Int)} {c : Nat} {a b : Int} {j : Nat} : (mgL rs c a b j).length = rs.length := by
  simp only [mgL, eqtR, List.length_append, List.length_map, List.length_take, List.length_drop]; omega
theorem mgL_get {rs : List (List Int)} {c : Nat} {a b : Int} {j : Nat} (h : j < rs.length) : (mgL rs c a b j).getD j [] = rs.getD j [] := by
  have e : (eqtR (rs.take j) c a b).length = j := by simp [eqtR]; omega
  unfold mgL
  rw [List.getD_eq_getElem?_getD, List.getElem?_append_right (by omega), e, Nat.sub_self, drop_getD h []]; simp
theorem mgL_set {rs : List (List Int)} {c : Nat} {a b : Int} {j : Nat} (h : j < rs.length) : (mgL rs c a b j).set j (mergeC c a b (rs.getD j [])) = mgL rs c a b (j + 1) := by
  have e : (eqtR (rs.take j) c a b).length = j := by simp [eqtR]; omega
  unfold mgL
  rw [List.set_append_right _ _ (by omega), e, Nat.sub_self, drop_getD h [], List.set_cons_zero, eqt_take h]
  simp
theorem mgL_keep {rs : List (List Int)} {c : Nat} {a b : Int} {j : Nat} (h : j < rs.length) (e : mergeC c a b (rs.getD j []) = rs.getD j []) : mgL rs c a b j = mgL rs c a b (j + 1) := by
  unfold mgL
  rw [eqt_take h, e, drop_getD h []]; simp

end Go.Own
