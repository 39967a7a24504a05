/- Own contracts. Conditions: as each theorem states them. -/
import Derived.Test.YtlliofolbiebmaaGreatOwnC6
import Derived.Test.YtlliofolbiebmaaGreatOwnY3
import Derived.Test.YtlliofolbiebmaaGreatOwnTt
set_option linter.unusedSimpArgs false
set_option linter.unusedVariables false
set_option maxRecDepth 20000
set_option maxHeartbeats 2000000
namespace Go.Own
open Go Go.Proofs
theorem unB_bL (ns : List Int) : unB (bL ns) = ns := by simp [unB, bL, Function.comp_def]
theorem bL_length (ns : List Int) : (bL ns).length = ns.length := by simp [bL]
theorem bL_snoc (ns : List Int) (n : Int) : bL ns ++ [[D.v (.int .u8 n)]] = bL (ns ++ [n]) := by simp [bL]
attribute [local go_sem] unB_bL bL_length bL_snoc
def memN (x : Int) : Nat → List Int
 | 0 => []
 | n + 1 => memN x n ++ (if hasB x (n : Nat) then [(n : Int)] else [])
def mem (x : Int) : List Int := if isAttr 5 x then memN x 5 else []
theorem memN_length {x : Int} : ∀ {n : Nat}, (memN x n).length ≤ n
 | 0 => Nat.le_refl _
 | n + 1 => by
  have := @memN_length x n
  simp only [memN, List.length_append]
  split <;> simp <;> omega
theorem memN_range {x : Int} : ∀ {n : Nat}, ∀ m ∈ memN x n, 0 ≤ m ∧ m < n
 | 0, m, h => by cases h
 | n + 1, m, h => by
  simp only [memN, List.mem_append] at h
  rcases h with h | h
  ·have := memN_range m h; omega
  ·split at h
   ·simp at h; omega
   ·cases h
def cMem : Contract := ⟨[], false, fun
 | [.one (.v (.int .i64 x))] => some (True, [⟨false, [.own 1 (iL (mem x)) 1]⟩], [])
 | _ => none⟩
def faL (x : Int) : List Int := if isAttr 5 x then (if x = 0 then [110, 111, 110, 101] else (memN x 5).map (65 + ·)) else []
def fa (x : Int) : ByteArray := baOf (faL x)
theorem mem_len {x : Int} : (mem x).length ≤ 5 := by
 unfold mem; split
 ·exact memN_length
 ·simp
theorem mem_range {x : Int} {i : Nat} (h : i < (mem x).length) : 0 ≤ (mem x).getD i 0 ∧ (mem x).getD i 0 < 5 := by
 have hm : (mem x).getD i 0 ∈ mem x := by simp [List.getD_eq_getElem?_getD, h]
 unfold mem at hm ⊢
 split at hm
 ·rename_i hv
  rw [if_pos hv]
  exact memN_range (n := 5) _ hm
 ·cases hm
end Go.Own
namespace Go.Own
open Go Go.Proofs
attribute [local go_sem] unB_bL bL_length bL_snoc
def tL (ss : List ByteArray) : List (List D) := ss.map fun s => [D.v (.string s)]
def unT (l : List (List D)) : List ByteArray := l.map fun
 | [.v (.string s)] => s
 | _ => ⟨#[]⟩
theorem unT_tL (ss : List ByteArray) : unT (tL ss) = ss := by simp [unT, tL, Function.comp_def]
theorem tL_length (ss : List ByteArray) : (tL ss).length = ss.length := by simp [tL]
theorem tL_snoc (ss : List ByteArray) (s : ByteArray) : tL ss ++ [[D.v (.string s)]] = tL (ss ++ [s]) := by simp [tL]
def WfL (l : List (List D)) : Prop := l = tL (unT l) ∧ l.length ≤ maxLen
theorem wfL_tL {ss : List ByteArray} : WfL (tL ss) ↔ ss.length ≤ maxLen := by simp [WfL, unT_tL, tL_length]
attribute [local go_sem] unB_bL bL_length bL_snoc unT_tL tL_length tL_snoc wfL_tL
def fdOK (q : Int × Int) : Bool := isAttr 5 q.1 && inB q.2 0 4
def fd (q : Int × Int) : ByteArray := if fdOK q then (fa q.1 ++ ⟨#[62]⟩) ++ fa (1 * 2 ^ q.2.toNat) else ⟨#[]⟩
end Go.Own
