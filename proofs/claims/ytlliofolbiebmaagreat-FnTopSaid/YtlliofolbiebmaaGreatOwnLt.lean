/-
  What comes behind a region is kept out of sight while the region is reckoned. Conditions: none.
-/
import Derived.Test.YtlliofolbiebmaaGreatOwnZ5
namespace Go.Own
open Go
section
variable {T : Tabs} {Q : Exit → St → Prop} {s : St}
def RS (T : Tabs) (ops : Array Oper) (K : St → Prop) (l : List Oper) (s : St) : Prop := TL T ops K l s
theorem wpc_regionL {i : Nat} {ops : Array Oper} {dr : Bool} : wpc T (.region i ops dr) Q s = RS T ops (Q .normal) ops.toList s := rfl
attribute [irreducible] RS
theorem round_let {c : Code} {nm : Bool} {I : LoopInv} {i : I.ι} {rs : List (Nat × Nat)} {ps : List (Nat × Pat)} {al : List (Nat × Nat)} (h : let Qx := Q; let sx := s; wpc T c (loopK nm I i Qx) (headStA rs sx ps al)) : wpc T c (loopK nm I i Q) (headStA rs s ps al) := h
end
end Go.Own
