/- Own calculus and contracts, OwnY1: OwnE3, OwnF1. Conditions: as each theorem states them. -/
import Derived.Test.YthopcpiecbofcaaOwnE2
import Derived.Test.YthopcpiecbofcaaOwnY3
namespace Go.Own
open Go Go.Proofs
set_option linter.unusedSimpArgs false
set_option linter.unusedVariables false
set_option maxRecDepth 20000
set_option maxHeartbeats 2000000

def cInside : Contract := ⟨[], false, fun
  | [.one (.v (.int .i64 x)), .one (.v (.int .i64 y))] => some (True, [⟨false, [.d (.v (.bool (bitI .andNot .i64 x y == 0)))]⟩], [])
  | _ => none⟩
theorem ask_facts {c : Int} {rs : List (List Int)} {m l r : Int} (h : askOK c rs m l r = true) : tabOK c rs = true ∧ (0 ≤ l ∧ l ≤ 31) ∧ 0 ≤ r ∧ r ≤ 4 := by
  simp only [askOK, depOK, Bool.and_eq_true, inB_iff] at h
  have := isAttr_le h.2.1.2
  have h2 := tab_c h.1.1
  exact ⟨h.1.1, ⟨this.2.2.1, this.2.2.2⟩, h.2.2.1, by omega⟩

def cPair : Contract := ⟨[], false, fun
  | [.agg [.v (.int .i64 c), .sl 1 t], .one (.v (.int .i64 m)), .agg [.v (.int .i64 l), .v (.int .i64 r)]] => some (WfS t ∧ askOK c (unS t) m l r = true,
      [⟨false, [.d (.v (.int .i64 (prI (wtO c (unS t) m l r)).1))]⟩, ⟨false, [.d (.v (.int .i64 (prI (wtO c (unS t) m l r)).2))]⟩], [])
  | _ => none⟩

theorem prI_neg {o : Option (Nat × Nat)} : decide ((prI o).1 < 0) = o.isNone := by
  cases o with
  | none => rfl
  | some q => 
    show decide ((q.1 : Int) < 0) = false
    exact decide_eq_false (by omega)

def cHold : Contract := ⟨[], false, fun
  | [.agg [.v (.int .i64 c), .sl 1 t], .one (.v (.int .i64 m)), .agg [.v (.int .i64 l), .v (.int .i64 r)]] => some (WfS t ∧ -9223372036854775808 ≤ c ∧ c ≤ 9223372036854775807, [⟨false, [.d (.v (.bool (hdB c (unS t) m l r)))]⟩], [])
  | _ => none⟩

def cWit : Contract := ⟨[], false, fun
  | [.agg [.v (.int .i64 c), .sl 1 t], .one (.v (.int .i64 m)), .agg [.v (.int .i64 l), .v (.int .i64 r)]] => some (WfS t ∧ -9223372036854775808 ≤ c ∧ c ≤ 9223372036854775807,
      [⟨false, [.d (.v (.int .i64 (prI (wtR c (unS t) m l r)).1))]⟩, ⟨false, [.d (.v (.int .i64 (prI (wtR c (unS t) m l r)).2))]⟩, ⟨false, [.d (.v (.bool (wtR c (unS t) m l r).isSome))]⟩], [])
  | _ => none⟩

/-! HoldsPattern -/
def hpB (c : Int) (rs : List (List Int)) (m a v l r : Int) : Bool := colsOK c rs a a && inB v 0 40 && hdB (selC c rs a) (selR c rs a v) m l r
def cHP : Contract := ⟨[], false, fun
  | [.agg [.v (.int .i64 c), .sl 1 t], .one (.v (.int .i64 m)), .agg [.v (.int .i64 a), .v (.int .i64 v), .v (.int .i64 l), .v (.int .i64 r)]] => some (WfS t ∧ -9223372036854775808 ≤ c ∧ c ≤ 9223372036854775807, [⟨false, [.d (.v (.bool (hpB c (unS t) m a v l r)))]⟩], [])
  | _ => none⟩
theorem selC_le {c : Int} {rs : List (List Int)} {a : Int} (h1 : -9223372036854775808 ≤ c) (h2 : c ≤ 9223372036854775807) : -9223372036854775808 ≤ selC c rs a ∧ selC c rs a ≤ 9223372036854775807 := by
  unfold selC; split <;> omega
theorem selR_max {c : Int} {rs : List (List Int)} {a v : Int} {B : Nat} (h1 : rs.length ≤ B) (h2 : ∀ r ∈ rs, r.length ≤ B) : (selR c rs a v).length ≤ B ∧ ∀ r ∈ selR c rs a v, r.length ≤ B := by
  obtain ⟨s1, s2⟩ := @selR_sub c rs a v
  exact ⟨Nat.le_trans s1 h1, fun r hr => h2 r (s2 r hr)⟩

def cLawTIP : Contract := ⟨[], false, fun
  | [.agg [.v (.int .i64 c), .sl 1 t], .one (.v (.int .i64 m)), .agg [.v (.int .i64 a), .v (.int .i64 v), .v (.int .i64 l), .v (.int .i64 r)]] => some (WfS t ∧ -9223372036854775808 ≤ c ∧ c ≤ 9223372036854775807, [⟨false, [.d (.v (.bool true))]⟩], [])
  | _ => none⟩
end Go.Own

namespace Go.Own
open Go Go.Proofs
set_option linter.unusedSimpArgs false
set_option linter.unusedVariables false
set_option maxRecDepth 20000
set_option maxHeartbeats 2000000

attribute [local go_sem] unD_dL dL_length dL_get dL_set dL_inj wfD_dL scal2 beq2 pair_eta

/-! Valid dependencies, valid rows. -/
def depsOK (n : Int) (ds : List (Int × Int)) : Bool := ds.all (fun d => depOK n d.1 d.2) && (inB n 1 5 && decide ((ds.length : Int) ≤ 20))
def cAreDeps : Contract := ⟨[], false, fun
  | [.one (.v (.int .i64 n)), .one (.sl 2 l)] => some (WfD l ∧ -9223372036854775808 ≤ n ∧ n ≤ 9223372036854775807, [⟨false, [.d (.v (.bool (depsOK n (unD l))))]⟩], [])
  | _ => none⟩
def rowG (n : Int) (r : List Int) : Bool := rowOK r n && !r.contains (-1)
def rowsOK (n : Int) (rs : List (List Int)) : Bool := rs.all (rowG n) && decide ((rs.length : Int) ≤ 40)
theorem rowG_eq {n : Int} {r : List Int} : (!rowOK r n || r.contains (-1)) = !rowG n r := by unfold rowG; cases rowOK r n <;> simp
def cAreRows : Contract := ⟨[], false, fun
  | [.one (.v (.int .i64 n)), .one (.sl 1 t)] => some (WfS t ∧ -9223372036854775808 ≤ n ∧ n ≤ 9223372036854775807, [⟨false, [.d (.v (.bool (rowsOK n (unS t))))]⟩], [])
  | _ => none⟩
/-! Copies of rows. -/
def cCopyR : Contract := ⟨[], false, fun
  | [.one (.sl 1 t)] => some (WfS t ∧ t.length ≤ 16777216 ∧ ∀ r ∈ unS t, r.length ≤ 16777216, [⟨false, [.own 1 t 1]⟩], [])
  | _ => none⟩
/-! One step of the chase. -/
def mergeC (c : Nat) (a b : Int) (r : List Int) : List Int := if r.getD c 0 = max a b then r.set c (min a b) else r
def csFind (n : Int) (rs : List (List Int)) : List (Int × Int) → Option (List (List Int))
  | [] => none
  | d :: r => match wtO n rs 0 d.1 d.2 with
    | some (i, k) => some (rs.map (mergeC d.2.toNat ((rs.getD i []).getD d.2.toNat 0) ((rs.getD k []).getD d.2.toNat 0)))
    | none => csFind n rs r
def csStep (n : Int) (ds : List (Int × Int)) (rs : List (List Int)) : Option (List (List Int)) := if depsOK n ds && rowsOK n rs then csFind n rs ds else none
theorem mergeC_length {c : Nat} {a b : Int} {r : List Int} : (mergeC c a b r).length = r.length := by unfold mergeC; split <;> simp
def eqtR (rs : List (List Int)) (c : Nat) (a b : Int) : List (List Int) := rs.map (mergeC c a b)
def cEquate : Contract := ⟨[], false, fun
  | [.one (.sl 1 t), .one (.v (.int .i64 c)), .one (.v (.int .i64 a)), .one (.v (.int .i64 b))] => some (WfS t ∧ (t.length ≤ 16777216 ∧ ∀ r ∈ unS t, r.length ≤ 16777216) ∧ 0 ≤ c ∧ ∀ r ∈ unS t, c < r.length, [⟨false, [.own 1 (sL (eqtR (unS t) c.toNat a b)) 1]⟩], [])
  | _ => none⟩
theorem eqt_take {rs : List (List Int)} {c : Nat} {a b : Int} {i : Nat} (h : i < rs.length) : eqtR (rs.take (i + 1)) c a b = eqtR (rs.take i) c a b ++ [mergeC c a b (rs.getD i [])] := by
  rw [take_succ_getD h []]; simp [eqtR]
theorem getD_mem {α : Type} {l : List α} {i : Nat} (h : i < l.length) (d : α) : l.getD i d ∈ l := by simp [List.getD_eq_getElem?_getD, h]
end Go.Own
