import Derived.Test.YthopcpiecbofcaaOwnC8
import Derived.Test.YthopcpiecbofcaaOwnC6
namespace Go.Own
open Go Go.Proofs
set_option linter.unusedSimpArgs false
set_option linter.unusedVariables false
set_option maxRecDepth 20000
set_option maxHeartbeats 2000000

/-! Modes, equal cells, agree sets. -/
def modeOK (m : Int) : Bool := m == 0 || m == 1
def eqc (m a b : Int) : Bool := modeOK m && a == b && (m == 0 || a != -1)
def agL (m : Int) (a b : List Int) : Nat → Int
  | 0 => 0
  | c + 1 => if eqc m (a.getD c 0) (b.getD c 0) then bitI .or .i64 (agL m a b c) (1 * 2 ^ c) else agL m a b c
theorem or_key : ∀ x : Fin 32, ∀ c : Fin 5, 0 ≤ bitI .or .i64 ((x.val : Nat) : Int) (1 * 2 ^ c.val) ∧ bitI .or .i64 ((x.val : Nat) : Int) (1 * 2 ^ c.val) ≤ 31 := by decide +kernel
theorem agL_range {m : Int} {a b : List Int} : ∀ {n : Nat}, n ≤ 5 → 0 ≤ agL m a b n ∧ agL m a b n ≤ 31
  | 0, _ => by simp [agL]
  | c + 1, h => by
    have ih := @agL_range m a b c (by omega)
    simp only [agL]
    split
    · have := or_key ⟨(agL m a b c).toNat, by omega⟩ ⟨c, by omega⟩
      rwa [show (((agL m a b c).toNat : Nat) : Int) = agL m a b c by omega] at this
    · exact ih
def depOK (n l r : Int) : Bool := inB n 1 5 && isAttr n l && inB r 0 (n - 1)
def badS (x l r : Int) : Bool := (bitI .and .i64 x l == l) && (bitI .and .i64 (x.fdiv (2 ^ r.toNat)) 1 == 0)
def badI (x l r : Int) : Bool := (bitI .andNot .i64 l x == 0) && !hasB x r
theorem bad_key : ∀ x l : Fin 32, ∀ r : Fin 5, badI ((x.val : Nat) : Int) ((l.val : Nat) : Int) ((r.val : Nat) : Int) = badS ((x.val : Nat) : Int) ((l.val : Nat) : Int) ((r.val : Nat) : Int) := by decide +kernel
theorem bad_eq {x l r : Int} (hx : 0 ≤ x ∧ x ≤ 31) (hl : 0 ≤ l ∧ l ≤ 31) (hr : 0 ≤ r ∧ r ≤ 4) : badI x l r = badS x l r := by
  have := bad_key ⟨x.toNat, by omega⟩ ⟨l.toNat, by omega⟩ ⟨r.toNat, by omega⟩
  rwa [show ((x.toNat : Nat) : Int) = x by omega, show ((l.toNat : Nat) : Int) = l by omega, show ((r.toNat : Nat) : Int) = r by omega] at this

/-! The first pair that breaks a dependency. -/
def dpC (rs : List (List Int)) (c : Nat) (m l r : Int) (i k : Nat) : Bool := badS (agL m (rs.getD i []) (rs.getD k []) c) l r
def dpK (rs : List (List Int)) (c : Nat) (m l r : Int) (i : Nat) : Nat → Nat → Option Nat
  | _, 0 => none
  | k, n + 1 => if dpC rs c m l r i k then some k else dpK rs c m l r i (k + 1) n
def dpI (rs : List (List Int)) (c : Nat) (m l r : Int) : Nat → Nat → Option (Nat × Nat)
  | _, 0 => none
  | i, n + 1 => match dpK rs c m l r i (i + 1) (rs.length - (i + 1)) with
    | some k => some (i, k)
    | none => dpI rs c m l r (i + 1) n
def askOK (c : Int) (rs : List (List Int)) (m l r : Int) : Bool := tabOK c rs && modeOK m && depOK c l r
def wtO (c : Int) (rs : List (List Int)) (m l r : Int) : Option (Nat × Nat) := dpI rs c.toNat m l r 0 rs.length
def hdB (c : Int) (rs : List (List Int)) (m l r : Int) : Bool := askOK c rs m l r && (wtO c rs m l r).isNone
def prI : Option (Nat × Nat) → Int × Int
  | some (i, k) => ((i : Int), (k : Int))
  | none => (-1, -1)
def wtR (c : Int) (rs : List (List Int)) (m l r : Int) : Option (Nat × Nat) := if askOK c rs m l r then wtO c rs m l r else none

theorem p5 {c : Nat} (h : c < 5) : 1 ≤ (2 : Int) ^ c ∧ (2 : Int) ^ c ≤ 16 := by
  have : c = 0 ∨ c = 1 ∨ c = 2 ∨ c = 3 ∨ c = 4 := by omega
  rcases this with rfl | rfl | rfl | rfl | rfl <;> decide

def cMode : Contract := ⟨[], false, fun
  | [.one (.v (.int .i64 m))] => some (True, [⟨false, [.d (.v (.bool (modeOK m)))]⟩], [])
  | _ => none⟩
def cEqc : Contract := ⟨[], false, fun
  | [.one (.v (.int .i64 m)), .one (.v (.int .i64 a)), .one (.v (.int .i64 b))] => some (True, [⟨false, [.d (.v (.bool (eqc m a b)))]⟩], [])
  | _ => none⟩
def cAgree : Contract := ⟨[], false, fun
  | [.one (.v (.int .i64 m)), .one (.sl 1 a), .one (.sl 1 b)] => some (WfI a ∧ WfI b ∧ a.length = b.length ∧ a.length ≤ 5, [⟨false, [.d (.v (.int .i64 (agL m (unI a) (unI b) a.length)))]⟩], [])
  | _ => none⟩
def cL4A : Contract := ⟨[], false, fun
  | [.agg [.v (.int .i64 c), .sl 1 l], .one (.v (.int .i64 m)), .one (.v (.int .i64 i)), .one (.v (.int .i64 k))] => some (WfS l ∧ tabOK c (unS l) = true ∧ (0 ≤ i ∧ i < l.length) ∧ 0 ≤ k ∧ k < l.length,
      [⟨false, [.d (.v (.int .i64 (agL m ((unS l).getD i.toNat []) ((unS l).getD k.toNat []) c.toNat)))]⟩], [])
  | _ => none⟩
theorem tab_rows {c : Int} {rs : List (List Int)} (h : tabOK c rs = true) : ∃ c' : Nat, c = c' ∧ 1 ≤ c' ∧ c' ≤ 5 ∧ rs.length ≤ 40 ∧ ∀ i, i < rs.length → (rs.getD i []).length = c' := by
  have h1 := tab_c h
  have h2 : inB 0 0 (c - 1) = true := inB_iff.2 ⟨by omega, by omega⟩
  obtain ⟨a', c', _, h3, _, h4, h5⟩ := col_facts h h2
  exact ⟨c', h3, by omega, by omega, h4, h5⟩
def cDep : Contract := ⟨[], false, fun
  | [.one (.v (.int .i64 n)), .agg [.v (.int .i64 l), .v (.int .i64 r)]] => some (-9223372036854775808 ≤ n ∧ n ≤ 9223372036854775807, [⟨false, [.d (.v (.bool (depOK n l r)))]⟩], [])
  | _ => none⟩
def cAsk : Contract := ⟨[], false, fun
  | [.agg [.v (.int .i64 c), .sl 1 t], .one (.v (.int .i64 m)), .agg [.v (.int .i64 l), .v (.int .i64 r)]] => some (WfS t ∧ -9223372036854775808 ≤ c ∧ c ≤ 9223372036854775807, [⟨false, [.d (.v (.bool (askOK c (unS t) m l r)))]⟩], [])
  | _ => none⟩
def cFine : Contract := ⟨[], false, fun
  | [.agg [.v (.int .i64 c), .sl 1 t], .one (.v (.int .i64 m))] => some (WfS t ∧ -9223372036854775808 ≤ c ∧ c ≤ 9223372036854775807, [⟨false, [.d (.v (.bool (tabOK c (unS t) && modeOK m)))]⟩], [])
  | _ => none⟩
end Go.Own
