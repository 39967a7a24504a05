import Derived.Test.YtnjijpgnfjghfaaGreatOwnC6
import Derived.Test.YtnjijpgnfjghfaaGreatOwnC4
namespace Go.Own
open Go Go.Proofs
set_option linter.unusedSimpArgs false
set_option linter.unusedVariables false
set_option maxRecDepth 20000
set_option maxHeartbeats 2000000

/-! Parts. -/
def partF (n x : Int) : Bool := isAttr n x && !(x == 0)
def orAll (acc : Int) : List Int → Int
  | [] => acc
  | x :: r => orAll (bitI .or .i64 acc x) r
def partsOK (n : Int) (ps : List Int) : Bool := ps.all (partF n) && (inB n 1 5 && inB ps.length 1 10 && (orAll 0 ps == all2 n))

def cParts : Contract := ⟨[], false, fun
  | [.one (.v (.int .i64 n)), .one (.sl 1 l)] => some (WfI l, [⟨false, [.d (.v (.bool (partsOK n (unI l))))]⟩], [])
  | _ => none⟩

theorem all_drop' {xs : List Int} {i : Nat} (h : i < xs.length) (f : Int → Bool) : (xs.drop i).all f = (f (xs.getD i 0) && (xs.drop (i + 1)).all f) := all_drop h 0 f

theorem partF_eq {n x : Int} : partF n x = !(!isAttr n x || x == 0) := by
  unfold partF; cases isAttr n x <;> cases (x == 0) <;> rfl

/-! rowFor -/
def csRow (n : Nat) (x v : Int) : List Int := (List.range n).map fun c => if hasB x (c : Nat) then 0 else v
def cRowFor : Contract := ⟨[], false, fun
  | [.one (.v (.int .i64 n)), .one (.v (.int .i64 x)), .one (.v (.int .i64 v))] => some (0 ≤ n ∧ n ≤ 5, [⟨false, [.own 1 (iL (csRow n.toNat x v)) 1]⟩], [])
  | _ => none⟩

theorem csRow_length {n : Nat} {x v : Int} : (csRow n x v).length = n := by simp [csRow]
theorem csRow_succ {n : Nat} {x v : Int} : csRow (n + 1) x v = csRow n x v ++ [if hasB x (n : Nat) then 0 else v] := by simp [csRow, List.range_succ]

/-! ChaseStart -/
def csGo (n : Nat) : List Int → Int → List (List Int)
  | [], _ => []
  | x :: r, i => csRow n x (i + 1) :: csGo n r (i + 1)
def csF (n : Int) (ps : List Int) : List (List Int) := if partsOK n ps then csGo n.toNat ps 0 else []
theorem csGo_snoc : ∀ {n : Nat} {ps : List Int} {x i : Int}, csGo n (ps ++ [x]) i = csGo n ps i ++ [csRow n x (i + ps.length + 1)]
  | n, [], x, i => by simp [csGo]
  | n, y :: ps, x, i => by
    simp only [List.cons_append, csGo, csGo_snoc, List.length_cons]
    rw [show i + 1 + (ps.length : Int) + 1 = i + ((ps.length + 1 : Nat) : Int) + 1 by omega]
theorem csGo_length : ∀ {n : Nat} {ps : List Int} {i : Int}, (csGo n ps i).length = ps.length
  | _, [], _ => rfl
  | n, x :: ps, i => by simp [csGo, csGo_length]
theorem csGo_take {n : Nat} {ps : List Int} {i : Nat} (h : i < ps.length) : csGo n (ps.take (i + 1)) 0 = csGo n (ps.take i) 0 ++ [csRow n (ps.getD i 0) ((i : Int) + 1)] := by
  rw [take_succ_getD h 0, csGo_snoc]
  have : (ps.take i).length = i := by rw [List.length_take]; omega
  rw [this, Int.zero_add]
theorem csGo_lens : ∀ {n : Nat} {ps : List Int} {i : Int}, ∀ r ∈ csGo n ps i, r.length = n
  | _, [], _, r, h => by cases h
  | n, x :: ps, i, r, h => by
    rcases List.mem_cons.1 h with rfl | h
    · exact csRow_length
    · exact csGo_lens r h
theorem sL_snoc' {rs : List (List Int)} {r : List Int} : sL rs ++ [[D.sl 1 (iL r)]] = sL (rs ++ [r]) := by simp [sL]
theorem parts_facts {n : Int} {ps : List Int} (h : partsOK n ps = true) : 1 ≤ n ∧ n ≤ 5 ∧ 1 ≤ ps.length ∧ ps.length ≤ 10 := by
  simp only [partsOK, Bool.and_eq_true, inB_iff] at h
  omega

def cCS : Contract := ⟨[], false, fun
  | [.one (.v (.int .i64 n)), .one (.sl 1 l)] => some (WfI l, [⟨false, [.own 1 (sL (csF n (unI l))) 1]⟩], [])
  | _ => none⟩

/-! The law. -/
theorem tot_le : ∀ {rs : List (List Int)} {B : Nat}, (∀ r ∈ rs, r.length ≤ B) → tot rs ≤ rs.length * B
  | [], _, _ => by simp [tot]
  | r :: rs, B, h => by
    have h1 := h r (by simp)
    have h2 := tot_le (rs := rs) fun r hr => h r (by simp [hr])
    simp only [tot, List.length_cons]
    have h3 : (((rs.length + 1 : Nat) : Int)) * B = (rs.length : Int) * B + B := by rw [Int.natCast_add, Int.add_mul]; simp
    rw [h3]; omega

theorem csF_facts {n : Int} {ps : List Int} : (csF n ps).length ≤ 10 ∧ (∀ r ∈ csF n ps, r.length ≤ 5) ∧ tot (csF n ps) ≤ 50 := by
  have h1 : (csF n ps).length ≤ 10 ∧ ∀ r ∈ csF n ps, r.length ≤ 5 := by
    unfold csF
    split
    · obtain ⟨f1, f2, f3, f4⟩ := parts_facts ‹_›
      refine ⟨by rw [csGo_length]; omega, fun r hr => ?_⟩
      rw [csGo_lens r hr]; omega
    · simp
  refine ⟨h1.1, h1.2, ?_⟩
  have := tot_le (B := 5) h1.2
  have h2 : ((csF n ps).length : Int) * ((5 : Nat) : Int) ≤ 50 := by omega
  omega

theorem markRows_le {rs : List (List Int)} {k : Int} {B : Nat} (h : ∀ r ∈ rs, r.length ≤ B) : ∀ r ∈ markRows rs k, r.length ≤ B := by
  intro r hr
  have : r.length ∈ (markRows rs k).map List.length := List.mem_map.2 ⟨r, hr, rfl⟩
  rw [markRows_lens] at this
  obtain ⟨r', hr', e⟩ := List.mem_map.1 this
  rw [← e]; exact h r' hr'
theorem tot_markRows : ∀ {rs : List (List Int)} {k : Int}, tot (markRows rs k) = tot rs
  | [], _ => rfl
  | r :: rs, k => by simp [markRows, tot, marks_length, tot_markRows]

def cLawCS : Contract := ⟨[], false, fun
  | [.one (.v (.int .i64 n)), .one (.sl 1 l)] => some (WfI l, [⟨false, [.d (.v (.bool true))]⟩], [])
  | _ => none⟩

end Go.Own
