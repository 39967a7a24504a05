import Derived.Test.YthejclmonnpncaaGreatDoorOwnY5
import Derived.Test.YthejclmonnpncaaGreatDoorOwnJoin
namespace Go.Own
open Go Go.Proofs
set_option linter.unusedSimpArgs false
set_option linter.unusedVariables false
set_option maxRecDepth 20000
set_option maxHeartbeats 2000000

attribute [local go_sem] unB_bL bL_length bL_snoc

attribute [local go_sem] unB_bL bL_length bL_snoc unT_tL tL_length tL_snoc wfL_tL

/-- The strings with a separator between. -/
def jb (sep : ByteArray) (ss : List ByteArray) : ByteArray := ⟨(Lib.join (ss.map (·.data.toList)) sep.data.toList).toArray⟩
theorem jb_nil {sep : ByteArray} : jb sep [] = ⟨#[]⟩ := rfl
theorem jb_one {sep s : ByteArray} : jb sep [s] = s := ba_ext (show Lib.join [s.data.toList] sep.data.toList = s.data.toList from Lib.join_one _ _)
theorem joinTail_snoc (sep : List UInt8) (r : List (List UInt8)) (y : List UInt8) : Lib.joinTail sep (r ++ [y]) = Lib.joinTail sep r ++ (sep ++ y) := by
  unfold Lib.joinTail
  rw [List.map_append, List.flatten_append, List.map_cons, List.map_nil, List.flatten_cons, List.flatten_nil, List.append_nil]
theorem jb_list {sep : ByteArray} {ss : List ByteArray} : (jb sep ss).data.toList = Lib.join (ss.map (·.data.toList)) sep.data.toList := rfl
theorem jb_snoc {sep s : ByteArray} {ss : List ByteArray} (h : ss ≠ []) : jb sep (ss ++ [s]) = (jb sep ss ++ sep) ++ s := by
  cases ss with
  | nil => exact absurd rfl h
  | cons x r =>
    apply ba_ext
    rw [ba_app, ba_app, jb_list, jb_list, List.cons_append, List.map_cons, List.map_cons, Lib.join_cons, Lib.join_cons, List.map_append, List.map_cons, List.map_nil, joinTail_snoc]
    simp only [List.append_assoc]
def lensB (ss : List ByteArray) : Nat := (ss.map (·.size)).sum
theorem jb_size {sep : ByteArray} {B : Nat} : ∀ {ss : List ByteArray}, (∀ s ∈ ss, s.size ≤ B) → (jb sep ss).size ≤ ss.length * (B + sep.size)
  | [], _ => Nat.zero_le _
  | x :: r, h => by
    have e : (jb sep (x :: r)).size = x.size + (Lib.joinTail sep.data.toList (r.map (·.data.toList))).length := by
      simp only [jb, List.map_cons, Lib.join_cons, ByteArray.size, List.size_toArray, List.length_append, Array.length_toList]
    have t : ∀ r : List ByteArray, (∀ s ∈ r, s.size ≤ B) → (Lib.joinTail sep.data.toList (r.map (·.data.toList))).length ≤ r.length * (B + sep.size) := by
      intro r
      induction r with
      | nil => intro _; simp [Lib.joinTail]
      | cons y r ih =>
        intro h
        have h1 := h y (by simp)
        have h2 := ih fun s hs => h s (by simp [hs])
        simp only [Lib.joinTail, List.map_cons, List.flatten_cons, List.length_append, Array.length_toList] at h2 ⊢
        have e1 : sep.data.size = sep.size := rfl
        have e2 : y.data.size = y.size := rfl
        rw [e1, e2, List.length_cons, Nat.succ_mul]
        omega
    have h1 := h x (by simp)
    have h2 := t r fun s hs => h s (by simp [hs])
    rw [e, List.length_cons, Nat.succ_mul]
    omega

/-! strings.Join -/
def cJoin : Contract := ⟨[], false, fun
  | [.one (.sl 1 l), .one (.v (.string sep))] => some (WfL l ∧ l.length ≤ 16777216 ∧ (jb sep (unT l)).size ≤ 140737488355328, [⟨false, [.d (.v (.string (jb sep (unT l))))]⟩], [])
  | _ => none⟩

theorem tL_cells {h : Heap} : ∀ {ss : List ByteArray} {vs : List Value} {G : List Nat}, Reps h (tL ss).flatten vs G → vs = ss.map Value.string
  | [], vs, G, r => by cases r; rfl
  | s :: ss, vs, G, r => by
    simp only [tL, List.map_cons, List.flatten_cons, List.cons_append, List.nil_append] at r
    cases r with
    | v _ r => rw [tL_cells r]; rfl

theorem join_ok : ContractOK E0 38 cJoin := by
  refine ⟨⟨Tryz.f38, Tryz.func38, by kernel_rfl, rfl⟩, ?_⟩
  intro args p rs ms hr hp w vals F Ms ha hnd hF hJ hN hMN
  unfold cJoin at hr
  dsimp only at hr
  split at hr
  · rename_i l sep
    simp only [Option.some.injEq, Prod.mk.injEq] at hr
    obtain ⟨rfl, rfl, rfl⟩ := hr
    obtain ⟨hl, hlen, hsz⟩ := hp
    cases ha with
    | cons h1 h2 =>
      cases h2 with
      | cons h2 h3 =>
        cases h3
        cases h1 with
        | one r1 =>
          cases h2 with
          | one r2 =>
            cases r2 with
            | v _ r2 =>
              cases r2
              have fin : ∀ {e : Ending} {w' : World} {s : ByteArray}, e = .returned (.string s) → s = jb sep (unT l) → Go.RowKit.Below w.heap.size w w' → ∃ v, e = .returned v ∧ ∀ F' Ms', PostOK false w w' F' Ms' [] [⟨false, [.d (.v (.string (jb sep (unT l))))]⟩] [] v := fun {e w' s} he hs hb => by
                subst he hs
                refine ⟨_, rfl, fun F' Ms' => ⟨hb.os, hb.tape, hb.output, hb.size, fun b h1 _ => hb.block b h1, [], [], [], [], ?_, .nil, by simp, by simp, by simp, by simp, by simp⟩⟩
                exact (by simpa using RCsOK.d (.v rfl .nil) .nil : RCsOK w'.heap [.d (.v (.string (jb sep (unT l))))] [.string (jb sep (unT l))] [] [])
              rcases r1.sl_inv with ⟨a0, rfl, rfl, rfl⟩ | ⟨b, off, cap, c, e, fz, G, rfl, a1, a2, a3, a4, a5, a6, rfl⟩
              · refine (Tryz.strings_Join_none a0 0 sep w).mono ?_
                rintro e w' ⟨he, rfl⟩
                obtain ⟨v, h1, h2⟩ := fin (s := ⟨#[]⟩) he rfl (Go.RowKit.Below.refl _ _)
                exact ⟨v, h1, h2 _ _⟩
              · have hl2 := hl.1
                rw [hl2] at a6
                have hcs := tL_cells a6
                have e1 : (tL (unT l)).length = l.length := by rw [← hl2]
                have e2 : (unT l).length = l.length := by rw [← e1, tL_length]
                rw [e1, Nat.mul_one] at hcs
                have := Tryz.strings_Join b off cap (unT l) sep w (fun j x hx => by
                  have hj : j < (unT l).length := (List.getElem?_eq_some_iff.1 hx).1
                  have h3 : ((c.toList.drop off).take l.length)[j]? = some (.string x) := by rw [hcs, List.getElem?_map, hx]; rfl
                  rw [List.getElem?_take_of_lt (by omega), List.getElem?_drop] at h3
                  rw [cell_row rfl a1]
                  simpa using h3) (Array.getElem?_eq_some_iff.1 a1).1 (by omega) (by omega) (by
                    have : (Lib.join ((unT l).map (·.data.toList)) sep.data.toList).length = (jb sep (unT l)).size := by simp [jb, ByteArray.size]
                    rw [this]; exact hsz)
                rw [e2] at this
                refine this.mono ?_
                rintro e w' ⟨he, hb⟩
                obtain ⟨v, h1, h2⟩ := fin he rfl hb
                exact ⟨v, h1, h2 _ _⟩
  · cases hr

/-! SetLine -/
def slL (xs : List Int) : ByteArray := if xs = [] then ⟨#[110, 111, 116, 104, 105, 110, 103]⟩ else jb ⟨#[32]⟩ (xs.map fa)
def cSL : Contract := ⟨[], false, fun
  | [.one (.sl 1 l)] => some (WfI l ∧ l.length ≤ 1048576, [⟨false, [.d (.v (.string (slL (unI l))))]⟩], [])
  | _ => none⟩
theorem jfa_size {xs : List Int} : (jb ⟨#[32]⟩ (xs.map fa)).size ≤ xs.length * 6 := by
  have := jb_size (sep := ⟨#[32]⟩) (B := 5) (ss := xs.map fa) (fun s hs => by obtain ⟨x, _, rfl⟩ := List.mem_map.1 hs; exact fa_size)
  rw [List.length_map] at this
  exact this

theorem jb_step {α : Type} {sep : ByteArray} {f : α → ByteArray} {xs : List α} {i : Nat} {d : α} (h : i < xs.length) :
    jb sep ((xs.take (i + 1)).map f) = (if i = 0 then jb sep ((xs.take i).map f) else jb sep ((xs.take i).map f) ++ sep) ++ f (xs.getD i d) := by
  rw [take_succ_getD h d, List.map_append, List.map_cons, List.map_nil]
  split
  · subst_vars
    rw [List.take_zero, List.map_nil, List.nil_append, jb_one, jb_nil, empty_app]
  · rw [jb_snoc]
    intro e
    rw [List.map_eq_nil_iff, List.take_eq_nil_iff] at e
    rcases e with e | e
    · omega
    · rw [e] at h; simp at h

theorem jfa_take {xs : List Int} {i : Nat} : (jb ⟨#[32]⟩ ((xs.take i).map fa)).size ≤ i * 6 := by
  have := @jfa_size (xs.take i)
  rw [List.length_take] at this
  have h2 : min i xs.length * 6 ≤ i * 6 := Nat.mul_le_mul_right _ (Nat.min_le_left _ _)
  omega
/-! The law of SetLine. -/
theorem slL_size {xs : List Int} : (slL xs).size ≤ xs.length * 6 + 7 := by
  unfold slL
  split
  · show 7 ≤ _; omega
  · have := @jfa_size xs; omega

def cLawIS : Contract := ⟨[], false, fun
  | [.one (.sl 1 l)] => some (WfI l, [⟨false, [.d (.v (.bool true))]⟩], [])
  | _ => none⟩

end Go.Own
