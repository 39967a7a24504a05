/-
  What the kit's sorts of a row of ints say, in the words of the own calculus. Conditions: as each theorem states them.
-/
import Derived.Test.YtlliofolbiebmaaGreatOwnZ5
import Derived.Shelf.SlSortCmp.NoneTotal
set_option linter.unusedSimpArgs false
set_option linter.unusedVariables false
set_option maxRecDepth 20000
set_option maxHeartbeats 2000000
namespace Go.Own
open Go Go.Proofs Go.RowKit Go.Sort Go.Shelf
variable {α : Type} [Inhabited α]
theorem holds_row {enc : α → Value} {w : World} {b : Nat} {c : Array Value} {e : TypeId} (hb : w.heap[b]? = some (.cells c e (0, 0))) {d : Array α} (h : c.toList.take d.size = d.toList.map enc) : Holds enc w b 0 d := by
 intro j hj
 have h1 : (c.toList.take d.size)[j]? = some (enc d[j]!) := by
  rw [h, List.getElem?_map, Array.getElem?_toList, Array.getElem?_eq_getElem hj, getElem!_pos d j hj]; rfl
 rw [List.getElem?_take_of_lt hj, Array.getElem?_toList] at h1
 refine ⟨?_, ?_⟩
 ·simp only [World.cell?, hb, Nat.zero_add]
  exact h1
 ·simp [World.frozen?, hb]
theorem putCells_take {enc : α → Value} {d : Array α} {c : Array Value} (h : d.size ≤ c.size) : (putCells enc 0 d c).toList.take d.size = d.toList.map enc ∧ (putCells enc 0 d c).size = c.size := by
 refine ⟨?_, by simp [putCells]⟩
 apply List.ext_getElem?
 intro k
 by_cases hk : k < d.size
 ·rw [List.getElem?_take_of_lt hk, Array.getElem?_toList, List.getElem?_map, Array.getElem?_toList, Array.getElem?_eq_getElem hk]
  simp only [putCells, Array.getElem?_mapIdx]
  rw [Array.getElem?_eq_getElem (by omega)]
  simp only [Option.map_some, Nat.zero_le, true_and, Nat.zero_add, hk, if_true, Nat.sub_zero]
  rw [getElem!_pos d k hk]
 ·rw [List.getElem?_eq_none (by rw [List.length_take]; omega), List.getElem?_eq_none (by simp; omega)]
theorem sortWorld_heap {enc : α → Value} {w : World} {b n : Nat} {d : Array α} {os : Array Obj} {c : Array Value} {e : TypeId} (hb : w.heap[b]? = some (.cells c e (0, 0))) :
  w.heap.size ≤ (sortWorld enc w b 0 n d os).heap.size ∧ (sortWorld enc w b 0 n d os).heap[b]? = some (.cells (putCells enc 0 d c) e (0, 0)) ∧ ∀ k, k < w.heap.size → k ≠ b → (sortWorld enc w b 0 n d os).heap[k]? = w.heap[k]? := by
 have hlt : b < w.heap.size := (Array.getElem?_eq_some_iff.1 hb).1
 have e0 : (sortWorld enc w b 0 n d os).heap = w.heap.modify b (onCells (putCells enc 0 d)) ++ os := rfl
 rw [e0]
 refine ⟨by simp, ?_, fun k hk hne => ?_⟩
 ·rw [Array.getElem?_append_left (by simpa using hlt), Array.getElem?_modify, if_pos rfl, hb]; rfl
 ·rw [Array.getElem?_append_left (by simpa using hk), Array.getElem?_modify, if_neg (fun h => hne h.symm)]
theorem repsW_ints {W : Bool} {h : Heap} : ∀ (xs : List Int), RepsW W h (iL xs).flatten (xs.map fun n => Value.int .i64 n) []
 | [] => .nil
 | x :: xs => .v rfl (repsW_ints xs)
theorem ints_of_reps {W : Bool} {h : Heap} : ∀ {xs : List Int} {vs : List Value} {G : List Nat}, RepsW W h (iL xs).flatten vs G → vs = xs.map (fun n => Value.int .i64 n) ∧ G = []
 | [], vs, G, r => by cases r; exact ⟨rfl, rfl⟩
 | x :: xs, vs, G, r => by
  simp only [iL, List.map_cons, List.flatten_cons, List.cons_append, List.nil_append] at r
  cases r with
  | v _ r =>
   obtain ⟨rfl, rfl⟩ := ints_of_reps r
   exact ⟨rfl, rfl⟩
theorem sort_post {val : α → Int} {w : World} {b n cap : Nat} {d d' : Array α} {os : Array Obj} {c : Array Value} {e : TypeId} {F : List Nat} {x : Value} (hb : w.heap[b]? = some (.cells c e (0, 0))) (hs : d'.size = d.size) (hc : d.size ≤ cap) (hm : cap ≤ maxLen) (hcc : c.size = cap * 1) :
  PostOK false w (sortWorld (fun x => Value.int .i64 (val x)) w b 0 n d' os) F [[b]] [.slice (some ⟨b, 0, none⟩) d.size cap] [] [.arr 1 (iL (d'.toList.map val)) 1] x := by
 obtain ⟨h1, h2, h3⟩ := sortWorld_heap (enc := fun x => Value.int .i64 (val x)) (n := n) (d := d') (os := os) hb
 have hlt : b < w.heap.size := (Array.getElem?_eq_some_iff.1 hb).1
 obtain ⟨t1, t2⟩ := putCells_take (enc := fun x => Value.int .i64 (val x)) (d := d') (c := c) (by omega)
 have hl : (iL (d'.toList.map val)).length = d.size := by rw [iL_length, List.length_map, Array.length_toList, hs]
 refine ⟨rfl, rfl, rfl, h1, fun k hk hn => h3 k hk (by simpa using hn), [], [], [], [[b]], ⟨rfl, rfl⟩, ?_, by simp, by simp, by simp, by simp, ?_, by simp⟩
 ·have q : ArrAt (sortWorld (fun x => Value.int .i64 (val x)) w b 0 n d' os).heap [b] [] 1 (iL (d'.toList.map val)) 1 (.slice (some ⟨b, 0, none⟩) d.size cap) := by
   refine .inr ⟨b, cap, _, e, [], by rw [hl], rfl, rfl, h2, by omega, hm, by rw [t2]; exact hcc, ?_, ?_⟩
   ·intro z hz
    simp only [iL, List.mem_map] at hz
    obtain ⟨_, _, rfl⟩ := hz
    rfl
   ·rw [hl, ← hs, Nat.mul_one, t1]
    have := repsW_ints (W := true) (h := (sortWorld (fun x => Value.int .i64 (val x)) w b 0 n d' os).heap) (d'.toList.map val)
    rw [List.map_map] at this
    exact this
  have := ArgsOK.cons (ArgOK.arr q (by decide)) ArgsOK.nil
  simpa using this
 ·intro k hk
  simp only [List.flatten_cons, List.flatten_nil, List.append_nil, List.mem_singleton] at hk
  subst hk
  exact ⟨by omega, by simp, Or.inr (by simp)⟩
end Go.Own
