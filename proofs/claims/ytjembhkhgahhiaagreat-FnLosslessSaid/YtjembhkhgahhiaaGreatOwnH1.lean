import Derived.Test.YtjembhkhgahhiaaGreatOwnC5
import Derived.Test.YtjembhkhgahhiaaGreatOwnSo
import Derived.Test.YtjembhkhgahhiaaGreatOwnSortI
import Derived.Lib.RowBridge
set_option linter.unusedSimpArgs false
set_option linter.unusedVariables false
set_option maxRecDepth 20000
set_option maxHeartbeats 2000000
namespace Go.Own
open Go Go.Proofs Go.RowKit Go.Sort Go.Shelf
def insS : List Int → Int → List Int
 | [], x => [x]
 | y :: l, x => if x < y then x :: y :: l else y :: insS l x
def putS (l : List Int) (x : Int) : List Int := if l.contains x then l else insS l x
def dstI (xs : List Int) : List Int := xs.foldl putS []
theorem insS_length : ∀ {l : List Int} {x : Int}, (insS l x).length = l.length + 1
 | [], x => rfl
 | y :: l, x => by
  rw [insS]
  split
  ·rfl
  ·simp [@insS_length l x]
theorem insS_mem : ∀ {l : List Int} {x z : Int}, z ∈ insS l x ↔ z = x ∨ z ∈ l
 | [], x, z => by simp [insS]
 | y :: l, x, z => by
  rw [insS]
  split
  ·simp
  ·rw [List.mem_cons, @insS_mem l x z, List.mem_cons]
   constructor
   ·rintro (h | h | h)
    ·exact .inr (.inl h)
    ·exact .inl h
    ·exact .inr (.inr h)
   ·rintro (h | h | h)
    ·exact .inr (.inl h)
    ·exact .inl h
    ·exact .inr (.inr h)
theorem insS_sorted : ∀ {l : List Int} {x : Int}, l.Pairwise (· < ·) → x ∉ l → (insS l x).Pairwise (· < ·)
 | [], x, _, _ => by simp [insS]
 | y :: l, x, h, hx => by
  rw [insS]
  rw [List.pairwise_cons] at h
  split
  ·rename_i hxy
   refine List.pairwise_cons.2 ⟨fun z hz => ?_, List.pairwise_cons.2 h⟩
   rcases List.mem_cons.1 hz with rfl | hz
   ·exact hxy
   ·have := h.1 z hz; omega
  ·rename_i hxy
   refine List.pairwise_cons.2 ⟨fun z hz => ?_, insS_sorted h.2 (fun hm => hx (by simp [hm]))⟩
   rcases insS_mem.1 hz with rfl | hz
   ·have : z ≠ y := fun e => hx (by simp [e])
    omega
   ·exact h.1 z hz
theorem putS_mem {l : List Int} {x z : Int} : z ∈ putS l x ↔ z = x ∨ z ∈ l := by
 unfold putS
 split
 ·rename_i h
  rw [List.contains_iff_mem] at h
  constructor
  ·exact .inr
  ·rintro (rfl | h2)
   ·exact h
   ·exact h2
 ·exact insS_mem
theorem putS_sorted {l : List Int} {x : Int} (h : l.Pairwise (· < ·)) : (putS l x).Pairwise (· < ·) := by
 unfold putS
 split
 ·exact h
 ·rename_i hx
  exact insS_sorted h fun hm => hx (List.contains_iff_mem.2 hm)
theorem putS_length {l : List Int} {x : Int} : (putS l x).length ≤ l.length + 1 := by
 unfold putS
 split
 ·omega
 ·rw [insS_length]; omega
theorem foldl_put_mem : ∀ {xs l : List Int} {z : Int}, z ∈ xs.foldl putS l ↔ z ∈ xs ∨ z ∈ l
 | [], l, z => by simp
 | x :: xs, l, z => by
  rw [List.foldl_cons, foldl_put_mem, putS_mem, List.mem_cons]
  constructor
  ·rintro (h | h | h)
   ·exact .inl (.inr h)
   ·exact .inl (.inl h)
   ·exact .inr h
  ·rintro ((h | h) | h)
   ·exact .inr (.inl h)
   ·exact .inl h
   ·exact .inr (.inr h)
theorem foldl_put_sorted : ∀ {xs l : List Int}, l.Pairwise (· < ·) → (xs.foldl putS l).Pairwise (· < ·)
 | [], l, h => h
 | x :: xs, l, h => by rw [List.foldl_cons]; exact foldl_put_sorted (putS_sorted h)
theorem foldl_put_length : ∀ {xs l : List Int}, (xs.foldl putS l).length ≤ xs.length + l.length
 | [], l => by simp
 | x :: xs, l => by
  rw [List.foldl_cons]
  have h1 := @foldl_put_length xs (putS l x)
  have h2 := @putS_length l x
  simp only [List.length_cons]; omega
theorem dstI_mem {xs : List Int} {z : Int} : z ∈ dstI xs ↔ z ∈ xs := by unfold dstI; rw [foldl_put_mem]; simp
theorem dstI_sorted {xs : List Int} : (dstI xs).Pairwise (· < ·) := foldl_put_sorted .nil
theorem dstI_length {xs : List Int} : (dstI xs).length ≤ xs.length := by have := @foldl_put_length xs []; simpa [dstI] using this
theorem sorted_ext : ∀ {l m : List Int}, l.Pairwise (· < ·) → m.Pairwise (· < ·) → (∀ x, x ∈ l ↔ x ∈ m) → l = m
 | [], [], _, _, _ => rfl
 | [], y :: m, _, _, h => by have := (h y).2 (by simp); cases this
 | x :: l, [], _, _, h => by have := (h x).1 (by simp); cases this
 | x :: l, y :: m, hl, hm, h => by
  rw [List.pairwise_cons] at hl hm
  have e : x = y := by
   rcases List.mem_cons.1 ((h x).1 (by simp)) with e | h1
   ·exact e
   ·rcases List.mem_cons.1 ((h y).2 (by simp)) with e | h2
    ·exact e.symm
    ·have := hm.1 x h1
     have := hl.1 y h2
     omega
  subst e
  rw [sorted_ext hl.2 hm.2 fun z => ?_]
  constructor
  ·intro hz
   rcases List.mem_cons.1 ((h z).1 (by simp [hz])) with e | h1
   ·have := hl.1 z hz; omega
   ·exact h1
  ·intro hz
   rcases List.mem_cons.1 ((h z).2 (by simp [hz])) with e | h1
   ·have := hm.1 z hz; omega
   ·exact h1
end Go.Own
