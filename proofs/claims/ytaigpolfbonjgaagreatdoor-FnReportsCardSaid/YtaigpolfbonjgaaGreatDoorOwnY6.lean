/-
  Own calculus, part W: what a law is handed, as data: a type's reading opened. Conditions: as each theorem states them.
-/
import Derived.Test.YtaigpolfbonjgaaGreatDoorOwnZ4
import Derived.ChangeArms
import Derived.DataReads
import Derived.Below
import Derived.Test.YtaigpolfbonjgaaGreatDoorOwnZ5
import Derived.Test.YtaigpolfbonjgaaGreatDoorRows
import Derived.WalkKit
import Derived.ProofKit
import Derived.OpenShut
import Derived.ShutString
import Derived.ChangeOld
import Derived.Test.YtaigpolfbonjgaaGreatDoorOwnTb
import Derived.Test.YtaigpolfbonjgaaGreatDoorOwnK1
set_option linter.unusedVariables false
set_option linter.unusedSimpArgs false
namespace Go.Own
open Go
def Opens (P : Program) (w : World) (t : TypeId) (S : List D → Prop) : Prop :=
 ∀ (H : Type) (enc : TypeId × Value → H) (fuel : Nat) (cs : List Value) (x : DataW H × List MemPlace), DataW.trod enc P w 0 (fun _ => true) true fuel t cs = some x → ∃ ds F, Reps w.heap ds cs F ∧ S ds
section
variable {P : Program} {w : World} {t : TypeId}
theorem opens_int {k : IntKind} (ht : P.underlying t = some (.int k)) : Opens P w t fun ds => ∃ n, ds = [.v (.int k n)] ∧ k.min ≤ n ∧ n ≤ k.max := by
 intro H enc fuel cs x h
 obtain ⟨n, rfl, _, hw⟩ := DataW.trod_int ht h
 refine ⟨[.v (.int k n)], [], .v rfl .nil, n, rfl, ?_⟩
 simpa [Lit.wf] using hw
theorem opens_slice {e : TypeId} {S : List D → Prop} {n : Nat} (ht : P.underlying t = some (.slice e)) (hn : P.cellsOf e = n) (h0 : 0 < n) (he : Opens P w e S) :
  Opens P w t fun ds => ∃ l : List (List D), ds = [.sl n l] ∧ l.length ≤ maxLen ∧ ∀ d ∈ l, d.length = n ∧ S d := by
 intro H enc fuel cs x h
 rcases DataW.trod_slice ht h with ⟨rfl, _⟩ | ⟨a, len, cap, elems, rest, m, _, rfl, _, _, hl, hm, hlen, hel, hsp, _⟩
 ·exact ⟨[.sl n []], [], .none (fun h => nomatch h) .nil, [], rfl, by simp, by simp⟩
 ·obtain ⟨hrl, hre⟩ := hsp rfl
  rw [hn] at hel hre
  have cells : ∀ i, i < cap → ∃ cs', w.cells? 0 (a.add (i * n)) n = some cs' := fun i hi => by
   by_cases h1 : i < len
   ·have := hel i h1
    rw [List.getElem?_eq_getElem (by omega)] at this
    cases hc : w.cells? 0 (a.add (i * n)) n with
    | none => rw [hc] at this; cases this
    | some cs' => exact ⟨cs', rfl⟩
   ·have := hre (i - len) (by omega)
    rw [List.getElem?_eq_getElem (by omega)] at this
    have e : len + (i - len) = i := by omega
    rw [e] at this
    cases hc : w.cells? 0 (a.add (i * n)) n with
    | none => rw [hc] at this; cases this
    | some cs' => exact ⟨cs', rfl⟩
  by_cases hc0 : cap = 0
  ·have : len = 0 := by omega
   subst this
   subst hc0
   exact ⟨[.sl n []], [], .none (fun h => nomatch h) .nil, [], rfl, by simp, by simp⟩
  ·have hcap : 0 < cap := Nat.pos_of_ne_zero hc0
   obtain ⟨b, off, spot⟩ := a
   obtain ⟨c, u, fz, hb, rfl⟩ : ∃ c u fz, w.heap[b]? = some (.cells c u fz) ∧ spot = none := by
    obtain ⟨cs', hcs⟩ := cells 0 hcap
    obtain ⟨_, h2, h3⟩ := World.cells?_some hcs
    have h4 := h3 0 h0
    rw [List.getElem?_eq_getElem (by rw [h2]; exact h0)] at h4
    simp only [Nat.zero_mul, Addr.add, if_true] at h4
    unfold World.cell? at h4
    split at h4
    ·rename_i c u fz hb
     split at h4
     ·cases h4
     ·rename_i hs
      exact ⟨c, u, fz, hb, by cases spot <;> simp_all⟩
    ·cases h4
   have row : ∀ i, i < cap → ∀ cs', w.cells? 0 (Addr.add ⟨b, off, none⟩ (i * n)) n = some cs' → cs' = (c.toList.drop (off + i * n)).take n ∧ off + i * n + n ≤ c.size := fun i hi cs' hcs => by
    obtain ⟨_, h2, h3⟩ := World.cells?_some hcs
    have h4 : ∀ j, j < n → c[off + i * n + j]? = cs'[j]? := fun j hj => by
     have := h3 j hj
     rw [add_off, add_off, cell_row rfl hb] at this
     exact this
    refine ⟨?_, ?_⟩
    ·apply List.ext_getElem?
     intro j
     by_cases hj : j < n
     ·rw [List.getElem?_take_of_lt hj, List.getElem?_drop, ← h4 j hj]; simp
     ·rw [List.getElem?_eq_none (by omega), List.getElem?_eq_none (by simp; omega)]
    ·have := h4 (n - 1) (by omega)
     rw [List.getElem?_eq_getElem (by omega)] at this
     have := (Array.getElem?_eq_some_iff.1 this).1
     omega
   have hsz : off + cap * n ≤ c.size := by
    obtain ⟨cs', hcs⟩ := cells (cap - 1) (by omega)
    have := (row (cap - 1) (by omega) cs' hcs).2
    have e : (cap - 1) * n + n = cap * n := by
     rw [← Nat.succ_mul]; congr 1; omega
    omega
   have main : ∀ k, k ≤ len → ∃ (l : List (List D)) (F : List Nat), l.length = k ∧ Reps w.heap l.flatten ((c.toList.drop off).take (k * n)) F ∧ ∀ d ∈ l, d.length = n ∧ S d := by
    intro k
    induction k with
    | zero => intro _; exact ⟨[], [], rfl, by simpa using RepsW.nil, by simp⟩
    | succ k ih =>
     intro hk
     obtain ⟨l, F, g1, g2, g3⟩ := ih (by omega)
     obtain ⟨cs', hcs⟩ := cells k (by omega)
     have hrow := (row k (by omega) cs' hcs).1
     have hk2 := hel k (by omega)
     rw [hcs, List.getElem?_eq_getElem (by omega)] at hk2
     obtain ⟨ds, G, q1, q2⟩ := he H enc m cs' _ hk2
     have hdl : ds.length = n := by rw [q1.length]; exact (World.cells?_some hcs).2.1
     refine ⟨l ++ [ds], F ++ G, by simp [g1], ?_, fun d hd => ?_⟩
     ·rw [Nat.succ_mul, List.take_add, List.drop_drop, ← hrow]
      simpa using g2.append q1
     ·rcases List.mem_append.1 hd with hd | hd
      ·exact g3 d hd
      ·simp at hd; subst hd; exact ⟨hdl, q2⟩
   obtain ⟨l, F, g1, g2, g3⟩ := main len (Nat.le_refl _)
   subst g1
   refine ⟨[.sl n l], b :: (F ++ []), .sl (fun h => nomatch h) hb hl hm (by have := Nat.mul_le_mul_right n hl; omega) (fun d hd => (g3 d hd).1) g2 .nil, l, rfl, by omega, g3⟩
end
end Go.Own
/-
  The common part of the laws' proofs: the parameters' types opened as data; what a contract's post says of a law that returns true. Conditions: as each theorem states them.
-/
namespace Go.Own
open Go Go.Proofs Go.WideShapes
theorem Opens.mono {P : Program} {w : World} {t : TypeId} {S S' : List D → Prop} (o : Opens P w t S) (h : ∀ ds, S ds → S' ds) : Opens P w t S' := fun H enc fuel cs x hx => by
 obtain ⟨ds, F, r, hs⟩ := o H enc fuel cs x hx
 exact ⟨ds, F, r, h ds hs⟩
theorem ret_true {h : Heap} {v : Value} {F : List Nat} {os : List (List Nat)} (r : RetsOK h [⟨false, [.d (.v (.bool true))]⟩] v F os) : v = .bool true := by
 have r' : RCsOK h [.d (.v (.bool true))] [v] F os := r
 cases r' with
 | d h1 _ => cases h1 with | v _ _ => rfl
theorem below_of_post {alias : Bool} {w w' : World} {F : List Nat} {mv : List Value} {rs : List RV} {ms : List Arg} {v : Value} (po : PostOK alias w w' F [] mv rs ms v) : Go.RowKit.Below w.heap.size w w' :=
 ⟨po.os, po.tape, po.output, po.grow, fun k hk => po.old k hk (by simp)⟩
theorem argOf_trod {P : Program} {w : World} {t : TypeId} {S : List D → Prop} (o : Opens P w t S) {H : Type} {enc : TypeId × Value → H} {v : Value} {d0 : DataW H} {p0 : List MemPlace}
  (h : DataW.Trod enc P w 0 (fun _ => true) true t v d0 p0) : ∃ ds F, Reps w.heap ds v.cells.toList F ∧ S ds := by
 obtain ⟨fuel, hf⟩ := h
 exact o H enc fuel _ _ hf
theorem argOK_slice {h : Heap} {d : D} {a : Option Addr} {n c : Nat} {F : List Nat} (r : Reps h [d] (Value.slice a n c).cells.toList F) : ArgOK h (.one d) (.slice a n c) F [] := ArgOK.one r
end Go.Own
/-
  Lists of dependencies and monitors, opened as data. Conditions: none.
-/
namespace Go.Own
open Go Go.Proofs Go.WideShapes
end Go.Own
/-
  Monitors, opened as data, with the bounds of their number of columns. Conditions: none.
-/
namespace Go.Own
open Go Go.Proofs Go.WideShapes
end Go.Own
/-
  Rows of bytes, opened as data. Conditions: none.
-/
namespace Go.Own
open Go Go.Proofs Go.WideShapes
theorem shapeB {l : List (List D)} (h : ∀ d ∈ l, ∃ n : Int, d = [.v (.int .u8 n)]) : l = bL (unB l) := by
 induction l with
 | nil => rfl
 | cons d l ih =>
  obtain ⟨n, rfl⟩ := h d (by simp)
  have := ih fun d hd => h d (by simp [hd])
  simp only [bL, unB, List.map_cons] at this ⊢
  rw [← this]
def ShU (ds : List D) : Prop := ∃ n : Int, ds = [.v (.int .u8 n)] ∧ 0 ≤ n ∧ n ≤ 255
def ShB (ds : List D) : Prop := ∃ l : List (List D), ds = [.sl 1 l] ∧ WfB l ∧ ∀ b ∈ unB l, 0 ≤ b ∧ b ≤ 255
theorem oU (w : World) : Opens Tryz.prog w 5 ShU := (opens_int Tryz.underlying5).mono fun ds h => h
theorem oB (w : World) : Opens Tryz.prog w 22 ShB := (opens_slice (n := 1) Tryz.underlying22 (by kernel_rfl) (by decide) (oU w)).mono fun _ h => by
 obtain ⟨l, rfl, h1, h2⟩ := h
 have e : l = bL (unB l) := shapeB fun d hd => by
  obtain ⟨_, n, rfl, _⟩ := h2 d hd
  exact ⟨n, rfl⟩
 refine ⟨l, rfl, ⟨e, h1⟩, fun b hb => ?_⟩
 have : [D.v (.int .u8 b)] ∈ l := by rw [e]; exact List.mem_map.2 ⟨b, hb, rfl⟩
 obtain ⟨_, n, hn, h3⟩ := h2 _ this
 simp only [List.cons.injEq, D.v.injEq, Value.int.injEq, true_and, and_true] at hn
 subst hn
 exact h3
end Go.Own
