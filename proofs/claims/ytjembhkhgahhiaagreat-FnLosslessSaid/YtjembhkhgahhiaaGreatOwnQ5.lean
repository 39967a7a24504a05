/-
  slices.CompactFunc at rows of ints with impl.sameInts: what it returns and what it leaves. Conditions: as each theorem states them.
-/
import Derived.Test.YtjembhkhgahhiaaGreatOwnQ4
import Derived.Shelf.SlSortCmp.KitK
import Derived.Shelf.RegionOpenPlain
import Derived.Deep.Draws
import Derived.Lib.SliceRun
import Derived.Lib.SlicesCompact
set_option linter.unusedSimpArgs false
set_option linter.unusedVariables false
set_option maxRecDepth 1000000
set_option maxHeartbeats 4000000
namespace Go.Own
open Go Go.Proofs Go.RowKit Go.Sort Go.Shelf Go.Lib
theorem sameRows (xs ys : List Int) (p1 p2 : Option Addr) (c1 c2 : Nat) (W : World) (h1 : RowIn W p1 xs) (h2 : RowIn W p2 ys) (hx : xs.length ≤ 9223372036854775807) (hy : ys.length ≤ 9223372036854775807) :
  Calls Tryz.prog 46 #[.slice p1 xs.length c1, .slice p2 ys.length c2] W fun e w' => e = .returned (.bool (decide (xs = ys))) ∧ ∃ q, w' = W.drewN q := by
 by_cases hl : xs.length = ys.length
 ·have HL : Aside (xs.length = ys.length) := hl
  generalize hn : xs.length = n at h1 hx hl
  have HN : Aside (xs.length = n) := hn
  rw [← hl]
  have h2' : ∀ i, i < n → ∃ b, p2 = some ⟨b, 0, none⟩ ∧ W.cell? ⟨b, i, none⟩ = some (.int .i64 (ys.getD i 0)) := fun i hi => h2 i (by omega)
  have h1' : ∀ i, i < n → ∃ b, p1 = some ⟨b, 0, none⟩ ∧ W.cell? ⟨b, i, none⟩ = some (.int .i64 (xs.getD i 0)) := fun i hi => h1 i (by omega)
  clear h1 h2 hl hy hn
  go_enter Tryz.func46, Tryz.ntmps46
  go_wp2
  go_loopg [13] n (fun g s13 wr => ∃ k q : Nat, k ≤ n ∧ n - k ≤ g ∧ s13 = .int .i64 k ∧ wr = W.drewN q ∧ Aside (∀ j, j < k → xs.getD j 0 = ys.getD j 0))
  case atStart => exact ⟨0, 0, Nat.zero_le _, by omega, rfl, rfl, fun j hj => absurd hj (Nat.not_lt_zero _)⟩
  case round =>
   obtain ⟨k, q, hk, hg, rfl, rfl, A⟩ := hrel
   by_cases hlt : k < n
   ·have mixed := mixedT
    obtain ⟨b1, rfl, g1⟩ := h1' k hlt
    obtain ⟨b2, rfl, g2⟩ := h2' k hlt
    clear h1' h2'
    generalize hxk : xs.getD k 0 = x at g1
    generalize hyk : ys.getD k 0 = y at g2
    have B : Aside (xs.getD k 0 = x ∧ ys.getD k 0 = y) := ⟨hxk, hyk⟩
    clear hxk hyk
    by_cases hxy : x = y
    ·subst hxy
     go_wp2_with fail
     go_region_o
     go_wp2
     go_roundg (n - (k + 1))
     case measure => omega
     case rel =>
      refine ⟨k + 1, q + 1, by omega, by omega, by go_num, rfl, (show Aside _ from fun j hj => ?_)⟩
      by_cases e : j = k
      ·subst e
       rw [B.out.1, B.out.2]
      ·exact A.out j (by omega)
    ·go_wp2_with fail
     go_region_o
     go_wp2
     go_ret
     refine ⟨?_, q + 1, rfl⟩
     have : ¬ xs = ys := fun e => hxy (by rw [← B.out.1, ← B.out.2, e])
     rw [decide_eq_false this]
     rfl
   ·have : k = n := by omega
    subst this
    clear h1' h2'
    go_wp2
    go_ret
    refine ⟨?_, q, rfl⟩
    have : xs = ys := by
     apply List.ext_getElem HL.out
     intro i i1 i2
     have := A.out i (by rw [HN.out] at i1; exact i1)
     simpa [List.getD_eq_getElem?_getD, List.getElem?_eq_getElem i1, List.getElem?_eq_getElem i2] using this
    rw [decide_eq_true this]
    rfl
 ·have HD : Aside (¬ xs = ys) := fun e => hl (by rw [e])
  have hz : ¬ ((xs.length : Int) = (ys.length : Int)) := by omega
  clear h1 h2
  go_enter Tryz.func46, Tryz.ntmps46
  go_wp2
  all_goals first
   | (go_ret; exact ⟨by rw [decide_eq_false HD.out]; rfl, 0, rfl⟩)
   | (exfalso; simp_all; done)
   | skip
def kfL (kp : Nat → Bool) (m : Nat) : List Nat := (List.range m).filter kp
theorem kfL_succ {kp : Nat → Bool} {m : Nat} : kfL kp (m + 1) = kfL kp m ++ (if kp m then [m] else []) := by
 unfold kfL
 rw [List.range_succ, List.filter_append]
 congr 1
 by_cases h : kp m <;> simp [h]
theorem kfL_all {kp : Nat → Bool} {m : Nat} (h : ∀ j, j < m → kp j = true) : kfL kp m = List.range m := List.filter_eq_self.2 fun j hj => h j (List.mem_range.1 hj)
structure KfInv (n : Nat) (kp : Nat → Bool) (m k : Nat) (ik : Array Nat) : Prop where
  size : ik.size = n
  len : (kfL kp m).length = k
  lt : k < m
  low : ∀ j, j < k → (kfL kp m)[j]? = some ik[j]!
  high : ∀ j, k ≤ j → j < n → ik[j]! = j
theorem KfInv.start {n : Nat} {kp : Nat → Bool} {k0 : Nat} (hn : k0 < n) (hall : ∀ j, j < k0 → kp j = true) (hdup : kp k0 = false) : KfInv n kp (k0 + 1) k0 (Array.range n) where
 size := by simp
 len := by rw [kfL_succ, hdup, kfL_all hall]; simp
 lt := Nat.lt_succ_self _
 low := fun j hj => by rw [kfL_succ, hdup, kfL_all hall, getElem!_pos (Array.range n) j (by simp; omega)]; simp [hj]
 high := fun j _ hj => by rw [getElem!_pos (Array.range n) j (by simp; omega)]; simp
theorem KfInv.keep {n : Nat} {kp : Nat → Bool} {m k : Nat} {ik : Array Nat} (h : KfInv n kp m k ik) (hm : m < n) (hk : kp m = true) : KfInv n kp (m + 1) (k + 1) (ik.setIfInBounds k m) where
 size := by simp [h.size]
 len := by rw [kfL_succ, hk]; simp [h.len]
 lt := by have := h.lt; omega
 low := fun j hj => by
  rw [kfL_succ, hk, if_pos rfl]
  by_cases e : j = k
  ·subst e
   rw [List.getElem?_append_right (by rw [h.len]; exact Nat.le_refl _), h.len, Nat.sub_self, getElem!_set_same ik j _ (by have := h.lt; have := h.size; omega)]
   rfl
  ·rw [List.getElem?_append_left (by rw [h.len]; omega), h.low j (by omega), getElem!_set_other ik k j _ e]
 high := fun j hj hn => by rw [getElem!_set_other ik k j _ (by omega), h.high j (by omega) hn]
theorem KfInv.skip {n : Nat} {kp : Nat → Bool} {m k : Nat} {ik : Array Nat} (h : KfInv n kp m k ik) (hk : kp m = false) : KfInv n kp (m + 1) k ik where
 size := h.size
 len := by rw [kfL_succ, hk]; simp [h.len]
 lt := by have := h.lt; omega
 low := fun j hj => by rw [kfL_succ, hk]; simpa using h.low j hj
 high := h.high
def encR {h : Heap} {blk : Nat} (xs : Array (RowE h blk)) (i : Nat) : Value := (xs[i]!).v
theorem encR_one {h : Heap} {blk : Nat} (xs : Array (RowE h blk)) (i : Nat) : (encR xs i).oneCell' = true := rowE_one _
theorem run_clear_row {w : World} (ty : TypeId) (b o n c : Nat) (hn : 0 < n) (hc : ∀ j, j < n → (w.cell? ⟨b, o + j, none⟩).isSome = true ∧ w.frozen? ⟨b, o + j, none⟩ = false) :
  (Builtin.clear_ #[29] ty #[.slice (some ⟨b, o, none⟩) n c]).run Tryz.prog w = .ok (.tuple #[]) (w.setCells b o (List.replicate n (.slice none 0 0))) := by
 have hzc : (Builtin.zeroCells #[Value.slice none 0 0] n).toList = List.replicate n (Value.slice none 0 0) := by
  simp [Builtin.zeroCells]
  apply List.ext_getElem
  ·simp
  ·intro i h1 h2
   simp [Nat.mod_one]
 have hst := run_storeCells_cells (P := Tryz.prog) b o (List.replicate n (.slice none 0 0)) 0 w (fun j hj => by simpa using (hc j (by simpa using hj)).1) (fun j hj => by simpa using (hc j (by simpa using hj)).2) (by intro v hv'; rw [List.eq_of_mem_replicate hv']; rfl)
 simp only [Nat.add_zero] at hst
 obtain ⟨m, rfl⟩ : ∃ m, n = m + 1 := ⟨n - 1, by omega⟩
 have hz : ∀ w, (zeroValue 25).run Tryz.prog w = .ok (.slice none 0 0) w := fun w => by simp
 have hcz : (Value.slice none 0 0).cells = #[Value.slice none 0 0] := rfl
 simp [Builtin.clear_, hz, hcz, hzc, hst]
def CfF {h : Heap} {blk : Nat} (xs : Array (RowE h blk)) (kp : Nat → Bool) (F : Array Value) : Prop := F.size = xs.size ∧ ∀ j, j < (kfL kp xs.size).length → F[j]! = encR xs ((kfL kp xs.size)[j]!)
def kpR {h : Heap} {blk : Nat} (xs : Array (RowE h blk)) (j : Nat) : Bool := decide (j = 0 ∨ xs[j]!.r ≠ xs[j - 1]!.r)
def SameIn {h : Heap} {blk : Nat} (xs : Array (RowE h blk)) (W : World) : Prop := ∀ (i j m : Nat), Calls Tryz.prog 46 #[encR xs i, encR xs j] (W.drewN m) fun e w' => e = .returned (.bool (decide (xs[i]!.r = xs[j]!.r))) ∧ ∃ q, w' = (W.drewN m).drewN q
theorem sameIn_of {w : World} {blk : Nat} (xs : Array (RowE w.heap blk)) {W : World} (hW : ∀ k, k < w.heap.size → k ≠ blk → W.heap[k]? = w.heap[k]?) : SameIn xs W := by
 intro i j m
 have hin : ∀ x : RowE w.heap blk, ∀ k ∈ x.m, (W.drewN m).heap[k]? = w.heap[k]? := fun x k hk => hW k (x.ok.lt k hk) fun e => x.nb (e ▸ hk)
 obtain ⟨p1, c1, q1, q2⟩ := rowE_in xs[i]! (W := W.drewN m) (hin _)
 obtain ⟨p2, c2, q3, q4⟩ := rowE_in xs[j]! (W := W.drewN m) (hin _)
 unfold encR
 rw [q1, q3]
 exact sameRows _ _ p1 p2 c1 c2 _ q2 q4 (xs[i]!).le (xs[j]!).le
theorem cells1 {enc : Nat → Value} {w : World} {blk : Nat} {d : Array Nat} (h : Holds enc w blk 0 d) {i : Nat} (hi : i < d.size) : w.cell? ⟨blk, i, none⟩ = some (enc d[i]!) ∧ w.frozen? ⟨blk, i, none⟩ = false := by
 have := h i hi
 rw [Nat.zero_add] at this
 exact this
theorem putRow_map (enc : Nat → Value) (w : World) (blk : Nat) (ik : Array Nat) : putRow enc w blk 0 ik = putRow id w blk 0 (ik.map enc) := by
 unfold putRow
 congr 1
 funext c
 unfold putCells
 congr 1
 funext k x
 simp only [Array.size_map]
 split
 ·rename_i h
  have hk : k - 0 < ik.size := by omega
  rw [getElem!_pos ik (k - 0) hk, getElem!_pos (ik.map enc) (k - 0) (by simpa using hk)]
  simp
 ·rfl
theorem cf_arr (blk cap : Nat) (w : World) (xs : Array (RowE w.heap blk)) (hH : Holds (encR xs) w blk 0 (Array.range xs.size)) (hsz : xs.size ≤ 9223372036854775807) (hcap : xs.size ≤ cap) :
  Calls Tryz.prog 108 #[.slice (some ⟨blk, 0, none⟩) xs.size cap, .func (.func 46) #[] #[]] w fun e w' => e = .returned (.slice (some ⟨blk, 0, none⟩) (kfL (kpR xs) xs.size).length cap) ∧ ∃ q F, w' = putRow id (Sort.ahead w q) blk 0 F ∧ CfF xs (kpR xs) F := by
 have hgo : ∀ (W : World) (i j m : Nat), SameIn xs W → Calls Tryz.prog 46 #[encR xs i, encR xs j] (W.drewN m) fun e w' => e = .returned (.bool (decide (xs[i]!.r = xs[j]!.r))) ∧ ∃ q, w' = W.drewN q := fun W i j m h => Calls.quiet_of (h i j m)
 have same : ∀ q, (∀ j, j < xs.size → kpR xs j = true) → (kfL (kpR xs) xs.size).length = xs.size ∧ w.drewN q = putRow id (Sort.ahead w q) blk 0 ((Array.range xs.size).map (encR xs)) ∧ CfF xs (kpR xs) ((Array.range xs.size).map (encR xs)) := by
  intro q hall
  have e : kfL (kpR xs) xs.size = List.range xs.size := kfL_all hall
  have hH2 : Holds id w blk 0 ((Array.range xs.size).map (encR xs)) := fun j hj => by
   have hj' : j < xs.size := by simpa using hj
   have := hH j (by simpa using hj')
   rw [getElem!_pos (Array.range xs.size) j (by simpa using hj')] at this
   rw [getElem!_pos ((Array.range xs.size).map (encR xs)) j hj]
   simpa using this
  refine ⟨by rw [e]; simp, (putRow_self id (Sort.ahead w q) blk 0 _ (holds_ahead id w q blk 0 _ hH2)).symm, by simp, fun j hj => ?_⟩
  rw [e] at hj ⊢
  rw [List.length_range] at hj
  rw [getElem!_pos ((Array.range xs.size).map (encR xs)) j (by simpa using hj), getElem!_pos (List.range xs.size) j (by simpa using hj)]
  simp
 have HS : Aside (∀ q, (∀ j, j < xs.size → kpR xs j = true) → (kfL (kpR xs) xs.size).length = xs.size ∧ w.drewN q = putRow id (Sort.ahead w q) blk 0 ((Array.range xs.size).map (encR xs)) ∧ CfF xs (kpR xs) ((Array.range xs.size).map (encR xs))) := same
 clear same
 have HG : Aside _ := hgo
 clear hgo
 have eg : ∀ args w, (callFunc 46 args).run Tryz.prog w = .ok (.enter 46 args) w := enters_of Tryz.func46 (by kernel_rfl) rfl
 have h0w : SameIn xs w := sameIn_of xs fun _ _ _ => rfl
 by_cases h2 : xs.size < 2
 ·have HH : Aside (Holds (encR xs) w blk 0 (Array.range xs.size)) := hH
  have H0 : Aside (SameIn xs w) := h0w
  clear hH h0w
  generalize hN : xs.size = N at h2 hsz hcap ⊢
  have HN : Aside (xs.size = N) := hN
  clear hN
  go_enter Tryz.func108, Tryz.ntmps108
  go_wp2
  go_ret
  obtain ⟨e1, e2, e3⟩ := HS.out 0 (fun j hj => by
   have := HN.out
   have : j = 0 := by omega
   subst this
   simp [kpR])
  rw [HN.out] at e1
  exact ⟨by rw [e1]; rfl, 0, _, e2, e3⟩
 ·have HH : Aside (Holds (encR xs) w blk 0 (Array.range xs.size)) := hH
  have H0 : Aside (SameIn xs w) := h0w
  have hc0 : ∀ j, j < xs.size → w.cell? ⟨blk, j, none⟩ = some (encR xs j) := fun j hj => by
   have := (cells1 hH (i := j) (by simpa using hj)).1
   rw [getElem!_pos (Array.range xs.size) j (by simpa using hj)] at this
   simpa using this
  have hblk : Aside (∀ dk : Array Nat, dk.size = xs.size → ∀ q, Holds (encR xs) (putRow (encR xs) (Sort.ahead w q) blk 0 dk) blk 0 dk) := fun dk hd q => holds_putRow (encR xs) _ blk 0 (Array.range xs.size) dk (holds_ahead (encR xs) w q blk 0 _ hH) (by simpa using hd)
  have hsame : Aside (∀ (dk : Array Nat) q, SameIn xs (putRow (encR xs) (Sort.ahead w q) blk 0 dk)) := fun dk q => sameIn_of xs fun k hk hne => by
   have e0 : (putRow (encR xs) (Sort.ahead w q) blk 0 dk).heap = w.heap.modify blk (onCells (putCells (encR xs) 0 dk)) := rfl
   rw [e0, Array.getElem?_modify, if_neg (fun h => hne h.symm)]
  clear hH h0w
  have HC0 : Aside (∀ j, j < xs.size → w.cell? ⟨blk, j, none⟩ = some (encR xs j)) := hc0
  clear hc0
  generalize hN : xs.size = N at h2 hsz hcap HS HH hblk HC0 ⊢
  have HN : Aside (xs.size = N) := hN
  clear hN
  go_enter Tryz.func108, Tryz.ntmps108
  go_wp2
  go_loopg [5] N (fun g s3 wr => ∃ k q : Nat, 1 ≤ k ∧ k ≤ N ∧ N - k ≤ g ∧ s3 = .int .i64 k ∧ wr = w.drewN q ∧ Aside (∀ j, j < k → kpR xs j = true))
  case atStart => exact ⟨1, 0, Nat.le_refl _, by omega, by omega, rfl, rfl, fun j hj => by
   have : j = 0 := by omega
   subst this
   simp [kpR]⟩
  case round =>
   obtain ⟨k, q, hk1, hk, hg, rfl, hwr, A⟩ := hrel
   by_cases hlt : k < N
   ·have mixed := mixedT
    have ck : wr.cell? ⟨blk, k, none⟩ = some (encR xs k) := by rw [hwr]; exact HC0.out k hlt
    have cj : wr.cell? ⟨blk, k - 1, none⟩ = some (encR xs (k - 1)) := by rw [hwr]; exact HC0.out (k - 1) (by omega)
    obtain ⟨kp, hkp⟩ : ∃ kp, k - 1 = kp := ⟨_, rfl⟩
    rw [hkp] at cj
    have rc : IntKind.i64.wrap ((k : Int) - 1) = (kp : Int) := by rw [IntKind.wrap_i64]; omega
    have bc : (kp : Int) < (N : Int) := by omega
    have hcall := fun m => HG.out wr k kp m (by
     rw [hwr]
     intro i j m2
     have := H0.out i j (q + m2)
     rw [← World.drewN_drewN] at this
     exact this)
    have W1 : Aside (wr = w.drewN q) := hwr
    clear hwr
    obtain ⟨bb, hbb⟩ : ∃ bb, decide (xs[k]!.r = xs[kp]!.r) = bb := ⟨_, rfl⟩
    rw [hbb] at hcall
    obtain ⟨vk, hvk⟩ : ∃ v, encR xs k = v := ⟨_, rfl⟩
    obtain ⟨vj, hvj⟩ : ∃ v, encR xs kp = v := ⟨_, rfl⟩
    rw [hvk] at ck hcall
    rw [hvj] at cj hcall
    rw [← hkp] at hbb
    have BB : Aside (decide (xs[k]!.r = xs[k - 1]!.r) = bb) := hbb
    have HKP : Aside (k - 1 = kp) := hkp
    clear hbb hvk hvj hkp
    cases bb with
    | true =>
     go_wp2_with fail
     go_quiet_o (first | (go_at_call 46; exact hcall _))
     go_wp2
     clear ck cj hcall
     have hdup : Aside (kpR xs k = false) := by
      show _ = _
      have := of_decide_eq_true BB.out
      unfold kpR
      rw [decide_eq_false]
      intro h
      rcases h with h | h
      ·omega
      ·exact h this
     go_loopg [5, 7] N (fun g s3 s5 wr => ∃ (kk k2 q2 : Nat) (ik : Array Nat), s3 = .int .i64 kk ∧ s5 = .int .i64 k2 ∧ 1 ≤ k2 ∧ k + k2 ≤ N ∧ N - (k + k2) ≤ g ∧ wr = putRow (encR xs) (Sort.ahead w q2) blk 0 ik ∧ KfInv N (kpR xs) (k + k2) kk ik)
     case atStart => exact ⟨k, 1, q + nq, Array.range N, rfl, rfl, Nat.le_refl _, by omega, by omega, (by rw [W1.out, World.drewN_drewN]; exact (putRow_self (encR xs) (Sort.ahead w (q + nq)) blk 0 _ (holds_ahead (encR xs) w (q + nq) blk 0 _ HH.out)).symm), KfInv.start hlt A.out hdup.out⟩
     case round =>
      obtain ⟨kk, k2, q2, ik, rfl, rfl, h1, hle, hg2, hwr, hI⟩ := hrel
      have hkk := hI.lt
      have hds := hI.size
      have hHk : Holds (encR xs) wr blk 0 ik := by rw [hwr]; exact hblk.out ik hds q2
      have W2 : Aside (wr = putRow (encR xs) (Sort.ahead w q2) blk 0 ik) := hwr
      have I2 : Aside (KfInv N (kpR xs) (k + k2) kk ik) := hI
      have hSW : SameIn xs wr := by rw [hwr]; exact hsame.out ik q2
      clear hwr
      by_cases hlt2 : k + k2 < N
      ·obtain ⟨cm, -⟩ := cells1 hHk (i := k + k2) (by omega)
       obtain ⟨cp, -⟩ := cells1 hHk (i := k + k2 - 1) (by omega)
       obtain ⟨ck, fk⟩ := cells1 hHk (i := kk) (by omega)
       rw [hI.high (k + k2) (by omega) hlt2] at cm
       rw [hI.high (k + k2 - 1) (by omega) (by omega)] at cp
       have hcall := fun m => HG.out wr (k + k2) (k + k2 - 1) m hSW
       obtain ⟨kq, hkq⟩ : ∃ kq, k2 - 1 = kq := ⟨_, rfl⟩
       rw [show k + k2 - 1 = k + kq by omega] at cp hcall
       have rc2 : IntKind.i64.wrap ((k2 : Int) - 1) = (kq : Int) := by rw [IntKind.wrap_i64]; omega
       have bc2 : (kq : Int) < ((N - k : Nat) : Int) := by omega
       have bc3 : (k2 : Int) < ((N - k : Nat) : Int) := by omega
       clear hHk hI hSW
       obtain ⟨bb, hbb⟩ : ∃ bb, decide (xs[k + k2]!.r = xs[k + kq]!.r) = bb := ⟨_, rfl⟩
       rw [hbb] at hcall
       obtain ⟨vk, hvk⟩ : ∃ v, encR xs (k + k2) = v := ⟨_, rfl⟩
       obtain ⟨vj, hvj⟩ : ∃ v, encR xs (k + kq) = v := ⟨_, rfl⟩
       rw [hvk] at cm hcall
       rw [hvj] at cp hcall
       have vone : vk.oneCell' = true := by rw [← hvk]; exact encR_one _ _
       have CC : Aside (decide (xs[k + k2]!.r = xs[k + (k2 - 1)]!.r) = bb) := by rw [hkq]; exact hbb
       have HKQ : Aside (k2 - 1 = kq) := hkq
       have CV : Aside (encR xs (k + k2) = vk) := hvk
       generalize encR xs ik[kk]! = old at ck
       have hst : ∀ nq, (storeCells ⟨blk, kk, none⟩ [vk]).run Tryz.prog (wr.drewN nq) = .ok () ((wr.drewN nq).setCell ⟨blk, kk, none⟩ vk) := fun nq => by
        have h := run_storeCells_cells (P := Tryz.prog) blk kk [vk] 0 (wr.drewN nq) (fun j hj => by
         have hj0 : j = 0 := by simpa using hj
         subst hj0
         show ((wr.drewN nq).cell? ⟨blk, kk, none⟩).isSome = true
         rw [World.cell?_drewN, ck]; rfl) (fun j hj => by
         have hj0 : j = 0 := by simpa using hj
         subst hj0
         exact fk) (by intro v hv; simp at hv; subst hv; exact vone)
        simpa [World.setCells] using h
       clear hbb hvk hvj hkq
       cases bb with
       | true =>
        go_wp2_with fail
        go_quiet_o (first | (go_at_call 46; exact hcall _))
        go_wp2
        go_roundg (N - (k + (k2 + 1)))
        case measure => omega
        case rel => exact ⟨kk, k2 + 1, q2 + nq, ik, rfl, by go_num, by omega, by omega, Nat.le_refl _, by rw [W2.out, putRow_drewN], I2.out.skip (by
         have := of_decide_eq_true CC.out
         unfold kpR
         rw [decide_eq_false]
         intro h
         rcases h with h | h
         ·omega
         ·exact h (by rw [show k + k2 - 1 = k + (k2 - 1) by omega]; exact this))⟩
       | false =>
        go_wp2_with fail
        go_quiet_o (first | (go_at_call 46; exact hcall _))
        go_wp2
        simp only [hst, Result.andThen_ok]
        go_wp2
        go_roundg (N - (k + (k2 + 1)))
        case measure => omega
        case rel =>
         refine ⟨kk + 1, k2 + 1, q2 + nq, ik.setIfInBounds kk (k + k2), by go_num, by go_num, by omega, by omega, Nat.le_refl _, ?_, I2.out.keep hlt2 (by
          have := of_decide_eq_false CC.out
          unfold kpR
          rw [decide_eq_true]
          exact .inr (by rw [show k + k2 - 1 = k + (k2 - 1) by omega]; exact this))⟩
         rw [W2.out, putRow_drewN]
         have := putRow_set (encR xs) (Sort.ahead w (q2 + nq)) blk 0 ik kk (k + k2) (by omega)
         rw [Nat.zero_add, CV.out] at this
         exact this
      ·have hend : k + k2 = N := by omega
       have hcl := fun ty => run_clear_row (w := wr) ty blk kk (N - kk) (cap - kk) (by omega) (fun j hj => by
        have := cells1 hHk (i := kk + j) (by omega)
        exact ⟨by rw [this.1]; rfl, this.2⟩)
       clear hHk hI hSW
       go_wp2
       go_ret
       have hI := I2.out
       rw [hend] at hI
       have hz : (kfL (kpR xs) N).length = kk := hI.len
       refine ⟨by rw [hz]; rfl, q2, setMany (ik.map (encR xs)) kk (List.replicate (N - kk) (.slice none 0 0)), ?_, by simp [hds, HN.out], fun j hj => ?_⟩
       ·rw [W2.out]
        have e0 : putRow (encR xs) (Sort.ahead w q2) blk 0 ik = putRow id (Sort.ahead w q2) blk 0 (ik.map (encR xs)) := putRow_map _ _ _ _
        have := setCells_putRow (Sort.ahead w q2) blk 0 (List.replicate (N - kk) (.slice none 0 0)) kk (ik.map (encR xs)) (by simp; omega)
        rw [Nat.zero_add] at this
        rw [e0]
        exact this
       ·rw [HN.out] at hj ⊢
        rw [hz] at hj
        have hl := hI.low j hj
        have hg : (kfL (kpR xs) N)[j]! = ik[j]! := by
         rw [List.getElem!_eq_getElem?_getD, hl]; rfl
        rw [hg, get_setMany _ _ _ _ (by simp; omega), if_neg (by omega), getElem!_pos (ik.map (encR xs)) j (by simp; omega), getElem!_pos ik j (by omega)]
        simp
    | false =>
     go_wp2_with fail
     go_quiet_o (first | (go_at_call 46; exact hcall _))
     go_wp2
     go_roundg (N - (k + 1))
     case measure => omega
     case rel =>
      refine ⟨k + 1, q + nq, by omega, by omega, Nat.le_refl _, by go_num, by rw [W1.out, World.drewN_drewN], (show Aside _ from fun j hj => ?_)⟩
      by_cases e : j = k
      ·subst e
       have := of_decide_eq_false BB.out
       unfold kpR
       rw [decide_eq_true]
       exact .inr this
      ·exact A.out j (by omega)
   ·have : k = N := by omega
    subst this
    have W1 : Aside (wr = w.drewN q) := hwr
    clear hwr
    go_wp2
    go_ret
    rw [W1.out]
    obtain ⟨e1, e2, e3⟩ := HS.out q (fun j hj => A.out j hj)
    exact ⟨by rw [e1]; rfl, q, _, e2, e3⟩
theorem cf_none (a : Option Addr) (cap : Nat) (f : Value) (w : World) :
  Calls Tryz.prog 108 #[.slice a 0 cap, f] w fun e w' => e = .returned (.slice a 0 cap) ∧ w' = w := by
 go_enter Tryz.func108, Tryz.ntmps108
 go_wp2
 go_ret
 exact ⟨rfl, rfl⟩
theorem sub_flat {α : Type} {f : α → List Nat} {l m : List α} (h : l.Sublist m) : (l.flatMap f).Sublist (m.flatMap f) := by
 induction h with
 | slnil => exact List.Sublist.refl _
 | cons a _ ih => rw [List.flatMap_cons]; exact ih.trans (List.sublist_append_right _ _)
 | cons_cons a _ ih => rw [List.flatMap_cons, List.flatMap_cons]; exact (List.Sublist.refl _).append ih
theorem kept_rows {h : Heap} {blk : Nat} (xs : List (RowE h blk)) : ((kfL (kpR xs.toArray) xs.length).map fun i => xs.toArray[i]!).map (·.r) = Lib.compact (xs.map (·.r)) ∧ ((kfL (kpR xs.toArray) xs.length).map fun i => xs.toArray[i]!).Sublist xs := by
 have hg : ∀ j, (xs.map (·.r)).toArray[j]! = (xs.toArray[j]! : RowE h blk).r := fun j => by
  by_cases hj : j < xs.length
  ·rw [getElem!_pos (xs.map (·.r)).toArray j (by simpa using hj), getElem!_pos xs.toArray j (by simpa using hj)]
   simp
  ·rw [getElem!_neg (xs.map (·.r)).toArray j (by simpa using hj), getElem!_neg xs.toArray j (by simpa using hj)]
   rfl
 refine ⟨?_, ?_⟩
 ·unfold Lib.compact Lib.compactUpTo kfL
  rw [List.map_map, List.length_map]
  have hk : kpR xs.toArray = Lib.keeps (xs.map (·.r)).toArray := by
   funext j
   unfold kpR Lib.keeps
   rw [hg, hg]
  rw [hk]
  exact List.map_congr_left fun j _ => (hg j).symm
 ·have h1 := (List.filter_sublist (l := List.range xs.length) (p := kpR xs.toArray)).map fun i => xs.toArray[i]!
  have h2 : (List.range xs.length).map (fun i => xs.toArray[i]!) = xs := by
   have := Lib.range_map_get xs.toArray
   simpa using this
  rw [h2] at h1
  exact h1
def cCompF : Contract := ⟨[true], true, fun
 | [.arr 1 l _, .fnc f []] => some (f = 46 ∧ WfS l ∧ l.length ≤ 16777216, [⟨false, [.own 1 (sL (Lib.compact (unS l))) 1]⟩], [.gone])
 | _ => none⟩
theorem compF_ok : ContractOK E0 108 cCompF := by
 refine ⟨⟨Tryz.f108, Tryz.func108, by kernel_rfl, rfl⟩, ?_⟩
 intro args p rs ms hr hp w vals F Ms ha hnd hF hJ hN hMN
 unfold cCompF at hr
 dsimp only at hr
 split at hr
 ·rename_i l dp f
  simp only [Option.some.injEq, Prod.mk.injEq] at hr
  obtain ⟨rfl, rfl, rfl⟩ := hr
  obtain ⟨rfl, hl, hlen⟩ := hp
  obtain ⟨ys, rfl, hmx, hmy⟩ := hl.ex
  rw [unS_sL]
  rw [sL_length] at hlen
  cases ha with
  | cons h1 h2 =>
   cases h2 with
   | cons h2 h3 =>
    cases h3
    cases h1 with
    | arr r1 hdp =>
     cases h2 with
     | fnc r2 =>
      cases r2
      rcases r1 with ⟨rfl, hnil, rfl, _⟩ | ⟨b, cap, c, e, G, rfl, rfl, _, a2, a3, a4, a5, a6, a7⟩
      ·have e0 : ys = [] := by
        have := congrArg List.length hnil
        rw [sL_length] at this
        exact List.eq_nil_of_length_eq_zero this
       subst e0
       refine (cf_none none 0 _ w).mono ?_
       rintro e w' ⟨rfl, rfl⟩
       refine ⟨_, rfl, rfl, rfl, rfl, Nat.le_refl _, fun _ _ _ => rfl, [], [[]], [], [], ?_, ?_, by simp, by simp, by simp, by simp, by simp⟩
       ·have : RCsOK w'.heap [.own 1 (sL []) 1] [.slice none 0 0] ([] ++ []) ([[]]) := .own (.inl ⟨rfl, rfl, rfl, rfl⟩) .nil
        simpa [RetsOK, RVOK, Lib.compact, Lib.compactUpTo, sL] using this
       ·have := ArgsOK.cons (h := w'.heap) (ArgOK.gone (v := .slice none 0 0)) ArgsOK.nil
        simpa [mutVals, cCompF] using this
      ·rw [sL_length, Nat.mul_one] at a7
       rw [sL_length] at a3
       have hdp' : (dp != 0) = true := by simpa using hdp
       rw [hdp'] at a7
       rw [if_neg hdp] at hnd hF hMN ⊢
       have hnG : (b :: G).Nodup := by simpa using hnd
       have hbG : b ∉ G := (List.nodup_cons.1 hnG).1
       obtain ⟨xs, x1, x2, x3⟩ := rows_split (blk := b) a7 hbG hmy
       have hxl : xs.length = ys.length := by rw [← x1, List.length_map]
       have hH : Holds (encR xs.toArray) w b 0 (Array.range xs.toArray.size) := holds_row a2 (by
        have : (Array.range xs.toArray.size).toList.map (encR xs.toArray) = xs.map (·.v) := by
         have := Lib.range_map_get xs.toArray
         have h2 := congrArg (List.map fun x : RowE w.heap b => x.v) this
         rw [List.map_map] at h2
         rw [Array.toList_range]
         exact h2
        rw [this, x2]
        simp [hxl])
       have hcon := cf_arr b cap w xs.toArray hH (by simp; omega) (by simp; omega)
       have hsz : xs.toArray.size = ys.length := by simpa using hxl
       obtain ⟨k1, k2⟩ := kept_rows xs
       rw [hxl] at k1 k2
       rw [x1] at k1
       rw [hsz] at hcon
       rw [sL_length]
       refine hcon.mono ?_
       rintro e' w' ⟨rfl, n, d, rfl, hd1, hd2⟩
       rw [hsz] at hd1 hd2
       generalize hK : kfL (kpR xs.toArray) ys.length = K at k1 k2 hd2 ⊢
       have hKl : (Lib.compact ys).length = K.length := by rw [← k1]; simp
       generalize hzs : (K.map fun i => xs.toArray[i]!) = zs at k1 k2
       have hzl : zs.length = K.length := by rw [← hzs]; simp
       have hle : zs.length ≤ ys.length := by rw [← hxl]; exact k2.length_le
       have hw : putRow id (Sort.ahead w n) b 0 d = sortWorld id w b 0 n d #[] := by unfold sortWorld; rw [grow_empty]
       rw [hw]
       obtain ⟨q1, q2, q3⟩ := sortWorld_heap (enc := (id : Value → Value)) (n := n) (d := d) (os := #[]) a2
       have hlt : b < w.heap.size := (Array.getElem?_eq_some_iff.1 a2).1
       obtain ⟨t1, t2⟩ := putCells_take (enc := (id : Value → Value)) (d := d) (c := c) (by omega)
       have hin : ∀ x : RowE w.heap b, ∀ k ∈ x.m, k < w.heap.size ∧ k ≠ b := fun x k hk => ⟨x.ok.lt k hk, fun e => x.nb (e ▸ hk)⟩
       have hjoin := rows_join (h' := (sortWorld id w b 0 n d #[]).heap) zs fun k hk => by
        obtain ⟨x, hx, hk⟩ := List.mem_flatMap.1 hk
        exact q3 k (hin x k hk).1 (hin x k hk).2
       rw [k1] at hjoin
       have hsub : (zs.flatMap (·.m)).Sublist G := by rw [← x3]; exact sub_flat k2
       have hnd' : (b :: zs.flatMap (·.m)).Nodup := hnG.sublist (List.Sublist.cons_cons b hsub)
       have q : ArrAt (sortWorld id w b 0 n d #[]).heap (b :: zs.flatMap (·.m)) [] 1 (sL (Lib.compact ys)) 1 (.slice (some ⟨b, 0, none⟩) K.length cap) := by
        refine .inr ⟨b, cap, _, e, zs.flatMap (·.m), by rw [sL_length, hKl], rfl, rfl, q2, by rw [sL_length, hKl]; omega, a4, by rw [t2]; exact a5, ?_, ?_⟩
        ·intro z hz
         simp only [sL, List.mem_map] at hz
         obtain ⟨_, _, rfl⟩ := hz
         rfl
        ·rw [sL_length, hKl, Nat.mul_one]
         have e1 : (putCells id 0 d c).toList.take K.length = zs.map (·.v) := by
          have : (putCells id 0 d c).toList.take K.length = ((putCells id 0 d c).toList.take d.size).take K.length := by
           rw [List.take_take]; congr 1; omega
          rw [this, t1, List.map_id, ← hzs, List.map_map]
          apply List.ext_getElem
          ·simp; omega
          ·intro t i1 i2
           have hk : t < K.length := by simpa using i2
           have hq := hd2 t hk
           have i3 : t < d.size := by omega
           rw [getElem!_pos d t i3, getElem!_pos K t hk] at hq
           simp only [List.getElem_take, Array.getElem_toList, List.getElem_map, Function.comp]
           exact hq
         rw [e1]
         exact hjoin
       refine ⟨_, rfl, rfl, rfl, rfl, q1, fun k hk hn => q3 k hk (fun e => hn (by simp [e])), [], [b :: zs.flatMap (·.m)], [], [], ?_, ?_, by simpa using hnd', ?_, by simp, by simp, by simp⟩
       ·have : RCsOK (sortWorld id w b 0 n d #[]).heap [.own 1 (sL (Lib.compact ys)) 1] [.slice (some ⟨b, 0, none⟩) K.length cap] ([] ++ []) ([b :: zs.flatMap (·.m)]) := .own q .nil
        simpa [RetsOK, RVOK] using this
       ·have := ArgsOK.cons (h := (sortWorld id w b 0 n d #[]).heap) (ArgOK.gone (v := .slice (some ⟨b, 0, none⟩) ys.length cap)) ArgsOK.nil
        simpa [mutVals, cCompF] using this
       ·intro k hk
        simp only [List.flatten_cons, List.flatten_nil, List.append_nil] at hk
        have hk' : k ∈ b :: G := (List.Sublist.cons_cons b hsub).subset hk
        refine ⟨.inr ⟨rfl, by simpa using hk'⟩, ?_⟩
        rcases List.mem_cons.1 hk' with rfl | hk'
        ·omega
        ·have := a7.lt k hk'; omega
 ·cases hr
end Go.Own
