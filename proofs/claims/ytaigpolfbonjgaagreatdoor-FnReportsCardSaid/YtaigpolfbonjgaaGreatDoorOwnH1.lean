import Derived.Test.YtaigpolfbonjgaaGreatDoorOwnTa
import Derived.Test.YtaigpolfbonjgaaGreatDoorOwnTe
import Derived.Test.YtaigpolfbonjgaaGreatDoorOwnTh
import Derived.Lib.RowBridge
set_option linter.unusedSimpArgs false
set_option linter.unusedVariables false
set_option maxRecDepth 20000
set_option maxHeartbeats 2000000
namespace Go.Own
open Go Go.Proofs Go.RowKit Go.Sort Go.Shelf
def srtI (xs : List Int) : List Int := xs.mergeSort fun x y => decide (x ≤ y)
def cSortI : Contract := ⟨[true], false, fun
 | [.arr 1 l _] => some (WfI l ∧ l.length ≤ 16777216, [], [.arr 1 (iL (srtI (unI l))) 1])
 | _ => none⟩
theorem sortI_ok : ContractOK E0 144 cSortI := by
 refine ⟨⟨Tryz.f144, Tryz.func144, by kernel_rfl, rfl⟩, ?_⟩
 intro args p rs ms hr hp w vals F Ms ha hnd hF hJ hN hMN
 unfold cSortI at hr
 dsimp only at hr
 split at hr
 ·rename_i l dp
  simp only [Option.some.injEq, Prod.mk.injEq] at hr
  obtain ⟨rfl, rfl, rfl⟩ := hr
  obtain ⟨hl, hlen⟩ := hp
  obtain ⟨ys, rfl, hmx⟩ := hl.ex
  rw [unI_iL]
  rw [iL_length] at hlen
  cases ha with
  | cons h1 h2 =>
   cases h2
   cases h1 with
   | arr r1 hdp =>
    rcases r1 with ⟨rfl, hnil, rfl, _⟩ | ⟨b, cap, c, e, G, rfl, rfl, _, a2, a3, a4, a5, a6, a7⟩
    ·have e0 : ys = [] := by
      have := congrArg List.length hnil
      rw [iL_length] at this
      exact List.eq_nil_of_length_eq_zero this
     subst e0
     have hcon := Any.slices_Sort_int_none Tryz.lays189 none 0 w
     change Calls Tryz.prog 144 _ _ _ at hcon
     refine hcon.mono ?_
     rintro e w' ⟨rfl, rfl⟩
     refine ⟨_, rfl, rfl, rfl, rfl, Nat.le_refl _, fun _ _ _ => rfl, [], [], [], [[]], ⟨rfl, rfl⟩, ?_, by simp, by simp, by simp, by simp, by simp⟩
     have := ArgsOK.cons (h := w'.heap) (ArgOK.arr (s := 1) (l := []) (dp := 1) (m := []) (.inl ⟨rfl, rfl, rfl, rfl⟩) (by decide)) ArgsOK.nil
     simpa [srtI, iL, mutVals, cSortI] using this
    ·rw [iL_length, Nat.mul_one] at a7
     obtain ⟨hv, rfl⟩ := ints_of_reps a7
     rw [iL_length] at a3
     have hH : Holds (Value.int .i64) w b 0 ys.toArray := holds_row a2 (by simpa using hv)
     have hcon := Any.slices_Sort_int Tryz.lays189 b 0 cap ys w hH (Array.getElem?_eq_some_iff.1 a2).1 (by omega)
     change Calls Tryz.prog 144 _ _ _ at hcon
     rw [iL_length]
     refine hcon.mono ?_
     rintro e w' ⟨rfl, n, os, rfl⟩
     have hps := sort_post (val := fun x : Int => x) (n := n) (os := os) (F := []) (x := .tuple #[]) (d := ys.toArray) (d' := (srtI ys).toArray) a2 (by simp [srtI]) (by simpa using a3) a4 a5
     refine ⟨_, rfl, ?_⟩
     simp [mutVals, srtI, cSortI] at hps ⊢
     exact hps
 ·cases hr
def cCompI : Contract := ⟨[true], true, fun
 | [.arr 1 l _] => some (WfI l ∧ l.length ≤ 16777216, [⟨false, [.own 1 (iL (Lib.compact (unI l))) 1]⟩], [.gone])
 | _ => none⟩
theorem compI_ok : ContractOK E0 145 cCompI := by
 refine ⟨⟨Tryz.f145, Tryz.func145, by kernel_rfl, rfl⟩, ?_⟩
 intro args p rs ms hr hp w vals F Ms ha hnd hF hJ hN hMN
 unfold cCompI at hr
 dsimp only at hr
 split at hr
 ·rename_i l dp
  simp only [Option.some.injEq, Prod.mk.injEq] at hr
  obtain ⟨rfl, rfl, rfl⟩ := hr
  obtain ⟨hl, hlen⟩ := hp
  obtain ⟨ys, rfl, hmx⟩ := hl.ex
  rw [unI_iL]
  rw [iL_length] at hlen
  cases ha with
  | cons h1 h2 =>
   cases h2
   cases h1 with
   | arr r1 hdp =>
    rcases r1 with ⟨rfl, hnil, rfl, _⟩ | ⟨b, cap, c, e, G, rfl, rfl, _, a2, a3, a4, a5, a6, a7⟩
    ·have e0 : ys = [] := by
      have := congrArg List.length hnil
      rw [iL_length] at this
      exact List.eq_nil_of_length_eq_zero this
     subst e0
     have hcon := Any.slices_Compact_int_empty Tryz.laysC none 0 w
     change Calls Tryz.prog 145 _ _ _ at hcon
     refine hcon.mono ?_
     rintro e w' ⟨rfl, rfl⟩
     refine ⟨_, rfl, rfl, rfl, rfl, Nat.le_refl _, fun _ _ _ => rfl, [], [[]], [], [], ?_, ?_, by simp, by simp, by simp, by simp, by simp⟩
     ·have : RCsOK w'.heap [.own 1 (iL []) 1] [.slice none 0 0] ([] ++ []) ([[]]) := .own (.inl ⟨rfl, rfl, rfl, rfl⟩) .nil
      simpa [RetsOK, RVOK, Lib.compact, Lib.compactUpTo, iL] using this
     ·have := ArgsOK.cons (h := w'.heap) (ArgOK.gone (v := .slice none 0 0)) ArgsOK.nil
      simpa [mutVals, cCompI] using this
    ·rw [iL_length, Nat.mul_one] at a7
     obtain ⟨hv, rfl⟩ := ints_of_reps a7
     rw [iL_length] at a3
     have hH : Holds (Value.int .i64) w b 0 ys.toArray := holds_row a2 (by simpa using hv)
     have hcon := Any.slices_Compact_int Tryz.laysC b 0 cap ys w hH (by omega) a3
     change Calls Tryz.prog 145 _ _ _ at hcon
     rw [iL_length]
     refine hcon.mono ?_
     have hcl := Lib.compact_length_le ys
     rintro e w' ⟨rfl, n, rfl⟩
     generalize hzs : Lib.compact ys = zs at hcl
     generalize hd : (zs ++ List.replicate (ys.length - zs.length) (0 : Int)).toArray = d
     have hds : d.size = ys.length := by rw [← hd]; simp; omega
     have hw : putRow (Value.int .i64) (Sort.ahead w n) b 0 d = sortWorld (Value.int .i64) w b 0 n d #[] := by unfold sortWorld; rw [grow_empty]
     rw [hw]
     obtain ⟨q1, q2, q3⟩ := sortWorld_heap (enc := Value.int .i64) (n := n) (d := d) (os := #[]) a2
     have hlt : b < w.heap.size := (Array.getElem?_eq_some_iff.1 a2).1
     obtain ⟨t1, t2⟩ := putCells_take (enc := Value.int .i64) (d := d) (c := c) (by omega)
     have q : ArrAt (sortWorld (Value.int .i64) w b 0 n d #[]).heap [b] [] 1 (iL zs) 1 (.slice (some ⟨b, 0, none⟩) zs.length cap) := by
      refine .inr ⟨b, cap, _, e, [], by rw [iL_length], rfl, rfl, q2, by rw [iL_length]; omega, a4, by rw [t2]; exact a5, ?_, ?_⟩
      ·intro z hz
       simp only [iL, List.mem_map] at hz
       obtain ⟨_, _, rfl⟩ := hz
       rfl
      ·rw [iL_length, Nat.mul_one]
       have e1 : (putCells (Value.int .i64) 0 d c).toList.take zs.length = zs.map fun n => Value.int .i64 n := by
        have : (putCells (Value.int .i64) 0 d c).toList.take zs.length = ((putCells (Value.int .i64) 0 d c).toList.take d.size).take zs.length := by
         rw [List.take_take]; congr 1; omega
        rw [this, t1, ← hd]
        simp
       rw [e1]
       exact repsW_ints zs
     refine ⟨_, rfl, rfl, rfl, rfl, q1, fun k hk hn => q3 k hk (by simpa using hn), [], [[b]], [], [], ?_, ?_, by simp, ?_, by simp, by simp, by simp⟩
     ·have : RCsOK (sortWorld (Value.int .i64) w b 0 n d #[]).heap [.own 1 (iL zs) 1] [.slice (some ⟨b, 0, none⟩) zs.length cap] ([] ++ []) ([[b]]) := .own q .nil
      simpa [RetsOK, RVOK] using this
     ·have := ArgsOK.cons (h := (sortWorld (Value.int .i64) w b 0 n d #[]).heap) (ArgOK.gone (v := .slice (some ⟨b, 0, none⟩) ys.length cap)) ArgsOK.nil
      simpa [mutVals, cCompI] using this
     ·intro k hk
      simp only [List.flatten_cons, List.flatten_nil, List.append_nil, List.mem_singleton] at hk
      subst hk
      exact ⟨.inr ⟨rfl, by simp⟩, by omega⟩
 ·cases hr
def insS : List Int → Int → List Int
 | [], x => [x]
 | y :: l, x => if x < y then x :: y :: l else y :: insS l x
def putS (l : List Int) (x : Int) : List Int := if l.contains x then l else insS l x
def dstI (xs : List Int) : List Int := xs.foldl putS []
theorem insS_length : ∀ {l : List Int} {x : Int}, (insS l x).length = l.length + 1
 | [], x => rfl
 | y :: l, x => by
  rw [insS]
  split
  ·rfl
  ·simp [@insS_length l x]
theorem insS_mem : ∀ {l : List Int} {x z : Int}, z ∈ insS l x ↔ z = x ∨ z ∈ l
 | [], x, z => by simp [insS]
 | y :: l, x, z => by
  rw [insS]
  split
  ·simp
  ·rw [List.mem_cons, @insS_mem l x z, List.mem_cons]
   constructor
   ·rintro (h | h | h)
    ·exact .inr (.inl h)
    ·exact .inl h
    ·exact .inr (.inr h)
   ·rintro (h | h | h)
    ·exact .inr (.inl h)
    ·exact .inl h
    ·exact .inr (.inr h)
theorem insS_sorted : ∀ {l : List Int} {x : Int}, l.Pairwise (· < ·) → x ∉ l → (insS l x).Pairwise (· < ·)
 | [], x, _, _ => by simp [insS]
 | y :: l, x, h, hx => by
  rw [insS]
  rw [List.pairwise_cons] at h
  split
  ·rename_i hxy
   refine List.pairwise_cons.2 ⟨fun z hz => ?_, List.pairwise_cons.2 h⟩
   rcases List.mem_cons.1 hz with rfl | hz
   ·exact hxy
   ·have := h.1 z hz; omega
  ·rename_i hxy
   refine List.pairwise_cons.2 ⟨fun z hz => ?_, insS_sorted h.2 (fun hm => hx (by simp [hm]))⟩
   rcases insS_mem.1 hz with rfl | hz
   ·have : z ≠ y := fun e => hx (by simp [e])
    omega
   ·exact h.1 z hz
theorem putS_mem {l : List Int} {x z : Int} : z ∈ putS l x ↔ z = x ∨ z ∈ l := by
 unfold putS
 split
 ·rename_i h
  rw [List.contains_iff_mem] at h
  constructor
  ·exact .inr
  ·rintro (rfl | h2)
   ·exact h
   ·exact h2
 ·exact insS_mem
theorem putS_sorted {l : List Int} {x : Int} (h : l.Pairwise (· < ·)) : (putS l x).Pairwise (· < ·) := by
 unfold putS
 split
 ·exact h
 ·rename_i hx
  exact insS_sorted h fun hm => hx (List.contains_iff_mem.2 hm)
theorem putS_length {l : List Int} {x : Int} : (putS l x).length ≤ l.length + 1 := by
 unfold putS
 split
 ·omega
 ·rw [insS_length]; omega
theorem foldl_put_mem : ∀ {xs l : List Int} {z : Int}, z ∈ xs.foldl putS l ↔ z ∈ xs ∨ z ∈ l
 | [], l, z => by simp
 | x :: xs, l, z => by
  rw [List.foldl_cons, foldl_put_mem, putS_mem, List.mem_cons]
  constructor
  ·rintro (h | h | h)
   ·exact .inl (.inr h)
   ·exact .inl (.inl h)
   ·exact .inr h
  ·rintro ((h | h) | h)
   ·exact .inr (.inl h)
   ·exact .inl h
   ·exact .inr (.inr h)
theorem foldl_put_sorted : ∀ {xs l : List Int}, l.Pairwise (· < ·) → (xs.foldl putS l).Pairwise (· < ·)
 | [], l, h => h
 | x :: xs, l, h => by rw [List.foldl_cons]; exact foldl_put_sorted (putS_sorted h)
theorem foldl_put_length : ∀ {xs l : List Int}, (xs.foldl putS l).length ≤ xs.length + l.length
 | [], l => by simp
 | x :: xs, l => by
  rw [List.foldl_cons]
  have h1 := @foldl_put_length xs (putS l x)
  have h2 := @putS_length l x
  simp only [List.length_cons]; omega
theorem dstI_mem {xs : List Int} {z : Int} : z ∈ dstI xs ↔ z ∈ xs := by unfold dstI; rw [foldl_put_mem]; simp
theorem dstI_sorted {xs : List Int} : (dstI xs).Pairwise (· < ·) := foldl_put_sorted .nil
theorem dstI_length {xs : List Int} : (dstI xs).length ≤ xs.length := by have := @foldl_put_length xs []; simpa [dstI] using this
theorem sorted_ext : ∀ {l m : List Int}, l.Pairwise (· < ·) → m.Pairwise (· < ·) → (∀ x, x ∈ l ↔ x ∈ m) → l = m
 | [], [], _, _, _ => rfl
 | [], y :: m, _, _, h => by have := (h y).2 (by simp); cases this
 | x :: l, [], _, _, h => by have := (h x).1 (by simp); cases this
 | x :: l, y :: m, hl, hm, h => by
  rw [List.pairwise_cons] at hl hm
  have e : x = y := by
   rcases List.mem_cons.1 ((h x).1 (by simp)) with e | h1
   ·exact e
   ·rcases List.mem_cons.1 ((h y).2 (by simp)) with e | h2
    ·exact e.symm
    ·have := hm.1 x h1
     have := hl.1 y h2
     omega
  subst e
  rw [sorted_ext hl.2 hm.2 fun z => ?_]
  constructor
  ·intro hz
   rcases List.mem_cons.1 ((h z).1 (by simp [hz])) with e | h1
   ·have := hl.1 z hz; omega
   ·exact h1
  ·intro hz
   rcases List.mem_cons.1 ((h z).2 (by simp [hz])) with e | h1
   ·have := hm.1 z hz; omega
   ·exact h1
theorem compUp_facts {d : Array Int} (hs : ∀ i j, i ≤ j → j < d.size → d[i]! ≤ d[j]!) : ∀ {m : Nat}, m ≤ d.size → (Lib.compactUpTo d m).Pairwise (· < ·) ∧ (∀ y, y ∈ Lib.compactUpTo d m ↔ ∃ j, j < m ∧ d[j]! = y)
 | 0, _ => by simp [Lib.compactUpTo]
 | m + 1, h => by
  obtain ⟨h1, h2⟩ := compUp_facts hs (m := m) (by omega)
  rw [Lib.compactUpTo_succ]
  cases hk : Lib.keeps d m
  ·simp only [Bool.false_eq_true, if_false, List.append_nil]
   refine ⟨h1, fun y => ?_⟩
   rw [h2]
   simp only [Lib.keeps, decide_eq_false_iff_not, not_or, ne_eq, Decidable.not_not] at hk
   constructor
   ·rintro ⟨j, hj, e⟩; exact ⟨j, by omega, e⟩
   ·rintro ⟨j, hj, e⟩
    by_cases hm : j = m
    ·subst hm
     exact ⟨j - 1, by omega, by rw [← e]; exact hk.2.symm⟩
    ·exact ⟨j, by omega, e⟩
  ·simp only [if_true]
   simp only [Lib.keeps, decide_eq_true_eq] at hk
   refine ⟨List.pairwise_append.2 ⟨h1, by simp, fun a ha b hb => ?_⟩, fun y => ?_⟩
   ·rw [List.mem_singleton] at hb
    subst hb
    obtain ⟨j, hj, rfl⟩ := (h2 a).1 ha
    have q1 := hs j (m - 1) (by omega) (by omega)
    have q2 := hs (m - 1) m (by omega) (by omega)
    have q3 : d[m]! ≠ d[m - 1]! := by
     rcases hk with hk | hk
     ·omega
     ·exact hk
    omega
   ·rw [List.mem_append, List.mem_singleton, h2]
    constructor
    ·rintro (⟨j, hj, e⟩ | rfl)
     ·exact ⟨j, by omega, e⟩
     ·exact ⟨m, by omega, rfl⟩
    ·rintro ⟨j, hj, e⟩
     by_cases hm : j = m
     ·subst hm; exact .inr e.symm
     ·exact .inl ⟨j, by omega, e⟩
theorem comp_srt {xs : List Int} : Lib.compact (srtI xs) = dstI xs := by
 have h1 : (srtI xs).Pairwise fun x y => x ≤ y := by
  have : (srtI xs).Pairwise fun x y => decide (x ≤ y) = true := by
   apply List.pairwise_mergeSort
   ·intro a b c h1 h2
    simp at *
    omega
   ·intro a b
    simp
    omega
  exact this.imp fun h => by simpa using h
 have h2 : ∀ z, z ∈ srtI xs ↔ z ∈ xs := fun z => (List.mergeSort_perm _ _).mem_iff
 have hs : ∀ i j, i ≤ j → j < (srtI xs).toArray.size → (srtI xs).toArray[i]! ≤ (srtI xs).toArray[j]! := by
  intro i j hij hj
  by_cases e : i = j
  ·subst e; exact Int.le_refl _
  ·have hj' : j < (srtI xs).length := by simpa using hj
   have := (List.pairwise_iff_getElem.1 h1) i j (by omega) hj' (by omega)
   rw [getElem!_pos _ i (by omega), getElem!_pos _ j hj]
   simpa using this
 obtain ⟨c1, c2⟩ := compUp_facts hs (Nat.le_refl _)
 have e : Lib.compact (srtI xs) = Lib.compactUpTo (srtI xs).toArray (srtI xs).toArray.size := by unfold Lib.compact; simp
 rw [e]
 refine sorted_ext c1 dstI_sorted fun z => ?_
 rw [c2, dstI_mem, ← h2]
 constructor
 ·rintro ⟨j, hj, rfl⟩
  rw [getElem!_pos _ j hj]
  simp
 ·intro hz
  obtain ⟨j, hj, e⟩ := List.getElem_of_mem hz
  refine ⟨j, by simpa using hj, ?_⟩
  rw [getElem!_pos _ j (by simpa using hj)]
  simpa using e
theorem srtI_length {xs : List Int} : (srtI xs).length = xs.length := by unfold srtI; exact List.length_mergeSort _
def cDst : Contract := ⟨[], false, fun
 | [.one (.sl 1 l)] => some (WfI l ∧ l.length ≤ 16777216, [⟨false, [.own 1 (iL (dstI (unI l))) 1]⟩], [])
 | _ => none⟩
theorem dst_ok : ContractOK E0 105 cDst := by
 refine cWpc (E := E0) (T := mkT Tryz.prog [(143, cCopyI), (144, cSortI), (145, cCompI)] false (fun _ => false) true (fun _ => false)) (mkT_ok (E := E0) (.cons copyI_ok (.cons sortI_ok (.cons compI_ok .nil)))) (fn := Tryz.f105) Tryz.func105 (by kernel_rfl) rfl mixedT (by kernel_rfl) rfl ?_
 intro args p rs ms hr
 unfold cDst at hr
 dsimp only at hr
 split at hr
 rotate_left
 ·cases hr
 rename_i l
 simp only [Option.some.injEq, Prod.mk.injEq] at hr
 obtain ⟨rfl, rfl, rfl⟩ := hr
 refine ⟨rfl, rfl, Nat.le_of_ble_eq_true rfl, ?_⟩
 have hm : maxLen = 9223372036854775807 := rfl
 rintro ⟨h1, h2⟩ bs
 obtain ⟨xs, rfl, hx⟩ := h1.ex
 clear h1
 rw [iL_length] at h2
 rw [unI_iL]
 have e := @comp_srt xs
 have e2 := @srtI_length xs
 (repeat' first | refine gA fun _ => ?_ | refine fkI ?_ ?_ <;> intro hb <;> try simp only [ew, e, e2] at hb | simp only [go_sem, simprocAttr, *, cDst, cCopyI, cSortI, cCompI, Tryz.results105, e, e2])
end Go.Own
