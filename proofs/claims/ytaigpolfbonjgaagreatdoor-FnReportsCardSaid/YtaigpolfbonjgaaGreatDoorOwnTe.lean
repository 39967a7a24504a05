/-
  What the kit's sorts of a row of ints say, in the words of the own calculus. Conditions: as each theorem states them.
-/
import Derived.Test.YtaigpolfbonjgaaGreatDoorOwnZ5
import Derived.Shelf.SlSortCmp.NoneTotal
import Derived.Test.YtaigpolfbonjgaaGreatDoorProg
import Derived.Test.YtaigpolfbonjgaaGreatDoorOwnTc
import Derived.WalkKit
import Derived.Test.YtaigpolfbonjgaaGreatDoorOwnG9
import Derived.Test.YtaigpolfbonjgaaGreatDoorOwnY1
import Derived.Test.YtaigpolfbonjgaaGreatDoorOwnTd
import Derived.Test.YtaigpolfbonjgaaGreatDoorOwnTb
set_option linter.unusedSimpArgs false
set_option linter.unusedVariables false
set_option maxRecDepth 20000
set_option maxHeartbeats 2000000
namespace Go.Own
open Go Go.Proofs Go.RowKit Go.Sort Go.Shelf
variable {α : Type} [Inhabited α]
theorem holds_row {enc : α → Value} {w : World} {b : Nat} {c : Array Value} {e : TypeId} (hb : w.heap[b]? = some (.cells c e (0, 0))) {d : Array α} (h : c.toList.take d.size = d.toList.map enc) : Holds enc w b 0 d := by
 intro j hj
 have h1 : (c.toList.take d.size)[j]? = some (enc d[j]!) := by
  rw [h, List.getElem?_map, Array.getElem?_toList, Array.getElem?_eq_getElem hj, getElem!_pos d j hj]; rfl
 rw [List.getElem?_take_of_lt hj, Array.getElem?_toList] at h1
 refine ⟨?_, ?_⟩
 ·simp only [World.cell?, hb, Nat.zero_add]
  exact h1
 ·simp [World.frozen?, hb]
theorem putCells_take {enc : α → Value} {d : Array α} {c : Array Value} (h : d.size ≤ c.size) : (putCells enc 0 d c).toList.take d.size = d.toList.map enc ∧ (putCells enc 0 d c).size = c.size := by
 refine ⟨?_, by simp [putCells]⟩
 apply List.ext_getElem?
 intro k
 by_cases hk : k < d.size
 ·rw [List.getElem?_take_of_lt hk, Array.getElem?_toList, List.getElem?_map, Array.getElem?_toList, Array.getElem?_eq_getElem hk]
  simp only [putCells, Array.getElem?_mapIdx]
  rw [Array.getElem?_eq_getElem (by omega)]
  simp only [Option.map_some, Nat.zero_le, true_and, Nat.zero_add, hk, if_true, Nat.sub_zero]
  rw [getElem!_pos d k hk]
 ·rw [List.getElem?_eq_none (by rw [List.length_take]; omega), List.getElem?_eq_none (by simp; omega)]
theorem sortWorld_heap {enc : α → Value} {w : World} {b n : Nat} {d : Array α} {os : Array Obj} {c : Array Value} {e : TypeId} (hb : w.heap[b]? = some (.cells c e (0, 0))) :
  w.heap.size ≤ (sortWorld enc w b 0 n d os).heap.size ∧ (sortWorld enc w b 0 n d os).heap[b]? = some (.cells (putCells enc 0 d c) e (0, 0)) ∧ ∀ k, k < w.heap.size → k ≠ b → (sortWorld enc w b 0 n d os).heap[k]? = w.heap[k]? := by
 have hlt : b < w.heap.size := (Array.getElem?_eq_some_iff.1 hb).1
 have e0 : (sortWorld enc w b 0 n d os).heap = w.heap.modify b (onCells (putCells enc 0 d)) ++ os := rfl
 rw [e0]
 refine ⟨by simp, ?_, fun k hk hne => ?_⟩
 ·rw [Array.getElem?_append_left (by simpa using hlt), Array.getElem?_modify, if_pos rfl, hb]; rfl
 ·rw [Array.getElem?_append_left (by simpa using hk), Array.getElem?_modify, if_neg (fun h => hne h.symm)]
theorem repsW_ints {W : Bool} {h : Heap} : ∀ (xs : List Int), RepsW W h (iL xs).flatten (xs.map fun n => Value.int .i64 n) []
 | [] => .nil
 | x :: xs => .v rfl (repsW_ints xs)
theorem ints_of_reps {W : Bool} {h : Heap} : ∀ {xs : List Int} {vs : List Value} {G : List Nat}, RepsW W h (iL xs).flatten vs G → vs = xs.map (fun n => Value.int .i64 n) ∧ G = []
 | [], vs, G, r => by cases r; exact ⟨rfl, rfl⟩
 | x :: xs, vs, G, r => by
  simp only [iL, List.map_cons, List.flatten_cons, List.cons_append, List.nil_append] at r
  cases r with
  | v _ r =>
   obtain ⟨rfl, rfl⟩ := ints_of_reps r
   exact ⟨rfl, rfl⟩
theorem sort_post {val : α → Int} {w : World} {b n cap : Nat} {d d' : Array α} {os : Array Obj} {c : Array Value} {e : TypeId} {F : List Nat} {x : Value} (hb : w.heap[b]? = some (.cells c e (0, 0))) (hs : d'.size = d.size) (hc : d.size ≤ cap) (hm : cap ≤ maxLen) (hcc : c.size = cap * 1) :
  PostOK false w (sortWorld (fun x => Value.int .i64 (val x)) w b 0 n d' os) F [[b]] [.slice (some ⟨b, 0, none⟩) d.size cap] [] [.arr 1 (iL (d'.toList.map val)) 1] x := by
 obtain ⟨h1, h2, h3⟩ := sortWorld_heap (enc := fun x => Value.int .i64 (val x)) (n := n) (d := d') (os := os) hb
 have hlt : b < w.heap.size := (Array.getElem?_eq_some_iff.1 hb).1
 obtain ⟨t1, t2⟩ := putCells_take (enc := fun x => Value.int .i64 (val x)) (d := d') (c := c) (by omega)
 have hl : (iL (d'.toList.map val)).length = d.size := by rw [iL_length, List.length_map, Array.length_toList, hs]
 refine ⟨rfl, rfl, rfl, h1, fun k hk hn => h3 k hk (by simpa using hn), [], [], [], [[b]], ⟨rfl, rfl⟩, ?_, by simp, by simp, by simp, by simp, ?_, by simp⟩
 ·have q : ArrAt (sortWorld (fun x => Value.int .i64 (val x)) w b 0 n d' os).heap [b] [] 1 (iL (d'.toList.map val)) 1 (.slice (some ⟨b, 0, none⟩) d.size cap) := by
   refine .inr ⟨b, cap, _, e, [], by rw [hl], rfl, rfl, h2, by omega, hm, by rw [t2]; exact hcc, ?_, ?_⟩
   ·intro z hz
    simp only [iL, List.mem_map] at hz
    obtain ⟨_, _, rfl⟩ := hz
    rfl
   ·rw [hl, ← hs, Nat.mul_one, t1]
    have := repsW_ints (W := true) (h := (sortWorld (fun x => Value.int .i64 (val x)) w b 0 n d' os).heap) (d'.toList.map val)
    rw [List.map_map] at this
    exact this
  have := ArgsOK.cons (ArgOK.arr q (by decide)) ArgsOK.nil
  simpa using this
 ·intro k hk
  simp only [List.flatten_cons, List.flatten_nil, List.append_nil, List.mem_singleton] at hk
  subst hk
  exact ⟨by omega, by simp, Or.inr (by simp)⟩
end Go.Own
/-
  DERIVED: THE SHELF's CONTRACTS AT THIS DUMP, IN PLAIN WORDS (tools/lay-plain.mjs out of 'TryShelf.lean', which tools/lay-shelf.mjs wrote): THE SAME DECLARATIONS UNDER THE SAME NAMES: 'import', 'namespace', 'open', 'def', 'theorem' AND NOTHING ELSE: no command of the shelf's: FOR A HAND-IN. Each laying: the table of numbers ('.._ren') and one theorem, a field a fact of the dump's own or the kernel's comparison; each contract: ONE APPLICATION.
-/
namespace Go.Proofs
open Go.Shelf
def Tryz.sortL_ren : Go.Shelf.Ren := ⟨fun | 6 => 165 | 15 => 159 | 14 => 183 | 28 => 177 | 29 => 178 | 20 => 194 | 21 => 195 | 22 => 196 | 23 => 197 | 24 => 198 | 25 => 199 | 26 => 200 | 27 => 201 | 46 => 205 | 47 => 187 | 48 => 188 | 49 => 206 | 50 => 207 | 57 => 208 | n => n, fun | 22 => 26 | 24 => 3 | 25 => 152 | 3 => 3 | 39 => 134 | 0 => 0 | 53 => 162 | 55 => 146 | 4 => 4 | 46 => 155 | 45 => 154 | 50 => 159 | 5 => 5 | 9 => 9 | 66 => 167 | 70 => 171 | 76 => 178 | 77 => 102 | n => n, fun | n => n⟩
theorem Tryz.sortL : Go.Proofs.SlLaysF.n6 Tryz.prog Tryz.sortL_ren := {
 mixed := by kernel_rfl
 f6 := ⟨Tryz.f165.name, by decide, Tryz.func165.trans (congrArg some (by kernel_rfl))⟩
 f14 := ⟨Tryz.f183.name, by decide, Tryz.func183.trans (congrArg some (by kernel_rfl))⟩
 f15 := Tryz.func159.trans (congrArg some (by kernel_rfl))
 f20 := ⟨Tryz.f194.name, by decide, Tryz.func194.trans (congrArg some (by kernel_rfl))⟩
 f21 := ⟨Tryz.f195.name, by decide, Tryz.func195.trans (congrArg some (by kernel_rfl))⟩
 f22 := ⟨Tryz.f196.name, by decide, Tryz.func196.trans (congrArg some (by kernel_rfl))⟩
 f23 := ⟨Tryz.f197.name, by decide, Tryz.func197.trans (congrArg some (by kernel_rfl))⟩
 f24 := ⟨Tryz.f198.name, by decide, Tryz.func198.trans (congrArg some (by kernel_rfl))⟩
 f25 := ⟨Tryz.f199.name, by decide, Tryz.func199.trans (congrArg some (by kernel_rfl))⟩
 f26 := ⟨Tryz.f200.name, by decide, Tryz.func200.trans (congrArg some (by kernel_rfl))⟩
 f27 := ⟨Tryz.f201.name, by decide, Tryz.func201.trans (congrArg some (by kernel_rfl))⟩
 f28 := Tryz.func177.trans (congrArg some (by kernel_rfl))
 f29 := Tryz.func178.trans (congrArg some (by kernel_rfl))
 f46 := ⟨Tryz.f205.name, by decide, Tryz.func205.trans (congrArg some (by kernel_rfl))⟩
 f47 := Tryz.func187.trans (congrArg some (by kernel_rfl))
 f48 := Tryz.func188.trans (congrArg some (by kernel_rfl))
 f49 := ⟨Tryz.f206.name, by decide, Tryz.func206.trans (congrArg some (by kernel_rfl))⟩
 f50 := ⟨Tryz.f207.name, by decide, Tryz.func207.trans (congrArg some (by kernel_rfl))⟩
 f57 := ⟨Tryz.f208.name, by decide, Tryz.func208.trans (congrArg some (by kernel_rfl))⟩
 t0 := Tryz.underlying0
 a0 := Tryz.isAgg0
 z0 := Tryz.sizeOf0
 v0 := Tryz.zeroValue0
 t3 := Tryz.underlying3
 a3 := Tryz.isAgg3
 z3 := Tryz.sizeOf3
 v3 := Tryz.zeroValue3
 t4 := Tryz.underlying4
 a4 := Tryz.isAgg4
 z4 := Tryz.sizeOf4
 v4 := Tryz.zeroValue4
 t5 := Tryz.underlying5
 a5 := Tryz.isAgg5
 z5 := Tryz.sizeOf5
 v5 := Tryz.zeroValue5
 t9 := Tryz.underlying9
 a9 := Tryz.isAgg9
 z9 := Tryz.sizeOf9
 v9 := Tryz.zeroValue9
 t22 := Tryz.underlying26
 a22 := Tryz.isAgg26
 z22 := Tryz.sizeOf26
 v22 := Tryz.zeroValue26
 a24 := Tryz.isAgg3
 z24 := Tryz.sizeOf3
 t25 := Tryz.underlying152
 a25 := Tryz.isAgg152
 z25 := Tryz.sizeOf152
 v25 := Tryz.zeroValue152
 t39 := Tryz.underlying134
 a39 := Tryz.isAgg134
 z39 := Tryz.sizeOf134
 v39 := Tryz.zeroValue134
 t45 := Tryz.underlying154
 a45 := Tryz.isAgg154
 z45 := Tryz.sizeOf154
 v45 := Tryz.zeroValue154
 t46 := Tryz.underlying155
 a46 := Tryz.isAgg155
 z46 := Tryz.sizeOf155
 v46 := Tryz.zeroValue155
 t50 := Tryz.underlying159
 a50 := Tryz.isAgg159
 z50 := Tryz.sizeOf159
 v50 := Tryz.zeroValue159
 t53 := Tryz.underlying162
 a53 := Tryz.isAgg162
 z53 := Tryz.sizeOf162
 v53 := Tryz.zeroValue162
 t55 := Tryz.underlying146
 a55 := Tryz.isAgg146
 z55 := Tryz.sizeOf146
 v55 := Tryz.zeroValue146
 t66 := Tryz.underlying167
 a66 := Tryz.isAgg167
 z66 := Tryz.sizeOf167
 v66 := Tryz.zeroValue167
 t70 := Tryz.underlying171
 a70 := Tryz.isAgg171
 z70 := Tryz.sizeOf171
 v70 := Tryz.zeroValue171
 t76 := Tryz.underlying178
 a76 := Tryz.isAgg178
 z76 := Tryz.sizeOf178
 v76 := Tryz.zeroValue178
 t77 := Tryz.underlying102
 a77 := Tryz.isAgg102
 z77 := Tryz.sizeOf102
 v77 := Tryz.zeroValue102 }
end Go.Proofs
namespace Go.Own
open Go Go.Proofs Go.RowKit Go.Sort Go.Shelf
theorem oc64 (x : Fin 32) (W : World) : Calls Tryz.prog 203 #[.int .u64 x.val] W fun e w' => e = .returned (.int .i64 (cnt x.val)) ∧ w' = W := by
 go_enter Tryz.func203, Tryz.ntmps203
 go_wp2
 go_ret
 refine ⟨?_, rfl⟩
 refine congrArg (fun z => Ending.returned (Value.int .i64 z)) ?_
 revert x
 decide +kernel
theorem oc (x : Fin 32) (W : World) : Calls Tryz.prog 184 #[.int .u64 x.val] W fun e w' => e = .returned (.int .i64 (cnt x.val)) ∧ w' = W := by
 have hcon := oc64 x W
 generalize cnt x.val = r at hcon ⊢
 go_enter Tryz.func184, Tryz.ntmps184
 go_wp2_with (go_at_call 203; refine hcon.mono ?_; rintro e w' ⟨rfl, rfl⟩)
 go_ret
 exact ⟨rfl, rfl⟩
def cfI (r s x y : Int) : Int := if r = s then x - y else r - s
def cfS (x y : Fin 32) : Int := cfI (cnt (x.val : Nat) : Nat) (cnt (y.val : Nat) : Nat) (x.val : Nat) (y.val : Nat)
theorem cnt_small : ∀ x : Fin 32, cnt (x.val : Nat) ≤ 5 := by decide +kernel
theorem cmpS_aux (x y r s : Nat) (hx : x < 32) (hy : y < 32) (k1 : r ≤ 5) (k2 : s ≤ 5) (W : World)
  (h1 : ∀ W, Calls Tryz.prog 184 #[.int .u64 x] W fun e w' => e = .returned (.int .i64 r) ∧ w' = W) (h2 : ∀ W, Calls Tryz.prog 184 #[.int .u64 y] W fun e w' => e = .returned (.int .i64 s) ∧ w' = W) :
  Calls Tryz.prog 166 #[.int .i64 x, .int .i64 y] W fun e w' => e = .returned (.int .i64 (cfI r s x y)) ∧ ∃ q, w' = W.drewN q := by
 go_enter Tryz.func166, Tryz.ntmps166
 go_wp2_with (go_at_call 184; first | (refine (h1 _).mono ?_; rintro e w' ⟨rfl, rfl⟩) | (refine (h2 _).mono ?_; rintro e w' ⟨rfl, rfl⟩))
 ·rename_i hb
  go_ret
  have : ¬ (r : Int) = s := by simpa using hb
  refine ⟨?_, 0, rfl⟩
  unfold cfI
  rw [if_neg this]
  rfl
 ·rename_i hb
  go_ret
  have : (r : Int) = s := by simpa using hb
  refine ⟨?_, 0, rfl⟩
  unfold cfI
  rw [if_pos this]
  rfl
theorem cmpS (x y : Fin 32) (W : World) : Calls Tryz.prog 166 #[.int .i64 (x.val : Nat), .int .i64 (y.val : Nat)] W fun e w' => e = .returned (.int .i64 (cfS x y)) ∧ ∃ q, w' = W.drewN q :=
 cmpS_aux x.val y.val _ _ x.isLt y.isLt (cnt_small x) (cnt_small y) W (fun W => oc x W) fun W => oc y W
def keyS (x : Fin 32) : Nat := cnt (x.val : Nat) * 64 + x.val
theorem ltS : ∀ x y : Fin 32, ltOf cfS x y = decide (keyS x < keyS y) := by decide +kernel
theorem keyS_inj : ∀ x y : Fin 32, keyS x = keyS y → x = y := by decide +kernel
theorem swoS : SWO (ltOf cfS) where
 irrefl x := by rw [ltS]; simp
 trans x y z h1 h2 := by rw [ltS] at *; simp at *; omega
 ntrans x y z h1 h2 := by rw [ltS] at *; simp at *; omega
theorem totS (x y : Fin 32) (h1 : ltOf cfS x y = false) (h2 : ltOf cfS y x = false) : x = y := by
 rw [ltS] at *
 simp at h1 h2
 exact keyS_inj x y (by omega)
def toF (y : Int) : Fin 32 := ⟨y.toNat % 32, Nat.mod_lt _ (by decide)⟩
def ofF (x : Fin 32) : Int := (x.val : Nat)
theorem of_to {y : Int} (h : 0 ≤ y ∧ y ≤ 31) : ofF (toF y) = y := by
 unfold ofF toF
 dsimp only
 omega
def srtF (xs : List (Fin 32)) : List (Fin 32) := xs.mergeSort fun x y => !(ltOf cfS) y x
def srtS (ys : List Int) : List Int := (srtF (ys.map toF)).map ofF
def cSortS : Contract := ⟨[true], false, fun
 | [.arr 1 l _, .fnc f []] => some (f = 166 ∧ WfI l ∧ (∀ y ∈ unI l, 0 ≤ y ∧ y ≤ 31) ∧ l.length ≤ 16777216, [], [.arr 1 (iL (srtS (unI l))) 1])
 | _ => none⟩
theorem sortS_ok : ContractOK E0 165 cSortS := by
 refine ⟨⟨Tryz.f165, Tryz.func165, by kernel_rfl, rfl⟩, ?_⟩
 intro args p rs ms hr hp w vals F Ms ha hnd hF hJ hN hMN
 unfold cSortS at hr
 dsimp only at hr
 split at hr
 ·rename_i l dp f
  simp only [Option.some.injEq, Prod.mk.injEq] at hr
  obtain ⟨rfl, rfl, rfl⟩ := hr
  obtain ⟨rfl, hl, hy, hlen⟩ := hp
  obtain ⟨ys, rfl, hmx⟩ := hl.ex
  rw [unI_iL] at hy ⊢
  rw [iL_length] at hlen
  cases ha with
  | cons h1 h2 =>
   cases h2 with
   | cons h2 h3 =>
    cases h3
    cases h1 with
    | arr r1 hdp =>
     cases h2 with
     | fnc r2 =>
      cases r2
      have eg : ∀ args w, (callFunc 166 args).run Tryz.prog w = .ok (.enter 166 args) w := enters_of Tryz.func166 (by kernel_rfl) rfl
      rcases r1 with ⟨rfl, hnil, rfl, _⟩ | ⟨b, cap, c, e, G, rfl, rfl, _, a2, a3, a4, a5, a6, a7⟩
      ·have e0 : ys = [] := by
        have := congrArg List.length hnil
        rw [iL_length] at this
        exact List.eq_nil_of_length_eq_zero this
       subst e0
       have hcon := AnyF.slices_SortFunc_none { Tryz.sortL with } none 0 (.func (.func 166) #[] #[]) w
       change Calls Tryz.prog 165 _ _ _ at hcon
       refine hcon.mono ?_
       rintro e w' ⟨rfl, rfl⟩
       refine ⟨_, rfl, rfl, rfl, rfl, Nat.le_refl _, fun _ _ _ => rfl, [], [], [], [[]], ⟨rfl, rfl⟩, ?_, by simp, by simp, by simp, by simp, by simp⟩
       have := ArgsOK.cons (h := w'.heap) (ArgOK.arr (s := 1) (l := []) (dp := 1) (m := []) (.inl ⟨rfl, rfl, rfl, rfl⟩) (by decide)) ArgsOK.nil
       simpa [srtS, srtF, iL, mutVals, cSortS] using this
      ·rw [iL_length, Nat.mul_one] at a7
       obtain ⟨hv, rfl⟩ := ints_of_reps a7
       rw [iL_length] at a3
       have hds : ((ys.map toF).toArray).size = ys.length := by simp
       have hto : (ys.map toF).toArray.toList.map (fun x => Value.int .i64 (ofF x)) = ys.map fun n => Value.int .i64 n := by
        rw [List.map_map]
        exact List.map_congr_left fun y hy' => by simp only [Function.comp, of_to (hy y hy')]
       have hH : Holds (fun x => Value.int .i64 (ofF x)) w b 0 (ys.map toF).toArray := holds_row a2 (by rw [hds, hto]; exact hv)
       have hcon := Any.slices_SortFunc_total Tryz.sortL (fun x => Value.int .i64 (ofF x)) (fun _ => rfl) cfS swoS 166 #[] b 0 cap (ys.map toF).toArray w eg
        (CmpReads.lays fun _ _ _ _ x y => cmpS x y _) hH (Array.getElem?_eq_some_iff.1 a2).1 (by rw [hds]; omega) totS
       change Calls Tryz.prog 165 _ _ _ at hcon
       rw [hds] at hcon
       rw [iL_length]
       refine hcon.mono ?_
       rintro e w' ⟨rfl, n, os, rfl⟩
       have hso : ((ys.map toF).toArray.toList.mergeSort fun x y => !(ltOf cfS) y x) = srtF (ys.map toF) := rfl
       have hps := sort_post (val := ofF) (n := n) (os := os) (F := []) (x := .tuple #[]) (d := (ys.map toF).toArray) (d' := (srtF (ys.map toF)).toArray) a2 (by simp [srtF]) (by rw [hds]; exact a3) a4 a5
       rw [hds] at hps
       rw [hso]
       exact ⟨_, rfl, by simpa [mutVals, srtS, cSortS] using hps⟩
 ·cases hr
theorem srtF_eq {xs ys : List (Fin 32)} (hp : xs.Perm ys) (hs : ys.Pairwise fun x y => keyS x < keyS y) : srtF xs = ys := by
 have h1 : (srtF xs).Perm xs := List.mergeSort_perm _ _
 have h2 : (srtF xs).Pairwise fun x y => (!(ltOf cfS) y x) = true := by
  apply List.pairwise_mergeSort
  ·intro a b c h1 h2
   rw [ltS] at *
   simp at *
   omega
  ·intro a b
   rw [ltS, ltS]
   simp
   omega
 refine List.Perm.eq_of_pairwise (le := fun x y => keyS x ≤ keyS y) ?_ ?_ ?_ (h1.trans hp)
 ·intro a b _ _ h1 h2
  exact keyS_inj a b (by omega)
 ·refine h2.imp ?_
  intro a b h
  rw [ltS] at h
  simp at h
  omega
 ·exact hs.imp fun h => by omega
def rng (M : Nat) : List Int := (List.range M).map fun (x : Nat) => (x : Int)
theorem pbs_perm : ∀ n : Fin 6, ((rng (2 ^ n.val)).map toF).Perm ((pbs n.val).map toF) ∧ ((pbs n.val).map toF).Pairwise (fun x y => keyS x < keyS y) ∧ ((pbs n.val).map toF).map ofF = pbs n.val := by decide +kernel
theorem srt_rng {n : Nat} (h : n ≤ 5) : srtS (rng (2 ^ n)) = pbs n := by
 obtain ⟨h1, h2, h3⟩ := pbs_perm ⟨n, by omega⟩
 unfold srtS
 rw [srtF_eq h1 h2, h3]
theorem rng_succ {M : Nat} : rng (M + 1) = rng M ++ [(M : Int)] := by simp [rng, List.range_succ]
theorem rng_length {M : Nat} : (rng M).length = M := by simp [rng]
theorem rng_mem {M : Nat} {y : Int} (h : y ∈ rng M) : 0 ≤ y ∧ y < M := by
 simp only [rng, List.mem_map, List.mem_range] at h
 obtain ⟨a, h, rfl⟩ := h
 omega
theorem pbsI_ok : ContractOK E0 154 cPbs := by
 refine cWpc (E := E0) (T := mkT Tryz.prog [(165, cSortS)] false (fun _ => false) true (fun _ => false)) (mkT_ok (E := E0) (.cons sortS_ok .nil)) (fn := Tryz.f154) Tryz.func154 (by kernel_rfl) rfl mixedT (by kernel_rfl) rfl ?_
 intro args p rs ms hr
 unfold cPbs at hr
 dsimp only at hr
 split at hr
 rotate_left
 ·cases hr
 rename_i n
 simp only [Option.some.injEq, Prod.mk.injEq] at hr
 obtain ⟨rfl, rfl, rfl⟩ := hr
 refine ⟨rfl, rfl, Nat.le_of_ble_eq_true rfl, ?_⟩
 have hm : maxLen = 9223372036854775807 := rfl
 rintro ⟨hn1, hn2⟩ bs
 cases hv : inB n 0 5
 ·have e : pbsI n = [] := by unfold pbsI; rw [hv]; rfl
  have e0 : (decide (n < 0) || decide (n > 5)) = true := by
   rw [← Bool.not_eq_true, inB_iff] at hv
   rw [Bool.or_eq_true, decide_eq_true_eq, decide_eq_true_eq]
   omega
  rw [e]
  clear e
  (repeat' first | refine gA fun _ => ?_ | refine fkI ?_ ?_ <;> intro hb <;> try simp only [ew, e0] at hb | simp only [go_sem, simprocAttr, *, cPbs, cSortS, Tryz.results154, e0])
  all_goals first | rfl | skip
 ·have hn := inB_iff.1 hv
  obtain ⟨c, rfl⟩ := Int.eq_ofNat_of_zero_le hn.1
  have c5 : c ≤ 5 := by omega
  have e : pbsI c = srtS (rng (2 ^ c)) := by unfold pbsI; rw [hv, Int.toNat_natCast, srt_rng c5]; rfl
  rw [e]
  clear e
  have e0 : (decide ((c : Int) < 0) || decide ((c : Int) > 5)) = false := by
   rw [Bool.or_eq_false_iff, decide_eq_false_iff_not, decide_eq_false_iff_not]
   omega
  have hM2 : 2 ^ c ≤ 32 := Nat.le_trans (Nat.pow_le_pow_right (by omega) c5) (by decide)
  have hM : 1 * (2 : Int) ^ c = ((2 ^ c : Nat) : Int) := by simp
  have hr : ∀ y ∈ rng (2 ^ c), 0 ≤ y ∧ y ≤ 31 := fun y hy => by have := rng_mem hy; omega
  generalize 2 ^ c = M at hM2 hM hr ⊢
  (repeat' first | refine gA fun _ => ?_ | refine fkI ?_ ?_ <;> intro hb <;> try simp only [ew, e0, hM] at hb | simp only [go_sem, simprocAttr, *, cPbs, cSortS, Tryz.results154, e0, hM])
  refine lpI { ι := Nat, rs := [(13, 23)], mods := [(4, fun x => .one (.d (.v (.int .i64 x)))), (3, fun x => .one (.own 1 (iL (rng x)) 1))], boxes := [], arrs := [], ok := fun x => x ≤ M, mu := fun x => M - x } rfl 0 (Nat.zero_le _) ?_ fun x hx => ?_
  ·(repeat' first | refine gA fun _ => ?_ | refine fkI ?_ ?_ <;> intro hb <;> try simp only [ew, hM] at hb | simp only [go_sem, simprocAttr, *, cPbs, cSortS, Tryz.results154, hM])
   all_goals first | rfl | skip
  ·dsimp only at x hx
   have hl := @rng_length x
   by_cases h5 : x < M
   ·have e2 := @rng_succ x
    clear hr
    (repeat' first | refine gA fun _ => ?_ | refine fkI ?_ ?_ <;> intro hb <;> try simp only [ew, hM, bits64, iL_snoc] at hb | simp only [go_sem, simprocAttr, *, cPbs, cSortS, Tryz.results154, hM, bits64, iL_snoc])
    refine lpN (x + 1) (by dsimp only; omega) (by dsimp only; omega) ?_
    (repeat' first | refine gA fun _ => ?_ | refine fkI ?_ ?_ <;> intro hb <;> try simp only [ew, e2, iL_snoc] at hb | simp only [go_sem, simprocAttr, *, cPbs, cSortS, Tryz.results154, e2, iL_snoc])
   ·have e5 : x = M := by omega
    subst e5
    have hmx : x ≤ maxLen := Nat.le_trans hM2 (by decide)
    (repeat' first | refine gA fun _ => ?_ | refine fkI ?_ ?_ <;> intro hb <;> try simp only [ew, hM, bits64] at hb | simp only [go_sem, simprocAttr, *, cPbs, cSortS, Tryz.results154, hM, bits64])
end Go.Own
namespace Go.Own
open Go Go.Proofs
attribute [local go_sem] unD_dL dL_length dL_get dL_set dL_inj wfD_dL scal2 beq2 pair_eta
def cMinG (f : Nat) (c1 c2 : List D) (p : Int → Int → Bool) (n : Int) : Contract := ⟨[], false, fun
 | [.one (.v (.int .i64 m)), .fnc g [d1, d2]] => some (m = n ∧ g = f ∧ d1 = c1 ∧ d2 = c2, [⟨false, [.own 2 (dL (minDs p n)) 1]⟩], [])
 | _ => none⟩
theorem minG2 {f : Nat} {F : List Arg → Option (Prop × List RV × List Arg)} {c1 c2 : List D} {p : Int → Int → Bool} {pre : Int → Int → Prop} (hf : ContractOK E0 f ⟨[], false, F⟩)
  (hF : ∀ a b, F [.agg [.v (.int .i64 a), .v (.int .i64 b)], .ptr c1, .ptr c2] = some (pre a b, [⟨false, [.d (.v (.bool (p a b)))]⟩], [])) (hpre : ∀ a b : Int, (0 ≤ a ∧ a ≤ 31) → (0 ≤ b ∧ b ≤ 4) → pre a b)
  (g1 : (f = 67) = False) (g2 : (f = 102) = False) (g3 : (f = 154) = False) {n : Int} (hn : 0 ≤ n ∧ n ≤ 5) :
  ContractOK E0 156 (cMinG f c1 c2 p n) := by
 refine cWpc (E := E0) (T := mkT Tryz.prog [(f, ⟨[], false, F⟩), (154, cPbs), (67, cHasB), (102, cHasPart)] false (fun _ => false) true (fun _ => false)) (mkT_ok (E := E0) (.cons hf (.cons pbsI_ok (.cons hasB_ok (.cons hasPart_ok .nil))))) (fn := Tryz.f156) Tryz.func156 (by kernel_rfl) rfl mixedT (by kernel_rfl) rfl ?_
 intro args p rs ms hr
 unfold cMinG at hr
 dsimp only at hr
 split at hr
 rotate_left
 ·cases hr
 rename_i m g d1 d2
 simp only [Option.some.injEq, Prod.mk.injEq] at hr
 obtain ⟨rfl, rfl, rfl⟩ := hr
 refine ⟨rfl, rfl, Nat.le_of_ble_eq_true rfl, ?_⟩
 have hm : maxLen = 9223372036854775807 := rfl
 rintro ⟨rfl, rfl, rfl, rfl⟩ bs
 obtain ⟨n0, n5⟩ := hn
 obtain ⟨c, rfl⟩ := Int.eq_ofNat_of_zero_le n0
 unfold minDs
 rw [Int.toNat_natCast]
 obtain ⟨P1, P2, P3⟩ := @pbsI_facts c
 have P1' : (pbsI c).length ≤ maxLen := Nat.le_trans P1 (by decide)
 (repeat' first | refine gA fun _ => ?_ | refine fkI ?_ ?_ <;> intro hb <;> try simp only [ew] at hb | simp only [go_sem, simprocAttr, *, cMinG, cPbs, cHasB, cHasPart, Tryz.results156])
 refine lpI { ι := Nat, rs := [(7, 8), (9, 10), (11, 52)], mods := [(6, fun r => .one (.d (.v (.int .i64 r)))), (5, fun r => .one (.own 2 (dL (minT p c r)) 1))], boxes := [], arrs := [], ok := fun r => r ≤ c, mu := fun r => c - r } rfl 0 (Nat.zero_le _) ?_ fun r hr => ?_
 ·(repeat' first | refine gA fun _ => ?_ | refine fkI ?_ ?_ <;> intro hb <;> try simp only [ew] at hb | simp only [go_sem, simprocAttr, *, cMinG, cPbs, cHasB, cHasPart, Tryz.results156])
  all_goals first | rfl | skip
 ·dsimp only at r hr
  by_cases h5 : r < c
  ·have hr5 : r < 5 := by omega
   have l0 := @minT_length p c r
   have l1 : (minT p c r).length ≤ 256 := by omega
   clear l0
   (repeat' first | refine gA fun _ => ?_ | refine fkI ?_ ?_ <;> intro hb <;> try simp only [ew] at hb | simp only [go_sem, simprocAttr, *, cMinG, cPbs, cHasB, cHasPart, Tryz.results156])
   refine lpI { ι := Nat × List Int, rs := [(9, 10), (21, 52)], mods := [(20, fun i => .one (.d (.v (.int .i64 i.1)))), (7, fun i => .one (.own 1 (iL i.2) 1)), (5, fun i => .one (.own 2 (dL (minT p c r ++ i.2.map fun x => (x, (r : Int)))) 1))], boxes := [], arrs := [(18, fun _ => (1, iL (pbsI c), 1))], ok := fun i => pdI p c r i.1 i.2, mu := fun i => (pbsI c).length - i.1 } rfl (0, []) pdI_start ?_ ?_
   ·have e1 : minT p c r ++ ([] : List Int).map (fun x => (x, (r : Int))) = minT p c r := by simp
    (repeat' first | refine gA fun _ => ?_ | refine fkI ?_ ?_ <;> intro hb <;> try simp only [ew, e1] at hb | simp only [go_sem, simprocAttr, *, cMinG, cPbs, cHasB, cHasPart, Tryz.results156, e1])
    all_goals first | rfl | skip
   ·rintro ⟨i, tk⟩ hi
    dsimp only at hi
    have hi1 := hi.1
    obtain ⟨a1, a2⟩ := acc_len hr5 hi
    have a3 : tk.length ≤ maxLen := Nat.le_trans a2 (by decide)
    by_cases h6 : i < (pbsI c).length
    ·obtain ⟨x0, x31⟩ := P3 i h6
     have hsk := pdI_skip hi h6
     have htak := pdI_take hi h6
     generalize hX : (pbsI c).getD i 0 = x at x0 x31 hsk htak
     have hpr := hpre x (r : Nat) ⟨x0, x31⟩ ⟨by omega, by omega⟩
     have eT := @acc_snoc (minT p c r) tk x r
     clear hi
     generalize hA : minT p c r ++ tk.map (fun x => (x, (r : Int))) = acc at a1 eT
     cases hg : (!hasB x (r : Nat) && !anyIn tk x && p x (r : Nat))
     ·have hsk := hsk hg
      clear htak eT
      (repeat' first | refine gA fun _ => ?_ | refine fkI ?_ ?_ <;> intro hb <;> try simp only [ew, hX, hA, hg, hF] at hb | simp only [go_sem, simprocAttr, *, cMinG, cPbs, cHasB, cHasPart, Tryz.results156, hX, hA, hg, hF])
      refine lpN (i + 1, tk) hsk (by dsimp only; omega) ?_
      clear hsk
      (repeat' first | refine gA fun _ => ?_ | refine fkI ?_ ?_ <;> intro hb <;> try simp only [ew, hA] at hb | simp only [go_sem, simprocAttr, *, cMinG, cPbs, cHasB, cHasPart, Tryz.results156, hA])
     ·have htak := htak hg
      clear hsk
      (repeat' first | refine gA fun _ => ?_ | refine fkI ?_ ?_ <;> intro hb <;> try simp only [ew, hX, hA, hg, hF, dL_snoc, iL_snoc] at hb | simp only [go_sem, simprocAttr, *, cMinG, cPbs, cHasB, cHasPart, Tryz.results156, hX, hA, hg, hF, dL_snoc, iL_snoc])
      refine lpN (i + 1, tk ++ [x]) htak (by dsimp only; omega) ?_
      clear htak
      (repeat' first | refine gA fun _ => ?_ | refine fkI ?_ ?_ <;> intro hb <;> try simp only [ew, hX, hA, eT, dL_snoc, iL_snoc] at hb | simp only [go_sem, simprocAttr, *, cMinG, cPbs, cHasB, cHasPart, Tryz.results156, hX, hA, eT, dL_snoc, iL_snoc])
    ·have e5 : i = (pbsI c).length := by omega
     subst e5
     have e2 := minT_step hi
     clear hi
     (repeat' first | refine gA fun _ => ?_ | refine fkI ?_ ?_ <;> intro hb <;> try simp only [ew] at hb | simp only [go_sem, simprocAttr, *, cMinG, cPbs, cHasB, cHasPart, Tryz.results156])
     refine lpN (r + 1) (by dsimp only; omega) (by dsimp only; omega) ?_
     (repeat' first | refine gA fun _ => ?_ | refine fkI ?_ ?_ <;> intro hb <;> try simp only [ew, e2] at hb | simp only [go_sem, simprocAttr, *, cMinG, cPbs, cHasB, cHasPart, Tryz.results156, e2])
  ·have e5 : r = c := by omega
   subst e5
   (repeat' first | refine gA fun _ => ?_ | refine fkI ?_ ?_ <;> intro hb <;> try simp only [ew] at hb | simp only [go_sem, simprocAttr, *, cMinG, cPbs, cHasB, cHasPart, Tryz.results156])
def cPd1 : Contract := ⟨[], false, fun
 | [.agg [.v (.int .i64 a), .v (.int .i64 b)], .ptr [.v (.int .i64 set)], .ptr [.sl 2 l]] => some (WfD l ∧ (∀ d ∈ unD l, depR d) ∧ (0 ≤ a ∧ a ≤ 31) ∧ (0 ≤ b ∧ b ≤ 4), [⟨false, [.d (.v (.bool (pjB (unD l) set a b)))]⟩], [])
 | _ => none⟩
theorem pd1_ok : ContractOK E0 157 cPd1 := by
 refine cWpc (E := E0) (T := mkT Tryz.prog [(68, cInside), (67, cHasB), (115, cImp1)] false (fun _ => false) true (fun _ => false)) (mkT_ok (E := E0) (.cons inside_ok (.cons hasB_ok (.cons imp1_ok .nil)))) (fn := Tryz.f157) Tryz.func157 (by kernel_rfl) rfl mixedT (by kernel_rfl) rfl ?_
 intro args p rs ms hr
 unfold cPd1 at hr
 dsimp only at hr
 split at hr
 rotate_left
 ·cases hr
 rename_i a b set l
 simp only [Option.some.injEq, Prod.mk.injEq] at hr
 obtain ⟨rfl, rfl, rfl⟩ := hr
 refine ⟨rfl, rfl, Nat.le_of_ble_eq_true rfl, ?_⟩
 have hm : maxLen = 9223372036854775807 := rfl
 rintro ⟨h1, hd, ⟨a0, a31⟩, b0, b4⟩ bs
 obtain ⟨ds, rfl, hx⟩ := h1.ex
 clear h1
 rw [unD_dL] at hd ⊢
 unfold pjB
 have e := @insB_def a set
 (repeat' first | refine gA fun _ => ?_ | refine fkI ?_ ?_ <;> intro hb <;> try simp only [ew, e] at hb | simp only [go_sem, simprocAttr, *, cPd1, cInside, cHasB, cImp1, Tryz.results157, e])
def cMin : Contract := ⟨[], false, fun
 | [.one (.v (.int .i64 n)), .fnc f [[.v (.int .i64 set)], [.sl 2 l]]] => some (f = 157 ∧ WfD l ∧ (∀ d ∈ unD l, depR d) ∧ 0 ≤ n ∧ n ≤ 5, [⟨false, [.own 2 (dL (minDs (pjB (unD l) set) n)) 1]⟩], [])
 | _ => none⟩
theorem minD_ok : ContractOK E0 156 cMin := by
 refine ⟨⟨Tryz.f156, Tryz.func156, by kernel_rfl, rfl⟩, ?_⟩
 intro args p rs ms hr hp
 unfold cMin at hr
 dsimp only at hr
 split at hr
 ·rename_i n f set l
  simp only [Option.some.injEq, Prod.mk.injEq] at hr
  obtain ⟨rfl, rfl, rfl⟩ := hr
  obtain ⟨rfl, h1, hd, h0, h5⟩ := hp
  exact (minG2 (f := 157) (c1 := [.v (.int .i64 set)]) (c2 := [.sl 2 l]) (p := pjB (unD l) set) pd1_ok (fun a b => rfl) (fun a b ha hb => ⟨h1, hd, ha, hb⟩) (by simp) (by simp) (by simp) ⟨h0, h5⟩).2 _ _ _ _ rfl ⟨rfl, rfl, rfl, rfl⟩
 ·cases hr
theorem pdI_ok : ContractOK E0 142 cPd := by
 refine cWpc (E := E0) (T := mkT Tryz.prog [(52, cAreDeps), (116, cIsAttr), (156, cMin)] false (fun _ => false) true (fun _ => false)) (mkT_ok (E := E0) (.cons areDepsI_ok (.cons isAttrI_ok (.cons minD_ok .nil)))) (fn := Tryz.f142) Tryz.func142 (by kernel_rfl) rfl mixedT (by kernel_rfl) rfl ?_
 intro args p rs ms hr
 unfold cPd at hr
 dsimp only at hr
 split at hr
 rotate_left
 ·cases hr
 rename_i n l set
 simp only [Option.some.injEq, Prod.mk.injEq] at hr
 obtain ⟨rfl, rfl, rfl⟩ := hr
 refine ⟨rfl, rfl, Nat.le_of_ble_eq_true rfl, ?_⟩
 have hm : maxLen = 9223372036854775807 := rfl
 rintro ⟨h1, hn1, hn2⟩ bs
 obtain ⟨ds, rfl, hx⟩ := h1.ex
 clear h1
 rw [unD_dL]
 cases hv : (depsOK n ds && isAttr n set)
 ·have e3 : (!depsOK n ds || !isAttr n set) = true := by rw [← Bool.not_and, hv]; rfl
  have e : pdL n ds set = [] := by unfold pdL; rw [hv]; rfl
  have e0 : dL [] = [] := rfl
  rw [e]
  clear e hv
  (repeat' first | refine gA fun _ => ?_ | refine fkI ?_ ?_ <;> intro hb <;> try simp only [ew, e3, e0] at hb | simp only [go_sem, simprocAttr, *, cPd, cAreDeps, cIsAttr, cMin, Tryz.results142, e3, e0])
 ·have e3 : (!depsOK n ds || !isAttr n set) = false := by rw [← Bool.not_and, hv]; rfl
  have e : pdL n ds set = minDs (pjB ds set) n := by unfold pdL; rw [hv]; rfl
  rw [e]
  rw [Bool.and_eq_true] at hv
  have hd := depsOK_R hv.1
  obtain ⟨n0, n5, s0, s31⟩ := isAttr_le hv.2
  clear hv e
  (repeat' first | refine gA fun _ => ?_ | refine fkI ?_ ?_ <;> intro hb <;> try simp only [ew, e3] at hb | simp only [go_sem, simprocAttr, *, cPd, cAreDeps, cIsAttr, cMin, Tryz.results142, e3])
  all_goals first | rfl | skip
end Go.Own
namespace Go.Own
open Go Go.Proofs
theorem dL_scal {xs : List (Int × Int)} : (∀ e ∈ dL xs, ∀ x ∈ e, Scalar x) ↔ True := by
 refine ⟨fun _ => trivial, fun _ e he x hx => ?_⟩
 obtain ⟨n, _, rfl⟩ := List.mem_map.1 he
 simp at hx
 rcases hx with rfl | rfl <;> trivial
attribute [local go_sem] unD_dL dL_length dL_get dL_set dL_inj wfD_dL scal2 beq2 pair_eta dL_scal
def delB (x c : Int) : Int := bitI .andNot .i64 x (1 * 2 ^ c.toNat)
theorem del_key : ∀ x : Fin 32, ∀ c : Fin 5, (0 ≤ delB ((x.val : Nat) : Int) ((c.val : Nat) : Int) ∧ delB ((x.val : Nat) : Int) ((c.val : Nat) : Int) ≤ ((x.val : Nat) : Int)) ∧ ((delB ((x.val : Nat) : Int) ((c.val : Nat) : Int) != ((x.val : Nat) : Int)) = hasB ((x.val : Nat) : Int) ((c.val : Nat) : Int)) ∧
  ∀ e : Fin 5, hasB (delB ((x.val : Nat) : Int) ((c.val : Nat) : Int)) ((e.val : Nat) : Int) = (hasB ((x.val : Nat) : Int) ((e.val : Nat) : Int) && !(e == c)) := by decide +kernel
theorem del_le {x c : Int} (hx : R5 x) (hc : 0 ≤ c ∧ c ≤ 4) : 0 ≤ delB x c ∧ delB x c ≤ x := by
 obtain ⟨x, rfl⟩ := hx.fin; obtain ⟨c, rfl⟩ := c5 hc
 exact (del_key x c).1
theorem del_R {x c : Int} (hx : R5 x) (hc : 0 ≤ c ∧ c ≤ 4) : R5 (delB x c) := by
 have := del_le hx hc
 have h2 : 0 ≤ x ∧ x ≤ 31 := hx
 exact ⟨by omega, by omega⟩
theorem del_ne {x c : Int} (hx : R5 x) (hc : 0 ≤ c ∧ c ≤ 4) : (delB x c != x) = hasB x c := by
 obtain ⟨x, rfl⟩ := hx.fin; obtain ⟨c, rfl⟩ := c5 hc
 exact (del_key x c).2.1
theorem del_has {x c e : Int} (hx : R5 x) (hc : 0 ≤ c ∧ c ≤ 4) (he : 0 ≤ e ∧ e ≤ 4) : hasB (delB x c) e = (hasB x e && !(e == c)) := by
 obtain ⟨x, rfl⟩ := hx.fin; obtain ⟨c, rfl⟩ := c5 hc; obtain ⟨e, rfl⟩ := c5 he
 rw [(del_key x c).2.2 e]
 congr 2
 rw [Bool.eq_iff_iff, beq_iff_eq, beq_iff_eq]
 omega
def cCopyD : Contract := ⟨[], false, fun
 | [.one (.sl 2 l)] => some (WfD l ∧ l.length ≤ 16777216, [⟨false, [.own 2 (dL (unD l)) 1]⟩], [])
 | _ => none⟩
theorem copyD_ok : ContractOK E0 134 cCopyD := by
 refine cWpc (E := E0) (T := mkT Tryz.prog [] false (fun _ => false) true (fun _ => false)) (mkT_ok (E := E0) .nil) (fn := Tryz.f134) Tryz.func134 (by kernel_rfl) rfl mixedT (by kernel_rfl) rfl ?_
 intro args p rs ms hr
 unfold cCopyD at hr
 dsimp only at hr
 split at hr
 rotate_left
 ·cases hr
 rename_i l
 simp only [Option.some.injEq, Prod.mk.injEq] at hr
 obtain ⟨rfl, rfl, rfl⟩ := hr
 refine ⟨rfl, rfl, Nat.le_of_ble_eq_true rfl, ?_⟩
 have hm : maxLen = 9223372036854775807 := rfl
 rintro ⟨h1, h2⟩ bs
 obtain ⟨ds, rfl, hx⟩ := h1.ex
 clear h1
 rw [dL_length] at h2
 rw [unD_dL]
 (repeat' first | refine gA fun _ => ?_ | refine fkI ?_ ?_ <;> intro hb <;> try simp only [ew] at hb | simp only [go_sem, simprocAttr, *, cCopyD, Tryz.results134])
theorem dL_take {ds : List (Int × Int)} {i : Nat} : (dL ds).take i = dL (ds.take i) := by simp [dL, List.map_take]
theorem dL_drop {ds : List (Int × Int)} {i : Nat} : (dL ds).drop i = dL (ds.drop i) := by simp [dL, List.map_drop]
theorem dL_app {xs ys : List (Int × Int)} : dL xs ++ dL ys = dL (xs ++ ys) := by simp [dL]
theorem ins_le_key : ∀ x s : Fin 32, insB ((x.val : Nat) : Int) ((s.val : Nat) : Int) = true → x.val ≤ s.val := by decide +kernel
theorem ins_le {x s : Int} (hx : R5 x) (hs : R5 s) (h : insB x s = true) : x ≤ s := by
 obtain ⟨x, rfl⟩ := hx.fin; obtain ⟨s, rfl⟩ := hs.fin
 have := ins_le_key x s h
 omega
theorem all_take {α : Type} {xs : List α} {i : Nat} (h : i < xs.length) (d : α) (f : α → Bool) : (xs.take (i + 1)).all f = ((xs.take i).all f && f (xs.getD i d)) := by rw [take_succ_getD h d, List.all_append]; simp
theorem filter_take {xs : List Int} {i : Nat} (h : i < xs.length) (f : Int → Bool) : (xs.take (i + 1)).filter f = (xs.take i).filter f ++ (if f (xs.getD i 0) then [xs.getD i 0] else []) := by
 rw [take_succ_getD h 0, List.filter_append, List.filter_cons, List.filter_nil]
end Go.Own
namespace Go.Own
open Go Go.Proofs
attribute [local go_sem] unD_dL dL_length dL_get dL_set dL_inj wfD_dL scal2 beq2 pair_eta dL_scal
section
variable {p : Int → Int → Bool} {n : Nat} {r : Int}
end
theorem prI_isN : ∀ {w : Option (Nat × Nat)}, decide ((prI w).1 < 0) = w.isNone
 | none => rfl
 | some (i, k) => decide_eq_false (by simp only [prI]; omega)
def cHol7 : Contract := ⟨[], false, fun
 | [.agg [.v (.int .i64 c), .sl 1 t], .one (.v (.int .i64 m)), .agg [.v (.int .i64 l), .v (.int .i64 r)]] => some (WfS t ∧ askOK c (unS t) m l r = true, [⟨false, [.d (.v (.bool (hdB c (unS t) m l r)))]⟩], [])
 | _ => none⟩
theorem hol7_ok : ContractOK E0 137 cHol7 := by
 refine cWpc (E := E0) (T := mkT Tryz.prog [(89, cPair)] false (fun _ => false) true (fun _ => false)) (mkT_ok (E := E0) (.cons pair_ok .nil)) (fn := Tryz.f137) Tryz.func137 (by kernel_rfl) rfl mixedT (by kernel_rfl) rfl ?_
 intro args p rs ms hr
 unfold cHol7 at hr
 dsimp only at hr
 split at hr
 rotate_left
 ·cases hr
 rename_i c t m l r
 simp only [Option.some.injEq, Prod.mk.injEq] at hr
 obtain ⟨rfl, rfl, rfl⟩ := hr
 refine ⟨rfl, rfl, Nat.le_of_ble_eq_true rfl, ?_⟩
 have hm : maxLen = 9223372036854775807 := rfl
 rintro ⟨h1, hask⟩ bs
 obtain ⟨rs, rfl, hx, hy⟩ := h1.ex
 clear h1
 rw [unS_sL] at hask ⊢
 unfold hdB
 rw [hask, Bool.true_and]
 have e := @prI_isN (wtO c rs m l r)
 (repeat' first | refine gA fun _ => ?_ | refine fkI ?_ ?_ <;> intro hb <;> try simp only [ew, hask, e] at hb | simp only [go_sem, simprocAttr, *, cHol7, cPair, Tryz.results137, hask, e])
end Go.Own
namespace Go.Own
open Go Go.Proofs
attribute [local go_sem] unD_dL dL_length dL_get dL_set dL_inj wfD_dL scal2 beq2 pair_eta
end Go.Own
namespace Go.Own
open Go Go.Proofs
attribute [local go_sem] unD_dL dL_length dL_get dL_set dL_inj wfD_dL scal2 beq2 pair_eta
end Go.Own
namespace Go.Own
open Go Go.Proofs
end Go.Own
namespace Go.Own
open Go Go.Proofs
end Go.Own
namespace Go.Own
open Go Go.Proofs
attribute [local go_sem] unD_dL dL_length dL_get dL_set dL_inj wfD_dL scal2 beq2 pair_eta
end Go.Own
