/-
  slices.SortFunc at rows of ints with slices.Compare: what it leaves. Conditions: as each theorem states them.
-/
import Derived.Test.YtjembhkhgahhiaaGreatOwnQ1
import Derived.Test.YtjembhkhgahhiaaGreatOwnSo
import Derived.Test.YtjembhkhgahhiaaGreatOwnSort
import Derived.WalkKit
import Derived.Deep.LoopGhost
import Derived.Lib.Walk
import Derived.Lib.Small
set_option linter.unusedSimpArgs false
set_option linter.unusedVariables false
set_option maxRecDepth 1000000
set_option maxHeartbeats 4000000
namespace Go.Own
open Go Go.Proofs Go.RowKit Go.Sort Go.Shelf Go.Lib
def cmp3 : List Int → List Int → Int
 | [], [] => 0
 | [], _ :: _ => -1
 | _ :: _, [] => 1
 | x :: xs, y :: ys => if Lib.compareInt x y = 0 then cmp3 xs ys else Lib.compareInt x y
theorem cmp3_lt : ∀ {a b : List Int}, (cmp3 a b < 0) ↔ lexL a b = true
 | [], [] => by simp [cmp3, lexL]
 | [], _ :: _ => by simp [cmp3, lexL]
 | _ :: _, [] => by simp [cmp3, lexL]
 | x :: xs, y :: ys => by
  have ih := @cmp3_lt xs ys
  unfold cmp3 lexL Lib.compareInt
  by_cases h1 : x = y
  ·subst h1
   simp [ih]
  ·rcases Int.lt_or_gt_of_ne h1 with h2 | h2
   ·rw [if_pos h2, if_neg (by decide), if_neg h1]; simp [h2]
   ·have h3 : ¬ x < y := by omega
    rw [if_neg h3, if_pos h2, if_neg (by decide), if_neg h1]; simp [h3]
theorem swoL : SWO lexL where
 irrefl := lex_irrefl
 trans x y z := lex_trans
 ntrans x y z h1 h2 := by
  cases h : lexL x z with
  | false => rfl
  | true =>
   exfalso
   by_cases e : x = y
   ·subst e; rw [h2] at h; cases h
   ·cases h3 : lexL y x with
    | true => have := lex_trans h3 h; rw [h2] at this; cases this
    | false => exact e (lex_total h1 h3)
theorem isNaNI (x : Int) (W : World) : Calls Tryz.prog 153 #[.int .i64 x] W fun e w' => e = .returned (.bool false) ∧ w' = W := by
 go_enter Tryz.func153, Tryz.ntmps153
 go_wp2
 go_ret
 exact ⟨by simp, rfl⟩
theorem cmpI (x y : Int) (W : World) : Calls Tryz.prog 112 #[.int .i64 x, .int .i64 y] W fun e w' => e = .returned (.int .i64 (Lib.compareInt x y)) ∧ w' = W := by
 go_enter Tryz.func112, Tryz.ntmps112
 go_wp2_with (go_at_call 153; refine (isNaNI _ _).mono ?_; rintro e w' ⟨rfl, hw⟩; rw [hw])
 all_goals (go_ret; refine ⟨?_, rfl⟩; unfold Lib.compareInt; (repeat' split) <;> first | rfl | (exfalso; omega))
def RowIn (W : World) (p : Option Addr) (xs : List Int) : Prop := ∀ i, i < xs.length → ∃ b, p = some ⟨b, 0, none⟩ ∧ W.cell? ⟨b, i, none⟩ = some (.int .i64 (xs.getD i 0))
theorem cmp3_step {a b : List Int} {i : Nat} (h1 : i < a.length) (h2 : i < b.length) : cmp3 (a.drop i) (b.drop i) = if Lib.compareInt (a.getD i 0) (b.getD i 0) = 0 then cmp3 (a.drop (i + 1)) (b.drop (i + 1)) else Lib.compareInt (a.getD i 0) (b.getD i 0) := by
 rw [drop_getD h1 0, drop_getD h2 0, cmp3]
theorem cmpRows (xs ys : List Int) (p1 p2 : Option Addr) (c1 c2 : Nat) (W : World) (h1 : RowIn W p1 xs) (h2 : RowIn W p2 ys) (hx : xs.length ≤ 9223372036854775807) (hy : ys.length ≤ 9223372036854775807) :
  Calls Tryz.prog 55 #[.slice p1 xs.length c1, .slice p2 ys.length c2] W fun e w' => e = .returned (.int .i64 (cmp3 xs ys)) ∧ ∃ q os, w' = grow (W.drewN q) os := by
 have fin : ∀ r, r = cmp3 xs ys → (Ending.returned (Value.int .i64 r) = Ending.returned (Value.int .i64 (cmp3 xs ys)) ∧ ∃ q os, W = grow (W.drewN q) os) := fun r hr => ⟨by rw [hr], 0, #[], by simp [grow, World.drewN]⟩
 have FN : Aside _ := fin
 clear fin
 go_enter Tryz.func55, Tryz.ntmps55
 go_wp2
 go_loopg [11] xs.length (fun g s wr => ∃ i : Nat, i ≤ xs.length ∧ i ≤ ys.length ∧ xs.length - i ≤ g ∧ s = .int .i64 i ∧ wr = W ∧ Aside (cmp3 (xs.drop i) (ys.drop i) = cmp3 xs ys))
 case atStart => exact ⟨0, by omega, by omega, by omega, rfl, rfl, rfl⟩
 case round =>
  obtain ⟨i, hi1, hi2, hg, rfl, rfl, HC⟩ := hrel
  by_cases hlt : i < xs.length
  ·obtain ⟨b1, rfl, e1⟩ := h1 i hlt
   by_cases hlt2 : i < ys.length
   ·obtain ⟨b2, rfl, e2⟩ := h2 i hlt2
    have HS := cmp3_step hlt hlt2
    rw [HC.out] at HS
    generalize hu : xs.getD i 0 = u at e1 HS
    generalize hv : ys.getD i 0 = v at e2 HS
    have H1 : Aside (RowIn wr (some ⟨b1, 0, none⟩) xs ∧ RowIn wr (some ⟨b2, 0, none⟩) ys) := ⟨h1, h2⟩
    clear h1 h2 hu hv
    by_cases hz : Lib.compareInt u v = 0
    ·rw [if_pos hz] at HS
     have HS : Aside _ := HS
     go_wp2_with (go_at_call 112; refine (cmpI _ _ _).mono ?_; rintro e w' ⟨rfl, hw⟩; rw [hw, hz]; clear hw)
     go_roundg (xs.length - (i + 1))
     case measure => omega
     case rel => exact ⟨i + 1, by omega, by omega, Nat.le_refl _, by go_num, rfl, HS.out.symm⟩
    ·rw [if_neg hz] at HS
     have HS : Aside _ := HS
     generalize hcc : Lib.compareInt u v = cc at hz
     have HCC : Aside (Lib.compareInt u v = cc) := hcc
     have hcall := fun W => cmpI u v W
     rw [hcc] at hcall
     clear hcc
     go_wp2_with (go_at_call 112; refine (hcall _).mono ?_; rintro e w' ⟨rfl, hw⟩; rw [hw]; clear hw)
     all_goals first
      | (go_ret; exact FN.out _ (by rw [HS.out, HCC.out]))
      | (exfalso; simp_all; done)
      | skip
   ·have he : i = ys.length := by omega
    have HE : Aside (cmp3 xs ys = 1) := by
     show _ = _
     rw [← HC.out, drop_getD hlt 0, List.drop_of_length_le (show ys.length ≤ i by omega)]; rfl
    subst he
    go_wp2
    go_ret
    exact FN.out _ HE.out.symm
  ·have he : i = xs.length := by omega
   subst he
   have HE : Aside (cmp3 xs ys = if xs.length < ys.length then -1 else 0) := by
    show _ = _
    rw [← HC.out, List.drop_length]
    by_cases hl : xs.length < ys.length
    ·rw [if_pos hl, drop_getD hl 0]; rfl
    ·rw [if_neg hl, List.drop_of_length_le (show ys.length ≤ xs.length by omega)]; rfl
   by_cases hl : xs.length < ys.length
   ·go_wp2
    all_goals (go_ret; exact FN.out _ (by rw [HE.out, if_pos hl]))
   ·go_wp2
    all_goals (go_ret; exact FN.out _ (by rw [HE.out, if_neg hl]))
structure RowE (h : Heap) (blk : Nat) where
  v : Value
  r : List Int
  m : List Nat
  ok : RepsW true h [D.sl 1 (iL r)] [v] m
  nb : blk ∉ m
  le : r.length ≤ maxLen
instance rowE_inh {h : Heap} {blk : Nat} : Inhabited (RowE h blk) := ⟨⟨.slice none 0 0, [], [], .none (fun _ => rfl) .nil, by simp, Nat.zero_le _⟩⟩
theorem rows_split {h : Heap} {blk : Nat} : ∀ {rs : List (List Int)} {vs : List Value} {G : List Nat}, RepsW true h (sL rs).flatten vs G → blk ∉ G → (∀ r ∈ rs, r.length ≤ maxLen) →
  ∃ xs : List (RowE h blk), xs.map (·.r) = rs ∧ xs.map (·.v) = vs ∧ xs.flatMap (·.m) = G
 | [], vs, G, r, _, _ => by
  cases r
  exact ⟨[], rfl, rfl, rfl⟩
 | x :: rs, vs, G, r, hb, hl => by
  have e : (sL (x :: rs)).flatten = D.sl 1 (iL x) :: (sL rs).flatten := rfl
  rw [e] at r
  have hlen := r.length
  cases vs with
  | nil => simp at hlen
  | cons v vs =>
   obtain ⟨F1, F2, rfl, r1, r2⟩ := r.cons_inv
   obtain ⟨xs, e1, e2, e3⟩ := rows_split r2 (fun hm => hb (List.mem_append_right _ hm)) fun q hq => hl q (by simp [hq])
   refine ⟨⟨v, x, F1, r1, fun hm => hb (List.mem_append_left _ hm), hl x (by simp)⟩ :: xs, by rw [List.map_cons, e1], by rw [List.map_cons, e2], by rw [List.flatMap_cons, e3]⟩
theorem rows_join {h h' : Heap} {blk : Nat} : ∀ (xs : List (RowE h blk)), (∀ b ∈ xs.flatMap (·.m), h'[b]? = h[b]?) → RepsW true h' (sL (xs.map (·.r))).flatten (xs.map (·.v)) (xs.flatMap (·.m))
 | [], _ => .nil
 | x :: xs, hf => by
  have e : (sL ((x :: xs).map (·.r))).flatten = D.sl 1 (iL x.r) :: (sL (xs.map (·.r))).flatten := rfl
  rw [e, List.map_cons, List.flatMap_cons]
  rw [List.flatMap_cons] at hf
  exact (x.ok.frame fun b hb => hf b (List.mem_append_left _ hb)).cons (rows_join xs fun b hb => hf b (List.mem_append_right _ hb))
theorem rowE_in {h : Heap} {blk : Nat} (x : RowE h blk) {W : World} (hW : ∀ b ∈ x.m, W.heap[b]? = h[b]?) : ∃ p c, x.v = .slice p x.r.length c ∧ RowIn W p x.r := by
 obtain ⟨v, r, m, ok, nb, le⟩ := x
 dsimp only at hW ⊢
 rcases RepsW.sl_invW ok with ⟨a, rfl, hl, _⟩ | ⟨b, off, cap, c, e, fz, G, rfl, a2, a3, a4, a5, a6, a7, rfl, a9⟩
 ·have hr : r = [] := by
   have := congrArg List.length hl
   rw [iL_length] at this
   exact List.eq_nil_of_length_eq_zero this
  subst hr
  exact ⟨_, _, rfl, fun i hi => by simp at hi⟩
 ·obtain ⟨rfl, rfl, a10⟩ := a9 rfl
  rw [iL_length, List.drop_zero, Nat.mul_one] at a7
  obtain ⟨hv, rfl⟩ := ints_of_reps a7
  rw [iL_length]
  refine ⟨_, _, rfl, fun i hi => ⟨b, rfl, ?_⟩⟩
  have hh := hW b (by simp)
  simp only [World.cell?, hh, a2]
  have hi2 : (c.toList.take r.length)[i]? = some (Value.int .i64 (r.getD i 0)) := by
   rw [hv, List.getElem?_map, List.getElem?_eq_getElem hi, List.getD_eq_getElem?_getD, List.getElem?_eq_getElem hi]; rfl
  rw [List.getElem?_take_of_lt hi, Array.getElem?_toList] at hi2
  simpa using hi2
theorem rowE_one {h : Heap} {blk : Nat} (x : RowE h blk) : x.v.oneCell' = true := x.ok.one
theorem perm_flat {α : Type} {f : α → List Nat} {l m : List α} (h : l.Perm m) : (l.flatMap f).Perm (m.flatMap f) := List.Perm.flatMap_right f h
def srtL (rs : List (List Int)) : List (List Int) := rs.mergeSort fun x y => !lexL y x
theorem srtL_perm {rs : List (List Int)} : (srtL rs).Perm rs := List.mergeSort_perm _ _
theorem srtL_pair {rs : List (List Int)} : (srtL rs).Pairwise fun x y => lexL y x = false := by
 have := List.pairwise_mergeSort (le := fun x y => !lexL y x) (fun a b c h1 h2 => by
  simp only [Bool.not_eq_true'] at h1 h2 ⊢
  exact swoL.ntrans c b a h2 h1) (fun a b => by
  cases h : lexL b a with
  | false => simp
  | true => simp [lex_asymm h]) rs
 exact this.imp fun h => by simpa using h
theorem srtL_eq {rs zs : List (List Int)} (hp : zs.Perm rs) (hs : zs.Pairwise fun x y => lexL y x = false) : zs = srtL rs := by
 refine List.Perm.eq_of_pairwise (le := fun x y => lexL y x = false) ?_ hs srtL_pair (hp.trans srtL_perm.symm)
 intro a b _ _ h1 h2
 exact lex_total h2 h1
theorem srtL_length {rs : List (List Int)} : (srtL rs).length = rs.length := srtL_perm.length_eq
def cSortR : Contract := ⟨[true], false, fun
 | [.arr 1 l _, .fnc f []] => some (f = 55 ∧ WfS l ∧ l.length ≤ 16777216, [], [.arr 1 (sL (srtL (unS l))) 1])
 | _ => none⟩
theorem sortR_ok : ContractOK E0 54 cSortR := by
 refine ⟨⟨Tryz.f54, Tryz.func54, by kernel_rfl, rfl⟩, ?_⟩
 intro args p rs ms hr hp w vals F Ms ha hnd hF hJ hN hMN
 unfold cSortR at hr
 dsimp only at hr
 split at hr
 ·rename_i l dp f
  simp only [Option.some.injEq, Prod.mk.injEq] at hr
  obtain ⟨rfl, rfl, rfl⟩ := hr
  obtain ⟨rfl, hl, hlen⟩ := hp
  obtain ⟨ys, rfl, hmx, hmy⟩ := hl.ex
  rw [unS_sL]
  rw [sL_length] at hlen
  cases ha with
  | cons h1 h2 =>
   cases h2 with
   | cons h2 h3 =>
    cases h3
    cases h1 with
    | arr r1 hdp =>
     cases h2 with
     | fnc r2 =>
      cases r2
      have eg : ∀ args w, (callFunc 55 args).run Tryz.prog w = .ok (.enter 55 args) w := enters_of Tryz.func55 (by kernel_rfl) rfl
      rcases r1 with ⟨rfl, hnil, rfl, _⟩ | ⟨b, cap, c, e, G, rfl, rfl, _, a2, a3, a4, a5, a6, a7⟩
      ·have e0 : ys = [] := by
        have := congrArg List.length hnil
        rw [sL_length] at this
        exact List.eq_nil_of_length_eq_zero this
       subst e0
       have hcon := AnyF.slices_SortFunc_none { Tryz.sortR with } none 0 (.func (.func 55) #[] #[]) w
       change Calls Tryz.prog 54 _ _ _ at hcon
       refine hcon.mono ?_
       rintro e w' ⟨rfl, rfl⟩
       refine ⟨_, rfl, rfl, rfl, rfl, Nat.le_refl _, fun _ _ _ => rfl, [], [], [], [[]], ⟨rfl, rfl⟩, ?_, by simp, by simp, by simp, by simp, by simp⟩
       have := ArgsOK.cons (h := w'.heap) (ArgOK.arr (s := 1) (l := []) (dp := 1) (m := []) (.inl ⟨rfl, rfl, rfl, rfl⟩) (by decide)) ArgsOK.nil
       simpa [srtL, sL, mutVals, cSortR] using this
      ·rw [sL_length, Nat.mul_one] at a7
       rw [sL_length] at a3
       have hdp' : (dp != 0) = true := by simpa using hdp
       rw [hdp'] at a7
       rw [if_neg hdp] at hnd hF hMN ⊢
       have hbG : b ∉ G := by
        have : (b :: G).Nodup := by simpa using hnd
        exact (List.nodup_cons.1 this).1
       obtain ⟨xs, x1, x2, x3⟩ := rows_split (blk := b) a7 hbG hmy
       have hxl : xs.length = ys.length := by rw [← x1, List.length_map]
       have hds : xs.toArray.size = ys.length := by simpa using hxl
       have hblk := (Array.getElem?_eq_some_iff.1 a2).1
       have hH : Holds (fun x : RowE w.heap b => x.v) w b 0 xs.toArray := holds_row a2 (by rw [hds]; simpa using x2.symm)
       have hin : ∀ x : RowE w.heap b, ∀ k ∈ x.m, k < w.heap.size ∧ k ≠ b := fun x k hk => ⟨x.ok.lt k hk, fun e => x.nb (e ▸ hk)⟩
       have hcmp : CmpLays1 Tryz.prog 55 #[] (fun x : RowE w.heap b => x.v) (fun x y => cmp3 x.r y.r) b 0 xs.toArray.size w := by
        intro m os dk hdk x y
        obtain ⟨_, _, h3⟩ := sortWorld_heap (enc := fun x : RowE w.heap b => x.v) (n := m) (d := dk) (os := os) a2
        obtain ⟨p1, c1, q1, q2⟩ := rowE_in x (W := sortWorld (fun x : RowE w.heap b => x.v) w b 0 m dk os) fun k hk => h3 k (hin x k hk).1 (hin x k hk).2
        obtain ⟨p2, c2, q3, q4⟩ := rowE_in y (W := sortWorld (fun x : RowE w.heap b => x.v) w b 0 m dk os) fun k hk => h3 k (hin y k hk).1 (hin y k hk).2
        have := cmpRows x.r y.r p1 p2 c1 c2 _ q2 q4 x.le y.le
        rw [← q1, ← q3] at this
        exact this
       have hcf : (ltOf fun x y : RowE w.heap b => cmp3 x.r y.r) = fun x y => lexL x.r y.r := by
        funext x y
        unfold ltOf
        rw [Bool.eq_iff_iff, decide_eq_true_eq]
        exact cmp3_lt
       have hswo : SWO (ltOf fun x y : RowE w.heap b => cmp3 x.r y.r) := by
        rw [hcf]
        exact ⟨fun x => swoL.irrefl _, fun x y z => swoL.trans _ _ _, fun x y z => swoL.ntrans _ _ _⟩
       have hcon := Any.slices_SortFunc Tryz.sortR (fun x : RowE w.heap b => x.v) rowE_one (fun x y => cmp3 x.r y.r) hswo 55 #[] b 0 cap xs.toArray w eg hcmp hH hblk (by rw [hds]; omega)
       change Calls Tryz.prog 54 _ _ _ at hcon
       rw [hds] at hcon
       rw [sL_length]
       refine hcon.mono ?_
       rintro e' w' ⟨rfl, d', n, os, hpm, hso, rfl⟩
       obtain ⟨zs, rfl⟩ : ∃ zs : List (RowE w.heap b), d' = zs.toArray := ⟨d'.toList, by simp⟩
       have hzl : zs.length = ys.length := by have := hpm.1; simpa [hxl] using this
       have hperm : zs.Perm xs := by
        have := hpm.2.2
        have e1 : zs.toArray.extract 0 ys.length = zs.toArray := by rw [← hzl]; exact Array.extract_size
        have e2 : xs.toArray.extract 0 ys.length = xs.toArray := by rw [← hxl]; exact Array.extract_size
        rw [e1, e2] at this
        simpa using this
       have hpair : (zs.map (·.r)).Pairwise fun x y => lexL y x = false := by
        rw [List.pairwise_map, List.pairwise_iff_getElem]
        intro i j hi hj hij
        have := hso i j (Nat.zero_le _) hij (by omega)
        rw [hcf] at this
        rw [getElem!_pos zs.toArray j (by simpa using hj), getElem!_pos zs.toArray i (by simpa using hi)] at this
        simpa using this
       have hzr : zs.map (·.r) = srtL ys := srtL_eq (by rw [← x1]; exact hperm.map _) hpair
       have hG : (zs.flatMap (·.m)).Perm G := by rw [← x3]; exact perm_flat hperm
       obtain ⟨k1, k2, k3⟩ := sortWorld_heap (enc := fun x : RowE w.heap b => x.v) (n := n) (d := zs.toArray) (os := os) a2
       obtain ⟨t1, t2⟩ := putCells_take (enc := fun x : RowE w.heap b => x.v) (d := zs.toArray) (c := c) (by simp; omega)
       have hjoin := rows_join (h' := (sortWorld (fun x : RowE w.heap b => x.v) w b 0 n zs.toArray os).heap) zs fun k hk => by
        obtain ⟨x, hx, hk⟩ := List.mem_flatMap.1 hk
        exact k3 k (hin x k hk).1 (hin x k hk).2
       rw [hzr] at hjoin
       have hnd' : (b :: zs.flatMap (·.m)).Nodup := by
        have : (b :: G).Nodup := by simpa using hnd
        exact (List.Perm.cons b hG).nodup_iff.2 this
       have q : ArrAt (sortWorld (fun x : RowE w.heap b => x.v) w b 0 n zs.toArray os).heap (b :: zs.flatMap (·.m)) [] 1 (sL (srtL ys)) 1 (.slice (some ⟨b, 0, none⟩) ys.length cap) := by
        refine .inr ⟨b, cap, _, e, zs.flatMap (·.m), by rw [sL_length, srtL_length], rfl, rfl, k2, by rw [sL_length, srtL_length]; exact a3, a4, by rw [t2]; exact a5, ?_, ?_⟩
        ·intro z hz
         simp only [sL, List.mem_map] at hz
         obtain ⟨_, _, rfl⟩ := hz
         rfl
        ·rw [sL_length, srtL_length, Nat.mul_one, ← hzl]
         have t1' : List.take zs.length (putCells (fun x : RowE w.heap b => x.v) 0 zs.toArray c).toList = zs.map fun x => x.v := by simpa using t1
         rw [t1']
         exact hjoin
       refine ⟨_, rfl, rfl, rfl, rfl, k1, fun k hk hn => k3 k hk (fun e => hn (by simp [e])), [], [], [], [b :: zs.flatMap (·.m)], ⟨rfl, rfl⟩, ?_, by simp, by simp, by simp, by simpa using hnd', ?_, by simp⟩
       ·have := ArgsOK.cons (ArgOK.arr q (by decide)) ArgsOK.nil
        simpa [mutVals, cSortR] using this
       ·intro k hk
        simp only [List.flatten_cons, List.flatten_nil, List.append_nil] at hk
        have hk' : k ∈ b :: G := (List.Perm.cons b hG).mem_iff.1 hk
        refine ⟨?_, by simp, Or.inr (by simpa using hk')⟩
        rcases List.mem_cons.1 hk' with rfl | hk'
        ·omega
        ·have := a7.lt k hk'; omega
 ·cases hr
end Go.Own
