import Derived.Test.YtnjijpgnfjghfaaGreatOwnCd
import Derived.Test.YtnjijpgnfjghfaaGreatOwnG10
import Derived.Test.YtnjijpgnfjghfaaGreatOwnY3
import Derived.Lib.RowBridge
namespace Go.Own
open Go Go.Proofs Go.RowKit Go.Sort Go.Shelf
set_option linter.unusedSimpArgs false
set_option linter.unusedVariables false
set_option maxRecDepth 20000
set_option maxHeartbeats 2000000

/-! Rows of dependencies as cells. -/
theorem repsW_deps {W : Bool} {h : Heap} : ∀ (xs : List (Int × Int)), RepsW W h (dL xs).flatten (xs.flatMap encD) []
  | [] => .nil
  | (a, b) :: xs => .v rfl (.v rfl (repsW_deps xs))
theorem deps_of_reps {W : Bool} {h : Heap} : ∀ {xs : List (Int × Int)} {vs : List Value} {G : List Nat}, RepsW W h (dL xs).flatten vs G → vs = xs.flatMap encD ∧ G = []
  | [], vs, G, r => by cases r; exact ⟨rfl, rfl⟩
  | (a, b) :: xs, vs, G, r => by
    simp only [dL, List.map_cons, List.flatten_cons, List.cons_append, List.nil_append] at r
    cases r with
    | v _ r =>
      cases r with
      | v _ r =>
        obtain ⟨rfl, rfl⟩ := deps_of_reps r
        exact ⟨rfl, rfl⟩
theorem flatMap_len : ∀ {xs : List (Int × Int)}, (xs.flatMap encD).length = xs.length * 2
  | [] => rfl
  | x :: xs => by rw [List.flatMap_cons, List.length_append, flatMap_len, List.length_cons]; show 2 + _ = _; omega
theorem flatMap_get : ∀ {xs : List (Int × Int)} {t : Nat}, t < xs.length * 2 → (xs.flatMap encD)[t]? = some ((encD xs[t / 2]!)[t % 2]!)
  | [], t, h => by simp at h
  | x :: xs, 0, h => rfl
  | x :: xs, 1, h => rfl
  | x :: xs, t + 2, h => by
    have ih := flatMap_get (xs := xs) (t := t) (by simp at h; omega)
    have e1 : (t + 2) / 2 = t / 2 + 1 := by omega
    have e2 : (t + 2) % 2 = t % 2 := by omega
    rw [e1, e2]
    have e3 : (x :: xs)[t / 2 + 1]! = xs[t / 2]! := by simp
    rw [e3, ← ih]
    rfl
theorem flat_list {ys : List (Int × Int)} : (flatK encD 2 ys.toArray).toList = ys.flatMap encD := by
  apply List.ext_getElem?
  intro t
  by_cases h : t < ys.length * 2
  · rw [flatMap_get h]
    have h1 : t < (flatK encD 2 ys.toArray).size := by simpa using h
    rw [Array.getElem?_toList, Array.getElem?_eq_getElem h1, ← getElem!_pos (flatK encD 2 ys.toArray) t h1, get_flatK encD 2 ys.toArray t (by simpa using h)]
    simp
  · rw [List.getElem?_eq_none (by simp; omega), List.getElem?_eq_none (by rw [flatMap_len]; omega)]

/-! slices.Compact at dependencies. -/
def cCompD : Contract := ⟨[true], true, fun
  | [.arr 2 l _] => some (WfD l ∧ l.length ≤ 16777216, [⟨false, [.own 2 (dL (Lib.compact (unD l))) 1]⟩], [.gone])
  | _ => none⟩
theorem compD_ok : ContractOK E0 85 cCompD := by
  refine ⟨⟨Tryz.f85, Tryz.func85, by kernel_rfl, rfl⟩, ?_⟩
  intro args p rs ms hr hp w vals F Ms ha hnd hF hJ hN hMN
  unfold cCompD at hr
  dsimp only at hr
  split at hr
  · rename_i l dp
    simp only [Option.some.injEq, Prod.mk.injEq] at hr
    obtain ⟨rfl, rfl, rfl⟩ := hr
    obtain ⟨hl, hlen⟩ := hp
    obtain ⟨ys, rfl, hmx⟩ := hl.ex
    rw [unD_dL]
    rw [dL_length] at hlen
    cases ha with
    | cons h1 h2 =>
      cases h2
      cases h1 with
      | arr r1 hdp =>
        rcases r1 with ⟨rfl, hnil, rfl, _⟩ | ⟨b, cap, c, e, G, rfl, rfl, _, a2, a3, a4, a5, a6, a7⟩
        · have e0 : ys = [] := by
            have := congrArg List.length hnil
            rw [dL_length] at this
            exact List.eq_nil_of_length_eq_zero this
          subst e0
          refine (cd_none none 0 w).mono ?_
          rintro e w' ⟨rfl, rfl⟩
          refine ⟨_, rfl, rfl, rfl, rfl, Nat.le_refl _, fun _ _ _ => rfl, [], [[]], [], [], ?_, ?_, by simp, by simp, by simp, by simp, by simp⟩
          · have : RCsOK w'.heap [.own 2 (dL []) 1] [.slice none 0 0] ([] ++ []) ([[]]) := .own (.inl ⟨rfl, rfl, rfl, rfl⟩) .nil
            simpa [RetsOK, RVOK, Lib.compact, Lib.compactUpTo, dL] using this
          · have := ArgsOK.cons (h := w'.heap) (ArgOK.gone (v := .slice none 0 0)) ArgsOK.nil
            simpa [mutVals, cCompD] using this
        · obtain ⟨hv, rfl⟩ := deps_of_reps a7
          rw [dL_length] at a3 hv
          have hfs : (flatK encD 2 ys.toArray).size = ys.length * 2 := by simp
          have hH : HoldsK encD 2 w b 0 ys.toArray := holds_row (enc := id) a2 (by rw [hfs, flat_list]; simpa using hv)
          have hcon := cd_arr b cap ys.toArray w hH (by simp; omega) (by simpa using a3)
          rw [dL_length]
          have hsz : ys.toArray.size = ys.length := by simp
          rw [hsz] at hcon
          refine hcon.mono ?_
          have hcl := Lib.compact_length_le ys
          have hcc : Lib.compactUpTo ys.toArray ys.length = Lib.compact ys := rfl
          rintro e w' ⟨rfl, n, d, rfl, hd1, hd2⟩
          rw [hsz, hcc] at hd2
          rw [hsz] at hd1
          rw [hcc]
          generalize hzs : Lib.compact ys = zs at hcl hd2
          have hw : putRow id (Sort.ahead w n) b 0 d = sortWorld id w b 0 n d #[] := by unfold sortWorld; rw [grow_empty]
          rw [hw]
          obtain ⟨q1, q2, q3⟩ := sortWorld_heap (enc := (id : Value → Value)) (n := n) (d := d) (os := #[]) a2
          have hlt : b < w.heap.size := (Array.getElem?_eq_some_iff.1 a2).1
          obtain ⟨t1, t2⟩ := putCells_take (enc := (id : Value → Value)) (d := d) (c := c) (by rw [hd1, a5]; exact Nat.mul_le_mul_right 2 a3)
          have q : ArrAt (sortWorld id w b 0 n d #[]).heap [b] [] 2 (dL zs) 1 (.slice (some ⟨b, 0, none⟩) zs.length cap) := by
            refine .inr ⟨b, cap, _, e, [], by rw [dL_length], rfl, rfl, q2, by rw [dL_length]; omega, a4, by rw [t2]; exact a5, ?_, ?_⟩
            · intro z hz
              simp only [dL, List.mem_map] at hz
              obtain ⟨_, _, rfl⟩ := hz
              rfl
            · rw [dL_length]
              have e1 : (putCells id 0 d c).toList.take (zs.length * 2) = zs.flatMap encD := by
                have : (putCells id 0 d c).toList.take (zs.length * 2) = ((putCells id 0 d c).toList.take d.size).take (zs.length * 2) := by
                  rw [List.take_take]; congr 1; omega
                rw [this, t1, List.map_id]
                apply List.ext_getElem?
                intro t
                by_cases h : t < zs.length * 2
                · rw [flatMap_get h, List.getElem?_take_of_lt h]
                  have h1 : t < d.size := by omega
                  have hq := hd2 (t / 2) (by omega)
                  rw [Array.getElem?_toList, Array.getElem?_eq_getElem h1, ← getElem!_pos d t h1]
                  rcases (show t % 2 = 0 ∨ t % 2 = 1 by omega) with e0 | e0
                  · rw [e0]
                    have : t = t / 2 * 2 := by omega
                    conv => lhs; rw [this]
                    rw [hq.1]; rfl
                  · rw [e0]
                    have : t = t / 2 * 2 + 1 := by omega
                    conv => lhs; rw [this]
                    rw [hq.2]; rfl
                · rw [List.getElem?_eq_none (by rw [List.length_take]; omega), List.getElem?_eq_none (by rw [flatMap_len]; omega)]
              rw [e1]
              exact repsW_deps zs
          refine ⟨_, rfl, rfl, rfl, rfl, q1, fun k hk hn => q3 k hk (by simpa using hn), [], [[b]], [], [], ?_, ?_, by simp, ?_, by simp, by simp, by simp⟩
          · have : RCsOK (sortWorld id w b 0 n d #[]).heap [.own 2 (dL zs) 1] [.slice (some ⟨b, 0, none⟩) zs.length cap] ([] ++ []) ([[b]]) := .own q .nil
            simpa [RetsOK, RVOK] using this
          · have := ArgsOK.cons (h := (sortWorld id w b 0 n d #[]).heap) (ArgOK.gone (v := .slice (some ⟨b, 0, none⟩) ys.length cap)) ArgsOK.nil
            simpa [mutVals, cCompD] using this
          · intro k hk
            simp only [List.flatten_cons, List.flatten_nil, List.append_nil, List.mem_singleton] at hk
            subst hk
            exact ⟨.inr ⟨rfl, by simp⟩, by omega⟩
  · cases hr
end Go.Own
