import Derived.Test.YtnjijpgnfjghfaaGreatOwnI1
namespace Go.Own
open Go Go.Proofs Go.RowKit Go.Sort Go.Shelf
set_option linter.unusedSimpArgs false
set_option linter.unusedVariables false
set_option maxRecDepth 20000
set_option maxHeartbeats 2000000

/-! The comparison of dependencies. -/
def cfN (r : Int) (x y : Nat × Nat) : Int := if x.2 = y.2 then r else (x.2 : Int) - y.2
theorem grow_two (W : World) (o1 o2 : Obj) : grow W #[o1, o2] = { W with heap := (W.heap.push o1).push o2 } := by
  unfold grow
  congr 1
theorem alloc2_grow (q : Nat) (W : World) (o1 o2 : Obj) : ((W.alloc o1).alloc o2).drewN q = grow (W.drewN q) #[o1, o2] := by
  rw [grow_two]; rfl
theorem cmpD_aux (a1 a2 b1 b2 : Nat) (r : Int) (h1 : a1 < 32) (h2 : a2 < 5) (h3 : b1 < 32) (h4 : b2 < 5) (W : World)
    (hc : ∀ W, Calls Tryz.prog 119 #[.int .i64 a1, .int .i64 b1] W fun e w' => e = .returned (.int .i64 r) ∧ ∃ q, w' = W.drewN q) :
    Calls Tryz.prog 84 #[.agg #[.int .i64 a1, .int .i64 a2], .agg #[.int .i64 b1, .int .i64 b2]] W fun e w' => e = .returned (.int .i64 (cfN r (a1, a2) (b1, b2))) ∧ ∃ q os, w' = grow (W.drewN q) os := by
  go_enter Tryz.func84, Tryz.ntmps84
  go_wp2_with (go_at_call 119; refine (hc _).mono ?_; rintro e w' ⟨rfl, q, rfl⟩)
  · rename_i hb
    go_ret
    have hb : ¬ a2 = b2 := by
      intro h
      rw [h] at hb
      simp at hb
    refine ⟨by unfold cfN; rw [if_neg hb]; rfl, 0, #[_, _], alloc2_grow 0 _ _ _⟩
  · rename_i hb
    go_ret
    have hb : a2 = b2 := by
      have : (a2 : Int) = b2 := by simpa using hb
      omega
    refine ⟨by unfold cfN; rw [if_pos hb]; rfl, q, #[_, _], alloc2_grow q _ _ _⟩
def cfQ (x y : Fin 32 × Fin 5) : Int := cfN (cfS x.1 y.1) (x.1.val, x.2.val) (y.1.val, y.2.val)
def encQ (x : Fin 32 × Fin 5) : List Value := encD ((x.1.val : Nat), (x.2.val : Nat))
theorem cmpQ (x y : Fin 32 × Fin 5) (W : World) : Calls Tryz.prog 84 #[.agg (encQ x).toArray, .agg (encQ y).toArray] W fun e w' => e = .returned (.int .i64 (cfQ x y)) ∧ ∃ q os, w' = grow (W.drewN q) os :=
  cmpD_aux x.1.val x.2.val y.1.val y.2.val (cfS x.1 y.1) x.1.isLt x.2.isLt y.1.isLt y.2.isLt W fun W => cmpS x.1 y.1 W
def keyQ (x : Fin 32 × Fin 5) : Nat := x.2.val * 1000 + keyS x.1
theorem keyS_le (x : Fin 32) : keyS x ≤ 351 := by
  have := cnt_small x
  unfold keyS
  omega
theorem ltQ (x y : Fin 32 × Fin 5) : ltOf cfQ x y = decide (keyQ x < keyQ y) := by
  have hS := ltS x.1 y.1
  have k1 := keyS_le x.1
  have k2 := keyS_le y.1
  unfold ltOf at hS ⊢
  unfold cfQ cfN keyQ
  by_cases h : x.2.val = y.2.val
  · rw [if_pos h, hS, Bool.eq_iff_iff, decide_eq_true_eq, decide_eq_true_eq]
    omega
  · rw [if_neg h, Bool.eq_iff_iff, decide_eq_true_eq, decide_eq_true_eq]
    dsimp only
    omega
theorem keyQ_inj {x y : Fin 32 × Fin 5} (h : keyQ x = keyQ y) : x = y := by
  have k1 := keyS_le x.1
  have k2 := keyS_le y.1
  unfold keyQ at h
  have h1 : x.2.val = y.2.val := by omega
  have h2 : keyS x.1 = keyS y.1 := by omega
  exact Prod.ext (keyS_inj _ _ h2) (Fin.ext h1)
theorem swoQ : SWO (ltOf cfQ) where
  irrefl x := by rw [ltQ]; simp
  trans x y z h1 h2 := by rw [ltQ] at *; simp at *; omega
  ntrans x y z h1 h2 := by rw [ltQ] at *; simp at *; omega
theorem totQ (x y : Fin 32 × Fin 5) (h1 : ltOf cfQ x y = false) (h2 : ltOf cfQ y x = false) : x = y := by
  rw [ltQ] at *
  simp at h1 h2
  exact keyQ_inj (by omega)
def toQ (d : Int × Int) : Fin 32 × Fin 5 := (toF d.1, ⟨d.2.toNat % 5, Nat.mod_lt _ (by decide)⟩)
def ofQ (x : Fin 32 × Fin 5) : Int × Int := ((x.1.val : Nat), (x.2.val : Nat))
theorem of_toQ {d : Int × Int} (h : depR d) : ofQ (toQ d) = d := by
  obtain ⟨a, b⟩ := d
  obtain ⟨h1, h2⟩ := h
  have := of_to (y := a) h1
  unfold ofF at this
  unfold ofQ toQ
  dsimp only at h1 h2 ⊢
  rw [this]
  refine Prod.ext rfl ?_
  dsimp only
  omega
theorem map_of_to {ys : List (Int × Int)} (h : ∀ d ∈ ys, depR d) : (ys.map toQ).map ofQ = ys := by
  rw [List.map_map]
  conv => rhs; rw [← List.map_id ys]
  exact List.map_congr_left fun d hd => of_toQ (h d hd)
theorem flat_Q (zs : List (Fin 32 × Fin 5)) : flatK encQ 2 zs.toArray = flatK encD 2 (zs.map ofQ).toArray := by
  apply Array.ext
  · simp
  · intro t h1 h2
    have ht : t < zs.length * 2 := by simpa using h1
    rw [← getElem!_pos (flatK encQ 2 zs.toArray) t h1, ← getElem!_pos (flatK encD 2 (zs.map ofQ).toArray) t h2, get_flatK encQ 2 _ t (by simpa using ht), get_flatK encD 2 _ t (by simpa using ht)]
    have h3 : t / 2 < zs.length := by omega
    have e1 : zs.toArray[t / 2]! = zs[t / 2] := by rw [getElem!_pos zs.toArray (t / 2) (by simpa using h3)]; simp
    have e2 : (zs.map ofQ).toArray[t / 2]! = ofQ zs[t / 2] := by rw [getElem!_pos (zs.map ofQ).toArray (t / 2) (by simpa using h3)]; simp
    rw [e1, e2]
    rfl

/-! slices.SortFunc at dependencies. -/
def srtQ (xs : List (Fin 32 × Fin 5)) : List (Fin 32 × Fin 5) := xs.mergeSort fun x y => !(ltOf cfQ) y x
def srtD (ys : List (Int × Int)) : List (Int × Int) := (srtQ (ys.map toQ)).map ofQ
theorem srtD_length {ys : List (Int × Int)} : (srtD ys).length = ys.length := by
  unfold srtD srtQ
  rw [List.length_map, List.length_mergeSort, List.length_map]
theorem sort_postD {w : World} {b n cap : Nat} {ys zs : List (Int × Int)} {os : Array Obj} {c : Array Value} {e : TypeId} {F : List Nat} {x : Value} (hb : w.heap[b]? = some (.cells c e (0, 0))) (hs : zs.length = ys.length) (hc : ys.length ≤ cap) (hm : cap ≤ maxLen) (hcc : c.size = cap * 2) :
    PostOK false w (sortWorld id w b 0 n (flatK encD 2 zs.toArray) os) F [[b]] [.slice (some ⟨b, 0, none⟩) ys.length cap] [] [.arr 2 (dL zs) 1] x := by
  obtain ⟨h1, h2, h3⟩ := sortWorld_heap (enc := (id : Value → Value)) (n := n) (d := flatK encD 2 zs.toArray) (os := os) hb
  have hlt : b < w.heap.size := (Array.getElem?_eq_some_iff.1 hb).1
  have hfs : (flatK encD 2 zs.toArray).size = ys.length * 2 := by simp [hs]
  obtain ⟨t1, t2⟩ := putCells_take (enc := (id : Value → Value)) (d := flatK encD 2 zs.toArray) (c := c) (by rw [hfs, hcc]; exact Nat.mul_le_mul_right 2 hc)
  refine ⟨rfl, rfl, rfl, h1, fun k hk hn => h3 k hk (by simpa using hn), [], [], [], [[b]], ⟨rfl, rfl⟩, ?_, by simp, by simp, by simp, by simp, ?_, by simp⟩
  · have q : ArrAt (sortWorld id w b 0 n (flatK encD 2 zs.toArray) os).heap [b] [] 2 (dL zs) 1 (.slice (some ⟨b, 0, none⟩) ys.length cap) := by
      refine .inr ⟨b, cap, _, e, [], by rw [dL_length, hs], rfl, rfl, h2, by rw [dL_length]; omega, hm, by rw [t2]; exact hcc, ?_, ?_⟩
      · intro z hz
        simp only [dL, List.mem_map] at hz
        obtain ⟨_, _, rfl⟩ := hz
        rfl
      · rw [dL_length, hs]
        rw [hfs] at t1
        rw [t1, List.map_id, flat_list]
        exact repsW_deps zs
    have := ArgsOK.cons (ArgOK.arr q (by decide)) ArgsOK.nil
    simpa using this
  · intro k hk
    simp only [List.flatten_cons, List.flatten_nil, List.append_nil, List.mem_singleton] at hk
    subst hk
    exact ⟨by omega, by simp, Or.inr (by simp)⟩
def cSortDep : Contract := ⟨[true], false, fun
  | [.arr 2 l _, .fnc f []] => some (f = 84 ∧ WfD l ∧ (∀ y ∈ unD l, depR y) ∧ l.length ≤ 16777216, [], [.arr 2 (dL (srtD (unD l))) 1])
  | _ => none⟩
theorem sortDep_ok : ContractOK E0 83 cSortDep := by
  refine ⟨⟨Tryz.f83, Tryz.func83, by kernel_rfl, rfl⟩, ?_⟩
  intro args p rs ms hr hp w vals F Ms ha hnd hF hJ hN hMN
  unfold cSortDep at hr
  dsimp only at hr
  split at hr
  · rename_i l dp f
    simp only [Option.some.injEq, Prod.mk.injEq] at hr
    obtain ⟨rfl, rfl, rfl⟩ := hr
    obtain ⟨rfl, hl, hy, hlen⟩ := hp
    obtain ⟨ys, rfl, hmx⟩ := hl.ex
    rw [unD_dL] at hy ⊢
    rw [dL_length] at hlen
    cases ha with
    | cons h1 h2 =>
      cases h2 with
      | cons h2 h3 =>
        cases h3
        cases h1 with
        | arr r1 hdp =>
          cases h2 with
          | fnc r2 =>
            cases r2
            have eg : ∀ args w, (callFunc 84 args).run Tryz.prog w = .ok (.enter 84 args) w := enters_of Tryz.func84 (by kernel_rfl) rfl
            rcases r1 with ⟨rfl, hnil, rfl, _⟩ | ⟨b, cap, c, e, G, rfl, rfl, _, a2, a3, a4, a5, a6, a7⟩
            · have e0 : ys = [] := by
                have := congrArg List.length hnil
                rw [dL_length] at this
                exact List.eq_nil_of_length_eq_zero this
              subst e0
              have hcon := AnyF.slices_SortFunc_none Tryz.sortD none 0 (.func (.func 84) #[] #[]) w
              change Calls Tryz.prog 83 _ _ _ at hcon
              refine hcon.mono ?_
              rintro e w' ⟨rfl, rfl⟩
              refine ⟨_, rfl, rfl, rfl, rfl, Nat.le_refl _, fun _ _ _ => rfl, [], [], [], [[]], ⟨rfl, rfl⟩, ?_, by simp, by simp, by simp, by simp, by simp⟩
              have := ArgsOK.cons (h := w'.heap) (ArgOK.arr (s := 2) (l := []) (dp := 1) (m := []) (.inl ⟨rfl, rfl, rfl, rfl⟩) (by decide)) ArgsOK.nil
              simpa [srtD, srtQ, dL, mutVals, cSortDep] using this
            · obtain ⟨hv, rfl⟩ := deps_of_reps a7
              rw [dL_length] at a3 hv
              have hds : ((ys.map toQ).toArray).size = ys.length := by simp
              have hfl : flatK encQ 2 (ys.map toQ).toArray = flatK encD 2 ys.toArray := by rw [flat_Q, map_of_to hy]
              have hfs : (flatK encD 2 ys.toArray).size = ys.length * 2 := by simp
              have hH : HoldsK encQ 2 w b 0 (ys.map toQ).toArray := by
                unfold HoldsK
                rw [hfl]
                exact holds_row (enc := id) a2 (by rw [hfs, flat_list]; simpa using hv)
              have hcon := AnyQ.slices_SortFunc_total Tryz.sortD 2 (fun w => by change (isAgg 70).run Tryz.prog w = _; simp) (fun w => by change (Go.sizeOf 70).run Tryz.prog w = _; simp) encQ (fun _ => rfl) (fun x => encD_one _) cfQ swoQ 84 #[] b 0 cap (ys.map toQ).toArray w eg
                (fun _ _ _ _ x y => cmpQ x y _) hH (Array.getElem?_eq_some_iff.1 a2).1 (by rw [hds]; omega) totQ
              change Calls Tryz.prog 83 _ _ _ at hcon
              rw [hds] at hcon
              rw [dL_length]
              refine hcon.mono ?_
              rintro e w' ⟨rfl, n, os, rfl⟩
              have hso : ((ys.map toQ).toArray.toList.mergeSort fun x y => !(ltOf cfQ) y x) = srtQ (ys.map toQ) := rfl
              rw [hso]
              have hw : sortWorldK encQ 2 w b 0 n (srtQ (ys.map toQ)).toArray os = sortWorld id w b 0 n (flatK encD 2 (srtD ys).toArray) os := by
                unfold srtD
                rw [← flat_Q]
                rfl
              rw [hw]
              have hps := sort_postD (n := n) (os := os) (F := []) (x := .tuple #[]) (ys := ys) (zs := srtD ys) a2 srtD_length a3 a4 a5
              exact ⟨_, rfl, by simpa [mutVals, cSortDep] using hps⟩
  · cases hr
end Go.Own
