import Derived.Test.YtnjijpgnfjghfaaGreatOwnG8
import Derived.Test.YtnjijpgnfjghfaaGreatOwnSo
import Derived.Test.YtnjijpgnfjghfaaGreatOwnSort
import Derived.WalkKit
namespace Go.Own
open Go Go.Proofs Go.RowKit Go.Sort Go.Shelf
set_option linter.unusedSimpArgs false
set_option linter.unusedVariables false
set_option maxRecDepth 20000
set_option maxHeartbeats 2000000

/-! The comparison of sets. -/
theorem oc64 (x : Fin 32) (W : World) : Calls Tryz.prog 172 #[.int .u64 x.val] W fun e w' => e = .returned (.int .i64 (cnt x.val)) ∧ w' = W := by
  go_enter Tryz.func172, Tryz.ntmps172
  go_wp2
  go_ret
  refine ⟨?_, rfl⟩
  refine congrArg (fun z => Ending.returned (Value.int .i64 z)) ?_
  revert x
  decide +kernel
theorem oc (x : Fin 32) (W : World) : Calls Tryz.prog 155 #[.int .u64 x.val] W fun e w' => e = .returned (.int .i64 (cnt x.val)) ∧ w' = W := by
  have hcon := oc64 x W
  generalize cnt x.val = r at hcon ⊢
  go_enter Tryz.func155, Tryz.ntmps155
  go_wp2_with (go_at_call 172; refine hcon.mono ?_; rintro e w' ⟨rfl, rfl⟩)
  go_ret
  exact ⟨rfl, rfl⟩
def cfI (r s x y : Int) : Int := if r = s then x - y else r - s
def cfS (x y : Fin 32) : Int := cfI (cnt (x.val : Nat) : Nat) (cnt (y.val : Nat) : Nat) (x.val : Nat) (y.val : Nat)
theorem cnt_small : ∀ x : Fin 32, cnt (x.val : Nat) ≤ 5 := by decide +kernel
theorem cmpS_aux (x y r s : Nat) (hx : x < 32) (hy : y < 32) (k1 : r ≤ 5) (k2 : s ≤ 5) (W : World)
    (h1 : ∀ W, Calls Tryz.prog 155 #[.int .u64 x] W fun e w' => e = .returned (.int .i64 r) ∧ w' = W) (h2 : ∀ W, Calls Tryz.prog 155 #[.int .u64 y] W fun e w' => e = .returned (.int .i64 s) ∧ w' = W) :
    Calls Tryz.prog 119 #[.int .i64 x, .int .i64 y] W fun e w' => e = .returned (.int .i64 (cfI r s x y)) ∧ ∃ q, w' = W.drewN q := by
  go_enter Tryz.func119, Tryz.ntmps119
  go_wp2_with (go_at_call 155; first | (refine (h1 _).mono ?_; rintro e w' ⟨rfl, rfl⟩) | (refine (h2 _).mono ?_; rintro e w' ⟨rfl, rfl⟩))
  · rename_i hb
    go_ret
    have : ¬ (r : Int) = s := by simpa using hb
    refine ⟨?_, 0, rfl⟩
    unfold cfI
    rw [if_neg this]
    rfl
  · rename_i hb
    go_ret
    have : (r : Int) = s := by simpa using hb
    refine ⟨?_, 0, rfl⟩
    unfold cfI
    rw [if_pos this]
    rfl
theorem cmpS (x y : Fin 32) (W : World) : Calls Tryz.prog 119 #[.int .i64 (x.val : Nat), .int .i64 (y.val : Nat)] W fun e w' => e = .returned (.int .i64 (cfS x y)) ∧ ∃ q, w' = W.drewN q :=
  cmpS_aux x.val y.val _ _ x.isLt y.isLt (cnt_small x) (cnt_small y) W (fun W => oc x W) fun W => oc y W
def keyS (x : Fin 32) : Nat := cnt (x.val : Nat) * 64 + x.val
theorem ltS : ∀ x y : Fin 32, ltOf cfS x y = decide (keyS x < keyS y) := by decide +kernel
theorem keyS_inj : ∀ x y : Fin 32, keyS x = keyS y → x = y := by decide +kernel
theorem swoS : SWO (ltOf cfS) where
  irrefl x := by rw [ltS]; simp
  trans x y z h1 h2 := by rw [ltS] at *; simp at *; omega
  ntrans x y z h1 h2 := by rw [ltS] at *; simp at *; omega
theorem totS (x y : Fin 32) (h1 : ltOf cfS x y = false) (h2 : ltOf cfS y x = false) : x = y := by
  rw [ltS] at *
  simp at h1 h2
  exact keyS_inj x y (by omega)

/-! A row of sets, sorted. -/
def toF (y : Int) : Fin 32 := ⟨y.toNat % 32, Nat.mod_lt _ (by decide)⟩
def ofF (x : Fin 32) : Int := (x.val : Nat)
theorem of_to {y : Int} (h : 0 ≤ y ∧ y ≤ 31) : ofF (toF y) = y := by
  unfold ofF toF
  dsimp only
  omega
def srtF (xs : List (Fin 32)) : List (Fin 32) := xs.mergeSort fun x y => !(ltOf cfS) y x
def srtS (ys : List Int) : List Int := (srtF (ys.map toF)).map ofF
def cSortS : Contract := ⟨[true], false, fun
  | [.arr 1 l _, .fnc f []] => some (f = 119 ∧ WfI l ∧ (∀ y ∈ unI l, 0 ≤ y ∧ y ≤ 31) ∧ l.length ≤ 16777216, [], [.arr 1 (iL (srtS (unI l))) 1])
  | _ => none⟩
theorem sortS_ok : ContractOK E0 157 cSortS := by
  refine ⟨⟨Tryz.f157, Tryz.func157, by kernel_rfl, rfl⟩, ?_⟩
  intro args p rs ms hr hp w vals F Ms ha hnd hF hJ hN hMN
  unfold cSortS at hr
  dsimp only at hr
  split at hr
  · rename_i l dp f
    simp only [Option.some.injEq, Prod.mk.injEq] at hr
    obtain ⟨rfl, rfl, rfl⟩ := hr
    obtain ⟨rfl, hl, hy, hlen⟩ := hp
    obtain ⟨ys, rfl, hmx⟩ := hl.ex
    rw [unI_iL] at hy ⊢
    rw [iL_length] at hlen
    cases ha with
    | cons h1 h2 =>
      cases h2 with
      | cons h2 h3 =>
        cases h3
        cases h1 with
        | arr r1 hdp =>
          cases h2 with
          | fnc r2 =>
            cases r2
            have eg : ∀ args w, (callFunc 119 args).run Tryz.prog w = .ok (.enter 119 args) w := enters_of Tryz.func119 (by kernel_rfl) rfl
            rcases r1 with ⟨rfl, hnil, rfl, _⟩ | ⟨b, cap, c, e, G, rfl, rfl, _, a2, a3, a4, a5, a6, a7⟩
            · have e0 : ys = [] := by
                have := congrArg List.length hnil
                rw [iL_length] at this
                exact List.eq_nil_of_length_eq_zero this
              subst e0
              have hcon := AnyF.slices_SortFunc_none { Tryz.sortL with } none 0 (.func (.func 119) #[] #[]) w
              change Calls Tryz.prog 157 _ _ _ at hcon
              refine hcon.mono ?_
              rintro e w' ⟨rfl, rfl⟩
              refine ⟨_, rfl, rfl, rfl, rfl, Nat.le_refl _, fun _ _ _ => rfl, [], [], [], [[]], ⟨rfl, rfl⟩, ?_, by simp, by simp, by simp, by simp, by simp⟩
              have := ArgsOK.cons (h := w'.heap) (ArgOK.arr (s := 1) (l := []) (dp := 1) (m := []) (.inl ⟨rfl, rfl, rfl, rfl⟩) (by decide)) ArgsOK.nil
              simpa [srtS, srtF, iL, mutVals, cSortS] using this
            · rw [iL_length, Nat.mul_one] at a7
              obtain ⟨hv, rfl⟩ := ints_of_reps a7
              rw [iL_length] at a3
              have hds : ((ys.map toF).toArray).size = ys.length := by simp
              have hto : (ys.map toF).toArray.toList.map (fun x => Value.int .i64 (ofF x)) = ys.map fun n => Value.int .i64 n := by
                rw [List.map_map]
                exact List.map_congr_left fun y hy' => by simp only [Function.comp, of_to (hy y hy')]
              have hH : Holds (fun x => Value.int .i64 (ofF x)) w b 0 (ys.map toF).toArray := holds_row a2 (by rw [hds, hto]; exact hv)
              have hcon := Any.slices_SortFunc_total Tryz.sortL (fun x => Value.int .i64 (ofF x)) (fun _ => rfl) cfS swoS 119 #[] b 0 cap (ys.map toF).toArray w eg
                (CmpReads.lays fun _ _ _ _ x y => cmpS x y _) hH (Array.getElem?_eq_some_iff.1 a2).1 (by rw [hds]; omega) totS
              change Calls Tryz.prog 157 _ _ _ at hcon
              rw [hds] at hcon
              rw [iL_length]
              refine hcon.mono ?_
              rintro e w' ⟨rfl, n, os, rfl⟩
              have hso : ((ys.map toF).toArray.toList.mergeSort fun x y => !(ltOf cfS) y x) = srtF (ys.map toF) := rfl
              have hps := sort_post (val := ofF) (n := n) (os := os) (F := []) (x := .tuple #[]) (d := (ys.map toF).toArray) (d' := (srtF (ys.map toF)).toArray) a2 (by simp [srtF]) (by rw [hds]; exact a3) a4 a5
              rw [hds] at hps
              rw [hso]
              exact ⟨_, rfl, by simpa [mutVals, srtS, cSortS] using hps⟩
  · cases hr
theorem srtF_eq {xs ys : List (Fin 32)} (hp : xs.Perm ys) (hs : ys.Pairwise fun x y => keyS x < keyS y) : srtF xs = ys := by
  have h1 : (srtF xs).Perm xs := List.mergeSort_perm _ _
  have h2 : (srtF xs).Pairwise fun x y => (!(ltOf cfS) y x) = true := by
    apply List.pairwise_mergeSort
    · intro a b c h1 h2
      rw [ltS] at *
      simp at *
      omega
    · intro a b
      rw [ltS, ltS]
      simp
      omega
  refine List.Perm.eq_of_pairwise (le := fun x y => keyS x ≤ keyS y) ?_ ?_ ?_ (h1.trans hp)
  · intro a b _ _ h1 h2
    exact keyS_inj a b (by omega)
  · refine h2.imp ?_
    intro a b h
    rw [ltS] at h
    simp at h
    omega
  · exact hs.imp fun h => by omega
def rng (M : Nat) : List Int := (List.range M).map fun (x : Nat) => (x : Int)
theorem pbs_perm : ∀ n : Fin 6, ((rng (2 ^ n.val)).map toF).Perm ((pbs n.val).map toF) ∧ ((pbs n.val).map toF).Pairwise (fun x y => keyS x < keyS y) ∧ ((pbs n.val).map toF).map ofF = pbs n.val := by decide +kernel
theorem srt_rng {n : Nat} (h : n ≤ 5) : srtS (rng (2 ^ n)) = pbs n := by
  obtain ⟨h1, h2, h3⟩ := pbs_perm ⟨n, by omega⟩
  unfold srtS
  rw [srtF_eq h1 h2, h3]

/-! PartsBySize, the program's. -/
theorem rng_succ {M : Nat} : rng (M + 1) = rng M ++ [(M : Int)] := by simp [rng, List.range_succ]
theorem rng_length {M : Nat} : (rng M).length = M := by simp [rng]
theorem rng_mem {M : Nat} {y : Int} (h : y ∈ rng M) : 0 ≤ y ∧ y < M := by
  simp only [rng, List.mem_map, List.mem_range] at h
  obtain ⟨a, h, rfl⟩ := h
  omega
theorem pbsI_ok : ContractOK E0 123 cPbs := by
  refine contract_of_wpc (E := E0) (T := mkT Tryz.prog [(157, cSortS)] false (fun _ => false) true (fun _ => false)) (mkT_ok (E := E0) (.cons sortS_ok .nil)) (fn := Tryz.f123) Tryz.func123 (by kernel_rfl) rfl mixedT (by kernel_rfl) rfl ?_
  intro args p rs ms hr
  unfold cPbs at hr
  dsimp only at hr
  split at hr
  rotate_left
  · cases hr
  rename_i n
  simp only [Option.some.injEq, Prod.mk.injEq] at hr
  obtain ⟨rfl, rfl, rfl⟩ := hr
  refine ⟨rfl, rfl, Nat.le_of_ble_eq_true rfl, ?_⟩
  have hm : maxLen = 9223372036854775807 := rfl
  rintro ⟨hn1, hn2⟩ bs
  cases hv : inB n 0 5
  · have e : pbsI n = [] := by unfold pbsI; rw [hv]; rfl
    have e0 : (decide (n < 0) || decide (n > 5)) = true := by
      rw [← Bool.not_eq_true, inB_iff] at hv
      rw [Bool.or_eq_true, decide_eq_true_eq, decide_eq_true_eq]
      omega
    rw [e]
    clear e
    (repeat' (first
      | (refine gate_a fun _ => ?_)
      | (refine fork_intro (fun hb => ?_) (fun hb => ?_) <;> (try simp only [ew, e0] at hb))
      | (simp only [go_sem, Nat.reduceLeDiff, Nat.reduceEqDiff, reduceIte, reduceCtorEq, Nat.reduceAdd, Nat.reduceMul, Nat.reduceSub, Nat.reduceLT, Int.reduceLT, Int.reduceLE, Int.reduceNeg, Int.reduceToNat, Nat.reduceBEq, Nat.reduceBNe, Int.reduceGE, Int.reduceGT, *, cPbs, cSortS, Tryz.results123, e0])))
    all_goals first | rfl | skip
  · have hn := inB_iff.1 hv
    obtain ⟨c, rfl⟩ := Int.eq_ofNat_of_zero_le hn.1
    have c5 : c ≤ 5 := by omega
    have e : pbsI c = srtS (rng (2 ^ c)) := by unfold pbsI; rw [hv, Int.toNat_natCast, srt_rng c5]; rfl
    rw [e]
    clear e
    have e0 : (decide ((c : Int) < 0) || decide ((c : Int) > 5)) = false := by
      rw [Bool.or_eq_false_iff, decide_eq_false_iff_not, decide_eq_false_iff_not]
      omega
    have hM2 : 2 ^ c ≤ 32 := Nat.le_trans (Nat.pow_le_pow_right (by omega) c5) (by decide)
    have hM : 1 * (2 : Int) ^ c = ((2 ^ c : Nat) : Int) := by simp
    have hr : ∀ y ∈ rng (2 ^ c), 0 ≤ y ∧ y ≤ 31 := fun y hy => by have := rng_mem hy; omega
    generalize 2 ^ c = M at hM2 hM hr ⊢
    (repeat' (first
      | (refine gate_a fun _ => ?_)
      | (refine fork_intro (fun hb => ?_) (fun hb => ?_) <;> (try simp only [ew, e0, hM] at hb))
      | (simp only [go_sem, Nat.reduceLeDiff, Nat.reduceEqDiff, reduceIte, reduceCtorEq, Nat.reduceAdd, Nat.reduceMul, Nat.reduceSub, Nat.reduceLT, Int.reduceLT, Int.reduceLE, Int.reduceNeg, Int.reduceToNat, Nat.reduceBEq, Nat.reduceBNe, Int.reduceGE, Int.reduceGT, *, cPbs, cSortS, Tryz.results123, e0, hM])))
    refine loop_intro { ι := Nat, rs := [(13, 23)], mods := [(4, fun x => .one (.d (.v (.int .i64 x)))), (3, fun x => .one (.own 1 (iL (rng x)) 1))], boxes := [], arrs := [], ok := fun x => x ≤ M, mu := fun x => M - x } rfl 0 (Nat.zero_le _) ?_ fun x hx => ?_
    · (repeat' (first
      | (refine gate_a fun _ => ?_)
      | (refine fork_intro (fun hb => ?_) (fun hb => ?_) <;> (try simp only [ew, hM] at hb))
      | (simp only [go_sem, Nat.reduceLeDiff, Nat.reduceEqDiff, reduceIte, reduceCtorEq, Nat.reduceAdd, Nat.reduceMul, Nat.reduceSub, Nat.reduceLT, Int.reduceLT, Int.reduceLE, Int.reduceNeg, Int.reduceToNat, Nat.reduceBEq, Nat.reduceBNe, Int.reduceGE, Int.reduceGT, *, cPbs, cSortS, Tryz.results123, hM])))
      all_goals first | rfl | skip
    · dsimp only at x hx
      have hl := @rng_length x
      by_cases h5 : x < M
      · have e2 := @rng_succ x
        clear hr
        (repeat' (first
      | (refine gate_a fun _ => ?_)
      | (refine fork_intro (fun hb => ?_) (fun hb => ?_) <;> (try simp only [ew, hM, bits64, iL_snoc] at hb))
      | (simp only [go_sem, Nat.reduceLeDiff, Nat.reduceEqDiff, reduceIte, reduceCtorEq, Nat.reduceAdd, Nat.reduceMul, Nat.reduceSub, Nat.reduceLT, Int.reduceLT, Int.reduceLE, Int.reduceNeg, Int.reduceToNat, Nat.reduceBEq, Nat.reduceBNe, Int.reduceGE, Int.reduceGT, *, cPbs, cSortS, Tryz.results123, hM, bits64, iL_snoc])))
        refine loop_next (x + 1) (by dsimp only; omega) (by dsimp only; omega) ?_
        (repeat' (first
      | (refine gate_a fun _ => ?_)
      | (refine fork_intro (fun hb => ?_) (fun hb => ?_) <;> (try simp only [ew, e2, iL_snoc] at hb))
      | (simp only [go_sem, Nat.reduceLeDiff, Nat.reduceEqDiff, reduceIte, reduceCtorEq, Nat.reduceAdd, Nat.reduceMul, Nat.reduceSub, Nat.reduceLT, Int.reduceLT, Int.reduceLE, Int.reduceNeg, Int.reduceToNat, Nat.reduceBEq, Nat.reduceBNe, Int.reduceGE, Int.reduceGT, *, cPbs, cSortS, Tryz.results123, e2, iL_snoc])))
      · have e5 : x = M := by omega
        subst e5
        have hmx : x ≤ maxLen := Nat.le_trans hM2 (by decide)
        (repeat' (first
      | (refine gate_a fun _ => ?_)
      | (refine fork_intro (fun hb => ?_) (fun hb => ?_) <;> (try simp only [ew, hM, bits64] at hb))
      | (simp only [go_sem, Nat.reduceLeDiff, Nat.reduceEqDiff, reduceIte, reduceCtorEq, Nat.reduceAdd, Nat.reduceMul, Nat.reduceSub, Nat.reduceLT, Int.reduceLT, Int.reduceLE, Int.reduceNeg, Int.reduceToNat, Nat.reduceBEq, Nat.reduceBNe, Int.reduceGE, Int.reduceGT, *, cPbs, cSortS, Tryz.results123, hM, bits64])))
end Go.Own
