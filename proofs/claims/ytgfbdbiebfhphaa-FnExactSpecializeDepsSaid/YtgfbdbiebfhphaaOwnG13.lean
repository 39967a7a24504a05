import Derived.Test.YtgfbdbiebfhphaaOwnG12
import Derived.Test.YtgfbdbiebfhphaaOwnF7
namespace Go.Own
open Go Go.Proofs
set_option linter.unusedSimpArgs false
set_option linter.unusedVariables false
set_option maxRecDepth 20000
set_option maxHeartbeats 2000000

theorem dL_scal {xs : List (Int × Int)} : (∀ e ∈ dL xs, ∀ x ∈ e, Scalar x) ↔ True := by
  refine ⟨fun _ => trivial, fun _ e he x hx => ?_⟩
  obtain ⟨n, _, rfl⟩ := List.mem_map.1 he
  simp at hx
  rcases hx with rfl | rfl <;> trivial
attribute [local go_sem] unD_dL dL_length dL_get dL_set dL_inj wfD_dL scal2 beq2 pair_eta dL_scal

/-! A dependency in a list. -/
def cHasD : Contract := ⟨[], false, fun
  | [.one (.sl 2 l), .agg [.v (.int .i64 a), .v (.int .i64 b)]] => some (WfD l, [⟨false, [.d (.v (.bool ((unD l).any fun e => e == (a, b))))]⟩], [])
  | _ => none⟩
theorem hasD_ok : ContractOK E0 105 cHasD := by
  refine contract_of_wpc (E := E0) (T := mkT Try.prog [] false (fun _ => false) true (fun _ => false)) (mkT_ok (E := E0) .nil) (fn := Try.f105) Try.func105 (by kernel_rfl) rfl mixedT (by kernel_rfl) rfl ?_
  intro args p rs ms hr
  unfold cHasD at hr
  dsimp only at hr
  split at hr
  rotate_left
  · cases hr
  rename_i l a b
  simp only [Option.some.injEq, Prod.mk.injEq] at hr
  obtain ⟨rfl, rfl, rfl⟩ := hr
  refine ⟨rfl, rfl, Nat.le_of_ble_eq_true rfl, ?_⟩
  have hm : maxLen = 9223372036854775807 := rfl
  intro h1 bs
  obtain ⟨ds, rfl, hx⟩ := h1.ex
  clear h1
  rw [unD_dL]
  (repeat' (first
      | (refine gate_a fun _ => ?_)
      | (refine fork_intro (fun hb => ?_) (fun hb => ?_) <;> (try simp only [ew] at hb))
      | (simp only [go_sem, Nat.reduceLeDiff, Nat.reduceEqDiff, reduceIte, reduceCtorEq, Nat.reduceAdd, Nat.reduceMul, Nat.reduceSub, Nat.reduceLT, Int.reduceLT, Int.reduceLE, Int.reduceNeg, Int.reduceToNat, Nat.reduceBEq, Nat.reduceBNe, Int.reduceGE, Int.reduceGT, *, cHasD, Try.results105])))
  refine loop_intro { ι := Nat, rs := [(4, 5), (6, 7), (10, 17)], mods := [(9, fun i => .one (.d (.v (.int .i64 i))))], boxes := [(3, fun _ => [.d (.v (.int .i64 a)), .d (.v (.int .i64 b))])], arrs := [], ok := fun i => i ≤ ds.length ∧ (ds.drop i).any (fun e => e == (a, b)) = ds.any (fun e => e == (a, b)), mu := fun i => ds.length - i } rfl 0 ⟨Nat.zero_le _, rfl⟩ ?_ fun i hi => ?_
  · (repeat' (first
      | (refine gate_a fun _ => ?_)
      | (refine fork_intro (fun hb => ?_) (fun hb => ?_) <;> (try simp only [ew] at hb))
      | (simp only [go_sem, Nat.reduceLeDiff, Nat.reduceEqDiff, reduceIte, reduceCtorEq, Nat.reduceAdd, Nat.reduceMul, Nat.reduceSub, Nat.reduceLT, Int.reduceLT, Int.reduceLE, Int.reduceNeg, Int.reduceToNat, Nat.reduceBEq, Nat.reduceBNe, Int.reduceGE, Int.reduceGT, *, cHasD, Try.results105])))
  · dsimp only at i hi
    obtain ⟨hi, ht⟩ := hi
    by_cases h5 : i < ds.length
    · rw [anyb_drop h5 (0, 0)] at ht
      cases hq : (ds.getD i (0, 0) == (a, b))
      · rw [hq, Bool.false_or] at ht
        (repeat' (first
      | (refine gate_a fun _ => ?_)
      | (refine fork_intro (fun hb => ?_) (fun hb => ?_) <;> (try simp only [ew, hq] at hb))
      | (simp only [go_sem, Nat.reduceLeDiff, Nat.reduceEqDiff, reduceIte, reduceCtorEq, Nat.reduceAdd, Nat.reduceMul, Nat.reduceSub, Nat.reduceLT, Int.reduceLT, Int.reduceLE, Int.reduceNeg, Int.reduceToNat, Nat.reduceBEq, Nat.reduceBNe, Int.reduceGE, Int.reduceGT, *, cHasD, Try.results105, hq])))
        refine loop_next (i + 1) ⟨by omega, ht⟩ (by dsimp only; omega) ?_
        clear ht
        (repeat' (first
      | (refine gate_a fun _ => ?_)
      | (refine fork_intro (fun hb => ?_) (fun hb => ?_) <;> (try simp only [ew, hq] at hb))
      | (simp only [go_sem, Nat.reduceLeDiff, Nat.reduceEqDiff, reduceIte, reduceCtorEq, Nat.reduceAdd, Nat.reduceMul, Nat.reduceSub, Nat.reduceLT, Int.reduceLT, Int.reduceLE, Int.reduceNeg, Int.reduceToNat, Nat.reduceBEq, Nat.reduceBNe, Int.reduceGE, Int.reduceGT, *, cHasD, Try.results105, hq])))
      · rw [hq, Bool.true_or] at ht
        rw [← ht]
        clear ht
        (repeat' (first
      | (refine gate_a fun _ => ?_)
      | (refine fork_intro (fun hb => ?_) (fun hb => ?_) <;> (try simp only [ew, hq] at hb))
      | (simp only [go_sem, Nat.reduceLeDiff, Nat.reduceEqDiff, reduceIte, reduceCtorEq, Nat.reduceAdd, Nat.reduceMul, Nat.reduceSub, Nat.reduceLT, Int.reduceLT, Int.reduceLE, Int.reduceNeg, Int.reduceToNat, Nat.reduceBEq, Nat.reduceBNe, Int.reduceGE, Int.reduceGT, *, cHasD, Try.results105, hq])))
    · have e5 : i = ds.length := by omega
      subst e5
      rw [List.drop_length, List.any_nil] at ht
      rw [← ht]
      clear ht
      (repeat' (first
      | (refine gate_a fun _ => ?_)
      | (refine fork_intro (fun hb => ?_) (fun hb => ?_) <;> (try simp only [ew] at hb))
      | (simp only [go_sem, Nat.reduceLeDiff, Nat.reduceEqDiff, reduceIte, reduceCtorEq, Nat.reduceAdd, Nat.reduceMul, Nat.reduceSub, Nat.reduceLT, Int.reduceLT, Int.reduceLE, Int.reduceNeg, Int.reduceToNat, Nat.reduceBEq, Nat.reduceBNe, Int.reduceGE, Int.reduceGT, *, cHasD, Try.results105])))

/-! Dependencies kept by the parts. -/
theorem clo_congr {A B : List (Int × Int)} {x : Int} (hA : ∀ d ∈ A, depR d) (h : ∀ d, d ∈ A ↔ d ∈ B) (hx : R5 x) : clo A x = clo B x := by
  have hB : ∀ d ∈ B, depR d := fun d hd => hA d ((h d).2 hd)
  refine clo_eq hB hx (clo_R hA hx) (clo_le hA hx) (clo_under hA hx (clo_R hB hx) (clo_le hB hx) ?_) ?_
  · intro d hd hi
    exact clo_closed hB hx d ((h d).1 hd) hi
  · intro d hd hi
    exact clo_closed hA hx d ((h d).2 hd) hi
def kpL (n : Int) (ds : List (Int × Int)) (ps : List Int) : List (Int × Int) := ps.flatMap (pdL n ds)
def prsB (n : Int) (ds : List (Int × Int)) (ps : List Int) : Bool := depsOK n ds && (ps.all (isAttr n) && ds.all fun d => hasB (clo (kpL n ds ps) d.1) d.2)
theorem kpL_take {n : Int} {ds : List (Int × Int)} {ps : List Int} {i : Nat} (h : i < ps.length) : kpL n ds (ps.take (i + 1)) = kpL n ds (ps.take i) ++ pdL n ds (ps.getD i 0) := by
  unfold kpL; rw [take_succ_getD h 0, List.flatMap_append]; simp
theorem kpL_length {n : Int} {ds : List (Int × Int)} : ∀ {ps : List Int}, (kpL n ds ps).length ≤ 160 * ps.length
  | [] => Nat.zero_le _
  | p :: ps => by
    have h1 := @kpL_length n ds ps
    have h2 := (@pdL_facts n ds p).1
    unfold kpL at *
    rw [List.flatMap_cons, List.length_append, List.length_cons]; omega
theorem kpL_R {n : Int} {ds : List (Int × Int)} {ps : List Int} : ∀ d ∈ kpL n ds ps, depR d := by
  intro d hd
  unfold kpL at hd
  obtain ⟨p, _, hp⟩ := List.mem_flatMap.1 hd
  exact (@pdL_facts n ds p).2.1 d hp
def cPrs : Contract := ⟨[], false, fun
  | [.one (.v (.int .i64 n)), .one (.sl 2 l), .one (.sl 1 p)] => some (WfD l ∧ WfI p ∧ p.length ≤ 16777216 ∧ -9223372036854775808 ≤ n ∧ n ≤ 9223372036854775807, [⟨false, [.d (.v (.bool (prsB n (unD l) (unI p))))]⟩], [])
  | _ => none⟩

/-- What is known of the dependencies kept so far. -/
def kpI (n : Int) (ds : List (Int × Int)) (ps : List Int) (i : Nat) (K : List (Int × Int)) : Prop := K.length ≤ 160 * i ∧ ∀ d, d ∈ K ↔ d ∈ kpL n ds (ps.take i)
def kpJ (n : Int) (ds : List (Int × Int)) (ps : List Int) (i : Nat) (L : List (Int × Int)) (j : Nat) (K : List (Int × Int)) : Prop := j ≤ L.length ∧ K.length ≤ 160 * i + j ∧ ∀ d, d ∈ K ↔ d ∈ kpL n ds (ps.take i) ∨ d ∈ L.take j
theorem any_mem {K : List (Int × Int)} {d : Int × Int} : (K.any fun e => e == d) = true ↔ d ∈ K := by
  rw [List.any_eq_true]
  constructor
  · rintro ⟨e, he, h⟩
    rw [beq_iff_eq] at h
    rw [← h]; exact he
  · intro h
    exact ⟨d, h, by simp⟩
theorem kpJ_skip {n : Int} {ds : List (Int × Int)} {ps : List Int} {i : Nat} {L : List (Int × Int)} {j : Nat} {K : List (Int × Int)} (h : kpJ n ds ps i L j K) (h6 : j < L.length) (hm : (K.any fun e => e == L.getD j (0, 0)) = true) : kpJ n ds ps i L (j + 1) K := by
  obtain ⟨h1, h2, h3⟩ := h
  refine ⟨h6, by omega, fun d => ?_⟩
  rw [take_succ_getD h6 (0, 0), List.mem_append, List.mem_singleton, ← or_assoc, ← h3]
  constructor
  · exact Or.inl
  · rintro (h | rfl)
    · exact h
    · exact any_mem.1 hm
theorem kpJ_add {n : Int} {ds : List (Int × Int)} {ps : List Int} {i : Nat} {L : List (Int × Int)} {j : Nat} {K : List (Int × Int)} (h : kpJ n ds ps i L j K) (h6 : j < L.length) : kpJ n ds ps i L (j + 1) (K ++ [L.getD j (0, 0)]) := by
  obtain ⟨h1, h2, h3⟩ := h
  refine ⟨h6, by rw [List.length_append]; simp; omega, fun d => ?_⟩
  rw [take_succ_getD h6 (0, 0), List.mem_append, List.mem_append, List.mem_singleton, ← or_assoc, ← h3]
theorem kpJ_end {n : Int} {ds : List (Int × Int)} {ps : List Int} {i : Nat} {K : List (Int × Int)} (h5 : i < ps.length) (h : kpJ n ds ps i (pdL n ds (ps.getD i 0)) (pdL n ds (ps.getD i 0)).length K) : kpI n ds ps (i + 1) K := by
  obtain ⟨h1, h2, h3⟩ := h
  have := (@pdL_facts n ds (ps.getD i 0)).1
  refine ⟨by omega, fun d => ?_⟩
  rw [kpL_take h5, List.mem_append, h3, List.take_length]

/-! The law. -/
end Go.Own
