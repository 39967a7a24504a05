import Derived.Test.YtohioponiobalaaOwnC2
namespace Go.Own
open Go Go.Proofs
set_option linter.unusedSimpArgs false
set_option linter.unusedVariables false
set_option maxRecDepth 20000
set_option maxHeartbeats 2000000

/-! toInclusion -/
def cToX : Contract := ⟨[], false, fun
  | [.agg [.v (.int .i64 a), .v (.int .i64 b)]] => some (True, [⟨true, [.d (.v (.int .i64 a)), .d (.v (.int .i64 b))]⟩], [])
  | _ => none⟩

/-! MissingValue -/
def mvO (xs ys : List Int) : Nat → Nat → Option Int
  | _, 0 => none
  | v, n + 1 => if xs.contains (v : Int) && !ys.contains (v : Int) then some v else mvO xs ys (v + 1) n
def mvR : Option Int → Int × Bool
  | some v => (v, true)
  | none => (0, false)
def mv (c : Int) (rs : List (List Int)) (a b : Int) : Int × Bool := if colsOK c rs a b then mvR (mvO (colL rs a.toNat) (colL rs b.toNat) 0 41) else (0, false)

def cMV : Contract := ⟨[], false, fun
  | [.agg [.v (.int .i64 c), .sl 1 l], .agg [.v (.int .i64 a), .v (.int .i64 b)]] => some (WfS l ∧ -9223372036854775808 ≤ c ∧ c ≤ 9223372036854775807,
      [⟨false, [.d (.v (.int .i64 (mv c (unS l) a b).1))]⟩, ⟨false, [.d (.v (.bool (mv c (unS l) a b).2))]⟩], [])
  | _ => none⟩

theorem colF_of {c : Int} {rs : List (List Int)} {a b : Int} (h : colsOK c rs a b = true) : colF c rs a = colL rs a.toNat ∧ colF c rs b = colL rs b.toNat := by
  simp only [colsOK, Bool.and_eq_true] at h
  obtain ⟨⟨h1, h2⟩, h3⟩ := h
  constructor
  · unfold colF; rw [h1, h2]; rfl
  · unfold colF; rw [h1, h3]; rfl

theorem mvI_ok : ContractOK E0 20 cMV := by
  refine contract_of_wpc (E := E0) (T := mkT Try.prog [(26, cL15), (35, cCol), (36, cHas)] false (fun _ => false) true (fun _ => false)) (mkT_ok (E := E0) (.cons hasBoth_ok (.cons colI_ok (.cons hasI_ok .nil)))) (fn := Try.f20) Try.func20 (by kernel_rfl) rfl mixedT (by kernel_rfl) rfl ?_
  intro args p rs ms hr
  unfold cMV at hr
  dsimp only at hr
  split at hr
  rotate_left
  · cases hr
  rename_i c l a b
  simp only [Option.some.injEq, Prod.mk.injEq] at hr
  obtain ⟨rfl, rfl, rfl⟩ := hr
  refine ⟨rfl, rfl, Nat.le_of_ble_eq_true rfl, ?_⟩
  have hm : maxLen = 9223372036854775807 := rfl
  rintro ⟨h1, hc1, hc2⟩ bs
  obtain ⟨rs, rfl, hx, hy⟩ := h1.ex
  clear h1
  rw [unS_sL]
  cases hcols : colsOK c rs a b
  · unfold mv
    (repeat' (first
      | (refine gate_a fun _ => ?_)
      | (refine fork_intro (fun hb => ?_) (fun hb => ?_) <;> (try simp only [ew] at hb))
      | (simp only [go_sem, Nat.reduceLeDiff, Nat.reduceEqDiff, reduceIte, reduceCtorEq, Nat.reduceAdd, Nat.reduceMul, Nat.reduceSub, Nat.reduceLT, Int.reduceLT, Int.reduceLE, Int.reduceNeg, Int.reduceToNat, Nat.reduceBEq, Nat.reduceBNe, Int.reduceGE, Int.reduceGT, *, cMV, cL15, cCol, cHas, Try.results20])))
  · obtain ⟨e1, e2⟩ := colF_of hcols
    have how : mv c rs a b = mvR (mvO (colL rs a.toNat) (colL rs b.toNat) 0 41) := by rw [mv, if_pos hcols]
    rw [how]
    generalize hR : mvO (colL rs a.toNat) (colL rs b.toNat) 0 41 = R
    have l1 := @colL_length rs a.toNat
    have l2 := @colL_length rs b.toNat
    (repeat' (first
      | (refine gate_a fun _ => ?_)
      | (refine fork_intro (fun hb => ?_) (fun hb => ?_) <;> (try simp only [ew] at hb))
      | (simp only [go_sem, Nat.reduceLeDiff, Nat.reduceEqDiff, reduceIte, reduceCtorEq, Nat.reduceAdd, Nat.reduceMul, Nat.reduceSub, Nat.reduceLT, Int.reduceLT, Int.reduceLE, Int.reduceNeg, Int.reduceToNat, Nat.reduceBEq, Nat.reduceBNe, Int.reduceGE, Int.reduceGT, *, cMV, cL15, cCol, cHas, Try.results20])))

    refine loop_intro { ι := Nat, rs := [(4, 6), (24, 38)], mods := [(8, fun v => .one (.d (.v (.int .i64 v))))], boxes := [], arrs := [(6, fun _ => (1, iL (colL rs a.toNat), 1)), (7, fun _ => (1, iL (colL rs b.toNat), 1))], ok := fun v => v ≤ 41 ∧ mvO (colL rs a.toNat) (colL rs b.toNat) v (41 - v) = R, mu := fun v => 41 - v } rfl 0 ⟨Nat.zero_le _, hR⟩ ?_ fun v hv => ?_
    · (repeat' (first
      | (refine gate_a fun _ => ?_)
      | (refine fork_intro (fun hb => ?_) (fun hb => ?_) <;> (try simp only [ew] at hb))
      | (simp only [go_sem, Nat.reduceLeDiff, Nat.reduceEqDiff, reduceIte, reduceCtorEq, Nat.reduceAdd, Nat.reduceMul, Nat.reduceSub, Nat.reduceLT, Int.reduceLT, Int.reduceLE, Int.reduceNeg, Int.reduceToNat, Nat.reduceBEq, Nat.reduceBNe, Int.reduceGE, Int.reduceGT, *, cMV, cL15, cCol, cHas, Try.results20])))
    · dsimp only at v hv
      obtain ⟨hv, ht⟩ := hv
      (repeat' (first
      | (refine gate_a fun _ => ?_)
      | (refine fork_intro (fun hb => ?_) (fun hb => ?_) <;> (try simp only [ew, wfI_iL] at hb))
      | (simp only [go_sem, Nat.reduceLeDiff, Nat.reduceEqDiff, reduceIte, reduceCtorEq, Nat.reduceAdd, Nat.reduceMul, Nat.reduceSub, Nat.reduceLT, Int.reduceLT, Int.reduceLE, Int.reduceNeg, Int.reduceToNat, Nat.reduceBEq, Nat.reduceBNe, Int.reduceGE, Int.reduceGT, *, cMV, cL15, cCol, cHas, Try.results20, wfI_iL])))
      · have hb := ‹_ ∧ (colL rs b.toNat).contains (v : Int) = false›
        have e : 41 - v = (41 - (v + 1)) + 1 := by omega
        rw [e, mvO, if_pos (by rw [hb.1, hb.2]; rfl)] at ht
        subst ht
        exact ⟨rfl, rfl⟩
      · have hb := ‹(colL rs a.toNat).contains (v : Int) = true → (colL rs b.toNat).contains (v : Int) = true›
        have e : 41 - v = (41 - (v + 1)) + 1 := by omega
        rw [e, mvO, if_neg (by rw [Bool.and_eq_true]; rintro ⟨q1, q2⟩; rw [hb q1] at q2; cases q2)] at ht
        refine loop_next (v + 1) ⟨by omega, ht⟩ (by dsimp only; omega) ?_
        (repeat' (first
      | (refine gate_a fun _ => ?_)
      | (refine fork_intro (fun hb => ?_) (fun hb => ?_) <;> (try simp only [ew] at hb))
      | (simp only [go_sem, Nat.reduceLeDiff, Nat.reduceEqDiff, reduceIte, reduceCtorEq, Nat.reduceAdd, Nat.reduceMul, Nat.reduceSub, Nat.reduceLT, Int.reduceLT, Int.reduceLE, Int.reduceNeg, Int.reduceToNat, Nat.reduceBEq, Nat.reduceBNe, Int.reduceGE, Int.reduceGT, *, cMV, cL15, cCol, cHas, Try.results20])))
      · have e : 41 - v = 0 := by omega
        rw [e, mvO] at ht
        subst ht
        exact ⟨rfl, rfl⟩

/-- Where the least stands. -/
def mvP (xs ys : List Int) (i : Nat) (t : Int) : Prop :=
  (t = -1 ∧ ∀ v ∈ xs.take i, v ≠ -1 → ys.contains v = true) ∨ (0 ≤ t ∧ t ∈ xs.take i ∧ ys.contains t = false ∧ ∀ v ∈ xs.take i, v ≠ -1 → ys.contains v = false → t ≤ v)

theorem mvP_step {xs ys : List Int} {i : Nat} {t : Int} (hi : i < xs.length) (h40 : -1 ≤ xs.getD i 0) (h : mvP xs ys i t) :
    mvP xs ys (i + 1) (if xs.getD i 0 ≠ -1 ∧ ys.contains (xs.getD i 0) = false ∧ (t < 0 ∨ xs.getD i 0 < t) then xs.getD i 0 else t) := by
  unfold mvP at *
  rw [take_succ_getD hi 0]
  simp only [List.mem_append, List.mem_singleton]
  generalize xs.getD i 0 = v at *
  split
  · rename_i hc
    obtain ⟨c1, c2, c3⟩ := hc
    refine .inr ⟨by omega, .inr rfl, c2, ?_⟩
    rintro u (hu | rfl) h1 h2
    · rcases h with ⟨_, h⟩ | ⟨h3, _, _, h⟩
      · have := h u hu h1; rw [h2] at this; cases this
      · have := h u hu h1 h2; omega
    · omega
  · rename_i hc
    rcases h with ⟨rfl, h⟩ | ⟨h3, h4, h5, h⟩
    · refine .inl ⟨rfl, ?_⟩
      rintro u (hu | rfl) h1
      · exact h u hu h1
      · cases hy : ys.contains u with
        | true => rfl
        | false => exact absurd ⟨h1, hy, .inl (by omega)⟩ hc
    · refine .inr ⟨h3, .inl h4, h5, ?_⟩
      rintro u (hu | rfl) h1 h2
      · exact h u hu h1 h2
      · have : ¬ (t < 0 ∨ u < t) := fun q => hc ⟨h1, h2, q⟩
        omega

theorem mvO_none {xs ys : List Int} : ∀ {n v : Nat}, (∀ u, v ≤ u → u < v + n → xs.contains (u : Int) = true → ys.contains (u : Int) = true) → mvO xs ys v n = none
  | 0, v, _ => rfl
  | n + 1, v, h => by
    rw [mvO, if_neg, mvO_none fun u h1 h2 => h u (by omega) (by omega)]
    rw [Bool.and_eq_true]
    rintro ⟨q1, q2⟩
    rw [h v (Nat.le_refl _) (by omega) q1] at q2
    cases q2
theorem mvO_some {xs ys : List Int} {t : Nat} (h1 : xs.contains (t : Int) = true) (h2 : ys.contains (t : Int) = false) : ∀ {n v : Nat}, v ≤ t → t < v + n → (∀ u, v ≤ u → u < t → xs.contains (u : Int) = true → ys.contains (u : Int) = true) → mvO xs ys v n = some (t : Int)
  | 0, v, h3, h4, _ => by omega
  | n + 1, v, h3, h4, h => by
    rw [mvO]
    by_cases e : v = t
    · subst e
      rw [if_pos (by rw [h1, h2]; rfl)]
    · rw [if_neg, mvO_some h1 h2 (by omega) (by omega) fun u q1 q2 => h u (by omega) q2]
      rw [Bool.and_eq_true]
      rintro ⟨q1, q2⟩
      rw [h v (Nat.le_refl _) (by omega) q1] at q2
      cases q2

theorem mvP_end {xs ys : List Int} {t : Int} (hx : ∀ v ∈ xs, v ≤ 40) (h : mvP xs ys xs.length t) : mvR (mvO xs ys 0 41) = (max t 0, decide (t ≥ 0)) := by
  unfold mvP at h
  rw [List.take_length] at h
  rcases h with ⟨rfl, h⟩ | ⟨h3, h4, h5, h⟩
  · rw [mvO_none]
    · rfl
    · intro u _ _ hu
      exact h u (by simpa using hu) (by omega)
  · obtain ⟨n, rfl⟩ := Int.eq_ofNat_of_zero_le h3
    rw [mvO_some (t := n) (by simpa using h4) h5 (by omega) (by have := hx _ h4; omega)]
    · simp only [mvR]
      rw [decide_eq_true (by omega)]
      congr 1
      omega
    · intro u _ q1 q2
      cases hy : ys.contains (u : Int) with
      | true => rfl
      | false => have := h u (by simpa using q2) (by omega) hy; omega

theorem getD_memI {xs : List Int} {j : Nat} (h : j < xs.length) : xs.getD j 0 ∈ xs := by
  simp [List.getD_eq_getElem?_getD, h]

theorem cols_cells {c : Int} {rs : List (List Int)} {a b : Int} (h : colsOK c rs a b = true) : ∀ i, i < rs.length → ∀ j : Nat, (j : Int) < c → -1 ≤ (rs.getD i []).getD j 0 ∧ (rs.getD i []).getD j 0 ≤ 40 := by
  intro i hi j hj
  obtain ⟨a', b', c', rfl, rfl, rfl, _, _, _, hlen⟩ := cols_facts h
  have hl := hlen i hi
  simp only [colsOK, tabOK, Bool.and_eq_true, List.all_eq_true] at h
  have := h.1.1.1 (rs.getD i []) (by simp [List.getD_eq_getElem?_getD, hi])
  simp only [rowOK, Bool.and_eq_true, List.all_eq_true, inB, decide_eq_true_eq] at this
  exact this.1 ((rs.getD i []).getD j 0) (getD_memI (by omega))

theorem colL_getD {rs : List (List Int)} {a i : Nat} (h : i < rs.length) : (colL rs a).getD i 0 = (rs.getD i []).getD a 0 := by
  simp [colL, List.getD_eq_getElem?_getD, h]

theorem mvS_ok : ContractOK E0 21 cMV := by
  refine contract_of_wpc (E := E0) (T := mkT Try.prog [(27, cL15), (23, cCol), (37, cHas)] false (fun _ => false) true (fun _ => false)) (mkT_ok (E := E0) (.cons l15_ok (.cons colS_ok (.cons hasS_ok .nil)))) (fn := Try.f21) Try.func21 (by kernel_rfl) rfl mixedT (by kernel_rfl) rfl ?_
  intro args p rs ms hr
  unfold cMV at hr
  dsimp only at hr
  split at hr
  rotate_left
  · cases hr
  rename_i c l a b
  simp only [Option.some.injEq, Prod.mk.injEq] at hr
  obtain ⟨rfl, rfl, rfl⟩ := hr
  refine ⟨rfl, rfl, Nat.le_of_ble_eq_true rfl, ?_⟩
  have hm : maxLen = 9223372036854775807 := rfl
  rintro ⟨h1, hc1, hc2⟩ bs
  obtain ⟨rs, rfl, hx, hy⟩ := h1.ex
  clear h1
  rw [unS_sL]
  cases hcols : colsOK c rs a b
  · unfold mv
    (repeat' (first
      | (refine gate_a fun _ => ?_)
      | (refine fork_intro (fun hb => ?_) (fun hb => ?_) <;> (try simp only [ew] at hb))
      | (simp only [go_sem, Nat.reduceLeDiff, Nat.reduceEqDiff, reduceIte, reduceCtorEq, Nat.reduceAdd, Nat.reduceMul, Nat.reduceSub, Nat.reduceLT, Int.reduceLT, Int.reduceLE, Int.reduceNeg, Int.reduceToNat, Nat.reduceBEq, Nat.reduceBNe, Int.reduceGE, Int.reduceGT, *, cMV, cL15, cCol, cHas, Try.results21])))
  · obtain ⟨e1, e2⟩ := colF_of hcols
    have how : mv c rs a b = mvR (mvO (colL rs a.toNat) (colL rs b.toNat) 0 41) := by rw [mv, if_pos hcols]
    rw [how]
    have hcells := cols_cells hcols
    obtain ⟨a, b, c, rfl, rfl, rfl, ha, hb', h40, hlen⟩ := cols_facts hcols
    simp only [Int.toNat_natCast] at e1 e2 ⊢
    have l1 := @colL_length rs a
    have l2 := @colL_length rs b
    (repeat' (first
      | (refine gate_a fun _ => ?_)
      | (refine fork_intro (fun hb => ?_) (fun hb => ?_) <;> (try simp only [ew] at hb))
      | (simp only [go_sem, Nat.reduceLeDiff, Nat.reduceEqDiff, reduceIte, reduceCtorEq, Nat.reduceAdd, Nat.reduceMul, Nat.reduceSub, Nat.reduceLT, Int.reduceLT, Int.reduceLE, Int.reduceNeg, Int.reduceToNat, Nat.reduceBEq, Nat.reduceBNe, Int.reduceGE, Int.reduceGT, *, cMV, cL15, cCol, cHas, Try.results21])))
    refine loop_intro { ι := Nat × Int, rs := [(9, 10), (21, 55)], mods := [(8, fun i => .one (.d (.v (.int .i64 i.1)))), (6, fun i => .one (.d (.v (.int .i64 i.2))))], boxes := [(2, fun _ => [.d (.v (.int .i64 c)), .d (.sl 1 (sL rs))]), (3, fun _ => [.d (.v (.int .i64 a)), .d (.v (.int .i64 b))])], arrs := [(7, fun _ => (1, iL (colL rs b), 1))], ok := fun i => i.1 ≤ rs.length ∧ mvP (colL rs a) (colL rs b) i.1 i.2, mu := fun i => rs.length - i.1 } rfl (0, -1) ⟨Nat.zero_le _, .inl ⟨rfl, by simp⟩⟩ ?_ ?_
    · (repeat' (first
      | (refine gate_a fun _ => ?_)
      | (refine fork_intro (fun hb => ?_) (fun hb => ?_) <;> (try simp only [ew] at hb))
      | (simp only [go_sem, Nat.reduceLeDiff, Nat.reduceEqDiff, reduceIte, reduceCtorEq, Nat.reduceAdd, Nat.reduceMul, Nat.reduceSub, Nat.reduceLT, Int.reduceLT, Int.reduceLE, Int.reduceNeg, Int.reduceToNat, Nat.reduceBEq, Nat.reduceBNe, Int.reduceGE, Int.reduceGT, *, cMV, cL15, cCol, cHas, Try.results21])))
    · rintro ⟨i, t⟩ hi
      dsimp only at hi
      obtain ⟨hi, ht⟩ := hi
      (repeat' (first
      | (refine gate_a fun _ => ?_)
      | (refine fork_intro (fun hb => ?_) (fun hb => ?_) <;> (try simp only [ew, wfI_iL] at hb))
      | (simp only [go_sem, Nat.reduceLeDiff, Nat.reduceEqDiff, reduceIte, reduceCtorEq, Nat.reduceAdd, Nat.reduceMul, Nat.reduceSub, Nat.reduceLT, Int.reduceLT, Int.reduceLE, Int.reduceNeg, Int.reduceToNat, Nat.reduceBEq, Nat.reduceBNe, Int.reduceGE, Int.reduceGT, *, cMV, cL15, cCol, cHas, Try.results21, wfI_iL])))
      · have hi' := ‹i < rs.length›
        have hb := ‹(¬(rs.getD i []).getD a 0 = -1 ∧ (colL rs b).contains ((rs.getD i []).getD a 0) = false) ∧ _›
        have h3 := mvP_step (i := i) (by omega) (by rw [colL_getD hi']; exact (hcells i hi' a (by omega)).1) ht
        rw [colL_getD hi', if_pos ⟨hb.1.1, hb.1.2, by simpa using hb.2⟩] at h3
        refine loop_next (i + 1, (rs.getD i []).getD a 0) ⟨by dsimp only; omega, h3⟩ (by dsimp only; omega) ?_
        (repeat' (first
      | (refine gate_a fun _ => ?_)
      | (refine fork_intro (fun hb => ?_) (fun hb => ?_) <;> (try simp only [ew] at hb))
      | (simp only [go_sem, Nat.reduceLeDiff, Nat.reduceEqDiff, reduceIte, reduceCtorEq, Nat.reduceAdd, Nat.reduceMul, Nat.reduceSub, Nat.reduceLT, Int.reduceLT, Int.reduceLE, Int.reduceNeg, Int.reduceToNat, Nat.reduceBEq, Nat.reduceBNe, Int.reduceGE, Int.reduceGT, *, cMV, cL15, cCol, cHas, Try.results21])))
      · have hi' := ‹i < rs.length›
        have hb := ‹¬(rs.getD i []).getD a 0 = -1 ∧ (colL rs b).contains ((rs.getD i []).getD a 0) = false → _›
        have h3 := mvP_step (i := i) (by omega) (by rw [colL_getD hi']; exact (hcells i hi' a (by omega)).1) ht
        rw [colL_getD hi', if_neg (by rintro ⟨q1, q2, q3⟩; have := hb ⟨q1, q2⟩; rw [Bool.or_eq_false_iff, decide_eq_false_iff_not, decide_eq_false_iff_not] at this; omega)] at h3
        refine loop_next (i + 1, t) ⟨by dsimp only; omega, h3⟩ (by dsimp only; omega) ?_
        (repeat' (first
      | (refine gate_a fun _ => ?_)
      | (refine fork_intro (fun hb => ?_) (fun hb => ?_) <;> (try simp only [ew] at hb))
      | (simp only [go_sem, Nat.reduceLeDiff, Nat.reduceEqDiff, reduceIte, reduceCtorEq, Nat.reduceAdd, Nat.reduceMul, Nat.reduceSub, Nat.reduceLT, Int.reduceLT, Int.reduceLE, Int.reduceNeg, Int.reduceToNat, Nat.reduceBEq, Nat.reduceBNe, Int.reduceGE, Int.reduceGT, *, cMV, cL15, cCol, cHas, Try.results21])))
      · have e : i = (colL rs a).length := by omega
        subst e
        have h40 : ∀ v ∈ colL rs a, v ≤ 40 := by
          intro v hv
          obtain ⟨k, hk, rfl⟩ := List.mem_iff_getElem.1 hv
          have hk' : k < rs.length := by omega
          have h5 := (hcells k hk' a (by omega)).2
          rw [← colL_getD hk'] at h5
          simpa [List.getD_eq_getElem?_getD, hk] using h5
        have h6 := mvP_end h40 ht
        rw [h6]
        simp

/-! HoldsInclusion -/
def hiB (c : Int) (rs : List (List Int)) (a b : Int) : Bool := colsOK c rs a b && !(mv c rs a b).2

def cHI : Contract := ⟨[], false, fun
  | [.agg [.v (.int .i64 c), .sl 1 l], .agg [.v (.int .i64 a), .v (.int .i64 b)]] => some (WfS l ∧ -9223372036854775808 ≤ c ∧ c ≤ 9223372036854775807,
      [⟨false, [.d (.v (.bool (hiB c (unS l) a b)))]⟩], [])
  | _ => none⟩

theorem hiS_ok : ContractOK E0 24 cHI := by
  refine contract_of_wpc (E := E0) (T := mkT Try.prog [(21, cMV), (27, cL15)] false (fun _ => false) true (fun _ => false)) (mkT_ok (E := E0) (.cons mvS_ok (.cons l15_ok .nil))) (fn := Try.f24) Try.func24 (by kernel_rfl) rfl mixedT (by kernel_rfl) rfl ?_
  intro args p rs ms hr
  unfold cHI at hr
  dsimp only at hr
  split at hr
  rotate_left
  · cases hr
  rename_i c l a b
  simp only [Option.some.injEq, Prod.mk.injEq] at hr
  obtain ⟨rfl, rfl, rfl⟩ := hr
  refine ⟨rfl, rfl, Nat.le_of_ble_eq_true rfl, ?_⟩
  have hm : maxLen = 9223372036854775807 := rfl
  rintro ⟨h1, hc1, hc2⟩ bs
  obtain ⟨rs, rfl, hx, hy⟩ := h1.ex
  clear h1
  rw [unS_sL]
  unfold hiB
  (repeat' (first
      | (refine gate_a fun _ => ?_)
      | (refine fork_intro (fun hb => ?_) (fun hb => ?_) <;> (try simp only [ew] at hb))
      | (simp only [go_sem, Nat.reduceLeDiff, Nat.reduceEqDiff, reduceIte, reduceCtorEq, Nat.reduceAdd, Nat.reduceMul, Nat.reduceSub, Nat.reduceLT, Int.reduceLT, Int.reduceLE, Int.reduceNeg, Int.reduceToNat, Nat.reduceBEq, Nat.reduceBNe, Int.reduceGE, Int.reduceGT, *, cHI, cMV, cL15, Try.results24])))

theorem hiI_ok : ContractOK E0 18 cHI := by
  refine contract_of_wpc (E := E0) (T := mkT Try.prog [(20, cMV), (26, cL15)] false (fun _ => false) true (fun _ => false)) (mkT_ok (E := E0) (.cons mvI_ok (.cons hasBoth_ok .nil))) (fn := Try.f18) Try.func18 (by kernel_rfl) rfl mixedT (by kernel_rfl) rfl ?_
  intro args p rs ms hr
  unfold cHI at hr
  dsimp only at hr
  split at hr
  rotate_left
  · cases hr
  rename_i c l a b
  simp only [Option.some.injEq, Prod.mk.injEq] at hr
  obtain ⟨rfl, rfl, rfl⟩ := hr
  refine ⟨rfl, rfl, Nat.le_of_ble_eq_true rfl, ?_⟩
  have hm : maxLen = 9223372036854775807 := rfl
  rintro ⟨h1, hc1, hc2⟩ bs
  obtain ⟨rs, rfl, hx, hy⟩ := h1.ex
  clear h1
  rw [unS_sL]
  unfold hiB
  (repeat' (first
      | (refine gate_a fun _ => ?_)
      | (refine fork_intro (fun hb => ?_) (fun hb => ?_) <;> (try simp only [ew] at hb))
      | (simp only [go_sem, Nat.reduceLeDiff, Nat.reduceEqDiff, reduceIte, reduceCtorEq, Nat.reduceAdd, Nat.reduceMul, Nat.reduceSub, Nat.reduceLT, Int.reduceLT, Int.reduceLE, Int.reduceNeg, Int.reduceToNat, Nat.reduceBEq, Nat.reduceBNe, Int.reduceGE, Int.reduceGT, *, cHI, cMV, cL15, Try.results18])))

def cLawTX : Contract := ⟨[], false, fun
  | [.agg [.v (.int .i64 c), .sl 1 l], .agg [.v (.int .i64 a), .v (.int .i64 b)]] => some (WfS l ∧ -9223372036854775808 ≤ c ∧ c ≤ 9223372036854775807, [⟨false, [.d (.v (.bool true))]⟩], [])
  | _ => none⟩

end Go.Own
