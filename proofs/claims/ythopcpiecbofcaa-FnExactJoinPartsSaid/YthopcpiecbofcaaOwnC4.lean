import Derived.Test.YthopcpiecbofcaaOwnZ5
namespace Go.Own
open Go Go.Proofs
set_option linter.unusedSimpArgs false
set_option linter.unusedVariables false
set_option maxRecDepth 20000
set_option maxHeartbeats 2000000

/-! Marks. -/
def marks (k : Int) (n : Nat) : List Int := (List.range n).map fun i => k + (i : Nat)
def tot : List (List Int) → Int
  | [] => 0
  | r :: rs => r.length + tot rs
def markRows : List (List Int) → Int → List (List Int)
  | [], _ => []
  | r :: rs, k => marks k r.length :: markRows rs (k + r.length)
def heldI (xs : List Int) (k : Int) : Int := if xs = marks k xs.length then k + xs.length else -1
def heldL : List (List Int) → Int → Int
  | [], k => k
  | r :: rs, k => if heldI r k < 0 then -1 else heldL rs (heldI r k)

theorem marks_length {k : Int} {n : Nat} : (marks k n).length = n := by simp [marks]
theorem marks_succ {k : Int} {n : Nat} : marks k (n + 1) = marks k n ++ [k + n] := by simp [marks, List.range_succ]
theorem tot_nonneg : ∀ {rs : List (List Int)}, 0 ≤ tot rs
  | [] => Int.le_refl _
  | r :: rs => by have := @tot_nonneg rs; simp only [tot]; omega
theorem tot_append : ∀ {rs ss : List (List Int)}, tot (rs ++ ss) = tot rs + tot ss
  | [], ss => by simp [tot]
  | r :: rs, ss => by simp only [List.cons_append, tot, tot_append]; omega
theorem markRows_length : ∀ {rs : List (List Int)} {k : Int}, (markRows rs k).length = rs.length
  | [], k => rfl
  | r :: rs, k => by simp [markRows, markRows_length]
theorem markRows_append : ∀ {rs ss : List (List Int)} {k : Int}, markRows (rs ++ ss) k = markRows rs k ++ markRows ss (k + tot rs)
  | [], ss, k => by simp [markRows, tot]
  | r :: rs, ss, k => by simp only [List.cons_append, markRows, tot, markRows_append]; rw [show k + (r.length : Int) + tot rs = k + (r.length + tot rs) by omega]
theorem heldI_marks {k : Int} {n : Nat} : heldI (marks k n) k = k + n := by simp [heldI, marks_length]
theorem heldL_marks : ∀ {rs : List (List Int)} {k : Int}, 0 ≤ k → heldL (markRows rs k) k = k + tot rs
  | [], k, _ => by simp [markRows, heldL, tot]
  | r :: rs, k, h => by
    simp only [markRows, heldL, heldI_marks, tot]
    rw [if_neg (by omega), heldL_marks (by omega)]
    omega
theorem markRows_lens : ∀ {rs : List (List Int)} {k : Int}, (markRows rs k).map List.length = rs.map List.length
  | [], k => rfl
  | r :: rs, k => by simp [markRows, markRows_lens, marks_length]

/-! laws.markIntS -/
def cMarkI : Contract := ⟨[true], false, fun
  | [.arr 1 l _, .one (.v (.int .i64 k))] => some (WfI l ∧ l.length ≤ 16777216 ∧ 0 ≤ k ∧ k ≤ 1125899906842624, [⟨false, [.d (.v (.int .i64 (k + l.length)))]⟩], [.arr 1 (iL (marks k l.length)) 1])
  | _ => none⟩

theorem mark_set {xs : List Int} {k : Int} {i : Nat} (h : i < xs.length) : (marks k i ++ xs.drop i).set i (k + i) = marks k (i + 1) ++ xs.drop (i + 1) := by
  rw [List.set_append_right _ _ (by rw [marks_length]; omega), marks_length, Nat.sub_self, drop_getD h 0, List.set_cons_zero, marks_succ]; simp

theorem markI_ok : ContractOK E0 12 cMarkI := by
  refine contract_of_wpcM (E := E0) (T := mkT Try.prog [] false (fun _ => false) false (fun _ => false)) (mkT_ok (E := E0) .nil) rfl (fn := Try.f12) Try.func12 (by kernel_rfl) rfl mixedT (by kernel_rfl) rfl rfl (Nat.le_of_ble_eq_true rfl) ?_
  intro args p rs ms hr
  unfold cMarkI at hr
  dsimp only at hr
  split at hr
  rotate_left
  · cases hr
  rename_i l dp k
  simp only [Option.some.injEq, Prod.mk.injEq] at hr
  obtain ⟨rfl, rfl, rfl⟩ := hr
  refine ⟨_, _, _, rfl, rfl, rfl, rfl, rfl, Nat.le_of_ble_eq_true rfl, ?_⟩
  have hm : maxLen = 9223372036854775807 := rfl
  rintro ⟨h1, h2, h3, h4⟩ bs
  obtain ⟨xs, rfl, hx⟩ := h1.ex
  clear h1
  rw [iL_length] at h2
  (repeat' (first
      | (refine gate_a fun _ => ?_)
      | (refine fork_intro (fun hb => ?_) (fun hb => ?_) <;> (try simp only [ew] at hb))
      | (simp only [go_sem, Nat.reduceLeDiff, Nat.reduceEqDiff, reduceIte, reduceCtorEq, Nat.reduceAdd, Nat.reduceMul, Nat.reduceSub, Nat.reduceLT, Int.reduceLT, Int.reduceLE, Int.reduceNeg, Int.reduceToNat, Nat.reduceBEq, Nat.reduceBNe, Int.reduceGE, Int.reduceGT, *, cMarkI, Try.results12])))
  refine loop_intro { ι := Nat, rs := [(6, 18)], mods := [(5, fun i => .one (.d (.v (.int .i64 i)))), (1, fun i => .one (.d (.v (.int .i64 (k + (i : Nat))))))], boxes := [], arrs := [(0, fun i => (1, iL (marks k i ++ xs.drop i), 1))], ok := fun i => i ≤ xs.length, mu := fun i => xs.length - i } rfl 0 (Nat.zero_le _) ?_ fun i hi => ?_
  · (repeat' (first
      | (refine gate_a fun _ => ?_)
      | (refine fork_intro (fun hb => ?_) (fun hb => ?_) <;> (try simp only [ew] at hb))
      | (simp only [go_sem, Nat.reduceLeDiff, Nat.reduceEqDiff, reduceIte, reduceCtorEq, Nat.reduceAdd, Nat.reduceMul, Nat.reduceSub, Nat.reduceLT, Int.reduceLT, Int.reduceLE, Int.reduceNeg, Int.reduceToNat, Nat.reduceBEq, Nat.reduceBNe, Int.reduceGE, Int.reduceGT, *, cMarkI, Try.results12])))
    exact ⟨by omega, by simp [marks]⟩
  · dsimp only at i hi
    (repeat' (first
      | (refine gate_a fun _ => ?_)
      | (refine fork_intro (fun hb => ?_) (fun hb => ?_) <;> (try simp only [ew, marks_length, List.length_drop] at hb))
      | (simp only [go_sem, Nat.reduceLeDiff, Nat.reduceEqDiff, reduceIte, reduceCtorEq, Nat.reduceAdd, Nat.reduceMul, Nat.reduceSub, Nat.reduceLT, Int.reduceLT, Int.reduceLE, Int.reduceNeg, Int.reduceToNat, Nat.reduceBEq, Nat.reduceBNe, Int.reduceGE, Int.reduceGT, *, cMarkI, Try.results12, marks_length, List.length_drop])))
    · refine loop_next (i + 1) (by dsimp only; omega) (by dsimp only; omega) ?_
      have e : k + (i : Int) + 1 = k + ((i + 1 : Nat) : Int) := by omega
      have e2 := mark_set (k := k) (show i < xs.length by omega)
      (repeat' (first
      | (refine gate_a fun _ => ?_)
      | (refine fork_intro (fun hb => ?_) (fun hb => ?_) <;> (try simp only [ew, e2] at hb))
      | (simp only [go_sem, Nat.reduceLeDiff, Nat.reduceEqDiff, reduceIte, reduceCtorEq, Nat.reduceAdd, Nat.reduceMul, Nat.reduceSub, Nat.reduceLT, Int.reduceLT, Int.reduceLE, Int.reduceNeg, Int.reduceToNat, Nat.reduceBEq, Nat.reduceBNe, Int.reduceGE, Int.reduceGT, *, cMarkI, Try.results12, e2])))
    · have e : i = xs.length := by omega
      subst e
      simp

/-! laws.markIntSS -/
def cMarkSS : Contract := ⟨[true], false, fun
  | [.arr 1 l _, .one (.v (.int .i64 k))] => some (WfS l ∧ (l.length ≤ 16777216 ∧ ∀ r ∈ unS l, r.length ≤ 16777216) ∧ 0 ≤ k ∧ k + tot (unS l) ≤ 1125899906842624, [⟨false, [.d (.v (.int .i64 (k + tot (unS l))))]⟩], [.arr 1 (sL (markRows (unS l) k)) 1])
  | _ => none⟩

def mR (rs : List (List Int)) (k : Int) (i : Nat) : List (List Int) := markRows (rs.take i) k ++ rs.drop i
theorem mR_length {rs : List (List Int)} {k : Int} {i : Nat} : (mR rs k i).length = rs.length := by
  simp only [mR, List.length_append, markRows_length, List.length_take, List.length_drop]; omega
theorem mR_get {rs : List (List Int)} {k : Int} {i : Nat} (h : i < rs.length) : (mR rs k i).getD i [] = rs.getD i [] := by
  have e : (markRows (rs.take i) k).length = i := by rw [markRows_length, List.length_take]; omega
  unfold mR
  rw [List.getD_eq_getElem?_getD, List.getElem?_append_right (by omega), e, Nat.sub_self, drop_getD h []]; simp
theorem tot_take {rs : List (List Int)} {i : Nat} (h : i < rs.length) : tot (rs.take (i + 1)) = tot (rs.take i) + (rs.getD i []).length := by
  rw [take_succ_getD h [], tot_append]; simp [tot]
theorem mR_set {rs : List (List Int)} {k : Int} {i : Nat} (h : i < rs.length) : (mR rs k i).set i (marks (k + tot (rs.take i)) (rs.getD i []).length) = mR rs k (i + 1) := by
  have e : (markRows (rs.take i) k).length = i := by rw [markRows_length, List.length_take]; omega
  unfold mR
  rw [List.set_append_right _ _ (by omega), e, Nat.sub_self, drop_getD h [], List.set_cons_zero, take_succ_getD h [], markRows_append]
  simp [markRows]
theorem sL_set1 {rs : List (List Int)} {i : Nat} {r : List Int} : (sL rs).set i [D.sl 1 (iL r)] = sL (rs.set i r) := by
  simp [sL, List.map_set]
theorem tot_split {rs : List (List Int)} (i : Nat) : tot rs = tot (rs.take i) + tot (rs.drop i) := by
  conv => lhs; rw [← List.take_append_drop i rs, tot_append]

theorem markSS_ok : ContractOK E0 29 cMarkSS := by
  refine contract_of_wpcM (E := E0) (T := mkT Try.prog [(12, cMarkI)] false (fun _ => false) false (fun _ => false)) (mkT_ok (E := E0) (.cons markI_ok .nil)) rfl (fn := Try.f29) Try.func29 (by kernel_rfl) rfl mixedT (by kernel_rfl) rfl rfl (Nat.le_of_ble_eq_true rfl) ?_
  intro args p rs ms hr
  unfold cMarkSS at hr
  dsimp only at hr
  split at hr
  rotate_left
  · cases hr
  rename_i l dp k
  simp only [Option.some.injEq, Prod.mk.injEq] at hr
  obtain ⟨rfl, rfl, rfl⟩ := hr
  refine ⟨_, _, _, rfl, rfl, rfl, rfl, rfl, Nat.le_of_ble_eq_true rfl, ?_⟩
  have hm : maxLen = 9223372036854775807 := rfl
  rintro ⟨h1, ⟨h2, h2'⟩, h3, h4⟩ bs
  obtain ⟨rs, rfl, hx, hy⟩ := h1.ex
  clear h1
  rw [unS_sL] at h2' h4 ⊢
  rw [sL_length] at h2
  (repeat' (first
      | (refine gate_a fun _ => ?_)
      | (refine fork_intro (fun hb => ?_) (fun hb => ?_) <;> (try simp only [ew] at hb))
      | (simp only [go_sem, Nat.reduceLeDiff, Nat.reduceEqDiff, reduceIte, reduceCtorEq, Nat.reduceAdd, Nat.reduceMul, Nat.reduceSub, Nat.reduceLT, Int.reduceLT, Int.reduceLE, Int.reduceNeg, Int.reduceToNat, Nat.reduceBEq, Nat.reduceBNe, Int.reduceGE, Int.reduceGT, *, cMarkSS, cMarkI, Try.results29])))
  refine loop_intro { ι := Nat, rs := [(6, 18)], mods := [(5, fun i => .one (.d (.v (.int .i64 i)))), (1, fun i => .one (.d (.v (.int .i64 (k + tot (rs.take i))))))], boxes := [], arrs := [(0, fun i => (1, sL (mR rs k i), 2))], ok := fun i => i ≤ rs.length, mu := fun i => rs.length - i } rfl 0 (Nat.zero_le _) ?_ fun i hi => ?_
  · (repeat' (first
      | (refine gate_a fun _ => ?_)
      | (refine fork_intro (fun hb => ?_) (fun hb => ?_) <;> (try simp only [ew] at hb))
      | (simp only [go_sem, Nat.reduceLeDiff, Nat.reduceEqDiff, reduceIte, reduceCtorEq, Nat.reduceAdd, Nat.reduceMul, Nat.reduceSub, Nat.reduceLT, Int.reduceLT, Int.reduceLE, Int.reduceNeg, Int.reduceToNat, Nat.reduceBEq, Nat.reduceBNe, Int.reduceGE, Int.reduceGT, *, cMarkSS, cMarkI, Try.results29])))
    exact ⟨by simp [tot], by simp [mR, markRows]⟩
  · dsimp only at i hi
    have hri := all_getD h2' i
    have ht1 := tot_split (rs := rs) i
    have ht2 := @tot_nonneg (rs.drop i)
    have ht3 := @tot_nonneg (rs.take i)
    have hmg := fun h => mR_get (rs := rs) (k := k) (i := i) h
    (repeat' (first
      | (refine gate_a fun _ => ?_)
      | (refine fork_intro (fun hb => ?_) (fun hb => ?_) <;> (try simp only [ew, mR_length, hmg, sL_set1] at hb))
      | (simp only [go_sem, Nat.reduceLeDiff, Nat.reduceEqDiff, reduceIte, reduceCtorEq, Nat.reduceAdd, Nat.reduceMul, Nat.reduceSub, Nat.reduceLT, Int.reduceLT, Int.reduceLE, Int.reduceNeg, Int.reduceToNat, Nat.reduceBEq, Nat.reduceBNe, Int.reduceGE, Int.reduceGT, *, cMarkSS, cMarkI, Try.results29, mR_length, hmg, sL_set1])))
    · have hi' := ‹i < rs.length›
      refine loop_next (i + 1) (by dsimp only; omega) (by dsimp only; omega) ?_
      have e1 : k + tot (rs.take i) + ((rs.getD i []).length : Int) = k + tot (rs.take (i + 1)) := by rw [tot_take hi']; omega
      have e2 := mR_set (k := k) hi'
      clear ht1
      (repeat' (first
      | (refine gate_a fun _ => ?_)
      | (refine fork_intro (fun hb => ?_) (fun hb => ?_) <;> (try simp only [ew, mR_length, hmg, sL_set1, e1, e2] at hb))
      | (simp only [go_sem, Nat.reduceLeDiff, Nat.reduceEqDiff, reduceIte, reduceCtorEq, Nat.reduceAdd, Nat.reduceMul, Nat.reduceSub, Nat.reduceLT, Int.reduceLT, Int.reduceLE, Int.reduceNeg, Int.reduceToNat, Nat.reduceBEq, Nat.reduceBNe, Int.reduceGE, Int.reduceGT, *, cMarkSS, cMarkI, Try.results29, mR_length, hmg, sL_set1, e1, e2])))
    · have e : i = rs.length := by omega
      subst e
      simp [tot, mR]

/-! laws.heldIntS -/
def cHeldI : Contract := ⟨[], false, fun
  | [.one (.sl 1 l), .one (.v (.int .i64 k))] => some (WfI l ∧ l.length ≤ 16777216 ∧ 0 ≤ k ∧ k ≤ 1125899906842624, [⟨false, [.d (.v (.int .i64 (heldI (unI l) k)))]⟩], [])
  | _ => none⟩

theorem marks_getD {k : Int} {n i : Nat} (h : i < n) : (marks k n).getD i 0 = k + i := by
  simp [marks, List.getD_eq_getElem?_getD, h]

theorem heldI_ok : ContractOK E0 48 cHeldI := by
  refine contract_of_wpc (E := E0) (T := mkT Try.prog [] false (fun _ => false) true (fun _ => false)) (mkT_ok (E := E0) .nil) (fn := Try.f48) Try.func48 (by kernel_rfl) rfl mixedT (by kernel_rfl) rfl ?_
  intro args p rs ms hr
  unfold cHeldI at hr
  dsimp only at hr
  split at hr
  rotate_left
  · cases hr
  rename_i l k
  simp only [Option.some.injEq, Prod.mk.injEq] at hr
  obtain ⟨rfl, rfl, rfl⟩ := hr
  refine ⟨rfl, rfl, Nat.le_of_ble_eq_true rfl, ?_⟩
  have hm : maxLen = 9223372036854775807 := rfl
  rintro ⟨h1, h2, h3, h4⟩ bs
  obtain ⟨xs, rfl, hx⟩ := h1.ex
  clear h1
  rw [unI_iL]
  rw [iL_length] at h2
  (repeat' (first
      | (refine gate_a fun _ => ?_)
      | (refine fork_intro (fun hb => ?_) (fun hb => ?_) <;> (try simp only [ew] at hb))
      | (simp only [go_sem, Nat.reduceLeDiff, Nat.reduceEqDiff, reduceIte, reduceCtorEq, Nat.reduceAdd, Nat.reduceMul, Nat.reduceSub, Nat.reduceLT, Int.reduceLT, Int.reduceLE, Int.reduceNeg, Int.reduceToNat, Nat.reduceBEq, Nat.reduceBNe, Int.reduceGE, Int.reduceGT, *, cHeldI, Try.results48])))
  refine loop_intro { ι := Nat, rs := [(4, 5), (6, 20)], mods := [(5, fun i => .one (.d (.v (.int .i64 i)))), (1, fun i => .one (.d (.v (.int .i64 (k + (i : Nat))))))], boxes := [], arrs := [], ok := fun i => i ≤ xs.length ∧ xs.take i = marks k i, mu := fun i => xs.length - i } rfl 0 ⟨Nat.zero_le _, rfl⟩ ?_ fun i hi => ?_
  · (repeat' (first
      | (refine gate_a fun _ => ?_)
      | (refine fork_intro (fun hb => ?_) (fun hb => ?_) <;> (try simp only [ew] at hb))
      | (simp only [go_sem, Nat.reduceLeDiff, Nat.reduceEqDiff, reduceIte, reduceCtorEq, Nat.reduceAdd, Nat.reduceMul, Nat.reduceSub, Nat.reduceLT, Int.reduceLT, Int.reduceLE, Int.reduceNeg, Int.reduceToNat, Nat.reduceBEq, Nat.reduceBNe, Int.reduceGE, Int.reduceGT, *, cHeldI, Try.results48])))
    omega
  · dsimp only at i hi
    obtain ⟨hi, ht⟩ := hi
    (repeat' (first
      | (refine gate_a fun _ => ?_)
      | (refine fork_intro (fun hb => ?_) (fun hb => ?_) <;> (try simp only [ew] at hb))
      | (simp only [go_sem, Nat.reduceLeDiff, Nat.reduceEqDiff, reduceIte, reduceCtorEq, Nat.reduceAdd, Nat.reduceMul, Nat.reduceSub, Nat.reduceLT, Int.reduceLT, Int.reduceLE, Int.reduceNeg, Int.reduceToNat, Nat.reduceBEq, Nat.reduceBNe, Int.reduceGE, Int.reduceGT, *, cHeldI, Try.results48])))
    · have hb := ‹¬xs.getD i 0 = k + (i : Int)›
      rw [heldI, if_neg]
      intro e
      refine hb ?_
      rw [e, marks_getD (by omega)]
    · have hb := ‹xs.getD i 0 = k + (i : Int)›
      refine loop_next (i + 1) ⟨by omega, by rw [take_succ_getD (by omega) 0, ht, hb, marks_succ]⟩ (by dsimp only; omega) ?_
      have e : k + (i : Int) + 1 = k + ((i + 1 : Nat) : Int) := by omega
      (repeat' (first
      | (refine gate_a fun _ => ?_)
      | (refine fork_intro (fun hb => ?_) (fun hb => ?_) <;> (try simp only [ew] at hb))
      | (simp only [go_sem, Nat.reduceLeDiff, Nat.reduceEqDiff, reduceIte, reduceCtorEq, Nat.reduceAdd, Nat.reduceMul, Nat.reduceSub, Nat.reduceLT, Int.reduceLT, Int.reduceLE, Int.reduceNeg, Int.reduceToNat, Nat.reduceBEq, Nat.reduceBNe, Int.reduceGE, Int.reduceGT, *, cHeldI, Try.results48])))
    · have e : i = xs.length := by omega
      subst e
      rw [List.take_length] at ht
      rw [heldI, if_pos ht]

/-! laws.heldIntSS -/
def cHeldSS : Contract := ⟨[], false, fun
  | [.one (.sl 1 l), .one (.v (.int .i64 k))] => some (WfS l ∧ (l.length ≤ 16777216 ∧ ∀ r ∈ unS l, r.length ≤ 16777216) ∧ 0 ≤ k ∧ k + tot (unS l) ≤ 1125899906842624, [⟨false, [.d (.v (.int .i64 (heldL (unS l) k)))]⟩], [])
  | _ => none⟩

theorem heldI_le {xs : List Int} {k : Int} (h : ¬ heldI xs k < 0) : heldI xs k = k + xs.length := by
  unfold heldI at *
  split at h
  · rw [if_pos ‹_›]
  · omega

theorem heldSS_ok : ContractOK E0 30 cHeldSS := by
  refine contract_of_wpc (E := E0) (T := mkT Try.prog [(48, cHeldI)] false (fun _ => false) true (fun _ => false)) (mkT_ok (E := E0) (.cons heldI_ok .nil)) (fn := Try.f30) Try.func30 (by kernel_rfl) rfl mixedT (by kernel_rfl) rfl ?_
  intro args p rs ms hr
  unfold cHeldSS at hr
  dsimp only at hr
  split at hr
  rotate_left
  · cases hr
  rename_i l k
  simp only [Option.some.injEq, Prod.mk.injEq] at hr
  obtain ⟨rfl, rfl, rfl⟩ := hr
  refine ⟨rfl, rfl, Nat.le_of_ble_eq_true rfl, ?_⟩
  have hm : maxLen = 9223372036854775807 := rfl
  rintro ⟨h1, ⟨h2, h2'⟩, h3, h4⟩ bs
  obtain ⟨rs, rfl, hx, hy⟩ := h1.ex
  clear h1
  rw [unS_sL] at h2' h4 ⊢
  rw [sL_length] at h2
  (repeat' (first
      | (refine gate_a fun _ => ?_)
      | (refine fork_intro (fun hb => ?_) (fun hb => ?_) <;> (try simp only [ew] at hb))
      | (simp only [go_sem, Nat.reduceLeDiff, Nat.reduceEqDiff, reduceIte, reduceCtorEq, Nat.reduceAdd, Nat.reduceMul, Nat.reduceSub, Nat.reduceLT, Int.reduceLT, Int.reduceLE, Int.reduceNeg, Int.reduceToNat, Nat.reduceBEq, Nat.reduceBNe, Int.reduceGE, Int.reduceGT, *, cHeldSS, cHeldI, Try.results30])))
  refine loop_intro { ι := Nat × Int, rs := [(4, 5), (6, 20)], mods := [(5, fun i => .one (.d (.v (.int .i64 i.1)))), (1, fun i => .one (.d (.v (.int .i64 i.2))))], boxes := [], arrs := [], ok := fun i => i.1 ≤ rs.length ∧ k + tot (rs.take i.1) = i.2 ∧ heldL (rs.drop i.1) i.2 = heldL rs k, mu := fun i => rs.length - i.1 } rfl (0, k) ⟨Nat.zero_le _, by simp [tot], rfl⟩ ?_ ?_
  · (repeat' (first
      | (refine gate_a fun _ => ?_)
      | (refine fork_intro (fun hb => ?_) (fun hb => ?_) <;> (try simp only [ew] at hb))
      | (simp only [go_sem, Nat.reduceLeDiff, Nat.reduceEqDiff, reduceIte, reduceCtorEq, Nat.reduceAdd, Nat.reduceMul, Nat.reduceSub, Nat.reduceLT, Int.reduceLT, Int.reduceLE, Int.reduceNeg, Int.reduceToNat, Nat.reduceBEq, Nat.reduceBNe, Int.reduceGE, Int.reduceGT, *, cHeldSS, cHeldI, Try.results30])))
  · rintro ⟨i, kk⟩ hi
    dsimp only at hi
    obtain ⟨hi, hkk, ht⟩ := hi
    have hri := all_getD h2' i
    have ht1 := tot_split (rs := rs) i
    have ht2 := @tot_nonneg (rs.drop i)
    have ht3 := @tot_nonneg (rs.take i)
    have hk0 : 0 ≤ kk ∧ kk ≤ 1125899906842624 := by omega
    clear ht1 ht2
    (repeat' (first
      | (refine gate_a fun _ => ?_)
      | (refine fork_intro (fun hb => ?_) (fun hb => ?_) <;> (try simp only [ew] at hb))
      | (simp only [go_sem, Nat.reduceLeDiff, Nat.reduceEqDiff, reduceIte, reduceCtorEq, Nat.reduceAdd, Nat.reduceMul, Nat.reduceSub, Nat.reduceLT, Int.reduceLT, Int.reduceLE, Int.reduceNeg, Int.reduceToNat, Nat.reduceBEq, Nat.reduceBNe, Int.reduceGE, Int.reduceGT, *, cHeldSS, cHeldI, Try.results30])))
    · have hi' := ‹i < rs.length›
      rw [← ht, drop_getD hi' [], heldL, if_pos ‹_›]
    · have hi' := ‹i < rs.length›
      have hb := heldI_le ‹_›
      refine loop_next (i + 1, heldI (rs.getD i []) kk) ⟨by dsimp only; omega, by dsimp only; rw [hb, tot_take hi']; omega, ?_⟩ (by dsimp only; omega) ?_
      · dsimp only
        rw [← ht, drop_getD (i := i) hi' [], heldL, if_neg ‹_›]
      · clear ht hkk hb
        (repeat' (first
      | (refine gate_a fun _ => ?_)
      | (refine fork_intro (fun hb => ?_) (fun hb => ?_) <;> (try simp only [ew] at hb))
      | (simp only [go_sem, Nat.reduceLeDiff, Nat.reduceEqDiff, reduceIte, reduceCtorEq, Nat.reduceAdd, Nat.reduceMul, Nat.reduceSub, Nat.reduceLT, Int.reduceLT, Int.reduceLE, Int.reduceNeg, Int.reduceToNat, Nat.reduceBEq, Nat.reduceBNe, Int.reduceGE, Int.reduceGT, *, cHeldSS, cHeldI, Try.results30])))
    · rw [← ht, List.drop_of_length_le (by omega)]; rfl

/-! laws.markTable, laws.heldTable -/
def cMarkT : Contract := ⟨[true], false, fun
  | [.mag [.inl (.v (.int .i64 c)), .inr (1, l, _)], .one (.v (.int .i64 k))] => some (WfS l ∧ (l.length ≤ 16777216 ∧ ∀ r ∈ unS l, r.length ≤ 16777216) ∧ 0 ≤ k ∧ k + tot (unS l) ≤ 1125899906842624, [⟨false, [.d (.v (.int .i64 (k + tot (unS l))))]⟩], [.mag [.inl (.v (.int .i64 c)), .inr (1, sL (markRows (unS l) k), 1)]])
  | _ => none⟩

theorem markT_ok : ContractOK E0 11 cMarkT := by
  refine contract_of_wpcM (E := E0) (T := mkT Try.prog [(29, cMarkSS)] false (fun _ => false) false (fun _ => false)) (mkT_ok (E := E0) (.cons markSS_ok .nil)) rfl (fn := Try.f11) Try.func11 (by kernel_rfl) rfl mixedT (by kernel_rfl) rfl rfl (Nat.le_of_ble_eq_true rfl) ?_
  intro args p rs ms hr
  unfold cMarkT at hr
  dsimp only at hr
  split at hr
  rotate_left
  · cases hr
  rename_i c l dp k
  simp only [Option.some.injEq, Prod.mk.injEq] at hr
  obtain ⟨rfl, rfl, rfl⟩ := hr
  refine ⟨_, _, _, rfl, rfl, rfl, rfl, rfl, Nat.le_of_ble_eq_true rfl, ?_⟩
  have hm : maxLen = 9223372036854775807 := rfl
  rintro ⟨h1, ⟨h2, h2'⟩, h3, h4⟩ bs
  obtain ⟨rs, rfl, hx, hy⟩ := h1.ex
  clear h1
  rw [unS_sL] at h2' h4 ⊢
  rw [sL_length] at h2
  (repeat' (first
      | (refine gate_a fun _ => ?_)
      | (refine fork_intro (fun hb => ?_) (fun hb => ?_) <;> (try simp only [ew] at hb))
      | (simp only [go_sem, Nat.reduceLeDiff, Nat.reduceEqDiff, reduceIte, reduceCtorEq, Nat.reduceAdd, Nat.reduceMul, Nat.reduceSub, Nat.reduceLT, Int.reduceLT, Int.reduceLE, Int.reduceNeg, Int.reduceToNat, Nat.reduceBEq, Nat.reduceBNe, Int.reduceGE, Int.reduceGT, *, cMarkT, cMarkSS, Try.results11])))

def cHeldT : Contract := ⟨[], false, fun
  | [.agg [.v (.int .i64 c), .sl 1 l], .one (.v (.int .i64 k))] => some (WfS l ∧ (l.length ≤ 16777216 ∧ ∀ r ∈ unS l, r.length ≤ 16777216) ∧ 0 ≤ k ∧ k + tot (unS l) ≤ 1125899906842624, [⟨false, [.d (.v (.int .i64 (heldL (unS l) k)))]⟩], [])
  | _ => none⟩

theorem heldL_neg : ∀ {rs : List (List Int)} {k : Int}, 0 ≤ k → heldL rs k < 0 → heldL rs k = -1
  | [], k, h, h1 => by simp [heldL] at h1; omega
  | r :: rs, k, h, h1 => by
    simp only [heldL] at h1 ⊢
    split
    · rfl
    · rw [if_neg ‹_›] at h1
      exact heldL_neg (by omega) h1

theorem heldT_ok : ContractOK E0 13 cHeldT := by
  refine contract_of_wpc (E := E0) (T := mkT Try.prog [(30, cHeldSS)] false (fun _ => false) true (fun _ => false)) (mkT_ok (E := E0) (.cons heldSS_ok .nil)) (fn := Try.f13) Try.func13 (by kernel_rfl) rfl mixedT (by kernel_rfl) rfl ?_
  intro args p rs ms hr
  unfold cHeldT at hr
  dsimp only at hr
  split at hr
  rotate_left
  · cases hr
  rename_i c l k
  simp only [Option.some.injEq, Prod.mk.injEq] at hr
  obtain ⟨rfl, rfl, rfl⟩ := hr
  refine ⟨rfl, rfl, Nat.le_of_ble_eq_true rfl, ?_⟩
  have hm : maxLen = 9223372036854775807 := rfl
  rintro ⟨h1, ⟨h2, h2'⟩, h3, h4⟩ bs
  obtain ⟨rs, rfl, hx, hy⟩ := h1.ex
  clear h1
  rw [unS_sL] at h2' h4 ⊢
  rw [sL_length] at h2
  (repeat' (first
      | (refine gate_a fun _ => ?_)
      | (refine fork_intro (fun hb => ?_) (fun hb => ?_) <;> (try simp only [ew] at hb))
      | (simp only [go_sem, Nat.reduceLeDiff, Nat.reduceEqDiff, reduceIte, reduceCtorEq, Nat.reduceAdd, Nat.reduceMul, Nat.reduceSub, Nat.reduceLT, Int.reduceLT, Int.reduceLE, Int.reduceNeg, Int.reduceToNat, Nat.reduceBEq, Nat.reduceBNe, Int.reduceGE, Int.reduceGT, *, cHeldT, cHeldSS, Try.results13])))
  all_goals first | exact (heldL_neg h3 ‹_›).symm | skip
end Go.Own
