import Derived.Test.YtmfieiphcjenlaaOwnG6
import Derived.Test.YtmfieiphcjenlaaOwnG5
import Derived.Test.YtmfieiphcjenlaaOwnF4
namespace Go.Own
open Go Go.Proofs
set_option linter.unusedSimpArgs false
set_option linter.unusedVariables false
set_option maxRecDepth 20000
set_option maxHeartbeats 2000000

/-! Marks on strings. -/
def tmk (k : Int) (n : Nat) : List ByteArray := (List.range n).map fun i => mt (k + (i : Nat))
theorem tmk_length {k : Int} {n : Nat} : (tmk k n).length = n := by simp [tmk]
theorem tmk_succ {k : Int} {n : Nat} : tmk k (n + 1) = tmk k n ++ [mt (k + n)] := by simp [tmk, List.range_succ]
theorem tmk_getD {k : Int} {n i : Nat} (h : i < n) : (tmk k n).getD i ⟨#[]⟩ = mt (k + i) := by
  simp [tmk, List.getD_eq_getElem?_getD, h]
def heldStr (xs : List ByteArray) (k : Int) : Int := if xs = tmk k xs.length then k + xs.length else -1
theorem heldStr_marks {k : Int} {n : Nat} : heldStr (tmk k n) k = k + n := by simp [heldStr, tmk_length]
theorem mark_setT {xs : List ByteArray} {k : Int} {i : Nat} (h : i < xs.length) : (tmk k i ++ xs.drop i).set i (mt (k + i)) = tmk k (i + 1) ++ xs.drop (i + 1) := by
  rw [List.set_append_right _ _ (by rw [tmk_length]; omega), tmk_length, Nat.sub_self, drop_getD h ⟨#[]⟩, List.set_cons_zero, tmk_succ]; simp
theorem mT_length {xs : List ByteArray} {k : Int} {i : Nat} (h : i ≤ xs.length) : (tmk k i ++ xs.drop i).length = xs.length := by
  rw [List.length_append, tmk_length, List.length_drop]; omega

def cMarkStr : Contract := ⟨[true], false, fun
  | [.arr 1 l _, .one (.v (.int .i64 k))] => some (WfL l ∧ l.length ≤ 16777216 ∧ 0 ≤ k ∧ k ≤ 1048576, [⟨false, [.d (.v (.int .i64 (k + l.length)))]⟩], [.arr 1 (tL (tmk k l.length)) 1])
  | _ => none⟩
def cHeldStr : Contract := ⟨[], false, fun
  | [.one (.sl 1 l), .one (.v (.int .i64 k))] => some (WfL l ∧ l.length ≤ 16777216 ∧ 0 ≤ k ∧ k ≤ 1048576, [⟨false, [.d (.v (.int .i64 (heldStr (unT l) k)))]⟩], [])
  | _ => none⟩

attribute [local go_sem] unT_tL tL_length tL_snoc wfL_tL tL_get tL_set tL_inj tL_scal

theorem markStr_ok : ContractOK E0 34 cMarkStr := by
  refine contract_of_wpcM (E := E0) (T := mkT Try.prog [(63, cMT)] false (fun _ => false) false (fun _ => false)) (mkT_ok (E := E0) (.cons mt_ok .nil)) rfl (fn := Try.f34) Try.func34 (by kernel_rfl) rfl mixedT (by kernel_rfl) rfl rfl (Nat.le_of_ble_eq_true rfl) ?_
  intro args p rs ms hr
  unfold cMarkStr at hr
  dsimp only at hr
  split at hr
  rotate_left
  · cases hr
  rename_i l dp k
  simp only [Option.some.injEq, Prod.mk.injEq] at hr
  obtain ⟨rfl, rfl, rfl⟩ := hr
  refine ⟨_, _, _, rfl, rfl, rfl, rfl, rfl, Nat.le_of_ble_eq_true rfl, ?_⟩
  have hm : maxLen = 9223372036854775807 := rfl
  rintro ⟨h1, h2, h3, h4⟩ bs
  obtain ⟨xs, rfl, hx⟩ := h1.ex
  clear h1
  rw [tL_length] at h2
  (repeat' (first
      | (refine gate_a fun _ => ?_)
      | (refine fork_intro (fun hb => ?_) (fun hb => ?_) <;> (try simp only [ew] at hb))
      | (simp only [go_sem, Nat.reduceLeDiff, Nat.reduceEqDiff, reduceIte, reduceCtorEq, Nat.reduceAdd, Nat.reduceMul, Nat.reduceSub, Nat.reduceLT, Int.reduceLT, Int.reduceLE, Int.reduceNeg, Int.reduceToNat, Nat.reduceBEq, Nat.reduceBNe, Int.reduceGE, Int.reduceGT, *, cMarkStr, cMT, Try.results34])))
  refine loop_intro { ι := Nat, rs := [(6, 19)], mods := [(5, fun i => .one (.d (.v (.int .i64 i)))), (1, fun i => .one (.d (.v (.int .i64 (k + (i : Nat))))))], boxes := [], arrs := [(0, fun i => (1, tL (tmk k i ++ xs.drop i), 1))], ok := fun i => i ≤ xs.length, mu := fun i => xs.length - i } rfl 0 (Nat.zero_le _) ?_ fun i hi => ?_
  · (repeat' (first
      | (refine gate_a fun _ => ?_)
      | (refine fork_intro (fun hb => ?_) (fun hb => ?_) <;> (try simp only [ew] at hb))
      | (simp only [go_sem, Nat.reduceLeDiff, Nat.reduceEqDiff, reduceIte, reduceCtorEq, Nat.reduceAdd, Nat.reduceMul, Nat.reduceSub, Nat.reduceLT, Int.reduceLT, Int.reduceLE, Int.reduceNeg, Int.reduceToNat, Nat.reduceBEq, Nat.reduceBNe, Int.reduceGE, Int.reduceGT, *, cMarkStr, cMT, Try.results34])))
    all_goals first | exact ⟨by omega, by simp [tmk]⟩ | skip
  · dsimp only at i hi
    have hL := mT_length (k := k) hi
    by_cases h5 : i < xs.length
    · have hm := mark_setT (k := k) h5
      generalize hz : tmk k i ++ xs.drop i = zs at hL hm
      have h6 : i < zs.length := by omega
      (repeat' (first
      | (refine gate_a fun _ => ?_)
      | (refine fork_intro (fun hb => ?_) (fun hb => ?_) <;> (try simp only [ew, hz] at hb))
      | (simp only [go_sem, Nat.reduceLeDiff, Nat.reduceEqDiff, reduceIte, reduceCtorEq, Nat.reduceAdd, Nat.reduceMul, Nat.reduceSub, Nat.reduceLT, Int.reduceLT, Int.reduceLE, Int.reduceNeg, Int.reduceToNat, Nat.reduceBEq, Nat.reduceBNe, Int.reduceGE, Int.reduceGT, *, cMarkStr, cMT, Try.results34, hz])))
      refine loop_next (i + 1) (by dsimp only; omega) (by dsimp only; omega) ?_
      have e : k + (i : Int) + 1 = k + ((i + 1 : Nat) : Int) := by omega
      (repeat' (first
      | (refine gate_a fun _ => ?_)
      | (refine fork_intro (fun hb => ?_) (fun hb => ?_) <;> (try simp only [ew, hz, e, hm] at hb))
      | (simp only [go_sem, Nat.reduceLeDiff, Nat.reduceEqDiff, reduceIte, reduceCtorEq, Nat.reduceAdd, Nat.reduceMul, Nat.reduceSub, Nat.reduceLT, Int.reduceLT, Int.reduceLE, Int.reduceNeg, Int.reduceToNat, Nat.reduceBEq, Nat.reduceBNe, Int.reduceGE, Int.reduceGT, *, cMarkStr, cMT, Try.results34, hz, e, hm])))
    · have e5 : i = xs.length := by omega
      subst e5
      have e6 : tmk k xs.length ++ xs.drop xs.length = tmk k xs.length := by simp
      (repeat' (first
      | (refine gate_a fun _ => ?_)
      | (refine fork_intro (fun hb => ?_) (fun hb => ?_) <;> (try simp only [ew, e6, tmk_length] at hb))
      | (simp only [go_sem, Nat.reduceLeDiff, Nat.reduceEqDiff, reduceIte, reduceCtorEq, Nat.reduceAdd, Nat.reduceMul, Nat.reduceSub, Nat.reduceLT, Int.reduceLT, Int.reduceLE, Int.reduceNeg, Int.reduceToNat, Nat.reduceBEq, Nat.reduceBNe, Int.reduceGE, Int.reduceGT, *, cMarkStr, cMT, Try.results34, e6, tmk_length])))
      all_goals first | rfl | skip

theorem heldStr_ok : ContractOK E0 35 cHeldStr := by
  refine contract_of_wpc (E := E0) (T := mkT Try.prog [(63, cMT)] false (fun _ => false) true (fun _ => false)) (mkT_ok (E := E0) (.cons mt_ok .nil)) (fn := Try.f35) Try.func35 (by kernel_rfl) rfl mixedT (by kernel_rfl) rfl ?_
  intro args p rs ms hr
  unfold cHeldStr at hr
  dsimp only at hr
  split at hr
  rotate_left
  · cases hr
  rename_i l k
  simp only [Option.some.injEq, Prod.mk.injEq] at hr
  obtain ⟨rfl, rfl, rfl⟩ := hr
  refine ⟨rfl, rfl, Nat.le_of_ble_eq_true rfl, ?_⟩
  have hm : maxLen = 9223372036854775807 := rfl
  rintro ⟨h1, h2, h3, h4⟩ bs
  obtain ⟨xs, rfl, hx⟩ := h1.ex
  clear h1
  rw [unT_tL]
  rw [tL_length] at h2
  (repeat' (first
      | (refine gate_a fun _ => ?_)
      | (refine fork_intro (fun hb => ?_) (fun hb => ?_) <;> (try simp only [ew] at hb))
      | (simp only [go_sem, Nat.reduceLeDiff, Nat.reduceEqDiff, reduceIte, reduceCtorEq, Nat.reduceAdd, Nat.reduceMul, Nat.reduceSub, Nat.reduceLT, Int.reduceLT, Int.reduceLE, Int.reduceNeg, Int.reduceToNat, Nat.reduceBEq, Nat.reduceBNe, Int.reduceGE, Int.reduceGT, *, cHeldStr, cMT, Try.results35])))
  refine loop_intro { ι := Nat, rs := [(4, 5), (6, 21)], mods := [(5, fun i => .one (.d (.v (.int .i64 i)))), (1, fun i => .one (.d (.v (.int .i64 (k + (i : Nat))))))], boxes := [], arrs := [], ok := fun i => i ≤ xs.length ∧ xs.take i = tmk k i, mu := fun i => xs.length - i } rfl 0 ⟨Nat.zero_le _, rfl⟩ ?_ fun i hi => ?_
  · (repeat' (first
      | (refine gate_a fun _ => ?_)
      | (refine fork_intro (fun hb => ?_) (fun hb => ?_) <;> (try simp only [ew] at hb))
      | (simp only [go_sem, Nat.reduceLeDiff, Nat.reduceEqDiff, reduceIte, reduceCtorEq, Nat.reduceAdd, Nat.reduceMul, Nat.reduceSub, Nat.reduceLT, Int.reduceLT, Int.reduceLE, Int.reduceNeg, Int.reduceToNat, Nat.reduceBEq, Nat.reduceBNe, Int.reduceGE, Int.reduceGT, *, cHeldStr, cMT, Try.results35])))
    all_goals first | omega | skip
  · dsimp only at i hi
    obtain ⟨hi, ht⟩ := hi
    by_cases h5 : i < xs.length
    · cases hq : (xs.getD i ⟨#[]⟩ == mt (k + (i : Int)))
      · have bad : heldStr xs k = -1 := by
          rw [heldStr, if_neg]
          intro e
          rw [e, tmk_getD h5] at hq
          simp at hq
        rw [bad]
        clear ht bad
        (repeat' (first
      | (refine gate_a fun _ => ?_)
      | (refine fork_intro (fun hb => ?_) (fun hb => ?_) <;> (try simp only [ew, str_eq, hq, bne] at hb))
      | (simp only [go_sem, Nat.reduceLeDiff, Nat.reduceEqDiff, reduceIte, reduceCtorEq, Nat.reduceAdd, Nat.reduceMul, Nat.reduceSub, Nat.reduceLT, Int.reduceLT, Int.reduceLE, Int.reduceNeg, Int.reduceToNat, Nat.reduceBEq, Nat.reduceBNe, Int.reduceGE, Int.reduceGT, *, cHeldStr, cMT, Try.results35, str_eq, hq, bne])))
      · have hn : xs.take (i + 1) = tmk k (i + 1) := by rw [take_succ_getD h5 ⟨#[]⟩, ht, eq_of_beq hq, tmk_succ]
        (repeat' (first
      | (refine gate_a fun _ => ?_)
      | (refine fork_intro (fun hb => ?_) (fun hb => ?_) <;> (try simp only [ew, str_eq, hq, bne] at hb))
      | (simp only [go_sem, Nat.reduceLeDiff, Nat.reduceEqDiff, reduceIte, reduceCtorEq, Nat.reduceAdd, Nat.reduceMul, Nat.reduceSub, Nat.reduceLT, Int.reduceLT, Int.reduceLE, Int.reduceNeg, Int.reduceToNat, Nat.reduceBEq, Nat.reduceBNe, Int.reduceGE, Int.reduceGT, *, cHeldStr, cMT, Try.results35, str_eq, hq, bne])))
        refine loop_next (i + 1) ⟨by omega, hn⟩ (by dsimp only; omega) ?_
        have e : k + (i : Int) + 1 = k + ((i + 1 : Nat) : Int) := by omega
        clear hn ht
        (repeat' (first
      | (refine gate_a fun _ => ?_)
      | (refine fork_intro (fun hb => ?_) (fun hb => ?_) <;> (try simp only [ew, e] at hb))
      | (simp only [go_sem, Nat.reduceLeDiff, Nat.reduceEqDiff, reduceIte, reduceCtorEq, Nat.reduceAdd, Nat.reduceMul, Nat.reduceSub, Nat.reduceLT, Int.reduceLT, Int.reduceLE, Int.reduceNeg, Int.reduceToNat, Nat.reduceBEq, Nat.reduceBNe, Int.reduceGE, Int.reduceGT, *, cHeldStr, cMT, Try.results35, e])))
    · have e5 : i = xs.length := by omega
      subst e5
      rw [List.take_length] at ht
      have e : heldStr xs k = k + (xs.length : Nat) := by rw [heldStr, if_pos ht]
      rw [e]
      clear e ht
      (repeat' (first
      | (refine gate_a fun _ => ?_)
      | (refine fork_intro (fun hb => ?_) (fun hb => ?_) <;> (try simp only [ew] at hb))
      | (simp only [go_sem, Nat.reduceLeDiff, Nat.reduceEqDiff, reduceIte, reduceCtorEq, Nat.reduceAdd, Nat.reduceMul, Nat.reduceSub, Nat.reduceLT, Int.reduceLT, Int.reduceLE, Int.reduceNeg, Int.reduceToNat, Nat.reduceBEq, Nat.reduceBNe, Int.reduceGE, Int.reduceGT, *, cHeldStr, cMT, Try.results35])))

/-! The lines of a derivation. -/
attribute [local go_sem] unD_dL dL_length dL_get dL_set dL_inj wfD_dL scal2 beq2 pair_eta un3_d3L d3L_length d3L_get d3L_snoc scal3 unT_tL tL_length tL_snoc wfL_tL

def byT : ByteArray := ⟨#[32, 98, 121, 32]⟩
def givesT : ByteArray := ⟨#[32, 103, 105, 118, 101, 115, 32]⟩
theorem by_size : ByteArray.size ⟨#[32, 98, 121, 32]⟩ = 4 := rfl
theorem gives_size : ByteArray.size ⟨#[32, 103, 105, 118, 101, 115, 32]⟩ = 7 := rfl
def lnB (ds : List (Int × Int)) (s : Int × Int × Int) : ByteArray := (((fa s.2.1 ++ ⟨#[32, 98, 121, 32]⟩) ++ fd (ds.getD s.1.toNat (0, 0))) ++ ⟨#[32, 103, 105, 118, 101, 115, 32]⟩) ++ fa s.2.2
def dlnL (n : Int) (ds : List (Int × Int)) (a b : Int) : List ByteArray := (drL n ds a b).map (lnB ds)
theorem fd_sz {q : Int × Int} : (fd q).size ≤ 11 := by
  have s1 := @fa_size q.1
  have s2 := @fa_size (1 * 2 ^ q.2.toNat)
  unfold fd
  split
  · rw [size_app, size_app, gt_size]; omega
  · exact Nat.zero_le _
theorem drL_facts {n : Int} {ds : List (Int × Int)} {a b : Int} : (drL n ds a b).length ≤ 6 ∧ ∀ i, i < (drL n ds a b).length → 0 ≤ ((drL n ds a b).getD i (0, 0, 0)).1 ∧ ((drL n ds a b).getD i (0, 0, 0)).1 < ds.length := by
  unfold drL
  split
  · rename_i hv
    simp only [impB, Bool.and_eq_true] at hv
    have hd := depsOK_R hv.1.1
    obtain ⟨h1, h2⟩ := derF_all (k := 6) (r := b) hd (depOK_R hv.1.2).1
    exact ⟨h1, fun i hi => (h2 _ (getD_mem hi (0, 0, 0))).1⟩
  · simp
theorem dln_len {n : Int} {ds : List (Int × Int)} {a b : Int} : (dlnL n ds a b).length ≤ 6 := by
  unfold dlnL; rw [List.length_map]; exact drL_facts.1
def cDln : Contract := ⟨[], false, fun
  | [.one (.v (.int .i64 n)), .one (.sl 2 l), .agg [.v (.int .i64 a), .v (.int .i64 b)]] => some (WfD l ∧ -9223372036854775808 ≤ n ∧ n ≤ 9223372036854775807,
      [⟨false, [.own 1 (tL (dlnL n (unD l) a b)) 1]⟩], [])
  | _ => none⟩

theorem dlnI_ok : ContractOK E0 32 cDln := by
  refine contract_of_wpc (E := E0) (T := mkT Try.prog [(60, cDer), (61, cFA), (62, cFD)] false (fun _ => false) true (fun _ => false)) (mkT_ok (E := E0) (.cons derImpl_ok (.cons faI_ok (.cons fdI_ok .nil)))) (fn := Try.f32) Try.func32 (by kernel_rfl) rfl mixedT (by kernel_rfl) rfl ?_
  intro args p rs ms hr
  unfold cDln at hr
  dsimp only at hr
  split at hr
  rotate_left
  · cases hr
  rename_i n l a b
  simp only [Option.some.injEq, Prod.mk.injEq] at hr
  obtain ⟨rfl, rfl, rfl⟩ := hr
  refine ⟨rfl, rfl, Nat.le_of_ble_eq_true rfl, ?_⟩
  have hm : maxLen = 9223372036854775807 := rfl
  rintro ⟨h1, hn1, hn2⟩ bs
  obtain ⟨ds, rfl, hx⟩ := h1.ex
  clear h1
  rw [unD_dL]
  unfold dlnL
  obtain ⟨f6, fdd⟩ := @drL_facts n ds a b
  (repeat' (first
      | (refine gate_a fun _ => ?_)
      | (refine fork_intro (fun hb => ?_) (fun hb => ?_) <;> (try simp only [ew] at hb))
      | (simp only [go_sem, Nat.reduceLeDiff, Nat.reduceEqDiff, reduceIte, reduceCtorEq, Nat.reduceAdd, Nat.reduceMul, Nat.reduceSub, Nat.reduceLT, Int.reduceLT, Int.reduceLE, Int.reduceNeg, Int.reduceToNat, Nat.reduceBEq, Nat.reduceBNe, Int.reduceGE, Int.reduceGT, *, cDln, cDer, cFA, cFD, Try.results32])))
  generalize hF : drL n ds a b = F at f6 fdd ⊢
  clear hF
  refine loop_intro { ι := Nat, rs := [(11, 12), (23, 46)], mods := [(22, fun i => .one (.d (.v (.int .i64 i)))), (7, fun i => .one (.own 1 (tL ((F.take i).map (lnB ds))) 1))], boxes := [], arrs := [(8, fun _ => (3, d3L F, 1))], alis := [(20, 8)], ok := fun i => i ≤ F.length, mu := fun i => F.length - i } rfl 0 (Nat.zero_le _) ?_ fun i hi => ?_
  · (repeat' (first
      | (refine gate_a fun _ => ?_)
      | (refine fork_intro (fun hb => ?_) (fun hb => ?_) <;> (try simp only [ew] at hb))
      | (simp only [go_sem, Nat.reduceLeDiff, Nat.reduceEqDiff, reduceIte, reduceCtorEq, Nat.reduceAdd, Nat.reduceMul, Nat.reduceSub, Nat.reduceLT, Int.reduceLT, Int.reduceLE, Int.reduceNeg, Int.reduceToNat, Nat.reduceBEq, Nat.reduceBNe, Int.reduceGE, Int.reduceGT, *, cDln, cDer, cFA, cFD, Try.results32])))
    all_goals first | rfl | skip
  · dsimp only at i hi
    by_cases h5 : i < F.length
    · have e2 : (F.take (i + 1)).map (lnB ds) = (F.take i).map (lnB ds) ++ [lnB ds (F.getD i (0, 0, 0))] := by rw [take_succ_getD h5 (0, 0, 0)]; simp
      obtain ⟨p0, p1⟩ := fdd i h5
      clear fdd
      cases hq : F.getD i (0, 0, 0) with
      | mk q1 q =>
        cases q with
        | mk q2 q3 =>
          rw [hq] at p0 p1 e2
          dsimp only at p0 p1
          obtain ⟨q1, rfl⟩ := Int.eq_ofNat_of_zero_le p0
          have p1 : q1 < ds.length := by omega
          clear p0
          have e3 : lnB ds ((q1 : Int), q2, q3) = (((fa q2 ++ ⟨#[32, 98, 121, 32]⟩) ++ fd (ds.getD q1 (0, 0))) ++ ⟨#[32, 103, 105, 118, 101, 115, 32]⟩) ++ fa q3 := by unfold lnB; dsimp only; rw [Int.toNat_natCast]
          rw [e3] at e2
          clear e3
          have s1 := @fa_size q2
          have s2 := @fa_size q3
          have s3 := @fd_sz (ds.getD q1 (0, 0))
          (repeat' (first
      | (refine gate_a fun _ => ?_)
      | (refine fork_intro (fun hb => ?_) (fun hb => ?_) <;> (try simp only [ew, hq, by_size, gives_size, size_app, List.length_map] at hb))
      | (simp only [go_sem, Nat.reduceLeDiff, Nat.reduceEqDiff, reduceIte, reduceCtorEq, Nat.reduceAdd, Nat.reduceMul, Nat.reduceSub, Nat.reduceLT, Int.reduceLT, Int.reduceLE, Int.reduceNeg, Int.reduceToNat, Nat.reduceBEq, Nat.reduceBNe, Int.reduceGE, Int.reduceGT, *, cDln, cDer, cFA, cFD, Try.results32, hq, by_size, gives_size, size_app, List.length_map])))
          refine loop_next (i + 1) (by dsimp only; omega) (by dsimp only; omega) ?_
          clear s1 s2 s3
          (repeat' (first
      | (refine gate_a fun _ => ?_)
      | (refine fork_intro (fun hb => ?_) (fun hb => ?_) <;> (try simp only [ew, hq, e2] at hb))
      | (simp only [go_sem, Nat.reduceLeDiff, Nat.reduceEqDiff, reduceIte, reduceCtorEq, Nat.reduceAdd, Nat.reduceMul, Nat.reduceSub, Nat.reduceLT, Int.reduceLT, Int.reduceLE, Int.reduceNeg, Int.reduceToNat, Nat.reduceBEq, Nat.reduceBNe, Int.reduceGE, Int.reduceGT, *, cDln, cDer, cFA, cFD, Try.results32, hq, e2])))
    · have e5 : i = F.length := by omega
      subst e5
      have e6 : F.take F.length = F := List.take_length
      clear fdd
      (repeat' (first
      | (refine gate_a fun _ => ?_)
      | (refine fork_intro (fun hb => ?_) (fun hb => ?_) <;> (try simp only [ew, e6] at hb))
      | (simp only [go_sem, Nat.reduceLeDiff, Nat.reduceEqDiff, reduceIte, reduceCtorEq, Nat.reduceAdd, Nat.reduceMul, Nat.reduceSub, Nat.reduceLT, Int.reduceLT, Int.reduceLE, Int.reduceNeg, Int.reduceToNat, Nat.reduceBEq, Nat.reduceBNe, Int.reduceGE, Int.reduceGT, *, cDln, cDer, cFA, cFD, Try.results32, e6])))
      all_goals first | rfl | skip

theorem dlnS_ok : ContractOK E0 30 cDln := by
  refine contract_of_wpc (E := E0) (T := mkT Try.prog [(57, cDer), (58, cFA), (59, cFD)] false (fun _ => false) true (fun _ => false)) (mkT_ok (E := E0) (.cons derSpec_ok (.cons faS_ok (.cons fdS_ok .nil)))) (fn := Try.f30) Try.func30 (by kernel_rfl) rfl mixedT (by kernel_rfl) rfl ?_
  intro args p rs ms hr
  unfold cDln at hr
  dsimp only at hr
  split at hr
  rotate_left
  · cases hr
  rename_i n l a b
  simp only [Option.some.injEq, Prod.mk.injEq] at hr
  obtain ⟨rfl, rfl, rfl⟩ := hr
  refine ⟨rfl, rfl, Nat.le_of_ble_eq_true rfl, ?_⟩
  have hm : maxLen = 9223372036854775807 := rfl
  rintro ⟨h1, hn1, hn2⟩ bs
  obtain ⟨ds, rfl, hx⟩ := h1.ex
  clear h1
  rw [unD_dL]
  unfold dlnL
  obtain ⟨f6, fdd⟩ := @drL_facts n ds a b
  (repeat' (first
      | (refine gate_a fun _ => ?_)
      | (refine fork_intro (fun hb => ?_) (fun hb => ?_) <;> (try simp only [ew] at hb))
      | (simp only [go_sem, Nat.reduceLeDiff, Nat.reduceEqDiff, reduceIte, reduceCtorEq, Nat.reduceAdd, Nat.reduceMul, Nat.reduceSub, Nat.reduceLT, Int.reduceLT, Int.reduceLE, Int.reduceNeg, Int.reduceToNat, Nat.reduceBEq, Nat.reduceBNe, Int.reduceGE, Int.reduceGT, *, cDln, cDer, cFA, cFD, Try.results30])))
  generalize hF : drL n ds a b = F at f6 fdd ⊢
  clear hF
  refine loop_intro { ι := Nat, rs := [(19, 53)], mods := [(10, fun i => .one (.d (.v (.int .i64 i)))), (7, fun i => .one (.own 1 (tL ((F.take i).map (lnB ds))) 1))], boxes := [], arrs := [(8, fun _ => (3, d3L F, 1))], ok := fun i => i ≤ F.length, mu := fun i => F.length - i } rfl 0 (Nat.zero_le _) ?_ fun i hi => ?_
  · (repeat' (first
      | (refine gate_a fun _ => ?_)
      | (refine fork_intro (fun hb => ?_) (fun hb => ?_) <;> (try simp only [ew] at hb))
      | (simp only [go_sem, Nat.reduceLeDiff, Nat.reduceEqDiff, reduceIte, reduceCtorEq, Nat.reduceAdd, Nat.reduceMul, Nat.reduceSub, Nat.reduceLT, Int.reduceLT, Int.reduceLE, Int.reduceNeg, Int.reduceToNat, Nat.reduceBEq, Nat.reduceBNe, Int.reduceGE, Int.reduceGT, *, cDln, cDer, cFA, cFD, Try.results30])))
    all_goals first | rfl | skip
  · dsimp only at i hi
    by_cases h5 : i < F.length
    · have e2 : (F.take (i + 1)).map (lnB ds) = (F.take i).map (lnB ds) ++ [lnB ds (F.getD i (0, 0, 0))] := by rw [take_succ_getD h5 (0, 0, 0)]; simp
      obtain ⟨p0, p1⟩ := fdd i h5
      clear fdd
      cases hq : F.getD i (0, 0, 0) with
      | mk q1 q =>
        cases q with
        | mk q2 q3 =>
          rw [hq] at p0 p1 e2
          dsimp only at p0 p1
          obtain ⟨q1, rfl⟩ := Int.eq_ofNat_of_zero_le p0
          have p1 : q1 < ds.length := by omega
          clear p0
          have e3 : lnB ds ((q1 : Int), q2, q3) = (((fa q2 ++ ⟨#[32, 98, 121, 32]⟩) ++ fd (ds.getD q1 (0, 0))) ++ ⟨#[32, 103, 105, 118, 101, 115, 32]⟩) ++ fa q3 := by unfold lnB; dsimp only; rw [Int.toNat_natCast]
          rw [e3] at e2
          clear e3
          have s1 := @fa_size q2
          have s2 := @fa_size q3
          have s3 := @fd_sz (ds.getD q1 (0, 0))
          (repeat' (first
      | (refine gate_a fun _ => ?_)
      | (refine fork_intro (fun hb => ?_) (fun hb => ?_) <;> (try simp only [ew, hq, by_size, gives_size, size_app, List.length_map] at hb))
      | (simp only [go_sem, Nat.reduceLeDiff, Nat.reduceEqDiff, reduceIte, reduceCtorEq, Nat.reduceAdd, Nat.reduceMul, Nat.reduceSub, Nat.reduceLT, Int.reduceLT, Int.reduceLE, Int.reduceNeg, Int.reduceToNat, Nat.reduceBEq, Nat.reduceBNe, Int.reduceGE, Int.reduceGT, *, cDln, cDer, cFA, cFD, Try.results30, hq, by_size, gives_size, size_app, List.length_map])))
          refine loop_next (i + 1) (by dsimp only; omega) (by dsimp only; omega) ?_
          clear s1 s2 s3
          (repeat' (first
      | (refine gate_a fun _ => ?_)
      | (refine fork_intro (fun hb => ?_) (fun hb => ?_) <;> (try simp only [ew, hq, e2] at hb))
      | (simp only [go_sem, Nat.reduceLeDiff, Nat.reduceEqDiff, reduceIte, reduceCtorEq, Nat.reduceAdd, Nat.reduceMul, Nat.reduceSub, Nat.reduceLT, Int.reduceLT, Int.reduceLE, Int.reduceNeg, Int.reduceToNat, Nat.reduceBEq, Nat.reduceBNe, Int.reduceGE, Int.reduceGT, *, cDln, cDer, cFA, cFD, Try.results30, hq, e2])))
    · have e5 : i = F.length := by omega
      subst e5
      have e6 : F.take F.length = F := List.take_length
      clear fdd
      (repeat' (first
      | (refine gate_a fun _ => ?_)
      | (refine fork_intro (fun hb => ?_) (fun hb => ?_) <;> (try simp only [ew, e6] at hb))
      | (simp only [go_sem, Nat.reduceLeDiff, Nat.reduceEqDiff, reduceIte, reduceCtorEq, Nat.reduceAdd, Nat.reduceMul, Nat.reduceSub, Nat.reduceLT, Int.reduceLT, Int.reduceLE, Int.reduceNeg, Int.reduceToNat, Nat.reduceBEq, Nat.reduceBNe, Int.reduceGE, Int.reduceGT, *, cDln, cDer, cFA, cFD, Try.results30, e6])))
      all_goals first | rfl | skip

def cLawNDD : Contract := ⟨[], false, fun
  | [.one (.v (.int .i64 n)), .one (.sl 2 l), .agg [.v (.int .i64 a), .v (.int .i64 b)]] => some (WfD l ∧ -9223372036854775808 ≤ n ∧ n ≤ 9223372036854775807, [⟨false, [.d (.v (.bool true))]⟩], [])
  | _ => none⟩
theorem lawDer_ok : ContractOK E0 6 cLawNDD := by
  refine contract_of_wpc (E := E0) (T := mkT Try.prog [(9, cSzDepS), (12, cToDepS), (31, cTwo), (30, cDln), (32, cDln), (33, cEqT), (16, cEqDepS), (17, cMarkX), (34, cMarkStr), (35, cHeldStr)] false (fun _ => false) true (fun _ => false)) (mkT_ok (E := E0) (.cons szDepS_ok (.cons toDepS_ok (.cons toDep_ok (.cons dlnS_ok (.cons dlnI_ok (.cons eqT_ok (.cons eqDepS_ok (.cons markDS_ok (.cons markStr_ok (.cons heldStr_ok .nil))))))))))) (fn := Try.f6) Try.func6 (by kernel_rfl) rfl mixedT (by kernel_rfl) rfl ?_
  intro args p rs ms hr
  unfold cLawNDD at hr
  dsimp only at hr
  split at hr
  rotate_left
  · cases hr
  rename_i n l a b
  simp only [Option.some.injEq, Prod.mk.injEq] at hr
  obtain ⟨rfl, rfl, rfl⟩ := hr
  refine ⟨rfl, rfl, Nat.le_of_ble_eq_true rfl, ?_⟩
  have hm : maxLen = 9223372036854775807 := rfl
  rintro ⟨h1, hn1, hn2⟩ bs
  obtain ⟨ds, rfl, hx⟩ := h1.ex
  clear h1
  by_cases hs : szN ds.length 1048576 < 0
  · (repeat' (first
      | (refine gate_a fun _ => ?_)
      | (refine fork_intro (fun hb => ?_) (fun hb => ?_) <;> (try simp only [ew] at hb))
      | (simp only [go_sem, Nat.reduceLeDiff, Nat.reduceEqDiff, reduceIte, reduceCtorEq, Nat.reduceAdd, Nat.reduceMul, Nat.reduceSub, Nat.reduceLT, Int.reduceLT, Int.reduceLE, Int.reduceNeg, Int.reduceToNat, Nat.reduceBEq, Nat.reduceBNe, Int.reduceGE, Int.reduceGT, *, cLawNDD, cSzDepS, cToDepS, cTwo, cDln, cEqT, cEqDepS, cMarkX, cMarkStr, cHeldStr, Try.results6])))
    all_goals first | contradiction | skip
  · obtain ⟨f1, f2⟩ := szN_facts (Int.le_refl _) hs
    have z6 := @dln_len n ds a b
    generalize hz : dlnL n ds a b = zs at z6
    have zm : zs.length ≤ maxLen := Nat.le_trans z6 (by decide)
    (repeat' (first
      | (refine gate_intro (by first | omega | ((repeat' (first | apply And.intro | assumption | omega | intro _)); done) | ((repeat' (first | apply And.intro | assumption | omega | intro _)); done) | (simp only [maxLen]; omega) | simp_all | (simp_all [maxLen]; omega)) fun _ => ?_)
      | (refine fork_intro (fun hb => ?_) (fun hb => ?_) <;> (try simp only [ew, hz, tmk_length, heldStr_marks] at hb))
      | (simp only [go_sem, Nat.reduceLeDiff, Nat.reduceEqDiff, reduceIte, reduceCtorEq, Nat.reduceAdd, Nat.reduceMul, Nat.reduceSub, Nat.reduceLT, Int.reduceLT, Int.reduceLE, Int.reduceNeg, Int.reduceToNat, Nat.reduceBEq, Nat.reduceBNe, Int.reduceGE, Int.reduceGT, *, cLawNDD, cSzDepS, cToDepS, cTwo, cDln, cEqT, cEqDepS, cMarkX, cMarkStr, cHeldStr, Try.results6, hz, tmk_length, heldStr_marks])))
    all_goals (exfalso; omega)
end Go.Own
