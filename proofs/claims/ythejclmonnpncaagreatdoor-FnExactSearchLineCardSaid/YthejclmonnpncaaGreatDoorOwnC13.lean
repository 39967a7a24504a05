import Derived.Test.YthejclmonnpncaaGreatDoorOwnC14
import Derived.Test.YthejclmonnpncaaGreatDoorOwnY3
namespace Go.Own
open Go Go.Proofs
set_option linter.unusedSimpArgs false
set_option linter.unusedVariables false
set_option maxRecDepth 20000
set_option maxHeartbeats 2000000

attribute [local go_sem] unD_dL dL_length dL_get dL_set dL_inj wfD_dL scal2 pair_eta unT_tL tL_length tL_snoc wfL_tL

/-! DepLine -/
theorem fd_size {q : Int × Int} : (fd q).size ≤ 11 := by
  have s1 := @fa_size q.1
  have s2 := @fa_size (1 * 2 ^ q.2.toNat)
  unfold fd
  split
  · rw [size_app, size_app, gt_size]; omega
  · exact Nat.zero_le _
theorem jfd_size {xs : List (Int × Int)} : (jb ⟨#[32]⟩ (xs.map fd)).size ≤ xs.length * 12 := by
  have := jb_size (sep := ⟨#[32]⟩) (B := 11) (ss := xs.map fd) (fun s hs => by obtain ⟨x, _, rfl⟩ := List.mem_map.1 hs; exact fd_size)
  rw [List.length_map] at this
  exact this
theorem jfd_take {xs : List (Int × Int)} {i : Nat} : (jb ⟨#[32]⟩ ((xs.take i).map fd)).size ≤ i * 12 := by
  have := @jfd_size (xs.take i)
  rw [List.length_take] at this
  have h2 : min i xs.length * 12 ≤ i * 12 := Nat.mul_le_mul_right _ (Nat.min_le_left _ _)
  omega
def dlL (xs : List (Int × Int)) : ByteArray := if (jb ⟨#[32]⟩ (xs.map fd)).toList == ByteArray.toList ⟨#[]⟩ then ⟨#[110, 111, 110, 101]⟩ else jb ⟨#[32]⟩ (xs.map fd)
def cDL : Contract := ⟨[], false, fun
  | [.one (.sl 2 l)] => some (WfD l ∧ l.length ≤ 1048576, [⟨false, [.d (.v (.string (dlL (unD l))))]⟩], [])
  | _ => none⟩

theorem dlI_ok : ContractOK E0 19 cDL := by
  refine contract_of_wpc (E := E0) (T := mkT Tryz.prog [(37, cFD), (38, cJoin)] false (fun _ => false) true (fun _ => false)) (mkT_ok (E := E0) (.cons fdI_ok (.cons join_ok .nil))) (fn := Tryz.f19) Tryz.func19 (by kernel_rfl) rfl mixedT (by kernel_rfl) rfl ?_
  intro args p rs ms hr
  unfold cDL at hr
  dsimp only at hr
  split at hr
  rotate_left
  · cases hr
  rename_i l
  simp only [Option.some.injEq, Prod.mk.injEq] at hr
  obtain ⟨rfl, rfl, rfl⟩ := hr
  refine ⟨rfl, rfl, Nat.le_of_ble_eq_true rfl, ?_⟩
  have hm : maxLen = 9223372036854775807 := rfl
  rintro ⟨h1, h2⟩ bs
  obtain ⟨xs, rfl, hx⟩ := h1.ex
  clear h1
  rw [dL_length] at h2
  rw [unD_dL]
  (repeat' (first
      | (refine gate_a fun _ => ?_)
      | (refine fork_intro (fun hb => ?_) (fun hb => ?_) <;> (try simp only [ew] at hb))
      | (simp only [go_sem, Nat.reduceLeDiff, Nat.reduceEqDiff, reduceIte, reduceCtorEq, Nat.reduceAdd, Nat.reduceMul, Nat.reduceSub, Nat.reduceLT, Int.reduceLT, Int.reduceLE, Int.reduceNeg, Int.reduceToNat, Nat.reduceBEq, Nat.reduceBNe, Int.reduceGE, Int.reduceGT, *, cDL, cFD, cJoin, Tryz.results19])))
  refine loop_intro { ι := Nat, rs := [(5, 6), (11, 20)], mods := [(10, fun i => .one (.d (.v (.int .i64 i)))), (3, fun i => .one (.own 1 (tL ((xs.take i).map fd)) 1))], boxes := [], arrs := [], ok := fun i => i ≤ xs.length, mu := fun i => xs.length - i } rfl 0 (Nat.zero_le _) ?_ fun i hi => ?_
  · (repeat' (first
      | (refine gate_a fun _ => ?_)
      | (refine fork_intro (fun hb => ?_) (fun hb => ?_) <;> (try simp only [ew] at hb))
      | (simp only [go_sem, Nat.reduceLeDiff, Nat.reduceEqDiff, reduceIte, reduceCtorEq, Nat.reduceAdd, Nat.reduceMul, Nat.reduceSub, Nat.reduceLT, Int.reduceLT, Int.reduceLE, Int.reduceNeg, Int.reduceToNat, Nat.reduceBEq, Nat.reduceBNe, Int.reduceGE, Int.reduceGT, *, cDL, cFD, cJoin, Tryz.results19])))
    all_goals first | rfl | skip
  · dsimp only at i hi
    have hsz := @jfd_size xs
    by_cases h5 : i < xs.length
    · clear hsz
      (repeat' (first
      | (refine gate_a fun _ => ?_)
      | (refine fork_intro (fun hb => ?_) (fun hb => ?_) <;> (try simp only [ew, List.length_map] at hb))
      | (simp only [go_sem, Nat.reduceLeDiff, Nat.reduceEqDiff, reduceIte, reduceCtorEq, Nat.reduceAdd, Nat.reduceMul, Nat.reduceSub, Nat.reduceLT, Int.reduceLT, Int.reduceLE, Int.reduceNeg, Int.reduceToNat, Nat.reduceBEq, Nat.reduceBNe, Int.reduceGE, Int.reduceGT, *, cDL, cFD, cJoin, Tryz.results19, List.length_map])))
      · have e2 : (xs.take (i + 1)).map fd = (xs.take i).map fd ++ [fd (xs.getD i (0, 0))] := by rw [take_succ_getD h5 (0, 0)]; simp
        refine loop_next (i + 1) (by dsimp only; omega) (by dsimp only; omega) ?_
        (repeat' (first
      | (refine gate_a fun _ => ?_)
      | (refine fork_intro (fun hb => ?_) (fun hb => ?_) <;> (try simp only [ew, e2] at hb))
      | (simp only [go_sem, Nat.reduceLeDiff, Nat.reduceEqDiff, reduceIte, reduceCtorEq, Nat.reduceAdd, Nat.reduceMul, Nat.reduceSub, Nat.reduceLT, Int.reduceLT, Int.reduceLE, Int.reduceNeg, Int.reduceToNat, Nat.reduceBEq, Nat.reduceBNe, Int.reduceGE, Int.reduceGT, *, cDL, cFD, cJoin, Tryz.results19, e2])))
    · have e5 : i = xs.length := by omega
      subst e5
      have e6 : xs.take xs.length = xs := List.take_length
      (repeat' (first
      | (refine gate_a fun _ => ?_)
      | (refine fork_intro (fun hb => ?_) (fun hb => ?_) <;> (try simp only [ew, List.length_map, e6] at hb))
      | (simp only [go_sem, Nat.reduceLeDiff, Nat.reduceEqDiff, reduceIte, reduceCtorEq, Nat.reduceAdd, Nat.reduceMul, Nat.reduceSub, Nat.reduceLT, Int.reduceLT, Int.reduceLE, Int.reduceNeg, Int.reduceToNat, Nat.reduceBEq, Nat.reduceBNe, Int.reduceGE, Int.reduceGT, *, cDL, cFD, cJoin, Tryz.results19, List.length_map, e6])))
      · have hq := ‹(jb ⟨#[32]⟩ (xs.map fd)).toList = ByteArray.toList ⟨#[]⟩›
        unfold dlL; rw [if_pos (beq_iff_eq.2 hq)]
      · have hq := ‹¬(jb ⟨#[32]⟩ (xs.map fd)).toList = ByteArray.toList ⟨#[]⟩›
        unfold dlL; rw [if_neg (fun h => hq (beq_iff_eq.1 h))]

theorem dlS_ok : ContractOK E0 13 cDL := by
  refine contract_of_wpc (E := E0) (T := mkT Tryz.prog [(29, cFD)] false (fun _ => false) true (fun _ => false)) (mkT_ok (E := E0) (.cons fdS_ok .nil)) (fn := Tryz.f13) Tryz.func13 (by kernel_rfl) rfl mixedT (by kernel_rfl) rfl ?_
  intro args p rs ms hr
  unfold cDL at hr
  dsimp only at hr
  split at hr
  rotate_left
  · cases hr
  rename_i l
  simp only [Option.some.injEq, Prod.mk.injEq] at hr
  obtain ⟨rfl, rfl, rfl⟩ := hr
  refine ⟨rfl, rfl, Nat.le_of_ble_eq_true rfl, ?_⟩
  have hm : maxLen = 9223372036854775807 := rfl
  rintro ⟨h1, h2⟩ bs
  obtain ⟨xs, rfl, hx⟩ := h1.ex
  clear h1
  rw [dL_length] at h2
  rw [unD_dL]
  (repeat' (first
      | (refine gate_a fun _ => ?_)
      | (refine fork_intro (fun hb => ?_) (fun hb => ?_) <;> (try simp only [ew] at hb))
      | (simp only [go_sem, Nat.reduceLeDiff, Nat.reduceEqDiff, reduceIte, reduceCtorEq, Nat.reduceAdd, Nat.reduceMul, Nat.reduceSub, Nat.reduceLT, Int.reduceLT, Int.reduceLE, Int.reduceNeg, Int.reduceToNat, Nat.reduceBEq, Nat.reduceBNe, Int.reduceGE, Int.reduceGT, *, cDL, cFD, Tryz.results13])))
  refine loop_intro { ι := Nat, rs := [(5, 22)], mods := [(4, fun i => .one (.d (.v (.int .i64 i)))), (3, fun i => .one (.d (.v (.string (jb ⟨#[32]⟩ ((xs.take i).map fd))))))], boxes := [], arrs := [], ok := fun i => i ≤ xs.length, mu := fun i => xs.length - i } rfl 0 (Nat.zero_le _) ?_ fun i hi => ?_
  · (repeat' (first
      | (refine gate_a fun _ => ?_)
      | (refine fork_intro (fun hb => ?_) (fun hb => ?_) <;> (try simp only [ew] at hb))
      | (simp only [go_sem, Nat.reduceLeDiff, Nat.reduceEqDiff, reduceIte, reduceCtorEq, Nat.reduceAdd, Nat.reduceMul, Nat.reduceSub, Nat.reduceLT, Int.reduceLT, Int.reduceLE, Int.reduceNeg, Int.reduceToNat, Nat.reduceBEq, Nat.reduceBNe, Int.reduceGE, Int.reduceGT, *, cDL, cFD, Tryz.results13])))
    all_goals first | rfl | skip
  · dsimp only at i hi
    have hsz := @jfd_take xs i
    have hf := @fd_size (xs.getD i (0, 0))
    by_cases h5 : i < xs.length
    · have hs := jb_step (sep := ⟨#[32]⟩) (f := fd) (d := (0, 0)) h5
      by_cases h0 : i = 0
      · subst h0
        rw [if_pos rfl] at hs
        have e0 : decide ((0 : Int) > 0) = false := by decide
        have z0 : (jb ⟨#[32]⟩ []).size = 0 := rfl
        rw [List.take_zero, List.map_nil] at hs
        rw [Nat.zero_add] at hs
        clear hsz
        (repeat' (first
      | (refine gate_a fun _ => ?_)
      | (refine fork_intro (fun hb => ?_) (fun hb => ?_) <;> (try simp only [ew, e0, sp_size, size_app, z0] at hb))
      | (simp only [go_sem, Nat.reduceLeDiff, Nat.reduceEqDiff, reduceIte, reduceCtorEq, Nat.reduceAdd, Nat.reduceMul, Nat.reduceSub, Nat.reduceLT, Int.reduceLT, Int.reduceLE, Int.reduceNeg, Int.reduceToNat, Nat.reduceBEq, Nat.reduceBNe, Int.reduceGE, Int.reduceGT, *, cDL, cFD, Tryz.results13, e0, sp_size, size_app, z0])))
        · refine loop_next 1 (by dsimp only; omega) (by dsimp only; omega) ?_
          clear hf
          (repeat' (first
      | (refine gate_a fun _ => ?_)
      | (refine fork_intro (fun hb => ?_) (fun hb => ?_) <;> (try simp only [ew, hs] at hb))
      | (simp only [go_sem, Nat.reduceLeDiff, Nat.reduceEqDiff, reduceIte, reduceCtorEq, Nat.reduceAdd, Nat.reduceMul, Nat.reduceSub, Nat.reduceLT, Int.reduceLT, Int.reduceLE, Int.reduceNeg, Int.reduceToNat, Nat.reduceBEq, Nat.reduceBNe, Int.reduceGE, Int.reduceGT, *, cDL, cFD, Tryz.results13, hs])))
          all_goals first | omega | skip
        all_goals (exfalso; omega)
      · rw [if_neg h0] at hs
        have e0 : decide ((i : Int) > 0) = true := decide_eq_true (by omega)
        (repeat' (first
      | (refine gate_a fun _ => ?_)
      | (refine fork_intro (fun hb => ?_) (fun hb => ?_) <;> (try simp only [ew, e0, sp_size, size_app] at hb))
      | (simp only [go_sem, Nat.reduceLeDiff, Nat.reduceEqDiff, reduceIte, reduceCtorEq, Nat.reduceAdd, Nat.reduceMul, Nat.reduceSub, Nat.reduceLT, Int.reduceLT, Int.reduceLE, Int.reduceNeg, Int.reduceToNat, Nat.reduceBEq, Nat.reduceBNe, Int.reduceGE, Int.reduceGT, *, cDL, cFD, Tryz.results13, e0, sp_size, size_app])))
        · refine loop_next (i + 1) (by dsimp only; omega) (by dsimp only; omega) ?_
          clear hsz hf e0
          (repeat' (first
      | (refine gate_a fun _ => ?_)
      | (refine fork_intro (fun hb => ?_) (fun hb => ?_) <;> (try simp only [ew, hs] at hb))
      | (simp only [go_sem, Nat.reduceLeDiff, Nat.reduceEqDiff, reduceIte, reduceCtorEq, Nat.reduceAdd, Nat.reduceMul, Nat.reduceSub, Nat.reduceLT, Int.reduceLT, Int.reduceLE, Int.reduceNeg, Int.reduceToNat, Nat.reduceBEq, Nat.reduceBNe, Int.reduceGE, Int.reduceGT, *, cDL, cFD, Tryz.results13, hs])))
        all_goals (exfalso; omega)
    · have e5 : i = xs.length := by omega
      subst e5
      have e6 : xs.take xs.length = xs := List.take_length
      clear hsz hf
      (repeat' (first
      | (refine gate_a fun _ => ?_)
      | (refine fork_intro (fun hb => ?_) (fun hb => ?_) <;> (try simp only [ew, e6] at hb))
      | (simp only [go_sem, Nat.reduceLeDiff, Nat.reduceEqDiff, reduceIte, reduceCtorEq, Nat.reduceAdd, Nat.reduceMul, Nat.reduceSub, Nat.reduceLT, Int.reduceLT, Int.reduceLE, Int.reduceNeg, Int.reduceToNat, Nat.reduceBEq, Nat.reduceBNe, Int.reduceGE, Int.reduceGT, *, cDL, cFD, Tryz.results13, e6])))
      · have hq := ‹(jb ⟨#[32]⟩ (xs.map fd)).toList = ByteArray.toList ⟨#[]⟩›
        unfold dlL; rw [if_pos (beq_iff_eq.2 hq)]
      · have hq := ‹¬(jb ⟨#[32]⟩ (xs.map fd)).toList = ByteArray.toList ⟨#[]⟩›
        unfold dlL; rw [if_neg (fun h => hq (beq_iff_eq.1 h))]

def cLawDS : Contract := ⟨[], false, fun
  | [.one (.sl 2 l)] => some (WfD l, [⟨false, [.d (.v (.bool true))]⟩], [])
  | _ => none⟩

end Go.Own
