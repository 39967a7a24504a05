import Derived.Test.YtohioponiobalaaOwnE4
import Derived.Test.YtohioponiobalaaOwnC3
import Derived.Test.YtohioponiobalaaOwnC8
namespace Go.Own
open Go Go.Proofs
set_option linter.unusedSimpArgs false
set_option linter.unusedVariables false
set_option maxRecDepth 20000
set_option maxHeartbeats 2000000

attribute [local go_sem] unD_dL dL_length dL_get dL_set dL_inj wfD_dL scal2 beq2 pair_eta

theorem ordersS_ok : ContractOK E0 14 cOrders := by
  refine contract_of_wpc (E := E0) (T := mkT Try.prog [(33, cIsTableS), (10, cOH)] false (fun _ => false) true (fun _ => false)) (mkT_ok (E := E0) (.cons isTableS_ok (.cons ohS_ok .nil))) (fn := Try.f14) Try.func14 (by kernel_rfl) rfl mixedT (by kernel_rfl) rfl ?_
  intro args p rs ms hr
  unfold cOrders at hr
  dsimp only at hr
  split at hr
  rotate_left
  · cases hr
  rename_i c t
  simp only [Option.some.injEq, Prod.mk.injEq] at hr
  obtain ⟨rfl, rfl, rfl⟩ := hr
  refine ⟨rfl, rfl, Nat.le_of_ble_eq_true rfl, ?_⟩
  have hm : maxLen = 9223372036854775807 := rfl
  rintro ⟨h1, hc1, hc2⟩ bs
  obtain ⟨rs, rfl, hx, hy⟩ := h1.ex
  clear h1
  rw [unS_sL]
  cases ht : tabOK c rs
  · have e : prs (ohB c rs) c rs = [] := by rw [prs, ht]; rfl
    rw [e]
    clear e
    have e0 : dL [] = [] := rfl
    (repeat' (first
      | (refine gate_a fun _ => ?_)
      | (refine fork_intro (fun hb => ?_) (fun hb => ?_) <;> (try simp only [ew, e0] at hb))
      | (simp only [go_sem, Nat.reduceLeDiff, Nat.reduceEqDiff, reduceIte, reduceCtorEq, Nat.reduceAdd, Nat.reduceMul, Nat.reduceSub, Nat.reduceLT, Int.reduceLT, Int.reduceLE, Int.reduceNeg, Int.reduceToNat, Nat.reduceBEq, Nat.reduceBNe, Int.reduceGE, Int.reduceGT, *, cOrders, cIsTableS, cOH, Try.results14, e0])))
    refine loop_intro { ι := Unit, rs := [(5, 6), (7, 38)], mods := [(4, fun _ => .one (.d (.v (.int .i64 0)))), (3, fun _ => .one (.own 2 ([]) 1))], boxes := [(1, fun _ => [.d (.v (.int .i64 c)), .d (.sl 1 (sL rs))])], arrs := [], ok := fun _ => True, mu := fun _ => 0 } rfl () trivial ?_ fun _ _ => ?_
    · (repeat' (first
      | (refine gate_a fun _ => ?_)
      | (refine fork_intro (fun hb => ?_) (fun hb => ?_) <;> (try simp only [ew, e0] at hb))
      | (simp only [go_sem, Nat.reduceLeDiff, Nat.reduceEqDiff, reduceIte, reduceCtorEq, Nat.reduceAdd, Nat.reduceMul, Nat.reduceSub, Nat.reduceLT, Int.reduceLT, Int.reduceLE, Int.reduceNeg, Int.reduceToNat, Nat.reduceBEq, Nat.reduceBNe, Int.reduceGE, Int.reduceGT, *, cOrders, cIsTableS, cOH, Try.results14, e0])))
    · (repeat' (first
      | (refine gate_a fun _ => ?_)
      | (refine fork_intro (fun hb => ?_) (fun hb => ?_) <;> (try simp only [ew, e0] at hb))
      | (simp only [go_sem, Nat.reduceLeDiff, Nat.reduceEqDiff, reduceIte, reduceCtorEq, Nat.reduceAdd, Nat.reduceMul, Nat.reduceSub, Nat.reduceLT, Int.reduceLT, Int.reduceLE, Int.reduceNeg, Int.reduceToNat, Nat.reduceBEq, Nat.reduceBNe, Int.reduceGE, Int.reduceGT, *, cOrders, cIsTableS, cOH, Try.results14, e0])))
  · obtain ⟨q1, q5⟩ := tab_c ht
    obtain ⟨c, rfl⟩ := Int.eq_ofNat_of_zero_le (show 0 ≤ c by omega)
    have q5 : c ≤ 5 := by omega
    have q1 : 1 ≤ c := by omega
    have e : prs (ohB c rs) c rs = prA (ohB c rs) c c := by rw [prs, ht, if_pos rfl, Int.toNat_natCast]
    rw [e]
    clear e
    (repeat' (first
      | (refine gate_a fun _ => ?_)
      | (refine fork_intro (fun hb => ?_) (fun hb => ?_) <;> (try simp only [ew] at hb))
      | (simp only [go_sem, Nat.reduceLeDiff, Nat.reduceEqDiff, reduceIte, reduceCtorEq, Nat.reduceAdd, Nat.reduceMul, Nat.reduceSub, Nat.reduceLT, Int.reduceLT, Int.reduceLE, Int.reduceNeg, Int.reduceToNat, Nat.reduceBEq, Nat.reduceBNe, Int.reduceGE, Int.reduceGT, *, cOrders, cIsTableS, cOH, Try.results14])))
    refine loop_intro { ι := Nat, rs := [(5, 6), (7, 38)], mods := [(4, fun a => .one (.d (.v (.int .i64 a)))), (3, fun a => .one (.own 2 (dL (prA (ohB c rs) c a)) 1))], boxes := [(1, fun _ => [.d (.v (.int .i64 c)), .d (.sl 1 (sL rs))])], arrs := [], ok := fun a => a ≤ c, mu := fun a => c - a } rfl 0 (Nat.zero_le _) ?_ fun a ha => ?_
    · (repeat' (first
      | (refine gate_a fun _ => ?_)
      | (refine fork_intro (fun hb => ?_) (fun hb => ?_) <;> (try simp only [ew] at hb))
      | (simp only [go_sem, Nat.reduceLeDiff, Nat.reduceEqDiff, reduceIte, reduceCtorEq, Nat.reduceAdd, Nat.reduceMul, Nat.reduceSub, Nat.reduceLT, Int.reduceLT, Int.reduceLE, Int.reduceNeg, Int.reduceToNat, Nat.reduceBEq, Nat.reduceBNe, Int.reduceGE, Int.reduceGT, *, cOrders, cIsTableS, cOH, Try.results14])))
      all_goals first | rfl | skip
    · dsimp only at a ha
      by_cases h5 : a < c
      · have l0 := fun b hb => @pr_len (ohB c rs) a b c h5 hb q5
        (repeat' (first
      | (refine gate_a fun _ => ?_)
      | (refine fork_intro (fun hb => ?_) (fun hb => ?_) <;> (try simp only [ew] at hb))
      | (simp only [go_sem, Nat.reduceLeDiff, Nat.reduceEqDiff, reduceIte, reduceCtorEq, Nat.reduceAdd, Nat.reduceMul, Nat.reduceSub, Nat.reduceLT, Int.reduceLT, Int.reduceLE, Int.reduceNeg, Int.reduceToNat, Nat.reduceBEq, Nat.reduceBNe, Int.reduceGE, Int.reduceGT, *, cOrders, cIsTableS, cOH, Try.results14])))
        refine loop_intro { ι := Nat, rs := [(17, 38)], mods := [(5, fun b => .one (.d (.v (.int .i64 b)))), (3, fun b => .one (.own 2 (dL (prA (ohB c rs) c a ++ prB (ohB c rs) a b)) 1))], boxes := [(1, fun _ => [.d (.v (.int .i64 c)), .d (.sl 1 (sL rs))])], arrs := [], ok := fun b => b ≤ c, mu := fun b => c - b } rfl 0 (Nat.zero_le _) ?_ fun b hb0 => ?_
        · (repeat' (first
      | (refine gate_a fun _ => ?_)
      | (refine fork_intro (fun hb => ?_) (fun hb => ?_) <;> (try simp only [ew] at hb))
      | (simp only [go_sem, Nat.reduceLeDiff, Nat.reduceEqDiff, reduceIte, reduceCtorEq, Nat.reduceAdd, Nat.reduceMul, Nat.reduceSub, Nat.reduceLT, Int.reduceLT, Int.reduceLE, Int.reduceNeg, Int.reduceToNat, Nat.reduceBEq, Nat.reduceBNe, Int.reduceGE, Int.reduceGT, *, cOrders, cIsTableS, cOH, Try.results14])))
          all_goals first | (simp [prB]; done) | skip
        · dsimp only at b hb0
          have l0 := l0 b hb0
          by_cases h6 : b < c
          · by_cases hab : (a : Int) = b
            · have e1 : ((a : Int) != b) = false := by rw [hab]; simp
              have e2 : prB (ohB c rs) a (b + 1) = prB (ohB c rs) a b := by rw [prB, if_neg (fun h => h.1 hab), List.append_nil]
              clear hab
              (repeat' (first
      | (refine gate_a fun _ => ?_)
      | (refine fork_intro (fun hb => ?_) (fun hb => ?_) <;> (try simp only [ew, e1] at hb))
      | (simp only [go_sem, Nat.reduceLeDiff, Nat.reduceEqDiff, reduceIte, reduceCtorEq, Nat.reduceAdd, Nat.reduceMul, Nat.reduceSub, Nat.reduceLT, Int.reduceLT, Int.reduceLE, Int.reduceNeg, Int.reduceToNat, Nat.reduceBEq, Nat.reduceBNe, Int.reduceGE, Int.reduceGT, *, cOrders, cIsTableS, cOH, Try.results14, e1])))
              refine loop_next (b + 1) (by dsimp only; omega) (by dsimp only; omega) ?_
              (repeat' (first
      | (refine gate_a fun _ => ?_)
      | (refine fork_intro (fun hb => ?_) (fun hb => ?_) <;> (try simp only [ew, e2] at hb))
      | (simp only [go_sem, Nat.reduceLeDiff, Nat.reduceEqDiff, reduceIte, reduceCtorEq, Nat.reduceAdd, Nat.reduceMul, Nat.reduceSub, Nat.reduceLT, Int.reduceLT, Int.reduceLE, Int.reduceNeg, Int.reduceToNat, Nat.reduceBEq, Nat.reduceBNe, Int.reduceGE, Int.reduceGT, *, cOrders, cIsTableS, cOH, Try.results14, e2])))
            · have e1 : ((a : Int) != b) = true := by rw [bne_iff_ne]; exact hab
              cases hp : ohB c rs a b
              · have e2 : prB (ohB c rs) a (b + 1) = prB (ohB c rs) a b := by rw [prB, if_neg (fun h => by rw [hp] at h; cases h.2), List.append_nil]
                clear hab
                (repeat' (first
      | (refine gate_a fun _ => ?_)
      | (refine fork_intro (fun hb => ?_) (fun hb => ?_) <;> (try simp only [ew, e1] at hb))
      | (simp only [go_sem, Nat.reduceLeDiff, Nat.reduceEqDiff, reduceIte, reduceCtorEq, Nat.reduceAdd, Nat.reduceMul, Nat.reduceSub, Nat.reduceLT, Int.reduceLT, Int.reduceLE, Int.reduceNeg, Int.reduceToNat, Nat.reduceBEq, Nat.reduceBNe, Int.reduceGE, Int.reduceGT, *, cOrders, cIsTableS, cOH, Try.results14, e1])))
                refine loop_next (b + 1) (by dsimp only; omega) (by dsimp only; omega) ?_
                (repeat' (first
      | (refine gate_a fun _ => ?_)
      | (refine fork_intro (fun hb => ?_) (fun hb => ?_) <;> (try simp only [ew, e2] at hb))
      | (simp only [go_sem, Nat.reduceLeDiff, Nat.reduceEqDiff, reduceIte, reduceCtorEq, Nat.reduceAdd, Nat.reduceMul, Nat.reduceSub, Nat.reduceLT, Int.reduceLT, Int.reduceLE, Int.reduceNeg, Int.reduceToNat, Nat.reduceBEq, Nat.reduceBNe, Int.reduceGE, Int.reduceGT, *, cOrders, cIsTableS, cOH, Try.results14, e2])))
              · have e2 : prA (ohB c rs) c a ++ prB (ohB c rs) a (b + 1) = prA (ohB c rs) c a ++ prB (ohB c rs) a b ++ [((a : Int), (b : Int))] := by rw [prB, if_pos ⟨hab, hp⟩, List.append_assoc]
                clear hab
                generalize hz : prA (ohB c rs) c a ++ prB (ohB c rs) a b = zs at l0 e2
                (repeat' (first
      | (refine gate_a fun _ => ?_)
      | (refine fork_intro (fun hb => ?_) (fun hb => ?_) <;> (try simp only [ew, e1, hz, dL_snoc] at hb))
      | (simp only [go_sem, Nat.reduceLeDiff, Nat.reduceEqDiff, reduceIte, reduceCtorEq, Nat.reduceAdd, Nat.reduceMul, Nat.reduceSub, Nat.reduceLT, Int.reduceLT, Int.reduceLE, Int.reduceNeg, Int.reduceToNat, Nat.reduceBEq, Nat.reduceBNe, Int.reduceGE, Int.reduceGT, *, cOrders, cIsTableS, cOH, Try.results14, e1, hz, dL_snoc])))
                refine loop_next (b + 1) (by dsimp only; omega) (by dsimp only; omega) ?_
                (repeat' (first
      | (refine gate_a fun _ => ?_)
      | (refine fork_intro (fun hb => ?_) (fun hb => ?_) <;> (try simp only [ew, e2, dL_snoc] at hb))
      | (simp only [go_sem, Nat.reduceLeDiff, Nat.reduceEqDiff, reduceIte, reduceCtorEq, Nat.reduceAdd, Nat.reduceMul, Nat.reduceSub, Nat.reduceLT, Int.reduceLT, Int.reduceLE, Int.reduceNeg, Int.reduceToNat, Nat.reduceBEq, Nat.reduceBNe, Int.reduceGE, Int.reduceGT, *, cOrders, cIsTableS, cOH, Try.results14, e2, dL_snoc])))
          · have e6 : b = c := by omega
            subst e6
            (repeat' (first
      | (refine gate_a fun _ => ?_)
      | (refine fork_intro (fun hb => ?_) (fun hb => ?_) <;> (try simp only [ew] at hb))
      | (simp only [go_sem, Nat.reduceLeDiff, Nat.reduceEqDiff, reduceIte, reduceCtorEq, Nat.reduceAdd, Nat.reduceMul, Nat.reduceSub, Nat.reduceLT, Int.reduceLT, Int.reduceLE, Int.reduceNeg, Int.reduceToNat, Nat.reduceBEq, Nat.reduceBNe, Int.reduceGE, Int.reduceGT, *, cOrders, cIsTableS, cOH, Try.results14])))
            have e2 : prA (ohB b rs) b a ++ prB (ohB b rs) a b = prA (ohB b rs) b (a + 1) := rfl
            refine loop_next (a + 1) (by dsimp only; omega) (by dsimp only; omega) ?_
            (repeat' (first
      | (refine gate_a fun _ => ?_)
      | (refine fork_intro (fun hb => ?_) (fun hb => ?_) <;> (try simp only [ew, e2] at hb))
      | (simp only [go_sem, Nat.reduceLeDiff, Nat.reduceEqDiff, reduceIte, reduceCtorEq, Nat.reduceAdd, Nat.reduceMul, Nat.reduceSub, Nat.reduceLT, Int.reduceLT, Int.reduceLE, Int.reduceNeg, Int.reduceToNat, Nat.reduceBEq, Nat.reduceBNe, Int.reduceGE, Int.reduceGT, *, cOrders, cIsTableS, cOH, Try.results14, e2])))
      · have e5 : a = c := by omega
        subst e5
        (repeat' (first
      | (refine gate_a fun _ => ?_)
      | (refine fork_intro (fun hb => ?_) (fun hb => ?_) <;> (try simp only [ew] at hb))
      | (simp only [go_sem, Nat.reduceLeDiff, Nat.reduceEqDiff, reduceIte, reduceCtorEq, Nat.reduceAdd, Nat.reduceMul, Nat.reduceSub, Nat.reduceLT, Int.reduceLT, Int.reduceLE, Int.reduceNeg, Int.reduceToNat, Nat.reduceBEq, Nat.reduceBNe, Int.reduceGE, Int.reduceGT, *, cOrders, cIsTableS, cOH, Try.results14])))

theorem incsS_ok : ContractOK E0 17 cIncs := by
  refine contract_of_wpc (E := E0) (T := mkT Try.prog [(33, cIsTableS), (24, cHI)] false (fun _ => false) true (fun _ => false)) (mkT_ok (E := E0) (.cons isTableS_ok (.cons hiS_ok .nil))) (fn := Try.f17) Try.func17 (by kernel_rfl) rfl mixedT (by kernel_rfl) rfl ?_
  intro args p rs ms hr
  unfold cIncs at hr
  dsimp only at hr
  split at hr
  rotate_left
  · cases hr
  rename_i c t
  simp only [Option.some.injEq, Prod.mk.injEq] at hr
  obtain ⟨rfl, rfl, rfl⟩ := hr
  refine ⟨rfl, rfl, Nat.le_of_ble_eq_true rfl, ?_⟩
  have hm : maxLen = 9223372036854775807 := rfl
  rintro ⟨h1, hc1, hc2⟩ bs
  obtain ⟨rs, rfl, hx, hy⟩ := h1.ex
  clear h1
  rw [unS_sL]
  cases ht : tabOK c rs
  · have e : prs (hiB c rs) c rs = [] := by rw [prs, ht]; rfl
    rw [e]
    clear e
    have e0 : dL [] = [] := rfl
    (repeat' (first
      | (refine gate_a fun _ => ?_)
      | (refine fork_intro (fun hb => ?_) (fun hb => ?_) <;> (try simp only [ew, e0] at hb))
      | (simp only [go_sem, Nat.reduceLeDiff, Nat.reduceEqDiff, reduceIte, reduceCtorEq, Nat.reduceAdd, Nat.reduceMul, Nat.reduceSub, Nat.reduceLT, Int.reduceLT, Int.reduceLE, Int.reduceNeg, Int.reduceToNat, Nat.reduceBEq, Nat.reduceBNe, Int.reduceGE, Int.reduceGT, *, cIncs, cIsTableS, cHI, Try.results17, e0])))
    refine loop_intro { ι := Unit, rs := [(5, 7), (8, 39)], mods := [(4, fun _ => .one (.d (.v (.int .i64 0)))), (3, fun _ => .one (.own 2 ([]) 1))], boxes := [(1, fun _ => [.d (.v (.int .i64 c)), .d (.sl 1 (sL rs))])], arrs := [], ok := fun _ => True, mu := fun _ => 0 } rfl () trivial ?_ fun _ _ => ?_
    · (repeat' (first
      | (refine gate_a fun _ => ?_)
      | (refine fork_intro (fun hb => ?_) (fun hb => ?_) <;> (try simp only [ew, e0] at hb))
      | (simp only [go_sem, Nat.reduceLeDiff, Nat.reduceEqDiff, reduceIte, reduceCtorEq, Nat.reduceAdd, Nat.reduceMul, Nat.reduceSub, Nat.reduceLT, Int.reduceLT, Int.reduceLE, Int.reduceNeg, Int.reduceToNat, Nat.reduceBEq, Nat.reduceBNe, Int.reduceGE, Int.reduceGT, *, cIncs, cIsTableS, cHI, Try.results17, e0])))
    · (repeat' (first
      | (refine gate_a fun _ => ?_)
      | (refine fork_intro (fun hb => ?_) (fun hb => ?_) <;> (try simp only [ew, e0] at hb))
      | (simp only [go_sem, Nat.reduceLeDiff, Nat.reduceEqDiff, reduceIte, reduceCtorEq, Nat.reduceAdd, Nat.reduceMul, Nat.reduceSub, Nat.reduceLT, Int.reduceLT, Int.reduceLE, Int.reduceNeg, Int.reduceToNat, Nat.reduceBEq, Nat.reduceBNe, Int.reduceGE, Int.reduceGT, *, cIncs, cIsTableS, cHI, Try.results17, e0])))
  · obtain ⟨q1, q5⟩ := tab_c ht
    obtain ⟨c, rfl⟩ := Int.eq_ofNat_of_zero_le (show 0 ≤ c by omega)
    have q5 : c ≤ 5 := by omega
    have q1 : 1 ≤ c := by omega
    have e : prs (hiB c rs) c rs = prA (hiB c rs) c c := by rw [prs, ht, if_pos rfl, Int.toNat_natCast]
    rw [e]
    clear e
    (repeat' (first
      | (refine gate_a fun _ => ?_)
      | (refine fork_intro (fun hb => ?_) (fun hb => ?_) <;> (try simp only [ew] at hb))
      | (simp only [go_sem, Nat.reduceLeDiff, Nat.reduceEqDiff, reduceIte, reduceCtorEq, Nat.reduceAdd, Nat.reduceMul, Nat.reduceSub, Nat.reduceLT, Int.reduceLT, Int.reduceLE, Int.reduceNeg, Int.reduceToNat, Nat.reduceBEq, Nat.reduceBNe, Int.reduceGE, Int.reduceGT, *, cIncs, cIsTableS, cHI, Try.results17])))
    refine loop_intro { ι := Nat, rs := [(5, 7), (8, 39)], mods := [(4, fun a => .one (.d (.v (.int .i64 a)))), (3, fun a => .one (.own 2 (dL (prA (hiB c rs) c a)) 1))], boxes := [(1, fun _ => [.d (.v (.int .i64 c)), .d (.sl 1 (sL rs))])], arrs := [], ok := fun a => a ≤ c, mu := fun a => c - a } rfl 0 (Nat.zero_le _) ?_ fun a ha => ?_
    · (repeat' (first
      | (refine gate_a fun _ => ?_)
      | (refine fork_intro (fun hb => ?_) (fun hb => ?_) <;> (try simp only [ew] at hb))
      | (simp only [go_sem, Nat.reduceLeDiff, Nat.reduceEqDiff, reduceIte, reduceCtorEq, Nat.reduceAdd, Nat.reduceMul, Nat.reduceSub, Nat.reduceLT, Int.reduceLT, Int.reduceLE, Int.reduceNeg, Int.reduceToNat, Nat.reduceBEq, Nat.reduceBNe, Int.reduceGE, Int.reduceGT, *, cIncs, cIsTableS, cHI, Try.results17])))
      all_goals first | rfl | skip
    · dsimp only at a ha
      by_cases h5 : a < c
      · have l0 := fun b hb => @pr_len (hiB c rs) a b c h5 hb q5
        (repeat' (first
      | (refine gate_a fun _ => ?_)
      | (refine fork_intro (fun hb => ?_) (fun hb => ?_) <;> (try simp only [ew] at hb))
      | (simp only [go_sem, Nat.reduceLeDiff, Nat.reduceEqDiff, reduceIte, reduceCtorEq, Nat.reduceAdd, Nat.reduceMul, Nat.reduceSub, Nat.reduceLT, Int.reduceLT, Int.reduceLE, Int.reduceNeg, Int.reduceToNat, Nat.reduceBEq, Nat.reduceBNe, Int.reduceGE, Int.reduceGT, *, cIncs, cIsTableS, cHI, Try.results17])))
        refine loop_intro { ι := Nat, rs := [(6, 7), (18, 39)], mods := [(5, fun b => .one (.d (.v (.int .i64 b)))), (3, fun b => .one (.own 2 (dL (prA (hiB c rs) c a ++ prB (hiB c rs) a b)) 1))], boxes := [(1, fun _ => [.d (.v (.int .i64 c)), .d (.sl 1 (sL rs))])], arrs := [], ok := fun b => b ≤ c, mu := fun b => c - b } rfl 0 (Nat.zero_le _) ?_ fun b hb0 => ?_
        · (repeat' (first
      | (refine gate_a fun _ => ?_)
      | (refine fork_intro (fun hb => ?_) (fun hb => ?_) <;> (try simp only [ew] at hb))
      | (simp only [go_sem, Nat.reduceLeDiff, Nat.reduceEqDiff, reduceIte, reduceCtorEq, Nat.reduceAdd, Nat.reduceMul, Nat.reduceSub, Nat.reduceLT, Int.reduceLT, Int.reduceLE, Int.reduceNeg, Int.reduceToNat, Nat.reduceBEq, Nat.reduceBNe, Int.reduceGE, Int.reduceGT, *, cIncs, cIsTableS, cHI, Try.results17])))
          all_goals first | (simp [prB]; done) | skip
        · dsimp only at b hb0
          have l0 := l0 b hb0
          by_cases h6 : b < c
          · by_cases hab : (a : Int) = b
            · have e1 : ((a : Int) != b) = false := by rw [hab]; simp
              have e2 : prB (hiB c rs) a (b + 1) = prB (hiB c rs) a b := by rw [prB, if_neg (fun h => h.1 hab), List.append_nil]
              clear hab
              (repeat' (first
      | (refine gate_a fun _ => ?_)
      | (refine fork_intro (fun hb => ?_) (fun hb => ?_) <;> (try simp only [ew, e1] at hb))
      | (simp only [go_sem, Nat.reduceLeDiff, Nat.reduceEqDiff, reduceIte, reduceCtorEq, Nat.reduceAdd, Nat.reduceMul, Nat.reduceSub, Nat.reduceLT, Int.reduceLT, Int.reduceLE, Int.reduceNeg, Int.reduceToNat, Nat.reduceBEq, Nat.reduceBNe, Int.reduceGE, Int.reduceGT, *, cIncs, cIsTableS, cHI, Try.results17, e1])))
              refine loop_next (b + 1) (by dsimp only; omega) (by dsimp only; omega) ?_
              (repeat' (first
      | (refine gate_a fun _ => ?_)
      | (refine fork_intro (fun hb => ?_) (fun hb => ?_) <;> (try simp only [ew, e2] at hb))
      | (simp only [go_sem, Nat.reduceLeDiff, Nat.reduceEqDiff, reduceIte, reduceCtorEq, Nat.reduceAdd, Nat.reduceMul, Nat.reduceSub, Nat.reduceLT, Int.reduceLT, Int.reduceLE, Int.reduceNeg, Int.reduceToNat, Nat.reduceBEq, Nat.reduceBNe, Int.reduceGE, Int.reduceGT, *, cIncs, cIsTableS, cHI, Try.results17, e2])))
            · have e1 : ((a : Int) != b) = true := by rw [bne_iff_ne]; exact hab
              cases hp : hiB c rs a b
              · have e2 : prB (hiB c rs) a (b + 1) = prB (hiB c rs) a b := by rw [prB, if_neg (fun h => by rw [hp] at h; cases h.2), List.append_nil]
                clear hab
                (repeat' (first
      | (refine gate_a fun _ => ?_)
      | (refine fork_intro (fun hb => ?_) (fun hb => ?_) <;> (try simp only [ew, e1] at hb))
      | (simp only [go_sem, Nat.reduceLeDiff, Nat.reduceEqDiff, reduceIte, reduceCtorEq, Nat.reduceAdd, Nat.reduceMul, Nat.reduceSub, Nat.reduceLT, Int.reduceLT, Int.reduceLE, Int.reduceNeg, Int.reduceToNat, Nat.reduceBEq, Nat.reduceBNe, Int.reduceGE, Int.reduceGT, *, cIncs, cIsTableS, cHI, Try.results17, e1])))
                refine loop_next (b + 1) (by dsimp only; omega) (by dsimp only; omega) ?_
                (repeat' (first
      | (refine gate_a fun _ => ?_)
      | (refine fork_intro (fun hb => ?_) (fun hb => ?_) <;> (try simp only [ew, e2] at hb))
      | (simp only [go_sem, Nat.reduceLeDiff, Nat.reduceEqDiff, reduceIte, reduceCtorEq, Nat.reduceAdd, Nat.reduceMul, Nat.reduceSub, Nat.reduceLT, Int.reduceLT, Int.reduceLE, Int.reduceNeg, Int.reduceToNat, Nat.reduceBEq, Nat.reduceBNe, Int.reduceGE, Int.reduceGT, *, cIncs, cIsTableS, cHI, Try.results17, e2])))
              · have e2 : prA (hiB c rs) c a ++ prB (hiB c rs) a (b + 1) = prA (hiB c rs) c a ++ prB (hiB c rs) a b ++ [((a : Int), (b : Int))] := by rw [prB, if_pos ⟨hab, hp⟩, List.append_assoc]
                clear hab
                generalize hz : prA (hiB c rs) c a ++ prB (hiB c rs) a b = zs at l0 e2
                (repeat' (first
      | (refine gate_a fun _ => ?_)
      | (refine fork_intro (fun hb => ?_) (fun hb => ?_) <;> (try simp only [ew, e1, hz, dL_snoc] at hb))
      | (simp only [go_sem, Nat.reduceLeDiff, Nat.reduceEqDiff, reduceIte, reduceCtorEq, Nat.reduceAdd, Nat.reduceMul, Nat.reduceSub, Nat.reduceLT, Int.reduceLT, Int.reduceLE, Int.reduceNeg, Int.reduceToNat, Nat.reduceBEq, Nat.reduceBNe, Int.reduceGE, Int.reduceGT, *, cIncs, cIsTableS, cHI, Try.results17, e1, hz, dL_snoc])))
                refine loop_next (b + 1) (by dsimp only; omega) (by dsimp only; omega) ?_
                (repeat' (first
      | (refine gate_a fun _ => ?_)
      | (refine fork_intro (fun hb => ?_) (fun hb => ?_) <;> (try simp only [ew, e2, dL_snoc] at hb))
      | (simp only [go_sem, Nat.reduceLeDiff, Nat.reduceEqDiff, reduceIte, reduceCtorEq, Nat.reduceAdd, Nat.reduceMul, Nat.reduceSub, Nat.reduceLT, Int.reduceLT, Int.reduceLE, Int.reduceNeg, Int.reduceToNat, Nat.reduceBEq, Nat.reduceBNe, Int.reduceGE, Int.reduceGT, *, cIncs, cIsTableS, cHI, Try.results17, e2, dL_snoc])))
          · have e6 : b = c := by omega
            subst e6
            (repeat' (first
      | (refine gate_a fun _ => ?_)
      | (refine fork_intro (fun hb => ?_) (fun hb => ?_) <;> (try simp only [ew] at hb))
      | (simp only [go_sem, Nat.reduceLeDiff, Nat.reduceEqDiff, reduceIte, reduceCtorEq, Nat.reduceAdd, Nat.reduceMul, Nat.reduceSub, Nat.reduceLT, Int.reduceLT, Int.reduceLE, Int.reduceNeg, Int.reduceToNat, Nat.reduceBEq, Nat.reduceBNe, Int.reduceGE, Int.reduceGT, *, cIncs, cIsTableS, cHI, Try.results17])))
            have e2 : prA (hiB b rs) b a ++ prB (hiB b rs) a b = prA (hiB b rs) b (a + 1) := rfl
            refine loop_next (a + 1) (by dsimp only; omega) (by dsimp only; omega) ?_
            (repeat' (first
      | (refine gate_a fun _ => ?_)
      | (refine fork_intro (fun hb => ?_) (fun hb => ?_) <;> (try simp only [ew, e2] at hb))
      | (simp only [go_sem, Nat.reduceLeDiff, Nat.reduceEqDiff, reduceIte, reduceCtorEq, Nat.reduceAdd, Nat.reduceMul, Nat.reduceSub, Nat.reduceLT, Int.reduceLT, Int.reduceLE, Int.reduceNeg, Int.reduceToNat, Nat.reduceBEq, Nat.reduceBNe, Int.reduceGE, Int.reduceGT, *, cIncs, cIsTableS, cHI, Try.results17, e2])))
      · have e5 : a = c := by omega
        subst e5
        (repeat' (first
      | (refine gate_a fun _ => ?_)
      | (refine fork_intro (fun hb => ?_) (fun hb => ?_) <;> (try simp only [ew] at hb))
      | (simp only [go_sem, Nat.reduceLeDiff, Nat.reduceEqDiff, reduceIte, reduceCtorEq, Nat.reduceAdd, Nat.reduceMul, Nat.reduceSub, Nat.reduceLT, Int.reduceLT, Int.reduceLE, Int.reduceNeg, Int.reduceToNat, Nat.reduceBEq, Nat.reduceBNe, Int.reduceGE, Int.reduceGT, *, cIncs, cIsTableS, cHI, Try.results17])))

end Go.Own
