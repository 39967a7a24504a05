import Derived.Test.YtohioponiobalaaOwnE1
import Derived.Test.YtohioponiobalaaOwnC3
import Derived.Test.YtohioponiobalaaOwnC8
namespace Go.Own
open Go Go.Proofs
set_option linter.unusedSimpArgs false
set_option linter.unusedVariables false
set_option maxRecDepth 20000
set_option maxHeartbeats 2000000

attribute [local go_sem] unD_dL dL_length dL_get dL_set dL_inj wfD_dL scal2 beq2 pair_eta

/-! Orders and inclusions: the pairs of columns for which a test holds. -/
def cOrd1 : Contract := ⟨[], false, fun
  | [.one (.v (.int .i64 a)), .one (.v (.int .i64 b)), .ptr [.v (.int .i64 c), .sl 1 t]] => some (WfS t ∧ -9223372036854775808 ≤ c ∧ c ≤ 9223372036854775807, [⟨false, [.d (.v (.bool (ohB c (unS t) a b)))]⟩], [])
  | _ => none⟩
theorem ord1_ok : ContractOK E0 32 cOrd1 := by
  refine contract_of_wpc (E := E0) (T := mkT Try.prog [(7, cOH)] false (fun _ => false) true (fun _ => false)) (mkT_ok (E := E0) (.cons ohI_ok .nil)) (fn := Try.f32) Try.func32 (by kernel_rfl) rfl mixedT (by kernel_rfl) rfl ?_
  intro args p rs ms hr
  unfold cOrd1 at hr
  dsimp only at hr
  split at hr
  rotate_left
  · cases hr
  rename_i a b c t
  simp only [Option.some.injEq, Prod.mk.injEq] at hr
  obtain ⟨rfl, rfl, rfl⟩ := hr
  refine ⟨rfl, rfl, Nat.le_of_ble_eq_true rfl, ?_⟩
  have hm : maxLen = 9223372036854775807 := rfl
  rintro ⟨h1, hc1, hc2⟩ bs
  obtain ⟨rs, rfl, hx, hy⟩ := h1.ex
  clear h1
  rw [unS_sL]
  (repeat' (first
      | (refine gate_a fun _ => ?_)
      | (refine fork_intro (fun hb => ?_) (fun hb => ?_) <;> (try simp only [ew] at hb))
      | (simp only [go_sem, Nat.reduceLeDiff, Nat.reduceEqDiff, reduceIte, reduceCtorEq, Nat.reduceAdd, Nat.reduceMul, Nat.reduceSub, Nat.reduceLT, Int.reduceLT, Int.reduceLE, Int.reduceNeg, Int.reduceToNat, Nat.reduceBEq, Nat.reduceBNe, Int.reduceGE, Int.reduceGT, *, cOrd1, cOH, Try.results32])))
def cInc1 : Contract := ⟨[], false, fun
  | [.one (.v (.int .i64 a)), .one (.v (.int .i64 b)), .ptr [.v (.int .i64 c), .sl 1 t]] => some (WfS t ∧ -9223372036854775808 ≤ c ∧ c ≤ 9223372036854775807, [⟨false, [.d (.v (.bool (hiB c (unS t) a b)))]⟩], [])
  | _ => none⟩
theorem inc1_ok : ContractOK E0 34 cInc1 := by
  refine contract_of_wpc (E := E0) (T := mkT Try.prog [(18, cHI)] false (fun _ => false) true (fun _ => false)) (mkT_ok (E := E0) (.cons hiI_ok .nil)) (fn := Try.f34) Try.func34 (by kernel_rfl) rfl mixedT (by kernel_rfl) rfl ?_
  intro args p rs ms hr
  unfold cInc1 at hr
  dsimp only at hr
  split at hr
  rotate_left
  · cases hr
  rename_i a b c t
  simp only [Option.some.injEq, Prod.mk.injEq] at hr
  obtain ⟨rfl, rfl, rfl⟩ := hr
  refine ⟨rfl, rfl, Nat.le_of_ble_eq_true rfl, ?_⟩
  have hm : maxLen = 9223372036854775807 := rfl
  rintro ⟨h1, hc1, hc2⟩ bs
  obtain ⟨rs, rfl, hx, hy⟩ := h1.ex
  clear h1
  rw [unS_sL]
  (repeat' (first
      | (refine gate_a fun _ => ?_)
      | (refine fork_intro (fun hb => ?_) (fun hb => ?_) <;> (try simp only [ew] at hb))
      | (simp only [go_sem, Nat.reduceLeDiff, Nat.reduceEqDiff, reduceIte, reduceCtorEq, Nat.reduceAdd, Nat.reduceMul, Nat.reduceSub, Nat.reduceLT, Int.reduceLT, Int.reduceLE, Int.reduceNeg, Int.reduceToNat, Nat.reduceBEq, Nat.reduceBNe, Int.reduceGE, Int.reduceGT, *, cInc1, cHI, Try.results34])))

def ptB (f : Nat) (c : Int) (rs : List (List Int)) : Int → Int → Bool := if f = 32 then ohB c rs else hiB c rs
theorem pt_o {c : Int} {rs : List (List Int)} : ptB 32 c rs = ohB c rs := if_pos rfl
theorem pt_i {c : Int} {rs : List (List Int)} : ptB 34 c rs = hiB c rs := if_neg (by decide)
theorem prs_max {p : Int → Int → Bool} {c : Int} {rs : List (List Int)} : (prs p c rs).length ≤ maxLen ∧ (prs p c rs).length ≤ 16777216 := by
  have := @prs_length p c rs
  exact ⟨Nat.le_trans this (by decide), by omega⟩
theorem pr_len {p : Int → Int → Bool} {a b n : Nat} (ha : a < n) (hb : b ≤ n) (hn : n ≤ 5) : (prA p n a ++ prB p a b).length ≤ 30 := by
  have h1 := @prA_length p n a
  have h2 := @prB_length p a b
  have h3 : a * n ≤ 5 * 5 := Nat.mul_le_mul (by omega) hn
  rw [List.length_append]; omega
theorem prA_len {p : Int → Int → Bool} {a n : Nat} (ha : a ≤ n) (hn : n ≤ 5) : (prA p n a).length ≤ 30 := by
  have h1 := @prA_length p n a
  have h3 : a * n ≤ 5 * 5 := Nat.mul_le_mul (by omega) hn
  omega

def cPairs : Contract := ⟨[], false, fun
  | [.agg [.v (.int .i64 c), .sl 1 t], .fnc f [[.v (.int .i64 c2), .sl 1 t2]]] => some (WfS t ∧ -9223372036854775808 ≤ c ∧ c ≤ 9223372036854775807 ∧ c2 = c ∧ t2 = t ∧ (f = 32 ∨ f = 34), [⟨false, [.own 2 (dL (prs (ptB f c (unS t)) c (unS t))) 1]⟩], [])
  | _ => none⟩
theorem pairs_ok : ContractOK E0 31 cPairs := by
  refine contract_of_wpc (E := E0) (T := mkT Try.prog [(44, cIsTableS), (32, cOrd1), (34, cInc1)] false (fun _ => false) true (fun _ => false)) (mkT_ok (E := E0) (.cons isTableI_ok (.cons ord1_ok (.cons inc1_ok .nil)))) (fn := Try.f31) Try.func31 (by kernel_rfl) rfl mixedT (by kernel_rfl) rfl ?_
  intro args p rs ms hr
  unfold cPairs at hr
  dsimp only at hr
  split at hr
  rotate_left
  · cases hr
  rename_i c t f c2 t2
  simp only [Option.some.injEq, Prod.mk.injEq] at hr
  obtain ⟨rfl, rfl, rfl⟩ := hr
  refine ⟨rfl, rfl, Nat.le_of_ble_eq_true rfl, ?_⟩
  have hm : maxLen = 9223372036854775807 := rfl
  rintro ⟨h1, hc1, hc2, rfl, rfl, hf⟩ bs
  obtain ⟨rs, rfl, hx, hy⟩ := h1.ex
  clear h1
  rw [unS_sL]
  cases ht : tabOK c2 rs
  · have e : prs (ptB f c2 rs) c2 rs = [] := by rw [prs, ht]; rfl
    rw [e]
    clear e
    have e0 : dL [] = [] := rfl
    rcases hf with rfl | rfl
    · (repeat' (first
      | (refine gate_a fun _ => ?_)
      | (refine fork_intro (fun hb => ?_) (fun hb => ?_) <;> (try simp only [ew, e0] at hb))
      | (simp only [go_sem, Nat.reduceLeDiff, Nat.reduceEqDiff, reduceIte, reduceCtorEq, Nat.reduceAdd, Nat.reduceMul, Nat.reduceSub, Nat.reduceLT, Int.reduceLT, Int.reduceLE, Int.reduceNeg, Int.reduceToNat, Nat.reduceBEq, Nat.reduceBNe, Int.reduceGE, Int.reduceGT, *, cPairs, cIsTableS, cOrd1, cInc1, Try.results31, e0])))
    · (repeat' (first
      | (refine gate_a fun _ => ?_)
      | (refine fork_intro (fun hb => ?_) (fun hb => ?_) <;> (try simp only [ew, e0] at hb))
      | (simp only [go_sem, Nat.reduceLeDiff, Nat.reduceEqDiff, reduceIte, reduceCtorEq, Nat.reduceAdd, Nat.reduceMul, Nat.reduceSub, Nat.reduceLT, Int.reduceLT, Int.reduceLE, Int.reduceNeg, Int.reduceToNat, Nat.reduceBEq, Nat.reduceBNe, Int.reduceGE, Int.reduceGT, *, cPairs, cIsTableS, cOrd1, cInc1, Try.results31, e0])))
  · obtain ⟨q1, q5⟩ := tab_c ht
    obtain ⟨c, rfl⟩ := Int.eq_ofNat_of_zero_le (show 0 ≤ c2 by omega)
    have q5 : c ≤ 5 := by omega
    have q1 : 1 ≤ c := by omega
    have e : prs (ptB f c rs) c rs = prA (ptB f c rs) c c := by rw [prs, ht, if_pos rfl, Int.toNat_natCast]
    rw [e]
    clear e
    rcases hf with rfl | rfl
    · rw [pt_o]
      (repeat' (first
      | (refine gate_a fun _ => ?_)
      | (refine fork_intro (fun hb => ?_) (fun hb => ?_) <;> (try simp only [ew] at hb))
      | (simp only [go_sem, Nat.reduceLeDiff, Nat.reduceEqDiff, reduceIte, reduceCtorEq, Nat.reduceAdd, Nat.reduceMul, Nat.reduceSub, Nat.reduceLT, Int.reduceLT, Int.reduceLE, Int.reduceNeg, Int.reduceToNat, Nat.reduceBEq, Nat.reduceBNe, Int.reduceGE, Int.reduceGT, *, cPairs, cIsTableS, cOrd1, cInc1, Try.results31])))
      refine loop_intro { ι := Nat, rs := [(7, 8), (13, 40)], mods := [(6, fun a => .one (.d (.v (.int .i64 a)))), (5, fun a => .one (.own 2 (dL (prA (ohB c rs) c a)) 1))], boxes := [(2, fun _ => [.d (.v (.int .i64 c)), .d (.sl 1 (sL rs))])], arrs := [], ok := fun a => a ≤ c, mu := fun a => c - a } rfl 0 (Nat.zero_le _) ?_ fun a ha => ?_
      · (repeat' (first
      | (refine gate_a fun _ => ?_)
      | (refine fork_intro (fun hb => ?_) (fun hb => ?_) <;> (try simp only [ew] at hb))
      | (simp only [go_sem, Nat.reduceLeDiff, Nat.reduceEqDiff, reduceIte, reduceCtorEq, Nat.reduceAdd, Nat.reduceMul, Nat.reduceSub, Nat.reduceLT, Int.reduceLT, Int.reduceLE, Int.reduceNeg, Int.reduceToNat, Nat.reduceBEq, Nat.reduceBNe, Int.reduceGE, Int.reduceGT, *, cPairs, cIsTableS, cOrd1, cInc1, Try.results31])))
        all_goals first | rfl | skip
      · dsimp only at a ha
        by_cases h5 : a < c
        · have l0 := fun b hb => @pr_len (ohB c rs) a b c h5 hb q5
          (repeat' (first
      | (refine gate_a fun _ => ?_)
      | (refine fork_intro (fun hb => ?_) (fun hb => ?_) <;> (try simp only [ew] at hb))
      | (simp only [go_sem, Nat.reduceLeDiff, Nat.reduceEqDiff, reduceIte, reduceCtorEq, Nat.reduceAdd, Nat.reduceMul, Nat.reduceSub, Nat.reduceLT, Int.reduceLT, Int.reduceLE, Int.reduceNeg, Int.reduceToNat, Nat.reduceBEq, Nat.reduceBNe, Int.reduceGE, Int.reduceGT, *, cPairs, cIsTableS, cOrd1, cInc1, Try.results31])))
          refine loop_intro { ι := Nat, rs := [(19, 40)], mods := [(7, fun b => .one (.d (.v (.int .i64 b)))), (5, fun b => .one (.own 2 (dL (prA (ohB c rs) c a ++ prB (ohB c rs) a b)) 1))], boxes := [(2, fun _ => [.d (.v (.int .i64 c)), .d (.sl 1 (sL rs))])], arrs := [], ok := fun b => b ≤ c, mu := fun b => c - b } rfl 0 (Nat.zero_le _) ?_ fun b hb0 => ?_
          · (repeat' (first
      | (refine gate_a fun _ => ?_)
      | (refine fork_intro (fun hb => ?_) (fun hb => ?_) <;> (try simp only [ew] at hb))
      | (simp only [go_sem, Nat.reduceLeDiff, Nat.reduceEqDiff, reduceIte, reduceCtorEq, Nat.reduceAdd, Nat.reduceMul, Nat.reduceSub, Nat.reduceLT, Int.reduceLT, Int.reduceLE, Int.reduceNeg, Int.reduceToNat, Nat.reduceBEq, Nat.reduceBNe, Int.reduceGE, Int.reduceGT, *, cPairs, cIsTableS, cOrd1, cInc1, Try.results31])))
            all_goals first | (simp [prB]; done) | skip
          · dsimp only at b hb0
            have l0 := l0 b hb0
            by_cases h6 : b < c
            · by_cases hab : (a : Int) = b
              · have e1 : ((a : Int) != b) = false := by rw [hab]; simp
                have e2 : prB (ohB c rs) a (b + 1) = prB (ohB c rs) a b := by rw [prB, if_neg (fun h => h.1 hab), List.append_nil]
                clear hab
                (repeat' (first
      | (refine gate_a fun _ => ?_)
      | (refine fork_intro (fun hb => ?_) (fun hb => ?_) <;> (try simp only [ew, e1] at hb))
      | (simp only [go_sem, Nat.reduceLeDiff, Nat.reduceEqDiff, reduceIte, reduceCtorEq, Nat.reduceAdd, Nat.reduceMul, Nat.reduceSub, Nat.reduceLT, Int.reduceLT, Int.reduceLE, Int.reduceNeg, Int.reduceToNat, Nat.reduceBEq, Nat.reduceBNe, Int.reduceGE, Int.reduceGT, *, cPairs, cIsTableS, cOrd1, cInc1, Try.results31, e1])))
                refine loop_next (b + 1) (by dsimp only; omega) (by dsimp only; omega) ?_
                (repeat' (first
      | (refine gate_a fun _ => ?_)
      | (refine fork_intro (fun hb => ?_) (fun hb => ?_) <;> (try simp only [ew, e2] at hb))
      | (simp only [go_sem, Nat.reduceLeDiff, Nat.reduceEqDiff, reduceIte, reduceCtorEq, Nat.reduceAdd, Nat.reduceMul, Nat.reduceSub, Nat.reduceLT, Int.reduceLT, Int.reduceLE, Int.reduceNeg, Int.reduceToNat, Nat.reduceBEq, Nat.reduceBNe, Int.reduceGE, Int.reduceGT, *, cPairs, cIsTableS, cOrd1, cInc1, Try.results31, e2])))
              · have e1 : ((a : Int) != b) = true := by rw [bne_iff_ne]; exact hab
                cases hp : ohB c rs a b
                · have e2 : prB (ohB c rs) a (b + 1) = prB (ohB c rs) a b := by rw [prB, if_neg (fun h => by rw [hp] at h; cases h.2), List.append_nil]
                  clear hab
                  (repeat' (first
      | (refine gate_a fun _ => ?_)
      | (refine fork_intro (fun hb => ?_) (fun hb => ?_) <;> (try simp only [ew, e1] at hb))
      | (simp only [go_sem, Nat.reduceLeDiff, Nat.reduceEqDiff, reduceIte, reduceCtorEq, Nat.reduceAdd, Nat.reduceMul, Nat.reduceSub, Nat.reduceLT, Int.reduceLT, Int.reduceLE, Int.reduceNeg, Int.reduceToNat, Nat.reduceBEq, Nat.reduceBNe, Int.reduceGE, Int.reduceGT, *, cPairs, cIsTableS, cOrd1, cInc1, Try.results31, e1])))
                  refine loop_next (b + 1) (by dsimp only; omega) (by dsimp only; omega) ?_
                  (repeat' (first
      | (refine gate_a fun _ => ?_)
      | (refine fork_intro (fun hb => ?_) (fun hb => ?_) <;> (try simp only [ew, e2] at hb))
      | (simp only [go_sem, Nat.reduceLeDiff, Nat.reduceEqDiff, reduceIte, reduceCtorEq, Nat.reduceAdd, Nat.reduceMul, Nat.reduceSub, Nat.reduceLT, Int.reduceLT, Int.reduceLE, Int.reduceNeg, Int.reduceToNat, Nat.reduceBEq, Nat.reduceBNe, Int.reduceGE, Int.reduceGT, *, cPairs, cIsTableS, cOrd1, cInc1, Try.results31, e2])))
                · have e2 : prA (ohB c rs) c a ++ prB (ohB c rs) a (b + 1) = prA (ohB c rs) c a ++ prB (ohB c rs) a b ++ [((a : Int), (b : Int))] := by rw [prB, if_pos ⟨hab, hp⟩, List.append_assoc]
                  clear hab
                  generalize hz : prA (ohB c rs) c a ++ prB (ohB c rs) a b = zs at l0 e2
                  (repeat' (first
      | (refine gate_a fun _ => ?_)
      | (refine fork_intro (fun hb => ?_) (fun hb => ?_) <;> (try simp only [ew, e1, hz, dL_snoc] at hb))
      | (simp only [go_sem, Nat.reduceLeDiff, Nat.reduceEqDiff, reduceIte, reduceCtorEq, Nat.reduceAdd, Nat.reduceMul, Nat.reduceSub, Nat.reduceLT, Int.reduceLT, Int.reduceLE, Int.reduceNeg, Int.reduceToNat, Nat.reduceBEq, Nat.reduceBNe, Int.reduceGE, Int.reduceGT, *, cPairs, cIsTableS, cOrd1, cInc1, Try.results31, e1, hz, dL_snoc])))
                  refine loop_next (b + 1) (by dsimp only; omega) (by dsimp only; omega) ?_
                  (repeat' (first
      | (refine gate_a fun _ => ?_)
      | (refine fork_intro (fun hb => ?_) (fun hb => ?_) <;> (try simp only [ew, e2, dL_snoc] at hb))
      | (simp only [go_sem, Nat.reduceLeDiff, Nat.reduceEqDiff, reduceIte, reduceCtorEq, Nat.reduceAdd, Nat.reduceMul, Nat.reduceSub, Nat.reduceLT, Int.reduceLT, Int.reduceLE, Int.reduceNeg, Int.reduceToNat, Nat.reduceBEq, Nat.reduceBNe, Int.reduceGE, Int.reduceGT, *, cPairs, cIsTableS, cOrd1, cInc1, Try.results31, e2, dL_snoc])))
            · have e6 : b = c := by omega
              subst e6
              (repeat' (first
      | (refine gate_a fun _ => ?_)
      | (refine fork_intro (fun hb => ?_) (fun hb => ?_) <;> (try simp only [ew] at hb))
      | (simp only [go_sem, Nat.reduceLeDiff, Nat.reduceEqDiff, reduceIte, reduceCtorEq, Nat.reduceAdd, Nat.reduceMul, Nat.reduceSub, Nat.reduceLT, Int.reduceLT, Int.reduceLE, Int.reduceNeg, Int.reduceToNat, Nat.reduceBEq, Nat.reduceBNe, Int.reduceGE, Int.reduceGT, *, cPairs, cIsTableS, cOrd1, cInc1, Try.results31])))
              have e2 : prA (ohB b rs) b a ++ prB (ohB b rs) a b = prA (ohB b rs) b (a + 1) := rfl
              refine loop_next (a + 1) (by dsimp only; omega) (by dsimp only; omega) ?_
              (repeat' (first
      | (refine gate_a fun _ => ?_)
      | (refine fork_intro (fun hb => ?_) (fun hb => ?_) <;> (try simp only [ew, e2] at hb))
      | (simp only [go_sem, Nat.reduceLeDiff, Nat.reduceEqDiff, reduceIte, reduceCtorEq, Nat.reduceAdd, Nat.reduceMul, Nat.reduceSub, Nat.reduceLT, Int.reduceLT, Int.reduceLE, Int.reduceNeg, Int.reduceToNat, Nat.reduceBEq, Nat.reduceBNe, Int.reduceGE, Int.reduceGT, *, cPairs, cIsTableS, cOrd1, cInc1, Try.results31, e2])))
        · have e5 : a = c := by omega
          subst e5
          (repeat' (first
      | (refine gate_a fun _ => ?_)
      | (refine fork_intro (fun hb => ?_) (fun hb => ?_) <;> (try simp only [ew] at hb))
      | (simp only [go_sem, Nat.reduceLeDiff, Nat.reduceEqDiff, reduceIte, reduceCtorEq, Nat.reduceAdd, Nat.reduceMul, Nat.reduceSub, Nat.reduceLT, Int.reduceLT, Int.reduceLE, Int.reduceNeg, Int.reduceToNat, Nat.reduceBEq, Nat.reduceBNe, Int.reduceGE, Int.reduceGT, *, cPairs, cIsTableS, cOrd1, cInc1, Try.results31])))
    · rw [pt_i]
      (repeat' (first
      | (refine gate_a fun _ => ?_)
      | (refine fork_intro (fun hb => ?_) (fun hb => ?_) <;> (try simp only [ew] at hb))
      | (simp only [go_sem, Nat.reduceLeDiff, Nat.reduceEqDiff, reduceIte, reduceCtorEq, Nat.reduceAdd, Nat.reduceMul, Nat.reduceSub, Nat.reduceLT, Int.reduceLT, Int.reduceLE, Int.reduceNeg, Int.reduceToNat, Nat.reduceBEq, Nat.reduceBNe, Int.reduceGE, Int.reduceGT, *, cPairs, cIsTableS, cOrd1, cInc1, Try.results31])))
      refine loop_intro { ι := Nat, rs := [(7, 8), (13, 40)], mods := [(6, fun a => .one (.d (.v (.int .i64 a)))), (5, fun a => .one (.own 2 (dL (prA (hiB c rs) c a)) 1))], boxes := [(2, fun _ => [.d (.v (.int .i64 c)), .d (.sl 1 (sL rs))])], arrs := [], ok := fun a => a ≤ c, mu := fun a => c - a } rfl 0 (Nat.zero_le _) ?_ fun a ha => ?_
      · (repeat' (first
      | (refine gate_a fun _ => ?_)
      | (refine fork_intro (fun hb => ?_) (fun hb => ?_) <;> (try simp only [ew] at hb))
      | (simp only [go_sem, Nat.reduceLeDiff, Nat.reduceEqDiff, reduceIte, reduceCtorEq, Nat.reduceAdd, Nat.reduceMul, Nat.reduceSub, Nat.reduceLT, Int.reduceLT, Int.reduceLE, Int.reduceNeg, Int.reduceToNat, Nat.reduceBEq, Nat.reduceBNe, Int.reduceGE, Int.reduceGT, *, cPairs, cIsTableS, cOrd1, cInc1, Try.results31])))
        all_goals first | rfl | skip
      · dsimp only at a ha
        by_cases h5 : a < c
        · have l0 := fun b hb => @pr_len (hiB c rs) a b c h5 hb q5
          (repeat' (first
      | (refine gate_a fun _ => ?_)
      | (refine fork_intro (fun hb => ?_) (fun hb => ?_) <;> (try simp only [ew] at hb))
      | (simp only [go_sem, Nat.reduceLeDiff, Nat.reduceEqDiff, reduceIte, reduceCtorEq, Nat.reduceAdd, Nat.reduceMul, Nat.reduceSub, Nat.reduceLT, Int.reduceLT, Int.reduceLE, Int.reduceNeg, Int.reduceToNat, Nat.reduceBEq, Nat.reduceBNe, Int.reduceGE, Int.reduceGT, *, cPairs, cIsTableS, cOrd1, cInc1, Try.results31])))
          refine loop_intro { ι := Nat, rs := [(19, 40)], mods := [(7, fun b => .one (.d (.v (.int .i64 b)))), (5, fun b => .one (.own 2 (dL (prA (hiB c rs) c a ++ prB (hiB c rs) a b)) 1))], boxes := [(2, fun _ => [.d (.v (.int .i64 c)), .d (.sl 1 (sL rs))])], arrs := [], ok := fun b => b ≤ c, mu := fun b => c - b } rfl 0 (Nat.zero_le _) ?_ fun b hb0 => ?_
          · (repeat' (first
      | (refine gate_a fun _ => ?_)
      | (refine fork_intro (fun hb => ?_) (fun hb => ?_) <;> (try simp only [ew] at hb))
      | (simp only [go_sem, Nat.reduceLeDiff, Nat.reduceEqDiff, reduceIte, reduceCtorEq, Nat.reduceAdd, Nat.reduceMul, Nat.reduceSub, Nat.reduceLT, Int.reduceLT, Int.reduceLE, Int.reduceNeg, Int.reduceToNat, Nat.reduceBEq, Nat.reduceBNe, Int.reduceGE, Int.reduceGT, *, cPairs, cIsTableS, cOrd1, cInc1, Try.results31])))
            all_goals first | (simp [prB]; done) | skip
          · dsimp only at b hb0
            have l0 := l0 b hb0
            by_cases h6 : b < c
            · by_cases hab : (a : Int) = b
              · have e1 : ((a : Int) != b) = false := by rw [hab]; simp
                have e2 : prB (hiB c rs) a (b + 1) = prB (hiB c rs) a b := by rw [prB, if_neg (fun h => h.1 hab), List.append_nil]
                clear hab
                (repeat' (first
      | (refine gate_a fun _ => ?_)
      | (refine fork_intro (fun hb => ?_) (fun hb => ?_) <;> (try simp only [ew, e1] at hb))
      | (simp only [go_sem, Nat.reduceLeDiff, Nat.reduceEqDiff, reduceIte, reduceCtorEq, Nat.reduceAdd, Nat.reduceMul, Nat.reduceSub, Nat.reduceLT, Int.reduceLT, Int.reduceLE, Int.reduceNeg, Int.reduceToNat, Nat.reduceBEq, Nat.reduceBNe, Int.reduceGE, Int.reduceGT, *, cPairs, cIsTableS, cOrd1, cInc1, Try.results31, e1])))
                refine loop_next (b + 1) (by dsimp only; omega) (by dsimp only; omega) ?_
                (repeat' (first
      | (refine gate_a fun _ => ?_)
      | (refine fork_intro (fun hb => ?_) (fun hb => ?_) <;> (try simp only [ew, e2] at hb))
      | (simp only [go_sem, Nat.reduceLeDiff, Nat.reduceEqDiff, reduceIte, reduceCtorEq, Nat.reduceAdd, Nat.reduceMul, Nat.reduceSub, Nat.reduceLT, Int.reduceLT, Int.reduceLE, Int.reduceNeg, Int.reduceToNat, Nat.reduceBEq, Nat.reduceBNe, Int.reduceGE, Int.reduceGT, *, cPairs, cIsTableS, cOrd1, cInc1, Try.results31, e2])))
              · have e1 : ((a : Int) != b) = true := by rw [bne_iff_ne]; exact hab
                cases hp : hiB c rs a b
                · have e2 : prB (hiB c rs) a (b + 1) = prB (hiB c rs) a b := by rw [prB, if_neg (fun h => by rw [hp] at h; cases h.2), List.append_nil]
                  clear hab
                  (repeat' (first
      | (refine gate_a fun _ => ?_)
      | (refine fork_intro (fun hb => ?_) (fun hb => ?_) <;> (try simp only [ew, e1] at hb))
      | (simp only [go_sem, Nat.reduceLeDiff, Nat.reduceEqDiff, reduceIte, reduceCtorEq, Nat.reduceAdd, Nat.reduceMul, Nat.reduceSub, Nat.reduceLT, Int.reduceLT, Int.reduceLE, Int.reduceNeg, Int.reduceToNat, Nat.reduceBEq, Nat.reduceBNe, Int.reduceGE, Int.reduceGT, *, cPairs, cIsTableS, cOrd1, cInc1, Try.results31, e1])))
                  refine loop_next (b + 1) (by dsimp only; omega) (by dsimp only; omega) ?_
                  (repeat' (first
      | (refine gate_a fun _ => ?_)
      | (refine fork_intro (fun hb => ?_) (fun hb => ?_) <;> (try simp only [ew, e2] at hb))
      | (simp only [go_sem, Nat.reduceLeDiff, Nat.reduceEqDiff, reduceIte, reduceCtorEq, Nat.reduceAdd, Nat.reduceMul, Nat.reduceSub, Nat.reduceLT, Int.reduceLT, Int.reduceLE, Int.reduceNeg, Int.reduceToNat, Nat.reduceBEq, Nat.reduceBNe, Int.reduceGE, Int.reduceGT, *, cPairs, cIsTableS, cOrd1, cInc1, Try.results31, e2])))
                · have e2 : prA (hiB c rs) c a ++ prB (hiB c rs) a (b + 1) = prA (hiB c rs) c a ++ prB (hiB c rs) a b ++ [((a : Int), (b : Int))] := by rw [prB, if_pos ⟨hab, hp⟩, List.append_assoc]
                  clear hab
                  generalize hz : prA (hiB c rs) c a ++ prB (hiB c rs) a b = zs at l0 e2
                  (repeat' (first
      | (refine gate_a fun _ => ?_)
      | (refine fork_intro (fun hb => ?_) (fun hb => ?_) <;> (try simp only [ew, e1, hz, dL_snoc] at hb))
      | (simp only [go_sem, Nat.reduceLeDiff, Nat.reduceEqDiff, reduceIte, reduceCtorEq, Nat.reduceAdd, Nat.reduceMul, Nat.reduceSub, Nat.reduceLT, Int.reduceLT, Int.reduceLE, Int.reduceNeg, Int.reduceToNat, Nat.reduceBEq, Nat.reduceBNe, Int.reduceGE, Int.reduceGT, *, cPairs, cIsTableS, cOrd1, cInc1, Try.results31, e1, hz, dL_snoc])))
                  refine loop_next (b + 1) (by dsimp only; omega) (by dsimp only; omega) ?_
                  (repeat' (first
      | (refine gate_a fun _ => ?_)
      | (refine fork_intro (fun hb => ?_) (fun hb => ?_) <;> (try simp only [ew, e2, dL_snoc] at hb))
      | (simp only [go_sem, Nat.reduceLeDiff, Nat.reduceEqDiff, reduceIte, reduceCtorEq, Nat.reduceAdd, Nat.reduceMul, Nat.reduceSub, Nat.reduceLT, Int.reduceLT, Int.reduceLE, Int.reduceNeg, Int.reduceToNat, Nat.reduceBEq, Nat.reduceBNe, Int.reduceGE, Int.reduceGT, *, cPairs, cIsTableS, cOrd1, cInc1, Try.results31, e2, dL_snoc])))
            · have e6 : b = c := by omega
              subst e6
              (repeat' (first
      | (refine gate_a fun _ => ?_)
      | (refine fork_intro (fun hb => ?_) (fun hb => ?_) <;> (try simp only [ew] at hb))
      | (simp only [go_sem, Nat.reduceLeDiff, Nat.reduceEqDiff, reduceIte, reduceCtorEq, Nat.reduceAdd, Nat.reduceMul, Nat.reduceSub, Nat.reduceLT, Int.reduceLT, Int.reduceLE, Int.reduceNeg, Int.reduceToNat, Nat.reduceBEq, Nat.reduceBNe, Int.reduceGE, Int.reduceGT, *, cPairs, cIsTableS, cOrd1, cInc1, Try.results31])))
              have e2 : prA (hiB b rs) b a ++ prB (hiB b rs) a b = prA (hiB b rs) b (a + 1) := rfl
              refine loop_next (a + 1) (by dsimp only; omega) (by dsimp only; omega) ?_
              (repeat' (first
      | (refine gate_a fun _ => ?_)
      | (refine fork_intro (fun hb => ?_) (fun hb => ?_) <;> (try simp only [ew, e2] at hb))
      | (simp only [go_sem, Nat.reduceLeDiff, Nat.reduceEqDiff, reduceIte, reduceCtorEq, Nat.reduceAdd, Nat.reduceMul, Nat.reduceSub, Nat.reduceLT, Int.reduceLT, Int.reduceLE, Int.reduceNeg, Int.reduceToNat, Nat.reduceBEq, Nat.reduceBNe, Int.reduceGE, Int.reduceGT, *, cPairs, cIsTableS, cOrd1, cInc1, Try.results31, e2])))
        · have e5 : a = c := by omega
          subst e5
          (repeat' (first
      | (refine gate_a fun _ => ?_)
      | (refine fork_intro (fun hb => ?_) (fun hb => ?_) <;> (try simp only [ew] at hb))
      | (simp only [go_sem, Nat.reduceLeDiff, Nat.reduceEqDiff, reduceIte, reduceCtorEq, Nat.reduceAdd, Nat.reduceMul, Nat.reduceSub, Nat.reduceLT, Int.reduceLT, Int.reduceLE, Int.reduceNeg, Int.reduceToNat, Nat.reduceBEq, Nat.reduceBNe, Int.reduceGE, Int.reduceGT, *, cPairs, cIsTableS, cOrd1, cInc1, Try.results31])))

def cOrders : Contract := ⟨[], false, fun
  | [.agg [.v (.int .i64 c), .sl 1 t]] => some (WfS t ∧ -9223372036854775808 ≤ c ∧ c ≤ 9223372036854775807, [⟨false, [.own 2 (dL (prs (ohB c (unS t)) c (unS t))) 1]⟩], [])
  | _ => none⟩
def cIncs : Contract := ⟨[], false, fun
  | [.agg [.v (.int .i64 c), .sl 1 t]] => some (WfS t ∧ -9223372036854775808 ≤ c ∧ c ≤ 9223372036854775807, [⟨false, [.own 2 (dL (prs (hiB c (unS t)) c (unS t))) 1]⟩], [])
  | _ => none⟩
theorem ordersI_ok : ContractOK E0 12 cOrders := by
  refine contract_of_wpc (E := E0) (T := mkT Try.prog [(31, cPairs)] false (fun _ => false) true (fun _ => false)) (mkT_ok (E := E0) (.cons pairs_ok .nil)) (fn := Try.f12) Try.func12 (by kernel_rfl) rfl mixedT (by kernel_rfl) rfl ?_
  intro args p rs ms hr
  unfold cOrders at hr
  dsimp only at hr
  split at hr
  rotate_left
  · cases hr
  rename_i c t
  simp only [Option.some.injEq, Prod.mk.injEq] at hr
  obtain ⟨rfl, rfl, rfl⟩ := hr
  refine ⟨rfl, rfl, Nat.le_of_ble_eq_true rfl, ?_⟩
  have hm : maxLen = 9223372036854775807 := rfl
  rintro ⟨h1, hc1, hc2⟩ bs
  obtain ⟨rs, rfl, hx, hy⟩ := h1.ex
  clear h1
  rw [unS_sL]
  (repeat' (first
      | (refine gate_a fun _ => ?_)
      | (refine fork_intro (fun hb => ?_) (fun hb => ?_) <;> (try simp only [ew, pt_o] at hb))
      | (simp only [go_sem, Nat.reduceLeDiff, Nat.reduceEqDiff, reduceIte, reduceCtorEq, Nat.reduceAdd, Nat.reduceMul, Nat.reduceSub, Nat.reduceLT, Int.reduceLT, Int.reduceLE, Int.reduceNeg, Int.reduceToNat, Nat.reduceBEq, Nat.reduceBNe, Int.reduceGE, Int.reduceGT, *, cOrders, cPairs, Try.results12, pt_o])))
theorem incsI_ok : ContractOK E0 16 cIncs := by
  refine contract_of_wpc (E := E0) (T := mkT Try.prog [(31, cPairs)] false (fun _ => false) true (fun _ => false)) (mkT_ok (E := E0) (.cons pairs_ok .nil)) (fn := Try.f16) Try.func16 (by kernel_rfl) rfl mixedT (by kernel_rfl) rfl ?_
  intro args p rs ms hr
  unfold cIncs at hr
  dsimp only at hr
  split at hr
  rotate_left
  · cases hr
  rename_i c t
  simp only [Option.some.injEq, Prod.mk.injEq] at hr
  obtain ⟨rfl, rfl, rfl⟩ := hr
  refine ⟨rfl, rfl, Nat.le_of_ble_eq_true rfl, ?_⟩
  have hm : maxLen = 9223372036854775807 := rfl
  rintro ⟨h1, hc1, hc2⟩ bs
  obtain ⟨rs, rfl, hx, hy⟩ := h1.ex
  clear h1
  rw [unS_sL]
  (repeat' (first
      | (refine gate_a fun _ => ?_)
      | (refine fork_intro (fun hb => ?_) (fun hb => ?_) <;> (try simp only [ew, pt_i] at hb))
      | (simp only [go_sem, Nat.reduceLeDiff, Nat.reduceEqDiff, reduceIte, reduceCtorEq, Nat.reduceAdd, Nat.reduceMul, Nat.reduceSub, Nat.reduceLT, Int.reduceLT, Int.reduceLE, Int.reduceNeg, Int.reduceToNat, Nat.reduceBEq, Nat.reduceBNe, Int.reduceGE, Int.reduceGT, *, cIncs, cPairs, Try.results16, pt_i])))
end Go.Own
