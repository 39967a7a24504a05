import Derived.Test.YtnjijpgnfjghfaaGreatOwnG9
import Derived.Test.YtnjijpgnfjghfaaGreatOwnG10
namespace Go.Own
open Go Go.Proofs
set_option linter.unusedSimpArgs false
set_option linter.unusedVariables false
set_option maxRecDepth 20000
set_option maxHeartbeats 2000000

attribute [local go_sem] unD_dL dL_length dL_get dL_set dL_inj wfD_dL scal2 beq2 pair_eta

/-- minimalDeps, whatever the test: a function that has captured two variables. -/
def cMinG (f : Nat) (c1 c2 : List D) (p : Int → Int → Bool) (n : Int) : Contract := ⟨[], false, fun
  | [.one (.v (.int .i64 m)), .fnc g [d1, d2]] => some (m = n ∧ g = f ∧ d1 = c1 ∧ d2 = c2, [⟨false, [.own 2 (dL (minDs p n)) 1]⟩], [])
  | _ => none⟩
theorem minG2 {f : Nat} {F : List Arg → Option (Prop × List RV × List Arg)} {c1 c2 : List D} {p : Int → Int → Bool} {pre : Int → Int → Prop} (hf : ContractOK E0 f ⟨[], false, F⟩)
    (hF : ∀ a b, F [.agg [.v (.int .i64 a), .v (.int .i64 b)], .ptr c1, .ptr c2] = some (pre a b, [⟨false, [.d (.v (.bool (p a b)))]⟩], [])) (hpre : ∀ a b : Int, (0 ≤ a ∧ a ≤ 31) → (0 ≤ b ∧ b ≤ 4) → pre a b)
    (g1 : (f = 82) = False) (g2 : (f = 107) = False) (g3 : (f = 123) = False) {n : Int} (hn : 0 ≤ n ∧ n ≤ 5) :
    ContractOK E0 92 (cMinG f c1 c2 p n) := by
  refine contract_of_wpc (E := E0) (T := mkT Tryz.prog [(f, ⟨[], false, F⟩), (123, cPbs), (82, cHasB), (107, cHasPart)] false (fun _ => false) true (fun _ => false)) (mkT_ok (E := E0) (.cons hf (.cons pbsI_ok (.cons hasB_ok (.cons hasPart_ok .nil))))) (fn := Tryz.f92) Tryz.func92 (by kernel_rfl) rfl mixedT (by kernel_rfl) rfl ?_
  intro args p rs ms hr
  unfold cMinG at hr
  dsimp only at hr
  split at hr
  rotate_left
  · cases hr
  rename_i m g d1 d2
  simp only [Option.some.injEq, Prod.mk.injEq] at hr
  obtain ⟨rfl, rfl, rfl⟩ := hr
  refine ⟨rfl, rfl, Nat.le_of_ble_eq_true rfl, ?_⟩
  have hm : maxLen = 9223372036854775807 := rfl
  rintro ⟨rfl, rfl, rfl, rfl⟩ bs
  obtain ⟨n0, n5⟩ := hn
  obtain ⟨c, rfl⟩ := Int.eq_ofNat_of_zero_le n0
  unfold minDs
  rw [Int.toNat_natCast]
  obtain ⟨P1, P2, P3⟩ := @pbsI_facts c
  have P1' : (pbsI c).length ≤ maxLen := Nat.le_trans P1 (by decide)
  (repeat' (first
      | (refine gate_a fun _ => ?_)
      | (refine fork_intro (fun hb => ?_) (fun hb => ?_) <;> (try simp only [ew] at hb))
      | (simp only [go_sem, Nat.reduceLeDiff, Nat.reduceEqDiff, reduceIte, reduceCtorEq, Nat.reduceAdd, Nat.reduceMul, Nat.reduceSub, Nat.reduceLT, Int.reduceLT, Int.reduceLE, Int.reduceNeg, Int.reduceToNat, Nat.reduceBEq, Nat.reduceBNe, Int.reduceGE, Int.reduceGT, *, cMinG, cPbs, cHasB, cHasPart, Tryz.results92])))
  refine loop_intro { ι := Nat, rs := [(7, 8), (9, 10), (11, 52)], mods := [(6, fun r => .one (.d (.v (.int .i64 r)))), (5, fun r => .one (.own 2 (dL (minT p c r)) 1))], boxes := [], arrs := [], ok := fun r => r ≤ c, mu := fun r => c - r } rfl 0 (Nat.zero_le _) ?_ fun r hr => ?_
  · (repeat' (first
      | (refine gate_a fun _ => ?_)
      | (refine fork_intro (fun hb => ?_) (fun hb => ?_) <;> (try simp only [ew] at hb))
      | (simp only [go_sem, Nat.reduceLeDiff, Nat.reduceEqDiff, reduceIte, reduceCtorEq, Nat.reduceAdd, Nat.reduceMul, Nat.reduceSub, Nat.reduceLT, Int.reduceLT, Int.reduceLE, Int.reduceNeg, Int.reduceToNat, Nat.reduceBEq, Nat.reduceBNe, Int.reduceGE, Int.reduceGT, *, cMinG, cPbs, cHasB, cHasPart, Tryz.results92])))
    all_goals first | rfl | skip
  · dsimp only at r hr
    by_cases h5 : r < c
    · have hr5 : r < 5 := by omega
      have l0 := @minT_length p c r
      have l1 : (minT p c r).length ≤ 256 := by omega
      clear l0
      (repeat' (first
      | (refine gate_a fun _ => ?_)
      | (refine fork_intro (fun hb => ?_) (fun hb => ?_) <;> (try simp only [ew] at hb))
      | (simp only [go_sem, Nat.reduceLeDiff, Nat.reduceEqDiff, reduceIte, reduceCtorEq, Nat.reduceAdd, Nat.reduceMul, Nat.reduceSub, Nat.reduceLT, Int.reduceLT, Int.reduceLE, Int.reduceNeg, Int.reduceToNat, Nat.reduceBEq, Nat.reduceBNe, Int.reduceGE, Int.reduceGT, *, cMinG, cPbs, cHasB, cHasPart, Tryz.results92])))
      refine loop_intro { ι := Nat × List Int, rs := [(9, 10), (21, 52)], mods := [(20, fun i => .one (.d (.v (.int .i64 i.1)))), (7, fun i => .one (.own 1 (iL i.2) 1)), (5, fun i => .one (.own 2 (dL (minT p c r ++ i.2.map fun x => (x, (r : Int)))) 1))], boxes := [], arrs := [(18, fun _ => (1, iL (pbsI c), 1))], ok := fun i => pdI p c r i.1 i.2, mu := fun i => (pbsI c).length - i.1 } rfl (0, []) pdI_start ?_ ?_
      · have e1 : minT p c r ++ ([] : List Int).map (fun x => (x, (r : Int))) = minT p c r := by simp
        (repeat' (first
      | (refine gate_a fun _ => ?_)
      | (refine fork_intro (fun hb => ?_) (fun hb => ?_) <;> (try simp only [ew, e1] at hb))
      | (simp only [go_sem, Nat.reduceLeDiff, Nat.reduceEqDiff, reduceIte, reduceCtorEq, Nat.reduceAdd, Nat.reduceMul, Nat.reduceSub, Nat.reduceLT, Int.reduceLT, Int.reduceLE, Int.reduceNeg, Int.reduceToNat, Nat.reduceBEq, Nat.reduceBNe, Int.reduceGE, Int.reduceGT, *, cMinG, cPbs, cHasB, cHasPart, Tryz.results92, e1])))
        all_goals first | rfl | skip
      · rintro ⟨i, tk⟩ hi
        dsimp only at hi
        have hi1 := hi.1
        obtain ⟨a1, a2⟩ := acc_len hr5 hi
        have a3 : tk.length ≤ maxLen := Nat.le_trans a2 (by decide)
        by_cases h6 : i < (pbsI c).length
        · obtain ⟨x0, x31⟩ := P3 i h6
          have hsk := pdI_skip hi h6
          have htak := pdI_take hi h6
          generalize hX : (pbsI c).getD i 0 = x at x0 x31 hsk htak
          have hpr := hpre x (r : Nat) ⟨x0, x31⟩ ⟨by omega, by omega⟩
          have eT := @acc_snoc (minT p c r) tk x r
          clear hi
          generalize hA : minT p c r ++ tk.map (fun x => (x, (r : Int))) = acc at a1 eT
          cases hg : (!hasB x (r : Nat) && !anyIn tk x && p x (r : Nat))
          · have hsk := hsk hg
            clear htak eT
            (repeat' (first
      | (refine gate_a fun _ => ?_)
      | (refine fork_intro (fun hb => ?_) (fun hb => ?_) <;> (try simp only [ew, hX, hA, hg, hF] at hb))
      | (simp only [go_sem, Nat.reduceLeDiff, Nat.reduceEqDiff, reduceIte, reduceCtorEq, Nat.reduceAdd, Nat.reduceMul, Nat.reduceSub, Nat.reduceLT, Int.reduceLT, Int.reduceLE, Int.reduceNeg, Int.reduceToNat, Nat.reduceBEq, Nat.reduceBNe, Int.reduceGE, Int.reduceGT, *, cMinG, cPbs, cHasB, cHasPart, Tryz.results92, hX, hA, hg, hF])))
            refine loop_next (i + 1, tk) hsk (by dsimp only; omega) ?_
            clear hsk
            (repeat' (first
      | (refine gate_a fun _ => ?_)
      | (refine fork_intro (fun hb => ?_) (fun hb => ?_) <;> (try simp only [ew, hA] at hb))
      | (simp only [go_sem, Nat.reduceLeDiff, Nat.reduceEqDiff, reduceIte, reduceCtorEq, Nat.reduceAdd, Nat.reduceMul, Nat.reduceSub, Nat.reduceLT, Int.reduceLT, Int.reduceLE, Int.reduceNeg, Int.reduceToNat, Nat.reduceBEq, Nat.reduceBNe, Int.reduceGE, Int.reduceGT, *, cMinG, cPbs, cHasB, cHasPart, Tryz.results92, hA])))
          · have htak := htak hg
            clear hsk
            (repeat' (first
      | (refine gate_a fun _ => ?_)
      | (refine fork_intro (fun hb => ?_) (fun hb => ?_) <;> (try simp only [ew, hX, hA, hg, hF, dL_snoc, iL_snoc] at hb))
      | (simp only [go_sem, Nat.reduceLeDiff, Nat.reduceEqDiff, reduceIte, reduceCtorEq, Nat.reduceAdd, Nat.reduceMul, Nat.reduceSub, Nat.reduceLT, Int.reduceLT, Int.reduceLE, Int.reduceNeg, Int.reduceToNat, Nat.reduceBEq, Nat.reduceBNe, Int.reduceGE, Int.reduceGT, *, cMinG, cPbs, cHasB, cHasPart, Tryz.results92, hX, hA, hg, hF, dL_snoc, iL_snoc])))
            refine loop_next (i + 1, tk ++ [x]) htak (by dsimp only; omega) ?_
            clear htak
            (repeat' (first
      | (refine gate_a fun _ => ?_)
      | (refine fork_intro (fun hb => ?_) (fun hb => ?_) <;> (try simp only [ew, hX, hA, eT, dL_snoc, iL_snoc] at hb))
      | (simp only [go_sem, Nat.reduceLeDiff, Nat.reduceEqDiff, reduceIte, reduceCtorEq, Nat.reduceAdd, Nat.reduceMul, Nat.reduceSub, Nat.reduceLT, Int.reduceLT, Int.reduceLE, Int.reduceNeg, Int.reduceToNat, Nat.reduceBEq, Nat.reduceBNe, Int.reduceGE, Int.reduceGT, *, cMinG, cPbs, cHasB, cHasPart, Tryz.results92, hX, hA, eT, dL_snoc, iL_snoc])))
        · have e5 : i = (pbsI c).length := by omega
          subst e5
          have e2 := minT_step hi
          clear hi
          (repeat' (first
      | (refine gate_a fun _ => ?_)
      | (refine fork_intro (fun hb => ?_) (fun hb => ?_) <;> (try simp only [ew] at hb))
      | (simp only [go_sem, Nat.reduceLeDiff, Nat.reduceEqDiff, reduceIte, reduceCtorEq, Nat.reduceAdd, Nat.reduceMul, Nat.reduceSub, Nat.reduceLT, Int.reduceLT, Int.reduceLE, Int.reduceNeg, Int.reduceToNat, Nat.reduceBEq, Nat.reduceBNe, Int.reduceGE, Int.reduceGT, *, cMinG, cPbs, cHasB, cHasPart, Tryz.results92])))
          refine loop_next (r + 1) (by dsimp only; omega) (by dsimp only; omega) ?_
          (repeat' (first
      | (refine gate_a fun _ => ?_)
      | (refine fork_intro (fun hb => ?_) (fun hb => ?_) <;> (try simp only [ew, e2] at hb))
      | (simp only [go_sem, Nat.reduceLeDiff, Nat.reduceEqDiff, reduceIte, reduceCtorEq, Nat.reduceAdd, Nat.reduceMul, Nat.reduceSub, Nat.reduceLT, Int.reduceLT, Int.reduceLE, Int.reduceNeg, Int.reduceToNat, Nat.reduceBEq, Nat.reduceBNe, Int.reduceGE, Int.reduceGT, *, cMinG, cPbs, cHasB, cHasPart, Tryz.results92, e2])))
    · have e5 : r = c := by omega
      subst e5
      (repeat' (first
      | (refine gate_a fun _ => ?_)
      | (refine fork_intro (fun hb => ?_) (fun hb => ?_) <;> (try simp only [ew] at hb))
      | (simp only [go_sem, Nat.reduceLeDiff, Nat.reduceEqDiff, reduceIte, reduceCtorEq, Nat.reduceAdd, Nat.reduceMul, Nat.reduceSub, Nat.reduceLT, Int.reduceLT, Int.reduceLE, Int.reduceNeg, Int.reduceToNat, Nat.reduceBEq, Nat.reduceBNe, Int.reduceGE, Int.reduceGT, *, cMinG, cPbs, cHasB, cHasPart, Tryz.results92])))

/-! ProjectDeps, the program's. -/
def cPd1 : Contract := ⟨[], false, fun
  | [.agg [.v (.int .i64 a), .v (.int .i64 b)], .ptr [.v (.int .i64 set)], .ptr [.sl 2 l]] => some (WfD l ∧ (∀ d ∈ unD l, depR d) ∧ (0 ≤ a ∧ a ≤ 31) ∧ (0 ≤ b ∧ b ≤ 4), [⟨false, [.d (.v (.bool (pjB (unD l) set a b)))]⟩], [])
  | _ => none⟩
theorem pd1_ok : ContractOK E0 164 cPd1 := by
  refine contract_of_wpc (E := E0) (T := mkT Tryz.prog [(81, cInside), (82, cHasB), (140, cImp1)] false (fun _ => false) true (fun _ => false)) (mkT_ok (E := E0) (.cons inside_ok (.cons hasB_ok (.cons imp1_ok .nil)))) (fn := Tryz.f164) Tryz.func164 (by kernel_rfl) rfl mixedT (by kernel_rfl) rfl ?_
  intro args p rs ms hr
  unfold cPd1 at hr
  dsimp only at hr
  split at hr
  rotate_left
  · cases hr
  rename_i a b set l
  simp only [Option.some.injEq, Prod.mk.injEq] at hr
  obtain ⟨rfl, rfl, rfl⟩ := hr
  refine ⟨rfl, rfl, Nat.le_of_ble_eq_true rfl, ?_⟩
  have hm : maxLen = 9223372036854775807 := rfl
  rintro ⟨h1, hd, ⟨a0, a31⟩, b0, b4⟩ bs
  obtain ⟨ds, rfl, hx⟩ := h1.ex
  clear h1
  rw [unD_dL] at hd ⊢
  unfold pjB
  have e := @insB_def a set
  (repeat' (first
      | (refine gate_a fun _ => ?_)
      | (refine fork_intro (fun hb => ?_) (fun hb => ?_) <;> (try simp only [ew, e] at hb))
      | (simp only [go_sem, Nat.reduceLeDiff, Nat.reduceEqDiff, reduceIte, reduceCtorEq, Nat.reduceAdd, Nat.reduceMul, Nat.reduceSub, Nat.reduceLT, Int.reduceLT, Int.reduceLE, Int.reduceNeg, Int.reduceToNat, Nat.reduceBEq, Nat.reduceBNe, Int.reduceGE, Int.reduceGT, *, cPd1, cInside, cHasB, cImp1, Tryz.results164, e])))
def cMin : Contract := ⟨[], false, fun
  | [.one (.v (.int .i64 n)), .fnc f [[.v (.int .i64 set)], [.sl 2 l]]] => some (f = 164 ∧ WfD l ∧ (∀ d ∈ unD l, depR d) ∧ 0 ≤ n ∧ n ≤ 5, [⟨false, [.own 2 (dL (minDs (pjB (unD l) set) n)) 1]⟩], [])
  | _ => none⟩
theorem minD_ok : ContractOK E0 92 cMin := by
  refine ⟨⟨Tryz.f92, Tryz.func92, by kernel_rfl, rfl⟩, ?_⟩
  intro args p rs ms hr hp
  unfold cMin at hr
  dsimp only at hr
  split at hr
  · rename_i n f set l
    simp only [Option.some.injEq, Prod.mk.injEq] at hr
    obtain ⟨rfl, rfl, rfl⟩ := hr
    obtain ⟨rfl, h1, hd, h0, h5⟩ := hp
    exact (minG2 (f := 164) (c1 := [.v (.int .i64 set)]) (c2 := [.sl 2 l]) (p := pjB (unD l) set) pd1_ok (fun a b => rfl) (fun a b ha hb => ⟨h1, hd, ha, hb⟩) (by simp) (by simp) (by simp) ⟨h0, h5⟩).2 _ _ _ _ rfl ⟨rfl, rfl, rfl, rfl⟩
  · cases hr
theorem pdI_ok : ContractOK E0 141 cPd := by
  refine contract_of_wpc (E := E0) (T := mkT Tryz.prog [(55, cAreDeps), (79, cIsAttr), (92, cMin)] false (fun _ => false) true (fun _ => false)) (mkT_ok (E := E0) (.cons areDepsI_ok (.cons isAttrI_ok (.cons minD_ok .nil)))) (fn := Tryz.f141) Tryz.func141 (by kernel_rfl) rfl mixedT (by kernel_rfl) rfl ?_
  intro args p rs ms hr
  unfold cPd at hr
  dsimp only at hr
  split at hr
  rotate_left
  · cases hr
  rename_i n l set
  simp only [Option.some.injEq, Prod.mk.injEq] at hr
  obtain ⟨rfl, rfl, rfl⟩ := hr
  refine ⟨rfl, rfl, Nat.le_of_ble_eq_true rfl, ?_⟩
  have hm : maxLen = 9223372036854775807 := rfl
  rintro ⟨h1, hn1, hn2⟩ bs
  obtain ⟨ds, rfl, hx⟩ := h1.ex
  clear h1
  rw [unD_dL]
  cases hv : (depsOK n ds && isAttr n set)
  · have e3 : (!depsOK n ds || !isAttr n set) = true := by rw [← Bool.not_and, hv]; rfl
    have e : pdL n ds set = [] := by unfold pdL; rw [hv]; rfl
    have e0 : dL [] = [] := rfl
    rw [e]
    clear e hv
    (repeat' (first
      | (refine gate_a fun _ => ?_)
      | (refine fork_intro (fun hb => ?_) (fun hb => ?_) <;> (try simp only [ew, e3, e0] at hb))
      | (simp only [go_sem, Nat.reduceLeDiff, Nat.reduceEqDiff, reduceIte, reduceCtorEq, Nat.reduceAdd, Nat.reduceMul, Nat.reduceSub, Nat.reduceLT, Int.reduceLT, Int.reduceLE, Int.reduceNeg, Int.reduceToNat, Nat.reduceBEq, Nat.reduceBNe, Int.reduceGE, Int.reduceGT, *, cPd, cAreDeps, cIsAttr, cMin, Tryz.results141, e3, e0])))
  · have e3 : (!depsOK n ds || !isAttr n set) = false := by rw [← Bool.not_and, hv]; rfl
    have e : pdL n ds set = minDs (pjB ds set) n := by unfold pdL; rw [hv]; rfl
    rw [e]
    rw [Bool.and_eq_true] at hv
    have hd := depsOK_R hv.1
    obtain ⟨n0, n5, s0, s31⟩ := isAttr_le hv.2
    clear hv e
    (repeat' (first
      | (refine gate_a fun _ => ?_)
      | (refine fork_intro (fun hb => ?_) (fun hb => ?_) <;> (try simp only [ew, e3] at hb))
      | (simp only [go_sem, Nat.reduceLeDiff, Nat.reduceEqDiff, reduceIte, reduceCtorEq, Nat.reduceAdd, Nat.reduceMul, Nat.reduceSub, Nat.reduceLT, Int.reduceLT, Int.reduceLE, Int.reduceNeg, Int.reduceToNat, Nat.reduceBEq, Nat.reduceBNe, Int.reduceGE, Int.reduceGT, *, cPd, cAreDeps, cIsAttr, cMin, Tryz.results141, e3])))
    all_goals first | rfl | skip
end Go.Own
