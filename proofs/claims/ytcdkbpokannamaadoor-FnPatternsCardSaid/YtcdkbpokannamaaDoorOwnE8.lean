import Derived.Test.YtcdkbpokannamaaDoorOwnE7
import Derived.Test.YtcdkbpokannamaaDoorOwnY1
namespace Go.Own
open Go Go.Proofs
set_option linter.unusedSimpArgs false
set_option linter.unusedVariables false
set_option maxRecDepth 20000
set_option maxHeartbeats 2000000

attribute [local go_sem] unQ_qL qL_length qL_get qL_set qL_inj wfQ_qL scal4 beq4 quad_eta

/-! The patterns that hold. -/
def ptT (c : Int) (rs : List (List Int)) (m l r a v : Int) : Bool := decide (((selR c rs a v).length : Int) > 0) && hpB c rs m a v l r
def ptB (c : Int) (rs : List (List Int)) (m l r : Int) (a : Nat) : Nat → List (Int × Int × Int × Int)
  | 0 => []
  | v + 1 => ptB c rs m l r a v ++ (if ptT c rs m l r a v = true then [((a : Int), (v : Int), l, r)] else [])
def ptA (c : Int) (rs : List (List Int)) (m l r : Int) : Nat → List (Int × Int × Int × Int)
  | 0 => []
  | a + 1 => ptA c rs m l r a ++ ptB c rs m l r a 41
def pts (c : Int) (rs : List (List Int)) (m l r : Int) : List (Int × Int × Int × Int) := if askOK c rs m l r then ptA c rs m l r c.toNat else []
theorem ptB_length {c : Int} {rs : List (List Int)} {m l r : Int} {a : Nat} : ∀ {v : Nat}, (ptB c rs m l r a v).length ≤ v
  | 0 => Nat.le_refl _
  | v + 1 => by
    have := @ptB_length c rs m l r a v
    simp only [ptB, List.length_append]
    split <;> simp <;> omega
theorem ptA_length {c : Int} {rs : List (List Int)} {m l r : Int} : ∀ {a : Nat}, (ptA c rs m l r a).length ≤ a * 41
  | 0 => Nat.zero_le _
  | a + 1 => by
    have h1 := @ptA_length c rs m l r a
    have h2 := @ptB_length c rs m l r a 41
    simp only [ptA, List.length_append, Nat.succ_mul]
    omega
theorem pt_len {c : Int} {rs : List (List Int)} {m l r : Int} {a v : Nat} (ha : a < 5) (hv : v ≤ 41) : (ptA c rs m l r a ++ ptB c rs m l r a v).length ≤ 300 := by
  have h1 := @ptA_length c rs m l r a
  have h2 := @ptB_length c rs m l r a v
  rw [List.length_append]; omega
theorem pts_length {c : Int} {rs : List (List Int)} {m l r : Int} : (pts c rs m l r).length ≤ maxLen ∧ (pts c rs m l r).length ≤ 16777216 := by
  have : (pts c rs m l r).length ≤ 300 := by
    unfold pts
    split
    · have h := tab_c (ask_facts ‹_›).1
      have h1 := @ptA_length c rs m l r c.toNat
      omega
    · simp
  exact ⟨Nat.le_trans this (by decide), by omega⟩
theorem ptT_t {c : Int} {rs : List (List Int)} {m l r a v : Int} (h : ptT c rs m l r a v = true) : decide (((selR c rs a v).length : Int) > 0) = true ∧ hpB c rs m a v l r = true := by
  simpa only [ptT, Bool.and_eq_true] using h
theorem ptT_f {c : Int} {rs : List (List Int)} {m l r a v : Int} (h : ptT c rs m l r a v = false) : (decide (((selR c rs a v).length : Int) > 0) && hpB c rs m a v l r) = false := h

def cPats : Contract := ⟨[], false, fun
  | [.agg [.v (.int .i64 c), .sl 1 t], .one (.v (.int .i64 m)), .agg [.v (.int .i64 l), .v (.int .i64 r)]] => some (WfS t ∧ -9223372036854775808 ≤ c ∧ c ≤ 9223372036854775807, [⟨false, [.own 4 (qL (pts c (unS t) m l r)) 1]⟩], [])
  | _ => none⟩
theorem patsS_ok : ContractOK E0 18 cPats := by
  refine contract_of_wpc (E := E0) (T := mkT Tryd.prog [(37, cFine), (38, cDep), (47, cSup), (27, cHP)] false (fun _ => false) true (fun _ => false)) (mkT_ok (E := E0) (.cons fine_ok (.cons depS_ok (.cons supS_ok (.cons hpS_ok .nil))))) (fn := Tryd.f18) Tryd.func18 (by kernel_rfl) rfl mixedT (by kernel_rfl) rfl ?_
  intro args p rs ms hr
  unfold cPats at hr
  dsimp only at hr
  split at hr
  rotate_left
  · cases hr
  rename_i c t m l r
  simp only [Option.some.injEq, Prod.mk.injEq] at hr
  obtain ⟨rfl, rfl, rfl⟩ := hr
  refine ⟨rfl, rfl, Nat.le_of_ble_eq_true rfl, ?_⟩
  have hm : maxLen = 9223372036854775807 := rfl
  rintro ⟨h1, hc1, hc2⟩ bs
  obtain ⟨rs, rfl, hx, hy⟩ := h1.ex
  clear h1
  rw [unS_sL]
  cases hask : askOK c rs m l r
  · have e : pts c rs m l r = [] := by rw [pts, hask]; rfl
    rw [e]
    clear e
    have ez : qL [] = [] := rfl
    have e0 : (!(tabOK c rs && modeOK m) || !depOK c l r) = true := by
      unfold askOK at hask
      cases q1 : (tabOK c rs && modeOK m) <;> cases q2 : depOK c l r <;> simp_all
    clear hask
    (repeat' (first
      | (refine gate_a fun _ => ?_)
      | (refine fork_intro (fun hb => ?_) (fun hb => ?_) <;> (try simp only [ew, e0, ez] at hb))
      | (simp only [go_sem, Nat.reduceLeDiff, Nat.reduceEqDiff, reduceIte, reduceCtorEq, Nat.reduceAdd, Nat.reduceMul, Nat.reduceSub, Nat.reduceLT, Int.reduceLT, Int.reduceLE, Int.reduceNeg, Int.reduceToNat, Nat.reduceBEq, Nat.reduceBNe, Int.reduceGE, Int.reduceGT, *, cPats, cFine, cDep, cSup, cHP, Tryd.results18, e0, ez])))
  · have e : pts c rs m l r = ptA c rs m l r c.toNat := by rw [pts, hask]; rfl
    rw [e]
    clear e
    have e0 := hask
    simp only [askOK, Bool.and_eq_true] at e0
    obtain ⟨⟨-, e0⟩, e1⟩ := e0
    obtain ⟨ht, -, -⟩ := ask_facts hask
    clear hask
    obtain ⟨c, rfl, c1, c5, h40, hlen⟩ := tab_rows ht
    clear hlen
    rw [Int.toNat_natCast]
    (repeat' (first
      | (refine gate_a fun _ => ?_)
      | (refine fork_intro (fun hb => ?_) (fun hb => ?_) <;> (try simp only [ew, e0, e1] at hb))
      | (simp only [go_sem, Nat.reduceLeDiff, Nat.reduceEqDiff, reduceIte, reduceCtorEq, Nat.reduceAdd, Nat.reduceMul, Nat.reduceSub, Nat.reduceLT, Int.reduceLT, Int.reduceLE, Int.reduceNeg, Int.reduceToNat, Nat.reduceBEq, Nat.reduceBNe, Int.reduceGE, Int.reduceGT, *, cPats, cFine, cDep, cSup, cHP, Tryd.results18, e0, e1])))
    clear e0 e1 ht
    refine loop_intro { ι := Nat, rs := [(9, 11), (24, 52)], mods := [(8, fun a => .one (.d (.v (.int .i64 a)))), (7, fun a => .one (.own 4 (qL (ptA c rs m l r a)) 1))], boxes := [(3, fun _ => [.d (.v (.int .i64 c)), .d (.sl 1 (sL rs))]), (5, fun _ => [.d (.v (.int .i64 l)), .d (.v (.int .i64 r))])], arrs := [], ok := fun a => a ≤ c, mu := fun a => c - a } rfl 0 (Nat.zero_le _) ?_ fun a ha => ?_
    · (repeat' (first
      | (refine gate_a fun _ => ?_)
      | (refine fork_intro (fun hb => ?_) (fun hb => ?_) <;> (try simp only [ew] at hb))
      | (simp only [go_sem, Nat.reduceLeDiff, Nat.reduceEqDiff, reduceIte, reduceCtorEq, Nat.reduceAdd, Nat.reduceMul, Nat.reduceSub, Nat.reduceLT, Int.reduceLT, Int.reduceLE, Int.reduceNeg, Int.reduceToNat, Nat.reduceBEq, Nat.reduceBNe, Int.reduceGE, Int.reduceGT, *, cPats, cFine, cDep, cSup, cHP, Tryd.results18])))
      all_goals first | rfl | skip
    · dsimp only at a ha
      by_cases h5 : a < c
      · (repeat' (first
      | (refine gate_a fun _ => ?_)
      | (refine fork_intro (fun hb => ?_) (fun hb => ?_) <;> (try simp only [ew] at hb))
      | (simp only [go_sem, Nat.reduceLeDiff, Nat.reduceEqDiff, reduceIte, reduceCtorEq, Nat.reduceAdd, Nat.reduceMul, Nat.reduceSub, Nat.reduceLT, Int.reduceLT, Int.reduceLE, Int.reduceNeg, Int.reduceToNat, Nat.reduceBEq, Nat.reduceBNe, Int.reduceGE, Int.reduceGT, *, cPats, cFine, cDep, cSup, cHP, Tryd.results18])))
        refine loop_intro { ι := Nat, rs := [(10, 11), (30, 52)], mods := [(9, fun v => .one (.d (.v (.int .i64 v)))), (7, fun v => .one (.own 4 (qL (ptA c rs m l r a ++ ptB c rs m l r a v)) 1))], boxes := [(3, fun _ => [.d (.v (.int .i64 c)), .d (.sl 1 (sL rs))]), (5, fun _ => [.d (.v (.int .i64 l)), .d (.v (.int .i64 r))])], arrs := [], ok := fun v => v ≤ 41, mu := fun v => 41 - v } rfl 0 (Nat.zero_le _) ?_ fun v hv => ?_
        · (repeat' (first
      | (refine gate_a fun _ => ?_)
      | (refine fork_intro (fun hb => ?_) (fun hb => ?_) <;> (try simp only [ew] at hb))
      | (simp only [go_sem, Nat.reduceLeDiff, Nat.reduceEqDiff, reduceIte, reduceCtorEq, Nat.reduceAdd, Nat.reduceMul, Nat.reduceSub, Nat.reduceLT, Int.reduceLT, Int.reduceLE, Int.reduceNeg, Int.reduceToNat, Nat.reduceBEq, Nat.reduceBNe, Int.reduceGE, Int.reduceGT, *, cPats, cFine, cDep, cSup, cHP, Tryd.results18])))
          all_goals first | (simp [ptB]; done) | skip
        · dsimp only at v hv
          have l0 := @pt_len c rs m l r a v (by omega) hv
          by_cases h6 : v < 41
          · have h6' : (v : Int) ≤ 40 := by omega
            cases hp : ptT c rs m l r a v
            · have e2 : ptB c rs m l r a (v + 1) = ptB c rs m l r a v := by rw [ptB, hp]; simp
              have hp2 := ptT_f hp
              clear hp
              (repeat' (first
      | (refine gate_a fun _ => ?_)
      | (refine fork_intro (fun hb => ?_) (fun hb => ?_) <;> (try simp only [ew, hp2] at hb))
      | (simp only [go_sem, Nat.reduceLeDiff, Nat.reduceEqDiff, reduceIte, reduceCtorEq, Nat.reduceAdd, Nat.reduceMul, Nat.reduceSub, Nat.reduceLT, Int.reduceLT, Int.reduceLE, Int.reduceNeg, Int.reduceToNat, Nat.reduceBEq, Nat.reduceBNe, Int.reduceGE, Int.reduceGT, *, cPats, cFine, cDep, cSup, cHP, Tryd.results18, hp2])))
              refine loop_next (v + 1) (by dsimp only; omega) (by dsimp only; omega) ?_
              (repeat' (first
      | (refine gate_a fun _ => ?_)
      | (refine fork_intro (fun hb => ?_) (fun hb => ?_) <;> (try simp only [ew, e2] at hb))
      | (simp only [go_sem, Nat.reduceLeDiff, Nat.reduceEqDiff, reduceIte, reduceCtorEq, Nat.reduceAdd, Nat.reduceMul, Nat.reduceSub, Nat.reduceLT, Int.reduceLT, Int.reduceLE, Int.reduceNeg, Int.reduceToNat, Nat.reduceBEq, Nat.reduceBNe, Int.reduceGE, Int.reduceGT, *, cPats, cFine, cDep, cSup, cHP, Tryd.results18, e2])))
            · have e2 : ptA c rs m l r a ++ ptB c rs m l r a (v + 1) = ptA c rs m l r a ++ ptB c rs m l r a v ++ [((a : Int), (v : Int), l, r)] := by rw [ptB, hp, if_pos rfl, List.append_assoc]
              obtain ⟨p1, p2⟩ := ptT_t hp
              clear hp
              generalize hz : ptA c rs m l r a ++ ptB c rs m l r a v = zs at l0 e2
              (repeat' (first
      | (refine gate_a fun _ => ?_)
      | (refine fork_intro (fun hb => ?_) (fun hb => ?_) <;> (try simp only [ew, p1, p2, hz, qL_snoc] at hb))
      | (simp only [go_sem, Nat.reduceLeDiff, Nat.reduceEqDiff, reduceIte, reduceCtorEq, Nat.reduceAdd, Nat.reduceMul, Nat.reduceSub, Nat.reduceLT, Int.reduceLT, Int.reduceLE, Int.reduceNeg, Int.reduceToNat, Nat.reduceBEq, Nat.reduceBNe, Int.reduceGE, Int.reduceGT, *, cPats, cFine, cDep, cSup, cHP, Tryd.results18, p1, p2, hz, qL_snoc])))
              refine loop_next (v + 1) (by dsimp only; omega) (by dsimp only; omega) ?_
              (repeat' (first
      | (refine gate_a fun _ => ?_)
      | (refine fork_intro (fun hb => ?_) (fun hb => ?_) <;> (try simp only [ew, e2, qL_snoc] at hb))
      | (simp only [go_sem, Nat.reduceLeDiff, Nat.reduceEqDiff, reduceIte, reduceCtorEq, Nat.reduceAdd, Nat.reduceMul, Nat.reduceSub, Nat.reduceLT, Int.reduceLT, Int.reduceLE, Int.reduceNeg, Int.reduceToNat, Nat.reduceBEq, Nat.reduceBNe, Int.reduceGE, Int.reduceGT, *, cPats, cFine, cDep, cSup, cHP, Tryd.results18, e2, qL_snoc])))
          · have e6 : v = 41 := by omega
            subst e6
            (repeat' (first
      | (refine gate_a fun _ => ?_)
      | (refine fork_intro (fun hb => ?_) (fun hb => ?_) <;> (try simp only [ew] at hb))
      | (simp only [go_sem, Nat.reduceLeDiff, Nat.reduceEqDiff, reduceIte, reduceCtorEq, Nat.reduceAdd, Nat.reduceMul, Nat.reduceSub, Nat.reduceLT, Int.reduceLT, Int.reduceLE, Int.reduceNeg, Int.reduceToNat, Nat.reduceBEq, Nat.reduceBNe, Int.reduceGE, Int.reduceGT, *, cPats, cFine, cDep, cSup, cHP, Tryd.results18])))
            have e2 : ptA c rs m l r a ++ ptB c rs m l r a 41 = ptA c rs m l r (a + 1) := rfl
            refine loop_next (a + 1) (by dsimp only; omega) (by dsimp only; omega) ?_
            (repeat' (first
      | (refine gate_a fun _ => ?_)
      | (refine fork_intro (fun hb => ?_) (fun hb => ?_) <;> (try simp only [ew, e2] at hb))
      | (simp only [go_sem, Nat.reduceLeDiff, Nat.reduceEqDiff, reduceIte, reduceCtorEq, Nat.reduceAdd, Nat.reduceMul, Nat.reduceSub, Nat.reduceLT, Int.reduceLT, Int.reduceLE, Int.reduceNeg, Int.reduceToNat, Nat.reduceBEq, Nat.reduceBNe, Int.reduceGE, Int.reduceGT, *, cPats, cFine, cDep, cSup, cHP, Tryd.results18, e2])))
      · have e5 : a = c := by omega
        subst e5
        (repeat' (first
      | (refine gate_a fun _ => ?_)
      | (refine fork_intro (fun hb => ?_) (fun hb => ?_) <;> (try simp only [ew] at hb))
      | (simp only [go_sem, Nat.reduceLeDiff, Nat.reduceEqDiff, reduceIte, reduceCtorEq, Nat.reduceAdd, Nat.reduceMul, Nat.reduceSub, Nat.reduceLT, Int.reduceLT, Int.reduceLE, Int.reduceNeg, Int.reduceToNat, Nat.reduceBEq, Nat.reduceBNe, Int.reduceGE, Int.reduceGT, *, cPats, cFine, cDep, cSup, cHP, Tryd.results18])))

theorem patsI_ok : ContractOK E0 17 cPats := by
  refine contract_of_wpc (E := E0) (T := mkT Tryd.prog [(42, cAsk), (20, cSup), (19, cHP)] false (fun _ => false) true (fun _ => false)) (mkT_ok (E := E0) (.cons ask_ok (.cons supI_ok (.cons hpI_ok .nil)))) (fn := Tryd.f17) Tryd.func17 (by kernel_rfl) rfl mixedT (by kernel_rfl) rfl ?_
  intro args p rs ms hr
  unfold cPats at hr
  dsimp only at hr
  split at hr
  rotate_left
  · cases hr
  rename_i c t m l r
  simp only [Option.some.injEq, Prod.mk.injEq] at hr
  obtain ⟨rfl, rfl, rfl⟩ := hr
  refine ⟨rfl, rfl, Nat.le_of_ble_eq_true rfl, ?_⟩
  have hm : maxLen = 9223372036854775807 := rfl
  rintro ⟨h1, hc1, hc2⟩ bs
  obtain ⟨rs, rfl, hx, hy⟩ := h1.ex
  clear h1
  rw [unS_sL]
  cases hask : askOK c rs m l r
  · have e : pts c rs m l r = [] := by rw [pts, hask]; rfl
    rw [e]
    clear e
    have ez : qL [] = [] := rfl
    have e0 : (!askOK c rs m l r) = true := by rw [hask]; rfl
    clear hask
    (repeat' (first
      | (refine gate_a fun _ => ?_)
      | (refine fork_intro (fun hb => ?_) (fun hb => ?_) <;> (try simp only [ew, e0, ez] at hb))
      | (simp only [go_sem, Nat.reduceLeDiff, Nat.reduceEqDiff, reduceIte, reduceCtorEq, Nat.reduceAdd, Nat.reduceMul, Nat.reduceSub, Nat.reduceLT, Int.reduceLT, Int.reduceLE, Int.reduceNeg, Int.reduceToNat, Nat.reduceBEq, Nat.reduceBNe, Int.reduceGE, Int.reduceGT, *, cPats, cAsk, cSup, cHP, Tryd.results17, e0, ez])))
  · have e : pts c rs m l r = ptA c rs m l r c.toNat := by rw [pts, hask]; rfl
    rw [e]
    clear e
    have e0 : (!askOK c rs m l r) = false := by rw [hask]; rfl
    obtain ⟨ht, -, -⟩ := ask_facts hask
    clear hask
    obtain ⟨c, rfl, c1, c5, h40, hlen⟩ := tab_rows ht
    clear hlen
    rw [Int.toNat_natCast]
    (repeat' (first
      | (refine gate_a fun _ => ?_)
      | (refine fork_intro (fun hb => ?_) (fun hb => ?_) <;> (try simp only [ew, e0] at hb))
      | (simp only [go_sem, Nat.reduceLeDiff, Nat.reduceEqDiff, reduceIte, reduceCtorEq, Nat.reduceAdd, Nat.reduceMul, Nat.reduceSub, Nat.reduceLT, Int.reduceLT, Int.reduceLE, Int.reduceNeg, Int.reduceToNat, Nat.reduceBEq, Nat.reduceBNe, Int.reduceGE, Int.reduceGT, *, cPats, cAsk, cSup, cHP, Tryd.results17, e0])))
    clear e0 ht
    refine loop_intro { ι := Nat, rs := [(9, 11), (18, 46)], mods := [(8, fun a => .one (.d (.v (.int .i64 a)))), (7, fun a => .one (.own 4 (qL (ptA c rs m l r a)) 1))], boxes := [(3, fun _ => [.d (.v (.int .i64 c)), .d (.sl 1 (sL rs))]), (5, fun _ => [.d (.v (.int .i64 l)), .d (.v (.int .i64 r))])], arrs := [], ok := fun a => a ≤ c, mu := fun a => c - a } rfl 0 (Nat.zero_le _) ?_ fun a ha => ?_
    · (repeat' (first
      | (refine gate_a fun _ => ?_)
      | (refine fork_intro (fun hb => ?_) (fun hb => ?_) <;> (try simp only [ew] at hb))
      | (simp only [go_sem, Nat.reduceLeDiff, Nat.reduceEqDiff, reduceIte, reduceCtorEq, Nat.reduceAdd, Nat.reduceMul, Nat.reduceSub, Nat.reduceLT, Int.reduceLT, Int.reduceLE, Int.reduceNeg, Int.reduceToNat, Nat.reduceBEq, Nat.reduceBNe, Int.reduceGE, Int.reduceGT, *, cPats, cAsk, cSup, cHP, Tryd.results17])))
      all_goals first | rfl | skip
    · dsimp only at a ha
      by_cases h5 : a < c
      · (repeat' (first
      | (refine gate_a fun _ => ?_)
      | (refine fork_intro (fun hb => ?_) (fun hb => ?_) <;> (try simp only [ew] at hb))
      | (simp only [go_sem, Nat.reduceLeDiff, Nat.reduceEqDiff, reduceIte, reduceCtorEq, Nat.reduceAdd, Nat.reduceMul, Nat.reduceSub, Nat.reduceLT, Int.reduceLT, Int.reduceLE, Int.reduceNeg, Int.reduceToNat, Nat.reduceBEq, Nat.reduceBNe, Int.reduceGE, Int.reduceGT, *, cPats, cAsk, cSup, cHP, Tryd.results17])))
        refine loop_intro { ι := Nat, rs := [(10, 11), (24, 46)], mods := [(9, fun v => .one (.d (.v (.int .i64 v)))), (7, fun v => .one (.own 4 (qL (ptA c rs m l r a ++ ptB c rs m l r a v)) 1))], boxes := [(3, fun _ => [.d (.v (.int .i64 c)), .d (.sl 1 (sL rs))]), (5, fun _ => [.d (.v (.int .i64 l)), .d (.v (.int .i64 r))])], arrs := [], ok := fun v => v ≤ 41, mu := fun v => 41 - v } rfl 0 (Nat.zero_le _) ?_ fun v hv => ?_
        · (repeat' (first
      | (refine gate_a fun _ => ?_)
      | (refine fork_intro (fun hb => ?_) (fun hb => ?_) <;> (try simp only [ew] at hb))
      | (simp only [go_sem, Nat.reduceLeDiff, Nat.reduceEqDiff, reduceIte, reduceCtorEq, Nat.reduceAdd, Nat.reduceMul, Nat.reduceSub, Nat.reduceLT, Int.reduceLT, Int.reduceLE, Int.reduceNeg, Int.reduceToNat, Nat.reduceBEq, Nat.reduceBNe, Int.reduceGE, Int.reduceGT, *, cPats, cAsk, cSup, cHP, Tryd.results17])))
          all_goals first | (simp [ptB]; done) | skip
        · dsimp only at v hv
          have l0 := @pt_len c rs m l r a v (by omega) hv
          by_cases h6 : v < 41
          · have h6' : (v : Int) ≤ 40 := by omega
            cases hp : ptT c rs m l r a v
            · have e2 : ptB c rs m l r a (v + 1) = ptB c rs m l r a v := by rw [ptB, hp]; simp
              have hp2 := ptT_f hp
              clear hp
              (repeat' (first
      | (refine gate_a fun _ => ?_)
      | (refine fork_intro (fun hb => ?_) (fun hb => ?_) <;> (try simp only [ew, hp2] at hb))
      | (simp only [go_sem, Nat.reduceLeDiff, Nat.reduceEqDiff, reduceIte, reduceCtorEq, Nat.reduceAdd, Nat.reduceMul, Nat.reduceSub, Nat.reduceLT, Int.reduceLT, Int.reduceLE, Int.reduceNeg, Int.reduceToNat, Nat.reduceBEq, Nat.reduceBNe, Int.reduceGE, Int.reduceGT, *, cPats, cAsk, cSup, cHP, Tryd.results17, hp2])))
              refine loop_next (v + 1) (by dsimp only; omega) (by dsimp only; omega) ?_
              (repeat' (first
      | (refine gate_a fun _ => ?_)
      | (refine fork_intro (fun hb => ?_) (fun hb => ?_) <;> (try simp only [ew, e2] at hb))
      | (simp only [go_sem, Nat.reduceLeDiff, Nat.reduceEqDiff, reduceIte, reduceCtorEq, Nat.reduceAdd, Nat.reduceMul, Nat.reduceSub, Nat.reduceLT, Int.reduceLT, Int.reduceLE, Int.reduceNeg, Int.reduceToNat, Nat.reduceBEq, Nat.reduceBNe, Int.reduceGE, Int.reduceGT, *, cPats, cAsk, cSup, cHP, Tryd.results17, e2])))
            · have e2 : ptA c rs m l r a ++ ptB c rs m l r a (v + 1) = ptA c rs m l r a ++ ptB c rs m l r a v ++ [((a : Int), (v : Int), l, r)] := by rw [ptB, hp, if_pos rfl, List.append_assoc]
              obtain ⟨p1, p2⟩ := ptT_t hp
              clear hp
              generalize hz : ptA c rs m l r a ++ ptB c rs m l r a v = zs at l0 e2
              (repeat' (first
      | (refine gate_a fun _ => ?_)
      | (refine fork_intro (fun hb => ?_) (fun hb => ?_) <;> (try simp only [ew, p1, p2, hz, qL_snoc] at hb))
      | (simp only [go_sem, Nat.reduceLeDiff, Nat.reduceEqDiff, reduceIte, reduceCtorEq, Nat.reduceAdd, Nat.reduceMul, Nat.reduceSub, Nat.reduceLT, Int.reduceLT, Int.reduceLE, Int.reduceNeg, Int.reduceToNat, Nat.reduceBEq, Nat.reduceBNe, Int.reduceGE, Int.reduceGT, *, cPats, cAsk, cSup, cHP, Tryd.results17, p1, p2, hz, qL_snoc])))
              refine loop_next (v + 1) (by dsimp only; omega) (by dsimp only; omega) ?_
              (repeat' (first
      | (refine gate_a fun _ => ?_)
      | (refine fork_intro (fun hb => ?_) (fun hb => ?_) <;> (try simp only [ew, e2, qL_snoc] at hb))
      | (simp only [go_sem, Nat.reduceLeDiff, Nat.reduceEqDiff, reduceIte, reduceCtorEq, Nat.reduceAdd, Nat.reduceMul, Nat.reduceSub, Nat.reduceLT, Int.reduceLT, Int.reduceLE, Int.reduceNeg, Int.reduceToNat, Nat.reduceBEq, Nat.reduceBNe, Int.reduceGE, Int.reduceGT, *, cPats, cAsk, cSup, cHP, Tryd.results17, e2, qL_snoc])))
          · have e6 : v = 41 := by omega
            subst e6
            (repeat' (first
      | (refine gate_a fun _ => ?_)
      | (refine fork_intro (fun hb => ?_) (fun hb => ?_) <;> (try simp only [ew] at hb))
      | (simp only [go_sem, Nat.reduceLeDiff, Nat.reduceEqDiff, reduceIte, reduceCtorEq, Nat.reduceAdd, Nat.reduceMul, Nat.reduceSub, Nat.reduceLT, Int.reduceLT, Int.reduceLE, Int.reduceNeg, Int.reduceToNat, Nat.reduceBEq, Nat.reduceBNe, Int.reduceGE, Int.reduceGT, *, cPats, cAsk, cSup, cHP, Tryd.results17])))
            have e2 : ptA c rs m l r a ++ ptB c rs m l r a 41 = ptA c rs m l r (a + 1) := rfl
            refine loop_next (a + 1) (by dsimp only; omega) (by dsimp only; omega) ?_
            (repeat' (first
      | (refine gate_a fun _ => ?_)
      | (refine fork_intro (fun hb => ?_) (fun hb => ?_) <;> (try simp only [ew, e2] at hb))
      | (simp only [go_sem, Nat.reduceLeDiff, Nat.reduceEqDiff, reduceIte, reduceCtorEq, Nat.reduceAdd, Nat.reduceMul, Nat.reduceSub, Nat.reduceLT, Int.reduceLT, Int.reduceLE, Int.reduceNeg, Int.reduceToNat, Nat.reduceBEq, Nat.reduceBNe, Int.reduceGE, Int.reduceGT, *, cPats, cAsk, cSup, cHP, Tryd.results17, e2])))
      · have e5 : a = c := by omega
        subst e5
        (repeat' (first
      | (refine gate_a fun _ => ?_)
      | (refine fork_intro (fun hb => ?_) (fun hb => ?_) <;> (try simp only [ew] at hb))
      | (simp only [go_sem, Nat.reduceLeDiff, Nat.reduceEqDiff, reduceIte, reduceCtorEq, Nat.reduceAdd, Nat.reduceMul, Nat.reduceSub, Nat.reduceLT, Int.reduceLT, Int.reduceLE, Int.reduceNeg, Int.reduceToNat, Nat.reduceBEq, Nat.reduceBNe, Int.reduceGE, Int.reduceGT, *, cPats, cAsk, cSup, cHP, Tryd.results17])))


def cLawTID : Contract := ⟨[], false, fun
  | [.agg [.v (.int .i64 c), .sl 1 t], .one (.v (.int .i64 m)), .agg [.v (.int .i64 l), .v (.int .i64 r)]] => some (WfS t ∧ -9223372036854775808 ≤ c ∧ c ≤ 9223372036854775807, [⟨false, [.d (.v (.bool true))]⟩], [])
  | _ => none⟩
end Go.Own
