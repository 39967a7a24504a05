import Derived.Test.YtohioponiobalaaOwnV5
namespace Go.Own
open Go Go.Proofs
set_option linter.unusedSimpArgs false
set_option linter.unusedVariables false
set_option maxRecDepth 20000
set_option maxHeartbeats 2000000





def cellAt (rs : List (List Int)) (i a : Nat) : Int := (rs.getD i []).getD a 0
def owC (rs : List (List Int)) (a b i k : Nat) : Bool := decide (cellAt rs i a ≤ cellAt rs k a) && decide (cellAt rs i b > cellAt rs k b)
def owK (rs : List (List Int)) (a b i : Nat) : Nat → Nat → Option Nat
  | _, 0 => none
  | k, n + 1 => if owC rs a b i k then some k else owK rs a b i (k + 1) n
def owI (rs : List (List Int)) (a b : Nat) : Nat → Nat → Option (Nat × Nat)
  | _, 0 => none
  | i, n + 1 => match owK rs a b i 0 rs.length with
    | some k => some (i, k)
    | none => owI rs a b (i + 1) n
def owR : Option (Nat × Nat) → Int × Int × Bool
  | some (i, k) => ((i : Int), (k : Int), true)
  | none => (-1, -1, false)
def ow (c : Int) (rs : List (List Int)) (a b : Int) : Int × Int × Bool := if colsOK c rs a b then owR (owI rs a.toNat b.toNat 0 rs.length) else (-1, -1, false)

def cOW : Contract := ⟨[], false, fun
  | [.agg [.v (.int .i64 c), .sl 1 l], .one (.v (.int .i64 a)), .one (.v (.int .i64 b))] => some (WfS l ∧ -9223372036854775808 ≤ c ∧ c ≤ 9223372036854775807,
      [⟨false, [.d (.v (.int .i64 (ow c (unS l) a b).1))]⟩, ⟨false, [.d (.v (.int .i64 (ow c (unS l) a b).2.1))]⟩, ⟨false, [.d (.v (.bool (ow c (unS l) a b).2.2))]⟩], [])
  | _ => none⟩

theorem cols_facts {c : Int} {rs : List (List Int)} {a b : Int} (h : colsOK c rs a b = true) : ∃ a' b' c' : Nat, a = a' ∧ b = b' ∧ c = c' ∧ a' < c' ∧ b' < c' ∧ rs.length ≤ 40 ∧ ∀ i, i < rs.length → (rs.getD i []).length = c' := by
  simp only [colsOK, tabOK, inB, Bool.and_eq_true, decide_eq_true_eq, List.all_eq_true] at h
  obtain ⟨⟨⟨h1, ⟨h2, h3⟩, h4⟩, h5, h6⟩, h7, h8⟩ := h
  obtain ⟨a', rfl⟩ := Int.eq_ofNat_of_zero_le h5
  obtain ⟨b', rfl⟩ := Int.eq_ofNat_of_zero_le h7
  obtain ⟨c', rfl⟩ := Int.eq_ofNat_of_zero_le (show 0 ≤ c by omega)
  refine ⟨a', b', c', rfl, rfl, rfl, by omega, by omega, by omega, fun i hi => ?_⟩
  have := h1 (rs.getD i []) (by simp [List.getD_eq_getElem?_getD, hi])
  simp only [rowOK, Bool.and_eq_true, decide_eq_true_eq] at this
  omega

theorem owS_ok : ContractOK E0 9 cOW := by
  refine contract_of_wpc (E := E0) (T := mkT Try.prog [(27, cL15)] false (fun _ => false) true (fun _ => false)) (mkT_ok (E := E0) (.cons l15_ok .nil)) (fn := Try.f9) Try.func9 (by kernel_rfl) rfl mixedT (by kernel_rfl) rfl ?_
  intro args p rs ms hr
  unfold cOW at hr
  dsimp only at hr
  split at hr
  · rename_i c l a b
    simp only [Option.some.injEq, Prod.mk.injEq] at hr
    obtain ⟨rfl, rfl, rfl⟩ := hr
    refine ⟨rfl, rfl, Nat.le_of_ble_eq_true rfl, ?_⟩
    rintro ⟨h1, hc1, hc2⟩ bs
    obtain ⟨rs, rfl, hx, hy⟩ := h1.ex
    clear h1
    rw [unS_sL]
    have hm : maxLen = 9223372036854775807 := rfl
    (repeat' (first
      | (refine gate_a fun _ => ?_)
      | (refine fork_intro (fun hb => ?_) (fun hb => ?_) <;> (try simp only [ew, cOW, cL15, Try.results9] at hb))
      | (simp only [go_sem, Nat.reduceLeDiff, Nat.reduceEqDiff, reduceIte, reduceCtorEq, Nat.reduceAdd, Nat.reduceMul, Nat.reduceSub, Nat.reduceLT, Int.reduceLT, Int.reduceLE, Int.reduceNeg, Int.reduceToNat, Nat.reduceBEq, Nat.reduceBNe, Int.reduceGE, Int.reduceGT, *, cOW, cL15, Try.results9])))
    · simp [ow, ‹colsOK c rs a b = false›]
    · have hcols := ‹colsOK c rs a b = true›
      have how : ow c rs a b = owR (owI rs a.toNat b.toNat 0 rs.length) := by rw [ow, if_pos hcols]
      rw [how]
      obtain ⟨a, b, c, rfl, rfl, rfl, ha, hb', h40, hlen⟩ := cols_facts hcols
      clear hcols how
      simp only [Int.toNat_natCast]
      generalize hR : owI rs a b 0 rs.length = R
      refine loop_intro { ι := Nat, rs := [(6, 9), (10, 11), (16, 68)], mods := [(9, fun i => .one (.d (.v (.int .i64 i))))], boxes := [(3, fun _ => [.d (.v (.int .i64 c)), .d (.sl 1 (sL rs))])], arrs := [], ok := fun i => i ≤ rs.length ∧ owI rs a b i (rs.length - i) = R, mu := fun i => rs.length - i } rfl 0 ⟨Nat.zero_le _, hR⟩ ?_ fun i hi => ?_
      · (repeat' (first
      | (refine gate_a fun _ => ?_)
      | (refine fork_intro (fun hb => ?_) (fun hb => ?_) <;> (try simp only [ew] at hb))
      | (simp only [go_sem, Nat.reduceLeDiff, Nat.reduceEqDiff, reduceIte, reduceCtorEq, Nat.reduceAdd, Nat.reduceMul, Nat.reduceSub, Nat.reduceLT, Int.reduceLT, Int.reduceLE, Int.reduceNeg, Int.reduceToNat, Nat.reduceBEq, Nat.reduceBNe, Int.reduceGE, Int.reduceGT, *])))
      · dsimp only at i hi
        obtain ⟨hi, ht⟩ := hi
        (repeat' (first
      | (refine gate_a fun _ => ?_)
      | (refine fork_intro (fun hb => ?_) (fun hb => ?_) <;> (try simp only [ew, Try.results9] at hb))
      | (simp only [go_sem, Nat.reduceLeDiff, Nat.reduceEqDiff, reduceIte, reduceCtorEq, Nat.reduceAdd, Nat.reduceMul, Nat.reduceSub, Nat.reduceLT, Int.reduceLT, Int.reduceLE, Int.reduceNeg, Int.reduceToNat, Nat.reduceBEq, Nat.reduceBNe, Int.reduceGE, Int.reduceGT, *, Try.results9])))
        · have hi' := ‹i < rs.length›
          have e : rs.length - i = (rs.length - (i + 1)) + 1 := by omega
          rw [e, owI] at ht
          generalize hK : owK rs a b i 0 rs.length = K at ht
          refine loop_intro { ι := Nat, rs := [(6, 9), (23, 68)], mods := [(10, fun k => .one (.d (.v (.int .i64 k))))], boxes := [(3, fun _ => [.d (.v (.int .i64 c)), .d (.sl 1 (sL rs))])], arrs := [], ok := fun k => k ≤ rs.length ∧ owK rs a b i k (rs.length - k) = K, mu := fun k => rs.length - k } rfl 0 ⟨Nat.zero_le _, hK⟩ ?_ fun k hk => ?_
          · (repeat' (first
      | (refine gate_a fun _ => ?_)
      | (refine fork_intro (fun hb => ?_) (fun hb => ?_) <;> (try simp only [ew] at hb))
      | (simp only [go_sem, Nat.reduceLeDiff, Nat.reduceEqDiff, reduceIte, reduceCtorEq, Nat.reduceAdd, Nat.reduceMul, Nat.reduceSub, Nat.reduceLT, Int.reduceLT, Int.reduceLE, Int.reduceNeg, Int.reduceToNat, Nat.reduceBEq, Nat.reduceBNe, Int.reduceGE, Int.reduceGT, *])))
          · dsimp only at k hk
            obtain ⟨hk, htk⟩ := hk
            (repeat' (first
      | (refine gate_a fun _ => ?_)
      | (refine fork_intro (fun hb => ?_) (fun hb => ?_) <;> (try simp only [ew, Try.results9] at hb))
      | (simp only [go_sem, Nat.reduceLeDiff, Nat.reduceEqDiff, reduceIte, reduceCtorEq, Nat.reduceAdd, Nat.reduceMul, Nat.reduceSub, Nat.reduceLT, Int.reduceLT, Int.reduceLE, Int.reduceNeg, Int.reduceToNat, Nat.reduceBEq, Nat.reduceBNe, Int.reduceGE, Int.reduceGT, *, Try.results9])))
            · have hb := ‹_ ∧ (rs.getD i []).getD b 0 > _›
              have e2 : rs.length - k = (rs.length - (k + 1)) + 1 := by omega
              have ec : owC rs a b i k = true := by rw [owC, Bool.and_eq_true]; exact ⟨decide_eq_true hb.1, decide_eq_true hb.2⟩
              rw [e2, owK, if_pos ec] at htk
              subst htk
              subst ht
              exact ⟨rfl, rfl, rfl⟩
            · have hb := ‹_ → ¬ (rs.getD i []).getD b 0 > _›
              have e2 : rs.length - k = (rs.length - (k + 1)) + 1 := by omega
              have ec : ¬ owC rs a b i k = true := by
                rw [owC, Bool.and_eq_true]
                exact fun h => hb (of_decide_eq_true h.1) (of_decide_eq_true h.2)
              rw [e2, owK, if_neg ec] at htk
              refine loop_next (k + 1) ⟨by omega, htk⟩ (by dsimp only; omega) ?_
              (repeat' (first
      | (refine gate_a fun _ => ?_)
      | (refine fork_intro (fun hb => ?_) (fun hb => ?_) <;> (try simp only [ew] at hb))
      | (simp only [go_sem, Nat.reduceLeDiff, Nat.reduceEqDiff, reduceIte, reduceCtorEq, Nat.reduceAdd, Nat.reduceMul, Nat.reduceSub, Nat.reduceLT, Int.reduceLT, Int.reduceLE, Int.reduceNeg, Int.reduceToNat, Nat.reduceBEq, Nat.reduceBNe, Int.reduceGE, Int.reduceGT, *])))
            · have e2 : rs.length - k = 0 := by omega
              rw [e2, owK] at htk
              subst htk
              refine loop_next (i + 1) ⟨by omega, ht⟩ (by dsimp only; omega) ?_
              (repeat' (first
      | (refine gate_a fun _ => ?_)
      | (refine fork_intro (fun hb => ?_) (fun hb => ?_) <;> (try simp only [ew] at hb))
      | (simp only [go_sem, Nat.reduceLeDiff, Nat.reduceEqDiff, reduceIte, reduceCtorEq, Nat.reduceAdd, Nat.reduceMul, Nat.reduceSub, Nat.reduceLT, Int.reduceLT, Int.reduceLE, Int.reduceNeg, Int.reduceToNat, Nat.reduceBEq, Nat.reduceBNe, Int.reduceGE, Int.reduceGT, *])))
        · have e : rs.length - i = 0 := by omega
          rw [e, owI] at ht
          subst ht
          exact ⟨rfl, rfl, rfl⟩
  · cases hr
end Go.Own
