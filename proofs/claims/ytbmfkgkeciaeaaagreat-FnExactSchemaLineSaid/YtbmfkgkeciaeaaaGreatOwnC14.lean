import Derived.Test.YtbmfkgkeciaeaaaGreatOwnY5
import Derived.Test.YtbmfkgkeciaeaaaGreatOwnJoin
namespace Go.Own
open Go Go.Proofs
set_option linter.unusedSimpArgs false
set_option linter.unusedVariables false
set_option maxRecDepth 20000
set_option maxHeartbeats 2000000

attribute [local go_sem] unB_bL bL_length bL_snoc

attribute [local go_sem] unB_bL bL_length bL_snoc unT_tL tL_length tL_snoc wfL_tL

/-- The strings with a separator between. -/
def jb (sep : ByteArray) (ss : List ByteArray) : ByteArray := ⟨(Lib.join (ss.map (·.data.toList)) sep.data.toList).toArray⟩
theorem jb_nil {sep : ByteArray} : jb sep [] = ⟨#[]⟩ := rfl
theorem jb_one {sep s : ByteArray} : jb sep [s] = s := ba_ext (show Lib.join [s.data.toList] sep.data.toList = s.data.toList from Lib.join_one _ _)
theorem joinTail_snoc (sep : List UInt8) (r : List (List UInt8)) (y : List UInt8) : Lib.joinTail sep (r ++ [y]) = Lib.joinTail sep r ++ (sep ++ y) := by
  unfold Lib.joinTail
  rw [List.map_append, List.flatten_append, List.map_cons, List.map_nil, List.flatten_cons, List.flatten_nil, List.append_nil]
theorem jb_list {sep : ByteArray} {ss : List ByteArray} : (jb sep ss).data.toList = Lib.join (ss.map (·.data.toList)) sep.data.toList := rfl
theorem jb_snoc {sep s : ByteArray} {ss : List ByteArray} (h : ss ≠ []) : jb sep (ss ++ [s]) = (jb sep ss ++ sep) ++ s := by
  cases ss with
  | nil => exact absurd rfl h
  | cons x r =>
    apply ba_ext
    rw [ba_app, ba_app, jb_list, jb_list, List.cons_append, List.map_cons, List.map_cons, Lib.join_cons, Lib.join_cons, List.map_append, List.map_cons, List.map_nil, joinTail_snoc]
    simp only [List.append_assoc]
def lensB (ss : List ByteArray) : Nat := (ss.map (·.size)).sum
theorem jb_size {sep : ByteArray} {B : Nat} : ∀ {ss : List ByteArray}, (∀ s ∈ ss, s.size ≤ B) → (jb sep ss).size ≤ ss.length * (B + sep.size)
  | [], _ => Nat.zero_le _
  | x :: r, h => by
    have e : (jb sep (x :: r)).size = x.size + (Lib.joinTail sep.data.toList (r.map (·.data.toList))).length := by
      simp only [jb, List.map_cons, Lib.join_cons, ByteArray.size, List.size_toArray, List.length_append, Array.length_toList]
    have t : ∀ r : List ByteArray, (∀ s ∈ r, s.size ≤ B) → (Lib.joinTail sep.data.toList (r.map (·.data.toList))).length ≤ r.length * (B + sep.size) := by
      intro r
      induction r with
      | nil => intro _; simp [Lib.joinTail]
      | cons y r ih =>
        intro h
        have h1 := h y (by simp)
        have h2 := ih fun s hs => h s (by simp [hs])
        simp only [Lib.joinTail, List.map_cons, List.flatten_cons, List.length_append, Array.length_toList] at h2 ⊢
        have e1 : sep.data.size = sep.size := rfl
        have e2 : y.data.size = y.size := rfl
        rw [e1, e2, List.length_cons, Nat.succ_mul]
        omega
    have h1 := h x (by simp)
    have h2 := t r fun s hs => h s (by simp [hs])
    rw [e, List.length_cons, Nat.succ_mul]
    omega

/-! strings.Join -/
def cJoin : Contract := ⟨[], false, fun
  | [.one (.sl 1 l), .one (.v (.string sep))] => some (WfL l ∧ l.length ≤ 16777216 ∧ (jb sep (unT l)).size ≤ 140737488355328, [⟨false, [.d (.v (.string (jb sep (unT l))))]⟩], [])
  | _ => none⟩

theorem tL_cells {h : Heap} : ∀ {ss : List ByteArray} {vs : List Value} {G : List Nat}, Reps h (tL ss).flatten vs G → vs = ss.map Value.string
  | [], vs, G, r => by cases r; rfl
  | s :: ss, vs, G, r => by
    simp only [tL, List.map_cons, List.flatten_cons, List.cons_append, List.nil_append] at r
    cases r with
    | v _ r => rw [tL_cells r]; rfl

theorem join_ok : ContractOK E0 103 cJoin := by
  refine ⟨⟨Tryz.f103, Tryz.func103, by kernel_rfl, rfl⟩, ?_⟩
  intro args p rs ms hr hp w vals F Ms ha hnd hF hJ hN hMN
  unfold cJoin at hr
  dsimp only at hr
  split at hr
  · rename_i l sep
    simp only [Option.some.injEq, Prod.mk.injEq] at hr
    obtain ⟨rfl, rfl, rfl⟩ := hr
    obtain ⟨hl, hlen, hsz⟩ := hp
    cases ha with
    | cons h1 h2 =>
      cases h2 with
      | cons h2 h3 =>
        cases h3
        cases h1 with
        | one r1 =>
          cases h2 with
          | one r2 =>
            cases r2 with
            | v _ r2 =>
              cases r2
              have fin : ∀ {e : Ending} {w' : World} {s : ByteArray}, e = .returned (.string s) → s = jb sep (unT l) → Go.RowKit.Below w.heap.size w w' → ∃ v, e = .returned v ∧ ∀ F' Ms', PostOK false w w' F' Ms' [] [⟨false, [.d (.v (.string (jb sep (unT l))))]⟩] [] v := fun {e w' s} he hs hb => by
                subst he hs
                refine ⟨_, rfl, fun F' Ms' => ⟨hb.os, hb.tape, hb.output, hb.size, fun b h1 _ => hb.block b h1, [], [], [], [], ?_, .nil, by simp, by simp, by simp, by simp, by simp⟩⟩
                exact (by simpa using RCsOK.d (.v rfl .nil) .nil : RCsOK w'.heap [.d (.v (.string (jb sep (unT l))))] [.string (jb sep (unT l))] [] [])
              rcases r1.sl_inv with ⟨a0, rfl, rfl, rfl⟩ | ⟨b, off, cap, c, e, fz, G, rfl, a1, a2, a3, a4, a5, a6, rfl⟩
              · refine (Tryz.strings_Join_none a0 0 sep w).mono ?_
                rintro e w' ⟨he, rfl⟩
                obtain ⟨v, h1, h2⟩ := fin (s := ⟨#[]⟩) he rfl (Go.RowKit.Below.refl _ _)
                exact ⟨v, h1, h2 _ _⟩
              · have hl2 := hl.1
                rw [hl2] at a6
                have hcs := tL_cells a6
                have e1 : (tL (unT l)).length = l.length := by rw [← hl2]
                have e2 : (unT l).length = l.length := by rw [← e1, tL_length]
                rw [e1, Nat.mul_one] at hcs
                have := Tryz.strings_Join b off cap (unT l) sep w (fun j x hx => by
                  have hj : j < (unT l).length := (List.getElem?_eq_some_iff.1 hx).1
                  have h3 : ((c.toList.drop off).take l.length)[j]? = some (.string x) := by rw [hcs, List.getElem?_map, hx]; rfl
                  rw [List.getElem?_take_of_lt (by omega), List.getElem?_drop] at h3
                  rw [cell_row rfl a1]
                  simpa using h3) (Array.getElem?_eq_some_iff.1 a1).1 (by omega) (by omega) (by
                    have : (Lib.join ((unT l).map (·.data.toList)) sep.data.toList).length = (jb sep (unT l)).size := by simp [jb, ByteArray.size]
                    rw [this]; exact hsz)
                rw [e2] at this
                refine this.mono ?_
                rintro e w' ⟨he, hb⟩
                obtain ⟨v, h1, h2⟩ := fin he rfl hb
                exact ⟨v, h1, h2 _ _⟩
  · cases hr

/-! SetLine -/
def slL (xs : List Int) : ByteArray := if xs = [] then ⟨#[110, 111, 116, 104, 105, 110, 103]⟩ else jb ⟨#[32]⟩ (xs.map fa)
def cSL : Contract := ⟨[], false, fun
  | [.one (.sl 1 l)] => some (WfI l ∧ l.length ≤ 1048576, [⟨false, [.d (.v (.string (slL (unI l))))]⟩], [])
  | _ => none⟩
theorem jfa_size {xs : List Int} : (jb ⟨#[32]⟩ (xs.map fa)).size ≤ xs.length * 6 := by
  have := jb_size (sep := ⟨#[32]⟩) (B := 5) (ss := xs.map fa) (fun s hs => by obtain ⟨x, _, rfl⟩ := List.mem_map.1 hs; exact fa_size)
  rw [List.length_map] at this
  exact this

theorem slI_ok : ContractOK E0 56 cSL := by
  refine contract_of_wpc (E := E0) (T := mkT Tryz.prog [(102, cFA), (103, cJoin)] false (fun _ => false) true (fun _ => false)) (mkT_ok (E := E0) (.cons faI_ok (.cons join_ok .nil))) (fn := Tryz.f56) Tryz.func56 (by kernel_rfl) rfl mixedT (by kernel_rfl) rfl ?_
  intro args p rs ms hr
  unfold cSL at hr
  dsimp only at hr
  split at hr
  rotate_left
  · cases hr
  rename_i l
  simp only [Option.some.injEq, Prod.mk.injEq] at hr
  obtain ⟨rfl, rfl, rfl⟩ := hr
  refine ⟨rfl, rfl, Nat.le_of_ble_eq_true rfl, ?_⟩
  have hm : maxLen = 9223372036854775807 := rfl
  rintro ⟨h1, h2⟩ bs
  obtain ⟨xs, rfl, hx⟩ := h1.ex
  clear h1
  rw [iL_length] at h2
  rw [unI_iL]
  by_cases h0 : xs = []
  · subst h0
    (repeat' (first
      | (refine gate_a fun _ => ?_)
      | (refine fork_intro (fun hb => ?_) (fun hb => ?_) <;> (try simp only [ew] at hb))
      | (simp only [go_sem, Nat.reduceLeDiff, Nat.reduceEqDiff, reduceIte, reduceCtorEq, Nat.reduceAdd, Nat.reduceMul, Nat.reduceSub, Nat.reduceLT, Int.reduceLT, Int.reduceLE, Int.reduceNeg, Int.reduceToNat, Nat.reduceBEq, Nat.reduceBNe, Int.reduceGE, Int.reduceGT, *, cSL, cFA, cJoin, Tryz.results56])))
    all_goals first | rfl | (simp [iL] at *; done) | skip
  · have e : slL xs = jb ⟨#[32]⟩ (xs.map fa) := by unfold slL; rw [if_neg h0]
    have e0 : ((xs.length : Int) == 0) = false := by
      have : xs.length ≠ 0 := fun h => h0 (List.eq_nil_of_length_eq_zero h)
      rw [beq_eq_false_iff_ne]; omega
    rw [e]
    clear e
    (repeat' (first
      | (refine gate_a fun _ => ?_)
      | (refine fork_intro (fun hb => ?_) (fun hb => ?_) <;> (try simp only [ew] at hb))
      | (simp only [go_sem, Nat.reduceLeDiff, Nat.reduceEqDiff, reduceIte, reduceCtorEq, Nat.reduceAdd, Nat.reduceMul, Nat.reduceSub, Nat.reduceLT, Int.reduceLT, Int.reduceLE, Int.reduceNeg, Int.reduceToNat, Nat.reduceBEq, Nat.reduceBNe, Int.reduceGE, Int.reduceGT, *, cSL, cFA, cJoin, Tryz.results56])))
    refine loop_intro { ι := Nat, rs := [(5, 6), (13, 22)], mods := [(12, fun i => .one (.d (.v (.int .i64 i)))), (3, fun i => .one (.own 1 (tL ((xs.take i).map fa)) 1))], boxes := [], arrs := [], ok := fun i => i ≤ xs.length, mu := fun i => xs.length - i } rfl 0 (Nat.zero_le _) ?_ fun i hi => ?_
    · (repeat' (first
      | (refine gate_a fun _ => ?_)
      | (refine fork_intro (fun hb => ?_) (fun hb => ?_) <;> (try simp only [ew] at hb))
      | (simp only [go_sem, Nat.reduceLeDiff, Nat.reduceEqDiff, reduceIte, reduceCtorEq, Nat.reduceAdd, Nat.reduceMul, Nat.reduceSub, Nat.reduceLT, Int.reduceLT, Int.reduceLE, Int.reduceNeg, Int.reduceToNat, Nat.reduceBEq, Nat.reduceBNe, Int.reduceGE, Int.reduceGT, *, cSL, cFA, cJoin, Tryz.results56])))
      all_goals first | rfl | skip
    · dsimp only at i hi
      have hsz := @jfa_size xs
      by_cases h5 : i < xs.length
      · clear hsz
        (repeat' (first
      | (refine gate_a fun _ => ?_)
      | (refine fork_intro (fun hb => ?_) (fun hb => ?_) <;> (try simp only [ew, List.length_map] at hb))
      | (simp only [go_sem, Nat.reduceLeDiff, Nat.reduceEqDiff, reduceIte, reduceCtorEq, Nat.reduceAdd, Nat.reduceMul, Nat.reduceSub, Nat.reduceLT, Int.reduceLT, Int.reduceLE, Int.reduceNeg, Int.reduceToNat, Nat.reduceBEq, Nat.reduceBNe, Int.reduceGE, Int.reduceGT, *, cSL, cFA, cJoin, Tryz.results56, List.length_map])))
        · have e2 : (xs.take (i + 1)).map fa = (xs.take i).map fa ++ [fa (xs.getD i 0)] := by rw [take_succ_getD h5 0]; simp
          refine loop_next (i + 1) (by dsimp only; omega) (by dsimp only; omega) ?_
          (repeat' (first
      | (refine gate_a fun _ => ?_)
      | (refine fork_intro (fun hb => ?_) (fun hb => ?_) <;> (try simp only [ew, e2] at hb))
      | (simp only [go_sem, Nat.reduceLeDiff, Nat.reduceEqDiff, reduceIte, reduceCtorEq, Nat.reduceAdd, Nat.reduceMul, Nat.reduceSub, Nat.reduceLT, Int.reduceLT, Int.reduceLE, Int.reduceNeg, Int.reduceToNat, Nat.reduceBEq, Nat.reduceBNe, Int.reduceGE, Int.reduceGT, *, cSL, cFA, cJoin, Tryz.results56, e2])))
      · have e5 : i = xs.length := by omega
        subst e5
        have e6 : xs.take xs.length = xs := List.take_length
        (repeat' (first
      | (refine gate_a fun _ => ?_)
      | (refine fork_intro (fun hb => ?_) (fun hb => ?_) <;> (try simp only [ew, List.length_map, e6] at hb))
      | (simp only [go_sem, Nat.reduceLeDiff, Nat.reduceEqDiff, reduceIte, reduceCtorEq, Nat.reduceAdd, Nat.reduceMul, Nat.reduceSub, Nat.reduceLT, Int.reduceLT, Int.reduceLE, Int.reduceNeg, Int.reduceToNat, Nat.reduceBEq, Nat.reduceBNe, Int.reduceGE, Int.reduceGT, *, cSL, cFA, cJoin, Tryz.results56, List.length_map, e6])))

theorem jb_step {α : Type} {sep : ByteArray} {f : α → ByteArray} {xs : List α} {i : Nat} {d : α} (h : i < xs.length) :
    jb sep ((xs.take (i + 1)).map f) = (if i = 0 then jb sep ((xs.take i).map f) else jb sep ((xs.take i).map f) ++ sep) ++ f (xs.getD i d) := by
  rw [take_succ_getD h d, List.map_append, List.map_cons, List.map_nil]
  split
  · subst_vars
    rw [List.take_zero, List.map_nil, List.nil_append, jb_one, jb_nil, empty_app]
  · rw [jb_snoc]
    intro e
    rw [List.map_eq_nil_iff, List.take_eq_nil_iff] at e
    rcases e with e | e
    · omega
    · rw [e] at h; simp at h

theorem jfa_take {xs : List Int} {i : Nat} : (jb ⟨#[32]⟩ ((xs.take i).map fa)).size ≤ i * 6 := by
  have := @jfa_size (xs.take i)
  rw [List.length_take] at this
  have h2 : min i xs.length * 6 ≤ i * 6 := Nat.mul_le_mul_right _ (Nat.min_le_left _ _)
  omega
theorem slS_ok : ContractOK E0 50 cSL := by
  refine contract_of_wpc (E := E0) (T := mkT Tryz.prog [(95, cFA)] false (fun _ => false) true (fun _ => false)) (mkT_ok (E := E0) (.cons faS_ok .nil)) (fn := Tryz.f50) Tryz.func50 (by kernel_rfl) rfl mixedT (by kernel_rfl) rfl ?_
  intro args p rs ms hr
  unfold cSL at hr
  dsimp only at hr
  split at hr
  rotate_left
  · cases hr
  rename_i l
  simp only [Option.some.injEq, Prod.mk.injEq] at hr
  obtain ⟨rfl, rfl, rfl⟩ := hr
  refine ⟨rfl, rfl, Nat.le_of_ble_eq_true rfl, ?_⟩
  have hm : maxLen = 9223372036854775807 := rfl
  rintro ⟨h1, h2⟩ bs
  obtain ⟨xs, rfl, hx⟩ := h1.ex
  clear h1
  rw [iL_length] at h2
  rw [unI_iL]
  (repeat' (first
      | (refine gate_a fun _ => ?_)
      | (refine fork_intro (fun hb => ?_) (fun hb => ?_) <;> (try simp only [ew] at hb))
      | (simp only [go_sem, Nat.reduceLeDiff, Nat.reduceEqDiff, reduceIte, reduceCtorEq, Nat.reduceAdd, Nat.reduceMul, Nat.reduceSub, Nat.reduceLT, Int.reduceLT, Int.reduceLE, Int.reduceNeg, Int.reduceToNat, Nat.reduceBEq, Nat.reduceBNe, Int.reduceGE, Int.reduceGT, *, cSL, cFA, Tryz.results50])))
  refine loop_intro { ι := Nat, rs := [(5, 22)], mods := [(4, fun i => .one (.d (.v (.int .i64 i)))), (3, fun i => .one (.d (.v (.string (jb ⟨#[32]⟩ ((xs.take i).map fa))))))], boxes := [], arrs := [], ok := fun i => i ≤ xs.length, mu := fun i => xs.length - i } rfl 0 (Nat.zero_le _) ?_ fun i hi => ?_
  · (repeat' (first
      | (refine gate_a fun _ => ?_)
      | (refine fork_intro (fun hb => ?_) (fun hb => ?_) <;> (try simp only [ew] at hb))
      | (simp only [go_sem, Nat.reduceLeDiff, Nat.reduceEqDiff, reduceIte, reduceCtorEq, Nat.reduceAdd, Nat.reduceMul, Nat.reduceSub, Nat.reduceLT, Int.reduceLT, Int.reduceLE, Int.reduceNeg, Int.reduceToNat, Nat.reduceBEq, Nat.reduceBNe, Int.reduceGE, Int.reduceGT, *, cSL, cFA, Tryz.results50])))
    all_goals first | rfl | skip
  · dsimp only at i hi
    have hsz := @jfa_take xs i
    have hf := @fa_size (xs.getD i 0)
    by_cases h5 : i < xs.length
    · have hs := jb_step (sep := ⟨#[32]⟩) (f := fa) (d := 0) h5
      by_cases h0 : i = 0
      · subst h0
        rw [if_pos rfl] at hs
        have e0 : decide ((0 : Int) > 0) = false := by decide
        have z0 : (jb ⟨#[32]⟩ []).size = 0 := rfl
        rw [List.take_zero, List.map_nil] at hs
        rw [Nat.zero_add] at hs
        clear hsz
        (repeat' (first
      | (refine gate_a fun _ => ?_)
      | (refine fork_intro (fun hb => ?_) (fun hb => ?_) <;> (try simp only [ew, e0, sp_size, size_app, z0] at hb))
      | (simp only [go_sem, Nat.reduceLeDiff, Nat.reduceEqDiff, reduceIte, reduceCtorEq, Nat.reduceAdd, Nat.reduceMul, Nat.reduceSub, Nat.reduceLT, Int.reduceLT, Int.reduceLE, Int.reduceNeg, Int.reduceToNat, Nat.reduceBEq, Nat.reduceBNe, Int.reduceGE, Int.reduceGT, *, cSL, cFA, Tryz.results50, e0, sp_size, size_app, z0])))
        · refine loop_next 1 (by dsimp only; omega) (by dsimp only; omega) ?_
          clear hf
          (repeat' (first
      | (refine gate_a fun _ => ?_)
      | (refine fork_intro (fun hb => ?_) (fun hb => ?_) <;> (try simp only [ew, hs] at hb))
      | (simp only [go_sem, Nat.reduceLeDiff, Nat.reduceEqDiff, reduceIte, reduceCtorEq, Nat.reduceAdd, Nat.reduceMul, Nat.reduceSub, Nat.reduceLT, Int.reduceLT, Int.reduceLE, Int.reduceNeg, Int.reduceToNat, Nat.reduceBEq, Nat.reduceBNe, Int.reduceGE, Int.reduceGT, *, cSL, cFA, Tryz.results50, hs])))
          all_goals first | omega | skip
        all_goals (exfalso; omega)
      · rw [if_neg h0] at hs
        have e0 : decide ((i : Int) > 0) = true := decide_eq_true (by omega)
        (repeat' (first
      | (refine gate_a fun _ => ?_)
      | (refine fork_intro (fun hb => ?_) (fun hb => ?_) <;> (try simp only [ew, e0, sp_size, size_app] at hb))
      | (simp only [go_sem, Nat.reduceLeDiff, Nat.reduceEqDiff, reduceIte, reduceCtorEq, Nat.reduceAdd, Nat.reduceMul, Nat.reduceSub, Nat.reduceLT, Int.reduceLT, Int.reduceLE, Int.reduceNeg, Int.reduceToNat, Nat.reduceBEq, Nat.reduceBNe, Int.reduceGE, Int.reduceGT, *, cSL, cFA, Tryz.results50, e0, sp_size, size_app])))
        · refine loop_next (i + 1) (by dsimp only; omega) (by dsimp only; omega) ?_
          clear hsz hf e0
          (repeat' (first
      | (refine gate_a fun _ => ?_)
      | (refine fork_intro (fun hb => ?_) (fun hb => ?_) <;> (try simp only [ew, hs] at hb))
      | (simp only [go_sem, Nat.reduceLeDiff, Nat.reduceEqDiff, reduceIte, reduceCtorEq, Nat.reduceAdd, Nat.reduceMul, Nat.reduceSub, Nat.reduceLT, Int.reduceLT, Int.reduceLE, Int.reduceNeg, Int.reduceToNat, Nat.reduceBEq, Nat.reduceBNe, Int.reduceGE, Int.reduceGT, *, cSL, cFA, Tryz.results50, hs])))
        all_goals (exfalso; omega)
    · have e5 : i = xs.length := by omega
      subst e5
      have e6 : xs.take xs.length = xs := List.take_length
      clear hsz hf
      (repeat' (first
      | (refine gate_a fun _ => ?_)
      | (refine fork_intro (fun hb => ?_) (fun hb => ?_) <;> (try simp only [ew, e6] at hb))
      | (simp only [go_sem, Nat.reduceLeDiff, Nat.reduceEqDiff, reduceIte, reduceCtorEq, Nat.reduceAdd, Nat.reduceMul, Nat.reduceSub, Nat.reduceLT, Int.reduceLT, Int.reduceLE, Int.reduceNeg, Int.reduceToNat, Nat.reduceBEq, Nat.reduceBNe, Int.reduceGE, Int.reduceGT, *, cSL, cFA, Tryz.results50, e6])))
      · have h0 : xs = [] := List.eq_nil_of_length_eq_zero (by omega)
        unfold slL; rw [if_pos h0]
      · have h0 : ¬ xs = [] := fun e => ‹¬ (xs.length : Int) = 0› (by rw [e]; rfl)
        unfold slL; rw [if_neg h0]

/-! The law of SetLine. -/
theorem slL_size {xs : List Int} : (slL xs).size ≤ xs.length * 6 + 7 := by
  unfold slL
  split
  · show 7 ≤ _; omega
  · have := @jfa_size xs; omega

def cLawIS : Contract := ⟨[], false, fun
  | [.one (.sl 1 l)] => some (WfI l, [⟨false, [.d (.v (.bool true))]⟩], [])
  | _ => none⟩

end Go.Own
