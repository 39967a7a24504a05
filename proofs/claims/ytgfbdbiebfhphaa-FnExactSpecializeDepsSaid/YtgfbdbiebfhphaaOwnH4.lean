import Derived.Test.YtgfbdbiebfhphaaOwnH3
namespace Go.Own
open Go Go.Proofs
set_option linter.unusedSimpArgs false
set_option linter.unusedVariables false
set_option maxRecDepth 20000
set_option maxHeartbeats 2000000

attribute [local go_sem] unD_dL dL_length dL_get dL_set dL_inj wfD_dL scal2 beq2 pair_eta

/-! The columns that are in a key of a set. -/
def pqB (ds : List (Int × Int)) (set x : Int) : Bool := insB x set && insB set (clo ds x)
def prL (M : Nat) (ds : List (Int × Int)) (set : Int) : List Int := (rng M).filter (pqB ds set)
def orL (l : List Int) : Int := l.foldl (fun a x => bitI .or .i64 a x) 0
def primeL (n : Int) (ds : List (Int × Int)) (set : Int) : Int := orL (selS minT1 (prL (2 ^ n.toNat) ds set))
theorem orr_key : ∀ x y : Fin 32, 0 ≤ bitI .or .i64 ((x.val : Nat) : Int) ((y.val : Nat) : Int) ∧ bitI .or .i64 ((x.val : Nat) : Int) ((y.val : Nat) : Int) ≤ 31 := by decide +kernel
theorem or_R {x y : Int} (hx : R5 x) (hy : R5 y) : R5 (bitI .or .i64 x y) := by
  obtain ⟨x, rfl⟩ := hx.fin; obtain ⟨y, rfl⟩ := hy.fin
  exact orr_key x y
theorem foldl_or_R : ∀ {l : List Int} {a : Int}, R5 a → (∀ x ∈ l, R5 x) → R5 (l.foldl (fun a x => bitI .or .i64 a x) a)
  | [], a, h, _ => h
  | x :: l, a, h, hl => foldl_or_R (l := l) (or_R h (hl x (by simp))) fun y hy => hl y (by simp [hy])
theorem orL_R {l : List Int} (hl : ∀ x ∈ l, R5 x) : R5 (orL l) := foldl_or_R ⟨by decide, by decide⟩ hl
theorem orL_snoc {l : List Int} {x : Int} : orL (l ++ [x]) = bitI .or .i64 (orL l) x := by unfold orL; rw [List.foldl_append]; rfl
theorem ins_le_key : ∀ x s : Fin 32, insB ((x.val : Nat) : Int) ((s.val : Nat) : Int) = true → x.val ≤ s.val := by decide +kernel
theorem ins_le {x s : Int} (hx : R5 x) (hs : R5 s) (h : insB x s = true) : x ≤ s := by
  obtain ⟨x, rfl⟩ := hx.fin; obtain ⟨s, rfl⟩ := hs.fin
  have := ins_le_key x s h
  omega
theorem rng_filter {p : Int → Bool} : ∀ {M N : Nat}, N ≤ M → (∀ x : Nat, N ≤ x → x < M → p x = false) → (rng M).filter p = (rng N).filter p
  | 0, N, h, _ => by obtain rfl : N = 0 := by omega
                     rfl
  | M + 1, N, h, hp => by
    by_cases e : N = M + 1
    · rw [e]
    · rw [rng_succ, List.filter_append, List.filter_cons, hp M (by omega) (by omega), if_neg (by decide), List.filter_nil, List.append_nil]
      exact rng_filter (by omega) fun x h1 h2 => hp x h1 (by omega)
theorem attr_pow {n : Nat} {set : Int} (h : isAttr n set = true) : set < ((2 ^ n : Nat) : Int) := by
  simp only [isAttr, Bool.and_eq_true, inB_iff, all2, Int.toNat_natCast, Int.one_mul] at h
  have : ((2 ^ n : Nat) : Int) = (2 : Int) ^ n := by simp
  omega
theorem prL_set {n : Nat} {ds : List (Int × Int)} {set : Int} (h : isAttr n set = true) : prL (2 ^ n) ds set = (rng (set.toNat + 1)).filter (pqB ds set) := by
  obtain ⟨_, n5, s0, s31⟩ := isAttr_le h
  have h1 := attr_pow h
  have hM2 : 2 ^ n ≤ 32 := Nat.le_trans (Nat.pow_le_pow_right (by omega) (show n ≤ 5 by omega)) (by decide)
  refine rng_filter (by omega) fun x hx1 hx2 => ?_
  rw [← Bool.not_eq_true]
  intro hq
  simp only [pqB, Bool.and_eq_true] at hq
  have := ins_le (x := (x : Int)) (s := set) ⟨by omega, by omega⟩ ⟨s0, s31⟩ hq.1
  omega
theorem prL_len {M : Nat} {ds : List (Int × Int)} {set : Int} : (prL M ds set).length ≤ M := by
  have := List.length_filter_le (pqB ds set) (rng M)
  rw [rng_length] at this
  exact this
theorem rng_filter_succ {p : Int → Bool} {x : Nat} : (rng (x + 1)).filter p = (rng x).filter p ++ (if p x then [(x : Int)] else []) := by
  rw [rng_succ, List.filter_append, List.filter_cons, List.filter_nil]
theorem rng_filter_len {p : Int → Bool} {x : Nat} : ((rng x).filter p).length ≤ x := by
  have := List.length_filter_le p (rng x)
  rw [rng_length] at this
  exact this
theorem sel_at {t : Int → Int → Bool} {l : List Int} {i : Nat} (h : i < (selS t l).length) : 0 ≤ (selS t l).getD i 0 ∧ (selS t l).getD i 0 ≤ 31 := by
  have := isAttr_le (selS_mem (getD_mem h 0)).2
  exact this.2.2
theorem primeL_R {n : Int} {ds : List (Int × Int)} {set : Int} : R5 (primeL n ds set) := orL_R fun x hx => by
  have := isAttr_le (selS_mem hx).2
  exact this.2.2
def cPrime : Contract := ⟨[], false, fun
  | [.one (.v (.int .i64 n)), .one (.sl 2 l), .one (.v (.int .i64 set))] => some (WfD l ∧ depsOK n (unD l) = true ∧ isAttr n set = true, [⟨false, [.d (.v (.int .i64 (primeL n (unD l) set)))]⟩], [])
  | _ => none⟩
theorem primeI_ok : ContractOK E0 75 cPrime := by
  refine contract_of_wpc (E := E0) (T := mkT Try.prog [(47, cInside), (78, cClo), (108, cMinS)] false (fun _ => false) true (fun _ => false)) (mkT_ok (E := E0) (.cons inside_ok (.cons cloImpl_ok (.cons minSI_ok .nil)))) (fn := Try.f75) Try.func75 (by kernel_rfl) rfl mixedT (by kernel_rfl) rfl ?_
  intro args p rs ms hr
  unfold cPrime at hr
  dsimp only at hr
  split at hr
  rotate_left
  · cases hr
  rename_i n l set
  simp only [Option.some.injEq, Prod.mk.injEq] at hr
  obtain ⟨rfl, rfl, rfl⟩ := hr
  refine ⟨rfl, rfl, Nat.le_of_ble_eq_true rfl, ?_⟩
  have hm : maxLen = 9223372036854775807 := rfl
  rintro ⟨h1, hv1, hv2⟩ bs
  obtain ⟨ds, rfl, hx⟩ := h1.ex
  clear h1
  rw [unD_dL] at hv1 ⊢
  have hd := depsOK_R hv1
  obtain ⟨n0, n5, s0, s31⟩ := isAttr_le hv2
  obtain ⟨c, rfl⟩ := Int.eq_ofNat_of_zero_le n0
  unfold primeL
  rw [Int.toNat_natCast]
  have hM2 : 2 ^ c ≤ 32 := Nat.le_trans (Nat.pow_le_pow_right (by omega) (show c ≤ 5 by omega)) (by decide)
  have hM : 1 * (2 : Int) ^ c = ((2 ^ c : Nat) : Int) := by simp
  generalize 2 ^ c = M at hM2 hM ⊢
  clear hv1 hv2
  (repeat' (first
      | (refine gate_a fun _ => ?_)
      | (refine fork_intro (fun hb => ?_) (fun hb => ?_) <;> (try simp only [ew, bits64] at hb))
      | (simp only [go_sem, Nat.reduceLeDiff, Nat.reduceEqDiff, reduceIte, reduceCtorEq, Nat.reduceAdd, Nat.reduceMul, Nat.reduceSub, Nat.reduceLT, Int.reduceLT, Int.reduceLE, Int.reduceNeg, Int.reduceToNat, Nat.reduceBEq, Nat.reduceBNe, Int.reduceGE, Int.reduceGT, *, cPrime, cInside, cClo, cMinS, Try.results75, bits64])))
  refine loop_intro { ι := Nat, rs := [(13, 33)], mods := [(8, fun x => .one (.d (.v (.int .i64 x)))), (7, fun x => .one (.own 1 (iL ((rng x).filter (pqB ds set))) 1))], boxes := [], arrs := [], ok := fun x => x ≤ M, mu := fun x => M - x } rfl 0 (Nat.zero_le _) ?_ fun x hx => ?_
  · (repeat' (first
      | (refine gate_a fun _ => ?_)
      | (refine fork_intro (fun hb => ?_) (fun hb => ?_) <;> (try simp only [ew] at hb))
      | (simp only [go_sem, Nat.reduceLeDiff, Nat.reduceEqDiff, reduceIte, reduceCtorEq, Nat.reduceAdd, Nat.reduceMul, Nat.reduceSub, Nat.reduceLT, Int.reduceLT, Int.reduceLE, Int.reduceNeg, Int.reduceToNat, Nat.reduceBEq, Nat.reduceBNe, Int.reduceGE, Int.reduceGT, *, cPrime, cInside, cClo, cMinS, Try.results75])))
    all_goals first | rfl | skip
  · dsimp only at x hx
    have l1 := @rng_filter_len (pqB ds set) x
    by_cases h5 : x < M
    · have l2 : ((rng x).filter (pqB ds set)).length ≤ 32 := by omega
      have eS := @rng_filter_succ (pqB ds set) x
      generalize hZ : (rng x).filter (pqB ds set) = Z at l1 l2 eS
      have eq : pqB ds set x = ((bitI .andNot .i64 (x : Int) set == 0) && (bitI .andNot .i64 set (clo ds x) == 0)) := rfl
      cases hq : pqB ds set x
      · rw [hq] at eq eS
        rw [if_neg (by decide), List.append_nil] at eS
        replace eq := eq.symm
        clear hq
        (repeat' (first
      | (refine gate_a fun _ => ?_)
      | (refine fork_intro (fun hb => ?_) (fun hb => ?_) <;> (try simp only [ew, hM, bits64, hZ, eq] at hb))
      | (simp only [go_sem, Nat.reduceLeDiff, Nat.reduceEqDiff, reduceIte, reduceCtorEq, Nat.reduceAdd, Nat.reduceMul, Nat.reduceSub, Nat.reduceLT, Int.reduceLT, Int.reduceLE, Int.reduceNeg, Int.reduceToNat, Nat.reduceBEq, Nat.reduceBNe, Int.reduceGE, Int.reduceGT, *, cPrime, cInside, cClo, cMinS, Try.results75, hM, bits64, hZ, eq])))
        refine loop_next (x + 1) (by dsimp only; omega) (by dsimp only; omega) ?_
        clear eq
        (repeat' (first
      | (refine gate_a fun _ => ?_)
      | (refine fork_intro (fun hb => ?_) (fun hb => ?_) <;> (try simp only [ew, eS, hZ] at hb))
      | (simp only [go_sem, Nat.reduceLeDiff, Nat.reduceEqDiff, reduceIte, reduceCtorEq, Nat.reduceAdd, Nat.reduceMul, Nat.reduceSub, Nat.reduceLT, Int.reduceLT, Int.reduceLE, Int.reduceNeg, Int.reduceToNat, Nat.reduceBEq, Nat.reduceBNe, Int.reduceGE, Int.reduceGT, *, cPrime, cInside, cClo, cMinS, Try.results75, eS, hZ])))
      · rw [hq] at eq eS
        rw [if_pos rfl] at eS
        replace eq := eq.symm
        clear hq
        (repeat' (first
      | (refine gate_a fun _ => ?_)
      | (refine fork_intro (fun hb => ?_) (fun hb => ?_) <;> (try simp only [ew, hM, bits64, hZ, eq, iL_snoc] at hb))
      | (simp only [go_sem, Nat.reduceLeDiff, Nat.reduceEqDiff, reduceIte, reduceCtorEq, Nat.reduceAdd, Nat.reduceMul, Nat.reduceSub, Nat.reduceLT, Int.reduceLT, Int.reduceLE, Int.reduceNeg, Int.reduceToNat, Nat.reduceBEq, Nat.reduceBNe, Int.reduceGE, Int.reduceGT, *, cPrime, cInside, cClo, cMinS, Try.results75, hM, bits64, hZ, eq, iL_snoc])))
        refine loop_next (x + 1) (by dsimp only; omega) (by dsimp only; omega) ?_
        clear eq
        (repeat' (first
      | (refine gate_a fun _ => ?_)
      | (refine fork_intro (fun hb => ?_) (fun hb => ?_) <;> (try simp only [ew, eS, hZ, iL_snoc] at hb))
      | (simp only [go_sem, Nat.reduceLeDiff, Nat.reduceEqDiff, reduceIte, reduceCtorEq, Nat.reduceAdd, Nat.reduceMul, Nat.reduceSub, Nat.reduceLT, Int.reduceLT, Int.reduceLE, Int.reduceNeg, Int.reduceToNat, Nat.reduceBEq, Nat.reduceBNe, Int.reduceGE, Int.reduceGT, *, cPrime, cInside, cClo, cMinS, Try.results75, eS, hZ, iL_snoc])))
    · have e5 : x = M := by omega
      subst e5
      have l2 : ((rng x).filter (pqB ds set)).length ≤ maxLen := Nat.le_trans l1 (Nat.le_trans hM2 (by decide))
      have e3 : (rng x).filter (pqB ds set) = prL x ds set := rfl
      rw [e3] at l2
      clear hd
      (repeat' (first
      | (refine gate_a fun _ => ?_)
      | (refine fork_intro (fun hb => ?_) (fun hb => ?_) <;> (try simp only [ew, hM, bits64, e3] at hb))
      | (simp only [go_sem, Nat.reduceLeDiff, Nat.reduceEqDiff, reduceIte, reduceCtorEq, Nat.reduceAdd, Nat.reduceMul, Nat.reduceSub, Nat.reduceLT, Int.reduceLT, Int.reduceLE, Int.reduceNeg, Int.reduceToNat, Nat.reduceBEq, Nat.reduceBNe, Int.reduceGE, Int.reduceGT, *, cPrime, cInside, cClo, cMinS, Try.results75, hM, bits64, e3])))
      have p1 := @selS_length minT1 (prL x ds set)
      have p2 := fun i => @sel_at minT1 (prL x ds set) i
      generalize hS : selS minT1 (prL x ds set) = S at p1 p2
      refine loop_intro { ι := Nat, rs := [(11, 12), (37, 44)], mods := [(36, fun i => .one (.d (.v (.int .i64 i)))), (9, fun i => .one (.d (.v (.int .i64 (orL (S.take i))))))], boxes := [], arrs := [(34, fun _ => (1, iL S, 1))], ok := fun i => i ≤ S.length, mu := fun i => S.length - i } rfl 0 (Nat.zero_le _) ?_ fun i hi => ?_
      · clear p2
        (repeat' (first
      | (refine gate_a fun _ => ?_)
      | (refine fork_intro (fun hb => ?_) (fun hb => ?_) <;> (try simp only [ew, hS] at hb))
      | (simp only [go_sem, Nat.reduceLeDiff, Nat.reduceEqDiff, reduceIte, reduceCtorEq, Nat.reduceAdd, Nat.reduceMul, Nat.reduceSub, Nat.reduceLT, Int.reduceLT, Int.reduceLE, Int.reduceNeg, Int.reduceToNat, Nat.reduceBEq, Nat.reduceBNe, Int.reduceGE, Int.reduceGT, *, cPrime, cInside, cClo, cMinS, Try.results75, hS])))
        all_goals first | rfl | skip
      · dsimp only at i hi
        by_cases h6 : i < S.length
        · have hp := p2 i h6
          have hs := @orL_snoc (S.take i) (S.getD i 0)
          rw [← take_succ_getD h6 0] at hs
          clear p2
          (repeat' (first
      | (refine gate_a fun _ => ?_)
      | (refine fork_intro (fun hb => ?_) (fun hb => ?_) <;> (try simp only [ew] at hb))
      | (simp only [go_sem, Nat.reduceLeDiff, Nat.reduceEqDiff, reduceIte, reduceCtorEq, Nat.reduceAdd, Nat.reduceMul, Nat.reduceSub, Nat.reduceLT, Int.reduceLT, Int.reduceLE, Int.reduceNeg, Int.reduceToNat, Nat.reduceBEq, Nat.reduceBNe, Int.reduceGE, Int.reduceGT, *, cPrime, cInside, cClo, cMinS, Try.results75])))
          refine loop_next (i + 1) (by dsimp only; omega) (by dsimp only; omega) ?_
          (repeat' (first
      | (refine gate_a fun _ => ?_)
      | (refine fork_intro (fun hb => ?_) (fun hb => ?_) <;> (try simp only [ew, hs] at hb))
      | (simp only [go_sem, Nat.reduceLeDiff, Nat.reduceEqDiff, reduceIte, reduceCtorEq, Nat.reduceAdd, Nat.reduceMul, Nat.reduceSub, Nat.reduceLT, Int.reduceLT, Int.reduceLE, Int.reduceNeg, Int.reduceToNat, Nat.reduceBEq, Nat.reduceBNe, Int.reduceGE, Int.reduceGT, *, cPrime, cInside, cClo, cMinS, Try.results75, hs])))
        · have e6 : i = S.length := by omega
          subst e6
          have e7 : S.take S.length = S := List.take_length
          clear p2
          (repeat' (first
      | (refine gate_a fun _ => ?_)
      | (refine fork_intro (fun hb => ?_) (fun hb => ?_) <;> (try simp only [ew, e7] at hb))
      | (simp only [go_sem, Nat.reduceLeDiff, Nat.reduceEqDiff, reduceIte, reduceCtorEq, Nat.reduceAdd, Nat.reduceMul, Nat.reduceSub, Nat.reduceLT, Int.reduceLT, Int.reduceLE, Int.reduceNeg, Int.reduceToNat, Nat.reduceBEq, Nat.reduceBNe, Int.reduceGE, Int.reduceGT, *, cPrime, cInside, cClo, cMinS, Try.results75, e7])))
          all_goals first | (rw [hS]; done) | rfl | skip

theorem primeS_ok : ContractOK E0 71 cPrime := by
  refine contract_of_wpc (E := E0) (T := mkT Try.prog [(73, cClo), (102, cMinS)] false (fun _ => false) true (fun _ => false)) (mkT_ok (E := E0) (.cons cloSpec_ok (.cons minS_ok .nil))) (fn := Try.f71) Try.func71 (by kernel_rfl) rfl mixedT (by kernel_rfl) rfl ?_
  intro args p rs ms hr
  unfold cPrime at hr
  dsimp only at hr
  split at hr
  rotate_left
  · cases hr
  rename_i n l set
  simp only [Option.some.injEq, Prod.mk.injEq] at hr
  obtain ⟨rfl, rfl, rfl⟩ := hr
  refine ⟨rfl, rfl, Nat.le_of_ble_eq_true rfl, ?_⟩
  have hm : maxLen = 9223372036854775807 := rfl
  rintro ⟨h1, hv1, hv2⟩ bs
  obtain ⟨ds, rfl, hx⟩ := h1.ex
  clear h1
  rw [unD_dL] at hv1 ⊢
  have hd := depsOK_R hv1
  obtain ⟨n0, n5, s0, s31⟩ := isAttr_le hv2
  obtain ⟨c, rfl⟩ := Int.eq_ofNat_of_zero_le n0
  obtain ⟨q, rfl⟩ := Int.eq_ofNat_of_zero_le s0
  unfold primeL
  rw [Int.toNat_natCast, prL_set hv2, Int.toNat_natCast]
  clear hv1 hv2
  (repeat' (first
      | (refine gate_a fun _ => ?_)
      | (refine fork_intro (fun hb => ?_) (fun hb => ?_) <;> (try simp only [ew] at hb))
      | (simp only [go_sem, Nat.reduceLeDiff, Nat.reduceEqDiff, reduceIte, reduceCtorEq, Nat.reduceAdd, Nat.reduceMul, Nat.reduceSub, Nat.reduceLT, Int.reduceLT, Int.reduceLE, Int.reduceNeg, Int.reduceToNat, Nat.reduceBEq, Nat.reduceBNe, Int.reduceGE, Int.reduceGT, *, cPrime, cClo, cMinS, Try.results71])))
  refine loop_intro { ι := Nat, rs := [(12, 35)], mods := [(8, fun x => .one (.d (.v (.int .i64 x)))), (7, fun x => .one (.own 1 (iL ((rng x).filter (pqB ds q))) 1))], boxes := [], arrs := [], ok := fun x => x ≤ q + 1, mu := fun x => q + 1 - x } rfl 0 (Nat.zero_le _) ?_ fun x hx => ?_
  · (repeat' (first
      | (refine gate_a fun _ => ?_)
      | (refine fork_intro (fun hb => ?_) (fun hb => ?_) <;> (try simp only [ew] at hb))
      | (simp only [go_sem, Nat.reduceLeDiff, Nat.reduceEqDiff, reduceIte, reduceCtorEq, Nat.reduceAdd, Nat.reduceMul, Nat.reduceSub, Nat.reduceLT, Int.reduceLT, Int.reduceLE, Int.reduceNeg, Int.reduceToNat, Nat.reduceBEq, Nat.reduceBNe, Int.reduceGE, Int.reduceGT, *, cPrime, cClo, cMinS, Try.results71])))
    all_goals first | rfl | skip
  · dsimp only at x hx
    have l1 := @rng_filter_len (pqB ds q) x
    by_cases h5 : x < q + 1
    · have h5' : decide (x ≤ q) = true := decide_eq_true (by omega)
      have l2 : ((rng x).filter (pqB ds q)).length ≤ 32 := by omega
      have eS := @rng_filter_succ (pqB ds q) x
      generalize hZ : (rng x).filter (pqB ds q) = Z at l1 l2 eS
      have hR := clo_R hd (show R5 (x : Int) from ⟨by omega, by omega⟩)
      have e1 := and_ins (l := (x : Int)) (x := (q : Int)) ⟨by omega, by omega⟩ ⟨s0, s31⟩
      have e2 : (bitI .and .i64 (clo ds x) (q : Int) == (q : Int)) = insB q (clo ds x) := by
        have := and_ins2 (l := (q : Int)) (x := clo ds x) ⟨s0, s31⟩ hR
        rw [bne] at this
        simpa using this
      have eq : pqB ds q x = (insB x q && insB q (clo ds x)) := rfl
      cases hq : pqB ds q x
      · rw [hq] at eq eS
        rw [if_neg (by decide), List.append_nil] at eS
        replace eq := eq.symm
        clear hq
        (repeat' (first
      | (refine gate_a fun _ => ?_)
      | (refine fork_intro (fun hb => ?_) (fun hb => ?_) <;> (try simp only [ew, hZ, e1, e2, eq, h5'] at hb))
      | (simp only [go_sem, Nat.reduceLeDiff, Nat.reduceEqDiff, reduceIte, reduceCtorEq, Nat.reduceAdd, Nat.reduceMul, Nat.reduceSub, Nat.reduceLT, Int.reduceLT, Int.reduceLE, Int.reduceNeg, Int.reduceToNat, Nat.reduceBEq, Nat.reduceBNe, Int.reduceGE, Int.reduceGT, *, cPrime, cClo, cMinS, Try.results71, hZ, e1, e2, eq, h5'])))
        refine loop_next (x + 1) (by dsimp only; omega) (by dsimp only; omega) ?_
        clear eq
        (repeat' (first
      | (refine gate_a fun _ => ?_)
      | (refine fork_intro (fun hb => ?_) (fun hb => ?_) <;> (try simp only [ew, eS, hZ] at hb))
      | (simp only [go_sem, Nat.reduceLeDiff, Nat.reduceEqDiff, reduceIte, reduceCtorEq, Nat.reduceAdd, Nat.reduceMul, Nat.reduceSub, Nat.reduceLT, Int.reduceLT, Int.reduceLE, Int.reduceNeg, Int.reduceToNat, Nat.reduceBEq, Nat.reduceBNe, Int.reduceGE, Int.reduceGT, *, cPrime, cClo, cMinS, Try.results71, eS, hZ])))
      · rw [hq] at eq eS
        rw [if_pos rfl] at eS
        replace eq := eq.symm
        clear hq
        (repeat' (first
      | (refine gate_a fun _ => ?_)
      | (refine fork_intro (fun hb => ?_) (fun hb => ?_) <;> (try simp only [ew, hZ, e1, e2, eq, h5', iL_snoc] at hb))
      | (simp only [go_sem, Nat.reduceLeDiff, Nat.reduceEqDiff, reduceIte, reduceCtorEq, Nat.reduceAdd, Nat.reduceMul, Nat.reduceSub, Nat.reduceLT, Int.reduceLT, Int.reduceLE, Int.reduceNeg, Int.reduceToNat, Nat.reduceBEq, Nat.reduceBNe, Int.reduceGE, Int.reduceGT, *, cPrime, cClo, cMinS, Try.results71, hZ, e1, e2, eq, h5', iL_snoc])))
        refine loop_next (x + 1) (by dsimp only; omega) (by dsimp only; omega) ?_
        clear eq
        (repeat' (first
      | (refine gate_a fun _ => ?_)
      | (refine fork_intro (fun hb => ?_) (fun hb => ?_) <;> (try simp only [ew, eS, hZ, iL_snoc] at hb))
      | (simp only [go_sem, Nat.reduceLeDiff, Nat.reduceEqDiff, reduceIte, reduceCtorEq, Nat.reduceAdd, Nat.reduceMul, Nat.reduceSub, Nat.reduceLT, Int.reduceLT, Int.reduceLE, Int.reduceNeg, Int.reduceToNat, Nat.reduceBEq, Nat.reduceBNe, Int.reduceGE, Int.reduceGT, *, cPrime, cClo, cMinS, Try.results71, eS, hZ, iL_snoc])))
    · have e5 : x = q + 1 := by omega
      subst e5
      have h5' : decide (q + 1 ≤ q) = false := decide_eq_false (by omega)
      generalize hZ : (rng (q + 1)).filter (pqB ds q) = Z at l1
      have l2 : Z.length ≤ maxLen := Nat.le_trans l1 (Nat.le_trans (show q + 1 ≤ 32 by omega) (by decide))
      clear hd
      (repeat' (first
      | (refine gate_a fun _ => ?_)
      | (refine fork_intro (fun hb => ?_) (fun hb => ?_) <;> (try simp only [ew, hZ, h5'] at hb))
      | (simp only [go_sem, Nat.reduceLeDiff, Nat.reduceEqDiff, reduceIte, reduceCtorEq, Nat.reduceAdd, Nat.reduceMul, Nat.reduceSub, Nat.reduceLT, Int.reduceLT, Int.reduceLE, Int.reduceNeg, Int.reduceToNat, Nat.reduceBEq, Nat.reduceBNe, Int.reduceGE, Int.reduceGT, *, cPrime, cClo, cMinS, Try.results71, hZ, h5'])))
      have p1 := @selS_length minT1 Z
      have p2 := fun i => @sel_at minT1 Z i
      generalize hS : selS minT1 Z = S at p1 p2
      have p3 : S.length ≤ maxLen := Nat.le_trans p1 (by decide)
      refine loop_intro { ι := Nat, rs := [(37, 49)], mods := [(10, fun i => .one (.d (.v (.int .i64 i)))), (9, fun i => .one (.d (.v (.int .i64 (orL (S.take i))))))], boxes := [], arrs := [(7, fun _ => (1, iL S, 1))], ok := fun i => i ≤ S.length, mu := fun i => S.length - i } rfl 0 (Nat.zero_le _) ?_ fun i hi => ?_
      · clear p2
        (repeat' (first
      | (refine gate_a fun _ => ?_)
      | (refine fork_intro (fun hb => ?_) (fun hb => ?_) <;> (try simp only [ew, hS] at hb))
      | (simp only [go_sem, Nat.reduceLeDiff, Nat.reduceEqDiff, reduceIte, reduceCtorEq, Nat.reduceAdd, Nat.reduceMul, Nat.reduceSub, Nat.reduceLT, Int.reduceLT, Int.reduceLE, Int.reduceNeg, Int.reduceToNat, Nat.reduceBEq, Nat.reduceBNe, Int.reduceGE, Int.reduceGT, *, cPrime, cClo, cMinS, Try.results71, hS])))
        all_goals first | rfl | skip
      · dsimp only at i hi
        by_cases h6 : i < S.length
        · have hp := p2 i h6
          have hs := @orL_snoc (S.take i) (S.getD i 0)
          rw [← take_succ_getD h6 0] at hs
          clear p2
          (repeat' (first
      | (refine gate_a fun _ => ?_)
      | (refine fork_intro (fun hb => ?_) (fun hb => ?_) <;> (try simp only [ew] at hb))
      | (simp only [go_sem, Nat.reduceLeDiff, Nat.reduceEqDiff, reduceIte, reduceCtorEq, Nat.reduceAdd, Nat.reduceMul, Nat.reduceSub, Nat.reduceLT, Int.reduceLT, Int.reduceLE, Int.reduceNeg, Int.reduceToNat, Nat.reduceBEq, Nat.reduceBNe, Int.reduceGE, Int.reduceGT, *, cPrime, cClo, cMinS, Try.results71])))
          refine loop_next (i + 1) (by dsimp only; omega) (by dsimp only; omega) ?_
          (repeat' (first
      | (refine gate_a fun _ => ?_)
      | (refine fork_intro (fun hb => ?_) (fun hb => ?_) <;> (try simp only [ew, hs] at hb))
      | (simp only [go_sem, Nat.reduceLeDiff, Nat.reduceEqDiff, reduceIte, reduceCtorEq, Nat.reduceAdd, Nat.reduceMul, Nat.reduceSub, Nat.reduceLT, Int.reduceLT, Int.reduceLE, Int.reduceNeg, Int.reduceToNat, Nat.reduceBEq, Nat.reduceBNe, Int.reduceGE, Int.reduceGT, *, cPrime, cClo, cMinS, Try.results71, hs])))
        · have e6 : i = S.length := by omega
          subst e6
          have e7 : S.take S.length = S := List.take_length
          clear p2
          (repeat' (first
      | (refine gate_a fun _ => ?_)
      | (refine fork_intro (fun hb => ?_) (fun hb => ?_) <;> (try simp only [ew, e7] at hb))
      | (simp only [go_sem, Nat.reduceLeDiff, Nat.reduceEqDiff, reduceIte, reduceCtorEq, Nat.reduceAdd, Nat.reduceMul, Nat.reduceSub, Nat.reduceLT, Int.reduceLT, Int.reduceLE, Int.reduceNeg, Int.reduceToNat, Nat.reduceBEq, Nat.reduceBNe, Int.reduceGE, Int.reduceGT, *, cPrime, cClo, cMinS, Try.results71, e7])))
          all_goals first | (rw [hS]; done) | rfl | skip

/-! Third normal form. -/
def thB (n : Int) (ds : List (Int × Int)) (set : Int) : Bool := depsOK n ds && isAttr n set && !(brk n ds set (primeL n ds set)).isSome
def cThird : Contract := ⟨[], false, fun
  | [.one (.v (.int .i64 n)), .one (.sl 2 l), .one (.v (.int .i64 set))] => some (WfD l ∧ -9223372036854775808 ≤ n ∧ n ≤ 9223372036854775807, [⟨false, [.d (.v (.bool (thB n (unD l) set)))]⟩], [])
  | _ => none⟩
theorem thI_ok : ContractOK E0 27 cThird := by
  refine contract_of_wpc (E := E0) (T := mkT Try.prog [(65, cAreDeps), (44, cIsAttr), (75, cPrime), (74, cBrk)] false (fun _ => false) true (fun _ => false)) (mkT_ok (E := E0) (.cons areDepsI_ok (.cons isAttrI_ok (.cons primeI_ok (.cons brk_ok .nil))))) (fn := Try.f27) Try.func27 (by kernel_rfl) rfl mixedT (by kernel_rfl) rfl ?_
  intro args p rs ms hr
  unfold cThird at hr
  dsimp only at hr
  split at hr
  rotate_left
  · cases hr
  rename_i n l set
  simp only [Option.some.injEq, Prod.mk.injEq] at hr
  obtain ⟨rfl, rfl, rfl⟩ := hr
  refine ⟨rfl, rfl, Nat.le_of_ble_eq_true rfl, ?_⟩
  have hm : maxLen = 9223372036854775807 := rfl
  rintro ⟨h1, hn1, hn2⟩ bs
  obtain ⟨ds, rfl, hx⟩ := h1.ex
  clear h1
  rw [unD_dL]
  unfold thB
  cases hv : (depsOK n ds && isAttr n set)
  · have e3 : (!depsOK n ds || !isAttr n set) = true := by rw [← Bool.not_and, hv]; rfl
    (repeat' (first
      | (refine gate_a fun _ => ?_)
      | (refine fork_intro (fun hb => ?_) (fun hb => ?_) <;> (try simp only [ew, e3] at hb))
      | (simp only [go_sem, Nat.reduceLeDiff, Nat.reduceEqDiff, reduceIte, reduceCtorEq, Nat.reduceAdd, Nat.reduceMul, Nat.reduceSub, Nat.reduceLT, Int.reduceLT, Int.reduceLE, Int.reduceNeg, Int.reduceToNat, Nat.reduceBEq, Nat.reduceBNe, Int.reduceGE, Int.reduceGT, *, cThird, cAreDeps, cIsAttr, cPrime, cBrk, Try.results27, e3])))
  · have e3 : (!depsOK n ds || !isAttr n set) = false := by rw [← Bool.not_and, hv]; rfl
    rw [Bool.and_eq_true] at hv
    obtain ⟨v1, v2⟩ := hv
    (repeat' (first
      | (refine gate_a fun _ => ?_)
      | (refine fork_intro (fun hb => ?_) (fun hb => ?_) <;> (try simp only [ew, e3] at hb))
      | (simp only [go_sem, Nat.reduceLeDiff, Nat.reduceEqDiff, reduceIte, reduceCtorEq, Nat.reduceAdd, Nat.reduceMul, Nat.reduceSub, Nat.reduceLT, Int.reduceLT, Int.reduceLE, Int.reduceNeg, Int.reduceToNat, Nat.reduceBEq, Nat.reduceBNe, Int.reduceGE, Int.reduceGT, *, cThird, cAreDeps, cIsAttr, cPrime, cBrk, Try.results27, e3])))
theorem thS_ok : ContractOK E0 26 cThird := by
  refine contract_of_wpc (E := E0) (T := mkT Try.prog [(70, cBfine), (71, cPrime), (72, cPd), (73, cClo)] false (fun _ => false) true (fun _ => false)) (mkT_ok (E := E0) (.cons bfine_ok (.cons primeS_ok (.cons pdS_ok (.cons cloSpec_ok .nil))))) (fn := Try.f26) Try.func26 (by kernel_rfl) rfl mixedT (by kernel_rfl) rfl ?_
  intro args p rs ms hr
  unfold cThird at hr
  dsimp only at hr
  split at hr
  rotate_left
  · cases hr
  rename_i n l set
  simp only [Option.some.injEq, Prod.mk.injEq] at hr
  obtain ⟨rfl, rfl, rfl⟩ := hr
  refine ⟨rfl, rfl, Nat.le_of_ble_eq_true rfl, ?_⟩
  have hm : maxLen = 9223372036854775807 := rfl
  rintro ⟨h1, hn1, hn2⟩ bs
  obtain ⟨ds, rfl, hx⟩ := h1.ex
  clear h1
  rw [unD_dL]
  unfold thB
  cases hv : (depsOK n ds && isAttr n set)
  · (repeat' (first
      | (refine gate_a fun _ => ?_)
      | (refine fork_intro (fun hb => ?_) (fun hb => ?_) <;> (try simp only [ew, hv] at hb))
      | (simp only [go_sem, Nat.reduceLeDiff, Nat.reduceEqDiff, reduceIte, reduceCtorEq, Nat.reduceAdd, Nat.reduceMul, Nat.reduceSub, Nat.reduceLT, Int.reduceLT, Int.reduceLE, Int.reduceNeg, Int.reduceToNat, Nat.reduceBEq, Nat.reduceBNe, Int.reduceGE, Int.reduceGT, *, cThird, cBfine, cPrime, cPd, cClo, Try.results26, hv])))
  · obtain ⟨v1, v2⟩ : depsOK n ds = true ∧ isAttr n set = true := by simpa using hv
    have hd := depsOK_R v1
    obtain ⟨n0, n5, s0, s31⟩ := isAttr_le v2
    obtain ⟨L1, L2, L3⟩ := @pdL_facts n ds set
    have L1' : (pdL n ds set).length ≤ maxLen := Nat.le_trans L1 (by decide)
    obtain ⟨a0, a31⟩ := @primeL_R n ds set
    unfold brk
    generalize hP : primeL n ds set = al at a0 a31
    (repeat' (first
      | (refine gate_a fun _ => ?_)
      | (refine fork_intro (fun hb => ?_) (fun hb => ?_) <;> (try simp only [ew, hv, hP] at hb))
      | (simp only [go_sem, Nat.reduceLeDiff, Nat.reduceEqDiff, reduceIte, reduceCtorEq, Nat.reduceAdd, Nat.reduceMul, Nat.reduceSub, Nat.reduceLT, Int.reduceLT, Int.reduceLE, Int.reduceNeg, Int.reduceToNat, Nat.reduceBEq, Nat.reduceBNe, Int.reduceGE, Int.reduceGT, *, cThird, cBfine, cPrime, cPd, cClo, Try.results26, hv, hP])))
    generalize hL : pdL n ds set = L at L1 L1' L2 L3
    generalize hF : (!(L.find? (brB ds set al)).isSome) = F
    refine loop_intro { ι := Nat, rs := [(6, 7), (23, 51)], mods := [(9, fun i => .one (.d (.v (.int .i64 i))))], boxes := [], arrs := [(8, fun _ => (2, dL L, 1))], ok := fun i => i ≤ L.length ∧ (!((L.drop i).find? (brB ds set al)).isSome) = F, mu := fun i => L.length - i } rfl 0 ⟨Nat.zero_le _, hF⟩ ?_ fun i hi => ?_
    · clear hF L3
      (repeat' (first
      | (refine gate_a fun _ => ?_)
      | (refine fork_intro (fun hb => ?_) (fun hb => ?_) <;> (try simp only [ew, hL] at hb))
      | (simp only [go_sem, Nat.reduceLeDiff, Nat.reduceEqDiff, reduceIte, reduceCtorEq, Nat.reduceAdd, Nat.reduceMul, Nat.reduceSub, Nat.reduceLT, Int.reduceLT, Int.reduceLE, Int.reduceNeg, Int.reduceToNat, Nat.reduceBEq, Nat.reduceBNe, Int.reduceGE, Int.reduceGT, *, cThird, cBfine, cPrime, cPd, cClo, Try.results26, hL])))
    · dsimp only at i hi
      obtain ⟨hi, ht⟩ := hi
      clear hF hL
      by_cases h5 : i < L.length
      · rw [find_drop h5 (0, 0)] at ht
        obtain ⟨⟨x0, x31⟩, r0, r4⟩ := L3 i h5
        have hR := clo_R hd ⟨x0, x31⟩
        have ea := and_ins2 (l := set) (x := clo ds (L.getD i (0, 0)).1) ⟨s0, s31⟩ hR
        have eh := has_eq0 (x := al) (r := (L.getD i (0, 0)).2) ⟨r0, r4⟩ ⟨a0, a31⟩
        have hc : brB ds set al (L.getD i (0, 0)) = (!insB set (clo ds (L.getD i (0, 0)).1) && !hasB al (L.getD i (0, 0)).2) := rfl
        cases hq : brB ds set al (L.getD i (0, 0))
        · rw [hq, if_neg (by decide)] at ht
          rw [hq] at hc
          replace hc := hc.symm
          clear hq L2 L3
          (repeat' (first
      | (refine gate_a fun _ => ?_)
      | (refine fork_intro (fun hb => ?_) (fun hb => ?_) <;> (try simp only [ew, bits64, ea, eh, hc] at hb))
      | (simp only [go_sem, Nat.reduceLeDiff, Nat.reduceEqDiff, reduceIte, reduceCtorEq, Nat.reduceAdd, Nat.reduceMul, Nat.reduceSub, Nat.reduceLT, Int.reduceLT, Int.reduceLE, Int.reduceNeg, Int.reduceToNat, Nat.reduceBEq, Nat.reduceBNe, Int.reduceGE, Int.reduceGT, *, cThird, cBfine, cPrime, cPd, cClo, Try.results26, bits64, ea, eh, hc])))
          refine loop_next (i + 1) ⟨by omega, ht⟩ (by dsimp only; omega) ?_
          clear ht
          (repeat' (first
      | (refine gate_a fun _ => ?_)
      | (refine fork_intro (fun hb => ?_) (fun hb => ?_) <;> (try simp only [ew, hc] at hb))
      | (simp only [go_sem, Nat.reduceLeDiff, Nat.reduceEqDiff, reduceIte, reduceCtorEq, Nat.reduceAdd, Nat.reduceMul, Nat.reduceSub, Nat.reduceLT, Int.reduceLT, Int.reduceLE, Int.reduceNeg, Int.reduceToNat, Nat.reduceBEq, Nat.reduceBNe, Int.reduceGE, Int.reduceGT, *, cThird, cBfine, cPrime, cPd, cClo, Try.results26, hc])))
        · rw [hq, if_pos rfl] at ht
          subst ht
          rw [hq] at hc
          replace hc := hc.symm
          clear hq L2 L3
          (repeat' (first
      | (refine gate_a fun _ => ?_)
      | (refine fork_intro (fun hb => ?_) (fun hb => ?_) <;> (try simp only [ew, bits64, ea, eh, hc] at hb))
      | (simp only [go_sem, Nat.reduceLeDiff, Nat.reduceEqDiff, reduceIte, reduceCtorEq, Nat.reduceAdd, Nat.reduceMul, Nat.reduceSub, Nat.reduceLT, Int.reduceLT, Int.reduceLE, Int.reduceNeg, Int.reduceToNat, Nat.reduceBEq, Nat.reduceBNe, Int.reduceGE, Int.reduceGT, *, cThird, cBfine, cPrime, cPd, cClo, Try.results26, bits64, ea, eh, hc])))
          all_goals first | rfl | skip
      · have e5 : i = L.length := by omega
        subst e5
        rw [List.drop_length, List.find?_nil] at ht
        subst ht
        clear L2 L3
        (repeat' (first
      | (refine gate_a fun _ => ?_)
      | (refine fork_intro (fun hb => ?_) (fun hb => ?_) <;> (try simp only [ew] at hb))
      | (simp only [go_sem, Nat.reduceLeDiff, Nat.reduceEqDiff, reduceIte, reduceCtorEq, Nat.reduceAdd, Nat.reduceMul, Nat.reduceSub, Nat.reduceLT, Int.reduceLT, Int.reduceLE, Int.reduceNeg, Int.reduceToNat, Nat.reduceBEq, Nat.reduceBNe, Int.reduceGE, Int.reduceGT, *, cThird, cBfine, cPrime, cPd, cClo, Try.results26])))
        all_goals first | rfl | skip
theorem lawTh_ok : ContractOK E0 6 cLawNDX := by
  refine contract_of_wpc (E := E0) (T := mkT Try.prog [(9, cSzDepS), (11, cToDepS), (26, cThird), (27, cThird), (13, cEqDepS)] false (fun _ => false) true (fun _ => false)) (mkT_ok (E := E0) (.cons szDepS_ok (.cons toDepS_ok (.cons thS_ok (.cons thI_ok (.cons eqDepS_ok .nil)))))) (fn := Try.f6) Try.func6 (by kernel_rfl) rfl mixedT (by kernel_rfl) rfl ?_
  intro args p rs ms hr
  unfold cLawNDX at hr
  dsimp only at hr
  split at hr
  rotate_left
  · cases hr
  rename_i n l x
  simp only [Option.some.injEq, Prod.mk.injEq] at hr
  obtain ⟨rfl, rfl, rfl⟩ := hr
  refine ⟨rfl, rfl, Nat.le_of_ble_eq_true rfl, ?_⟩
  have hm : maxLen = 9223372036854775807 := rfl
  rintro ⟨h1, hn1, hn2⟩ bs
  obtain ⟨ds, rfl, hx⟩ := h1.ex
  clear h1
  by_cases hs : szN ds.length 1048576 < 0
  · (repeat' (first
      | (refine gate_a fun _ => ?_)
      | (refine fork_intro (fun hb => ?_) (fun hb => ?_) <;> (try simp only [ew] at hb))
      | (simp only [go_sem, Nat.reduceLeDiff, Nat.reduceEqDiff, reduceIte, reduceCtorEq, Nat.reduceAdd, Nat.reduceMul, Nat.reduceSub, Nat.reduceLT, Int.reduceLT, Int.reduceLE, Int.reduceNeg, Int.reduceToNat, Nat.reduceBEq, Nat.reduceBNe, Int.reduceGE, Int.reduceGT, *, cLawNDX, cSzDepS, cToDepS, cThird, cEqDepS, Try.results6])))
    all_goals first | contradiction | skip
  · obtain ⟨f1, f2⟩ := szN_facts (Int.le_refl _) hs
    generalize hz : thB n ds x = b
    (repeat' (first
      | (refine gate_intro (by first | omega | ((repeat' (first | apply And.intro | assumption | omega | intro _)); done) | ((repeat' (first | apply And.intro | assumption | omega | intro _)); done) | (simp only [maxLen]; omega) | simp_all | (simp_all [maxLen]; omega)) fun _ => ?_)
      | (refine fork_intro (fun hb => ?_) (fun hb => ?_) <;> (try simp only [ew, hz] at hb))
      | (simp only [go_sem, Nat.reduceLeDiff, Nat.reduceEqDiff, reduceIte, reduceCtorEq, Nat.reduceAdd, Nat.reduceMul, Nat.reduceSub, Nat.reduceLT, Int.reduceLT, Int.reduceLE, Int.reduceNeg, Int.reduceToNat, Nat.reduceBEq, Nat.reduceBNe, Int.reduceGE, Int.reduceGT, *, cLawNDX, cSzDepS, cToDepS, cThird, cEqDepS, Try.results6, hz])))
    all_goals (exfalso; omega)
end Go.Own
