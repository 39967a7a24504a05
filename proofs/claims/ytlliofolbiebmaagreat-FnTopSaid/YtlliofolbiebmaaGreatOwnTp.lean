/-
  Searches: candidates, steps, what is found before a place. Conditions: as each theorem states them.
-/
import Derived.Test.YtlliofolbiebmaaGreatOwnX5
import Derived.Test.YtlliofolbiebmaaGreatOwnTc
import Derived.Test.YtlliofolbiebmaaGreatOwnX3
set_option linter.unusedSimpArgs false
set_option linter.unusedVariables false
set_option maxRecDepth 20000
set_option maxHeartbeats 4000000
namespace Go.Own
open Go Go.Proofs
attribute [local go_sem] unD_dL dL_length dL_get dL_set dL_inj wfD_dL scal2 beq2 pair_eta dL_scal
def cdD (c a : Nat) : Int × Int := ((pbsI (c : Nat)).getD (a / c) 0, ((a % c : Nat) : Int))
def srS (c : Nat) (rs : List (List Int)) (m : Int) (d : Int × Int) (z : List (Int × Int) × Nat) : List (Int × Int) × Nat :=
 if hasB d.1 d.2 || cov z.1 d then z else if hdB (c : Int) rs m d.1 d.2 then (z.1 ++ [d], z.2 + 1) else (z.1, z.2 + 1)
def srI (c : Nat) (rs : List (List Int)) (m : Int) : Nat → List (Int × Int) × Nat
 | 0 => ([], 0)
 | a + 1 => srS c rs m (cdD c a) (srI c rs m a)
theorem pbsI_len {c : Nat} (h : c ≤ 5) : (pbsI (c : Nat)).length = 2 ^ c := by
 unfold pbsI
 rw [if_pos (inB_iff.2 ⟨by omega, by omega⟩), Int.toNat_natCast]
 exact (pbs_key ⟨c, by omega⟩).1
theorem cd_at {c a : Nat} (hc : 1 ≤ c ∧ c ≤ 5) (ha : a < c * 2 ^ c) : a / c < (pbsI (c : Nat)).length ∧ a % c < c := by
 rw [pbsI_len hc.2]
 exact ⟨Nat.div_lt_of_lt_mul ha, Nat.mod_lt _ (by omega)⟩
theorem cd_R {c a : Nat} (hc : 1 ≤ c ∧ c ≤ 5) (ha : a < c * 2 ^ c) : depR (cdD c a) := by
 obtain ⟨h1, h2⟩ := cd_at hc ha
 have h3 := (@pbsI_facts (c : Nat)).2.2 _ h1
 refine ⟨h3, ?_, ?_⟩ <;> (unfold cdD; dsimp only; omega)
theorem cnt_bound {c : Nat} (h : c ≤ 5) : c * 2 ^ c ≤ 160 := by
 have : ∀ c : Fin 6, c.val * 2 ^ c.val ≤ 160 := by decide
 exact this ⟨c, by omega⟩
theorem srS_facts {c : Nat} {rs : List (List Int)} {m : Int} {d : Int × Int} {z : List (Int × Int) × Nat} : (srS c rs m d z).1.length ≤ z.1.length + 1 ∧ (srS c rs m d z).2 ≤ z.2 + 1 ∧ ∀ e ∈ (srS c rs m d z).1, e ∈ z.1 ∨ e = d := by
 unfold srS
 split
 ·exact ⟨by omega, by omega, fun e he => .inl he⟩
 ·split
  ·refine ⟨by simp, by simp, fun e he => ?_⟩
   rcases List.mem_append.1 he with he | he
   ·exact .inl he
   ·exact .inr (by simpa using he)
  ·exact ⟨by simp, by simp, fun e he => .inl he⟩
theorem srI_facts {c : Nat} {rs : List (List Int)} {m : Int} (hc : 1 ≤ c ∧ c ≤ 5) : ∀ {a : Nat}, a ≤ c * 2 ^ c → (srI c rs m a).1.length ≤ a ∧ (srI c rs m a).2 ≤ a ∧ ∀ e ∈ (srI c rs m a).1, depR e
 | 0, _ => ⟨Nat.le_refl _, Nat.le_refl _, by simp [srI]⟩
 | a + 1, h => by
  obtain ⟨h1, h2, h3⟩ := srI_facts (rs := rs) (m := m) hc (a := a) (by omega)
  obtain ⟨k1, k2, k3⟩ := @srS_facts c rs m (cdD c a) (srI c rs m a)
  refine ⟨?_, ?_, fun e he => ?_⟩
  ·show (srS c rs m (cdD c a) (srI c rs m a)).1.length ≤ a + 1; omega
  ·show (srS c rs m (cdD c a) (srI c rs m a)).2 ≤ a + 1; omega
  ·rcases k3 e he with he | rfl
   ·exact h3 e he
   ·exact cd_R hc (by omega)
theorem hd_tab {c : Int} {rs : List (List Int)} {m : Int} (h : (tabOK c rs && modeOK m) = true) : ∃ n : Nat, c = n ∧ (1 ≤ n ∧ n ≤ 5) ∧ rs.length ≤ 40 ∧ (∀ r ∈ rs, r.length ≤ 5) := by
 rw [Bool.and_eq_true] at h
 obtain ⟨n, rfl, n1, n5, h40, _⟩ := tab_rows h.1
 exact ⟨n, rfl, ⟨by omega, by omega⟩, h40, (tab_small h.1).2⟩
def isSr (c : Int) (rs : List (List Int)) (m a : Int) (qs : List (Int × Int)) (t : Int) : Bool :=
 (tabOK c rs && modeOK m) && inB a 0 (c * 2 ^ c.toNat) && (qs == (srI c.toNat rs m a.toNat).1) && (t == ((srI c.toNat rs m a.toNat).2 : Nat))
def cCnt8 : Contract := ⟨[], false, fun
 | [.one (.v (.int .i64 n))] => some (0 ≤ n ∧ n ≤ 5, [⟨false, [.d (.v (.int .i64 (n * 2 ^ n.toNat)))]⟩], [])
 | _ => none⟩
theorem cnt_in {n : Int} (h : 0 ≤ n ∧ n ≤ 5) : 0 ≤ n * 2 ^ n.toNat ∧ n * 2 ^ n.toNat ≤ 160 := by
 obtain ⟨c, rfl⟩ := Int.eq_ofNat_of_zero_le h.1
 have : ∀ c : Fin 6, 0 ≤ ((c.val : Nat) : Int) * 2 ^ c.val ∧ ((c.val : Nat) : Int) * 2 ^ c.val ≤ 160 := by decide
 exact this ⟨c, by omega⟩
theorem cntI8_ok : ContractOK E0 40 cCnt8 := by
 refine contract_of_wpc (E := E0) (T := mkT Tryz.prog [] false (fun _ => false) true (fun _ => false)) (mkT_ok (E := E0) .nil) (fn := Tryz.f40) Tryz.func40 (by kernel_rfl) rfl mixedT (by kernel_rfl) rfl ?_
 intro args p rs ms hr
 unfold cCnt8 at hr
 dsimp only at hr
 split at hr
 rotate_left
 ·cases hr
 rename_i n
 simp only [Option.some.injEq, Prod.mk.injEq] at hr
 obtain ⟨rfl, rfl, rfl⟩ := hr
 refine ⟨rfl, rfl, Nat.le_of_ble_eq_true rfl, ?_⟩
 have hm : maxLen = 9223372036854775807 := rfl
 rintro ⟨h1, h2⟩ bs
 obtain ⟨b1, b2⟩ := cnt_in ⟨h1, h2⟩
 (repeat' (first | (refine gate_a fun _ => ?_) | (refine fork_intro (fun hb => ?_) (fun hb => ?_) <;> (try simp only [ew, bits64] at hb)) | (simp only [go_sem, Nat.reduceLeDiff, Nat.reduceEqDiff, reduceIte, reduceCtorEq, Nat.reduceAdd, Nat.reduceMul, Nat.reduceSub, Nat.reduceLT, Int.reduceLT, Int.reduceLE, Int.reduceNeg, Int.reduceToNat, Nat.reduceBEq, Nat.reduceBNe, Int.reduceGE, Int.reduceGT, *, cCnt8, Tryz.results40, bits64])))
theorem dOfOwn {f : FuncId} {c c' : Contract} (hc : ContractOK E0 f c) (hm : c.muts = []) (hm' : c'.muts = []) (hal : c.alias = false) (hal' : c'.alias = false)
  (h : ∀ args p rs ms, c'.run args = some (p, rs, ms) → ms = [] ∧ ∃ s l dp, dp ≠ 0 ∧ c.run args = some (p, [⟨false, [.own s l dp]⟩], []) ∧ rs = [⟨false, [.d (.sl s l)]⟩]) : ContractOK E0 f c' := by
 refine ⟨hc.1, ?_⟩
 intro args p rs ms hr hp w vals F Ms ha hnd hF hJ hN hMN
 obtain ⟨rfl, s, l, dp, hdp, hr', rfl⟩ := h _ _ _ _ hr
 refine (hc.2 _ _ _ _ hr' hp w vals F Ms ha hnd hF hJ hN hMN).mono ?_
 rintro e w' ⟨v, rfl, po⟩
 refine ⟨v, rfl, ?_⟩
 obtain ⟨o1, o2, o3, o4, o5, F', os, F2, Ms', q1, q2, q3, q4, q5, q6, q7, q8⟩ := po
 have q1' : RCsOK w'.heap [.own s l dp] [v] F' os := by simpa [RetsOK, RVOK] using q1
 cases q1' with
 | own hA hnil =>
  cases hnil
  rename_i m F0
  have key : ∃ G, Reps w'.heap [.sl s l] [v] G ∧ ∀ b ∈ G, b ∈ m ∨ b ∈ F0 := by
   rcases hA with ⟨rfl, rfl, _⟩ | ⟨b, cap, c, e, G, rfl, a1, a2, a3, a4, a5, a6, a7, a8⟩
   ·exact ⟨[], .none (fun h => nomatch h) .nil, by simp⟩
   ·rw [if_neg hdp] at a1
    refine ⟨b :: (G ++ []), .sl (off := 0) (fun h => nomatch h) a3 a4 a5 ?_ a7 (by simpa using a8.weak) .nil, fun x hx => .inl (by rw [a1]; simpa using hx)⟩
    have := Nat.mul_le_mul_right s a4
    omega
  obtain ⟨G, k1, k2⟩ := key
  rw [hm] at q2
  refine ⟨o1, o2, o3, o4, o5, G ++ [], [], F2, Ms', ?_, by rw [hm']; exact q2, by simp, by simp, ?_, q6, fun b hb => ⟨(q7 b hb).1, by simp, (q7 b hb).2.2⟩, fun b hb => ⟨(q8 b hb).1, by simp, (q8 b hb).2.2⟩⟩
  ·simpa [RetsOK, RVOK] using RCsOK.d k1 .nil
  ·intro b hb
   rw [List.append_nil] at hb
   have hms : Ms' = [] := by
    generalize mutVals [] vals = mv at q2
    cases q2; rfl
   rcases k2 b hb with hb | hb
   ·obtain ⟨q4a, q4b⟩ := q4 b (by simpa using hb)
    refine ⟨q4b, by simp, by rw [hms]; simp, ?_⟩
    rcases q4a with q | ⟨q, _⟩
    ·exact .inl q
    ·rw [hal] at q; cases q
   ·obtain ⟨r1, r2, r3, r4⟩ := q5 b (by simpa using hb)
    refine ⟨r1, by simp, by rw [hms]; simp, ?_⟩
    rcases r4 with q | ⟨q, _⟩
    ·exact .inl q
    ·rw [hal] at q; cases q
def cPbsD : Contract := ⟨[], false, fun
 | [.one (.v (.int .i64 n))] => some (-9223372036854775808 ≤ n ∧ n ≤ 9223372036854775807, [⟨false, [.d (.sl 1 (iL (pbsI n)))]⟩], [])
 | _ => none⟩
theorem pbsD_ok : ContractOK E0 70 cPbsD := by
 refine dOfOwn pbsI_ok rfl rfl rfl rfl ?_
 intro args p rs ms hr
 unfold cPbsD at hr
 dsimp only at hr
 split at hr
 ·simp only [Option.some.injEq, Prod.mk.injEq] at hr
  obtain ⟨rfl, rfl, rfl⟩ := hr
  exact ⟨rfl, _, _, 1, by decide, rfl, rfl⟩
 ·cases hr
def cCd8 : Contract := ⟨[], false, fun
 | [.one (.v (.int .i64 n)), .one (.v (.int .i64 a))] => some ((1 ≤ n ∧ n ≤ 5) ∧ 0 ≤ a ∧ a < n * 2 ^ n.toNat, [⟨true, [.d (.v (.int .i64 (cdD n.toNat a.toNat).1)), .d (.v (.int .i64 (cdD n.toNat a.toNat).2))]⟩], [])
 | _ => none⟩
theorem tdivN {a c : Nat} : ((a : Int)).tdiv (c : Int) = ((a / c : Nat) : Int) := by rw [Int.ofNat_tdiv]
theorem tmodN {a c : Nat} : ((a : Int)).tmod (c : Int) = ((a % c : Nat) : Int) := by rw [Int.ofNat_tmod]
theorem cdI8_ok : ContractOK E0 79 cCd8 := by
 refine contract_of_wpc (E := E0) (T := mkT Tryz.prog [(70, cPbsD), (70, cPbs)] false (fun _ => false) true (fun _ => false)) (mkT_ok (E := E0) (.cons pbsD_ok (.cons pbsI_ok .nil))) (fn := Tryz.f79) Tryz.func79 (by kernel_rfl) rfl mixedT (by kernel_rfl) rfl ?_
 intro args p rs ms hr
 unfold cCd8 at hr
 dsimp only at hr
 split at hr
 rotate_left
 ·cases hr
 rename_i n a
 simp only [Option.some.injEq, Prod.mk.injEq] at hr
 obtain ⟨rfl, rfl, rfl⟩ := hr
 refine ⟨rfl, rfl, Nat.le_of_ble_eq_true rfl, ?_⟩
 have hm : maxLen = 9223372036854775807 := rfl
 rintro ⟨⟨h1, h2⟩, h3, h4⟩ bs
 obtain ⟨c, rfl⟩ := Int.eq_ofNat_of_zero_le (show 0 ≤ n by omega)
 obtain ⟨k, rfl⟩ := Int.eq_ofNat_of_zero_le h3
 rw [Int.toNat_natCast] at h4 ⊢
 rw [Int.toNat_natCast]
 have h4' : k < c * 2 ^ c := by exact_mod_cast h4
 obtain ⟨q1, q2⟩ := cd_at ⟨by omega, by omega⟩ h4'
 have e1 : (cdD c k).1 = (pbsI (c : Nat)).getD (k / c) 0 := rfl
 have e2 : (cdD c k).2 = ((k % c : Nat) : Int) := rfl
 rw [e1, e2]
 have q3 := (@pbsI_facts (c : Nat)).1
 have q3' : (pbsI (c : Nat)).length ≤ maxLen := Nat.le_trans q3 (by decide)
 have q5 : (k : Int) / (c : Int) = ((k / c : Nat) : Int) := (Int.natCast_ediv k c).symm
 have q6 : -9223372036854775808 ≤ (k : Int) / (c : Int) := by rw [q5]; exact Int.le_trans (by decide) (Int.natCast_nonneg _)
 have q7 : (k : Int) / (c : Int) ≤ 9223372036854775807 := by rw [q5]; exact Int.ofNat_le.2 (Nat.le_trans (Nat.le_of_lt q1) (Nat.le_trans q3 (by decide)))
 have q8 : ¬ c = 0 := by omega
 clear h4 h4' e1 e2 q5
 (repeat' (first | (refine gate_a fun _ => ?_) | (refine fork_intro (fun hb => ?_) (fun hb => ?_) <;> (try simp only [ew, tdivN, tmodN, cPbsD] at hb)) | (simp only [go_sem, Nat.reduceLeDiff, Nat.reduceEqDiff, reduceIte, reduceCtorEq, Nat.reduceAdd, Nat.reduceMul, Nat.reduceSub, Nat.reduceLT, Int.reduceLT, Int.reduceLE, Int.reduceNeg, Int.reduceToNat, Nat.reduceBEq, Nat.reduceBNe, Int.reduceGE, Int.reduceGT, *, cCd8, cPbs, Tryz.results79, tdivN, tmodN, cPbsD])))
 all_goals first | rfl | skip
end Go.Own
/-
  Plain law: what the smallest dependencies imply, example tables, transversals, searches. Conditions: as each theorem states them.
-/
namespace Go.Own
open Go Go.Proofs
theorem mdL_min {n : Nat} {rs : List (List Int)} {m : Int} (ht : tabOK n rs = true) (hm : modeOK m = true) : mdL n rs m = minDs (hdB n rs m) n := by
 unfold mdL
 rw [ht, hm]; rfl
theorem mdL_iff {n : Nat} {rs : List (List Int)} {m : Int} (hn : 1 ≤ n ∧ n ≤ 5) (ht : tabOK n rs = true) (hm : modeOK m = true) {d : Int × Int} : d ∈ mdL n rs m ↔ (0 ≤ d.2 ∧ d.2 < n) ∧ isMin (hdB n rs m) n d.2 d.1 := by
 rw [mdL_min ht hm]
 exact minDs_iff hn (mono_hd hn.2)
theorem hd_md {n : Nat} {rs : List (List Int)} {m : Int} (hn : 1 ≤ n ∧ n ≤ 5) (ht : tabOK n rs = true) (hm : modeOK m = true) {x r : Int} (hx : isAttr (n : Nat) x = true) (hr : 0 ≤ r ∧ r < n) : hdB n rs m x r = hasB (clo (mdL n rs m) x) r := by
 have hR := (@mdL_facts n rs m).2
 have hx5 : R5 x := by have := isAttr_le hx; exact ⟨this.2.2.1, this.2.2.2⟩
 have hr4 : 0 ≤ r ∧ r ≤ 4 := ⟨by omega, by omega⟩
 have hxp : x ∈ pbsI (n : Nat) := (pbsI_mem ⟨by omega, by omega⟩).2 hx
 rw [Bool.eq_iff_iff]
 constructor
 ·intro h
  cases hb : hasB x r
  ·obtain ⟨y, hyx, hy⟩ := exists_min hn hr4 (mono_hd hn.2 r hr4) hxp h hb
   have hyd : (y, r) ∈ mdL n rs m := (mdL_iff hn ht hm).2 ⟨hr, hy⟩
   have hyR := hR _ hyd
   exact clo_closed hR hx5 (y, r) hyd ((insB_iff hyR.1 (clo_R hR hx5)).2 (((insB_iff hyR.1 hx5).1 hyx).trans (clo_le hR hx5)))
  ·exact has_le hr4 (clo_le hR hx5) hb
 ·intro h
  rw [hdB_iff]
  refine ⟨by unfold askOK; rw [ht, hm, depOK_of hn hxp hr]; rfl, fun i j hij hj => ?_⟩
  rw [Int.toNat_natCast]
  have hA : R5 (agL m (rs.getD i []) (rs.getD j []) n) := agL_range hn.2
  rw [bad_not hA hx5 hr4]
  cases hi : insB x (agL m (rs.getD i []) (rs.getD j []) n)
  ·rfl
  ·rw [has_le hr4 (clo_under hR hx5 hA ((insB_iff hx5 hA).1 hi) fun d hd hdi => ?_) h]
   ·rfl
   ·have hdR := hR d hd
    have hdm := ((mdL_iff hn ht hm).1 hd).2.2.2.1
    rw [hdB_iff] at hdm
    have := hdm.2 i j hij hj
    rw [Int.toNat_natCast, bad_not hA hdR.1 hdR.2, hdi] at this
    simpa using this
theorem mdL_ok {n : Nat} {rs : List (List Int)} {m : Int} (hn : 1 ≤ n ∧ n ≤ 5) (ht : tabOK n rs = true) (hm : modeOK m = true) (hl : (mdL n rs m).length ≤ 20) : depsOK n (mdL n rs m) = true := by
 simp only [depsOK, Bool.and_eq_true, List.all_eq_true, inB_iff, decide_eq_true_eq]
 refine ⟨fun d hd => ?_, ⟨by omega, by omega⟩, by omega⟩
 obtain ⟨h1, h2⟩ := (mdL_iff hn ht hm).1 hd
 exact depOK_of hn h2.1 h1
theorem attr_ofA {n : Nat} {x : Int} (hn : n ≤ 5) (hx : R5 x) (h : ∀ k : Nat, k < 5 → hasB x (k : Nat) = true → k < n) : isAttr (n : Nat) x = true := by
 have hk : ∀ n : Fin 6, ∀ x : Fin 32, (∀ k : Fin 5, hasB ((x.val : Nat) : Int) ((k.val : Nat) : Int) = true → k.val < n.val) → isAttr ((n.val : Nat) : Int) ((x.val : Nat) : Int) = true := by decide +kernel
 obtain ⟨x, rfl⟩ := hx.fin
 exact hk ⟨n, by omega⟩ x fun k hb => h k.val k.isLt hb
theorem amN_in {al : Int} {cs : List Int} {j : Nat} (hne : cs.getD j 0 ≠ al) : ∀ {k : Nat}, j < k → (cs.getD j 0, (j : Int) + 1) ∈ amN al cs k
 | 0, h => by omega
 | k + 1, h => by
  rw [amN, List.mem_append]
  by_cases e : j = k
  ·subst e
   right
   rw [beq_eq_false_iff_ne.2 hne, if_neg (by decide)]
   simp
  ·left
   exact amN_in hne (by omega)
theorem zero_in {n : Nat} {ds : List (Int × Int)} (h : depsOK n ds = true) : zeroR n ∈ arR n ds := by
 unfold arR
 rw [if_pos h, Int.toNat_natCast]
 unfold amR
 simp
theorem row_in {n : Nat} {ds : List (Int × Int)} (h : depsOK n ds = true) {C : Int} (hC : isAttr (n : Nat) C = true) (hcl : clo ds C = C) (hne : C ≠ all2 n) : ∃ v : Int, 0 < v ∧ csRow n C v ∈ arR n ds := by
 obtain ⟨_, _, c0, c31⟩ := isAttr_le hC
 have hlt : C < ((2 ^ n : Nat) : Int) := by
  have h2 := hC
  simp only [isAttr, Bool.and_eq_true, inB_iff] at h2
  have h3 := h2.2.2
  rw [all2_two] at h3
  omega
 have hE : clsF n ds = clsL ds (2 ^ n) := by unfold clsF; rw [if_pos h, Int.toNat_natCast]
 have hm : C ∈ clsF n ds := by
  rw [hE, clsL_mem]
  exact ⟨C.toNat, by omega, by omega, hcl⟩
 obtain ⟨j, hj, e⟩ := List.mem_iff_getElem.1 hm
 have g : (clsF n ds).getD j 0 = C := by rw [List.getD_eq_getElem?_getD, List.getElem?_eq_getElem hj]; exact e
 refine ⟨(j : Int) + 1, by omega, ?_⟩
 unfold arR
 rw [if_pos h, Int.toNat_natCast]
 unfold amR
 refine List.mem_cons_of_mem _ (List.mem_map.2 ⟨_, amN_in (by rw [g]; exact hne) hj, ?_⟩)
 rw [g]; rfl
theorem hd_arm {n : Nat} {ds : List (Int × Int)} (h : depsOK n ds = true) {x r : Int} (hx : isAttr (n : Nat) x = true) (hr : 0 ≤ r ∧ r < n) : hdB n (arR n ds) 0 x r = hasB (clo ds x) r := by
 obtain ⟨n', e, hD⟩ := dpP_of h
 have e : n = n' := by omega
 subst e
 have hn := hD.n5
 have hd := depsOK_R h
 have hx5 : R5 x := by have := isAttr_le hx; exact ⟨this.2.2.1, this.2.2.2⟩
 have hl := (@arR_facts n ds).1
 have ht := arR_tab h (T := arR n ds) (fun t ht => ht) (by omega)
 have hxp : x ∈ pbsI (n : Nat) := (pbsI_mem ⟨by omega, by omega⟩).2 hx
 have hask : askOK n (arR n ds) 0 x r = true := by unfold askOK; rw [ht, depOK_of hn hxp hr]; rfl
 have hC := clo_R hd hx5
 have hsat := arR_sat h (T := arR n ds) fun t ht => ht
 rw [Bool.eq_iff_iff, hd_sat (d := (x, r)) hn.2 hx5 hr hask]
 constructor
 ·intro hs
  rw [← Bool.not_eq_false]
  intro hno
  have hatt : ∀ k : Nat, k < 5 → hasB (clo ds x) (k : Nat) = true → k < n := fun k hk hb => by
   have hRa := (all2_has ⟨n, by omega⟩ ⟨0, by omega⟩).1
   have hall := fun k : Nat => fun hk : k < 5 => (all2_has ⟨n, by omega⟩ ⟨k, hk⟩).2
   dsimp only at hall
   have := clo_under hd hx5 hRa (fun c hc => by rw [hall c.val c.isLt, decide_eq_true (att_bit hn.2 hx c.isLt hc)]) (fun d hd' _ => by
    obtain ⟨_, d0, dn⟩ := hD.R d hd'
    have := hall d.2.toNat (by omega)
    rw [show ((d.2.toNat : Nat) : Int) = d.2 by omega] at this
    rw [this, decide_eq_true (by omega)]) ⟨k, hk⟩ hb
   dsimp only at this
   rw [hall k hk, decide_eq_true_eq] at this
   exact this
  have hCa : isAttr (n : Nat) (clo ds x) = true := attr_ofA hn.2 hC hatt
  have hne : clo ds x ≠ all2 n := fun e => by
   have := (all2_has ⟨n, by omega⟩ ⟨r.toNat, by omega⟩).2
   dsimp only at this
   rw [show ((r.toNat : Nat) : Int) = r by omega, ← e, hno, decide_eq_true (by omega)] at this
   cases this
  have hcc : clo ds (clo ds x) = clo ds x := (clo_eq hd hC hC (leB.refl _) (clo_le hd hC) (clo_closed hd hx5)).symm
  obtain ⟨v, hv, hrow⟩ := row_in h hCa hcc hne
  have := hs _ (zero_in h) _ hrow fun k hk hb => by
   have hkn := att_bit hn.2 hx hk hb
   refine ⟨hkn, ?_⟩
   rw [zeroR_get, csRow_get hkn, if_pos (clo_le hd hx5 ⟨k, hk⟩ hb)]
  dsimp only at this
  rw [zeroR_get, csRow_get (by omega), show ((r.toNat : Nat) : Int) = r by omega, hno, if_neg (by decide)] at this
  omega
 ·intro hb s hs t ht' hag
  have hcl := agree_clo hD hd hsat hs ht' hx5 hag
  have := (hcl r.toNat (by omega) (by rw [show ((r.toNat : Nat) : Int) = r by omega]; exact hb)).2
  exact this
theorem arm_md {n : Nat} {rs : List (List Int)} {m : Int} (hn : 1 ≤ n ∧ n ≤ 5) (ht : tabOK n rs = true) (hm : modeOK m = true) (hl : (mdL n rs m).length ≤ 20) : mdL n (arR n (mdL n rs m)) 0 = mdL n rs m := by
 have hok := mdL_ok hn ht hm hl
 have hl2 := (@arR_facts n (mdL n rs m)).1
 have ht2 := arR_tab hok (T := arR n (mdL n rs m)) (fun t ht => ht) (by omega)
 have e1 : mdL n (arR n (mdL n rs m)) 0 = minDs (hdB n (arR n (mdL n rs m)) 0) n := mdL_min ht2 rfl
 rw [e1]
 have e2 := mdL_min ht hm
 have key : minDs (hdB n (arR n (mdL n rs m)) 0) n = minDs (hdB n rs m) n := minDs_ext fun r hr x hx => by
  have hxa := (pbsI_mem ⟨by omega, by omega⟩).1 hx
  rw [hd_arm hok hxa hr]
  exact (@hd_md n rs m hn ht hm x r hxa hr).symm
 rw [key, e2]
theorem cd_index {n : Nat} (hn : 1 ≤ n ∧ n ≤ 5) {d : Int × Int} (hx : d.1 ∈ pbsI (n : Nat)) (hr : 0 ≤ d.2 ∧ d.2 < n) : ∃ a, a < n * 2 ^ n ∧ cdD n a = d := by
 obtain ⟨i, hi, e⟩ := List.mem_iff_getElem.1 hx
 have hl := pbsI_len hn.2
 have g : (pbsI (n : Nat)).getD i 0 = d.1 := by rw [List.getD_eq_getElem?_getD, List.getElem?_eq_getElem hi]; exact e
 refine ⟨n * i + d.2.toNat, ?_, ?_⟩
 ·have h1 : i + 1 ≤ 2 ^ n := by omega
  have h2 : n * (i + 1) ≤ n * 2 ^ n := Nat.mul_le_mul_left n h1
  rw [Nat.mul_add, Nat.mul_one] at h2
  omega
 ·unfold cdD
  rw [Nat.mul_add_div (by omega), Nat.div_eq_of_lt (by omega), Nat.add_zero, g, Nat.mul_add_mod, Nat.mod_eq_of_lt (by omega)]
  exact Prod.ext rfl (by dsimp only; omega)
theorem covB_iff8 {a e : Int × Int} (ha : R5 a.1) (he : R5 e.1) : covB a e = true ↔ e.2 = a.2 ∧ leB e.1 a.1 := by
 unfold covB
 rw [Bool.and_eq_true, beq_iff_eq]
 have hk : ∀ x y : Fin 32, (bitI .and .i64 ((y.val : Nat) : Int) ((x.val : Nat) : Int) == ((y.val : Nat) : Int)) = insB ((y.val : Nat) : Int) ((x.val : Nat) : Int) := by decide +kernel
 obtain ⟨x, hx⟩ := ha.fin
 obtain ⟨y, hy⟩ := he.fin
 have := hk x y
 rw [← hx, ← hy] at this
 rw [this, insB_iff he ha]
theorem cov_iff8 {ds : List (Int × Int)} {a : Int × Int} (ha : R5 a.1) (hd : ∀ e ∈ ds, depR e) : cov ds a = true ↔ ∃ e ∈ ds, e.2 = a.2 ∧ leB e.1 a.1 := by
 unfold cov
 rw [List.any_eq_true]
 constructor
 ·rintro ⟨e, he, h⟩; exact ⟨e, he, (covB_iff8 ha (hd e he).1).1 h⟩
 ·rintro ⟨e, he, h⟩; exact ⟨e, he, (covB_iff8 ha (hd e he).1).2 h⟩
structure SrP (n : Nat) (rs : List (List Int)) (m : Int) (a : Nat) (l : List (Int × Int)) : Prop where
  from' : ∀ e ∈ l, (∃ b, b < a ∧ cdD n b = e) ∧ hasB e.1 e.2 = false ∧ hdB n rs m e.1 e.2 = true
  all : ∀ b, b < a → hasB (cdD n b).1 (cdD n b).2 = false → hdB n rs m (cdD n b).1 (cdD n b).2 = true → ∃ e ∈ l, e.2 = (cdD n b).2 ∧ leB e.1 (cdD n b).1
  low : ∀ e ∈ l, ∀ f ∈ l, f.2 = e.2 → leB f.1 e.1 → f = e
  nodup : l.Nodup
theorem cd_order {n a b : Nat} (hn : 1 ≤ n ∧ n ≤ 5) (ha : a < n * 2 ^ n) (hb : b < a) (hr : (cdD n b).2 = (cdD n a).2) : ¬ leB (cdD n a).1 (cdD n b).1 := by
 intro hle
 obtain ⟨a1, a2⟩ := cd_at hn ha
 obtain ⟨b1, b2⟩ := cd_at hn (a := b) (by omega)
 have hRa := cd_R hn ha
 have hRb := cd_R hn (a := b) (by omega)
 have hmod : b % n = a % n := by
  unfold cdD at hr
  dsimp only at hr
  omega
 have hda := Nat.div_add_mod a n
 have hdb := Nat.div_add_mod b n
 have hlt : b / n < a / n := by
  rcases Nat.lt_or_ge (b / n) (a / n) with h | h
  ·exact h
  ·have : n * (a / n) ≤ n * (b / n) := Nat.mul_le_mul_left n h
   omega
 have hord := (pbs_ord ⟨n, by omega⟩).1
 have hnd := (pbs_ord ⟨n, by omega⟩).2.1
 dsimp only at hord hnd
 rw [← pbsI_nat (by omega)] at hord hnd
 rw [List.pairwise_iff_getElem] at hord
 have := hord (b / n) (a / n) b1 a1 hlt
 have ga : (pbsI (n : Nat))[a / n] = (cdD n a).1 := by unfold cdD; rw [List.getD_eq_getElem?_getD, List.getElem?_eq_getElem a1]; rfl
 have gb : (pbsI (n : Nat))[b / n] = (cdD n b).1 := by unfold cdD; rw [List.getD_eq_getElem?_getD, List.getElem?_eq_getElem b1]; rfl
 rw [ga, gb, (insB_iff hRa.1 hRb.1).2 hle, Bool.true_and, Bool.not_eq_false', beq_iff_eq] at this
 rw [← ga, ← gb] at this
 rw [List.nodup_iff_pairwise_ne, List.pairwise_iff_getElem] at hnd
 exact hnd _ _ b1 a1 hlt this.symm
theorem srI_P {n : Nat} {rs : List (List Int)} {m : Int} (hn : 1 ≤ n ∧ n ≤ 5) : ∀ {a : Nat}, a ≤ n * 2 ^ n → SrP n rs m a (srI n rs m a).1
 | 0, _ => ⟨(fun e he => nomatch he), (fun b hb => absurd hb (Nat.not_lt_zero _)), (fun e he => nomatch he), List.nodup_nil⟩
 | a + 1, h => by
  have ih := srI_P (rs := rs) (m := m) hn (a := a) (by omega)
  have hR := (srI_facts (rs := rs) (m := m) hn (a := a) (by omega)).2.2
  have hRa := cd_R hn (a := a) (by omega)
  show SrP n rs m (a + 1) (srS n rs m (cdD n a) (srI n rs m a)).1
  generalize hl : (srI n rs m a).1 = l at ih hR
  have hkeep : (∀ hb : hasB (cdD n a).1 (cdD n a).2 = false, hdB n rs m (cdD n a).1 (cdD n a).2 = true → ∃ e ∈ l, e.2 = (cdD n a).2 ∧ leB e.1 (cdD n a).1) → SrP n rs m (a + 1) l := fun hc =>
   ⟨fun e he => by
    obtain ⟨⟨b, hb, e1⟩, h2⟩ := ih.from' e he
    exact ⟨⟨b, by omega, e1⟩, h2⟩, fun b hb h1 h2 => by
    by_cases eb : b = a
    ·subst eb; exact hc h1 h2
    ·exact ih.all b (by omega) h1 h2, ih.low, ih.nodup⟩
  unfold srS
  rw [hl]
  split
  ·rename_i hc
   rw [hl]
   refine hkeep fun hb _ => ?_
   rw [hb, Bool.false_or] at hc
   exact (cov_iff8 hRa.1 hR).1 hc
  ·rename_i hc
   rw [Bool.or_eq_true, not_or] at hc
   split
   ·rename_i hh
    dsimp only
    have hncov : ∀ e ∈ l, e.2 = (cdD n a).2 → ¬ leB e.1 (cdD n a).1 := fun e he h1 h2 => hc.2 ((cov_iff8 hRa.1 hR).2 ⟨e, he, h1, h2⟩)
    refine ⟨fun e he => ?_, fun b hb h1 h2 => ?_, fun e he f hf h1 h2 => ?_, ?_⟩
    ·rcases List.mem_append.1 he with he | he
     ·obtain ⟨⟨b, hb, e1⟩, h2⟩ := ih.from' e he
      exact ⟨⟨b, by omega, e1⟩, h2⟩
     ·rw [List.mem_singleton] at he
      subst he
      exact ⟨⟨a, by omega, rfl⟩, by simpa using hc.1, hh⟩
    ·by_cases eb : b = a
     ·subst eb; exact ⟨_, List.mem_append.2 (.inr (by simp)), rfl, leB.refl _⟩
     ·obtain ⟨e, he, h3⟩ := ih.all b (by omega) h1 h2
      exact ⟨e, List.mem_append.2 (.inl he), h3⟩
    ·rcases List.mem_append.1 he with he | he <;> rcases List.mem_append.1 hf with hf | hf
     ·exact ih.low e he f hf h1 h2
     ·rw [List.mem_singleton] at hf
      subst hf
      obtain ⟨⟨b, hb, e1⟩, _⟩ := ih.from' e he
      subst e1
      exact absurd h2 (cd_order hn (by omega) hb h1.symm)
     ·rw [List.mem_singleton] at he
      subst he
      exact absurd h2 (hncov f hf h1)
     ·rw [List.mem_singleton] at he hf
      rw [he, hf]
    ·rw [List.nodup_append]
     refine ⟨ih.nodup, by simp, fun e he f hf hef => ?_⟩
     rw [List.mem_singleton] at hf
     subst hef
     rw [hf] at he
     exact hncov _ he rfl (leB.refl _)
   ·rename_i hh
    dsimp only
    try rw [hl]
    exact hkeep fun _ h2 => absurd h2 hh
theorem srI_md {n : Nat} {rs : List (List Int)} {m : Int} (hn : 1 ≤ n ∧ n ≤ 5) (ht : tabOK n rs = true) (hm : modeOK m = true) : (∀ e, e ∈ (srI n rs m (n * 2 ^ n)).1 ↔ e ∈ mdL n rs m) ∧ (srI n rs m (n * 2 ^ n)).1.length = (mdL n rs m).length := by
 have hP := srI_P (rs := rs) (m := m) hn (Nat.le_refl _)
 have hR := (srI_facts (rs := rs) (m := m) hn (Nat.le_refl _)).2.2
 have hmem : ∀ e, e ∈ (srI n rs m (n * 2 ^ n)).1 ↔ e ∈ mdL n rs m := fun e => by
  rw [mdL_iff hn ht hm]
  constructor
  ·intro he
   obtain ⟨⟨b, hb, e1⟩, h2, h3⟩ := hP.from' e he
   obtain ⟨b1, b2⟩ := cd_at hn hb
   have hxp : e.1 ∈ pbsI (n : Nat) := by rw [← e1]; unfold cdD; exact getD_mem b1 0
   have hr : 0 ≤ e.2 ∧ e.2 < n := by rw [← e1]; unfold cdD; dsimp only; omega
   have heR := hR e he
   refine ⟨hr, hxp, h2, h3, fun y hy hi hyp => ?_⟩
   have hyR := pbs_R hy
   have hyl := (insB_iff hyR heR.1).1 hi
   obtain ⟨c, hc, ec⟩ := cd_index hn (d := (y, e.2)) hy hr
   have hyb : hasB y e.2 = false := by
    rw [← Bool.not_eq_true]
    intro hb
    rw [has_le heR.2 hyl hb] at h2; cases h2
   have q := hP.all c hc
   rw [ec] at q
   obtain ⟨f, hf, f1, f2⟩ := q hyb hyp
   have := hP.low e he f hf f1 (f2.trans hyl)
   subst this
   exact leB_antisymm hyR heR.1 hyl f2
  ·rintro ⟨hr, hxp, h2, h3, h4⟩
   obtain ⟨c, hc, ec⟩ := cd_index hn (d := e) hxp hr
   have q := hP.all c hc
   rw [ec] at q
   obtain ⟨f, hf, f1, f2⟩ := q h2 h3
   obtain ⟨⟨b, hb, e1⟩, g2, g3⟩ := hP.from' f hf
   obtain ⟨b1, b2⟩ := cd_at hn hb
   have hfp : f.1 ∈ pbsI (n : Nat) := by rw [← e1]; unfold cdD; exact getD_mem b1 0
   rw [f1] at g3
   have := h4 f.1 hfp ((insB_iff (hR f hf).1 (pbs_R hxp)).2 f2) g3
   have : f = e := Prod.ext this f1
   rw [← this]; exact hf
 refine ⟨hmem, ?_⟩
 have hnd : (mdL n rs m).Nodup := by
  rw [mdL_min ht hm, List.nodup_iff_pairwise_ne]
  refine (minDs_sorted hn (mono_hd hn.2)).imp fun {d e} h he => ?_
  rw [he] at h; omega
 have h1 := nodup_leN hP.nodup fun e he => (hmem e).1 he
 have h2 := nodup_leN hnd fun e he => (hmem e).2 he
 omega
end Go.Own
/-
  Plain law: dependencies by transversals are the smallest ones. Conditions: as each theorem states them.
-/
namespace Go.Own
open Go Go.Proofs
theorem key_ext {α : Type} {f : α → Nat} : ∀ {l m : List α}, l.Pairwise (fun x y => f x < f y) → m.Pairwise (fun x y => f x < f y) → (∀ x, x ∈ l ↔ x ∈ m) → l = m
 | [], [], _, _, _ => rfl
 | [], b :: m, _, _, h => by have := (h b).2 (by simp); simp at this
 | a :: l, [], _, _, h => by have := (h a).1 (by simp); simp at this
 | a :: l, b :: m, hl, hm, h => by
  rw [List.pairwise_cons] at hl hm
  have hab : a = b := by
   rcases List.mem_cons.1 ((h a).1 (by simp)) with e | e
   ·exact e
   ·rcases List.mem_cons.1 ((h b).2 (by simp)) with e2 | e2
    ·exact e2.symm
    ·have h1 := hl.1 b e2
     have h2 := hm.1 a e
     omega
  subst hab
  have : l = m := key_ext hl.2 hm.2 fun x => by
   constructor
   ·intro hx
    rcases List.mem_cons.1 ((h x).1 (by simp [hx])) with e | e
    ·subst e; have := hl.1 x hx; omega
    ·exact e
   ·intro hx
    rcases List.mem_cons.1 ((h x).2 (by simp [hx])) with e | e
    ·subst e; have := hm.1 x hx; omega
    ·exact e
  rw [this]
theorem srtS_mem {ys : List Int} (h : ∀ y ∈ ys, R5 y) {x : Int} : x ∈ srtS ys ↔ x ∈ ys := by
 unfold srtS srtF
 rw [List.mem_map]
 constructor
 ·rintro ⟨q, hq, rfl⟩
  rw [(List.mergeSort_perm _ _).mem_iff, List.mem_map] at hq
  obtain ⟨y, hy, rfl⟩ := hq
  rw [of_to (h y hy)]; exact hy
 ·intro hx
  refine ⟨toF x, ?_, of_to (h x hx)⟩
  rw [(List.mergeSort_perm _ _).mem_iff, List.mem_map]
  exact ⟨x, hx, rfl⟩
theorem srtS_keyed {ys : List Int} (h : ∀ y ∈ ys, R5 y) (hn : ys.Nodup) : (srtS ys).Pairwise fun x y => keyS (toF x) < keyS (toF y) := by
 unfold srtS
 rw [List.pairwise_map]
 have hinj : (ys.map toF).Nodup := by
  rw [List.nodup_iff_pairwise_ne, List.pairwise_map]
  rw [List.nodup_iff_pairwise_ne] at hn
  refine hn.imp_of_mem fun {x y} hx hy hne e => hne ?_
  rw [← of_to (h x hx), e, of_to (h y hy)]
 have hp := List.mergeSort_perm (ys.map toF) fun x y => !(ltOf cfS) y x
 have hnd : (srtF (ys.map toF)).Nodup := hp.nodup_iff.2 hinj
 have hs : (srtF (ys.map toF)).Pairwise fun x y => (!(ltOf cfS) y x) = true := by
  unfold srtF
  refine List.pairwise_mergeSort ?_ ?_ _
  ·intro a b c h1 h2
   rw [ltS, Bool.not_eq_true', decide_eq_false_iff_not] at *
   omega
  ·intro a b
   rw [ltS, ltS, Bool.or_eq_true, Bool.not_eq_true', Bool.not_eq_true', decide_eq_false_iff_not, decide_eq_false_iff_not]
   omega
 rw [List.nodup_iff_pairwise_ne] at hnd
 refine (hs.and hnd).imp fun {x y} hxy => ?_
 have h1 := hxy.1
 rw [ltS, Bool.not_eq_true', decide_eq_false_iff_not] at h1
 have h2 : keyS x ≠ keyS y := fun e => hxy.2 (keyS_inj x y e)
 have e1 : ∀ z : Fin 32, toF (ofF z) = z := by decide
 rw [e1, e1]
 omega
def hitB (es : List Int) (x : Int) : Bool := es.all fun e => !(bitI .and .i64 e x == 0)
def trsF (n : Int) (es : List Int) : List Int := if inB n 0 5 && decide ((es.length : Int) ≤ 100) && es.all (isAttr n) then selS minT1 ((rng (2 ^ n.toNat)).filter (hitB es)) else []
def difE (al : Int) (c : Nat) (a : Int) : Int := bitI .andNot .i64 (bitI .andNot .i64 al a) (1 * 2 ^ c)
def difF (c : Int) (rs : List (List Int)) (m col : Int) : List Int := if tabOK c rs && (decide (col ≥ 0) && decide (col < c)) then dstI (((agsF c rs m).filter fun a => !hasB a col).map (difE (1 * 2 ^ c.toNat - 1) col.toNat)) else []
def dtC (c : Int) (rs : List (List Int)) (m : Int) (k : Nat) : List (Int × Int) := (srtS (trsF c (difF c rs m (k : Nat)))).map fun x => (x, ((k : Nat) : Int))
def dtN (c : Int) (rs : List (List Int)) (m : Int) : Nat → List (Int × Int)
 | 0 => []
 | k + 1 => dtN c rs m k ++ dtC c rs m k
def dtF (c : Int) (rs : List (List Int)) (m : Int) : List (Int × Int) := if tabOK c rs && modeOK m then dtN c rs m c.toNat else []
theorem and_zero : ∀ e x : Fin 32, (bitI .and .i64 ((e.val : Nat) : Int) ((x.val : Nat) : Int) == 0) = !decide (∃ k : Fin 5, hasB ((e.val : Nat) : Int) ((k.val : Nat) : Int) = true ∧ hasB ((x.val : Nat) : Int) ((k.val : Nat) : Int) = true) := by decide +kernel
theorem difE_key : ∀ n : Fin 6, ∀ c : Fin 5, ∀ a : Fin 32, R5 (difE (1 * 2 ^ n.val - 1) c.val ((a.val : Nat) : Int)) := by unfold R5; decide +kernel
theorem difE_bit : ∀ n : Fin 6, ∀ c : Fin 5, ∀ a : Fin 32, ∀ k : Fin 5, hasB (difE (1 * 2 ^ n.val - 1) c.val ((a.val : Nat) : Int)) ((k.val : Nat) : Int) = (decide (k.val < n.val) && !hasB ((a.val : Nat) : Int) ((k.val : Nat) : Int) && !decide (k = c)) := by decide +kernel
theorem difE_attr : ∀ n : Fin 6, ∀ c : Fin 5, ∀ a : Fin 32, isAttr ((n.val : Nat) : Int) (difE (1 * 2 ^ n.val - 1) c.val ((a.val : Nat) : Int)) = true := by decide +kernel
theorem ags_R {n : Nat} {rs : List (List Int)} {m : Int} (hn : n ≤ 5) : ∀ a ∈ agsF n rs m, R5 a := by
 unfold agsF
 split
 ·intro a ha
  rw [dstI_mem, agI_mem (Nat.le_refl _), Int.toNat_natCast] at ha
  obtain ⟨i, k, _, _, rfl⟩ := ha
  exact agL_range hn
 ·simp
theorem hd_ags {n : Nat} {rs : List (List Int)} {m : Int} (hn : 1 ≤ n ∧ n ≤ 5) (ht : tabOK n rs = true) (hm : modeOK m = true) {x r : Int} (hx : x ∈ pbsI (n : Nat)) (hr : 0 ≤ r ∧ r < n) : hdB n rs m x r = true ↔ ∀ a ∈ agsF n rs m, hasB a r = false → ∃ k : Nat, k < 5 ∧ hasB x (k : Nat) = true ∧ hasB a (k : Nat) = false := by
 have hx5 := pbs_R hx
 have hr4 : 0 ≤ r ∧ r ≤ 4 := ⟨by omega, by omega⟩
 have hmem : ∀ a, a ∈ agsF n rs m ↔ ∃ i k, k < i ∧ i < rs.length ∧ a = agL m (rs.getD i []) (rs.getD k []) n := fun a => by
  unfold agsF
  rw [ht, hm, Bool.and_true, if_pos rfl, dstI_mem, agI_mem (Nat.le_refl _), Int.toNat_natCast]
 rw [hdB_iff]
 constructor
 ·rintro ⟨_, h⟩ a ha hb
  obtain ⟨i, k, h1, h2, rfl⟩ := (hmem a).1 ha
  have := h k i h1 h2
  rw [Int.toNat_natCast, agL_sym, bad_not (agL_range hn.2) hx5 hr4, hb, Bool.or_false, Bool.not_eq_false', Bool.not_eq_true'] at this
  exact not_ins hx5 (agL_range hn.2) this
 ·intro h
  refine ⟨by unfold askOK; rw [ht, hm, depOK_of hn hx hr]; rfl, fun i j hij hj => ?_⟩
  rw [Int.toNat_natCast, agL_sym, bad_not (agL_range hn.2) hx5 hr4]
  cases hb : hasB (agL m (rs.getD j []) (rs.getD i []) n) r
  ·obtain ⟨k, hk, k1, k2⟩ := h _ ((hmem _).2 ⟨j, i, hij, hj, rfl⟩) hb
   cases hi : insB x (agL m (rs.getD j []) (rs.getD i []) n)
   ·rfl
   ·have := (insB_iff hx5 (agL_range hn.2)).1 hi ⟨k, hk⟩ k1
    dsimp only at this
    rw [k2] at this; cases this
  ·rw [Bool.or_true]; rfl
theorem rng_memA {M : Nat} {x : Int} : x ∈ rng M ↔ 0 ≤ x ∧ x < M := by
 unfold rng
 rw [List.mem_map]
 constructor
 ·rintro ⟨i, hi, rfl⟩
  rw [List.mem_range] at hi
  omega
 ·intro h
  exact ⟨x.toNat, List.mem_range.2 (by omega), by omega⟩
theorem hit_iff {n : Nat} {rs : List (List Int)} {m : Int} (hn : 1 ≤ n ∧ n ≤ 5) (ht : tabOK n rs = true) {r : Nat} (hr : r < n) {x : Int} (hx : R5 x) : hitB (difF n rs m (r : Nat)) x = true ↔ ∀ a ∈ agsF n rs m, hasB a (r : Nat) = false → ∃ k : Nat, k < 5 ∧ k < n ∧ k ≠ r ∧ hasB x (k : Nat) = true ∧ hasB a (k : Nat) = false := by
 have hD : ∀ e, e ∈ difF n rs m (r : Nat) ↔ ∃ a ∈ agsF n rs m, hasB a (r : Nat) = false ∧ difE (1 * 2 ^ n - 1) r a = e := fun e => by
  unfold difF
  rw [ht, decide_eq_true (show ((r : Nat) : Int) ≥ 0 by omega), decide_eq_true (show ((r : Nat) : Int) < ((n : Nat) : Int) by omega), Bool.true_and, Bool.true_and, if_pos rfl, dstI_mem, List.mem_map, Int.toNat_natCast, Int.toNat_natCast]
  simp only [List.mem_filter, Bool.not_eq_true', and_assoc]
 unfold hitB
 rw [List.all_eq_true]
 have key : ∀ a, R5 a → ((!(bitI .and .i64 (difE (1 * 2 ^ n - 1) r a) x == 0)) = true ↔ ∃ k : Nat, k < 5 ∧ k < n ∧ k ≠ r ∧ hasB x (k : Nat) = true ∧ hasB a (k : Nat) = false) := fun a ha => by
  obtain ⟨a, rfl⟩ := ha.fin
  obtain ⟨x, rfl⟩ := hx.fin
  obtain ⟨e, he⟩ := (difE_key ⟨n, by omega⟩ ⟨r, by omega⟩ a).fin
  have hz := and_zero e x
  have hb := fun k => difE_bit ⟨n, by omega⟩ ⟨r, by omega⟩ a k
  dsimp only at he hb
  rw [← he] at hz
  rw [hz, Bool.not_not, decide_eq_true_eq]
  constructor
  ·rintro ⟨k, h1, h2⟩
   rw [hb k, Bool.and_eq_true, Bool.and_eq_true, decide_eq_true_eq, Bool.not_eq_true', Bool.not_eq_true', decide_eq_false_iff_not] at h1
   exact ⟨k.val, k.isLt, h1.1.1, fun e => h1.2 (Fin.ext e), h2, h1.1.2⟩
  ·rintro ⟨k, h5, h1, h2, h3, h4⟩
   refine ⟨⟨k, h5⟩, ?_, h3⟩
   rw [hb ⟨k, h5⟩, h4, decide_eq_true h1, decide_eq_false (fun e => h2 (Fin.mk.inj e))]; rfl
 constructor
 ·intro h a ha hb
  exact (key a (ags_R hn.2 a ha)).1 (h _ ((hD _).2 ⟨a, ha, hb, rfl⟩))
 ·intro h e he
  obtain ⟨a, ha, hb, rfl⟩ := (hD e).1 he
  exact (key a (ags_R hn.2 a ha)).2 (h a ha hb)
theorem sorted_lenA : ∀ {l : List Int} {a b : Int}, l.Pairwise (· < ·) → (∀ x ∈ l, a ≤ x ∧ x ≤ b) → (l.length : Int) ≤ max 0 (b + 1 - a)
 | [], a, b, _, _ => by simp; omega
 | x :: l, a, b, h, hx => by
  rw [List.pairwise_cons] at h
  have h1 := hx x (by simp)
  have ih := sorted_lenA (l := l) (a := x + 1) (b := b) h.2 fun y hy => by
   have h2 := h.1 y hy
   have h3 := hx y (by simp [hy])
   omega
  rw [List.length_cons]
  omega
theorem dif_facts {n : Nat} {rs : List (List Int)} {m : Int} (hn : 1 ≤ n ∧ n ≤ 5) {r : Nat} (hr : r < n) : (difF n rs m (r : Nat)).length ≤ 32 ∧ ∀ e ∈ difF n rs m (r : Nat), isAttr (n : Nat) e = true := by
 unfold difF
 split
 ·have h1 : ∀ e ∈ dstI (((agsF n rs m).filter fun a => !hasB a ((r : Nat) : Int)).map (difE (1 * 2 ^ ((n : Nat) : Int).toNat - 1) ((r : Nat) : Int).toNat)), isAttr (n : Nat) e = true := fun e he => by
   rw [dstI_mem, List.mem_map, Int.toNat_natCast, Int.toNat_natCast] at he
   obtain ⟨a, ha, rfl⟩ := he
   rw [List.mem_filter] at ha
   obtain ⟨a, rfl⟩ := (ags_R hn.2 a ha.1).fin
   exact difE_attr ⟨n, by omega⟩ ⟨r, by omega⟩ a
  refine ⟨?_, h1⟩
  have := sorted_lenA (a := 0) (b := 31) dstI_sorted fun x hx => by have := isAttr_le (h1 x hx); exact this.2.2
  omega
 ·simp
theorem trs_mem {n : Nat} {rs : List (List Int)} {m : Int} (hn : 1 ≤ n ∧ n ≤ 5) (ht : tabOK n rs = true) (hm : modeOK m = true) {r : Nat} (hr : r < n) {x : Int} : x ∈ trsF n (difF n rs m (r : Nat)) ↔ isMin (hdB n rs m) n (r : Nat) x := by
 obtain ⟨d1, d2⟩ := @dif_facts n rs m hn r hr
 have h32 : (2 : Nat) ^ n ≤ 32 := by
  have : (2 : Nat) ^ n ≤ 2 ^ 5 := Nat.pow_le_pow_right (by omega) hn.2
  simpa using this
 have hr4 : 0 ≤ ((r : Nat) : Int) ∧ ((r : Nat) : Int) ≤ 4 := ⟨by omega, by omega⟩
 have hg : (inB ((n : Nat) : Int) 0 5 && decide (((difF n rs m (r : Nat)).length : Int) ≤ 100) && (difF n rs m (r : Nat)).all (isAttr (n : Nat))) = true := by
  rw [Bool.and_eq_true, Bool.and_eq_true, inB_iff, decide_eq_true_eq, List.all_eq_true]
  exact ⟨⟨⟨by omega, by omega⟩, by omega⟩, d2⟩
 have hpb : ∀ y, y ∈ rng (2 ^ n) ↔ y ∈ pbsI (n : Nat) := fun y => by
  rw [rng_memA, pbsI_mem ⟨by omega, by omega⟩]
  simp only [isAttr, Bool.and_eq_true, inB_iff, all2_two]
  constructor
  ·intro h; exact ⟨⟨by omega, by omega⟩, by omega, by omega⟩
  ·rintro ⟨_, h1, h2⟩; exact ⟨h1, by omega⟩
 have hS : setsOK ((rng (2 ^ n)).filter (hitB (difF n rs m (r : Nat)))) = true := by
  simp only [setsOK, Bool.and_eq_true, List.all_eq_true, decide_eq_true_eq]
  refine ⟨fun y hy => ?_, ?_⟩
  ·have := (hpb y).1 (List.mem_filter.1 hy).1
   exact attr5 ((pbsI_mem ⟨by omega, by omega⟩).1 this)
  ·have := List.length_filter_le (hitB (difF n rs m (r : Nat))) (rng (2 ^ n))
   have e : (rng (2 ^ n)).length = 2 ^ n := by simp [rng]
   omega
 have hh : ∀ y ∈ pbsI (n : Nat), hasB y (r : Nat) = false → (hitB (difF n rs m (r : Nat)) y = true ↔ hdB n rs m y (r : Nat) = true) := fun y hy hb => by
  rw [hit_iff hn ht hr (pbs_R hy), hd_ags hn ht hm hy ⟨by omega, by omega⟩]
  constructor
  ·intro h a ha hab
   obtain ⟨k, k5, _, _, k1, k2⟩ := h a ha hab
   exact ⟨k, k5, k1, k2⟩
  ·intro h a ha hab
   obtain ⟨k, k5, k1, k2⟩ := h a ha hab
   refine ⟨k, k5, att_bit hn.2 ((pbsI_mem ⟨by omega, by omega⟩).1 hy) k5 k1, fun e => ?_, k1, k2⟩
   rw [e, hb] at k1; cases k1
 have hdel : ∀ y ∈ pbsI (n : Nat), hitB (difF n rs m (r : Nat)) y = true → delB y (r : Nat) ∈ pbsI (n : Nat) ∧ hitB (difF n rs m (r : Nat)) (delB y (r : Nat)) = true := fun y hy h => by
  have hm' : delB y ((r : Nat) : Int) ∈ pbsI (n : Nat) := by
   have := (pbs_ord ⟨n, by omega⟩).2.2 y (by rw [← pbsI_nat (by omega)]; exact hy) ⟨r, by omega⟩
   rw [pbsI_nat (by omega)]; exact this
  refine ⟨hm', ?_⟩
  rw [hit_iff hn ht hr (pbs_R hy)] at h
  rw [hit_iff hn ht hr (pbs_R hm')]
  intro a ha hab
  obtain ⟨k, k5, kn, kr, k1, k2⟩ := h a ha hab
  refine ⟨k, k5, kn, kr, ?_, k2⟩
  rw [del_has (pbs_R hy) hr4 ⟨by omega, by omega⟩, k1, Bool.true_and, Bool.not_eq_true', beq_eq_false_iff_ne]
  omega
 unfold trsF
 rw [hg, if_pos rfl, Int.toNat_natCast]
 unfold selS
 rw [hS, if_pos rfl, dstI_mem, List.mem_filter, List.mem_filter, List.all_eq_true]
 constructor
 ·rintro ⟨⟨h1, h2⟩, h3⟩
  have hxp := (hpb x).1 h1
  have hxR := pbs_R hxp
  obtain ⟨e1, e2⟩ := hdel x hxp h2
  have hb : hasB x (r : Nat) = false := by
   rw [← Bool.not_eq_true]
   intro hb
   have := h3 _ (List.mem_filter.2 ⟨(hpb _).2 e1, e2⟩)
   unfold minT1 at this
   rw [Bool.or_eq_true, beq_iff_eq, Bool.not_eq_true'] at this
   rcases this with e | e
   ·have q := del_has hxR hr4 hr4 (e := (r : Nat))
    rw [← e, hb] at q
    simp at q
   ·have : insB (delB x ((r : Nat) : Int)) x = true := (insB_iff (pbs_R e1) hxR).2 fun c hc => by
     rw [del_has hxR hr4 ⟨by omega, by omega⟩, Bool.and_eq_true] at hc
     exact hc.1
    rw [this] at e; cases e
  refine ⟨hxp, hb, (hh x hxp hb).1 h2, fun y hy hi hp => ?_⟩
  have hyR := pbs_R hy
  have hyb : hasB y (r : Nat) = false := by
   rw [← Bool.not_eq_true]
   intro q
   rw [has_le hr4 ((insB_iff hyR hxR).1 hi) q] at hb; cases hb
  have := h3 y (List.mem_filter.2 ⟨(hpb y).2 hy, (hh y hy hyb).2 hp⟩)
  unfold minT1 at this
  rw [Bool.or_eq_true, beq_iff_eq, Bool.not_eq_true', hi] at this
  rcases this with e | e
  ·exact e.symm
  ·cases e
 ·rintro ⟨hxp, hb, hp, hmin⟩
  have hxR := pbs_R hxp
  refine ⟨⟨(hpb x).2 hxp, (hh x hxp hb).2 hp⟩, fun y hy => ?_⟩
  rw [List.mem_filter] at hy
  have hyp := (hpb y).1 hy.1
  have hyR := pbs_R hyp
  unfold minT1
  rw [Bool.or_eq_true, beq_iff_eq, Bool.not_eq_true']
  cases hi : insB y x with
  | false => exact .inr rfl
  | true =>
   have hyb : hasB y (r : Nat) = false := by
    rw [← Bool.not_eq_true]
    intro q
    rw [has_le hr4 ((insB_iff hyR hxR).1 hi) q] at hb; cases hb
   exact .inl (hmin y hyp hi ((hh y hyp hyb).1 hy.2)).symm
theorem dt_md {n : Nat} {rs : List (List Int)} {m : Int} (hn : 1 ≤ n ∧ n ≤ 5) (ht : tabOK n rs = true) (hm : modeOK m = true) : dtF n rs m = mdL n rs m := by
 rw [mdL_min ht hm]
 unfold dtF minDs
 rw [ht, hm, Bool.and_true, if_pos rfl, Int.toNat_natCast]
 have key : ∀ k, k ≤ n → dtN n rs m k = minT (hdB n rs m) n k := by
  intro k
  induction k with
  | zero => intro _; rfl
  | succ k ih =>
   intro hk
   rw [dtN, minT, ih (by omega)]
   congr 1
   have hk4 : (0 : Int) ≤ (k : Nat) ∧ ((k : Nat) : Int) ≤ 4 := ⟨by omega, by omega⟩
   rw [minC_low hn.2 hk4 (mono_hd hn.2 _ hk4)]
   unfold dtC
   congr 1
   have hTR : ∀ y ∈ trsF n (difF n rs m (k : Nat)), R5 y := fun y hy => pbs_R ((trs_mem hn ht hm (by omega)).1 hy).1
   have hnd : (trsF n (difF n rs m (k : Nat))).Nodup := by
    unfold trsF
    split
    ·exact sorted_nodup selS_sorted
    ·simp
   refine key_ext (f := fun x => keyS (toF x)) (srtS_keyed hTR hnd) ((pbsI_keyed (n := (n : Nat)) ⟨by omega, by omega⟩).filter _) fun x => ?_
   rw [srtS_mem hTR, trs_mem hn ht hm (by omega), List.mem_filter]
   exact (min_low hn hk4 (mono_hd hn.2 _ hk4)).symm
 exact key n (Nat.le_refl _)
end Go.Own
/-
  Plain facts of the law of minimal dependencies: witnesses, what stays true when rows come and go. Conditions: as each theorem states them.
-/
namespace Go.Own
open Go Go.Proofs
theorem dpK_some {rs : List (List Int)} {c : Nat} {m l r : Int} {i : Nat} : ∀ {n k k' : Nat}, dpK rs c m l r i k n = some k' → k ≤ k' ∧ k' < k + n ∧ dpC rs c m l r i k' = true
 | 0, k, k', h => by cases h
 | n + 1, k, k', h => by
  rw [dpK] at h
  split at h
  ·rename_i hc
   obtain rfl := Option.some.inj h
   exact ⟨Nat.le_refl _, by omega, hc⟩
  ·have := dpK_some h
   exact ⟨by omega, by omega, this.2.2⟩
theorem dpI_some {rs : List (List Int)} {c : Nat} {m l r : Int} : ∀ {n i : Nat} {q : Nat × Nat}, dpI rs c m l r i n = some q → i + n = rs.length → q.1 < q.2 ∧ q.2 < rs.length ∧ dpC rs c m l r q.1 q.2 = true
 | 0, i, q, h, _ => by cases h
 | n + 1, i, q, h, hl => by
  rw [dpI] at h
  split at h
  ·rename_i k hk
   obtain rfl := Option.some.inj h
   have := dpK_some hk
   exact ⟨by dsimp only; omega, by dsimp only; omega, this.2.2⟩
  ·exact dpI_some h (by omega)
theorem wtR_none {c : Int} {rs : List (List Int)} {m l r : Int} (h : askOK c rs m l r = true) : (wtR c rs m l r).isSome = !(hdB c rs m l r) := by
 unfold wtR hdB
 rw [if_pos h, h, Bool.true_and]
 cases wtO c rs m l r <;> rfl
theorem wtR_some {n : Nat} {rs : List (List Int)} {m l r : Int} {q : Nat × Nat} (h : wtR n rs m l r = some q) : q.1 < q.2 ∧ q.2 < rs.length ∧ (bitI .and .i64 (agL m (rs.getD q.1 []) (rs.getD q.2 []) n) l == l) = true ∧ hasB (agL m (rs.getD q.1 []) (rs.getD q.2 []) n) r = false := by
 unfold wtR at h
 split at h
 ·unfold wtO at h
  rw [Int.toNat_natCast] at h
  obtain ⟨h1, h2, h3⟩ := dpI_some h (by omega)
  refine ⟨h1, h2, ?_⟩
  unfold dpC badS at h3
  rw [Bool.and_eq_true] at h3
  refine ⟨h3.1, ?_⟩
  have h4 := h3.2
  rw [beq_iff_eq] at h4
  unfold hasB
  rw [h4]
  rfl
 ·cases h
theorem ins_all {c : Int} {rs : List (List Int)} {m : Int} {ds : List (Int × Int)} {row : List Int} (h : isM c rs m ds = true) : isM c (insR c rs m ds row) m (insD c rs m ds row) = true := by
 cases hv : insV c rs m ds row
 ·obtain ⟨e1, e2⟩ := ins_keep hv
  rw [e1, e2, h]
 ·exact ins_isM hv
theorem del_all {c : Int} {rs : List (List Int)} {m : Int} {ds : List (Int × Int)} {a : Int} (h : isM c rs m ds = true) : isM c (delR c rs m ds a) m (delD c rs m ds a) = true := by
 cases hv : delV c rs m ds a
 ·unfold delR delD
  rw [hv]
  exact h
 ·exact (del_isM hv).1
theorem upd_all {c : Int} {rs : List (List Int)} {m : Int} {ds : List (Int × Int)} {a k v : Int} (h : isM c rs m ds = true) : isM c (updR c rs m ds a k v) m (updD c rs m ds a k v) = true := by
 unfold updR updD
 cases hv : updV c rs m ds a k v
 ·exact h
 ·rw [if_pos rfl, if_pos rfl]
  exact ins_all (del_all h)
theorem isM_new {c : Int} {rs : List (List Int)} {m : Int} (ht : tabOK c rs = true) (hm : modeOK m = true) : isM c rs m (mdL c rs m) = true := by
 unfold isM
 rw [ht, hm]
 simp
theorem isM_small {c : Int} {rs : List (List Int)} {m : Int} {ds : List (Int × Int)} (h : isM c rs m ds = true) : rs.length ≤ 40 ∧ (∀ r ∈ rs, r.length ≤ 5) ∧ ds.length ≤ 160 ∧ mdL c rs m = ds := by
 obtain ⟨h1, h2, h3⟩ := isM_facts h
 obtain ⟨k1, k2⟩ := tab_small h1
 refine ⟨k1, k2, ?_, h3.symm⟩
 rw [h3]
 exact (@mdL_facts c rs m).1
def rowA (f : Nat → Int) (k : Nat) : List Int := (List.range k).map f
theorem rowA_succ {f : Nat → Int} {k : Nat} : rowA f (k + 1) = rowA f k ++ [f k] := by
 unfold rowA
 rw [List.range_succ, List.map_append]
 rfl
theorem rowA_len {f : Nat → Int} {k : Nat} : (rowA f k).length = k := by unfold rowA; simp
theorem cand_1 {n : Nat} {rs : List (List Int)} {m : Int} (hn : 1 ≤ n ∧ n ≤ 5) (ht : tabOK n rs = true) (hm : modeOK m = true) {x r : Nat} (hx : x < 2 ^ n) (hr : r < n) :
  (((wtR n rs m x r).isSome == impB n (mdL n rs m) x r) && decide (((mdL n rs m).length : Int) ≤ 20)) = false := by
 have hxa : isAttr (n : Nat) (x : Nat) = true := by
  simp only [isAttr, Bool.and_eq_true, inB_iff, all2, Int.toNat_natCast]
  have e2 : ((2 ^ n : Nat) : Int) = (2 : Int) ^ n := by simp
  omega
 have hd : depOK (n : Nat) (x : Nat) (r : Nat) = true := by
  simp only [depOK, Bool.and_eq_true, inB_iff]
  exact ⟨⟨⟨by omega, by omega⟩, hxa⟩, by omega, by omega⟩
 have hask : askOK (n : Nat) rs m (x : Nat) (r : Nat) = true := by
  unfold askOK
  rw [ht, hm, hd]
  rfl
 rw [wtR_none hask, hd_md hn ht hm hxa ⟨by omega, by omega⟩]
 by_cases hl : (mdL n rs m).length ≤ 20
 ·unfold impB
  rw [mdL_ok hn ht hm hl, hd, Bool.true_and, Bool.true_and]
  cases hasB (clo (mdL n rs m) x) r <;> rfl
 ·rw [decide_eq_false (by omega), Bool.and_false]
end Go.Own
