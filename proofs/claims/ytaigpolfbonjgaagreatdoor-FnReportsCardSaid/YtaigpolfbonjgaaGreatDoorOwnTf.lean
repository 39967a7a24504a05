/- Own contracts. Conditions: as each theorem states them. -/
import Derived.Test.YtaigpolfbonjgaaGreatDoorOwnTe
import Derived.Test.YtaigpolfbonjgaaGreatDoorOwnTb
set_option linter.unusedSimpArgs false
set_option linter.unusedVariables false
set_option maxRecDepth 20000
set_option maxHeartbeats 4000000
namespace Go.Own
open Go Go.Proofs
attribute [local go_sem] unD_dL dL_length dL_get dL_set dL_inj wfD_dL scal2 beq2 pair_eta dL_scal
end Go.Own
namespace Go.Own
open Go Go.Proofs
attribute [local go_sem] unD_dL dL_length dL_get dL_set dL_inj wfD_dL scal2 beq2 pair_eta dL_scal
def cCopyT : Contract := ⟨[], false, fun
 | [.agg [.v (.int .i64 c), .sl 1 l]] => some (WfS l ∧ l.length ≤ 16777216 ∧ ∀ r ∈ unS l, r.length ≤ 16777216, [⟨true, [.d (.v (.int .i64 c)), .own 1 l 1]⟩], [])
 | _ => none⟩
theorem copyTI_ok : ContractOK E0 131 cCopyT := by
 refine cWpc (E := E0) (T := mkT Tryz.prog [(153, cCopyR)] false (fun _ => false) true (fun _ => false)) (mkT_ok (E := E0) (.cons copyR_ok .nil)) (fn := Tryz.f131) Tryz.func131 (by kernel_rfl) rfl mixedT (by kernel_rfl) rfl ?_
 intro args p rs ms hr
 unfold cCopyT at hr
 dsimp only at hr
 split at hr
 rotate_left
 ·cases hr
 rename_i c l
 simp only [Option.some.injEq, Prod.mk.injEq] at hr
 obtain ⟨rfl, rfl, rfl⟩ := hr
 refine ⟨rfl, rfl, Nat.le_of_ble_eq_true rfl, ?_⟩
 have hm : maxLen = 9223372036854775807 := rfl
 rintro ⟨h1, h2, h3⟩ bs
 obtain ⟨rs, rfl, hx, hy⟩ := h1.ex
 clear h1
 rw [unS_sL] at h3
 rw [sL_length] at h2
 (repeat' first | refine gA fun _ => ?_ | refine fkI ?_ ?_ <;> intro hb <;> try simp only [ew] at hb | simp only [go_sem, simprocAttr, *, cCopyT, cCopyR, Tryz.results131])
theorem copyTS_ok : ContractOK E0 118 cCopyT := by
 refine cWpc (E := E0) (T := mkT Tryz.prog [] false (fun _ => false) true (fun d => d == 15)) (mkT_ok (E := E0) .nil) (fn := Tryz.f118) Tryz.func118 (by kernel_rfl) rfl mixedT (by kernel_rfl) rfl ?_
 intro args p rs ms hr
 unfold cCopyT at hr
 dsimp only at hr
 split at hr
 rotate_left
 ·cases hr
 rename_i c l
 simp only [Option.some.injEq, Prod.mk.injEq] at hr
 obtain ⟨rfl, rfl, rfl⟩ := hr
 refine ⟨rfl, rfl, Nat.le_of_ble_eq_true rfl, ?_⟩
 have hm : maxLen = 9223372036854775807 := rfl
 rintro ⟨h1, h2, h3⟩ bs
 obtain ⟨rs, rfl, hx, hy⟩ := h1.ex
 clear h1
 rw [unS_sL] at h3
 rw [sL_length] at h2
 (repeat' first | refine gA fun _ => ?_ | refine fkI ?_ ?_ <;> intro hb <;> try simp only [ew] at hb | simp only [go_sem, simprocAttr, *, cCopyT, Tryz.results118])
 refine lpI { ι := Nat, rs := [(8, 27)], mods := [(4, fun i => .one (.d (.v (.int .i64 i))))], boxes := [(1, fun _ => [.d (.v (.int .i64 c)), .d (.sl 1 (sL rs))]), (2, fun _ => [.d (.v (.int .i64 0)), .d (.v (.slice none 0 0))]), (3, fun i => [.d (.v (.int .i64 c)), .own 1 (sL (rs.take i)) 1])], arrs := [], ok := fun i => i ≤ rs.length, mu := fun i => rs.length - i } rfl 0 (Nat.zero_le _) ?_ fun i hi => ?_
 ·(repeat' first | refine gA fun _ => ?_ | refine fkI ?_ ?_ <;> intro hb <;> try simp only [ew] at hb | simp only [go_sem, simprocAttr, *, cCopyT, Tryz.results118])
  all_goals first | rfl | skip
 ·dsimp only at i hi
  have q1 := all_getD hy i
  have q2 := all_getD h3 i
  by_cases h5 : i < rs.length
  ·have e := take_succ_getD h5 []
   (repeat' first | refine gA fun _ => ?_ | refine fkI ?_ ?_ <;> intro hb <;> try simp only [ew, sL_snoc, iL_allscal] at hb | simp only [go_sem, simprocAttr, *, cCopyT, Tryz.results118, sL_snoc, iL_allscal])
   refine lpN (i + 1) (by dsimp only; omega) (by dsimp only; omega) ?_
   (repeat' first | refine gA fun _ => ?_ | refine fkI ?_ ?_ <;> intro hb <;> try simp only [ew, sL_snoc, e] at hb | simp only [go_sem, simprocAttr, *, cCopyT, Tryz.results118, sL_snoc, e])
  ·have e5 : i = rs.length := by omega
   subst e5
   have e6 : rs.take rs.length = rs := List.take_length
   (repeat' first | refine gA fun _ => ?_ | refine fkI ?_ ?_ <;> intro hb <;> try simp only [ew, e6] at hb | simp only [go_sem, simprocAttr, *, cCopyT, Tryz.results118, e6])
   all_goals first | rfl | skip
theorem tab_small {c : Int} {rs : List (List Int)} (h : tabOK c rs = true) : rs.length ≤ 40 ∧ ∀ r ∈ rs, r.length ≤ 5 := by
 obtain ⟨n, rfl, n1, n5, h40, hl⟩ := tab_rows h
 refine ⟨h40, fun r hr => ?_⟩
 obtain ⟨i, hi, rfl⟩ := List.getElem_of_mem hr
 have := hl i hi
 simp only [List.getD_eq_getElem?_getD, List.getElem?_eq_getElem hi, Option.getD_some] at this
 omega
end Go.Own
/-
  Searches: candidates, steps, what is found before a place. Conditions: as each theorem states them.
-/
namespace Go.Own
open Go Go.Proofs
attribute [local go_sem] unD_dL dL_length dL_get dL_set dL_inj wfD_dL scal2 beq2 pair_eta dL_scal
def cdD (c a : Nat) : Int × Int := ((pbsI (c : Nat)).getD (a / c) 0, ((a % c : Nat) : Int))
def srS (c : Nat) (rs : List (List Int)) (m : Int) (d : Int × Int) (z : List (Int × Int) × Nat) : List (Int × Int) × Nat :=
 if hasB d.1 d.2 || cov z.1 d then z else if hdB (c : Int) rs m d.1 d.2 then (z.1 ++ [d], z.2 + 1) else (z.1, z.2 + 1)
def srI (c : Nat) (rs : List (List Int)) (m : Int) : Nat → List (Int × Int) × Nat
 | 0 => ([], 0)
 | a + 1 => srS c rs m (cdD c a) (srI c rs m a)
theorem pbsI_len {c : Nat} (h : c ≤ 5) : (pbsI (c : Nat)).length = 2 ^ c := by
 unfold pbsI
 rw [if_pos (inB_iff.2 ⟨by omega, by omega⟩), Int.toNat_natCast]
 exact (pbs_key ⟨c, by omega⟩).1
theorem cd_at {c a : Nat} (hc : 1 ≤ c ∧ c ≤ 5) (ha : a < c * 2 ^ c) : a / c < (pbsI (c : Nat)).length ∧ a % c < c := by
 rw [pbsI_len hc.2]
 exact ⟨Nat.div_lt_of_lt_mul ha, Nat.mod_lt _ (by omega)⟩
theorem cd_R {c a : Nat} (hc : 1 ≤ c ∧ c ≤ 5) (ha : a < c * 2 ^ c) : depR (cdD c a) := by
 obtain ⟨h1, h2⟩ := cd_at hc ha
 have h3 := (@pbsI_facts (c : Nat)).2.2 _ h1
 refine ⟨h3, ?_, ?_⟩ <;> (unfold cdD; dsimp only; omega)
theorem cnt_bound {c : Nat} (h : c ≤ 5) : c * 2 ^ c ≤ 160 := by
 have : ∀ c : Fin 6, c.val * 2 ^ c.val ≤ 160 := by decide
 exact this ⟨c, by omega⟩
theorem srS_facts {c : Nat} {rs : List (List Int)} {m : Int} {d : Int × Int} {z : List (Int × Int) × Nat} : (srS c rs m d z).1.length ≤ z.1.length + 1 ∧ (srS c rs m d z).2 ≤ z.2 + 1 ∧ ∀ e ∈ (srS c rs m d z).1, e ∈ z.1 ∨ e = d := by
 unfold srS
 split
 ·exact ⟨by omega, by omega, fun e he => .inl he⟩
 ·split
  ·refine ⟨by simp, by simp, fun e he => ?_⟩
   rcases List.mem_append.1 he with he | he
   ·exact .inl he
   ·exact .inr (by simpa using he)
  ·exact ⟨by simp, by simp, fun e he => .inl he⟩
theorem srI_facts {c : Nat} {rs : List (List Int)} {m : Int} (hc : 1 ≤ c ∧ c ≤ 5) : ∀ {a : Nat}, a ≤ c * 2 ^ c → (srI c rs m a).1.length ≤ a ∧ (srI c rs m a).2 ≤ a ∧ ∀ e ∈ (srI c rs m a).1, depR e
 | 0, _ => ⟨Nat.le_refl _, Nat.le_refl _, by simp [srI]⟩
 | a + 1, h => by
  obtain ⟨h1, h2, h3⟩ := srI_facts (rs := rs) (m := m) hc (a := a) (by omega)
  obtain ⟨k1, k2, k3⟩ := @srS_facts c rs m (cdD c a) (srI c rs m a)
  refine ⟨?_, ?_, fun e he => ?_⟩
  ·show (srS c rs m (cdD c a) (srI c rs m a)).1.length ≤ a + 1; omega
  ·show (srS c rs m (cdD c a) (srI c rs m a)).2 ≤ a + 1; omega
  ·rcases k3 e he with he | rfl
   ·exact h3 e he
   ·exact cd_R hc (by omega)
theorem hd_tab {c : Int} {rs : List (List Int)} {m : Int} (h : (tabOK c rs && modeOK m) = true) : ∃ n : Nat, c = n ∧ (1 ≤ n ∧ n ≤ 5) ∧ rs.length ≤ 40 ∧ (∀ r ∈ rs, r.length ≤ 5) := by
 rw [Bool.and_eq_true] at h
 obtain ⟨n, rfl, n1, n5, h40, _⟩ := tab_rows h.1
 exact ⟨n, rfl, ⟨by omega, by omega⟩, h40, (tab_small h.1).2⟩
def isSr (c : Int) (rs : List (List Int)) (m a : Int) (qs : List (Int × Int)) (t : Int) : Bool :=
 (tabOK c rs && modeOK m) && inB a 0 (c * 2 ^ c.toNat) && (qs == (srI c.toNat rs m a.toNat).1) && (t == ((srI c.toNat rs m a.toNat).2 : Nat))
def cCnt8 : Contract := ⟨[], false, fun
 | [.one (.v (.int .i64 n))] => some (0 ≤ n ∧ n ≤ 5, [⟨false, [.d (.v (.int .i64 (n * 2 ^ n.toNat)))]⟩], [])
 | _ => none⟩
theorem cnt_in {n : Int} (h : 0 ≤ n ∧ n ≤ 5) : 0 ≤ n * 2 ^ n.toNat ∧ n * 2 ^ n.toNat ≤ 160 := by
 obtain ⟨c, rfl⟩ := Int.eq_ofNat_of_zero_le h.1
 have : ∀ c : Fin 6, 0 ≤ ((c.val : Nat) : Int) * 2 ^ c.val ∧ ((c.val : Nat) : Int) * 2 ^ c.val ≤ 160 := by decide
 exact this ⟨c, by omega⟩
theorem cntI8_ok : ContractOK E0 93 cCnt8 := by
 refine cWpc (E := E0) (T := mkT Tryz.prog [] false (fun _ => false) true (fun _ => false)) (mkT_ok (E := E0) .nil) (fn := Tryz.f93) Tryz.func93 (by kernel_rfl) rfl mixedT (by kernel_rfl) rfl ?_
 intro args p rs ms hr
 unfold cCnt8 at hr
 dsimp only at hr
 split at hr
 rotate_left
 ·cases hr
 rename_i n
 simp only [Option.some.injEq, Prod.mk.injEq] at hr
 obtain ⟨rfl, rfl, rfl⟩ := hr
 refine ⟨rfl, rfl, Nat.le_of_ble_eq_true rfl, ?_⟩
 have hm : maxLen = 9223372036854775807 := rfl
 rintro ⟨h1, h2⟩ bs
 obtain ⟨b1, b2⟩ := cnt_in ⟨h1, h2⟩
 (repeat' first | refine gA fun _ => ?_ | refine fkI ?_ ?_ <;> intro hb <;> try simp only [ew, bits64] at hb | simp only [go_sem, simprocAttr, *, cCnt8, Tryz.results93, bits64])
theorem cntS8_ok : ContractOK E0 96 cCnt8 := by
 refine cWpc (E := E0) (T := mkT Tryz.prog [] false (fun _ => false) true (fun _ => false)) (mkT_ok (E := E0) .nil) (fn := Tryz.f96) Tryz.func96 (by kernel_rfl) rfl mixedT (by kernel_rfl) rfl ?_
 intro args p rs ms hr
 unfold cCnt8 at hr
 dsimp only at hr
 split at hr
 rotate_left
 ·cases hr
 rename_i n
 simp only [Option.some.injEq, Prod.mk.injEq] at hr
 obtain ⟨rfl, rfl, rfl⟩ := hr
 refine ⟨rfl, rfl, Nat.le_of_ble_eq_true rfl, ?_⟩
 have hm : maxLen = 9223372036854775807 := rfl
 rintro ⟨h1, h2⟩ bs
 obtain ⟨b1, b2⟩ := cnt_in ⟨h1, h2⟩
 (repeat' first | refine gA fun _ => ?_ | refine fkI ?_ ?_ <;> intro hb <;> try simp only [ew, bits64] at hb | simp only [go_sem, simprocAttr, *, cCnt8, Tryz.results96, bits64])
theorem dOfOwn {f : FuncId} {c c' : Contract} (hc : ContractOK E0 f c) (hm : c.muts = []) (hm' : c'.muts = []) (hal : c.alias = false) (hal' : c'.alias = false)
  (h : ∀ args p rs ms, c'.run args = some (p, rs, ms) → ms = [] ∧ ∃ s l dp, dp ≠ 0 ∧ c.run args = some (p, [⟨false, [.own s l dp]⟩], []) ∧ rs = [⟨false, [.d (.sl s l)]⟩]) : ContractOK E0 f c' := by
 refine ⟨hc.1, ?_⟩
 intro args p rs ms hr hp w vals F Ms ha hnd hF hJ hN hMN
 obtain ⟨rfl, s, l, dp, hdp, hr', rfl⟩ := h _ _ _ _ hr
 refine (hc.2 _ _ _ _ hr' hp w vals F Ms ha hnd hF hJ hN hMN).mono ?_
 rintro e w' ⟨v, rfl, po⟩
 refine ⟨v, rfl, ?_⟩
 obtain ⟨o1, o2, o3, o4, o5, F', os, F2, Ms', q1, q2, q3, q4, q5, q6, q7, q8⟩ := po
 have q1' : RCsOK w'.heap [.own s l dp] [v] F' os := by simpa [RetsOK, RVOK] using q1
 cases q1' with
 | own hA hnil =>
  cases hnil
  rename_i m F0
  have key : ∃ G, Reps w'.heap [.sl s l] [v] G ∧ ∀ b ∈ G, b ∈ m ∨ b ∈ F0 := by
   rcases hA with ⟨rfl, rfl, _⟩ | ⟨b, cap, c, e, G, rfl, a1, a2, a3, a4, a5, a6, a7, a8⟩
   ·exact ⟨[], .none (fun h => nomatch h) .nil, by simp⟩
   ·rw [if_neg hdp] at a1
    refine ⟨b :: (G ++ []), .sl (off := 0) (fun h => nomatch h) a3 a4 a5 ?_ a7 (by simpa using a8.weak) .nil, fun x hx => .inl (by rw [a1]; simpa using hx)⟩
    have := Nat.mul_le_mul_right s a4
    omega
  obtain ⟨G, k1, k2⟩ := key
  rw [hm] at q2
  refine ⟨o1, o2, o3, o4, o5, G ++ [], [], F2, Ms', ?_, by rw [hm']; exact q2, by simp, by simp, ?_, q6, fun b hb => ⟨(q7 b hb).1, by simp, (q7 b hb).2.2⟩, fun b hb => ⟨(q8 b hb).1, by simp, (q8 b hb).2.2⟩⟩
  ·simpa [RetsOK, RVOK] using RCsOK.d k1 .nil
  ·intro b hb
   rw [List.append_nil] at hb
   have hms : Ms' = [] := by
    generalize mutVals [] vals = mv at q2
    cases q2; rfl
   rcases k2 b hb with hb | hb
   ·obtain ⟨q4a, q4b⟩ := q4 b (by simpa using hb)
    refine ⟨q4b, by simp, by rw [hms]; simp, ?_⟩
    rcases q4a with q | ⟨q, _⟩
    ·exact .inl q
    ·rw [hal] at q; cases q
   ·obtain ⟨r1, r2, r3, r4⟩ := q5 b (by simpa using hb)
    refine ⟨r1, by simp, by rw [hms]; simp, ?_⟩
    rcases r4 with q | ⟨q, _⟩
    ·exact .inl q
    ·rw [hal] at q; cases q
def cPbsD : Contract := ⟨[], false, fun
 | [.one (.v (.int .i64 n))] => some (-9223372036854775808 ≤ n ∧ n ≤ 9223372036854775807, [⟨false, [.d (.sl 1 (iL (pbsI n)))]⟩], [])
 | _ => none⟩
theorem pbsD_ok : ContractOK E0 154 cPbsD := by
 refine dOfOwn pbsI_ok rfl rfl rfl rfl ?_
 intro args p rs ms hr
 unfold cPbsD at hr
 dsimp only at hr
 split at hr
 ·simp only [Option.some.injEq, Prod.mk.injEq] at hr
  obtain ⟨rfl, rfl, rfl⟩ := hr
  exact ⟨rfl, _, _, 1, by decide, rfl, rfl⟩
 ·cases hr
def cCd8 : Contract := ⟨[], false, fun
 | [.one (.v (.int .i64 n)), .one (.v (.int .i64 a))] => some ((1 ≤ n ∧ n ≤ 5) ∧ 0 ≤ a ∧ a < n * 2 ^ n.toNat, [⟨true, [.d (.v (.int .i64 (cdD n.toNat a.toNat).1)), .d (.v (.int .i64 (cdD n.toNat a.toNat).2))]⟩], [])
 | _ => none⟩
theorem tdivN {a c : Nat} : ((a : Int)).tdiv (c : Int) = ((a / c : Nat) : Int) := by rw [Int.ofNat_tdiv]
theorem tmodN {a c : Nat} : ((a : Int)).tmod (c : Int) = ((a % c : Nat) : Int) := by rw [Int.ofNat_tmod]
theorem cdI8_ok : ContractOK E0 132 cCd8 := by
 refine cWpc (E := E0) (T := mkT Tryz.prog [(154, cPbsD), (154, cPbs)] false (fun _ => false) true (fun _ => false)) (mkT_ok (E := E0) (.cons pbsD_ok (.cons pbsI_ok .nil))) (fn := Tryz.f132) Tryz.func132 (by kernel_rfl) rfl mixedT (by kernel_rfl) rfl ?_
 intro args p rs ms hr
 unfold cCd8 at hr
 dsimp only at hr
 split at hr
 rotate_left
 ·cases hr
 rename_i n a
 simp only [Option.some.injEq, Prod.mk.injEq] at hr
 obtain ⟨rfl, rfl, rfl⟩ := hr
 refine ⟨rfl, rfl, Nat.le_of_ble_eq_true rfl, ?_⟩
 have hm : maxLen = 9223372036854775807 := rfl
 rintro ⟨⟨h1, h2⟩, h3, h4⟩ bs
 obtain ⟨c, rfl⟩ := Int.eq_ofNat_of_zero_le (show 0 ≤ n by omega)
 obtain ⟨k, rfl⟩ := Int.eq_ofNat_of_zero_le h3
 rw [Int.toNat_natCast] at h4 ⊢
 rw [Int.toNat_natCast]
 have h4' : k < c * 2 ^ c := by exact_mod_cast h4
 obtain ⟨q1, q2⟩ := cd_at ⟨by omega, by omega⟩ h4'
 have e1 : (cdD c k).1 = (pbsI (c : Nat)).getD (k / c) 0 := rfl
 have e2 : (cdD c k).2 = ((k % c : Nat) : Int) := rfl
 rw [e1, e2]
 have q3 := (@pbsI_facts (c : Nat)).1
 have q3' : (pbsI (c : Nat)).length ≤ maxLen := Nat.le_trans q3 (by decide)
 have q5 : (k : Int) / (c : Int) = ((k / c : Nat) : Int) := (Int.natCast_ediv k c).symm
 have q6 : -9223372036854775808 ≤ (k : Int) / (c : Int) := by rw [q5]; exact Int.le_trans (by decide) (Int.natCast_nonneg _)
 have q7 : (k : Int) / (c : Int) ≤ 9223372036854775807 := by rw [q5]; exact Int.ofNat_le.2 (Nat.le_trans (Nat.le_of_lt q1) (Nat.le_trans q3 (by decide)))
 have q8 : ¬ c = 0 := by omega
 clear h4 h4' e1 e2 q5
 (repeat' first | refine gA fun _ => ?_ | refine fkI ?_ ?_ <;> intro hb <;> try simp only [ew, tdivN, tmodN, cPbsD] at hb | simp only [go_sem, simprocAttr, *, cCd8, cPbs, Tryz.results132, tdivN, tmodN, cPbsD])
 all_goals first | rfl | skip
theorem cdS8_ok : ContractOK E0 135 cCd8 := by
 refine cWpc (E := E0) (T := mkT Tryz.prog [(155, cPbs)] false (fun _ => false) true (fun _ => false)) (mkT_ok (E := E0) (.cons pbsS_ok .nil)) (fn := Tryz.f135) Tryz.func135 (by kernel_rfl) rfl mixedT (by kernel_rfl) rfl ?_
 intro args p rs ms hr
 unfold cCd8 at hr
 dsimp only at hr
 split at hr
 rotate_left
 ·cases hr
 rename_i n a
 simp only [Option.some.injEq, Prod.mk.injEq] at hr
 obtain ⟨rfl, rfl, rfl⟩ := hr
 refine ⟨rfl, rfl, Nat.le_of_ble_eq_true rfl, ?_⟩
 have hm : maxLen = 9223372036854775807 := rfl
 rintro ⟨⟨h1, h2⟩, h3, h4⟩ bs
 obtain ⟨c, rfl⟩ := Int.eq_ofNat_of_zero_le (show 0 ≤ n by omega)
 obtain ⟨k, rfl⟩ := Int.eq_ofNat_of_zero_le h3
 rw [Int.toNat_natCast] at h4 ⊢
 rw [Int.toNat_natCast]
 have h4' : k < c * 2 ^ c := by exact_mod_cast h4
 obtain ⟨q1, q2⟩ := cd_at ⟨by omega, by omega⟩ h4'
 have e1 : (cdD c k).1 = (pbsI (c : Nat)).getD (k / c) 0 := rfl
 have e2 : (cdD c k).2 = ((k % c : Nat) : Int) := rfl
 rw [e1, e2]
 have q3 := (@pbsI_facts (c : Nat)).1
 have q3' : (pbsI (c : Nat)).length ≤ maxLen := Nat.le_trans q3 (by decide)
 have q5 : (k : Int) / (c : Int) = ((k / c : Nat) : Int) := (Int.natCast_ediv k c).symm
 have q6 : -9223372036854775808 ≤ (k : Int) / (c : Int) := by rw [q5]; exact Int.le_trans (by decide) (Int.natCast_nonneg _)
 have q7 : (k : Int) / (c : Int) ≤ 9223372036854775807 := by rw [q5]; exact Int.ofNat_le.2 (Nat.le_trans (Nat.le_of_lt q1) (Nat.le_trans q3 (by decide)))
 have q8 : ¬ c = 0 := by omega
 clear h4 h4' e1 e2 q5
 (repeat' first | refine gA fun _ => ?_ | refine fkI ?_ ?_ <;> intro hb <;> try simp only [ew, tdivN, tmodN] at hb | simp only [go_sem, simprocAttr, *, cCd8, cPbs, Tryz.results135, tdivN, tmodN])
 all_goals first | rfl | skip
end Go.Own
