import Derived.Test.YtaigpolfbonjgaaGreatDoorOwnTi
import Derived.Test.YtaigpolfbonjgaaGreatDoorOwnTj
import Derived.Test.YtaigpolfbonjgaaGreatDoorOwnTe
set_option linter.unusedSimpArgs false
set_option linter.unusedVariables false
set_option maxRecDepth 20000
set_option maxHeartbeats 2000000
namespace Go.Own
open Go Go.Proofs
attribute [local go_sem] unD_dL dL_length dL_get dL_set dL_inj wfD_dL scal2 beq2 pair_eta dL_scal
def kqB (M : Nat) (ds : List (Int × Int)) (x : Int) : Bool := clo ds x == (M : Int) - 1
def keyL (M : Nat) (ds : List (Int × Int)) : List Int := (rng M).filter (kqB M ds)
def keysF (n : Int) (ds : List (Int × Int)) : List Int := if depsOK n ds then selS minT1 (keyL (2 ^ n.toNat) ds) else []
def cKeys : Contract := ⟨[], false, fun
 | [.one (.v (.int .i64 n)), .one (.sl 2 l)] => some (WfD l ∧ -9223372036854775808 ≤ n ∧ n ≤ 9223372036854775807, [⟨false, [.own 1 (iL (keysF n (unD l))) 1]⟩], [])
 | _ => none⟩
theorem deps_n {n : Int} {ds : List (Int × Int)} (h : depsOK n ds = true) : 1 ≤ n ∧ n ≤ 5 ∧ ds.length ≤ 20 := by
 simp only [depsOK, Bool.and_eq_true, inB_iff, decide_eq_true_eq] at h
 omega
theorem selS_nil {t : Int → Int → Bool} : selS t [] = [] := rfl
theorem keysI_ok : ContractOK E0 53 cKeys := by
 refine cWpc (E := E0) (T := mkT Tryz.prog [(52, cAreDeps), (99, cClo), (100, cMinS)] false (fun _ => false) true (fun _ => false)) (mkT_ok (E := E0) (.cons areDepsI_ok (.cons cloImpl_ok (.cons minSI_ok .nil)))) (fn := Tryz.f53) Tryz.func53 (by kernel_rfl) rfl mixedT (by kernel_rfl) rfl ?_
 intro args p rs ms hr
 unfold cKeys at hr
 dsimp only at hr
 split at hr
 rotate_left
 ·cases hr
 rename_i n l
 simp only [Option.some.injEq, Prod.mk.injEq] at hr
 obtain ⟨rfl, rfl, rfl⟩ := hr
 refine ⟨rfl, rfl, Nat.le_of_ble_eq_true rfl, ?_⟩
 have hm : maxLen = 9223372036854775807 := rfl
 rintro ⟨h1, hn1, hn2⟩ bs
 obtain ⟨ds, rfl, hx⟩ := h1.ex
 clear h1
 rw [unD_dL]
 cases hv : depsOK n ds
 ·have e : keysF n ds = [] := by unfold keysF; rw [hv]; rfl
  rw [e]
  clear e
  (repeat' first | refine gA fun _ => ?_ | refine fkI ?_ ?_ <;> intro hb <;> try simp only [ew, hv] at hb | simp only [go_sem, simprocAttr, *, cKeys, cAreDeps, cClo, cMinS, Tryz.results53, hv])
  all_goals first | rfl | skip
 ·have hd := depsOK_R hv
  obtain ⟨n0, n5, _⟩ := deps_n hv
  have e : keysF n ds = selS minT1 (keyL (2 ^ n.toNat) ds) := by unfold keysF; rw [hv]; rfl
  rw [e]
  obtain ⟨c, rfl⟩ := Int.eq_ofNat_of_zero_le (show 0 ≤ n by omega)
  rw [Int.toNat_natCast]
  have hM2 : 2 ^ c ≤ 32 := Nat.le_trans (Nat.pow_le_pow_right (by omega) (show c ≤ 5 by omega)) (by decide)
  have hM : 1 * (2 : Int) ^ c = ((2 ^ c : Nat) : Int) := by simp
  clear e
  generalize 2 ^ c = M at hM2 hM ⊢
  (repeat' first | refine gA fun _ => ?_ | refine fkI ?_ ?_ <;> intro hb <;> try simp only [ew, bits64, hv] at hb | simp only [go_sem, simprocAttr, *, cKeys, cAreDeps, cClo, cMinS, Tryz.results53, bits64, hv])
  refine lpI { ι := Nat, rs := [(13, 30)], mods := [(6, fun x => .one (.d (.v (.int .i64 x)))), (5, fun x => .one (.own 1 (iL ((rng x).filter (kqB M ds))) 1))], boxes := [], arrs := [], ok := fun x => x ≤ M, mu := fun x => M - x } rfl 0 (Nat.zero_le _) ?_ fun x hx => ?_
  ·(repeat' first | refine gA fun _ => ?_ | refine fkI ?_ ?_ <;> intro hb <;> try simp only [ew] at hb | simp only [go_sem, simprocAttr, *, cKeys, cAreDeps, cClo, cMinS, Tryz.results53])
   all_goals first | rfl | skip
  ·dsimp only at x hx
   have l1 := @rng_filter_len (kqB M ds) x
   by_cases h5 : x < M
   ·have l2 : ((rng x).filter (kqB M ds)).length ≤ 32 := by omega
    have eS := @rng_filter_succ (kqB M ds) x
    generalize hZ : (rng x).filter (kqB M ds) = Z at l1 l2 eS
    have eq : kqB M ds x = (clo ds x == (M : Int) - 1) := rfl
    cases hq : kqB M ds x
    ·rw [hq] at eq eS
     rw [if_neg (by decide), List.append_nil] at eS
     replace eq := eq.symm
     clear hq
     (repeat' first | refine gA fun _ => ?_ | refine fkI ?_ ?_ <;> intro hb <;> try simp only [ew, hM, bits64, hZ, eq] at hb | simp only [go_sem, simprocAttr, *, cKeys, cAreDeps, cClo, cMinS, Tryz.results53, hM, bits64, hZ, eq])
     refine lpN (x + 1) (by dsimp only; omega) (by dsimp only; omega) ?_
     clear eq
     (repeat' first | refine gA fun _ => ?_ | refine fkI ?_ ?_ <;> intro hb <;> try simp only [ew, eS, hZ] at hb | simp only [go_sem, simprocAttr, *, cKeys, cAreDeps, cClo, cMinS, Tryz.results53, eS, hZ])
    ·rw [hq] at eq eS
     rw [if_pos rfl] at eS
     replace eq := eq.symm
     clear hq
     (repeat' first | refine gA fun _ => ?_ | refine fkI ?_ ?_ <;> intro hb <;> try simp only [ew, hM, bits64, hZ, eq, iL_snoc] at hb | simp only [go_sem, simprocAttr, *, cKeys, cAreDeps, cClo, cMinS, Tryz.results53, hM, bits64, hZ, eq, iL_snoc])
     refine lpN (x + 1) (by dsimp only; omega) (by dsimp only; omega) ?_
     clear eq
     (repeat' first | refine gA fun _ => ?_ | refine fkI ?_ ?_ <;> intro hb <;> try simp only [ew, eS, hZ, iL_snoc] at hb | simp only [go_sem, simprocAttr, *, cKeys, cAreDeps, cClo, cMinS, Tryz.results53, eS, hZ, iL_snoc])
   ·have e5 : x = M := by omega
    subst e5
    have l2 : ((rng x).filter (kqB x ds)).length ≤ maxLen := Nat.le_trans l1 (Nat.le_trans hM2 (by decide))
    have e3 : (rng x).filter (kqB x ds) = keyL x ds := rfl
    rw [e3] at l2
    clear hd
    (repeat' first | refine gA fun _ => ?_ | refine fkI ?_ ?_ <;> intro hb <;> try simp only [ew, hM, bits64, e3] at hb | simp only [go_sem, simprocAttr, *, cKeys, cAreDeps, cClo, cMinS, Tryz.results53, hM, bits64, e3])
theorem keysS_ok : ContractOK E0 57 cKeys := by
 refine cWpc (E := E0) (T := mkT Tryz.prog [(56, cAreDeps), (106, cAll2), (107, cClo), (108, cMinS)] false (fun _ => false) true (fun _ => false)) (mkT_ok (E := E0) (.cons areDepsS_ok (.cons all2_ok (.cons cloSpec_ok (.cons minS_ok .nil))))) (fn := Tryz.f57) Tryz.func57 (by kernel_rfl) rfl mixedT (by kernel_rfl) rfl ?_
 intro args p rs ms hr
 unfold cKeys at hr
 dsimp only at hr
 split at hr
 rotate_left
 ·cases hr
 rename_i n l
 simp only [Option.some.injEq, Prod.mk.injEq] at hr
 obtain ⟨rfl, rfl, rfl⟩ := hr
 refine ⟨rfl, rfl, Nat.le_of_ble_eq_true rfl, ?_⟩
 have hm : maxLen = 9223372036854775807 := rfl
 rintro ⟨h1, hn1, hn2⟩ bs
 obtain ⟨ds, rfl, hx⟩ := h1.ex
 clear h1
 rw [unD_dL]
 cases hv : depsOK n ds
 ·have e : keysF n ds = [] := by unfold keysF; rw [hv]; rfl
  have e2 := @selS_nil minT1
  rw [e]
  clear e
  (repeat' first | refine gA fun _ => ?_ | refine fkI ?_ ?_ <;> intro hb <;> try simp only [ew, hv] at hb | simp only [go_sem, simprocAttr, *, cKeys, cAreDeps, cAll2, cClo, cMinS, Tryz.results57, hv])
  refine lpI { ι := Unit, rs := [(8, 29)], mods := [(6, fun _ => .one (.d (.v (.int .i64 0)))), (5, fun _ => .one (.own 1 (iL []) 1))], boxes := [], arrs := [], ok := fun _ => True, mu := fun _ => 0 } rfl () trivial ?_ fun _ _ => ?_
  ·(repeat' first | refine gA fun _ => ?_ | refine fkI ?_ ?_ <;> intro hb <;> try simp only [ew, hv] at hb | simp only [go_sem, simprocAttr, *, cKeys, cAreDeps, cAll2, cClo, cMinS, Tryz.results57, hv])
   all_goals first | rfl | skip
  ·(repeat' first | refine gA fun _ => ?_ | refine fkI ?_ ?_ <;> intro hb <;> try simp only [ew, hv, e2] at hb | simp only [go_sem, simprocAttr, *, cKeys, cAreDeps, cAll2, cClo, cMinS, Tryz.results57, hv, e2])
   all_goals first | rfl | skip
 ·have hd := depsOK_R hv
  obtain ⟨n0, n5, _⟩ := deps_n hv
  have e : keysF n ds = selS minT1 (keyL (2 ^ n.toNat) ds) := by unfold keysF; rw [hv]; rfl
  rw [e]
  obtain ⟨c, rfl⟩ := Int.eq_ofNat_of_zero_le (show 0 ≤ n by omega)
  rw [Int.toNat_natCast]
  have hM2 : 2 ^ c ≤ 32 := Nat.le_trans (Nat.pow_le_pow_right (by omega) (show c ≤ 5 by omega)) (by decide)
  have hM : all2 c = ((2 ^ c : Nat) : Int) - 1 := by unfold all2; rw [Int.toNat_natCast, Int.one_mul]; simp
  have hM3 : 1 ≤ 2 ^ c := Nat.one_le_two_pow
  clear e
  generalize 2 ^ c = M at hM2 hM hM3 ⊢
  (repeat' first | refine gA fun _ => ?_ | refine fkI ?_ ?_ <;> intro hb <;> try simp only [ew, hv] at hb | simp only [go_sem, simprocAttr, *, cKeys, cAreDeps, cAll2, cClo, cMinS, Tryz.results57, hv])
  refine lpI { ι := Nat, rs := [(8, 29)], mods := [(6, fun x => .one (.d (.v (.int .i64 x)))), (5, fun x => .one (.own 1 (iL ((rng x).filter (kqB M ds))) 1))], boxes := [], arrs := [], ok := fun x => x ≤ M, mu := fun x => M - x } rfl 0 (Nat.zero_le _) ?_ fun x hx => ?_
  ·(repeat' first | refine gA fun _ => ?_ | refine fkI ?_ ?_ <;> intro hb <;> try simp only [ew] at hb | simp only [go_sem, simprocAttr, *, cKeys, cAreDeps, cAll2, cClo, cMinS, Tryz.results57])
   all_goals first | rfl | skip
  ·dsimp only at x hx
   have l1 := @rng_filter_len (kqB M ds) x
   by_cases h5 : x < M
   ·have h5' : decide ((x : Int) ≤ (M : Int) - 1) = true := decide_eq_true (by omega)
    have l2 : ((rng x).filter (kqB M ds)).length ≤ 32 := by omega
    have eS := @rng_filter_succ (kqB M ds) x
    generalize hZ : (rng x).filter (kqB M ds) = Z at l1 l2 eS
    have eq : kqB M ds x = (clo ds x == (M : Int) - 1) := rfl
    cases hq : kqB M ds x
    ·rw [hq] at eq eS
     rw [if_neg (by decide), List.append_nil] at eS
     replace eq := eq.symm
     clear hq
     (repeat' first | refine gA fun _ => ?_ | refine fkI ?_ ?_ <;> intro hb <;> try simp only [ew, hv, hM, h5', hZ, eq] at hb | simp only [go_sem, simprocAttr, *, cKeys, cAreDeps, cAll2, cClo, cMinS, Tryz.results57, hv, hM, h5', hZ, eq])
     refine lpN (x + 1) (by dsimp only; omega) (by dsimp only; omega) ?_
     clear eq
     (repeat' first | refine gA fun _ => ?_ | refine fkI ?_ ?_ <;> intro hb <;> try simp only [ew, eS, hZ] at hb | simp only [go_sem, simprocAttr, *, cKeys, cAreDeps, cAll2, cClo, cMinS, Tryz.results57, eS, hZ])
    ·rw [hq] at eq eS
     rw [if_pos rfl] at eS
     replace eq := eq.symm
     clear hq
     (repeat' first | refine gA fun _ => ?_ | refine fkI ?_ ?_ <;> intro hb <;> try simp only [ew, hv, hM, h5', hZ, eq, iL_snoc] at hb | simp only [go_sem, simprocAttr, *, cKeys, cAreDeps, cAll2, cClo, cMinS, Tryz.results57, hv, hM, h5', hZ, eq, iL_snoc])
     refine lpN (x + 1) (by dsimp only; omega) (by dsimp only; omega) ?_
     clear eq
     (repeat' first | refine gA fun _ => ?_ | refine fkI ?_ ?_ <;> intro hb <;> try simp only [ew, eS, hZ, iL_snoc] at hb | simp only [go_sem, simprocAttr, *, cKeys, cAreDeps, cAll2, cClo, cMinS, Tryz.results57, eS, hZ, iL_snoc])
   ·have e5 : x = M := by omega
    subst e5
    have h5' : decide ((x : Int) ≤ (x : Int) - 1) = false := decide_eq_false (by omega)
    have l2 : ((rng x).filter (kqB x ds)).length ≤ maxLen := Nat.le_trans l1 (Nat.le_trans hM2 (by decide))
    have e3 : (rng x).filter (kqB x ds) = keyL x ds := rfl
    rw [e3] at l2
    clear hd
    (repeat' first | refine gA fun _ => ?_ | refine fkI ?_ ?_ <;> intro hb <;> try simp only [ew, hv, hM, h5', e3] at hb | simp only [go_sem, simprocAttr, *, cKeys, cAreDeps, cAll2, cClo, cMinS, Tryz.results57, hv, hM, h5', e3])
def red1 (ds : List (Int × Int)) (r x c : Int) : Int := if hasB x c && hasB (clo ds (delB x c)) r then delB x c else x
def redL (ds : List (Int × Int)) (r x : Int) (l : List Int) : Int := l.foldl (red1 ds r) x
def redN (ds : List (Int × Int)) (r x : Int) : Nat → Int
 | 0 => x
 | k + 1 => red1 ds r (redN ds r x k) (k : Nat)
theorem red1_R {ds : List (Int × Int)} {r x c : Int} (hx : R5 x) (hc : 0 ≤ c ∧ c ≤ 4) : R5 (red1 ds r x c) := by
 unfold red1; split
 ·exact del_R hx hc
 ·exact hx
theorem red1_le {ds : List (Int × Int)} {r x c : Int} (hx : R5 x) (hc : 0 ≤ c ∧ c ≤ 4) : red1 ds r x c ≤ x := by
 unfold red1; split
 ·exact (del_le hx hc).2
 ·exact Int.le_refl _
theorem red1_has {ds : List (Int × Int)} {r x c e : Int} (hx : R5 x) (hc : 0 ≤ c ∧ c ≤ 4) (he : 0 ≤ e ∧ e ≤ 4) (hne : e ≠ c) : hasB (red1 ds r x c) e = hasB x e := by
 unfold red1; split
 ·rw [del_has hx hc he, beq_eq_false_iff_ne.2 hne]; simp
 ·rfl
theorem redN_facts {ds : List (Int × Int)} {r x : Int} (hx : R5 x) : ∀ {k : Nat}, k ≤ 5 → R5 (redN ds r x k) ∧ redN ds r x k ≤ x ∧ ∀ e : Int, (k : Int) ≤ e → e ≤ 4 → hasB (redN ds r x k) e = hasB x e
 | 0, _ => ⟨hx, Int.le_refl _, fun _ _ _ => rfl⟩
 | k + 1, h => by
  obtain ⟨h1, h2, h3⟩ := redN_facts (ds := ds) (r := r) hx (k := k) (by omega)
  have hc : 0 ≤ (k : Int) ∧ (k : Int) ≤ 4 := ⟨by omega, by omega⟩
  refine ⟨red1_R h1 hc, Int.le_trans (red1_le h1 hc) h2, fun e he he4 => ?_⟩
  rw [redN, red1_has h1 hc ⟨by omega, he4⟩ (by omega), h3 e (by omega) he4]
theorem redL_mem {ds : List (Int × Int)} {r x : Int} (hx : R5 x) : ∀ {k : Nat}, k ≤ 5 → redL ds r x (memN x k) = redN ds r x k
 | 0, _ => rfl
 | k + 1, h => by
  have ih := redL_mem (ds := ds) (r := r) hx (k := k) (by omega)
  unfold redL at *
  rw [memN, List.foldl_append, ih, redN]
  split
  ·rfl
  ·rename_i hh
   have := (redN_facts (ds := ds) (r := r) hx (k := k) (by omega)).2.2 (k : Nat) (Int.le_refl _) (by omega)
   unfold red1
   rw [this]
   simp [hh]
theorem memN_nodup {x : Int} : ∀ {k : Nat}, (memN x k).Nodup
 | 0 => by simp [memN]
 | k + 1 => by
  rw [memN, List.nodup_append]
  refine ⟨memN_nodup, by split <;> simp, fun a ha b hb => ?_⟩
  have := memN_range a ha
  split at hb
  ·rw [List.mem_singleton] at hb; omega
  ·cases hb
theorem redL_facts {ds : List (Int × Int)} {r x : Int} (hx : R5 x) : ∀ {l : List Int}, (∀ c ∈ l, 0 ≤ c ∧ c ≤ 4) → R5 (redL ds r x l) ∧ ∀ e : Int, 0 ≤ e → e ≤ 4 → e ∉ l → hasB (redL ds r x l) e = hasB x e := by
 intro l
 suffices H : ∀ (l : List Int) (y : Int), R5 y → (∀ c ∈ l, 0 ≤ c ∧ c ≤ 4) → R5 (l.foldl (red1 ds r) y) ∧ ∀ e : Int, 0 ≤ e → e ≤ 4 → e ∉ l → hasB (l.foldl (red1 ds r) y) e = hasB y e from H l x hx
 intro l
 induction l with
 | nil => intro y hy _; exact ⟨hy, fun _ _ _ _ => rfl⟩
 | cons c l ih =>
  intro y hy hl
  have hc := hl c (by simp)
  obtain ⟨i1, i2⟩ := ih (red1 ds r y c) (red1_R hy hc) fun c hc => hl c (by simp [hc])
  refine ⟨i1, fun e h0 h4 hm => ?_⟩
  rw [List.foldl_cons, i2 e h0 h4 (fun h => hm (by simp [h])), red1_has hy hc ⟨h0, h4⟩ (fun h => hm (by simp [h]))]
def redD (n : Int) (ds : List (Int × Int)) (d : Int × Int) : Int × Int := if impB n ds d.1 d.2 then (redN ds d.2 d.1 5, d.2) else d
def cRed : Contract := ⟨[], false, fun
 | [.one (.v (.int .i64 n)), .one (.sl 2 l), .agg [.v (.int .i64 a), .v (.int .i64 b)]] => some (WfD l ∧ -9223372036854775808 ≤ n ∧ n ≤ 9223372036854775807,
   [⟨true, [.d (.v (.int .i64 (redD n (unD l) (a, b)).1)), .d (.v (.int .i64 (redD n (unD l) (a, b)).2))]⟩], [])
 | _ => none⟩
theorem redS_ok : ContractOK E0 147 cRed := by
 refine cWpc (E := E0) (T := mkT Tryz.prog [(71, cImp), (107, cClo)] false (fun _ => false) true (fun _ => false)) (mkT_ok (E := E0) (.cons impS_ok (.cons cloSpec_ok .nil))) (fn := Tryz.f147) Tryz.func147 (by kernel_rfl) rfl mixedT (by kernel_rfl) rfl ?_
 intro args p rs ms hr
 unfold cRed at hr
 dsimp only at hr
 split at hr
 rotate_left
 ·cases hr
 rename_i n l a b
 simp only [Option.some.injEq, Prod.mk.injEq] at hr
 obtain ⟨rfl, rfl, rfl⟩ := hr
 refine ⟨rfl, rfl, Nat.le_of_ble_eq_true rfl, ?_⟩
 have hm : maxLen = 9223372036854775807 := rfl
 rintro ⟨h1, hn1, hn2⟩ bs
 obtain ⟨ds, rfl, hx⟩ := h1.ex
 clear h1
 rw [unD_dL]
 cases hv : impB n ds a b
 ·have e : redD n ds (a, b) = (a, b) := by unfold redD; rw [hv]; rfl
  rw [e]
  clear e
  (repeat' first | refine gA fun _ => ?_ | refine fkI ?_ ?_ <;> intro hb <;> try simp only [ew, hv] at hb | simp only [go_sem, simprocAttr, *, cRed, cImp, cClo, Tryz.results147, hv])
  all_goals first | rfl | exact ⟨rfl, rfl⟩ | skip
 ·have e : redD n ds (a, b) = (redN ds b a 5, b) := by unfold redD; rw [hv]; rfl
  rw [e]
  clear e
  have hv2 := hv
  simp only [impB, Bool.and_eq_true] at hv2
  have hd := depsOK_R hv2.1.1
  obtain ⟨⟨a1, a2⟩, b1, b2⟩ := depOK_R hv2.1.2
  clear hv2
  have hN := fun k hk => @redN_facts ds b a ⟨a1, a2⟩ k hk
  (repeat' first | refine gA fun _ => ?_ | refine fkI ?_ ?_ <;> intro hb <;> try simp only [ew, hv] at hb | simp only [go_sem, simprocAttr, *, cRed, cImp, cClo, Tryz.results147, hv])
  refine lpI { ι := Nat, rs := [(8, 9), (15, 40)], mods := [(7, fun k => .one (.d (.v (.int .i64 k))))], boxes := [(5, fun k => [.d (.v (.int .i64 (redN ds b a k))), .d (.v (.int .i64 b))]), (6, fun _ => [.d (.v (.int .i64 0)), .d (.v (.int .i64 0))])], arrs := [], ok := fun k => k ≤ 5, mu := fun k => 5 - k } rfl 0 (Nat.zero_le _) ?_ fun k hk => ?_
  ·(repeat' first | refine gA fun _ => ?_ | refine fkI ?_ ?_ <;> intro hb <;> try simp only [ew] at hb | simp only [go_sem, simprocAttr, *, cRed, cImp, cClo, Tryz.results147])
   all_goals first | rfl | skip
  ·dsimp only at k hk
   by_cases h5 : k < 5
   ·have hp := p5 (c := k) h5
    have h5' : decide ((k : Int) < 5) = true := decide_eq_true (by omega)
    obtain ⟨⟨y0, y31⟩, _, _⟩ := hN k hk
    have e1 : redN ds b a (k + 1) = red1 ds b (redN ds b a k) (k : Nat) := rfl
    generalize hy : redN ds b a k = y at y0 y31 e1
    have hk4 : 0 ≤ (k : Int) ∧ (k : Int) ≤ 4 := ⟨by omega, by omega⟩
    obtain ⟨z0, z1⟩ := del_le (x := y) ⟨y0, y31⟩ hk4
    have en := del_ne (x := y) ⟨y0, y31⟩ hk4
    have ed : bitI .andNot .i64 y (1 * 2 ^ k) = delB y k := by unfold delB; rw [Int.toNat_natCast]
    have hcl := clo_R hd (show R5 (delB y k) from ⟨z0, by omega⟩)
    have eh : (bitI .and .i64 ((clo ds (delB y k)).fdiv (2 ^ b.toNat)) 1 == 1) = hasB (clo ds (delB y k)) b := rfl
    unfold red1 at e1
    cases hq : (hasB y k && hasB (clo ds (delB y k)) b)
    ·rw [hq, if_neg (by decide)] at e1
     clear hN
     (repeat' first | refine gA fun _ => ?_ | refine fkI ?_ ?_ <;> intro hb <;> try simp only [ew, bits64, hy, ed, en, eh, hq] at hb | simp only [go_sem, simprocAttr, *, cRed, cImp, cClo, Tryz.results147, bits64, hy, ed, en, eh, hq])
     refine lpN (k + 1) (by dsimp only; omega) (by dsimp only; omega) ?_
     (repeat' first | refine gA fun _ => ?_ | refine fkI ?_ ?_ <;> intro hb <;> try simp only [ew, hy, e1] at hb | simp only [go_sem, simprocAttr, *, cRed, cImp, cClo, Tryz.results147, hy, e1])
    ·rw [hq, if_pos rfl] at e1
     clear hN
     (repeat' first | refine gA fun _ => ?_ | refine fkI ?_ ?_ <;> intro hb <;> try simp only [ew, bits64, hy, ed, en, eh, hq] at hb | simp only [go_sem, simprocAttr, *, cRed, cImp, cClo, Tryz.results147, bits64, hy, ed, en, eh, hq])
     refine lpN (k + 1) (by dsimp only; omega) (by dsimp only; omega) ?_
     (repeat' first | refine gA fun _ => ?_ | refine fkI ?_ ?_ <;> intro hb <;> try simp only [ew, hy, e1] at hb | simp only [go_sem, simprocAttr, *, cRed, cImp, cClo, Tryz.results147, hy, e1])
   ·have e5 : k = 5 := by omega
    subst e5
    clear hN
    (repeat' first | refine gA fun _ => ?_ | refine fkI ?_ ?_ <;> intro hb <;> try simp only [ew] at hb | simp only [go_sem, simprocAttr, *, cRed, cImp, cClo, Tryz.results147])
    all_goals first | rfl | exact ⟨rfl, rfl⟩ | skip
theorem redI_ok : ContractOK E0 139 cRed := by
 refine cWpc (E := E0) (T := mkT Tryz.prog [(66, cImp), (69, cMem), (115, cImp1)] false (fun _ => false) true (fun d => d == 24 || d == 29)) (mkT_ok (E := E0) (.cons impI_ok (.cons memI_ok (.cons imp1_ok .nil)))) (fn := Tryz.f139) Tryz.func139 (by kernel_rfl) rfl mixedT (by kernel_rfl) rfl ?_
 intro args p rs ms hr
 unfold cRed at hr
 dsimp only at hr
 split at hr
 rotate_left
 ·cases hr
 rename_i n l a b
 simp only [Option.some.injEq, Prod.mk.injEq] at hr
 obtain ⟨rfl, rfl, rfl⟩ := hr
 refine ⟨rfl, rfl, Nat.le_of_ble_eq_true rfl, ?_⟩
 have hm : maxLen = 9223372036854775807 := rfl
 rintro ⟨h1, hn1, hn2⟩ bs
 obtain ⟨ds, rfl, hx⟩ := h1.ex
 clear h1
 rw [unD_dL]
 cases hv : impB n ds a b
 ·have e : redD n ds (a, b) = (a, b) := by unfold redD; rw [hv]; rfl
  rw [e]
  clear e
  (repeat' first | refine gA fun _ => ?_ | refine fkI ?_ ?_ <;> intro hb <;> try simp only [ew, hv] at hb | simp only [go_sem, simprocAttr, *, cRed, cImp, cMem, cImp1, Tryz.results139, hv])
  all_goals first | rfl | exact ⟨rfl, rfl⟩ | skip
 ·have hv2 := hv
  simp only [impB, Bool.and_eq_true] at hv2
  have hd := depsOK_R hv2.1.1
  obtain ⟨⟨a1, a2⟩, b1, b2⟩ := depOK_R hv2.1.2
  have ha : isAttr 5 a = true := by
   simp only [isAttr, Bool.and_eq_true, inB_iff, all2]
   exact ⟨⟨by decide, by decide⟩, a1, a2⟩
  have hm : mem a = memN a 5 := by unfold mem; rw [ha]; rfl
  have e : redD n ds (a, b) = (redL ds b a (mem a), b) := by unfold redD; rw [hv, hm, redL_mem ⟨a1, a2⟩ (by omega)]; rfl
  rw [e]
  clear e hv2
  have hr : ∀ c ∈ mem a, 0 ≤ c ∧ c ≤ 4 := fun c hc => by
   rw [hm] at hc
   have := memN_range c hc
   omega
  have hnd : (mem a).Nodup := by rw [hm]; exact memN_nodup
  have hhas : ∀ c ∈ mem a, hasB a c = true := fun c hc => by
   rw [hm] at hc
   have : ∀ k : Nat, c ∈ memN a k → hasB a c = true := by
    intro k
    induction k with
    | zero => intro h; cases h
    | succ k ih =>
     intro h
     rw [memN] at h
     rcases List.mem_append.1 h with h | h
     ·exact ih h
     ·split at h
      ·rename_i hh
       rw [List.mem_singleton] at h
       rw [h]; exact hh
      ·cases h
   exact this 5 hc
  have hl := @mem_len a
  clear ha hm
  generalize hm : mem a = m at hr hnd hhas hl ⊢
  have hN := fun i => @redL_facts ds b a ⟨a1, a2⟩ (m.take i) fun c hc => hr c (List.mem_of_mem_take hc)
  have hl2 : m.length ≤ maxLen := Nat.le_trans hl (by decide)
  (repeat' first | refine gA fun _ => ?_ | refine fkI ?_ ?_ <;> intro hb <;> try simp only [ew, hv, hm] at hb | simp only [go_sem, simprocAttr, *, cRed, cImp, cMem, cImp1, Tryz.results139, hv, hm])
  refine lpI { ι := Nat, rs := [(8, 10), (21, 37)], mods := [(20, fun i => .one (.d (.v (.int .i64 i))))], boxes := [(5, fun i => [.d (.v (.int .i64 (redL ds b a (m.take i)))), .d (.v (.int .i64 b))]), (6, fun _ => [.d (.v (.int .i64 0)), .d (.v (.int .i64 0))])], arrs := [(18, fun _ => (1, iL m, 1))], ok := fun i => i ≤ m.length, mu := fun i => m.length - i } rfl 0 (Nat.zero_le _) ?_ fun i hi => ?_
  ·clear hN
   (repeat' first | refine gA fun _ => ?_ | refine fkI ?_ ?_ <;> intro hb <;> try simp only [ew, hm] at hb | simp only [go_sem, simprocAttr, *, cRed, cImp, cMem, cImp1, Tryz.results139, hm])
   all_goals first | rfl | skip
  ·dsimp only at i hi
   by_cases h5 : i < m.length
   ·have hmem := getD_mem h5 0
    obtain ⟨⟨y0, y31⟩, hb⟩ := hN i
    have hk4 := hr _ hmem
    have hnot : m.getD i 0 ∉ m.take i := by
     intro h
     obtain ⟨j, hj, e⟩ := List.getElem_of_mem h
     rw [List.getElem_take] at e
     have hj2 : j < i := by rw [List.length_take] at hj; omega
     have e2 : m.getD i 0 = m[i] := by simp [List.getD_eq_getElem?_getD, h5]
     rw [e2] at e
     exact (List.pairwise_iff_getElem.1 hnd) j i (by omega) h5 hj2 e
    have hhb := hb _ hk4.1 hk4.2 hnot
    rw [hhas _ hmem] at hhb
    have e1 : redL ds b a (m.take (i + 1)) = red1 ds b (redL ds b a (m.take i)) (m.getD i 0) := by unfold redL; rw [take_succ_getD h5 0, List.foldl_append]; rfl
    generalize hy : redL ds b a (m.take i) = y at y0 y31 e1 hhb
    generalize hc : m.getD i 0 = c at hk4 e1 hhb
    obtain ⟨c0, c4⟩ := hk4
    have hp := shl5 ⟨c0, c4⟩
    obtain ⟨z0, z1⟩ := del_le (x := y) ⟨y0, y31⟩ ⟨c0, c4⟩
    have ed : bitI .andNot .i64 y (1 * 2 ^ c.toNat) = delB y c := rfl
    unfold red1 at e1
    rw [hhb, Bool.true_and] at e1
    clear hN hb hr hnd hhas hmem hnot hhb
    cases hq : hasB (clo ds (delB y c)) b
    ·rw [hq, if_neg (by decide)] at e1
     (repeat' first | refine gA fun _ => ?_ | refine fkI ?_ ?_ <;> intro hb <;> try simp only [ew, bits64, hy, hc, ed, hq] at hb | simp only [go_sem, simprocAttr, *, cRed, cImp, cMem, cImp1, Tryz.results139, bits64, hy, hc, ed, hq])
     refine lpN (i + 1) (by dsimp only; omega) (by dsimp only; omega) ?_
     (repeat' first | refine gA fun _ => ?_ | refine fkI ?_ ?_ <;> intro hb <;> try simp only [ew, hy, e1] at hb | simp only [go_sem, simprocAttr, *, cRed, cImp, cMem, cImp1, Tryz.results139, hy, e1])
    ·rw [hq, if_pos rfl] at e1
     (repeat' first | refine gA fun _ => ?_ | refine fkI ?_ ?_ <;> intro hb <;> try simp only [ew, bits64, hy, hc, ed, hq] at hb | simp only [go_sem, simprocAttr, *, cRed, cImp, cMem, cImp1, Tryz.results139, bits64, hy, hc, ed, hq])
     refine lpN (i + 1) (by dsimp only; omega) (by dsimp only; omega) ?_
     (repeat' first | refine gA fun _ => ?_ | refine fkI ?_ ?_ <;> intro hb <;> try simp only [ew, hy, e1] at hb | simp only [go_sem, simprocAttr, *, cRed, cImp, cMem, cImp1, Tryz.results139, hy, e1])
   ·have e5 : i = m.length := by omega
    subst e5
    have e6 : m.take m.length = m := List.take_length
    clear hN hr hnd hhas
    (repeat' first | refine gA fun _ => ?_ | refine fkI ?_ ?_ <;> intro hb <;> try simp only [ew, e6] at hb | simp only [go_sem, simprocAttr, *, cRed, cImp, cMem, cImp1, Tryz.results139, e6])
    all_goals first | rfl | exact ⟨rfl, rfl⟩ | skip
def wo (ds : List (Int × Int)) (i : Nat) : List (Int × Int) := ds.take i ++ ds.drop (i + 1)
def cWo : Contract := ⟨[], false, fun
 | [.one (.sl 2 l), .one (.v (.int .i64 i))] => some (WfD l ∧ l.length ≤ 16777216 ∧ 0 ≤ i ∧ i < l.length, [⟨false, [.own 2 (dL (wo (unD l) i.toNat)) 1]⟩], [])
 | _ => none⟩
theorem woI_ok : ContractOK E0 141 cWo := by
 refine cWpc (E := E0) (T := mkT Tryz.prog [(134, cCopyD)] false (fun _ => false) true (fun _ => false)) (mkT_ok (E := E0) (.cons copyD_ok .nil)) (fn := Tryz.f141) Tryz.func141 (by kernel_rfl) rfl mixedT (by kernel_rfl) rfl ?_
 intro args p rs ms hr
 unfold cWo at hr
 dsimp only at hr
 split at hr
 rotate_left
 ·cases hr
 rename_i l i
 simp only [Option.some.injEq, Prod.mk.injEq] at hr
 obtain ⟨rfl, rfl, rfl⟩ := hr
 refine ⟨rfl, rfl, Nat.le_of_ble_eq_true rfl, ?_⟩
 have hm : maxLen = 9223372036854775807 := rfl
 rintro ⟨h1, h2, h3, h4⟩ bs
 obtain ⟨ds, rfl, hx⟩ := h1.ex
 clear h1
 rw [dL_length] at h2 h4
 rw [unD_dL]
 obtain ⟨i, rfl⟩ := Int.eq_ofNat_of_zero_le h3
 rw [Int.toNat_natCast]
 have h4' : i < ds.length := by omega
 have e : ((i : Int) + 1).toNat = i + 1 := by omega
 have e2 : ds.take i ++ ds.drop (i + 1) = wo ds i := rfl
 (repeat' first | refine gA fun _ => ?_ | refine fkI ?_ ?_ <;> intro hb <;> try simp only [ew, e, dL_take, dL_drop, dL_app, e2, List.take_length, List.length_drop] at hb | simp only [go_sem, simprocAttr, *, cWo, cCopyD, Tryz.results141, e, dL_take, dL_drop, dL_app, e2, List.take_length, List.length_drop])
theorem woS_ok : ContractOK E0 148 cWo := by
 refine cWpc (E := E0) (T := mkT Tryz.prog [] false (fun _ => false) true (fun _ => false)) (mkT_ok (E := E0) .nil) (fn := Tryz.f148) Tryz.func148 (by kernel_rfl) rfl mixedT (by kernel_rfl) rfl ?_
 intro args p rs ms hr
 unfold cWo at hr
 dsimp only at hr
 split at hr
 rotate_left
 ·cases hr
 rename_i l i
 simp only [Option.some.injEq, Prod.mk.injEq] at hr
 obtain ⟨rfl, rfl, rfl⟩ := hr
 refine ⟨rfl, rfl, Nat.le_of_ble_eq_true rfl, ?_⟩
 have hm : maxLen = 9223372036854775807 := rfl
 rintro ⟨h1, h2, h3, h4⟩ bs
 obtain ⟨ds, rfl, hx⟩ := h1.ex
 clear h1
 rw [dL_length] at h2 h4
 rw [unD_dL]
 obtain ⟨i, rfl⟩ := Int.eq_ofNat_of_zero_le h3
 rw [Int.toNat_natCast]
 have h4' : i < ds.length := by omega
 have e : ((i : Int) + 1).toNat = i + 1 := by omega
 have e2 : ds.take i ++ ds.drop (i + 1) = wo ds i := rfl
 (repeat' first | refine gA fun _ => ?_ | refine fkI ?_ ?_ <;> intro hb <;> try simp only [ew, e, dL_take, dL_drop, dL_app, e2, List.take_length, List.length_drop] at hb | simp only [go_sem, simprocAttr, *, cWo, Tryz.results148, e, dL_take, dL_drop, dL_app, e2, List.take_length, List.length_drop])
end Go.Own
