/-
  Lines of witnesses, and their law. Conditions: as each theorem states them.
-/
import Derived.Test.YtaigpolfbonjgaaGreatDoorOwnTn
import Derived.Test.YtaigpolfbonjgaaGreatDoorOwnH11
import Derived.Test.YtaigpolfbonjgaaGreatDoorOwnH7
import Derived.Test.YtaigpolfbonjgaaGreatDoorOwnTl
set_option linter.unusedSimpArgs false
set_option linter.unusedVariables false
set_option maxRecDepth 20000
set_option maxHeartbeats 4000000
namespace Go.Own
open Go Go.Proofs
theorem dpK_some {rs : List (List Int)} {c : Nat} {m l r : Int} {i t : Nat} : ∀ {n k : Nat}, dpK rs c m l r i k n = some t → t < k + n
 | 0, k, h => nomatch h
 | n + 1, k, h => by
  rw [dpK] at h
  split at h
  ·simp only [Option.some.injEq] at h
   omega
  ·have := dpK_some h; omega
theorem dpI_some {rs : List (List Int)} {c : Nat} {m l r : Int} {t u : Nat} : ∀ {n i : Nat}, i + n ≤ rs.length → dpI rs c m l r i n = some (t, u) → t < i + n ∧ u < rs.length
 | 0, i, _, h => nomatch h
 | n + 1, i, hn, h => by
  rw [dpI] at h
  split at h
  ·rename_i k hk
   simp only [Option.some.injEq, Prod.mk.injEq] at h
   obtain ⟨rfl, rfl⟩ := h
   have := dpK_some hk
   omega
  ·have := dpI_some (n := n) (i := i + 1) (by omega) h; omega
def wlB (c : Int) (rs : List (List Int)) (m l r : Int) : ByteArray := if askOK c rs m l r then match wtO c rs m l r with
 | some (i, k) => ((((((fd (l, r) ++ ⟨#[32, 102, 97, 105, 108, 115, 32, 102, 111, 114, 32]⟩) ++ numB (i : Nat)) ++ ⟨#[32, 97, 110, 100, 32]⟩) ++ numB (k : Nat)) ++ ⟨#[44, 32, 114, 101, 109, 111, 118, 101, 32]⟩) ++ numB (remF c rs m l r))
 | none => fd (l, r) ++ ⟨#[32, 104, 111, 108, 100, 115]⟩
 else ⟨#[]⟩
theorem s6 : ByteArray.size ⟨#[32, 104, 111, 108, 100, 115]⟩ = 6 := rfl
theorem s11 : ByteArray.size ⟨#[32, 102, 97, 105, 108, 115, 32, 102, 111, 114, 32]⟩ = 11 := rfl
theorem s5 : ByteArray.size ⟨#[32, 97, 110, 100, 32]⟩ = 5 := rfl
theorem s9 : ByteArray.size ⟨#[44, 32, 114, 101, 109, 111, 118, 101, 32]⟩ = 9 := rfl
def cWl : Contract := ⟨[], false, fun
 | [.agg [.v (.int .i64 c), .sl 1 t], .one (.v (.int .i64 m)), .agg [.v (.int .i64 l), .v (.int .i64 r)]] => some (WfS t ∧ -9223372036854775808 ≤ c ∧ c ≤ 9223372036854775807, [⟨false, [.d (.v (.string (wlB c (unS t) m l r)))]⟩], [])
 | _ => none⟩
theorem wlI_ok : ContractOK E0 17 cWl := by
 refine cWpc (E := E0) (T := mkT Tryz.prog [(39, cAsk), (40, cWit), (32, cFD), (41, cNum), (42, cRem)] false (fun _ => false) true (fun _ => false)) (mkT_ok (E := E0) (.cons ask_ok (.cons witI_ok (.cons fdI_ok (.cons numI_ok (.cons remI_ok .nil)))))) (fn := Tryz.f17) Tryz.func17 (by kernel_rfl) rfl mixedT (by kernel_rfl) rfl ?_
 intro args p rs ms hr
 unfold cWl at hr
 dsimp only at hr
 split at hr
 rotate_left
 ·cases hr
 rename_i c t m l r
 simp only [Option.some.injEq, Prod.mk.injEq] at hr
 obtain ⟨rfl, rfl, rfl⟩ := hr
 refine ⟨rfl, rfl, Nat.le_of_ble_eq_true rfl, ?_⟩
 have hm : maxLen = 9223372036854775807 := rfl
 rintro ⟨h1, hc1, hc2⟩ bs
 obtain ⟨rs, rfl, hx, hy⟩ := h1.ex
 clear h1
 rw [unS_sL]
 cases hask : askOK c rs m l r
 ·have e : wlB c rs m l r = ⟨#[]⟩ := by unfold wlB; rw [hask, if_neg (by decide)]
  rw [e]
  clear e
  (repeat' first | refine gA fun _ => ?_ | refine fkI ?_ ?_ <;> intro hb <;> try simp only [ew, hask] at hb | simp only [go_sem, simprocAttr, *, cWl, cAsk, cWit, cFD, cNum, cRem, Tryz.results17, hask])
  all_goals first | rfl | skip
 ·have hw : wtR c rs m l r = wtO c rs m l r := by unfold wtR; rw [hask, if_pos rfl]
  have s3 := @fd_sizeN (l, r)
  obtain ⟨q1, q2⟩ := remF_le hask
  have h40 : rs.length ≤ 40 := by
   obtain ⟨_, _, _, _, h, _⟩ := tab_rows (ask_facts hask).1
   exact h
  cases hwt : wtO c rs m l r with
  | none =>
   have e : wlB c rs m l r = fd (l, r) ++ ⟨#[32, 104, 111, 108, 100, 115]⟩ := by unfold wlB; rw [hask, if_pos rfl, hwt]
   have e1 : (Option.isSome (none : Option (Nat × Nat))) = false := rfl
   rw [e]
   rw [hwt] at hw
   clear e hwt
   (repeat' first | refine gA fun _ => ?_ | refine fkI ?_ ?_ <;> intro hb <;> try simp only [ew, hask, hw, e1, s6, size_app] at hb | simp only [go_sem, simprocAttr, *, cWl, cAsk, cWit, cFD, cNum, cRem, Tryz.results17, hask, hw, e1, s6, size_app])
   all_goals first | rfl | skip
  | some p =>
   obtain ⟨i, k⟩ := p
   have e : wlB c rs m l r = ((((((fd (l, r) ++ ⟨#[32, 102, 97, 105, 108, 115, 32, 102, 111, 114, 32]⟩) ++ numB (i : Nat)) ++ ⟨#[32, 97, 110, 100, 32]⟩) ++ numB (k : Nat)) ++ ⟨#[44, 32, 114, 101, 109, 111, 118, 101, 32]⟩) ++ numB (remF c rs m l r)) := by unfold wlB; rw [hask, if_pos rfl, hwt]
   have hb := dpI_some (by omega) hwt
   have p1 : (prI (some (i, k))).1 = (i : Nat) := rfl
   have p2 : (prI (some (i, k))).2 = (k : Nat) := rfl
   have e1 : (Option.isSome (some (i, k))) = true := rfl
   have n1 := @num_size (i : Nat)
   have n2 := @num_size (k : Nat)
   have n3 := @num_size (remF c rs m l r)
   rw [e]
   rw [hwt] at hw
   clear e hwt
   generalize hR : remF c rs m l r = R at q1 q2 n3 ⊢
   (repeat' first | refine gA fun _ => ?_ | refine fkI ?_ ?_ <;> intro hb <;> try simp only [ew, hask, hw, p1, p2, e1, hR, s11, s5, s9, size_app] at hb | simp only [go_sem, simprocAttr, *, cWl, cAsk, cWit, cFD, cNum, cRem, Tryz.results17, hask, hw, p1, p2, e1, hR, s11, s5, s9, size_app])
   all_goals first | rfl | skip
theorem witS_ok : ContractOK E0 45 cWit := by
 refine cWpc (E := E0) (T := mkT Tryz.prog [(43, cFine), (44, cDep), (89, cPair)] false (fun _ => false) true (fun _ => false)) (mkT_ok (E := E0) (.cons fine_ok (.cons depS_ok (.cons pair_ok .nil)))) (fn := Tryz.f45) Tryz.func45 (by kernel_rfl) rfl mixedT (by kernel_rfl) rfl ?_
 intro args p rs ms hr
 unfold cWit at hr
 dsimp only at hr
 split at hr
 rotate_left
 ·cases hr
 rename_i c t m l r
 simp only [Option.some.injEq, Prod.mk.injEq] at hr
 obtain ⟨rfl, rfl, rfl⟩ := hr
 refine ⟨rfl, rfl, Nat.le_of_ble_eq_true rfl, ?_⟩
 have hm : maxLen = 9223372036854775807 := rfl
 rintro ⟨h1, hc1, hc2⟩ bs
 obtain ⟨rs, rfl, hx, hy⟩ := h1.ex
 clear h1
 rw [unS_sL]
 cases hask : askOK c rs m l r
 ·have e : wtR c rs m l r = none := by unfold wtR; rw [hask]; rfl
  rw [e]
  clear e
  have e0 : (!(tabOK c rs && modeOK m) || !depOK c l r) = true := by
   unfold askOK at hask
   cases q1 : (tabOK c rs && modeOK m) <;> cases q2 : depOK c l r <;> simp_all
  (repeat' first | refine gA fun _ => ?_ | refine fkI ?_ ?_ <;> intro hb <;> try simp only [ew, e0] at hb | simp only [go_sem, simprocAttr, *, cWit, cFine, cDep, cPair, Tryz.results45, e0])
  all_goals first | exact ⟨rfl, rfl, rfl⟩ | exact ⟨rfl, rfl⟩ | rfl | skip
 ·have e : wtR c rs m l r = wtO c rs m l r := by unfold wtR; rw [hask]; rfl
  rw [e]
  clear e
  have e0 : (!(tabOK c rs && modeOK m) || !depOK c l r) = false := by
   unfold askOK at hask
   cases q1 : (tabOK c rs && modeOK m) <;> cases q2 : depOK c l r <;> simp_all
  cases hwt : wtO c rs m l r with
  | none =>
   have p1 : (prI (none : Option (Nat × Nat))).1 = -1 := rfl
   have p2 : (prI (none : Option (Nat × Nat))).2 = -1 := rfl
   have e1 : (Option.isSome (none : Option (Nat × Nat))) = false := rfl
   (repeat' first | refine gA fun _ => ?_ | refine fkI ?_ ?_ <;> intro hb <;> try simp only [ew, e0, hwt, p1, p2, e1] at hb | simp only [go_sem, simprocAttr, *, cWit, cFine, cDep, cPair, Tryz.results45, e0, hwt, p1, p2, e1])
   all_goals first | exact ⟨rfl, rfl, rfl⟩ | exact ⟨rfl, rfl⟩ | rfl | skip
  | some p =>
   obtain ⟨i, k⟩ := p
   have p1 : (prI (some (i, k))).1 = (i : Nat) := rfl
   have p2 : (prI (some (i, k))).2 = (k : Nat) := rfl
   have e1 : (Option.isSome (some (i, k))) = true := rfl
   (repeat' first | refine gA fun _ => ?_ | refine fkI ?_ ?_ <;> intro hb <;> try simp only [ew, e0, hwt, p1, p2, e1] at hb | simp only [go_sem, simprocAttr, *, cWit, cFine, cDep, cPair, Tryz.results45, e0, hwt, p1, p2, e1])
   all_goals first | exact ⟨rfl, rfl, rfl⟩ | exact ⟨rfl, rfl⟩ | rfl | skip
theorem wlS_ok : ContractOK E0 18 cWl := by
 refine cWpc (E := E0) (T := mkT Tryz.prog [(43, cFine), (44, cDep), (45, cWit), (35, cFD), (46, cNum), (47, cRem)] false (fun _ => false) true (fun _ => false)) (mkT_ok (E := E0) (.cons fine_ok (.cons depS_ok (.cons witS_ok (.cons fdS_ok (.cons numS_ok (.cons remS_ok .nil))))))) (fn := Tryz.f18) Tryz.func18 (by kernel_rfl) rfl mixedT (by kernel_rfl) rfl ?_
 intro args p rs ms hr
 unfold cWl at hr
 dsimp only at hr
 split at hr
 rotate_left
 ·cases hr
 rename_i c t m l r
 simp only [Option.some.injEq, Prod.mk.injEq] at hr
 obtain ⟨rfl, rfl, rfl⟩ := hr
 refine ⟨rfl, rfl, Nat.le_of_ble_eq_true rfl, ?_⟩
 have hm : maxLen = 9223372036854775807 := rfl
 rintro ⟨h1, hc1, hc2⟩ bs
 obtain ⟨rs, rfl, hx, hy⟩ := h1.ex
 clear h1
 rw [unS_sL]
 cases hask : askOK c rs m l r
 ·have e : wlB c rs m l r = ⟨#[]⟩ := by unfold wlB; rw [hask, if_neg (by decide)]
  have e0 : (!(tabOK c rs && modeOK m) || !depOK c l r) = true := by
   unfold askOK at hask
   rw [← Bool.not_and, hask]; rfl
  rw [e]
  clear e hask
  (repeat' first | refine gA fun _ => ?_ | refine fkI ?_ ?_ <;> intro hb <;> try simp only [ew, e0] at hb | simp only [go_sem, simprocAttr, *, cWl, cFine, cDep, cWit, cFD, cNum, cRem, Tryz.results18, e0])
  all_goals first | rfl | skip
 ·have hw : wtR c rs m l r = wtO c rs m l r := by unfold wtR; rw [hask, if_pos rfl]
  have s3 := @fd_sizeN (l, r)
  obtain ⟨q1, q2⟩ := remF_le hask
  have h40 : rs.length ≤ 40 := by
   obtain ⟨_, _, _, _, h, _⟩ := tab_rows (ask_facts hask).1
   exact h
  have hask0 := hask
  unfold askOK at hask0
  simp only [Bool.and_eq_true] at hask0
  obtain ⟨⟨ht, hmo⟩, hd⟩ := hask0
  cases hwt : wtO c rs m l r with
  | none =>
   have e : wlB c rs m l r = fd (l, r) ++ ⟨#[32, 104, 111, 108, 100, 115]⟩ := by unfold wlB; rw [hask, if_pos rfl, hwt]
   have e1 : (Option.isSome (none : Option (Nat × Nat))) = false := rfl
   rw [e]
   rw [hwt] at hw
   clear e hwt
   (repeat' first | refine gA fun _ => ?_ | refine fkI ?_ ?_ <;> intro hb <;> try simp only [ew, ht, hmo, hd, hw, e1, s6, size_app] at hb | simp only [go_sem, simprocAttr, *, cWl, cFine, cDep, cWit, cFD, cNum, cRem, Tryz.results18, ht, hmo, hd, hw, e1, s6, size_app])
   all_goals first | rfl | skip
  | some p =>
   obtain ⟨i, k⟩ := p
   have e : wlB c rs m l r = ((((((fd (l, r) ++ ⟨#[32, 102, 97, 105, 108, 115, 32, 102, 111, 114, 32]⟩) ++ numB (i : Nat)) ++ ⟨#[32, 97, 110, 100, 32]⟩) ++ numB (k : Nat)) ++ ⟨#[44, 32, 114, 101, 109, 111, 118, 101, 32]⟩) ++ numB (remF c rs m l r)) := by unfold wlB; rw [hask, if_pos rfl, hwt]
   have hb := dpI_some (by omega) hwt
   have p1 : (prI (some (i, k))).1 = (i : Nat) := rfl
   have p2 : (prI (some (i, k))).2 = (k : Nat) := rfl
   have e1 : (Option.isSome (some (i, k))) = true := rfl
   have n1 := @num_size (i : Nat)
   have n2 := @num_size (k : Nat)
   have n3 := @num_size (remF c rs m l r)
   rw [e]
   rw [hwt] at hw
   clear e hwt
   generalize hR : remF c rs m l r = R at q1 q2 n3 ⊢
   (repeat' first | refine gA fun _ => ?_ | refine fkI ?_ ?_ <;> intro hb <;> try simp only [ew, ht, hmo, hd, hw, p1, p2, e1, hR, s11, s5, s9, size_app] at hb | simp only [go_sem, simprocAttr, *, cWl, cFine, cDep, cWit, cFD, cNum, cRem, Tryz.results18, ht, hmo, hd, hw, p1, p2, e1, hR, s11, s5, s9, size_app])
   all_goals first | rfl | skip
end Go.Own
namespace Go.Own
open Go Go.Proofs
attribute [local go_sem] unD_dL dL_length dL_get dL_set dL_inj wfD_dL scal2 beq2 pair_eta dL_scal
def schB (n : Int) (ds : List (Int × Int)) : ByteArray := if depsOK n ds then ((((⟨#[107, 101, 121, 115, 32]⟩ ++ slL (keysF n ds)) ++ ⟨#[32, 116, 104, 105, 114, 100, 32]⟩) ++ slL (synF n ds)) ++ ⟨#[32, 98, 111, 121, 99, 101, 32]⟩) ++ slL (decF n ds) else ⟨#[]⟩
theorem keys_size : ByteArray.size ⟨#[107, 101, 121, 115, 32]⟩ = 5 := rfl
theorem third_size : ByteArray.size ⟨#[32, 116, 104, 105, 114, 100, 32]⟩ = 7 := rfl
theorem boyce_size : ByteArray.size ⟨#[32, 98, 111, 121, 99, 101, 32]⟩ = 7 := rfl
def cSch : Contract := ⟨[], false, fun
 | [.one (.v (.int .i64 n)), .one (.sl 2 l)] => some (WfD l ∧ -9223372036854775808 ≤ n ∧ n ≤ 9223372036854775807, [⟨false, [.d (.v (.string (schB n (unD l))))]⟩], [])
 | _ => none⟩
theorem sch_size {xs : List Int} (h : xs.length ≤ 100) : xs.length ≤ maxLen ∧ xs.length ≤ 1048576 ∧ (slL xs).size ≤ 607 := by
 have := @slL_size xs
 exact ⟨Nat.le_trans h (by decide), by omega, by omega⟩
theorem schI_ok : ContractOK E0 21 cSch := by
 refine cWpc (E := E0) (T := mkT Tryz.prog [(52, cAreDeps), (53, cKeys), (15, cSL), (54, cSyn), (55, cDec)] false (fun _ => false) true (fun _ => false)) (mkT_ok (E := E0) (.cons areDepsI_ok (.cons keysI_ok (.cons slI_ok (.cons synI_ok (.cons decI_ok .nil)))))) (fn := Tryz.f21) Tryz.func21 (by kernel_rfl) rfl mixedT (by kernel_rfl) rfl ?_
 intro args p rs ms hr
 unfold cSch at hr
 dsimp only at hr
 split at hr
 rotate_left
 ·cases hr
 rename_i n l
 simp only [Option.some.injEq, Prod.mk.injEq] at hr
 obtain ⟨rfl, rfl, rfl⟩ := hr
 refine ⟨rfl, rfl, Nat.le_of_ble_eq_true rfl, ?_⟩
 have hm : maxLen = 9223372036854775807 := rfl
 rintro ⟨h1, hn1, hn2⟩ bs
 obtain ⟨ds, rfl, hx⟩ := h1.ex
 clear h1
 rw [unD_dL]
 unfold schB
 cases hv : depsOK n ds
 ·(repeat' first | refine gA fun _ => ?_ | refine fkI ?_ ?_ <;> intro hb <;> try simp only [ew, hv] at hb | simp only [go_sem, simprocAttr, *, cSch, cAreDeps, cKeys, cSL, cSyn, cDec, Tryz.results21, hv])
  all_goals first | rfl | skip
 ·obtain ⟨k1, k2, k3⟩ := sch_size (@keysF_facts n ds).1
  obtain ⟨s1, s2, s3⟩ := sch_size (@synF_len n ds)
  obtain ⟨d1, d2, d3⟩ := sch_size (@decF_len n ds)
  rw [if_pos rfl]
  generalize hK : keysF n ds = K at k1 k2 k3 ⊢
  generalize hS : synF n ds = S at s1 s2 s3 ⊢
  generalize hD : decF n ds = D at d1 d2 d3 ⊢
  (repeat' first | refine gA fun _ => ?_ | refine fkI ?_ ?_ <;> intro hb <;> try simp only [ew, hv, hK, hS, hD, keys_size, third_size, boyce_size, size_app] at hb | simp only [go_sem, simprocAttr, *, cSch, cAreDeps, cKeys, cSL, cSyn, cDec, Tryz.results21, hv, hK, hS, hD, keys_size, third_size, boyce_size, size_app])
  all_goals first | rfl | skip
theorem schS_ok : ContractOK E0 22 cSch := by
 refine cWpc (E := E0) (T := mkT Tryz.prog [(56, cAreDeps), (57, cKeys), (16, cSL), (58, cSyn), (59, cDec)] false (fun _ => false) true (fun _ => false)) (mkT_ok (E := E0) (.cons areDepsS_ok (.cons keysS_ok (.cons slS_ok (.cons synS_ok (.cons decS_ok .nil)))))) (fn := Tryz.f22) Tryz.func22 (by kernel_rfl) rfl mixedT (by kernel_rfl) rfl ?_
 intro args p rs ms hr
 unfold cSch at hr
 dsimp only at hr
 split at hr
 rotate_left
 ·cases hr
 rename_i n l
 simp only [Option.some.injEq, Prod.mk.injEq] at hr
 obtain ⟨rfl, rfl, rfl⟩ := hr
 refine ⟨rfl, rfl, Nat.le_of_ble_eq_true rfl, ?_⟩
 have hm : maxLen = 9223372036854775807 := rfl
 rintro ⟨h1, hn1, hn2⟩ bs
 obtain ⟨ds, rfl, hx⟩ := h1.ex
 clear h1
 rw [unD_dL]
 unfold schB
 cases hv : depsOK n ds
 ·(repeat' first | refine gA fun _ => ?_ | refine fkI ?_ ?_ <;> intro hb <;> try simp only [ew, hv] at hb | simp only [go_sem, simprocAttr, *, cSch, cAreDeps, cKeys, cSL, cSyn, cDec, Tryz.results22, hv])
  all_goals first | rfl | skip
 ·obtain ⟨k1, k2, k3⟩ := sch_size (@keysF_facts n ds).1
  obtain ⟨s1, s2, s3⟩ := sch_size (@synF_len n ds)
  obtain ⟨d1, d2, d3⟩ := sch_size (@decF_len n ds)
  rw [if_pos rfl]
  generalize hK : keysF n ds = K at k1 k2 k3 ⊢
  generalize hS : synF n ds = S at s1 s2 s3 ⊢
  generalize hD : decF n ds = D at d1 d2 d3 ⊢
  (repeat' first | refine gA fun _ => ?_ | refine fkI ?_ ?_ <;> intro hb <;> try simp only [ew, hv, hK, hS, hD, keys_size, third_size, boyce_size, size_app] at hb | simp only [go_sem, simprocAttr, *, cSch, cAreDeps, cKeys, cSL, cSyn, cDec, Tryz.results22, hv, hK, hS, hD, keys_size, third_size, boyce_size, size_app])
  all_goals first | rfl | skip
end Go.Own
