/-
  Lines of searches, and their law. Conditions: as each theorem states them.
-/
import Derived.Test.YtaigpolfbonjgaaGreatDoorOwnR2
import Derived.Test.YtaigpolfbonjgaaGreatDoorOwnTl
import Derived.Test.YtaigpolfbonjgaaGreatDoorOwnTm
set_option linter.unusedSimpArgs false
set_option linter.unusedVariables false
set_option maxRecDepth 20000
set_option maxHeartbeats 4000000
namespace Go.Own
open Go Go.Proofs
attribute [local go_sem] unD_dL dL_length dL_get dL_set dL_inj wfD_dL scal2 pair_eta dL_scal unT_tL tL_length tL_snoc wfL_tL
def slnB (c : Int) (rs : List (List Int)) (m a : Int) (qs : List (Int × Int)) (t : Int) : ByteArray :=
 if isSr c rs m a qs t then
  (if (a == c * 2 ^ c.toNat) = true then ((((((⟨#[97, 116, 32]⟩ ++ numB a) ++ ⟨#[32, 116, 101, 115, 116, 115, 32]⟩) ++ numB t) ++ ⟨#[32, 102, 111, 117, 110, 100, 32]⟩) ++ dlL qs) ++ ⟨#[32, 100, 111, 110, 101]⟩)
   else (((((⟨#[97, 116, 32]⟩ ++ numB a) ++ ⟨#[32, 116, 101, 115, 116, 115, 32]⟩) ++ numB t) ++ ⟨#[32, 102, 111, 117, 110, 100, 32]⟩) ++ dlL qs))
 else ⟨#[]⟩
theorem z3 : ByteArray.size ⟨#[97, 116, 32]⟩ = 3 := rfl
theorem z7 : ByteArray.size ⟨#[32, 116, 101, 115, 116, 115, 32]⟩ = 7 := rfl
theorem z7' : ByteArray.size ⟨#[32, 102, 111, 117, 110, 100, 32]⟩ = 7 := rfl
theorem z5 : ByteArray.size ⟨#[32, 100, 111, 110, 101]⟩ = 5 := rfl
theorem dgF_lenR : ∀ {j : Nat} {n : Int} {acc : List Int}, (dgF j n acc).length ≤ acc.length + j
 | 0, n, acc => by simp [dgF]
 | j + 1, n, acc => by
  by_cases h : n ≠ 0
  ·rw [dgF_go h]
   have := @dgF_lenR j (n / 10) ((48 + n % 10) :: acc)
   simp only [List.length_cons] at this
   omega
  ·unfold dgF; rw [if_pos (by omega)]; omega
theorem num_sizeR {n : Int} : (numB n).size ≤ 20 := by
 unfold numB numL
 rw [baOf_size]
 split
 ·simp
 ·have := @dgF_lenR 20 n []
  simpa using this
theorem dlL_size {xs : List (Int × Int)} (h : xs.length ≤ 160) : (dlL xs).size ≤ 2000 := by
 unfold dlL
 split
 ·decide
 ·have := @jfd_size xs
  omega
def cSln : Contract := ⟨[], false, fun
 | [.agg [.v (.int .i64 c), .sl 1 l, .v (.int .i64 m), .v (.int .i64 a), .sl 2 q, .v (.int .i64 t)]] => some ((WfS l ∧ WfD q) ∧ (-9223372036854775808 ≤ c ∧ c ≤ 9223372036854775807) ∧ (-9223372036854775808 ≤ a ∧ a ≤ 9223372036854775807) ∧ -9223372036854775808 ≤ t ∧ t ≤ 9223372036854775807,
   [⟨false, [.d (.v (.string (slnB c (unS l) m a (unD q) t)))]⟩], [])
 | _ => none⟩
theorem slnI_ok : ContractOK E0 19 cSln := by
 refine cWpc (E := E0) (T := mkT Tryz.prog [(48, cIsSr), (41, cNum), (13, cDL), (49, cIsSd)] false (fun _ => false) true (fun _ => false)) (mkT_ok (E := E0) (.cons isSrI_ok (.cons numI_ok (.cons dlI_ok (.cons isSdI_ok .nil))))) (fn := Tryz.f19) Tryz.func19 (by kernel_rfl) rfl mixedT (by kernel_rfl) rfl ?_
 intro args p rs ms hr
 unfold cSln at hr
 dsimp only at hr
 split at hr
 rotate_left
 ·cases hr
 rename_i c l m a q t
 simp only [Option.some.injEq, Prod.mk.injEq] at hr
 obtain ⟨rfl, rfl, rfl⟩ := hr
 refine ⟨rfl, rfl, Nat.le_of_ble_eq_true rfl, ?_⟩
 have hm : maxLen = 9223372036854775807 := rfl
 rintro ⟨⟨h1, h2⟩, ⟨hc1, hc2⟩, ⟨ha1, ha2⟩, ht1, ht2⟩ bs
 obtain ⟨rs, rfl, hx, hy⟩ := h1.ex
 obtain ⟨ds, rfl, hd⟩ := h2.ex
 clear h1 h2
 rw [unS_sL, unD_dL]
 cases h : isSr c rs m a ds t
 ·have e : slnB c rs m a ds t = ⟨#[]⟩ := by unfold slnB; rw [h, if_neg (by decide)]
  rw [e]
  clear e
  (repeat' first | refine gA fun _ => ?_ | refine fkI ?_ ?_ <;> intro hb <;> try simp only [ew, h] at hb | simp only [go_sem, simprocAttr, *, cSln, cIsSr, cNum, cDL, cIsSd, Tryz.results19, h])
  all_goals first | rfl | skip
 ·obtain ⟨f1, ⟨f2, f2'⟩, ⟨f3, f3'⟩, f4⟩ := isSr_facts h
  have s1 := @num_sizeR a
  have s2 := @num_sizeR t
  have s3 := @dlL_size ds f4
  have f4' : ds.length ≤ 1048576 := by omega
  cases hb : (a == c * 2 ^ c.toNat)
  ·have e : slnB c rs m a ds t = (((((⟨#[97, 116, 32]⟩ ++ numB a) ++ ⟨#[32, 116, 101, 115, 116, 115, 32]⟩) ++ numB t) ++ ⟨#[32, 102, 111, 117, 110, 100, 32]⟩) ++ dlL ds) := by unfold slnB; rw [h, hb, if_pos rfl, if_neg (by decide)]
   have e2 : isSd c rs m a ds t = false := by unfold isSd; rw [h, hb]; rfl
   rw [e]
   clear e
   generalize hA : numB a = A at s1 ⊢
   generalize hT : numB t = T at s2 ⊢
   generalize hD : dlL ds = B at s3 ⊢
   (repeat' first | refine gA fun _ => ?_ | refine fkI ?_ ?_ <;> intro hb <;> try simp only [ew, h, e2, hA, hT, hD, z3, z7, z7', z5, size_app] at hb | simp only [go_sem, simprocAttr, *, cSln, cIsSr, cNum, cDL, cIsSd, Tryz.results19, h, e2, hA, hT, hD, z3, z7, z7', z5, size_app])
   all_goals first | rfl | skip
  ·have e : slnB c rs m a ds t = ((((((⟨#[97, 116, 32]⟩ ++ numB a) ++ ⟨#[32, 116, 101, 115, 116, 115, 32]⟩) ++ numB t) ++ ⟨#[32, 102, 111, 117, 110, 100, 32]⟩) ++ dlL ds) ++ ⟨#[32, 100, 111, 110, 101]⟩) := by unfold slnB; rw [h, hb, if_pos rfl, if_pos rfl]
   have e2 : isSd c rs m a ds t = true := by unfold isSd; rw [h, hb]; rfl
   rw [e]
   clear e
   generalize hA : numB a = A at s1 ⊢
   generalize hT : numB t = T at s2 ⊢
   generalize hD : dlL ds = B at s3 ⊢
   (repeat' first | refine gA fun _ => ?_ | refine fkI ?_ ?_ <;> intro hb <;> try simp only [ew, h, e2, hA, hT, hD, z3, z7, z7', z5, size_app] at hb | simp only [go_sem, simprocAttr, *, cSln, cIsSr, cNum, cDL, cIsSd, Tryz.results19, h, e2, hA, hT, hD, z3, z7, z7', z5, size_app])
   all_goals first | rfl | skip
theorem slnS_ok : ContractOK E0 20 cSln := by
 refine cWpc (E := E0) (T := mkT Tryz.prog [(50, cIsSr), (46, cNum), (14, cDL), (51, cIsSd)] false (fun _ => false) true (fun _ => false)) (mkT_ok (E := E0) (.cons isSrS_ok (.cons numS_ok (.cons dlS_ok (.cons isSdS_ok .nil))))) (fn := Tryz.f20) Tryz.func20 (by kernel_rfl) rfl mixedT (by kernel_rfl) rfl ?_
 intro args p rs ms hr
 unfold cSln at hr
 dsimp only at hr
 split at hr
 rotate_left
 ·cases hr
 rename_i c l m a q t
 simp only [Option.some.injEq, Prod.mk.injEq] at hr
 obtain ⟨rfl, rfl, rfl⟩ := hr
 refine ⟨rfl, rfl, Nat.le_of_ble_eq_true rfl, ?_⟩
 have hm : maxLen = 9223372036854775807 := rfl
 rintro ⟨⟨h1, h2⟩, ⟨hc1, hc2⟩, ⟨ha1, ha2⟩, ht1, ht2⟩ bs
 obtain ⟨rs, rfl, hx, hy⟩ := h1.ex
 obtain ⟨ds, rfl, hd⟩ := h2.ex
 clear h1 h2
 rw [unS_sL, unD_dL]
 cases h : isSr c rs m a ds t
 ·have e : slnB c rs m a ds t = ⟨#[]⟩ := by unfold slnB; rw [h, if_neg (by decide)]
  rw [e]
  clear e
  (repeat' first | refine gA fun _ => ?_ | refine fkI ?_ ?_ <;> intro hb <;> try simp only [ew, h] at hb | simp only [go_sem, simprocAttr, *, cSln, cIsSr, cNum, cDL, cIsSd, Tryz.results20, h])
  all_goals first | rfl | skip
 ·obtain ⟨f1, ⟨f2, f2'⟩, ⟨f3, f3'⟩, f4⟩ := isSr_facts h
  have s1 := @num_sizeR a
  have s2 := @num_sizeR t
  have s3 := @dlL_size ds f4
  have f4' : ds.length ≤ 1048576 := by omega
  cases hb : (a == c * 2 ^ c.toNat)
  ·have e : slnB c rs m a ds t = (((((⟨#[97, 116, 32]⟩ ++ numB a) ++ ⟨#[32, 116, 101, 115, 116, 115, 32]⟩) ++ numB t) ++ ⟨#[32, 102, 111, 117, 110, 100, 32]⟩) ++ dlL ds) := by unfold slnB; rw [h, hb, if_pos rfl, if_neg (by decide)]
   have e2 : isSd c rs m a ds t = false := by unfold isSd; rw [h, hb]; rfl
   rw [e]
   clear e
   generalize hA : numB a = A at s1 ⊢
   generalize hT : numB t = T at s2 ⊢
   generalize hD : dlL ds = B at s3 ⊢
   (repeat' first | refine gA fun _ => ?_ | refine fkI ?_ ?_ <;> intro hb <;> try simp only [ew, h, e2, hA, hT, hD, z3, z7, z7', z5, size_app] at hb | simp only [go_sem, simprocAttr, *, cSln, cIsSr, cNum, cDL, cIsSd, Tryz.results20, h, e2, hA, hT, hD, z3, z7, z7', z5, size_app])
   all_goals first | rfl | skip
  ·have e : slnB c rs m a ds t = ((((((⟨#[97, 116, 32]⟩ ++ numB a) ++ ⟨#[32, 116, 101, 115, 116, 115, 32]⟩) ++ numB t) ++ ⟨#[32, 102, 111, 117, 110, 100, 32]⟩) ++ dlL ds) ++ ⟨#[32, 100, 111, 110, 101]⟩) := by unfold slnB; rw [h, hb, if_pos rfl, if_pos rfl]
   have e2 : isSd c rs m a ds t = true := by unfold isSd; rw [h, hb]; rfl
   rw [e]
   clear e
   generalize hA : numB a = A at s1 ⊢
   generalize hT : numB t = T at s2 ⊢
   generalize hD : dlL ds = B at s3 ⊢
   (repeat' first | refine gA fun _ => ?_ | refine fkI ?_ ?_ <;> intro hb <;> try simp only [ew, h, e2, hA, hT, hD, z3, z7, z7', z5, size_app] at hb | simp only [go_sem, simprocAttr, *, cSln, cIsSr, cNum, cDL, cIsSd, Tryz.results20, h, e2, hA, hT, hD, z3, z7, z7', z5, size_app])
   all_goals first | rfl | skip
end Go.Own
