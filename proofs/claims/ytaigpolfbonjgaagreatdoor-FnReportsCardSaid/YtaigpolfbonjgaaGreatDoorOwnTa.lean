/- Own contracts. Conditions: as each theorem states them. -/
import Derived.Test.YtaigpolfbonjgaaGreatDoorOwnZ5
set_option linter.unusedSimpArgs false
set_option linter.unusedVariables false
set_option maxRecDepth 20000
set_option maxHeartbeats 2000000
namespace Go.Own
open Go Go.Proofs
theorem isRow_ok : ContractOK E0 123 cL3Row := by
 refine cWpc (E := E0) (T := mkT Tryz.prog [] false (fun _ => false) true (fun _ => false)) (mkT_ok (E := E0) .nil) (fn := Tryz.f123) Tryz.func123 (by kernel_rfl) rfl mixedT (by kernel_rfl) rfl ?_
 intro args p rs ms hr
 unfold cL3Row at hr
 dsimp only at hr
 split at hr
 ·rename_i l c
  simp only [Option.some.injEq, Prod.mk.injEq] at hr
  obtain ⟨rfl, rfl, rfl⟩ := hr
  refine ⟨rfl, rfl, Nat.le_of_ble_eq_true rfl, ?_⟩
  intro h1 bs
  obtain ⟨xs, rfl, hx⟩ := h1.ex
  clear h1
  rw [unI_iL]
  have hm : maxLen = 9223372036854775807 := rfl
  unfold rowOK
  (repeat' first | refine gA fun _ => ?_ | refine fkI ?_ ?_ <;> intro hb <;> try simp only [ew, cL3Row, Tryz.results123] at hb | simp only [go_sem, simprocAttr, *, cL3Row, Tryz.results123])
  refine lpI { ι := Nat, rs := [(4, 5), (6, 7), (10, 20)], mods := [(9, fun i => .one (.d (.v (.int .i64 i))))], boxes := [], arrs := [], ok := fun i => i ≤ xs.length ∧ (xs.drop i).all (fun v => inB v (-1) 40) = xs.all (fun v => inB v (-1) 40), mu := fun i => xs.length - i } rfl 0 ⟨Nat.zero_le _, rfl⟩ ?_ fun i hi => ?_
  ·(repeat' first | refine gA fun _ => ?_ | refine fkI ?_ ?_ <;> intro hb <;> try simp only [ew, cL3Row] at hb | simp only [go_sem, simprocAttr, *, cL3Row])
  ·dsimp only at i hi
   obtain ⟨hi, ht⟩ := hi
   (repeat' first | refine gA fun _ => ?_ | refine fkI ?_ ?_ <;> intro hb <;> try simp only [ew, cL3Row, Tryz.results123] at hb | simp only [go_sem, simprocAttr, *, cL3Row, Tryz.results123])
   ·have hv : inB (xs.getD i 0) (-1) 40 = false := by
     simp only [inB, Bool.and_eq_false_iff, decide_eq_false_iff_not]
     have hb := ‹(decide _ || decide _) = true›
     simp only [Bool.or_eq_true, decide_eq_true_eq] at hb
     omega
    rw [← ht, all_drop (by omega) 0 _, hv]; rfl
   ·have hv : inB (xs.getD i 0) (-1) 40 = true := by
     simp only [inB, Bool.and_eq_true, decide_eq_true_eq]
     have hb := ‹(decide _ || decide _) = false›
     simp only [Bool.or_eq_false_iff, decide_eq_false_iff_not] at hb
     omega
    refine lpN (i + 1) ⟨by omega, ?_⟩ (by dsimp only; omega) ?_
    ·rw [← ht, all_drop (i := i) (by omega) 0 _, hv]; rfl
    ·(repeat' first | refine gA fun _ => ?_ | refine fkI ?_ ?_ <;> intro hb <;> try simp only [ew] at hb | simp only [go_sem, simprocAttr, *])
   ·rw [← ht, List.drop_of_length_le (by omega)]; simp only [List.all_nil, Bool.true_and]; rw [Bool.eq_iff_iff]; simp
 ·cases hr
theorem isTableI_ok : ContractOK E0 79 cIsTableS := by
 refine cWpc (E := E0) (T := mkT Tryz.prog [(123, cL3Row)] false (fun _ => false) true (fun _ => false)) (mkT_ok (E := E0) (.cons isRow_ok .nil)) (fn := Tryz.f79) Tryz.func79 (by kernel_rfl) rfl mixedT (by kernel_rfl) rfl ?_
 intro args p rs ms hr
 unfold cIsTableS at hr
 dsimp only at hr
 split at hr
 ·rename_i c l
  simp only [Option.some.injEq, Prod.mk.injEq] at hr
  obtain ⟨rfl, rfl, rfl⟩ := hr
  refine ⟨rfl, rfl, Nat.le_of_ble_eq_true rfl, ?_⟩
  rintro ⟨h1, hc1, hc2⟩ bs
  obtain ⟨rs, rfl, hx, hy⟩ := h1.ex
  clear h1
  rw [unS_sL]
  have hm : maxLen = 9223372036854775807 := rfl
  have hyi := all_getD hy
  (repeat' first | refine gA fun _ => ?_ | refine fkI ?_ ?_ <;> intro hb <;> try simp only [ew, cIsTableS, cL3Row, Tryz.results79] at hb | simp only [go_sem, simprocAttr, *, cIsTableS, cL3Row, Tryz.results79])
  ·have hb := ‹(_ || _) = true›
   simp only [Bool.or_eq_true, decide_eq_true_eq] at hb
   have : tabOK c rs = false := by
    simp only [tabOK, inB, Bool.and_eq_false_iff, decide_eq_false_iff_not]
    omega
   rw [this]
  ·have hb := ‹(_ || _) = false›
   simp only [Bool.or_eq_false_iff, decide_eq_false_iff_not] at hb
   have hcc : (inB c 1 5 && decide ((rs.length : Int) ≤ 40)) = true := by
    simp only [inB, Bool.and_eq_true, decide_eq_true_eq]; omega
   refine lpI { ι := Nat, rs := [(2, 3), (4, 5), (23, 32)], mods := [(22, fun i => .one (.d (.v (.int .i64 i))))], boxes := [(1, fun _ => [.d (.v (.int .i64 c)), .d (.sl 1 (sL rs))])], arrs := [], ok := fun i => i ≤ rs.length ∧ (rs.drop i).all (fun r => rowOK r c) = rs.all (fun r => rowOK r c), mu := fun i => rs.length - i } rfl 0 ⟨Nat.zero_le _, rfl⟩ ?_ fun i hi => ?_
   ·(repeat' first | refine gA fun _ => ?_ | refine fkI ?_ ?_ <;> intro hb <;> try simp only [ew] at hb | simp only [go_sem, simprocAttr, *])
   ·dsimp only at i hi
    obtain ⟨hi, ht⟩ := hi
    clear hb
    (repeat' first | refine gA fun _ => ?_ | refine fkI ?_ ?_ <;> intro hb <;> try simp only [ew, cIsTableS, cL3Row, Tryz.results79] at hb | simp only [go_sem, simprocAttr, *, cIsTableS, cL3Row, Tryz.results79])
    ·unfold tabOK; rw [← ht, all_drop (by omega) [] _, ‹rowOK _ _ = false›]; rfl
    ·refine lpN (i + 1) ⟨by omega, ?_⟩ (by dsimp only; omega) ?_
     ·rw [← ht, all_drop (i := i) (by omega) [] _, ‹rowOK _ _ = true›]; rfl
     ·(repeat' first | refine gA fun _ => ?_ | refine fkI ?_ ?_ <;> intro hb <;> try simp only [ew] at hb | simp only [go_sem, simprocAttr, *])
    ·unfold tabOK; rw [← ht, List.drop_of_length_le (by omega), hcc]; rfl
 ·cases hr
end Go.Own
namespace Go.Own
open Go Go.Proofs
theorem cols_facts {c : Int} {rs : List (List Int)} {a b : Int} (h : colsOK c rs a b = true) : ∃ a' b' c' : Nat, a = a' ∧ b = b' ∧ c = c' ∧ a' < c' ∧ b' < c' ∧ rs.length ≤ 40 ∧ ∀ i, i < rs.length → (rs.getD i []).length = c' := by
 simp only [colsOK, tabOK, inB, Bool.and_eq_true, decide_eq_true_eq, List.all_eq_true] at h
 obtain ⟨⟨⟨h1, ⟨h2, h3⟩, h4⟩, h5, h6⟩, h7, h8⟩ := h
 obtain ⟨a', rfl⟩ := Int.eq_ofNat_of_zero_le h5
 obtain ⟨b', rfl⟩ := Int.eq_ofNat_of_zero_le h7
 obtain ⟨c', rfl⟩ := Int.eq_ofNat_of_zero_le (show 0 ≤ c by omega)
 refine ⟨a', b', c', rfl, rfl, rfl, by omega, by omega, by omega, fun i hi => ?_⟩
 have := h1 (rs.getD i []) (by simp [List.getD_eq_getElem?_getD, hi])
 simp only [rowOK, Bool.and_eq_true, decide_eq_true_eq] at this
 omega
end Go.Own
namespace Go.Own
open Go Go.Proofs
end Go.Own
namespace Go.Own
open Go Go.Proofs
end Go.Own
namespace Go.Own
open Go Go.Proofs
end Go.Own
namespace Go.Own
open Go Go.Proofs
def cHas : Contract := ⟨[], false, fun
 | [.one (.sl 1 l), .one (.v (.int .i64 n))] => some (WfI l, [⟨false, [.d (.v (.bool ((unI l).contains n)))]⟩], [])
 | _ => none⟩
theorem contains_drop {xs : List Int} {i : Nat} (h : i < xs.length) (n : Int) : (xs.drop i).contains n = (n == xs.getD i 0 || (xs.drop (i + 1)).contains n) := by
 rw [drop_getD h 0]; rfl
theorem hasS_ok : ContractOK E0 129 cHas := by
 refine cWpc (E := E0) (T := mkT Tryz.prog [] false (fun _ => false) true (fun _ => false)) (mkT_ok (E := E0) .nil) (fn := Tryz.f129) Tryz.func129 (by kernel_rfl) rfl mixedT (by kernel_rfl) rfl ?_
 intro args p rs ms hr
 unfold cHas at hr
 dsimp only at hr
 split at hr
 rotate_left
 ·cases hr
 rename_i l n
 simp only [Option.some.injEq, Prod.mk.injEq] at hr
 obtain ⟨rfl, rfl, rfl⟩ := hr
 refine ⟨rfl, rfl, Nat.le_of_ble_eq_true rfl, ?_⟩
 have hm : maxLen = 9223372036854775807 := rfl
 intro h1 bs
 obtain ⟨xs, rfl, hx⟩ := h1.ex
 clear h1
 rw [unI_iL]
 (repeat' first | refine gA fun _ => ?_ | refine fkI ?_ ?_ <;> intro hb <;> try simp only [ew] at hb | simp only [go_sem, simprocAttr, *, cHas, Tryz.results129])
 refine lpI { ι := Nat, rs := [(4, 5), (6, 18)], mods := [(5, fun i => .one (.d (.v (.int .i64 i))))], boxes := [], arrs := [], ok := fun i => i ≤ xs.length ∧ (xs.drop i).contains n = xs.contains n, mu := fun i => xs.length - i } rfl 0 ⟨Nat.zero_le _, rfl⟩ ?_ fun i hi => ?_
 ·(repeat' first | refine gA fun _ => ?_ | refine fkI ?_ ?_ <;> intro hb <;> try simp only [ew] at hb | simp only [go_sem, simprocAttr, *, cHas, Tryz.results129])
 ·dsimp only at i hi
  obtain ⟨hi, ht⟩ := hi
  (repeat' first | refine gA fun _ => ?_ | refine fkI ?_ ?_ <;> intro hb <;> try simp only [ew] at hb | simp only [go_sem, simprocAttr, *, cHas, Tryz.results129])
  ·have e := ‹xs.getD i 0 = n›
   rw [← ht, contains_drop (by omega), e]; simp
  ·have e := ‹¬ xs.getD i 0 = n›
   refine lpN (i + 1) ⟨by omega, ?_⟩ (by dsimp only; omega) ?_
   ·rw [← ht, contains_drop (i := i) (by omega), beq_false_of_ne (fun h => e h.symm)]; rfl
   ·(repeat' first | refine gA fun _ => ?_ | refine fkI ?_ ?_ <;> intro hb <;> try simp only [ew] at hb | simp only [go_sem, simprocAttr, *, cHas, Tryz.results129])
  ·rw [← ht, List.drop_of_length_le (by omega)]; rfl
def colL (rs : List (List Int)) (a : Nat) : List Int := rs.map fun r => r.getD a 0
theorem col_facts {c : Int} {rs : List (List Int)} {a : Int} (ht : tabOK c rs = true) (hi : inB a 0 (c - 1) = true) : ∃ a' c' : Nat, a = a' ∧ c = c' ∧ a' < c' ∧ rs.length ≤ 40 ∧ ∀ i, i < rs.length → (rs.getD i []).length = c' := by
 obtain ⟨a', b', c', h1, h2, h3, h4, h5, h6, h7⟩ := cols_facts (c := c) (rs := rs) (a := a) (b := a) (by rw [colsOK, ht, hi]; rfl)
 exact ⟨a', c', h1, h3, h4, h6, h7⟩
end Go.Own
namespace Go.Own
open Go Go.Proofs
theorem iL_allscal {xs : List Int} : (∀ e ∈ iL xs, ∀ x ∈ e, Scalar x) ↔ True := by
 refine ⟨fun _ => trivial, fun _ e he x hx => ?_⟩
 obtain ⟨n, _, rfl⟩ := List.mem_map.1 he
 simp at hx
 subst hx
 trivial
def cCopyI : Contract := ⟨[], false, fun
 | [.one (.sl 1 l)] => some (WfI l ∧ l.length ≤ 16777216, [⟨false, [.own 1 l 1]⟩], [])
 | _ => none⟩
theorem copyI_ok : ContractOK E0 143 cCopyI := by
 refine cWpc (E := E0) (T := mkT Tryz.prog [] false (fun _ => false) true (fun _ => false)) (mkT_ok (E := E0) .nil) (fn := Tryz.f143) Tryz.func143 (by kernel_rfl) rfl mixedT (by kernel_rfl) rfl ?_
 intro args p rs ms hr
 unfold cCopyI at hr
 dsimp only at hr
 split at hr
 rotate_left
 ·cases hr
 rename_i l
 simp only [Option.some.injEq, Prod.mk.injEq] at hr
 obtain ⟨rfl, rfl, rfl⟩ := hr
 refine ⟨rfl, rfl, Nat.le_of_ble_eq_true rfl, ?_⟩
 have hm : maxLen = 9223372036854775807 := rfl
 rintro ⟨h1, h2⟩ bs
 obtain ⟨xs, rfl, hx⟩ := h1.ex
 clear h1
 rw [iL_length] at h2
 (repeat' first | refine gA fun _ => ?_ | refine fkI ?_ ?_ <;> intro hb <;> try simp only [ew, iL_allscal] at hb | simp only [go_sem, simprocAttr, *, cCopyI, Tryz.results143, iL_allscal])
theorem sL_snoc {rs : List (List Int)} {r : List Int} : sL rs ++ [[D.sl 1 (iL r)]] = sL (rs ++ [r]) := by simp [sL]
end Go.Own
