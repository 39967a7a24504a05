import Derived.Test.YtaigpolfbonjgaaGreatDoorOwnH5
set_option linter.unusedSimpArgs false
set_option linter.unusedVariables false
set_option maxRecDepth 20000
set_option maxHeartbeats 2000000
namespace Go.Own
open Go Go.Proofs
attribute [local go_sem] unD_dL dL_length dL_get dL_set dL_inj wfD_dL scal2 beq2 pair_eta dL_scal
def covS (n : Int) (ds : List (Int × Int)) (C : List (Int × Int)) (d : Int × Int) : List (Int × Int) := if (C.any fun e => e == redD n ds d) then C else C ++ [redD n ds d]
def covA (n : Int) (ds l : List (Int × Int)) : List (Int × Int) := l.foldl (covS n ds) []
def covN : Nat → List (Int × Int) → Nat → List (Int × Int)
 | 0, C, _ => C
 | f + 1, C, i => if hasB (clo (wo C i) (C.getD i (0, 0)).1) (C.getD i (0, 0)).2 then covN f (wo C i) i else covN f C (i + 1)
def covF (n : Int) (ds : List (Int × Int)) : List (Int × Int) := if depsOK n ds then covN (covA n ds ds).length (covA n ds ds) 0 else []
theorem redD_OK {n : Int} {ds : List (Int × Int)} {d : Int × Int} (h : depOK n d.1 d.2 = true) : depOK n (redD n ds d).1 (redD n ds d).2 = true := by
 have hR := depOK_R h
 obtain ⟨h1, h2, _⟩ := redN_facts (ds := ds) (r := d.2) hR.1 (k := 5) (by omega)
 unfold redD
 split
 ·simp only [depOK, isAttr, Bool.and_eq_true, inB_iff] at h ⊢
  exact ⟨⟨h.1.1, h.1.2.1, h1.1, Int.le_trans h2 h.1.2.2.2⟩, h.2⟩
 ·exact h
theorem covS_length {n : Int} {ds C : List (Int × Int)} {d : Int × Int} : (covS n ds C d).length ≤ C.length + 1 := by
 unfold covS; split <;> simp
theorem covA_succ {n : Int} {ds l : List (Int × Int)} {i : Nat} (h : i < l.length) : covA n ds (l.take (i + 1)) = covS n ds (covA n ds (l.take i)) (l.getD i (0, 0)) := by
 unfold covA; rw [take_succ_getD h (0, 0), List.foldl_append]; rfl
theorem covA_length {n : Int} {ds l : List (Int × Int)} : ∀ {i : Nat}, i ≤ l.length → (covA n ds (l.take i)).length ≤ i
 | 0, _ => by simp [covA]
 | i + 1, h => by
  rw [covA_succ h]
  exact Nat.le_trans covS_length (Nat.succ_le_succ (covA_length (by omega)))
theorem covA_OK {n : Int} {ds l : List (Int × Int)} (hl : ∀ d ∈ l, depOK n d.1 d.2 = true) : ∀ {i : Nat}, i ≤ l.length → ∀ d ∈ covA n ds (l.take i), depOK n d.1 d.2 = true
 | 0, _ => by simp [covA]
 | i + 1, h => by
  have ih := covA_OK (ds := ds) hl (i := i) (by omega)
  have hm := hl _ (getD_mem (l := l) (i := i) h (0, 0))
  rw [covA_succ h]
  unfold covS
  split
  ·exact ih
  ·intro d hd
   rcases List.mem_append.1 hd with h1 | h1
   ·exact ih d h1
   ·rw [List.mem_singleton] at h1
    rw [h1]
    exact redD_OK hm
theorem wo_length {C : List (Int × Int)} {i : Nat} (h : i < C.length) : (wo C i).length + 1 = C.length := by
 simp [wo, List.length_take, List.length_drop]; omega
theorem wo_mem {C : List (Int × Int)} {i : Nat} : ∀ d ∈ wo C i, d ∈ C := by
 intro d hd
 rcases List.mem_append.1 hd with h | h
 ·exact List.mem_of_mem_take h
 ·exact List.mem_of_mem_drop h
theorem covN_facts : ∀ {f : Nat} {C : List (Int × Int)} {i : Nat}, (∀ d ∈ covN f C i, d ∈ C) ∧ (i + f ≤ C.length → (covN f C i).length ≤ C.length)
 | 0, C, i => ⟨fun _ h => h, fun _ => Nat.le_refl _⟩
 | f + 1, C, i => by
  rw [covN]
  split
  ·obtain ⟨h1, h2⟩ := @covN_facts f (wo C i) i
   refine ⟨fun d hd => wo_mem d (h1 d hd), fun h => ?_⟩
   have hw := wo_length (C := C) (i := i) (by omega)
   have := h2 (by omega)
   omega
  ·obtain ⟨h1, h2⟩ := @covN_facts f C (i + 1)
   exact ⟨h1, fun h => h2 (by omega)⟩
def covP (n : Int) (R : List (Int × Int)) (C : List (Int × Int)) (i : Nat) : Prop := i ≤ C.length ∧ C.length ≤ 20 ∧ (∀ d ∈ C, depOK n d.1 d.2 = true) ∧ covN (C.length - i) C i = R
theorem covP_wo {n : Int} {R C : List (Int × Int)} {i : Nat} (h : covP n R C i) (hi : i < C.length) (hq : hasB (clo (wo C i) (C.getD i (0, 0)).1) (C.getD i (0, 0)).2 = true) : covP n R (wo C i) i := by
 obtain ⟨h1, h2, h3, h4⟩ := h
 have hw := wo_length hi
 refine ⟨by omega, by omega, fun d hd => h3 d (wo_mem d hd), ?_⟩
 obtain ⟨f, hf⟩ : ∃ f, C.length - i = f + 1 := ⟨C.length - i - 1, by omega⟩
 rw [hf, covN, hq, if_pos rfl] at h4
 rw [← h4]
 congr 1
 omega
theorem covP_next {n : Int} {R C : List (Int × Int)} {i : Nat} (h : covP n R C i) (hi : i < C.length) (hq : hasB (clo (wo C i) (C.getD i (0, 0)).1) (C.getD i (0, 0)).2 = false) : covP n R C (i + 1) := by
 obtain ⟨h1, h2, h3, h4⟩ := h
 refine ⟨by omega, h2, h3, ?_⟩
 obtain ⟨f, hf⟩ : ∃ f, C.length - i = f + 1 := ⟨C.length - i - 1, by omega⟩
 rw [hf, covN, hq, if_neg (by decide)] at h4
 rw [← h4]
 congr 1
 omega
theorem covP_end {n : Int} {R C : List (Int × Int)} {i : Nat} (h : covP n R C i) (hi : ¬i < C.length) : R = C := by
 obtain ⟨h1, h2, h3, h4⟩ := h
 have : C.length - i = 0 := by omega
 rw [this] at h4
 exact h4.symm
theorem covP_start {n : Int} {ds : List (Int × Int)} (hv : depsOK n ds = true) : covP n (covF n ds) (covA n ds ds) 0 := by
 have h20 := (deps_n hv).2.2
 have hv2 := hv
 simp only [depsOK, Bool.and_eq_true, List.all_eq_true] at hv2
 have hl := @covA_length n ds ds ds.length (Nat.le_refl _)
 have hk := @covA_OK n ds ds hv2.1 ds.length (Nat.le_refl _)
 rw [List.take_length] at hl hk
 refine ⟨Nat.zero_le _, by omega, hk, ?_⟩
 unfold covF
 rw [hv, if_pos rfl]
 rfl
theorem covP_depsOK {n : Int} {R C : List (Int × Int)} {i : Nat} (hn : 1 ≤ n ∧ n ≤ 5) (h : covP n R C i) (hi : i < C.length) : depsOK n (wo C i) = true ∧ depOK n (C.getD i (0, 0)).1 (C.getD i (0, 0)).2 = true := by
 obtain ⟨h1, h2, h3, h4⟩ := h
 have hw := wo_length hi
 refine ⟨?_, h3 _ (getD_mem hi (0, 0))⟩
 simp only [depsOK, Bool.and_eq_true, List.all_eq_true, inB_iff, decide_eq_true_eq]
 exact ⟨fun d hd => h3 d (wo_mem d hd), hn, by omega⟩
theorem covF_facts {n : Int} {ds : List (Int × Int)} : (∀ d ∈ covF n ds, depOK n d.1 d.2 = true) ∧ (covF n ds).length ≤ 20 := by
 cases hv : depsOK n ds
 ·unfold covF
  rw [hv]
  simp
 ·obtain ⟨_, h2, h3, h4⟩ := covP_start hv
  rw [← h4]
  obtain ⟨f1, f2⟩ := @covN_facts ((covA n ds ds).length - 0) (covA n ds ds) 0
  exact ⟨fun d hd => h3 d (f1 d hd), Nat.le_trans (f2 (by omega)) h2⟩
def cCvr : Contract := ⟨[], false, fun
 | [.one (.v (.int .i64 n)), .one (.sl 2 l)] => some (WfD l ∧ -9223372036854775808 ≤ n ∧ n ≤ 9223372036854775807, [⟨false, [.own 2 (dL (covF n (unD l))) 1]⟩], [])
 | _ => none⟩
theorem any_succ {α : Type} {xs : List α} {i : Nat} (h : i < xs.length) (d : α) (f : α → Bool) : (xs.take (i + 1)).any f = ((xs.take i).any f || f (xs.getD i d)) := by
 rw [take_succ_getD h d, List.any_append]; simp
theorem covI_ok : ContractOK E0 101 cCvr := by
 refine cWpc (E := E0) (T := mkT Tryz.prog [(52, cAreDeps), (139, cRed), (140, cHasD), (141, cWo), (115, cImp1)] false (fun _ => false) true (fun _ => false)) (mkT_ok (E := E0) (.cons areDepsI_ok (.cons redI_ok (.cons hasD_ok (.cons woI_ok (.cons imp1_ok .nil)))))) (fn := Tryz.f101) Tryz.func101 (by kernel_rfl) rfl mixedT (by kernel_rfl) rfl ?_
 intro args p rs ms hr
 unfold cCvr at hr
 dsimp only at hr
 split at hr
 rotate_left
 ·cases hr
 rename_i n l
 simp only [Option.some.injEq, Prod.mk.injEq] at hr
 obtain ⟨rfl, rfl, rfl⟩ := hr
 refine ⟨rfl, rfl, Nat.le_of_ble_eq_true rfl, ?_⟩
 have hm : maxLen = 9223372036854775807 := rfl
 rintro ⟨h1, hn1, hn2⟩ bs
 obtain ⟨ds, rfl, hx⟩ := h1.ex
 clear h1
 rw [unD_dL]
 cases hv : depsOK n ds
 ·have e : covF n ds = [] := by unfold covF; rw [hv]; rfl
  rw [e]
  clear e
  (repeat' first | refine gA fun _ => ?_ | refine fkI ?_ ?_ <;> intro hb <;> try simp only [ew, hv] at hb | simp only [go_sem, simprocAttr, *, cCvr, cAreDeps, cRed, cHasD, cWo, cImp1, Tryz.results101, hv])
  all_goals first | rfl | skip
 ·have hst := covP_start hv
  obtain ⟨n1, n5, l20⟩ := deps_n hv
  generalize covF n ds = R at hst ⊢
  have hC := fun i h => @covA_length n ds ds i h
  have l20' : ds.length ≤ maxLen := Nat.le_trans l20 (by decide)
  have e0 : covA n ds (ds.take 0) = [] := rfl
  (repeat' first | refine gA fun _ => ?_ | refine fkI ?_ ?_ <;> intro hb <;> try simp only [ew, hv] at hb | simp only [go_sem, simprocAttr, *, cCvr, cAreDeps, cRed, cHasD, cWo, cImp1, Tryz.results101, hv])
  refine lpI { ι := Nat, rs := [(7, 9), (20, 36)], mods := [(19, fun i => .one (.d (.v (.int .i64 i)))), (5, fun i => .one (.own 2 (dL (covA n ds (ds.take i))) 1))], boxes := [], arrs := [], ok := fun i => i ≤ ds.length, mu := fun i => ds.length - i } rfl 0 (Nat.zero_le _) ?_ fun i hi => ?_
  ·clear hC hst
   (repeat' first | refine gA fun _ => ?_ | refine fkI ?_ ?_ <;> intro hb <;> try simp only [ew, e0] at hb | simp only [go_sem, simprocAttr, *, cCvr, cAreDeps, cRed, cHasD, cWo, cImp1, Tryz.results101, e0])
   all_goals first | rfl | skip
  ·dsimp only at i hi
   have hl := hC i hi
   have hl2 : (covA n ds (ds.take i)).length ≤ maxLen := Nat.le_trans hl (Nat.le_trans hi l20')
   by_cases h5 : i < ds.length
   ·have eS := covA_succ (n := n) (ds := ds) h5
    generalize hK : covA n ds (ds.take i) = C at hl hl2 eS
    generalize hr : redD n ds (ds.getD i (0, 0)) = r
    unfold covS at eS
    rw [hr] at eS
    cases hq : (C.any fun e => e == r)
    ·rw [hq, if_neg (by decide)] at eS
     clear hC hst
     (repeat' first | refine gA fun _ => ?_ | refine fkI ?_ ?_ <;> intro hb <;> try simp only [ew, hK, hr, hq, dL_snoc] at hb | simp only [go_sem, simprocAttr, *, cCvr, cAreDeps, cRed, cHasD, cWo, cImp1, Tryz.results101, hK, hr, hq, dL_snoc])
     refine lpN (i + 1) (by dsimp only; omega) (by dsimp only; omega) ?_
     (repeat' first | refine gA fun _ => ?_ | refine fkI ?_ ?_ <;> intro hb <;> try simp only [ew, hK, eS, hr, hq, dL_snoc] at hb | simp only [go_sem, simprocAttr, *, cCvr, cAreDeps, cRed, cHasD, cWo, cImp1, Tryz.results101, hK, eS, hr, hq, dL_snoc])
    ·rw [hq, if_pos rfl] at eS
     clear hC hst
     (repeat' first | refine gA fun _ => ?_ | refine fkI ?_ ?_ <;> intro hb <;> try simp only [ew, hK, hr, hq] at hb | simp only [go_sem, simprocAttr, *, cCvr, cAreDeps, cRed, cHasD, cWo, cImp1, Tryz.results101, hK, hr, hq])
     refine lpN (i + 1) (by dsimp only; omega) (by dsimp only; omega) ?_
     (repeat' first | refine gA fun _ => ?_ | refine fkI ?_ ?_ <;> intro hb <;> try simp only [ew, hK, eS, hr, hq] at hb | simp only [go_sem, simprocAttr, *, cCvr, cAreDeps, cRed, cHasD, cWo, cImp1, Tryz.results101, hK, eS, hr, hq])
   ·have e5 : i = ds.length := by omega
    subst e5
    have eP : ds.take ds.length = ds := List.take_length
    rw [eP] at hl hl2
    clear hC
    generalize hK : covA n ds ds = K at hl hl2 hst
    (repeat' first | refine gA fun _ => ?_ | refine fkI ?_ ?_ <;> intro hb <;> try simp only [ew, eP, hK] at hb | simp only [go_sem, simprocAttr, *, cCvr, cAreDeps, cRed, cHasD, cWo, cImp1, Tryz.results101, eP, hK])
    refine lpI { ι := Nat × List (Int × Int), rs := [(10, 11), (36, 54)], mods := [(9, fun i => .one (.d (.v (.int .i64 i.1)))), (5, fun i => .one (.own 2 (dL i.2) 1))], boxes := [], arrs := [], ok := fun i => covP n R i.2 i.1, mu := fun i => i.2.length - i.1 } rfl (0, K) hst ?_ ?_
    ·clear hst
     (repeat' first | refine gA fun _ => ?_ | refine fkI ?_ ?_ <;> intro hb <;> try simp only [ew, eP, hK] at hb | simp only [go_sem, simprocAttr, *, cCvr, cAreDeps, cRed, cHasD, cWo, cImp1, Tryz.results101, eP, hK])
    ·rintro ⟨j, C⟩ hj
     dsimp only at hj
     have hj1 := hj.1
     have hj2 := hj.2.1
     by_cases h6 : j < C.length
     ·obtain ⟨o1, o2⟩ := covP_depsOK ⟨n1, n5⟩ hj h6
      have hd := depsOK_R o1
      obtain ⟨⟨a1, a2⟩, b1, b2⟩ := depOK_R o2
      have hw := wo_length h6
      have hq1 := covP_wo hj h6
      have hq0 := covP_next hj h6
      have ej : (j : Int) - 1 + 1 = j := by omega
      clear hst hj o1 o2
      cases hq : hasB (clo (wo C j) (C.getD j (0, 0)).1) (C.getD j (0, 0)).2
      ·have hq0 := hq0 hq
       clear hq1
       (repeat' first | refine gA fun _ => ?_ | refine fkI ?_ ?_ <;> intro hb <;> try simp only [ew, hq] at hb | simp only [go_sem, simprocAttr, *, cCvr, cAreDeps, cRed, cHasD, cWo, cImp1, Tryz.results101, hq])
       refine lpN (j + 1, C) hq0 (by dsimp only; omega) ?_
       clear hq0 hd
       (repeat' first | refine gA fun _ => ?_ | refine fkI ?_ ?_ <;> intro hb <;> try simp only [ew, hq] at hb | simp only [go_sem, simprocAttr, *, cCvr, cAreDeps, cRed, cHasD, cWo, cImp1, Tryz.results101, hq])
      ·have hq1 := hq1 hq
       clear hq0
       (repeat' first | refine gA fun _ => ?_ | refine fkI ?_ ?_ <;> intro hb <;> try simp only [ew, hq, ej] at hb | simp only [go_sem, simprocAttr, *, cCvr, cAreDeps, cRed, cHasD, cWo, cImp1, Tryz.results101, hq, ej])
       refine lpN (j, wo C j) hq1 (by dsimp only; omega) ?_
       clear hq1 hd
       (repeat' first | refine gA fun _ => ?_ | refine fkI ?_ ?_ <;> intro hb <;> try simp only [ew, hq, ej] at hb | simp only [go_sem, simprocAttr, *, cCvr, cAreDeps, cRed, cHasD, cWo, cImp1, Tryz.results101, hq, ej])
     ·have e6 := covP_end hj h6
      subst e6
      clear hst hj
      (repeat' first | refine gA fun _ => ?_ | refine fkI ?_ ?_ <;> intro hb <;> try simp only [ew] at hb | simp only [go_sem, simprocAttr, *, cCvr, cAreDeps, cRed, cHasD, cWo, cImp1, Tryz.results101])
theorem covS_ok : ContractOK E0 109 cCvr := by
 refine cWpc (E := E0) (T := mkT Tryz.prog [(56, cAreDeps), (147, cRed), (148, cWo), (71, cImp)] false (fun _ => false) true (fun _ => false)) (mkT_ok (E := E0) (.cons areDepsS_ok (.cons redS_ok (.cons woS_ok (.cons impS_ok .nil))))) (fn := Tryz.f109) Tryz.func109 (by kernel_rfl) rfl mixedT (by kernel_rfl) rfl ?_
 intro args p rs ms hr
 unfold cCvr at hr
 dsimp only at hr
 split at hr
 rotate_left
 ·cases hr
 rename_i n l
 simp only [Option.some.injEq, Prod.mk.injEq] at hr
 obtain ⟨rfl, rfl, rfl⟩ := hr
 refine ⟨rfl, rfl, Nat.le_of_ble_eq_true rfl, ?_⟩
 have hm : maxLen = 9223372036854775807 := rfl
 rintro ⟨h1, hn1, hn2⟩ bs
 obtain ⟨ds, rfl, hx⟩ := h1.ex
 clear h1
 rw [unD_dL]
 cases hv : depsOK n ds
 ·have e : covF n ds = [] := by unfold covF; rw [hv]; rfl
  rw [e]
  clear e
  (repeat' first | refine gA fun _ => ?_ | refine fkI ?_ ?_ <;> intro hb <;> try simp only [ew, hv] at hb | simp only [go_sem, simprocAttr, *, cCvr, cAreDeps, cRed, cWo, cImp, Tryz.results109, hv])
  all_goals first | rfl | skip
 ·have hst := covP_start hv
  obtain ⟨n1, n5, l20⟩ := deps_n hv
  generalize covF n ds = R at hst ⊢
  have hC := fun i h => @covA_length n ds ds i h
  have l20' : ds.length ≤ maxLen := Nat.le_trans l20 (by decide)
  have e0 : covA n ds (ds.take 0) = [] := rfl
  (repeat' first | refine gA fun _ => ?_ | refine fkI ?_ ?_ <;> intro hb <;> try simp only [ew, hv] at hb | simp only [go_sem, simprocAttr, *, cCvr, cAreDeps, cRed, cWo, cImp, Tryz.results109, hv])
  refine lpI { ι := Nat, rs := [(7, 10), (18, 52)], mods := [(6, fun i => .one (.d (.v (.int .i64 i)))), (5, fun i => .one (.own 2 (dL (covA n ds (ds.take i))) 1))], boxes := [], arrs := [], ok := fun i => i ≤ ds.length, mu := fun i => ds.length - i } rfl 0 (Nat.zero_le _) ?_ fun i hi => ?_
  ·clear hC hst
   (repeat' first | refine gA fun _ => ?_ | refine fkI ?_ ?_ <;> intro hb <;> try simp only [ew, e0] at hb | simp only [go_sem, simprocAttr, *, cCvr, cAreDeps, cRed, cWo, cImp, Tryz.results109, e0])
   all_goals first | rfl | skip
  ·dsimp only at i hi
   have hl := hC i hi
   have hl2 : (covA n ds (ds.take i)).length ≤ maxLen := Nat.le_trans hl (Nat.le_trans hi l20')
   by_cases h5 : i < ds.length
   ·have eS := covA_succ (n := n) (ds := ds) h5
    generalize hK : covA n ds (ds.take i) = C at hl hl2 eS
    generalize hr : redD n ds (ds.getD i (0, 0)) = r
    unfold covS at eS
    rw [hr] at eS
    clear hC hst
    (repeat' first | refine gA fun _ => ?_ | refine fkI ?_ ?_ <;> intro hb <;> try simp only [ew, hK, hr] at hb | simp only [go_sem, simprocAttr, *, cCvr, cAreDeps, cRed, cWo, cImp, Tryz.results109, hK, hr])
    refine lpI { ι := Nat, rs := [(31, 46)], mods := [(9, fun k => .one (.d (.v (.int .i64 k)))), (8, fun k => .one (.d (.v (.bool ((C.take k).any fun e => e == r)))))], boxes := [(7, fun _ => [.d (.v (.int .i64 r.1)), .d (.v (.int .i64 r.2))])], arrs := [(5, fun _ => (2, dL C, 1))], ok := fun k => k ≤ C.length, mu := fun k => C.length - k } rfl 0 (Nat.zero_le _) ?_ fun k hk => ?_
    ·(repeat' first | refine gA fun _ => ?_ | refine fkI ?_ ?_ <;> intro hb <;> try simp only [ew, hK, hr] at hb | simp only [go_sem, simprocAttr, *, cCvr, cAreDeps, cRed, cWo, cImp, Tryz.results109, hK, hr])
     all_goals first | rfl | skip
    ·dsimp only at k hk
     by_cases h6 : k < C.length
     ·have eA := any_succ h6 (0, 0) fun e => e == r
      generalize hf : ((C.take k).any fun e => e == r) = b0 at eA
      generalize hg : (C.getD k (0, 0) == r) = b1 at eA
      cases b0
      ·rw [Bool.false_or] at eA
       (repeat' first | refine gA fun _ => ?_ | refine fkI ?_ ?_ <;> intro hb <;> try simp only [ew, hf, hg] at hb | simp only [go_sem, simprocAttr, *, cCvr, cAreDeps, cRed, cWo, cImp, Tryz.results109, hf, hg])
       refine lpN (k + 1) (by dsimp only; omega) (by dsimp only; omega) ?_
       (repeat' first | refine gA fun _ => ?_ | refine fkI ?_ ?_ <;> intro hb <;> try simp only [ew, hf, hg, eA] at hb | simp only [go_sem, simprocAttr, *, cCvr, cAreDeps, cRed, cWo, cImp, Tryz.results109, hf, hg, eA])
      ·rw [Bool.true_or] at eA
       (repeat' first | refine gA fun _ => ?_ | refine fkI ?_ ?_ <;> intro hb <;> try simp only [ew, hf, hg] at hb | simp only [go_sem, simprocAttr, *, cCvr, cAreDeps, cRed, cWo, cImp, Tryz.results109, hf, hg])
       refine lpN (k + 1) (by dsimp only; omega) (by dsimp only; omega) ?_
       (repeat' first | refine gA fun _ => ?_ | refine fkI ?_ ?_ <;> intro hb <;> try simp only [ew, hf, hg, eA] at hb | simp only [go_sem, simprocAttr, *, cCvr, cAreDeps, cRed, cWo, cImp, Tryz.results109, hf, hg, eA])
     ·have e6 : k = C.length := by omega
      subst e6
      have eT : C.take C.length = C := List.take_length
      cases hq : (C.any fun e => e == r)
      ·rw [hq, if_neg (by decide)] at eS
       (repeat' first | refine gA fun _ => ?_ | refine fkI ?_ ?_ <;> intro hb <;> try simp only [ew, eT, hq, dL_snoc] at hb | simp only [go_sem, simprocAttr, *, cCvr, cAreDeps, cRed, cWo, cImp, Tryz.results109, eT, hq, dL_snoc])
       refine lpN (i + 1) (by dsimp only; omega) (by dsimp only; omega) ?_
       (repeat' first | refine gA fun _ => ?_ | refine fkI ?_ ?_ <;> intro hb <;> try simp only [ew, eT, eS, hq, dL_snoc] at hb | simp only [go_sem, simprocAttr, *, cCvr, cAreDeps, cRed, cWo, cImp, Tryz.results109, eT, eS, hq, dL_snoc])
      ·rw [hq, if_pos rfl] at eS
       (repeat' first | refine gA fun _ => ?_ | refine fkI ?_ ?_ <;> intro hb <;> try simp only [ew, eT, hq] at hb | simp only [go_sem, simprocAttr, *, cCvr, cAreDeps, cRed, cWo, cImp, Tryz.results109, eT, hq])
       refine lpN (i + 1) (by dsimp only; omega) (by dsimp only; omega) ?_
       (repeat' first | refine gA fun _ => ?_ | refine fkI ?_ ?_ <;> intro hb <;> try simp only [ew, eT, eS, hq] at hb | simp only [go_sem, simprocAttr, *, cCvr, cAreDeps, cRed, cWo, cImp, Tryz.results109, eT, eS, hq])
   ·have e5 : i = ds.length := by omega
    subst e5
    have eP : ds.take ds.length = ds := List.take_length
    rw [eP] at hl hl2
    clear hC
    generalize hK : covA n ds ds = K at hl hl2 hst
    (repeat' first | refine gA fun _ => ?_ | refine fkI ?_ ?_ <;> intro hb <;> try simp only [ew, eP, hK] at hb | simp only [go_sem, simprocAttr, *, cCvr, cAreDeps, cRed, cWo, cImp, Tryz.results109, eP, hK])
    refine lpI { ι := Nat × List (Int × Int), rs := [(11, 12), (52, 69)], mods := [(10, fun i => .one (.d (.v (.int .i64 i.1)))), (5, fun i => .one (.own 2 (dL i.2) 1))], boxes := [], arrs := [], ok := fun i => covP n R i.2 i.1, mu := fun i => i.2.length - i.1 } rfl (0, K) hst ?_ ?_
    ·clear hst
     (repeat' first | refine gA fun _ => ?_ | refine fkI ?_ ?_ <;> intro hb <;> try simp only [ew, eP, hK] at hb | simp only [go_sem, simprocAttr, *, cCvr, cAreDeps, cRed, cWo, cImp, Tryz.results109, eP, hK])
    ·rintro ⟨j, C⟩ hj
     dsimp only at hj
     have hj1 := hj.1
     have hj2 := hj.2.1
     by_cases h6 : j < C.length
     ·obtain ⟨o1, o2⟩ := covP_depsOK ⟨n1, n5⟩ hj h6
      have hw := wo_length h6
      have hq1 := covP_wo hj h6
      have hq0 := covP_next hj h6
      have eI : impB n (wo C j) (C.getD j (0, 0)).1 (C.getD j (0, 0)).2 = hasB (clo (wo C j) (C.getD j (0, 0)).1) (C.getD j (0, 0)).2 := by unfold impB; rw [o1, o2]; rfl
      clear hst hj o1 o2
      cases hq : hasB (clo (wo C j) (C.getD j (0, 0)).1) (C.getD j (0, 0)).2
      ·rw [hq] at eI
       have hq0 := hq0 hq
       clear hq1 hq
       (repeat' first | refine gA fun _ => ?_ | refine fkI ?_ ?_ <;> intro hb <;> try simp only [ew, eI] at hb | simp only [go_sem, simprocAttr, *, cCvr, cAreDeps, cRed, cWo, cImp, Tryz.results109, eI])
       refine lpN (j + 1, C) hq0 (by dsimp only; omega) ?_
       clear hq0
       (repeat' first | refine gA fun _ => ?_ | refine fkI ?_ ?_ <;> intro hb <;> try simp only [ew, eI] at hb | simp only [go_sem, simprocAttr, *, cCvr, cAreDeps, cRed, cWo, cImp, Tryz.results109, eI])
      ·rw [hq] at eI
       have hq1 := hq1 hq
       clear hq0 hq
       (repeat' first | refine gA fun _ => ?_ | refine fkI ?_ ?_ <;> intro hb <;> try simp only [ew, eI] at hb | simp only [go_sem, simprocAttr, *, cCvr, cAreDeps, cRed, cWo, cImp, Tryz.results109, eI])
       refine lpN (j, wo C j) hq1 (by dsimp only; omega) ?_
       clear hq1
       (repeat' first | refine gA fun _ => ?_ | refine fkI ?_ ?_ <;> intro hb <;> try simp only [ew, eI] at hb | simp only [go_sem, simprocAttr, *, cCvr, cAreDeps, cRed, cWo, cImp, Tryz.results109, eI])
     ·have e6 := covP_end hj h6
      subst e6
      clear hst hj
      (repeat' first | refine gA fun _ => ?_ | refine fkI ?_ ?_ <;> intro hb <;> try simp only [ew] at hb | simp only [go_sem, simprocAttr, *, cCvr, cAreDeps, cRed, cWo, cImp, Tryz.results109])
end Go.Own
