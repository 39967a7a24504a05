import Derived.Test.YtaigpolfbonjgaaGreatDoorOwnH1
import Derived.Test.YtaigpolfbonjgaaGreatDoorOwnTe
import Derived.Test.YtaigpolfbonjgaaGreatDoorOwnG12
set_option linter.unusedSimpArgs false
set_option linter.unusedVariables false
set_option maxRecDepth 20000
set_option maxHeartbeats 2000000
namespace Go.Own
open Go Go.Proofs
def cPut : Contract := ⟨[true], true, fun
 | [.arr 1 l _, .one (.v (.int .i64 x))] => some (WfI l ∧ l.length ≤ 16777216, [⟨false, [.own 1 (iL (putS (unI l) x)) 1]⟩], [.gone])
 | _ => none⟩
def putI (l : List Int) (x : Int) (i : Nat) (pl : Bool) (out : List Int) : Prop := i ≤ l.length ∧ out.length ≤ i + 1 ∧ out ++ (if pl then l.drop i else insS (l.drop i) x) = insS l x
theorem putI_start {l : List Int} {x : Int} : putI l x 0 false [] := ⟨Nat.zero_le _, by simp, by simp⟩
theorem putI_place {l : List Int} {x : Int} {i : Nat} {out : List Int} (h : putI l x i false out) (h5 : i < l.length) (hg : l.getD i 0 > x) (ho : out.length ≤ i) : putI l x (i + 1) true ((out ++ [x]) ++ [l.getD i 0]) := by
 obtain ⟨h1, h2, h3⟩ := h
 refine ⟨h5, by simp; omega, ?_⟩
 rw [if_neg (by decide), drop_getD h5 0, insS, if_pos (by omega)] at h3
 rw [if_pos rfl, ← h3]
 simp
theorem putI_go {l : List Int} {x : Int} {i : Nat} {out : List Int} (h : putI l x i false out) (h5 : i < l.length) (hg : ¬ l.getD i 0 > x) (ho : out.length ≤ i) : putI l x (i + 1) false (out ++ [l.getD i 0]) := by
 obtain ⟨h1, h2, h3⟩ := h
 refine ⟨h5, by simp; omega, ?_⟩
 rw [if_neg (by decide), drop_getD h5 0, insS, if_neg (by omega)] at h3
 rw [if_neg (by decide), ← h3]
 simp
theorem putI_on {l : List Int} {x : Int} {i : Nat} {out : List Int} (h : putI l x i true out) (h5 : i < l.length) : putI l x (i + 1) true (out ++ [l.getD i 0]) := by
 obtain ⟨h1, h2, h3⟩ := h
 refine ⟨h5, by simp; omega, ?_⟩
 rw [if_pos rfl, drop_getD h5 0] at h3
 rw [if_pos rfl, ← h3]
 simp
theorem putI_len {l : List Int} {x : Int} {i : Nat} {out : List Int} (h : putI l x i false out) : out.length ≤ i := by
 obtain ⟨h1, h2, h3⟩ := h
 have := congrArg List.length h3
 rw [if_neg (by decide), List.length_append, insS_length, insS_length, List.length_drop] at this
 omega
theorem putI_end0 {l : List Int} {x : Int} {out : List Int} (h : putI l x l.length false out) : out ++ [x] = insS l x := by
 have := h.2.2
 rw [if_neg (by decide), List.drop_length] at this
 exact this
theorem putI_end1 {l : List Int} {x : Int} {out : List Int} (h : putI l x l.length true out) : out = insS l x := by
 have := h.2.2
 rw [if_pos rfl, List.drop_length, List.append_nil] at this
 exact this
theorem put_ok : ContractOK E0 110 cPut := by
 refine contract_of_wpcC (E := E0) (T := mkT Tryz.prog [(129, cHas)] false (fun _ => false) false (fun _ => false)) (mkT_ok (E := E0) (.cons hasS_ok .nil)) rfl (fn := Tryz.f110) Tryz.func110 (by kernel_rfl) rfl mixedT (by kernel_rfl) rfl rfl (Nat.le_of_ble_eq_true rfl) ?_
 intro args p rs ms hr
 unfold cPut at hr
 dsimp only at hr
 split at hr
 rotate_left
 ·cases hr
 rename_i l dp x
 simp only [Option.some.injEq, Prod.mk.injEq] at hr
 obtain ⟨rfl, rfl, rfl⟩ := hr
 refine ⟨_, _, rfl, rfl, rfl, rfl, Nat.le_of_ble_eq_true rfl, ?_⟩
 have hm : maxLen = 9223372036854775807 := rfl
 rintro ⟨h1, h2⟩ bs
 obtain ⟨xs, rfl, hx⟩ := h1.ex
 clear h1
 rw [iL_length] at h2
 rw [unI_iL]
 cases hv : xs.contains x
 ·have e : putS xs x = insS xs x := by unfold putS; rw [hv]; rfl
  rw [e]
  clear e
  (repeat' first | refine gA fun _ => ?_ | refine fkI ?_ ?_ <;> intro hb <;> try simp only [ew, hv] at hb | simp only [go_sem, simprocAttr, *, cPut, cHas, Tryz.results110, hv])
  refine lpI { ι := Nat × Bool × List Int, rs := [(13, 40)], mods := [(7, fun i => .one (.d (.v (.int .i64 i.1)))), (6, fun i => .one (.d (.v (.bool i.2.1)))), (5, fun i => .one (.own 1 (iL i.2.2) 1))], boxes := [], arrs := [(0, fun _ => (1, iL xs, 1))], ok := fun i => putI xs x i.1 i.2.1 i.2.2, mu := fun i => xs.length - i.1 } rfl (0, false, []) putI_start ?_ ?_
  ·(repeat' first | refine gA fun _ => ?_ | refine fkI ?_ ?_ <;> intro hb <;> try simp only [ew, hv] at hb | simp only [go_sem, simprocAttr, *, cPut, cHas, Tryz.results110, hv])
   all_goals first | rfl | skip
  ·rintro ⟨i, pl, out⟩ hi
   dsimp only at hi
   have hi1 := hi.1
   have hi2 := hi.2.1
   by_cases h5 : i < xs.length
   ·cases pl
    ·have ho := putI_len hi
     by_cases hg : xs.getD i 0 > x
     ·have hn := putI_place hi h5 hg ho
      have hg' : decide (xs.getD i 0 > x) = true := decide_eq_true hg
      clear hi hg
      (repeat' first | refine gA fun _ => ?_ | refine fkI ?_ ?_ <;> intro hb <;> try simp only [ew, hg', iL_snoc] at hb | simp only [go_sem, simprocAttr, *, cPut, cHas, Tryz.results110, hg', iL_snoc])
      refine lpN (i + 1, true, (out ++ [x]) ++ [xs.getD i 0]) hn (by dsimp only; omega) ?_
      clear hn
      (repeat' first | refine gA fun _ => ?_ | refine fkI ?_ ?_ <;> intro hb <;> try simp only [ew, iL_snoc] at hb | simp only [go_sem, simprocAttr, *, cPut, cHas, Tryz.results110, iL_snoc])
      all_goals first | rfl | skip
     ·have hn := putI_go hi h5 hg ho
      have hg' : decide (xs.getD i 0 > x) = false := decide_eq_false hg
      clear hi hg
      (repeat' first | refine gA fun _ => ?_ | refine fkI ?_ ?_ <;> intro hb <;> try simp only [ew, hg', iL_snoc] at hb | simp only [go_sem, simprocAttr, *, cPut, cHas, Tryz.results110, hg', iL_snoc])
      refine lpN (i + 1, false, out ++ [xs.getD i 0]) hn (by dsimp only; omega) ?_
      clear hn
      (repeat' first | refine gA fun _ => ?_ | refine fkI ?_ ?_ <;> intro hb <;> try simp only [ew, iL_snoc] at hb | simp only [go_sem, simprocAttr, *, cPut, cHas, Tryz.results110, iL_snoc])
      all_goals first | rfl | skip
    ·have hn := putI_on hi h5
     clear hi
     (repeat' first | refine gA fun _ => ?_ | refine fkI ?_ ?_ <;> intro hb <;> try simp only [ew, iL_snoc] at hb | simp only [go_sem, simprocAttr, *, cPut, cHas, Tryz.results110, iL_snoc])
     refine lpN (i + 1, true, out ++ [xs.getD i 0]) hn (by dsimp only; omega) ?_
     clear hn
     (repeat' first | refine gA fun _ => ?_ | refine fkI ?_ ?_ <;> intro hb <;> try simp only [ew, iL_snoc] at hb | simp only [go_sem, simprocAttr, *, cPut, cHas, Tryz.results110, iL_snoc])
     all_goals first | rfl | skip
   ·have e5 : i = xs.length := by omega
    subst e5
    cases pl
    ·have e := putI_end0 hi
     clear hi
     (repeat' first | refine gA fun _ => ?_ | refine fkI ?_ ?_ <;> intro hb <;> try simp only [ew, iL_snoc] at hb | simp only [go_sem, simprocAttr, *, cPut, cHas, Tryz.results110, iL_snoc])
     all_goals first | exact e | (rw [e]; done) | skip
    ·have e := putI_end1 hi
     clear hi
     subst e
     (repeat' first | refine gA fun _ => ?_ | refine fkI ?_ ?_ <;> intro hb <;> try simp only [ew] at hb | simp only [go_sem, simprocAttr, *, cPut, cHas, Tryz.results110])
     all_goals first | rfl | skip
 ·have e : putS xs x = xs := by unfold putS; rw [hv]; rfl
  rw [e]
  clear e
  (repeat' first | refine gA fun _ => ?_ | refine fkI ?_ ?_ <;> intro hb <;> try simp only [ew, hv] at hb | simp only [go_sem, simprocAttr, *, cPut, cHas, Tryz.results110, hv])
  all_goals first | rfl | skip
def setsOK (l : List Int) : Bool := l.all (isAttr 5) && decide ((l.length : Int) ≤ 100)
def cSets : Contract := ⟨[], false, fun
 | [.one (.sl 1 l)] => some (WfI l, [⟨false, [.d (.v (.bool (setsOK (unI l))))]⟩], [])
 | _ => none⟩
theorem setsS_ok : ContractOK E0 146 cSets := by
 refine cWpc (E := E0) (T := mkT Tryz.prog [(72, cValid)] false (fun _ => false) true (fun _ => false)) (mkT_ok (E := E0) (.cons validS_ok .nil)) (fn := Tryz.f146) Tryz.func146 (by kernel_rfl) rfl mixedT (by kernel_rfl) rfl ?_
 intro args p rs ms hr
 unfold cSets at hr
 dsimp only at hr
 split at hr
 rotate_left
 ·cases hr
 rename_i l
 simp only [Option.some.injEq, Prod.mk.injEq] at hr
 obtain ⟨rfl, rfl, rfl⟩ := hr
 refine ⟨rfl, rfl, Nat.le_of_ble_eq_true rfl, ?_⟩
 have hm : maxLen = 9223372036854775807 := rfl
 intro h1 bs
 obtain ⟨xs, rfl, hx⟩ := h1.ex
 clear h1
 rw [unI_iL]
 (repeat' first | refine gA fun _ => ?_ | refine fkI ?_ ?_ <;> intro hb <;> try simp only [ew] at hb | simp only [go_sem, simprocAttr, *, cSets, cValid, Tryz.results146])
 refine lpI { ι := Nat, rs := [(2, 3), (4, 16)], mods := [(3, fun i => .one (.d (.v (.int .i64 i))))], boxes := [], arrs := [], ok := fun i => i ≤ xs.length ∧ (xs.drop i).all (isAttr 5) = xs.all (isAttr 5), mu := fun i => xs.length - i } rfl 0 ⟨Nat.zero_le _, rfl⟩ ?_ fun i hi => ?_
 ·(repeat' first | refine gA fun _ => ?_ | refine fkI ?_ ?_ <;> intro hb <;> try simp only [ew] at hb | simp only [go_sem, simprocAttr, *, cSets, cValid, Tryz.results146])
 ·dsimp only at i hi
  obtain ⟨hi, ht⟩ := hi
  by_cases h5 : i < xs.length
  ·rw [all_drop h5 0] at ht
   cases hq : isAttr 5 (xs.getD i 0)
   ·rw [hq, Bool.false_and] at ht
    have e : setsOK xs = false := by unfold setsOK; rw [← ht]; rfl
    rw [e]
    clear e ht
    (repeat' first | refine gA fun _ => ?_ | refine fkI ?_ ?_ <;> intro hb <;> try simp only [ew, hq] at hb | simp only [go_sem, simprocAttr, *, cSets, cValid, Tryz.results146, hq])
   ·rw [hq, Bool.true_and] at ht
    (repeat' first | refine gA fun _ => ?_ | refine fkI ?_ ?_ <;> intro hb <;> try simp only [ew, hq] at hb | simp only [go_sem, simprocAttr, *, cSets, cValid, Tryz.results146, hq])
    refine lpN (i + 1) ⟨by omega, ht⟩ (by dsimp only; omega) ?_
    clear ht
    (repeat' first | refine gA fun _ => ?_ | refine fkI ?_ ?_ <;> intro hb <;> try simp only [ew] at hb | simp only [go_sem, simprocAttr, *, cSets, cValid, Tryz.results146])
  ·have e5 : i = xs.length := by omega
   subst e5
   rw [List.drop_length, List.all_nil] at ht
   have e : setsOK xs = decide ((xs.length : Int) ≤ 100) := by unfold setsOK; rw [← ht]; rfl
   rw [e]
   clear e ht
   (repeat' first | refine gA fun _ => ?_ | refine fkI ?_ ?_ <;> intro hb <;> try simp only [ew] at hb | simp only [go_sem, simprocAttr, *, cSets, cValid, Tryz.results146])
theorem setsI_ok : ContractOK E0 138 cSets := by
 refine cWpc (E := E0) (T := mkT Tryz.prog [(70, cValid)] false (fun _ => false) true (fun _ => false)) (mkT_ok (E := E0) (.cons validI_ok .nil)) (fn := Tryz.f138) Tryz.func138 (by kernel_rfl) rfl mixedT (by kernel_rfl) rfl ?_
 intro args p rs ms hr
 unfold cSets at hr
 dsimp only at hr
 split at hr
 rotate_left
 ·cases hr
 rename_i l
 simp only [Option.some.injEq, Prod.mk.injEq] at hr
 obtain ⟨rfl, rfl, rfl⟩ := hr
 refine ⟨rfl, rfl, Nat.le_of_ble_eq_true rfl, ?_⟩
 have hm : maxLen = 9223372036854775807 := rfl
 intro h1 bs
 obtain ⟨xs, rfl, hx⟩ := h1.ex
 clear h1
 rw [unI_iL]
 (repeat' first | refine gA fun _ => ?_ | refine fkI ?_ ?_ <;> intro hb <;> try simp only [ew] at hb | simp only [go_sem, simprocAttr, *, cSets, cValid, Tryz.results138])
 refine lpI { ι := Nat, rs := [(2, 3), (4, 5), (8, 15)], mods := [(7, fun i => .one (.d (.v (.int .i64 i))))], boxes := [], arrs := [], ok := fun i => i ≤ xs.length ∧ (xs.drop i).all (isAttr 5) = xs.all (isAttr 5), mu := fun i => xs.length - i } rfl 0 ⟨Nat.zero_le _, rfl⟩ ?_ fun i hi => ?_
 ·(repeat' first | refine gA fun _ => ?_ | refine fkI ?_ ?_ <;> intro hb <;> try simp only [ew] at hb | simp only [go_sem, simprocAttr, *, cSets, cValid, Tryz.results138])
 ·dsimp only at i hi
  obtain ⟨hi, ht⟩ := hi
  by_cases h5 : i < xs.length
  ·rw [all_drop h5 0] at ht
   cases hq : isAttr 5 (xs.getD i 0)
   ·rw [hq, Bool.false_and] at ht
    have e : setsOK xs = false := by unfold setsOK; rw [← ht]; rfl
    rw [e]
    clear e ht
    (repeat' first | refine gA fun _ => ?_ | refine fkI ?_ ?_ <;> intro hb <;> try simp only [ew, hq] at hb | simp only [go_sem, simprocAttr, *, cSets, cValid, Tryz.results138, hq])
   ·rw [hq, Bool.true_and] at ht
    (repeat' first | refine gA fun _ => ?_ | refine fkI ?_ ?_ <;> intro hb <;> try simp only [ew, hq] at hb | simp only [go_sem, simprocAttr, *, cSets, cValid, Tryz.results138, hq])
    refine lpN (i + 1) ⟨by omega, ht⟩ (by dsimp only; omega) ?_
    clear ht
    (repeat' first | refine gA fun _ => ?_ | refine fkI ?_ ?_ <;> intro hb <;> try simp only [ew] at hb | simp only [go_sem, simprocAttr, *, cSets, cValid, Tryz.results138])
  ·have e5 : i = xs.length := by omega
   subst e5
   rw [List.drop_length, List.all_nil] at ht
   have e : setsOK xs = decide ((xs.length : Int) ≤ 100) := by unfold setsOK; rw [← ht]; rfl
   rw [e]
   clear e ht
   (repeat' first | refine gA fun _ => ?_ | refine fkI ?_ ?_ <;> intro hb <;> try simp only [ew] at hb | simp only [go_sem, simprocAttr, *, cSets, cValid, Tryz.results138])
def minT1 (x y : Int) : Bool := x == y || !insB y x
def maxT1 (x y : Int) : Bool := x == y || !insB x y
def selS (t : Int → Int → Bool) (l : List Int) : List Int := if setsOK l then dstI (l.filter fun x => l.all (t x)) else []
theorem dst_filter {p : Int → Bool} {xs : List Int} : (dstI xs).filter p = dstI (xs.filter p) := by
 refine sorted_ext (dstI_sorted.filter _) dstI_sorted fun z => ?_
 rw [List.mem_filter, dstI_mem, dstI_mem, List.mem_filter]
theorem selS_length {t : Int → Int → Bool} {l : List Int} : (selS t l).length ≤ 100 := by
 unfold selS
 split
 ·rename_i h
  simp only [setsOK, Bool.and_eq_true, decide_eq_true_eq] at h
  have h1 := @dstI_length (l.filter fun x => l.all (t x))
  have h2 := List.length_filter_le (fun x => l.all (t x)) l
  omega
 ·simp
theorem selS_mem {t : Int → Int → Bool} {l : List Int} {x : Int} (h : x ∈ selS t l) : x ∈ l ∧ isAttr 5 x = true := by
 unfold selS at h
 split at h
 ·rename_i hs
  rw [dstI_mem, List.mem_filter] at h
  simp only [setsOK, Bool.and_eq_true, List.all_eq_true] at hs
  exact ⟨h.1, hs.1 x h.1⟩
 ·cases h
theorem sets_at {l : List Int} (h : setsOK l = true) {i : Nat} (hi : i < l.length) : 0 ≤ l.getD i 0 ∧ l.getD i 0 ≤ 31 := by
 simp only [setsOK, Bool.and_eq_true, List.all_eq_true] at h
 have := isAttr_le (h.1 _ (getD_mem hi 0))
 exact this.2.2
theorem dstI_snoc {xs : List Int} {x : Int} : dstI (xs ++ [x]) = putS (dstI xs) x := by unfold dstI; rw [List.foldl_append]; rfl
def cMinS : Contract := ⟨[], false, fun
 | [.one (.sl 1 l)] => some (WfI l, [⟨false, [.own 1 (iL (selS minT1 (unI l))) 1]⟩], [])
 | _ => none⟩
def cMaxS : Contract := ⟨[], false, fun
 | [.one (.sl 1 l)] => some (WfI l, [⟨false, [.own 1 (iL (selS maxT1 (unI l))) 1]⟩], [])
 | _ => none⟩
theorem and_ins3 {l x : Int} (hl : R5 l) (hx : R5 x) : (bitI .and .i64 l x != l) = !insB l x := by
 rw [bne, and_ins hl hx]
theorem minS_ok : ContractOK E0 108 cMinS := by
 refine cWpc (E := E0) (T := mkT Tryz.prog [(146, cSets), (110, cPut)] false (fun _ => false) true (fun _ => false)) (mkT_ok (E := E0) (.cons setsS_ok (.cons put_ok .nil))) (fn := Tryz.f108) Tryz.func108 (by kernel_rfl) rfl mixedT (by kernel_rfl) rfl ?_
 intro args p rs ms hr
 unfold cMinS at hr
 dsimp only at hr
 split at hr
 rotate_left
 ·cases hr
 rename_i l
 simp only [Option.some.injEq, Prod.mk.injEq] at hr
 obtain ⟨rfl, rfl, rfl⟩ := hr
 refine ⟨rfl, rfl, Nat.le_of_ble_eq_true rfl, ?_⟩
 have hm : maxLen = 9223372036854775807 := rfl
 intro h1 bs
 obtain ⟨xs, rfl, hx⟩ := h1.ex
 clear h1
 rw [unI_iL]
 cases hv : setsOK xs
 ·have e : selS minT1 xs = [] := by unfold selS; rw [hv]; rfl
  rw [e]
  clear e
  (repeat' first | refine gA fun _ => ?_ | refine fkI ?_ ?_ <;> intro hb <;> try simp only [ew, hv] at hb | simp only [go_sem, simprocAttr, *, cMinS, cSets, cPut, Tryz.results108, hv])
  refine lpI { ι := Unit, rs := [(5, 7), (8, 59)], mods := [(4, fun _ => .one (.d (.v (.int .i64 0)))), (3, fun _ => .one (.own 1 [] 1))], boxes := [], arrs := [], ok := fun _ => True, mu := fun _ => 0 } rfl () trivial ?_ fun _ _ => ?_
  ·(repeat' first | refine gA fun _ => ?_ | refine fkI ?_ ?_ <;> intro hb <;> try simp only [ew, hv] at hb | simp only [go_sem, simprocAttr, *, cMinS, cSets, cPut, Tryz.results108, hv])
  ·(repeat' first | refine gA fun _ => ?_ | refine fkI ?_ ?_ <;> intro hb <;> try simp only [ew, hv] at hb | simp only [go_sem, simprocAttr, *, cMinS, cSets, cPut, Tryz.results108, hv])
   all_goals first | rfl | skip
 ·have e : selS minT1 xs = dstI (xs.filter fun x => xs.all (minT1 x)) := by unfold selS; rw [hv]; rfl
  have hat := fun i => @sets_at xs hv i
  have h100 : xs.length ≤ 100 := by
   have := hv
   simp only [setsOK, Bool.and_eq_true, decide_eq_true_eq] at this
   omega
  rw [e]
  clear e
  (repeat' first | refine gA fun _ => ?_ | refine fkI ?_ ?_ <;> intro hb <;> try simp only [ew, hv] at hb | simp only [go_sem, simprocAttr, *, cMinS, cSets, cPut, Tryz.results108, hv])
  refine lpI { ι := Nat, rs := [(5, 7), (8, 59)], mods := [(4, fun i => .one (.d (.v (.int .i64 i)))), (3, fun i => .one (.own 1 (iL (dstI ((xs.take i).filter fun x => xs.all (minT1 x)))) 1))], boxes := [], arrs := [], ok := fun i => i ≤ xs.length, mu := fun i => xs.length - i } rfl 0 (Nat.zero_le _) ?_ fun i hi => ?_
  ·(repeat' first | refine gA fun _ => ?_ | refine fkI ?_ ?_ <;> intro hb <;> try simp only [ew, hv] at hb | simp only [go_sem, simprocAttr, *, cMinS, cSets, cPut, Tryz.results108, hv])
   all_goals first | rfl | skip
  ·dsimp only at i hi
   have l1 := @dstI_length ((xs.take i).filter fun x => xs.all (minT1 x))
   have l2 := List.length_filter_le (fun x => xs.all (minT1 x)) (xs.take i)
   rw [List.length_take] at l2
   have l3 : (dstI ((xs.take i).filter fun x => xs.all (minT1 x))).length ≤ 100 := by omega
   have l4 : (dstI ((xs.take i).filter fun x => xs.all (minT1 x))).length ≤ maxLen := Nat.le_trans l3 (by decide)
   clear l1 l2
   by_cases h5 : i < xs.length
   ·obtain ⟨x0, x31⟩ := hat i h5
    have hft := filter_take h5 (fun x => xs.all (minT1 x))
    have hsn := fun x => @dstI_snoc ((xs.take i).filter fun x => xs.all (minT1 x)) x
    generalize hZ : dstI ((xs.take i).filter fun x => xs.all (minT1 x)) = Z at l3 l4 hsn
    generalize hX : xs.getD i 0 = x at x0 x31 hft
    (repeat' first | refine gA fun _ => ?_ | refine fkI ?_ ?_ <;> intro hb <;> try simp only [ew, hv, hZ] at hb | simp only [go_sem, simprocAttr, *, cMinS, cSets, cPut, Tryz.results108, hv, hZ])
    generalize hF : xs.all (minT1 x) = F at hft
    refine lpI { ι := Nat, rs := [(18, 52)], mods := [(6, fun k => .one (.d (.v (.int .i64 k)))), (5, fun k => .one (.d (.v (.bool ((xs.take k).all (minT1 x))))))], boxes := [], arrs := [(3, fun _ => (1, iL Z, 1))], ok := fun k => k ≤ xs.length, mu := fun k => xs.length - k } rfl 0 (Nat.zero_le _) ?_ fun k hk => ?_
    ·(repeat' first | refine gA fun _ => ?_ | refine fkI ?_ ?_ <;> intro hb <;> try simp only [ew, hZ] at hb | simp only [go_sem, simprocAttr, *, cMinS, cSets, cPut, Tryz.results108, hZ])
     all_goals first | rfl | skip
    ·dsimp only at k hk
     by_cases h6 : k < xs.length
     ·obtain ⟨y0, y31⟩ := hat k h6
      have ea := and_ins2 (l := xs.getD k 0) (x := x) ⟨y0, y31⟩ ⟨x0, x31⟩
      have et := all_take h6 0 (minT1 x)
      have em : minT1 x (xs.getD k 0) = (xs.getD k 0 == x || !insB (xs.getD k 0) x) := by
       unfold minT1; rw [Bool.beq_comm]
      rw [em] at et
      clear em
      (repeat' first | refine gA fun _ => ?_ | refine fkI ?_ ?_ <;> intro hb <;> try simp only [ew, hX, ea] at hb | simp only [go_sem, simprocAttr, *, cMinS, cSets, cPut, Tryz.results108, hX, ea])
      refine lpN (k + 1) (by dsimp only; omega) (by dsimp only; omega) ?_
      (repeat' first | refine gA fun _ => ?_ | refine fkI ?_ ?_ <;> intro hb <;> try simp only [ew, et, hX, ea] at hb | simp only [go_sem, simprocAttr, *, cMinS, cSets, cPut, Tryz.results108, et, hX, ea])
     ·have e6 : k = xs.length := by omega
      subst e6
      have et : (xs.take xs.length).all (minT1 x) = F := by rw [List.take_length, hF]
      cases hq : F
      ·rw [hq] at et hft
       rw [if_neg (by decide), List.append_nil] at hft
       clear hsn
       (repeat' first | refine gA fun _ => ?_ | refine fkI ?_ ?_ <;> intro hb <;> try simp only [ew, et, hX] at hb | simp only [go_sem, simprocAttr, *, cMinS, cSets, cPut, Tryz.results108, et, hX])
       refine lpN (i + 1) (by dsimp only; omega) (by dsimp only; omega) ?_
       (repeat' first | refine gA fun _ => ?_ | refine fkI ?_ ?_ <;> intro hb <;> try simp only [ew, hft, hZ] at hb | simp only [go_sem, simprocAttr, *, cMinS, cSets, cPut, Tryz.results108, hft, hZ])
      ·rw [hq] at et hft
       rw [if_pos rfl] at hft
       have hs := hsn x
       clear hsn
       (repeat' first | refine gA fun _ => ?_ | refine fkI ?_ ?_ <;> intro hb <;> try simp only [ew, et, hX] at hb | simp only [go_sem, simprocAttr, *, cMinS, cSets, cPut, Tryz.results108, et, hX])
       refine lpN (i + 1) (by dsimp only; omega) (by dsimp only; omega) ?_
       (repeat' first | refine gA fun _ => ?_ | refine fkI ?_ ?_ <;> intro hb <;> try simp only [ew, hft, hs, hZ] at hb | simp only [go_sem, simprocAttr, *, cMinS, cSets, cPut, Tryz.results108, hft, hs, hZ])
   ·have e5 : i = xs.length := by omega
    subst e5
    have et : xs.take xs.length = xs := List.take_length
    (repeat' first | refine gA fun _ => ?_ | refine fkI ?_ ?_ <;> intro hb <;> try simp only [ew, et, hv] at hb | simp only [go_sem, simprocAttr, *, cMinS, cSets, cPut, Tryz.results108, et, hv])
    all_goals first | rfl | skip
end Go.Own
