/- Own contracts. Conditions: as each theorem states them. -/
import Derived.Test.YtaigpolfbonjgaaGreatDoorOwnTb
import Derived.Test.YtaigpolfbonjgaaGreatDoorOwnTa
set_option linter.unusedSimpArgs false
set_option linter.unusedVariables false
set_option maxRecDepth 20000
set_option maxHeartbeats 2000000
namespace Go.Own
open Go Go.Proofs
theorem baOf_eq (ns : List Int) : baOf ns = ⟨(ns.map fun n => UInt8.ofNat n.toNat).toArray⟩ := by
 have : ∀ (ns : List Int) (b : ByteArray), ns.foldl (fun r n => r.push (UInt8.ofNat n.toNat)) b = ⟨(b.data.toList ++ ns.map fun n => UInt8.ofNat n.toNat).toArray⟩ := by
  intro ns
  induction ns with
  | nil => intro b; simp
  | cons n ns ih =>
   intro b
   rw [List.foldl_cons, ih]
   simp [ByteArray.push]
 unfold baOf
 rw [this]
 simp
theorem ba_ext {a b : ByteArray} (h : a.data.toList = b.data.toList) : a = b := by
 obtain ⟨⟨x⟩⟩ := a
 obtain ⟨⟨y⟩⟩ := b
 simp at h
 rw [h]
theorem baOf_list (ns : List Int) : (baOf ns).data.toList = ns.map fun n => UInt8.ofNat n.toNat := by rw [baOf_eq]
theorem ba_app (a b : ByteArray) : (a ++ b).data.toList = a.data.toList ++ b.data.toList := by simp
theorem baOf_append (xs ys : List Int) : baOf xs ++ baOf ys = baOf (xs ++ ys) := ba_ext (by rw [ba_app, baOf_list, baOf_list, baOf_list, List.map_append])
theorem baOf_size (ns : List Int) : (baOf ns).size = ns.length := by rw [baOf_eq]; simp [ByteArray.size]
theorem baOf_nil {ns : List Int} : ((baOf ns).toList == ByteArray.toList ⟨#[]⟩) = ns.isEmpty := by
 rw [ByteArray.toList_eq, ByteArray.toList_eq, baOf_list]
 cases ns <;> simp
theorem unB_bL (ns : List Int) : unB (bL ns) = ns := by simp [unB, bL, Function.comp_def]
theorem bL_length (ns : List Int) : (bL ns).length = ns.length := by simp [bL]
theorem bL_snoc (ns : List Int) (n : Int) : bL ns ++ [[D.v (.int .u8 n)]] = bL (ns ++ [n]) := by simp [bL]
attribute [local go_sem] unB_bL bL_length bL_snoc
def memN (x : Int) : Nat → List Int
 | 0 => []
 | n + 1 => memN x n ++ (if hasB x (n : Nat) then [(n : Int)] else [])
def mem (x : Int) : List Int := if isAttr 5 x then memN x 5 else []
theorem memN_length {x : Int} : ∀ {n : Nat}, (memN x n).length ≤ n
 | 0 => Nat.le_refl _
 | n + 1 => by
  have := @memN_length x n
  simp only [memN, List.length_append]
  split <;> simp <;> omega
theorem memN_range {x : Int} : ∀ {n : Nat}, ∀ m ∈ memN x n, 0 ≤ m ∧ m < n
 | 0, m, h => by cases h
 | n + 1, m, h => by
  simp only [memN, List.mem_append] at h
  rcases h with h | h
  ·have := memN_range m h; omega
  ·split at h
   ·simp at h; omega
   ·cases h
def cMem : Contract := ⟨[], false, fun
 | [.one (.v (.int .i64 x))] => some (True, [⟨false, [.own 1 (iL (mem x)) 1]⟩], [])
 | _ => none⟩
theorem memI_ok : ContractOK E0 69 cMem := by
 refine cWpc (E := E0) (T := mkT Tryz.prog [(70, cValid), (67, cHasB)] false (fun _ => false) true (fun _ => false)) (mkT_ok (E := E0) (.cons validI_ok (.cons hasB_ok .nil))) (fn := Tryz.f69) Tryz.func69 (by kernel_rfl) rfl mixedT (by kernel_rfl) rfl ?_
 intro args p rs ms hr
 unfold cMem at hr
 dsimp only at hr
 split at hr
 rotate_left
 ·cases hr
 rename_i x
 simp only [Option.some.injEq, Prod.mk.injEq] at hr
 obtain ⟨rfl, rfl, rfl⟩ := hr
 refine ⟨rfl, rfl, Nat.le_of_ble_eq_true rfl, ?_⟩
 have hm : maxLen = 9223372036854775807 := rfl
 intro _ bs
 unfold mem
 cases hv : isAttr 5 x
 ·(repeat' first | refine gA fun _ => ?_ | refine fkI ?_ ?_ <;> intro hb <;> try simp only [ew] at hb | simp only [go_sem, simprocAttr, *, cMem, cValid, cHasB, Tryz.results69])
  refine lpI { ι := Unit, rs := [(6, 21)], mods := [(4, fun _ => .one (.d (.v (.int .i64 0)))), (3, fun _ => .one (.own 1 [] 1))], boxes := [], arrs := [], ok := fun _ => True, mu := fun i => 0 } rfl () trivial ?_ fun i hi => ?_
  ·(repeat' first | refine gA fun _ => ?_ | refine fkI ?_ ?_ <;> intro hb <;> try simp only [ew] at hb | simp only [go_sem, simprocAttr, *, cMem, cValid, cHasB, Tryz.results69])
  ·dsimp only at i hi
   (repeat' first | refine gA fun _ => ?_ | refine fkI ?_ ?_ <;> intro hb <;> try simp only [ew] at hb | simp only [go_sem, simprocAttr, *, cMem, cValid, cHasB, Tryz.results69])
   rfl
 ·simp only [if_true]
  (repeat' first | refine gA fun _ => ?_ | refine fkI ?_ ?_ <;> intro hb <;> try simp only [ew] at hb | simp only [go_sem, simprocAttr, *, cMem, cValid, cHasB, Tryz.results69])
  refine lpI { ι := Nat, rs := [(6, 21)], mods := [(4, fun i => .one (.d (.v (.int .i64 i)))), (3, fun i => .one (.own 1 (iL (memN x i)) 1))], boxes := [], arrs := [], ok := fun i => i ≤ 5, mu := fun i => 5 - i } rfl 0 (Nat.zero_le _) ?_ fun i hi => ?_
  ·(repeat' first | refine gA fun _ => ?_ | refine fkI ?_ ?_ <;> intro hb <;> try simp only [ew] at hb | simp only [go_sem, simprocAttr, *, cMem, cValid, cHasB, Tryz.results69])
   all_goals first | rfl | skip
  ·dsimp only at i hi
   have hl := @memN_length x i
   (repeat' first | refine gA fun _ => ?_ | refine fkI ?_ ?_ <;> intro hb <;> try simp only [ew] at hb | simp only [go_sem, simprocAttr, *, cMem, cValid, cHasB, Tryz.results69])
   ·have hh := ‹hasB x (i : Nat) = true›
    have e : iL (memN x i) ++ [[D.v (.int .i64 i)]] = iL (memN x (i + 1)) := by simp [memN, hh, iL]
    refine lpN (i + 1) (by dsimp only; omega) (by dsimp only; omega) ?_
    clear hh
    (repeat' first | refine gA fun _ => ?_ | refine fkI ?_ ?_ <;> intro hb <;> try simp only [ew, e] at hb | simp only [go_sem, simprocAttr, *, cMem, cValid, cHasB, Tryz.results69, e])
   ·have hh := ‹hasB x (i : Nat) = false›
    have e : memN x (i + 1) = memN x i := by simp [memN, hh]
    refine lpN (i + 1) (by dsimp only; omega) (by dsimp only; omega) ?_
    clear hh
    (repeat' first | refine gA fun _ => ?_ | refine fkI ?_ ?_ <;> intro hb <;> try simp only [ew, e] at hb | simp only [go_sem, simprocAttr, *, cMem, cValid, cHasB, Tryz.results69, e])
   ·have e : i = 5 := by omega
    subst e; rfl
def faL (x : Int) : List Int := if isAttr 5 x then (if x = 0 then [110, 111, 110, 101] else (memN x 5).map (65 + ·)) else []
def fa (x : Int) : ByteArray := baOf (faL x)
def cFA : Contract := ⟨[], false, fun
 | [.one (.v (.int .i64 x))] => some (True, [⟨false, [.d (.v (.string (fa x)))]⟩], [])
 | _ => none⟩
theorem wrap65 {m : Int} (h0 : 0 ≤ m) (h5 : m < 5) : IntKind.wrap .u8 (65 + m) = 65 + m := by
 have : m = 0 ∨ m = 1 ∨ m = 2 ∨ m = 3 ∨ m = 4 := by omega
 rcases this with rfl | rfl | rfl | rfl | rfl <;> rfl
theorem isAttr50 : isAttr 5 0 = true := by decide
theorem mem_len {x : Int} : (mem x).length ≤ 5 := by
 unfold mem; split
 ·exact memN_length
 ·simp
theorem mem_range {x : Int} {i : Nat} (h : i < (mem x).length) : 0 ≤ (mem x).getD i 0 ∧ (mem x).getD i 0 < 5 := by
 have hm : (mem x).getD i 0 ∈ mem x := by simp [List.getD_eq_getElem?_getD, h]
 unfold mem at hm ⊢
 split at hm
 ·rename_i hv
  rw [if_pos hv]
  exact memN_range (n := 5) _ hm
 ·cases hm
theorem faI_ok : ContractOK E0 31 cFA := by
 refine cWpc (E := E0) (T := mkT Tryz.prog [(69, cMem)] false (fun _ => false) true (fun _ => false)) (mkT_ok (E := E0) (.cons memI_ok .nil)) (fn := Tryz.f31) Tryz.func31 (by kernel_rfl) rfl mixedT (by kernel_rfl) rfl ?_
 intro args p rs ms hr
 unfold cFA at hr
 dsimp only at hr
 split at hr
 rotate_left
 ·cases hr
 rename_i x
 simp only [Option.some.injEq, Prod.mk.injEq] at hr
 obtain ⟨rfl, rfl, rfl⟩ := hr
 refine ⟨rfl, rfl, Nat.le_of_ble_eq_true rfl, ?_⟩
 have hm : maxLen = 9223372036854775807 := rfl
 intro _ bs
 by_cases hx : x = 0
 ·subst hx
  have e : fa 0 = ⟨#[110, 111, 110, 101]⟩ := by unfold fa faL; rw [isAttr50]; rfl
  (repeat' first | refine gA fun _ => ?_ | refine fkI ?_ ?_ <;> intro hb <;> try simp only [ew, e] at hb | simp only [go_sem, simprocAttr, *, cFA, cMem, Tryz.results31, e])
 ·have e : fa x = baOf ((mem x).map (65 + ·)) := by
   unfold fa faL mem
   split <;> simp [hx]
  rw [e]
  have e0 : (x == 0) = false := by simpa using hx
  have hl := @mem_len x
  clear e
  (repeat' first | refine gA fun _ => ?_ | refine fkI ?_ ?_ <;> intro hb <;> try simp only [ew] at hb | simp only [go_sem, simprocAttr, *, cFA, cMem, Tryz.results31])
  refine lpI { ι := Nat, rs := [(5, 6), (13, 23)], mods := [(12, fun i => .one (.d (.v (.int .i64 i)))), (3, fun i => .one (.own 1 (bL (((mem x).take i).map (65 + ·))) 1))], boxes := [], arrs := [(10, fun _ => (1, iL (mem x), 1))], ok := fun i => i ≤ (mem x).length, mu := fun i => (mem x).length - i } rfl 0 (Nat.zero_le _) ?_ fun i hi => ?_
  ·(repeat' first | refine gA fun _ => ?_ | refine fkI ?_ ?_ <;> intro hb <;> try simp only [ew] at hb | simp only [go_sem, simprocAttr, *, cFA, cMem, Tryz.results31])
   all_goals first | rfl | skip
  ·dsimp only at i hi
   have hr := fun h => @mem_range x i h
   by_cases h5 : i < (mem x).length
   ·obtain ⟨r0, r5⟩ := hr h5
    have ew := wrap65 r0 r5
    clear hr
    (repeat' first | refine gA fun _ => ?_ | refine fkI ?_ ?_ <;> intro hb <;> try simp only [ew, List.length_map, ew] at hb | simp only [go_sem, simprocAttr, *, cFA, cMem, Tryz.results31, List.length_map, ew])
    refine lpN (i + 1) (by dsimp only; omega) (by dsimp only; omega) ?_
    have e2 : ((mem x).take (i + 1)).map (65 + ·) = ((mem x).take i).map (65 + ·) ++ [65 + (mem x).getD i 0] := by
     rw [take_succ_getD h5 0]; simp
    clear r0 r5 hl
    (repeat' first | refine gA fun _ => ?_ | refine fkI ?_ ?_ <;> intro hb <;> try simp only [ew, e2] at hb | simp only [go_sem, simprocAttr, *, cFA, cMem, Tryz.results31, e2])
   ·clear hr
    (repeat' first | refine gA fun _ => ?_ | refine fkI ?_ ?_ <;> intro hb <;> try simp only [ew, List.length_map] at hb | simp only [go_sem, simprocAttr, *, cFA, cMem, Tryz.results31, List.length_map])
    rw [List.take_of_length_le (by omega)]
theorem memN_nil {x : Int} (h : isAttr 5 x = true) : memN x 5 = [] ↔ x = 0 := by
 have h := isAttr_le h
 have key : ∀ n : Fin 32, (memN ((n.val : Nat) : Int) 5 = [] ↔ ((n.val : Nat) : Int) = 0) := by decide +kernel
 have := key ⟨x.toNat, by omega⟩
 rwa [show ((x.toNat : Nat) : Int) = x by omega] at this
theorem abcde {i : Nat} (h : i < 5) : ByteArray.extract ⟨#[65, 66, 67, 68, 69]⟩ i (i + 1) = baOf [65 + (i : Nat)] := by
 have : i = 0 ∨ i = 1 ∨ i = 2 ∨ i = 3 ∨ i = 4 := by omega
 rcases this with rfl | rfl | rfl | rfl | rfl <;> decide
theorem abcde_size : ByteArray.size ⟨#[65, 66, 67, 68, 69]⟩ = 5 := rfl
theorem faS_ok : ContractOK E0 34 cFA := by
 refine cWpc (E := E0) (T := mkT Tryz.prog [(72, cValid)] false (fun _ => false) true (fun _ => false)) (mkT_ok (E := E0) (.cons validS_ok .nil)) (fn := Tryz.f34) Tryz.func34 (by kernel_rfl) rfl mixedT (by kernel_rfl) rfl ?_
 intro args p rs ms hr
 unfold cFA at hr
 dsimp only at hr
 split at hr
 rotate_left
 ·cases hr
 rename_i x
 simp only [Option.some.injEq, Prod.mk.injEq] at hr
 obtain ⟨rfl, rfl, rfl⟩ := hr
 refine ⟨rfl, rfl, Nat.le_of_ble_eq_true rfl, ?_⟩
 have hm : maxLen = 9223372036854775807 := rfl
 intro _ bs
 cases hv : isAttr 5 x
 ·have e : fa x = ⟨#[]⟩ := by unfold fa faL; rw [hv]; rfl
  (repeat' first | refine gA fun _ => ?_ | refine fkI ?_ ?_ <;> intro hb <;> try simp only [ew, e] at hb | simp only [go_sem, simprocAttr, *, cFA, cValid, Tryz.results34, e])
 ·(repeat' first | refine gA fun _ => ?_ | refine fkI ?_ ?_ <;> intro hb <;> try simp only [ew] at hb | simp only [go_sem, simprocAttr, *, cFA, cValid, Tryz.results34])
  refine lpI { ι := Nat, rs := [(8, 23)], mods := [(4, fun i => .one (.d (.v (.int .i64 i)))), (3, fun i => .one (.d (.v (.string (baOf ((memN x i).map (65 + ·)))))))], boxes := [], arrs := [], ok := fun i => i ≤ 5, mu := fun i => 5 - i } rfl 0 (Nat.zero_le _) ?_ fun i hi => ?_
  ·(repeat' first | refine gA fun _ => ?_ | refine fkI ?_ ?_ <;> intro hb <;> try simp only [ew] at hb | simp only [go_sem, simprocAttr, *, cFA, cValid, Tryz.results34])
   all_goals first | rfl | skip
  ·dsimp only at i hi
   have hl := @memN_length x i
   by_cases h5 : i < 5
   ·have he : ByteArray.extract ⟨#[65, 66, 67, 68, 69]⟩ i ((i : Int) + 1).toNat = baOf [65 + (i : Nat)] := by
     rw [show ((i : Int) + 1).toNat = i + 1 by omega]; exact abcde h5
    (repeat' first | refine gA fun _ => ?_ | refine fkI ?_ ?_ <;> intro hb <;> try simp only [ew, bits64, abcde_size, baOf_size, List.length_map, he] at hb | simp only [go_sem, simprocAttr, *, cFA, cValid, Tryz.results34, bits64, abcde_size, baOf_size, List.length_map, he])
    ·have hb := ‹bitI BinOp.and IntKind.i64 (x.fdiv (2 ^ i)) 1 = 1›
     have hh : hasB x (i : Nat) = true := by unfold hasB; rw [Int.toNat_natCast, hb]; rfl
     have e2 : baOf ((memN x i).map (65 + ·)) ++ baOf [65 + (i : Nat)] = baOf ((memN x (i + 1)).map (65 + ·)) := by rw [baOf_append]; simp [memN, hh]
     refine lpN (i + 1) (by dsimp only; omega) (by dsimp only; omega) ?_
     clear hh hb hl
     (repeat' first | refine gA fun _ => ?_ | refine fkI ?_ ?_ <;> intro hb <;> try simp only [ew, he, e2] at hb | simp only [go_sem, simprocAttr, *, cFA, cValid, Tryz.results34, he, e2])
    ·have hb := ‹¬bitI BinOp.and IntKind.i64 (x.fdiv (2 ^ i)) 1 = 1›
     have hh : hasB x (i : Nat) = false := by unfold hasB; rw [Int.toNat_natCast]; exact beq_false_of_ne hb
     have e2 : memN x (i + 1) = memN x i := by simp [memN, hh]
     refine lpN (i + 1) (by dsimp only; omega) (by dsimp only; omega) ?_
     clear hh hb hl
     (repeat' first | refine gA fun _ => ?_ | refine fkI ?_ ?_ <;> intro hb <;> try simp only [ew, he, e2] at hb | simp only [go_sem, simprocAttr, *, cFA, cValid, Tryz.results34, he, e2])
    all_goals (exfalso; omega)
   ·have e5 : i = 5 := by omega
    subst e5
    have hmn := memN_nil hv
    (repeat' first | refine gA fun _ => ?_ | refine fkI ?_ ?_ <;> intro hb <;> try simp only [ew, baOf_nil] at hb | simp only [go_sem, simprocAttr, *, cFA, cValid, Tryz.results34, baOf_nil])
    ·have h0 := ‹(List.map (fun x => 65 + x) (memN x 5)).isEmpty = true›
     rw [List.isEmpty_iff, List.map_eq_nil_iff, hmn] at h0
     subst h0
     unfold fa faL; rw [isAttr50]; rfl
    ·have h0 := ‹(List.map (fun x => 65 + x) (memN x 5)).isEmpty = false›
     have h1 : ¬ x = 0 := fun e => by
      rw [List.isEmpty_eq_false_iff, ne_eq, List.map_eq_nil_iff, hmn] at h0
      exact h0 e
     unfold fa faL
     rw [hv, if_neg h1]; rfl
end Go.Own
namespace Go.Own
open Go Go.Proofs
attribute [local go_sem] unB_bL bL_length bL_snoc
def tL (ss : List ByteArray) : List (List D) := ss.map fun s => [D.v (.string s)]
def unT (l : List (List D)) : List ByteArray := l.map fun
 | [.v (.string s)] => s
 | _ => ⟨#[]⟩
theorem unT_tL (ss : List ByteArray) : unT (tL ss) = ss := by simp [unT, tL, Function.comp_def]
theorem tL_length (ss : List ByteArray) : (tL ss).length = ss.length := by simp [tL]
theorem tL_snoc (ss : List ByteArray) (s : ByteArray) : tL ss ++ [[D.v (.string s)]] = tL (ss ++ [s]) := by simp [tL]
def WfL (l : List (List D)) : Prop := l = tL (unT l) ∧ l.length ≤ maxLen
theorem wfL_tL {ss : List ByteArray} : WfL (tL ss) ↔ ss.length ≤ maxLen := by simp [WfL, unT_tL, tL_length]
attribute [local go_sem] unB_bL bL_length bL_snoc unT_tL tL_length tL_snoc wfL_tL
theorem faL_len {x : Int} : (faL x).length ≤ 5 := by
 unfold faL
 split
 ·split
  ·decide
  ·rw [List.length_map]; exact memN_length
 ·simp
theorem fa_size {x : Int} : (fa x).size ≤ 5 := by unfold fa; rw [baOf_size]; exact faL_len
theorem empty_app {s : ByteArray} : (⟨#[]⟩ : ByteArray) ++ s = s := ba_ext (by rw [ba_app]; rfl)
theorem sp_size : ByteArray.size ⟨#[32]⟩ = 1 := rfl
theorem size_app {a b : ByteArray} : (a ++ b).size = a.size + b.size := by simp
def fdOK (q : Int × Int) : Bool := isAttr 5 q.1 && inB q.2 0 4
def fd (q : Int × Int) : ByteArray := if fdOK q then (fa q.1 ++ ⟨#[62]⟩) ++ fa (1 * 2 ^ q.2.toNat) else ⟨#[]⟩
def cFD : Contract := ⟨[], false, fun
 | [.agg [.v (.int .i64 a), .v (.int .i64 b)]] => some (True, [⟨false, [.d (.v (.string (fd (a, b))))]⟩], [])
 | _ => none⟩
theorem fa_nil {x : Int} : ((fa x).toList == ByteArray.toList ⟨#[]⟩) = !isAttr 5 x := by
 unfold fa
 rw [baOf_nil]
 unfold faL
 cases hv : isAttr 5 x
 ·rfl
 ·simp only [if_true, Bool.not_true]
  split
  ·rfl
  ·rename_i h
   rw [List.isEmpty_eq_false_iff, ne_eq, List.map_eq_nil_iff, memN_nil hv]
   exact h
theorem gt_size : ByteArray.size ⟨#[62]⟩ = 1 := rfl
theorem fdS_ok : ContractOK E0 35 cFD := by
 refine cWpc (E := E0) (T := mkT Tryz.prog [(34, cFA), (62, cL1In)] false (fun _ => false) true (fun _ => false)) (mkT_ok (E := E0) (.cons faS_ok (.cons l1In_ok .nil))) (fn := Tryz.f35) Tryz.func35 (by kernel_rfl) rfl mixedT (by kernel_rfl) rfl ?_
 intro args p rs ms hr
 unfold cFD at hr
 dsimp only at hr
 split at hr
 rotate_left
 ·cases hr
 rename_i a b
 simp only [Option.some.injEq, Prod.mk.injEq] at hr
 obtain ⟨rfl, rfl, rfl⟩ := hr
 refine ⟨rfl, rfl, Nat.le_of_ble_eq_true rfl, ?_⟩
 have hm : maxLen = 9223372036854775807 := rfl
 intro _ bs
 have s1 := @fa_size a
 have s2 := @fa_size (1 * 2 ^ b.toNat)
 cases h1 : isAttr 5 a
 ·have e : fd (a, b) = ⟨#[]⟩ := by simp [fd, fdOK, h1]
  rw [e]
  clear e s1 s2
  (repeat' first | refine gA fun _ => ?_ | refine fkI ?_ ?_ <;> intro hb <;> try simp only [ew, fa_nil] at hb | simp only [go_sem, simprocAttr, *, cFD, cFA, cL1In, Tryz.results35, fa_nil])
 ·cases h2 : inB b 0 4
  ·have e : fd (a, b) = ⟨#[]⟩ := by simp [fd, fdOK, h1, h2]
   rw [e]
   clear e s1 s2
   (repeat' first | refine gA fun _ => ?_ | refine fkI ?_ ?_ <;> intro hb <;> try simp only [ew, fa_nil] at hb | simp only [go_sem, simprocAttr, *, cFD, cFA, cL1In, Tryz.results35, fa_nil])
  ·have e : fd (a, b) = (fa a ++ ⟨#[62]⟩) ++ fa (1 * 2 ^ b.toNat) := by simp [fd, fdOK, h1, h2]
   rw [e]
   clear e
   have h3 := inB_iff.1 h2
   have h4 := pow5 (n := b) h3.1 (by omega)
   (repeat' first | refine gA fun _ => ?_ | refine fkI ?_ ?_ <;> intro hb <;> try simp only [ew, fa_nil, bits64, gt_size, size_app] at hb | simp only [go_sem, simprocAttr, *, cFD, cFA, cL1In, Tryz.results35, fa_nil, bits64, gt_size, size_app])
theorem fdI_ok : ContractOK E0 32 cFD := by
 refine cWpc (E := E0) (T := mkT Tryz.prog [(70, cValid), (31, cFA)] false (fun _ => false) true (fun _ => false)) (mkT_ok (E := E0) (.cons validI_ok (.cons faI_ok .nil))) (fn := Tryz.f32) Tryz.func32 (by kernel_rfl) rfl mixedT (by kernel_rfl) rfl ?_
 intro args p rs ms hr
 unfold cFD at hr
 dsimp only at hr
 split at hr
 rotate_left
 ·cases hr
 rename_i a b
 simp only [Option.some.injEq, Prod.mk.injEq] at hr
 obtain ⟨rfl, rfl, rfl⟩ := hr
 refine ⟨rfl, rfl, Nat.le_of_ble_eq_true rfl, ?_⟩
 have hm : maxLen = 9223372036854775807 := rfl
 intro _ bs
 have s1 := @fa_size a
 have s2 := @fa_size (1 * 2 ^ b.toNat)
 by_cases h : isAttr 5 a = true ∧ 0 ≤ b ∧ b ≤ 4
 ·obtain ⟨h1, h2, h3⟩ := h
  have e : fd (a, b) = (fa a ++ ⟨#[62]⟩) ++ fa (1 * 2 ^ b.toNat) := by simp [fd, fdOK, h1, inB_iff.2 ⟨h2, h3⟩]
  rw [e]
  clear e
  have h4 := pow5 (n := b) h2 (by omega)
  have e1 : decide (b < 0) = false := decide_eq_false (by omega)
  have e2 : decide (b ≥ 5) = false := decide_eq_false (by omega)
  (repeat' first | refine gA fun _ => ?_ | refine fkI ?_ ?_ <;> intro hb <;> try simp only [ew, bits64, gt_size, size_app] at hb | simp only [go_sem, simprocAttr, *, cFD, cValid, cFA, Tryz.results32, bits64, gt_size, size_app])
 ·have e : fd (a, b) = ⟨#[]⟩ := by
   unfold fd fdOK
   rw [if_neg]
   intro q
   simp only [Bool.and_eq_true, inB_iff] at q
   exact h ⟨q.1, q.2.1, q.2.2⟩
  have e0 : (!isAttr 5 a || decide (b < 0) || decide (b ≥ 5)) = true := by
   cases q : (!isAttr 5 a || decide (b < 0) || decide (b ≥ 5)) with
   | true => rfl
   | false =>
    simp only [Bool.or_eq_false_iff, Bool.not_eq_false', decide_eq_false_iff_not] at q
    exact absurd ⟨q.1.1, by omega, by omega⟩ h
  rw [e]
  clear e h s1 s2
  (repeat' first | refine gA fun _ => ?_ | refine fkI ?_ ?_ <;> intro hb <;> try simp only [ew, e0] at hb | simp only [go_sem, simprocAttr, *, cFD, cValid, cFA, Tryz.results32, e0])
end Go.Own
