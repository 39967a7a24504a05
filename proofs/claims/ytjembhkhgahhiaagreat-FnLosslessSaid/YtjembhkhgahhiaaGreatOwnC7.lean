import Derived.Test.YtjembhkhgahhiaaGreatOwnC6
import Derived.Test.YtjembhkhgahhiaaGreatOwnC4
set_option linter.unusedSimpArgs false
set_option linter.unusedVariables false
set_option maxRecDepth 20000
set_option maxHeartbeats 2000000
namespace Go.Own
open Go Go.Proofs
def partF (n x : Int) : Bool := isAttr n x && !(x == 0)
def orAll (acc : Int) : List Int → Int
 | [] => acc
 | x :: r => orAll (bitI .or .i64 acc x) r
def partsOK (n : Int) (ps : List Int) : Bool := ps.all (partF n) && (inB n 1 5 && inB ps.length 1 10 && (orAll 0 ps == all2 n))
def cParts : Contract := ⟨[], false, fun
 | [.one (.v (.int .i64 n)), .one (.sl 1 l)] => some (WfI l, [⟨false, [.d (.v (.bool (partsOK n (unI l))))]⟩], [])
 | _ => none⟩
theorem all_drop' {xs : List Int} {i : Nat} (h : i < xs.length) (f : Int → Bool) : (xs.drop i).all f = (f (xs.getD i 0) && (xs.drop (i + 1)).all f) := all_drop h 0 f
theorem partF_eq {n x : Int} : partF n x = !(!isAttr n x || x == 0) := by
 unfold partF; cases isAttr n x <;> cases (x == 0) <;> rfl
theorem partsS_ok : ContractOK E0 47 cParts := by
 refine cWpc (E := E0) (T := mkT Tryz.prog [(59, cIsAttr), (67, cL1In), (63, cAll2)] false (fun _ => false) true (fun _ => false)) (mkT_ok (E := E0) (.cons isAttrS_ok (.cons l1In_ok (.cons all2_ok .nil)))) (fn := Tryz.f47) Tryz.func47 (by kernel_rfl) rfl mixedT (by kernel_rfl) rfl ?_
 intro args p rs ms hr
 unfold cParts at hr
 dsimp only at hr
 split at hr
 rotate_left
 ·cases hr
 rename_i n l
 simp only [Option.some.injEq, Prod.mk.injEq] at hr
 obtain ⟨rfl, rfl, rfl⟩ := hr
 refine ⟨rfl, rfl, Nat.le_of_ble_eq_true rfl, ?_⟩
 have hm : maxLen = 9223372036854775807 := rfl
 intro h1 bs
 obtain ⟨ps, rfl, hx⟩ := h1.ex
 clear h1
 rw [unI_iL]
 (repeat' (first | (refine gA fun _ => ?_) | (refine fkI (fun hb => ?_) (fun hb => ?_) <;> (try simp only [ew] at hb)) | (simp only [go_sem, Nat.reduceLeDiff, Nat.reduceEqDiff, reduceIte, reduceCtorEq, Nat.reduceAdd, Nat.reduceMul, Nat.reduceSub, Nat.reduceLT, Int.reduceLT, Int.reduceLE, Int.reduceNeg, Int.reduceToNat, Nat.reduceBEq, Nat.reduceBNe, Int.reduceGE, Int.reduceGT, *, cParts, cIsAttr, cL1In, cAll2, Tryz.results47])))
 refine lpI { ι := Nat × Int, rs := [(4, 5), (7, 33)], mods := [(6, fun i => .one (.d (.v (.int .i64 i.1)))), (5, fun i => .one (.d (.v (.int .i64 i.2))))], boxes := [], arrs := [], ok := fun i => i.1 ≤ ps.length ∧ (ps.drop i.1).all (partF n) = ps.all (partF n) ∧ orAll i.2 (ps.drop i.1) = orAll 0 ps, mu := fun i => ps.length - i.1 } rfl (0, 0) ⟨Nat.zero_le _, rfl, rfl⟩ ?_ ?_
 ·(repeat' (first | (refine gA fun _ => ?_) | (refine fkI (fun hb => ?_) (fun hb => ?_) <;> (try simp only [ew] at hb)) | (simp only [go_sem, Nat.reduceLeDiff, Nat.reduceEqDiff, reduceIte, reduceCtorEq, Nat.reduceAdd, Nat.reduceMul, Nat.reduceSub, Nat.reduceLT, Int.reduceLT, Int.reduceLE, Int.reduceNeg, Int.reduceToNat, Nat.reduceBEq, Nat.reduceBNe, Int.reduceGE, Int.reduceGT, *, cParts, cIsAttr, cL1In, cAll2, Tryz.results47])))
 ·rintro ⟨i, x⟩ hi
  dsimp only at hi
  obtain ⟨hi, ht, ho⟩ := hi
  (repeat' (first | (refine gate_intro (by first | omega | (intro h; simp only [inB_iff, Bool.and_eq_true] at h; omega) | ((repeat' (first | apply And.intro | assumption | omega | intro _)); done) | (simp only [maxLen]; omega) | simp_all | (simp_all [maxLen]; omega)) fun _ => ?_) | (refine fkI (fun hb => ?_) (fun hb => ?_) <;> (try simp only [ew, bits64] at hb)) | (simp only [go_sem, Nat.reduceLeDiff, Nat.reduceEqDiff, reduceIte, reduceCtorEq, Nat.reduceAdd, Nat.reduceMul, Nat.reduceSub, Nat.reduceLT, Int.reduceLT, Int.reduceLE, Int.reduceNeg, Int.reduceToNat, Nat.reduceBEq, Nat.reduceBNe, Int.reduceGE, Int.reduceGT, *, cParts, cIsAttr, cL1In, cAll2, Tryz.results47, bits64])))
  ·have hb := ‹(!isAttr n (ps.getD i 0) || ps.getD i 0 == 0) = true›
   rw [partsOK, ← ht, all_drop' (by omega), partF_eq, hb]; rfl
  ·have hb := ‹(!isAttr n (ps.getD i 0) || ps.getD i 0 == 0) = false›
   rw [all_drop' (by omega), partF_eq, hb] at ht
   rw [drop_getD (by omega) 0, orAll] at ho
   refine lpN (i + 1, bitI .or .i64 x (ps.getD i 0)) ⟨by dsimp only; omega, ht, ho⟩ (by dsimp only; omega) ?_
   clear ht ho
   (repeat' (first | (refine gA fun _ => ?_) | (refine fkI (fun hb => ?_) (fun hb => ?_) <;> (try simp only [ew] at hb)) | (simp only [go_sem, Nat.reduceLeDiff, Nat.reduceEqDiff, reduceIte, reduceCtorEq, Nat.reduceAdd, Nat.reduceMul, Nat.reduceSub, Nat.reduceLT, Int.reduceLT, Int.reduceLE, Int.reduceNeg, Int.reduceToNat, Nat.reduceBEq, Nat.reduceBNe, Int.reduceGE, Int.reduceGT, *, cParts, cIsAttr, cL1In, cAll2, Tryz.results47])))
  ·rw [List.drop_of_length_le (by omega)] at ht ho
   rw [partsOK, ← ht, ← ho]; rfl
theorem partsI_ok : ContractOK E0 44 cParts := by
 refine cWpc (E := E0) (T := mkT Tryz.prog [(91, cIsAttr)] false (fun _ => false) true (fun _ => false)) (mkT_ok (E := E0) (.cons isAttrI_ok .nil)) (fn := Tryz.f44) Tryz.func44 (by kernel_rfl) rfl mixedT (by kernel_rfl) rfl ?_
 intro args p rs ms hr
 unfold cParts at hr
 dsimp only at hr
 split at hr
 rotate_left
 ·cases hr
 rename_i n l
 simp only [Option.some.injEq, Prod.mk.injEq] at hr
 obtain ⟨rfl, rfl, rfl⟩ := hr
 refine ⟨rfl, rfl, Nat.le_of_ble_eq_true rfl, ?_⟩
 have hm : maxLen = 9223372036854775807 := rfl
 intro h1 bs
 obtain ⟨ps, rfl, hx⟩ := h1.ex
 clear h1
 rw [unI_iL]
 by_cases hr : (1 ≤ n ∧ n ≤ 5) ∧ 1 ≤ ps.length ∧ ps.length ≤ 10
 ·obtain ⟨⟨r1, r2⟩, r3, r4⟩ := hr
  have hp := pow5 (n := n) (by omega) r2
  have b1 : decide (n < 1) = false := decide_eq_false (by omega)
  have b2 : decide (n > 5) = false := decide_eq_false (by omega)
  have b3 : decide ((ps.length : Int) < 1) = false := decide_eq_false (by omega)
  have b4 : decide ((ps.length : Int) > 10) = false := decide_eq_false (by omega)
  have b5 : inB n 1 5 = true := inB_iff.2 ⟨r1, r2⟩
  have b6 : inB ps.length 1 10 = true := inB_iff.2 ⟨by omega, by omega⟩
  have e0 : partsOK n ps = (ps.all (partF n) && (orAll 0 ps == all2 n)) := by rw [partsOK, b5, b6]; rfl
  rw [e0]
  clear e0 b5 b6
  (repeat' (first | (refine gA fun _ => ?_) | (refine fkI (fun hb => ?_) (fun hb => ?_) <;> (try simp only [ew] at hb)) | (simp only [go_sem, Nat.reduceLeDiff, Nat.reduceEqDiff, reduceIte, reduceCtorEq, Nat.reduceAdd, Nat.reduceMul, Nat.reduceSub, Nat.reduceLT, Int.reduceLT, Int.reduceLE, Int.reduceNeg, Int.reduceToNat, Nat.reduceBEq, Nat.reduceBNe, Int.reduceGE, Int.reduceGT, *, cParts, cIsAttr, Tryz.results44])))
  clear b1 b2 b3 b4
  refine lpI { ι := Nat × Int, rs := [(4, 5), (7, 8), (27, 42)], mods := [(26, fun i => .one (.d (.v (.int .i64 i.1)))), (5, fun i => .one (.d (.v (.int .i64 i.2))))], boxes := [], arrs := [], ok := fun i => i.1 ≤ ps.length ∧ (ps.drop i.1).all (partF n) = ps.all (partF n) ∧ orAll i.2 (ps.drop i.1) = orAll 0 ps, mu := fun i => ps.length - i.1 } rfl (0, 0) ⟨Nat.zero_le _, rfl, rfl⟩ ?_ ?_
  ·(repeat' (first | (refine gA fun _ => ?_) | (refine fkI (fun hb => ?_) (fun hb => ?_) <;> (try simp only [ew] at hb)) | (simp only [go_sem, Nat.reduceLeDiff, Nat.reduceEqDiff, reduceIte, reduceCtorEq, Nat.reduceAdd, Nat.reduceMul, Nat.reduceSub, Nat.reduceLT, Int.reduceLT, Int.reduceLE, Int.reduceNeg, Int.reduceToNat, Nat.reduceBEq, Nat.reduceBNe, Int.reduceGE, Int.reduceGT, *, cParts, cIsAttr, Tryz.results44])))
  ·rintro ⟨i, x⟩ hi
   dsimp only at hi
   obtain ⟨hi, ht, ho⟩ := hi
   (repeat' (first | (refine gA fun _ => ?_) | (refine fkI (fun hb => ?_) (fun hb => ?_) <;> (try simp only [ew, bits64] at hb)) | (simp only [go_sem, Nat.reduceLeDiff, Nat.reduceEqDiff, reduceIte, reduceCtorEq, Nat.reduceAdd, Nat.reduceMul, Nat.reduceSub, Nat.reduceLT, Int.reduceLT, Int.reduceLE, Int.reduceNeg, Int.reduceToNat, Nat.reduceBEq, Nat.reduceBNe, Int.reduceGE, Int.reduceGT, *, cParts, cIsAttr, Tryz.results44, bits64])))
   ·have hb := ‹(ps.getD i 0 == 0 || !isAttr n (ps.getD i 0)) = true›
    rw [← ht, all_drop' (by omega), partF_eq, Bool.or_comm, hb]; rfl
   ·have hb := ‹(ps.getD i 0 == 0 || !isAttr n (ps.getD i 0)) = false›
    rw [all_drop' (by omega), partF_eq, Bool.or_comm, hb] at ht
    rw [drop_getD (by omega) 0, orAll] at ho
    refine lpN (i + 1, bitI .or .i64 x (ps.getD i 0)) ⟨by dsimp only; omega, ht, ho⟩ (by dsimp only; omega) ?_
    clear ht ho
    (repeat' (first | (refine gA fun _ => ?_) | (refine fkI (fun hb => ?_) (fun hb => ?_) <;> (try simp only [ew] at hb)) | (simp only [go_sem, Nat.reduceLeDiff, Nat.reduceEqDiff, reduceIte, reduceCtorEq, Nat.reduceAdd, Nat.reduceMul, Nat.reduceSub, Nat.reduceLT, Int.reduceLT, Int.reduceLE, Int.reduceNeg, Int.reduceToNat, Nat.reduceBEq, Nat.reduceBNe, Int.reduceGE, Int.reduceGT, *, cParts, cIsAttr, Tryz.results44])))
   ·rw [List.drop_of_length_le (by omega)] at ht ho
    rw [← ht, ← ho]; rfl
 ·have e0 : partsOK n ps = false := by
   cases h : partsOK n ps with
   | false => rfl
   | true =>
    simp only [partsOK, Bool.and_eq_true, inB_iff] at h
    exact absurd ⟨h.2.1.1, by omega⟩ hr
  have e1 : (decide (n < 1) || decide (n > 5) || decide ((ps.length : Int) < 1) || decide ((ps.length : Int) > 10)) = true := by
   cases h : (decide (n < 1) || decide (n > 5) || decide ((ps.length : Int) < 1) || decide ((ps.length : Int) > 10)) with
   | true => rfl
   | false =>
    simp only [Bool.or_eq_false_iff, decide_eq_false_iff_not] at h
    exact absurd ⟨⟨by omega, by omega⟩, by omega, by omega⟩ hr
  rw [e0]
  clear e0 hr
  (repeat' (first | (refine gA fun _ => ?_) | (refine fkI (fun hb => ?_) (fun hb => ?_) <;> (try simp only [ew, e1] at hb)) | (simp only [go_sem, Nat.reduceLeDiff, Nat.reduceEqDiff, reduceIte, reduceCtorEq, Nat.reduceAdd, Nat.reduceMul, Nat.reduceSub, Nat.reduceLT, Int.reduceLT, Int.reduceLE, Int.reduceNeg, Int.reduceToNat, Nat.reduceBEq, Nat.reduceBNe, Int.reduceGE, Int.reduceGT, *, cParts, cIsAttr, Tryz.results44, e1])))
def csRow (n : Nat) (x v : Int) : List Int := (List.range n).map fun c => if hasB x (c : Nat) then 0 else v
def cRowFor : Contract := ⟨[], false, fun
 | [.one (.v (.int .i64 n)), .one (.v (.int .i64 x)), .one (.v (.int .i64 v))] => some (0 ≤ n ∧ n ≤ 5, [⟨false, [.own 1 (iL (csRow n.toNat x v)) 1]⟩], [])
 | _ => none⟩
theorem csRow_length {n : Nat} {x v : Int} : (csRow n x v).length = n := by simp [csRow]
theorem csRow_succ {n : Nat} {x v : Int} : csRow (n + 1) x v = csRow n x v ++ [if hasB x (n : Nat) then 0 else v] := by simp [csRow, List.range_succ]
theorem rowFor_ok : ContractOK E0 76 cRowFor := by
 refine cWpc (E := E0) (T := mkT Tryz.prog [(107, cHasB)] false (fun _ => false) true (fun _ => false)) (mkT_ok (E := E0) (.cons hasB_ok .nil)) (fn := Tryz.f76) Tryz.func76 (by kernel_rfl) rfl mixedT (by kernel_rfl) rfl ?_
 intro args p rs ms hr
 unfold cRowFor at hr
 dsimp only at hr
 split at hr
 rotate_left
 ·cases hr
 rename_i n x v
 simp only [Option.some.injEq, Prod.mk.injEq] at hr
 obtain ⟨rfl, rfl, rfl⟩ := hr
 refine ⟨rfl, rfl, Nat.le_of_ble_eq_true rfl, ?_⟩
 have hm : maxLen = 9223372036854775807 := rfl
 rintro ⟨h0, h5⟩ bs
 obtain ⟨n, rfl⟩ := Int.eq_ofNat_of_zero_le h0
 rw [Int.toNat_natCast]
 (repeat' (first | (refine gA fun _ => ?_) | (refine fkI (fun hb => ?_) (fun hb => ?_) <;> (try simp only [ew] at hb)) | (simp only [go_sem, Nat.reduceLeDiff, Nat.reduceEqDiff, reduceIte, reduceCtorEq, Nat.reduceAdd, Nat.reduceMul, Nat.reduceSub, Nat.reduceLT, Int.reduceLT, Int.reduceLE, Int.reduceNeg, Int.reduceToNat, Nat.reduceBEq, Nat.reduceBNe, Int.reduceGE, Int.reduceGT, *, cRowFor, cHasB, Tryz.results76])))
 refine lpI { ι := Nat, rs := [(8, 9), (14, 25)], mods := [(13, fun i => .one (.d (.v (.int .i64 i))))], boxes := [], arrs := [(7, fun i => (1, iL (csRow i x v ++ List.replicate (n - i) 0), 1))], ok := fun i => i ≤ n, mu := fun i => n - i } rfl 0 (Nat.zero_le _) ?_ fun i hi => ?_
 ·(repeat' (first | (refine gA fun _ => ?_) | (refine fkI (fun hb => ?_) (fun hb => ?_) <;> (try simp only [ew] at hb)) | (simp only [go_sem, Nat.reduceLeDiff, Nat.reduceEqDiff, reduceIte, reduceCtorEq, Nat.reduceAdd, Nat.reduceMul, Nat.reduceSub, Nat.reduceLT, Int.reduceLT, Int.reduceLE, Int.reduceNeg, Int.reduceToNat, Nat.reduceBEq, Nat.reduceBNe, Int.reduceGE, Int.reduceGT, *, cRowFor, cHasB, Tryz.results76])))
  simp [iL, csRow]
 ·dsimp only at i hi
  (repeat' (first | (refine gA fun _ => ?_) | (refine fkI (fun hb => ?_) (fun hb => ?_) <;> (try simp only [ew, csRow_length] at hb)) | (simp only [go_sem, Nat.reduceLeDiff, Nat.reduceEqDiff, reduceIte, reduceCtorEq, Nat.reduceAdd, Nat.reduceMul, Nat.reduceSub, Nat.reduceLT, Int.reduceLT, Int.reduceLE, Int.reduceNeg, Int.reduceToNat, Nat.reduceBEq, Nat.reduceBNe, Int.reduceGE, Int.reduceGT, *, cRowFor, cHasB, Tryz.results76, csRow_length])))
  ·have hb := ‹hasB x (i : Nat) = false›
   have e : (csRow i x v ++ List.replicate (n - i) 0).set i v = csRow (i + 1) x v ++ List.replicate (n - (i + 1)) 0 := by
    rw [List.set_append_right _ _ (by rw [csRow_length]; omega), csRow_length, Nat.sub_self, show n - i = n - (i + 1) + 1 by omega, List.replicate_succ, List.set_cons_zero, csRow_succ, hb]
    simp
   refine lpN (i + 1) (by dsimp only; omega) (by dsimp only; omega) ?_
   (repeat' (first | (refine gA fun _ => ?_) | (refine fkI (fun hb => ?_) (fun hb => ?_) <;> (try simp only [ew, e] at hb)) | (simp only [go_sem, Nat.reduceLeDiff, Nat.reduceEqDiff, reduceIte, reduceCtorEq, Nat.reduceAdd, Nat.reduceMul, Nat.reduceSub, Nat.reduceLT, Int.reduceLT, Int.reduceLE, Int.reduceNeg, Int.reduceToNat, Nat.reduceBEq, Nat.reduceBNe, Int.reduceGE, Int.reduceGT, *, cRowFor, cHasB, Tryz.results76, e])))
  ·have hb := ‹hasB x (i : Nat) = true›
   have e : csRow i x v ++ List.replicate (n - i) 0 = csRow (i + 1) x v ++ List.replicate (n - (i + 1)) 0 := by
    rw [csRow_succ, hb, show n - i = n - (i + 1) + 1 by omega, List.replicate_succ]; simp
   refine lpN (i + 1) (by dsimp only; omega) (by dsimp only; omega) ?_
   (repeat' (first | (refine gA fun _ => ?_) | (refine fkI (fun hb => ?_) (fun hb => ?_) <;> (try simp only [ew, e] at hb)) | (simp only [go_sem, Nat.reduceLeDiff, Nat.reduceEqDiff, reduceIte, reduceCtorEq, Nat.reduceAdd, Nat.reduceMul, Nat.reduceSub, Nat.reduceLT, Int.reduceLT, Int.reduceLE, Int.reduceNeg, Int.reduceToNat, Nat.reduceBEq, Nat.reduceBNe, Int.reduceGE, Int.reduceGT, *, cRowFor, cHasB, Tryz.results76, e])))
  ·have e : i = n := by omega
   subst e
   simp
def csGo (n : Nat) : List Int → Int → List (List Int)
 | [], _ => []
 | x :: r, i => csRow n x (i + 1) :: csGo n r (i + 1)
def csF (n : Int) (ps : List Int) : List (List Int) := if partsOK n ps then csGo n.toNat ps 0 else []
theorem csGo_snoc : ∀ {n : Nat} {ps : List Int} {x i : Int}, csGo n (ps ++ [x]) i = csGo n ps i ++ [csRow n x (i + ps.length + 1)]
 | n, [], x, i => by simp [csGo]
 | n, y :: ps, x, i => by
  simp only [List.cons_append, csGo, csGo_snoc, List.length_cons]
  rw [show i + 1 + (ps.length : Int) + 1 = i + ((ps.length + 1 : Nat) : Int) + 1 by omega]
theorem csGo_length : ∀ {n : Nat} {ps : List Int} {i : Int}, (csGo n ps i).length = ps.length
 | _, [], _ => rfl
 | n, x :: ps, i => by simp [csGo, csGo_length]
theorem csGo_take {n : Nat} {ps : List Int} {i : Nat} (h : i < ps.length) : csGo n (ps.take (i + 1)) 0 = csGo n (ps.take i) 0 ++ [csRow n (ps.getD i 0) ((i : Int) + 1)] := by
 rw [take_succ_getD h 0, csGo_snoc]
 have : (ps.take i).length = i := by rw [List.length_take]; omega
 rw [this, Int.zero_add]
theorem csGo_lens : ∀ {n : Nat} {ps : List Int} {i : Int}, ∀ r ∈ csGo n ps i, r.length = n
 | _, [], _, r, h => by cases h
 | n, x :: ps, i, r, h => by
  rcases List.mem_cons.1 h with rfl | h
  ·exact csRow_length
  ·exact csGo_lens r h
theorem sL_snoc' {rs : List (List Int)} {r : List Int} : sL rs ++ [[D.sl 1 (iL r)]] = sL (rs ++ [r]) := by simp [sL]
theorem parts_facts {n : Int} {ps : List Int} (h : partsOK n ps = true) : 1 ≤ n ∧ n ≤ 5 ∧ 1 ≤ ps.length ∧ ps.length ≤ 10 := by
 simp only [partsOK, Bool.and_eq_true, inB_iff] at h
 omega
def cCS : Contract := ⟨[], false, fun
 | [.one (.v (.int .i64 n)), .one (.sl 1 l)] => some (WfI l, [⟨false, [.own 1 (sL (csF n (unI l))) 1]⟩], [])
 | _ => none⟩
theorem csI_ok : ContractOK E0 23 cCS := by
 refine cWpc (E := E0) (T := mkT Tryz.prog [(44, cParts), (76, cRowFor)] false (fun _ => false) true (fun _ => false)) (mkT_ok (E := E0) (.cons partsI_ok (.cons rowFor_ok .nil))) (fn := Tryz.f23) Tryz.func23 (by kernel_rfl) rfl mixedT (by kernel_rfl) rfl ?_
 intro args p rs ms hr
 unfold cCS at hr
 dsimp only at hr
 split at hr
 rotate_left
 ·cases hr
 rename_i n l
 simp only [Option.some.injEq, Prod.mk.injEq] at hr
 obtain ⟨rfl, rfl, rfl⟩ := hr
 refine ⟨rfl, rfl, Nat.le_of_ble_eq_true rfl, ?_⟩
 have hm : maxLen = 9223372036854775807 := rfl
 intro h1 bs
 obtain ⟨ps, rfl, hx⟩ := h1.ex
 clear h1
 rw [unI_iL]
 unfold csF
 cases hp : partsOK n ps
 ·(repeat' (first | (refine gA fun _ => ?_) | (refine fkI (fun hb => ?_) (fun hb => ?_) <;> (try simp only [ew] at hb)) | (simp only [go_sem, Nat.reduceLeDiff, Nat.reduceEqDiff, reduceIte, reduceCtorEq, Nat.reduceAdd, Nat.reduceMul, Nat.reduceSub, Nat.reduceLT, Int.reduceLT, Int.reduceLE, Int.reduceNeg, Int.reduceToNat, Nat.reduceBEq, Nat.reduceBNe, Int.reduceGE, Int.reduceGT, *, cCS, cParts, cRowFor, Tryz.results23])))
  all_goals first | rfl | skip
 ·obtain ⟨f1, f2, f3, f4⟩ := parts_facts hp
  simp only [if_true]
  (repeat' (first | (refine gA fun _ => ?_) | (refine fkI (fun hb => ?_) (fun hb => ?_) <;> (try simp only [ew] at hb)) | (simp only [go_sem, Nat.reduceLeDiff, Nat.reduceEqDiff, reduceIte, reduceCtorEq, Nat.reduceAdd, Nat.reduceMul, Nat.reduceSub, Nat.reduceLT, Int.reduceLT, Int.reduceLE, Int.reduceNeg, Int.reduceToNat, Nat.reduceBEq, Nat.reduceBNe, Int.reduceGE, Int.reduceGT, *, cCS, cParts, cRowFor, Tryz.results23])))
  refine lpI { ι := Nat, rs := [(6, 8), (17, 30)], mods := [(16, fun i => .one (.d (.v (.int .i64 i)))), (5, fun i => .one (.own 1 (sL (csGo n.toNat (ps.take i) 0)) 1))], boxes := [], arrs := [], ok := fun i => i ≤ ps.length, mu := fun i => ps.length - i } rfl 0 (Nat.zero_le _) ?_ fun i hi => ?_
  ·(repeat' (first | (refine gA fun _ => ?_) | (refine fkI (fun hb => ?_) (fun hb => ?_) <;> (try simp only [ew] at hb)) | (simp only [go_sem, Nat.reduceLeDiff, Nat.reduceEqDiff, reduceIte, reduceCtorEq, Nat.reduceAdd, Nat.reduceMul, Nat.reduceSub, Nat.reduceLT, Int.reduceLT, Int.reduceLE, Int.reduceNeg, Int.reduceToNat, Nat.reduceBEq, Nat.reduceBNe, Int.reduceGE, Int.reduceGT, *, cCS, cParts, cRowFor, Tryz.results23])))
   all_goals first | rfl | skip
  ·dsimp only at i hi
   (repeat' (first | (refine gA fun _ => ?_) | (refine fkI (fun hb => ?_) (fun hb => ?_) <;> (try simp only [ew, csGo_length, sL_snoc'] at hb)) | (simp only [go_sem, Nat.reduceLeDiff, Nat.reduceEqDiff, reduceIte, reduceCtorEq, Nat.reduceAdd, Nat.reduceMul, Nat.reduceSub, Nat.reduceLT, Int.reduceLT, Int.reduceLE, Int.reduceNeg, Int.reduceToNat, Nat.reduceBEq, Nat.reduceBNe, Int.reduceGE, Int.reduceGT, *, cCS, cParts, cRowFor, Tryz.results23, csGo_length, sL_snoc'])))
   ·have hi' := ‹i < ps.length›
    have e := csGo_take (n := n.toNat) hi'
    refine lpN (i + 1) (by dsimp only; omega) (by dsimp only; omega) ?_
    (repeat' (first | (refine gA fun _ => ?_) | (refine fkI (fun hb => ?_) (fun hb => ?_) <;> (try simp only [ew, csGo_length, sL_snoc', e] at hb)) | (simp only [go_sem, Nat.reduceLeDiff, Nat.reduceEqDiff, reduceIte, reduceCtorEq, Nat.reduceAdd, Nat.reduceMul, Nat.reduceSub, Nat.reduceLT, Int.reduceLT, Int.reduceLE, Int.reduceNeg, Int.reduceToNat, Nat.reduceBEq, Nat.reduceBNe, Int.reduceGE, Int.reduceGT, *, cCS, cParts, cRowFor, Tryz.results23, csGo_length, sL_snoc', e])))
   ·rw [List.take_of_length_le (by omega)]
theorem csS_ok : ContractOK E0 24 cCS := by
 refine cWpc (E := E0) (T := mkT Tryz.prog [(47, cParts)] false (fun _ => false) true (fun _ => false)) (mkT_ok (E := E0) (.cons partsS_ok .nil)) (fn := Tryz.f24) Tryz.func24 (by kernel_rfl) rfl mixedT (by kernel_rfl) rfl ?_
 intro args p rs ms hr
 unfold cCS at hr
 dsimp only at hr
 split at hr
 rotate_left
 ·cases hr
 rename_i n l
 simp only [Option.some.injEq, Prod.mk.injEq] at hr
 obtain ⟨rfl, rfl, rfl⟩ := hr
 refine ⟨rfl, rfl, Nat.le_of_ble_eq_true rfl, ?_⟩
 have hm : maxLen = 9223372036854775807 := rfl
 intro h1 bs
 obtain ⟨ps, rfl, hx⟩ := h1.ex
 clear h1
 rw [unI_iL]
 unfold csF
 cases hp : partsOK n ps
 ·(repeat' (first | (refine gA fun _ => ?_) | (refine fkI (fun hb => ?_) (fun hb => ?_) <;> (try simp only [ew] at hb)) | (simp only [go_sem, Nat.reduceLeDiff, Nat.reduceEqDiff, reduceIte, reduceCtorEq, Nat.reduceAdd, Nat.reduceMul, Nat.reduceSub, Nat.reduceLT, Int.reduceLT, Int.reduceLE, Int.reduceNeg, Int.reduceToNat, Nat.reduceBEq, Nat.reduceBNe, Int.reduceGE, Int.reduceGT, *, cCS, cParts, Tryz.results24])))
  refine lpI { ι := Unit, rs := [(7, 9), (10, 47)], mods := [(6, fun _ => .one (.d (.v (.int .i64 0)))), (5, fun _ => .one (.own 1 [] 1))], boxes := [], arrs := [], ok := fun _ => True, mu := fun i => 0 } rfl () trivial ?_ fun i hi => ?_
  ·(repeat' (first | (refine gA fun _ => ?_) | (refine fkI (fun hb => ?_) (fun hb => ?_) <;> (try simp only [ew] at hb)) | (simp only [go_sem, Nat.reduceLeDiff, Nat.reduceEqDiff, reduceIte, reduceCtorEq, Nat.reduceAdd, Nat.reduceMul, Nat.reduceSub, Nat.reduceLT, Int.reduceLT, Int.reduceLE, Int.reduceNeg, Int.reduceToNat, Nat.reduceBEq, Nat.reduceBNe, Int.reduceGE, Int.reduceGT, *, cCS, cParts, Tryz.results24])))
  ·dsimp only at i hi
   (repeat' (first | (refine gA fun _ => ?_) | (refine fkI (fun hb => ?_) (fun hb => ?_) <;> (try simp only [ew] at hb)) | (simp only [go_sem, Nat.reduceLeDiff, Nat.reduceEqDiff, reduceIte, reduceCtorEq, Nat.reduceAdd, Nat.reduceMul, Nat.reduceSub, Nat.reduceLT, Int.reduceLT, Int.reduceLE, Int.reduceNeg, Int.reduceToNat, Nat.reduceBEq, Nat.reduceBNe, Int.reduceGE, Int.reduceGT, *, cCS, cParts, Tryz.results24])))
   rfl
 ·obtain ⟨f1, f2, f3, f4⟩ := parts_facts hp
  obtain ⟨n, rfl⟩ := Int.eq_ofNat_of_zero_le (show 0 ≤ n by omega)
  simp only [if_true, Int.toNat_natCast]
  (repeat' (first | (refine gA fun _ => ?_) | (refine fkI (fun hb => ?_) (fun hb => ?_) <;> (try simp only [ew] at hb)) | (simp only [go_sem, Nat.reduceLeDiff, Nat.reduceEqDiff, reduceIte, reduceCtorEq, Nat.reduceAdd, Nat.reduceMul, Nat.reduceSub, Nat.reduceLT, Int.reduceLT, Int.reduceLE, Int.reduceNeg, Int.reduceToNat, Nat.reduceBEq, Nat.reduceBNe, Int.reduceGE, Int.reduceGT, *, cCS, cParts, Tryz.results24])))
  refine lpI { ι := Nat, rs := [(7, 9), (10, 47)], mods := [(6, fun i => .one (.d (.v (.int .i64 i)))), (5, fun i => .one (.own 1 (sL (csGo n (ps.take i) 0)) 1))], boxes := [], arrs := [], ok := fun i => i ≤ ps.length, mu := fun i => ps.length - i } rfl 0 (Nat.zero_le _) ?_ fun i hi => ?_
  ·(repeat' (first | (refine gA fun _ => ?_) | (refine fkI (fun hb => ?_) (fun hb => ?_) <;> (try simp only [ew] at hb)) | (simp only [go_sem, Nat.reduceLeDiff, Nat.reduceEqDiff, reduceIte, reduceCtorEq, Nat.reduceAdd, Nat.reduceMul, Nat.reduceSub, Nat.reduceLT, Int.reduceLT, Int.reduceLE, Int.reduceNeg, Int.reduceToNat, Nat.reduceBEq, Nat.reduceBNe, Int.reduceGE, Int.reduceGT, *, cCS, cParts, Tryz.results24])))
   all_goals first | rfl | skip
  ·dsimp only at i hi
   (repeat' (first | (refine gA fun _ => ?_) | (refine fkI (fun hb => ?_) (fun hb => ?_) <;> (try simp only [ew, csGo_length, sL_snoc'] at hb)) | (simp only [go_sem, Nat.reduceLeDiff, Nat.reduceEqDiff, reduceIte, reduceCtorEq, Nat.reduceAdd, Nat.reduceMul, Nat.reduceSub, Nat.reduceLT, Int.reduceLT, Int.reduceLE, Int.reduceNeg, Int.reduceToNat, Nat.reduceBEq, Nat.reduceBNe, Int.reduceGE, Int.reduceGT, *, cCS, cParts, Tryz.results24, csGo_length, sL_snoc'])))
   ·have hi' := ‹i < ps.length›
    refine lpI { ι := Nat, rs := [(22, 43)], mods := [(8, fun k => .one (.d (.v (.int .i64 k)))), (7, fun k => .one (.own 1 (iL (csRow k (ps.getD i 0) (i + 1))) 1))], boxes := [], arrs := [(5, fun _ => (1, sL (csGo n (ps.take i) 0), 1))], ok := fun k => k ≤ n, mu := fun k => n - k } rfl 0 (Nat.zero_le _) ?_ fun k hk => ?_
    ·(repeat' (first | (refine gA fun _ => ?_) | (refine fkI (fun hb => ?_) (fun hb => ?_) <;> (try simp only [ew] at hb)) | (simp only [go_sem, Nat.reduceLeDiff, Nat.reduceEqDiff, reduceIte, reduceCtorEq, Nat.reduceAdd, Nat.reduceMul, Nat.reduceSub, Nat.reduceLT, Int.reduceLT, Int.reduceLE, Int.reduceNeg, Int.reduceToNat, Nat.reduceBEq, Nat.reduceBNe, Int.reduceGE, Int.reduceGT, *, cCS, cParts, Tryz.results24])))
     all_goals first | rfl | skip
    ·dsimp only at k hk
     (repeat' (first | (refine gA fun _ => ?_) | (refine fkI (fun hb => ?_) (fun hb => ?_) <;> (try simp only [ew, csRow_length, csGo_length, sL_snoc', bits64] at hb)) | (simp only [go_sem, Nat.reduceLeDiff, Nat.reduceEqDiff, reduceIte, reduceCtorEq, Nat.reduceAdd, Nat.reduceMul, Nat.reduceSub, Nat.reduceLT, Int.reduceLT, Int.reduceLE, Int.reduceNeg, Int.reduceToNat, Nat.reduceBEq, Nat.reduceBNe, Int.reduceGE, Int.reduceGT, *, cCS, cParts, Tryz.results24, csRow_length, csGo_length, sL_snoc', bits64])))
     ·have hb := ‹bitI BinOp.and IntKind.i64 ((ps.getD i 0).fdiv (2 ^ k)) 1 = 1›
      have hh : hasB (ps.getD i 0) (k : Nat) = true := by unfold hasB; rw [Int.toNat_natCast, hb]; rfl
      refine lpN (k + 1) (by dsimp only; omega) (by dsimp only; omega) ?_
      have e : iL (csRow k (ps.getD i 0) (i + 1)) ++ [[D.v (.int .i64 0)]] = iL (csRow (k + 1) (ps.getD i 0) (i + 1)) := by rw [csRow_succ, hh]; simp [iL]
      clear hh hb
      (repeat' (first | (refine gA fun _ => ?_) | (refine fkI (fun hb => ?_) (fun hb => ?_) <;> (try simp only [ew, csRow_length, csGo_length, e] at hb)) | (simp only [go_sem, Nat.reduceLeDiff, Nat.reduceEqDiff, reduceIte, reduceCtorEq, Nat.reduceAdd, Nat.reduceMul, Nat.reduceSub, Nat.reduceLT, Int.reduceLT, Int.reduceLE, Int.reduceNeg, Int.reduceToNat, Nat.reduceBEq, Nat.reduceBNe, Int.reduceGE, Int.reduceGT, *, cCS, cParts, Tryz.results24, csRow_length, csGo_length, e])))
     ·have hb := ‹¬bitI BinOp.and IntKind.i64 ((ps.getD i 0).fdiv (2 ^ k)) 1 = 1›
      have hh : hasB (ps.getD i 0) (k : Nat) = false := by unfold hasB; rw [Int.toNat_natCast]; exact beq_false_of_ne hb
      refine lpN (k + 1) (by dsimp only; omega) (by dsimp only; omega) ?_
      have e : iL (csRow k (ps.getD i 0) (i + 1)) ++ [[D.v (.int .i64 ((i : Int) + 1))]] = iL (csRow (k + 1) (ps.getD i 0) (i + 1)) := by rw [csRow_succ, hh]; simp [iL]
      clear hh hb
      (repeat' (first | (refine gA fun _ => ?_) | (refine fkI (fun hb => ?_) (fun hb => ?_) <;> (try simp only [ew, csRow_length, csGo_length, e] at hb)) | (simp only [go_sem, Nat.reduceLeDiff, Nat.reduceEqDiff, reduceIte, reduceCtorEq, Nat.reduceAdd, Nat.reduceMul, Nat.reduceSub, Nat.reduceLT, Int.reduceLT, Int.reduceLE, Int.reduceNeg, Int.reduceToNat, Nat.reduceBEq, Nat.reduceBNe, Int.reduceGE, Int.reduceGT, *, cCS, cParts, Tryz.results24, csRow_length, csGo_length, e])))
     ·have ek : k = n := by omega
      subst ek
      have e := csGo_take (n := k) hi'
      refine lpN (i + 1) (by dsimp only; omega) (by dsimp only; omega) ?_
      (repeat' (first | (refine gA fun _ => ?_) | (refine fkI (fun hb => ?_) (fun hb => ?_) <;> (try simp only [ew, csGo_length, sL_snoc', e] at hb)) | (simp only [go_sem, Nat.reduceLeDiff, Nat.reduceEqDiff, reduceIte, reduceCtorEq, Nat.reduceAdd, Nat.reduceMul, Nat.reduceSub, Nat.reduceLT, Int.reduceLT, Int.reduceLE, Int.reduceNeg, Int.reduceToNat, Nat.reduceBEq, Nat.reduceBNe, Int.reduceGE, Int.reduceGT, *, cCS, cParts, Tryz.results24, csGo_length, sL_snoc', e])))
   ·rw [List.take_of_length_le (by omega)]
theorem tot_le : ∀ {rs : List (List Int)} {B : Nat}, (∀ r ∈ rs, r.length ≤ B) → tot rs ≤ rs.length * B
 | [], _, _ => by simp [tot]
 | r :: rs, B, h => by
  have h1 := h r (by simp)
  have h2 := tot_le (rs := rs) fun r hr => h r (by simp [hr])
  simp only [tot, List.length_cons]
  have h3 : (((rs.length + 1 : Nat) : Int)) * B = (rs.length : Int) * B + B := by rw [Int.natCast_add, Int.add_mul]; simp
  rw [h3]; omega
theorem csF_facts {n : Int} {ps : List Int} : (csF n ps).length ≤ 10 ∧ (∀ r ∈ csF n ps, r.length ≤ 5) ∧ tot (csF n ps) ≤ 50 := by
 have h1 : (csF n ps).length ≤ 10 ∧ ∀ r ∈ csF n ps, r.length ≤ 5 := by
  unfold csF
  split
  ·obtain ⟨f1, f2, f3, f4⟩ := parts_facts ‹_›
   refine ⟨by rw [csGo_length]; omega, fun r hr => ?_⟩
   rw [csGo_lens r hr]; omega
  ·simp
 refine ⟨h1.1, h1.2, ?_⟩
 have := tot_le (B := 5) h1.2
 have h2 : ((csF n ps).length : Int) * ((5 : Nat) : Int) ≤ 50 := by omega
 omega
end Go.Own
