import Derived.Test.YtlliofolbiebmaaGreatOwnG4
import Derived.Test.YtlliofolbiebmaaGreatOwnY5
set_option linter.unusedSimpArgs false
set_option linter.unusedVariables false
set_option maxRecDepth 20000
set_option maxHeartbeats 2000000
namespace Go.Own
open Go Go.Proofs
def cnt (x : Int) : Nat := (mem x).length
def pbsA (s : Nat) : Nat → List Int
 | 0 => []
 | x + 1 => pbsA s x ++ (if cnt (x : Nat) = s then [(x : Int)] else [])
def pbsO (M : Nat) : Nat → List Int
 | 0 => []
 | s + 1 => pbsO M s ++ pbsA s M
def pbs (n : Nat) : List Int := pbsO (2 ^ n) (n + 1)
def pbsI (n : Int) : List Int := if inB n 0 5 then pbs n.toNat else []
theorem pbsA_length {s : Nat} : ∀ {x : Nat}, (pbsA s x).length ≤ x
 | 0 => Nat.le_refl _
 | x + 1 => by
  have := @pbsA_length s x
  rw [pbsA, List.length_append]
  split <;> simp <;> omega
theorem pbsO_length {M : Nat} : ∀ {s : Nat}, (pbsO M s).length ≤ s * M
 | 0 => Nat.zero_le _
 | s + 1 => by
  have h1 := @pbsO_length M s
  have h2 := @pbsA_length s M
  rw [pbsO, List.length_append, Nat.succ_mul]; omega
theorem pbs_key : ∀ n : Fin 6, (pbs n.val).length = 2 ^ n.val ∧ ∀ x ∈ pbs n.val, 0 ≤ x ∧ x < 2 ^ n.val := by decide +kernel
theorem pbsI_facts {n : Int} : (pbsI n).length ≤ 32 ∧ (∀ x ∈ pbsI n, 0 ≤ x ∧ x ≤ 31) ∧ ∀ i, i < (pbsI n).length → 0 ≤ (pbsI n).getD i 0 ∧ (pbsI n).getD i 0 ≤ 31 := by
 have h : (pbsI n).length ≤ 32 ∧ ∀ x ∈ pbsI n, 0 ≤ x ∧ x ≤ 31 := by
  unfold pbsI
  split
  ·rename_i h
   rw [inB_iff] at h
   have hn : n.toNat < 6 := by omega
   obtain ⟨h1, h2⟩ := pbs_key ⟨n.toNat, hn⟩
   dsimp only at h1 h2
   have h3 : (2 : Nat) ^ n.toNat ≤ 2 ^ 5 := Nat.pow_le_pow_right (by omega) (by omega)
   have h4 : (2 : Int) ^ n.toNat ≤ 32 := (pow5 h.1 h.2).2
   refine ⟨by omega, fun x hx => ?_⟩
   have := h2 x hx
   omega
  ·simp
 exact ⟨h.1, h.2, fun i hi => h.2 _ (getD_mem hi 0)⟩
def anyIn (tk : List Int) (x : Int) : Bool := tk.any fun y => insB y x
def minR (p : Int → Int → Bool) (r : Int) : List Int → List Int → List Int
 | tk, [] => tk
 | tk, x :: xs => minR p r (if (!hasB x r && !anyIn tk x && p x r) = true then tk ++ [x] else tk) xs
def minC (p : Int → Int → Bool) (n r : Int) : List (Int × Int) := (minR p r [] (pbsI n)).map fun x => (x, r)
def minT (p : Int → Int → Bool) (n : Int) : Nat → List (Int × Int)
 | 0 => []
 | r + 1 => minT p n r ++ minC p n (r : Nat)
def minDs (p : Int → Int → Bool) (n : Int) : List (Int × Int) := minT p n n.toNat
theorem minR_length {p : Int → Int → Bool} {r : Int} : ∀ {xs tk : List Int}, (minR p r tk xs).length ≤ tk.length + xs.length
 | [], tk => by simp [minR]
 | x :: xs, tk => by
  rw [minR]
  have := @minR_length p r xs (if (!hasB x r && !anyIn tk x && p x r) = true then tk ++ [x] else tk)
  have h2 : (if (!hasB x r && !anyIn tk x && p x r) = true then tk ++ [x] else tk).length ≤ tk.length + 1 := by split <;> simp
  simp only [List.length_cons]
  omega
theorem minR_mem {p : Int → Int → Bool} {r : Int} : ∀ {xs tk : List Int} {y : Int}, y ∈ minR p r tk xs → y ∈ tk ∨ (y ∈ xs ∧ hasB y r = false ∧ p y r = true)
 | [], tk, y, h => Or.inl h
 | x :: xs, tk, y, h => by
  rw [minR] at h
  rcases minR_mem h with h | ⟨h, h2⟩
  ·split at h
   ·rename_i hc
    simp only [Bool.and_eq_true, Bool.not_eq_true'] at hc
    rcases List.mem_append.1 h with h | h
    ·exact Or.inl h
    ·rw [List.mem_singleton] at h
     subst h
     exact Or.inr ⟨by simp, hc.1.1, hc.2⟩
   ·exact Or.inl h
  ·exact Or.inr ⟨by simp [h], h2⟩
theorem minC_length {p : Int → Int → Bool} {n r : Int} : (minC p n r).length ≤ 32 := by
 unfold minC
 rw [List.length_map]
 have := @minR_length p r (pbsI n) []
 have h2 := (@pbsI_facts n).1
 simp only [List.length_nil] at this
 omega
theorem minT_length {p : Int → Int → Bool} {n : Int} : ∀ {r : Nat}, (minT p n r).length ≤ r * 32
 | 0 => Nat.zero_le _
 | r + 1 => by
  have h1 := @minT_length p n r
  have h2 := @minC_length p n (r : Nat)
  rw [minT, List.length_append, Nat.succ_mul]; omega
theorem minT_mem {p : Int → Int → Bool} {n : Int} : ∀ {k : Nat} {d : Int × Int}, d ∈ minT p n k → (0 ≤ d.1 ∧ d.1 ≤ 31) ∧ (0 ≤ d.2 ∧ d.2 < k) ∧ hasB d.1 d.2 = false ∧ p d.1 d.2 = true
 | 0, d, h => by cases h
 | k + 1, d, h => by
  rw [minT] at h
  rcases List.mem_append.1 h with h | h
  ·obtain ⟨h1, h2, h3⟩ := minT_mem h
   exact ⟨h1, by omega, h3⟩
  ·unfold minC at h
   obtain ⟨x, hx, rfl⟩ := List.mem_map.1 h
   rcases minR_mem hx with hx | ⟨hx, h2, h3⟩
   ·cases hx
   ·exact ⟨(@pbsI_facts n).2.1 x hx, by dsimp only; omega, h2, h3⟩
theorem minDs_facts {p : Int → Int → Bool} {n : Int} (h5 : n ≤ 5) : (minDs p n).length ≤ 160 ∧ ∀ d ∈ minDs p n, depR d := by
 have h1 := @minT_length p n n.toNat
 refine ⟨by unfold minDs; omega, fun d hd => ?_⟩
 obtain ⟨h2, h3, _⟩ := minT_mem hd
 exact ⟨h2, by omega, by omega⟩
theorem minR_go {p : Int → Int → Bool} {r : Int} {L tk : List Int} {i : Nat} (h : i < L.length) : minR p r tk (L.drop i) = minR p r (if (!hasB (L.getD i 0) r && !anyIn tk (L.getD i 0) && p (L.getD i 0) r) = true then tk ++ [L.getD i 0] else tk) (L.drop (i + 1)) := by
 rw [drop_getD h 0, minR]
def covB (a : Int × Int) (e : Int × Int) : Bool := e.2 == a.2 && (bitI .and .i64 e.1 a.1 == e.1)
def cov (ds : List (Int × Int)) (a : Int × Int) : Bool := ds.any (covB a)
theorem memS_ok : ContractOK E0 94 cMem := by
 refine contract_of_wpc (E := E0) (T := mkT Tryz.prog [(111, cValid)] false (fun _ => false) true (fun _ => false)) (mkT_ok (E := E0) (.cons validS_ok .nil)) (fn := Tryz.f94) Tryz.func94 (by kernel_rfl) rfl mixedT (by kernel_rfl) rfl ?_
 intro args p rs ms hr
 unfold cMem at hr
 dsimp only at hr
 split at hr
 rotate_left
 ·cases hr
 rename_i x
 simp only [Option.some.injEq, Prod.mk.injEq] at hr
 obtain ⟨rfl, rfl, rfl⟩ := hr
 refine ⟨rfl, rfl, Nat.le_of_ble_eq_true rfl, ?_⟩
 have hm : maxLen = 9223372036854775807 := rfl
 intro _ bs
 unfold mem
 cases hv : isAttr 5 x
 ·(repeat' (first | (refine gate_a fun _ => ?_) | (refine fork_intro (fun hb => ?_) (fun hb => ?_) <;> (try simp only [ew] at hb)) | (simp only [go_sem, Nat.reduceLeDiff, Nat.reduceEqDiff, reduceIte, reduceCtorEq, Nat.reduceAdd, Nat.reduceMul, Nat.reduceSub, Nat.reduceLT, Int.reduceLT, Int.reduceLE, Int.reduceNeg, Int.reduceToNat, Nat.reduceBEq, Nat.reduceBNe, Int.reduceGE, Int.reduceGT, *, cMem, cValid, Tryz.results94])))
  refine loop_intro { ι := Unit, rs := [(6, 23)], mods := [(4, fun _ => .one (.d (.v (.int .i64 0)))), (3, fun _ => .one (.own 1 [] 1))], boxes := [], arrs := [], ok := fun _ => True, mu := fun i => 0 } rfl () trivial ?_ fun i hi => ?_
  ·(repeat' (first | (refine gate_a fun _ => ?_) | (refine fork_intro (fun hb => ?_) (fun hb => ?_) <;> (try simp only [ew] at hb)) | (simp only [go_sem, Nat.reduceLeDiff, Nat.reduceEqDiff, reduceIte, reduceCtorEq, Nat.reduceAdd, Nat.reduceMul, Nat.reduceSub, Nat.reduceLT, Int.reduceLT, Int.reduceLE, Int.reduceNeg, Int.reduceToNat, Nat.reduceBEq, Nat.reduceBNe, Int.reduceGE, Int.reduceGT, *, cMem, cValid, Tryz.results94])))
  ·dsimp only at i hi
   (repeat' (first | (refine gate_a fun _ => ?_) | (refine fork_intro (fun hb => ?_) (fun hb => ?_) <;> (try simp only [ew] at hb)) | (simp only [go_sem, Nat.reduceLeDiff, Nat.reduceEqDiff, reduceIte, reduceCtorEq, Nat.reduceAdd, Nat.reduceMul, Nat.reduceSub, Nat.reduceLT, Int.reduceLT, Int.reduceLE, Int.reduceNeg, Int.reduceToNat, Nat.reduceBEq, Nat.reduceBNe, Int.reduceGE, Int.reduceGT, *, cMem, cValid, Tryz.results94])))
   all_goals first | rfl | skip
 ·simp only [if_true]
  (repeat' (first | (refine gate_a fun _ => ?_) | (refine fork_intro (fun hb => ?_) (fun hb => ?_) <;> (try simp only [ew] at hb)) | (simp only [go_sem, Nat.reduceLeDiff, Nat.reduceEqDiff, reduceIte, reduceCtorEq, Nat.reduceAdd, Nat.reduceMul, Nat.reduceSub, Nat.reduceLT, Int.reduceLT, Int.reduceLE, Int.reduceNeg, Int.reduceToNat, Nat.reduceBEq, Nat.reduceBNe, Int.reduceGE, Int.reduceGT, *, cMem, cValid, Tryz.results94])))
  refine loop_intro { ι := Nat, rs := [(6, 23)], mods := [(4, fun i => .one (.d (.v (.int .i64 i)))), (3, fun i => .one (.own 1 (iL (memN x i)) 1))], boxes := [], arrs := [], ok := fun i => i ≤ 5, mu := fun i => 5 - i } rfl 0 (Nat.zero_le _) ?_ fun i hi => ?_
  ·(repeat' (first | (refine gate_a fun _ => ?_) | (refine fork_intro (fun hb => ?_) (fun hb => ?_) <;> (try simp only [ew] at hb)) | (simp only [go_sem, Nat.reduceLeDiff, Nat.reduceEqDiff, reduceIte, reduceCtorEq, Nat.reduceAdd, Nat.reduceMul, Nat.reduceSub, Nat.reduceLT, Int.reduceLT, Int.reduceLE, Int.reduceNeg, Int.reduceToNat, Nat.reduceBEq, Nat.reduceBNe, Int.reduceGE, Int.reduceGT, *, cMem, cValid, Tryz.results94])))
   all_goals first | rfl | skip
  ·dsimp only at i hi
   have hl := @memN_length x i
   by_cases h5 : i < 5
   ·have hp := p5 (c := i) h5
    have h5' : decide ((i : Int) < 5) = true := decide_eq_true (by omega)
    cases hh : hasB x (i : Nat)
    ·have hb : (bitI .and .i64 (x.fdiv (2 ^ i)) 1 == 1) = false := by rw [← hh]; unfold hasB; rw [Int.toNat_natCast]
     have e : memN x (i + 1) = memN x i := by simp [memN, hh]
     clear hh
     (repeat' (first | (refine gate_a fun _ => ?_) | (refine fork_intro (fun hb => ?_) (fun hb => ?_) <;> (try simp only [ew, bits64, hb] at hb)) | (simp only [go_sem, Nat.reduceLeDiff, Nat.reduceEqDiff, reduceIte, reduceCtorEq, Nat.reduceAdd, Nat.reduceMul, Nat.reduceSub, Nat.reduceLT, Int.reduceLT, Int.reduceLE, Int.reduceNeg, Int.reduceToNat, Nat.reduceBEq, Nat.reduceBNe, Int.reduceGE, Int.reduceGT, *, cMem, cValid, Tryz.results94, bits64, hb])))
     refine loop_next (i + 1) (by dsimp only; omega) (by dsimp only; omega) ?_
     (repeat' (first | (refine gate_a fun _ => ?_) | (refine fork_intro (fun hb => ?_) (fun hb => ?_) <;> (try simp only [ew, e] at hb)) | (simp only [go_sem, Nat.reduceLeDiff, Nat.reduceEqDiff, reduceIte, reduceCtorEq, Nat.reduceAdd, Nat.reduceMul, Nat.reduceSub, Nat.reduceLT, Int.reduceLT, Int.reduceLE, Int.reduceNeg, Int.reduceToNat, Nat.reduceBEq, Nat.reduceBNe, Int.reduceGE, Int.reduceGT, *, cMem, cValid, Tryz.results94, e])))
    ·have hb : (bitI .and .i64 (x.fdiv (2 ^ i)) 1 == 1) = true := by rw [← hh]; unfold hasB; rw [Int.toNat_natCast]
     have e : iL (memN x i) ++ [[D.v (.int .i64 i)]] = iL (memN x (i + 1)) := by simp [memN, hh, iL]
     clear hh
     (repeat' (first | (refine gate_a fun _ => ?_) | (refine fork_intro (fun hb => ?_) (fun hb => ?_) <;> (try simp only [ew, bits64, hb] at hb)) | (simp only [go_sem, Nat.reduceLeDiff, Nat.reduceEqDiff, reduceIte, reduceCtorEq, Nat.reduceAdd, Nat.reduceMul, Nat.reduceSub, Nat.reduceLT, Int.reduceLT, Int.reduceLE, Int.reduceNeg, Int.reduceToNat, Nat.reduceBEq, Nat.reduceBNe, Int.reduceGE, Int.reduceGT, *, cMem, cValid, Tryz.results94, bits64, hb])))
     refine loop_next (i + 1) (by dsimp only; omega) (by dsimp only; omega) ?_
     (repeat' (first | (refine gate_a fun _ => ?_) | (refine fork_intro (fun hb => ?_) (fun hb => ?_) <;> (try simp only [ew, e] at hb)) | (simp only [go_sem, Nat.reduceLeDiff, Nat.reduceEqDiff, reduceIte, reduceCtorEq, Nat.reduceAdd, Nat.reduceMul, Nat.reduceSub, Nat.reduceLT, Int.reduceLT, Int.reduceLE, Int.reduceNeg, Int.reduceToNat, Nat.reduceBEq, Nat.reduceBNe, Int.reduceGE, Int.reduceGT, *, cMem, cValid, Tryz.results94, e])))
   ·have e : i = 5 := by omega
    subst e
    (repeat' (first | (refine gate_a fun _ => ?_) | (refine fork_intro (fun hb => ?_) (fun hb => ?_) <;> (try simp only [ew] at hb)) | (simp only [go_sem, Nat.reduceLeDiff, Nat.reduceEqDiff, reduceIte, reduceCtorEq, Nat.reduceAdd, Nat.reduceMul, Nat.reduceSub, Nat.reduceLT, Int.reduceLT, Int.reduceLE, Int.reduceNeg, Int.reduceToNat, Nat.reduceBEq, Nat.reduceBNe, Int.reduceGE, Int.reduceGT, *, cMem, cValid, Tryz.results94])))
    all_goals first | rfl | skip
def cCnt : Contract := ⟨[], false, fun
 | [.one (.v (.int .i64 x))] => some (True, [⟨false, [.d (.v (.int .i64 (cnt x)))]⟩], [])
 | _ => none⟩
theorem cntS_ok : ContractOK E0 74 cCnt := by
 refine contract_of_wpc (E := E0) (T := mkT Tryz.prog [(94, cMem)] false (fun _ => false) true (fun _ => false)) (mkT_ok (E := E0) (.cons memS_ok .nil)) (fn := Tryz.f74) Tryz.func74 (by kernel_rfl) rfl mixedT (by kernel_rfl) rfl ?_
 intro args p rs ms hr
 unfold cCnt at hr
 dsimp only at hr
 split at hr
 rotate_left
 ·cases hr
 rename_i x
 simp only [Option.some.injEq, Prod.mk.injEq] at hr
 obtain ⟨rfl, rfl, rfl⟩ := hr
 refine ⟨rfl, rfl, Nat.le_of_ble_eq_true rfl, ?_⟩
 have hm : maxLen = 9223372036854775807 := rfl
 intro _ bs
 unfold cnt
 have hl := @mem_len x
 (repeat' (first | (refine gate_a fun _ => ?_) | (refine fork_intro (fun hb => ?_) (fun hb => ?_) <;> (try simp only [ew] at hb)) | (simp only [go_sem, Nat.reduceLeDiff, Nat.reduceEqDiff, reduceIte, reduceCtorEq, Nat.reduceAdd, Nat.reduceMul, Nat.reduceSub, Nat.reduceLT, Int.reduceLT, Int.reduceLE, Int.reduceNeg, Int.reduceToNat, Nat.reduceBEq, Nat.reduceBNe, Int.reduceGE, Int.reduceGT, *, cCnt, cMem, Tryz.results74])))
def cPbs : Contract := ⟨[], false, fun
 | [.one (.v (.int .i64 n))] => some (-9223372036854775808 ≤ n ∧ n ≤ 9223372036854775807, [⟨false, [.own 1 (iL (pbsI n)) 1]⟩], [])
 | _ => none⟩
theorem iL_snoc {xs : List Int} {n : Int} : iL xs ++ [[D.v (.int .i64 n)]] = iL (xs ++ [n]) := by simp [iL]
theorem pbsS_ok : ContractOK E0 35 cPbs := by
 refine contract_of_wpc (E := E0) (T := mkT Tryz.prog [(28, cL1In), (73, cAll2), (74, cCnt)] false (fun _ => false) true (fun _ => false)) (mkT_ok (E := E0) (.cons l1In_ok (.cons all2_ok (.cons cntS_ok .nil)))) (fn := Tryz.f35) Tryz.func35 (by kernel_rfl) rfl mixedT (by kernel_rfl) rfl ?_
 intro args p rs ms hr
 unfold cPbs at hr
 dsimp only at hr
 split at hr
 rotate_left
 ·cases hr
 rename_i n
 simp only [Option.some.injEq, Prod.mk.injEq] at hr
 obtain ⟨rfl, rfl, rfl⟩ := hr
 refine ⟨rfl, rfl, Nat.le_of_ble_eq_true rfl, ?_⟩
 have hm : maxLen = 9223372036854775807 := rfl
 rintro ⟨hn1, hn2⟩ bs
 cases hv : inB n 0 5
 ·have e : pbsI n = [] := by unfold pbsI; rw [hv]; rfl
  rw [e]
  clear e
  (repeat' (first | (refine gate_a fun _ => ?_) | (refine fork_intro (fun hb => ?_) (fun hb => ?_) <;> (try simp only [ew] at hb)) | (simp only [go_sem, Nat.reduceLeDiff, Nat.reduceEqDiff, reduceIte, reduceCtorEq, Nat.reduceAdd, Nat.reduceMul, Nat.reduceSub, Nat.reduceLT, Int.reduceLT, Int.reduceLE, Int.reduceNeg, Int.reduceToNat, Nat.reduceBEq, Nat.reduceBNe, Int.reduceGE, Int.reduceGT, *, cPbs, cL1In, cAll2, cCnt, Tryz.results35])))
  refine loop_intro { ι := Unit, rs := [(5, 6), (7, 30)], mods := [(4, fun _ => .one (.d (.v (.int .i64 0)))), (3, fun _ => .one (.own 1 [] 1))], boxes := [], arrs := [], ok := fun _ => True, mu := fun i => 0 } rfl () trivial ?_ fun i hi => ?_
  ·(repeat' (first | (refine gate_a fun _ => ?_) | (refine fork_intro (fun hb => ?_) (fun hb => ?_) <;> (try simp only [ew] at hb)) | (simp only [go_sem, Nat.reduceLeDiff, Nat.reduceEqDiff, reduceIte, reduceCtorEq, Nat.reduceAdd, Nat.reduceMul, Nat.reduceSub, Nat.reduceLT, Int.reduceLT, Int.reduceLE, Int.reduceNeg, Int.reduceToNat, Nat.reduceBEq, Nat.reduceBNe, Int.reduceGE, Int.reduceGT, *, cPbs, cL1In, cAll2, cCnt, Tryz.results35])))
  ·dsimp only at i hi
   (repeat' (first | (refine gate_a fun _ => ?_) | (refine fork_intro (fun hb => ?_) (fun hb => ?_) <;> (try simp only [ew] at hb)) | (simp only [go_sem, Nat.reduceLeDiff, Nat.reduceEqDiff, reduceIte, reduceCtorEq, Nat.reduceAdd, Nat.reduceMul, Nat.reduceSub, Nat.reduceLT, Int.reduceLT, Int.reduceLE, Int.reduceNeg, Int.reduceToNat, Nat.reduceBEq, Nat.reduceBNe, Int.reduceGE, Int.reduceGT, *, cPbs, cL1In, cAll2, cCnt, Tryz.results35])))
   all_goals first | rfl | skip
 ·have hn := inB_iff.1 hv
  obtain ⟨c, rfl⟩ := Int.eq_ofNat_of_zero_le hn.1
  have c5 : c ≤ 5 := by omega
  have e : pbsI c = pbsO (2 ^ c) (c + 1) := by unfold pbsI pbs; rw [hv, Int.toNat_natCast]; rfl
  rw [e]
  clear e
  have hM : all2 c = ((2 ^ c : Nat) : Int) - 1 := by unfold all2; rw [Int.toNat_natCast, Int.one_mul]; simp
  have hM2 : 2 ^ c ≤ 32 := Nat.le_trans (Nat.pow_le_pow_right (by omega) c5) (by decide)
  have hM3 : 1 ≤ 2 ^ c := Nat.one_le_two_pow
  generalize 2 ^ c = M at hM hM2 hM3 ⊢
  (repeat' (first | (refine gate_a fun _ => ?_) | (refine fork_intro (fun hb => ?_) (fun hb => ?_) <;> (try simp only [ew] at hb)) | (simp only [go_sem, Nat.reduceLeDiff, Nat.reduceEqDiff, reduceIte, reduceCtorEq, Nat.reduceAdd, Nat.reduceMul, Nat.reduceSub, Nat.reduceLT, Int.reduceLT, Int.reduceLE, Int.reduceNeg, Int.reduceToNat, Nat.reduceBEq, Nat.reduceBNe, Int.reduceGE, Int.reduceGT, *, cPbs, cL1In, cAll2, cCnt, Tryz.results35])))
  refine loop_intro { ι := Nat, rs := [(5, 6), (7, 30)], mods := [(4, fun s => .one (.d (.v (.int .i64 s)))), (3, fun s => .one (.own 1 (iL (pbsO M s)) 1))], boxes := [], arrs := [], ok := fun s => s ≤ c + 1, mu := fun s => c + 1 - s } rfl 0 (Nat.zero_le _) ?_ fun s hs => ?_
  ·(repeat' (first | (refine gate_a fun _ => ?_) | (refine fork_intro (fun hb => ?_) (fun hb => ?_) <;> (try simp only [ew] at hb)) | (simp only [go_sem, Nat.reduceLeDiff, Nat.reduceEqDiff, reduceIte, reduceCtorEq, Nat.reduceAdd, Nat.reduceMul, Nat.reduceSub, Nat.reduceLT, Int.reduceLT, Int.reduceLE, Int.reduceNeg, Int.reduceToNat, Nat.reduceBEq, Nat.reduceBNe, Int.reduceGE, Int.reduceGT, *, cPbs, cL1In, cAll2, cCnt, Tryz.results35])))
   all_goals first | rfl | skip
  ·dsimp only at s hs
   have l1 := @pbsO_length M s
   have l2 : s * M ≤ 6 * 32 := Nat.mul_le_mul (by omega) hM2
   have l3 : (pbsO M s).length ≤ 192 := by omega
   clear l1 l2
   by_cases h5 : s < c + 1
   ·have h5' : decide (s ≤ c) = true := decide_eq_true (by omega)
    (repeat' (first | (refine gate_a fun _ => ?_) | (refine fork_intro (fun hb => ?_) (fun hb => ?_) <;> (try simp only [ew, h5'] at hb)) | (simp only [go_sem, Nat.reduceLeDiff, Nat.reduceEqDiff, reduceIte, reduceCtorEq, Nat.reduceAdd, Nat.reduceMul, Nat.reduceSub, Nat.reduceLT, Int.reduceLT, Int.reduceLE, Int.reduceNeg, Int.reduceToNat, Nat.reduceBEq, Nat.reduceBNe, Int.reduceGE, Int.reduceGT, *, cPbs, cL1In, cAll2, cCnt, Tryz.results35, h5'])))
    refine loop_intro { ι := Nat, rs := [(16, 30)], mods := [(5, fun x => .one (.d (.v (.int .i64 x)))), (3, fun x => .one (.own 1 (iL (pbsO M s ++ pbsA s x)) 1))], boxes := [], arrs := [], ok := fun x => x ≤ M, mu := fun x => M - x } rfl 0 (Nat.zero_le _) ?_ fun x hx => ?_
    ·have e0 : pbsO M s ++ pbsA s 0 = pbsO M s := by simp [pbsA]
     (repeat' (first | (refine gate_a fun _ => ?_) | (refine fork_intro (fun hb => ?_) (fun hb => ?_) <;> (try simp only [ew, e0] at hb)) | (simp only [go_sem, Nat.reduceLeDiff, Nat.reduceEqDiff, reduceIte, reduceCtorEq, Nat.reduceAdd, Nat.reduceMul, Nat.reduceSub, Nat.reduceLT, Int.reduceLT, Int.reduceLE, Int.reduceNeg, Int.reduceToNat, Nat.reduceBEq, Nat.reduceBNe, Int.reduceGE, Int.reduceGT, *, cPbs, cL1In, cAll2, cCnt, Tryz.results35, e0])))
    ·dsimp only at x hx
     have l4 := @pbsA_length s x
     have l5 : (pbsO M s ++ pbsA s x).length ≤ 224 := by rw [List.length_append]; omega
     by_cases h6 : x < M
     ·have h6' : decide ((x : Int) ≤ (M : Int) - 1) = true := decide_eq_true (by omega)
      by_cases hc : cnt x = s
      ·have e1 : (((cnt x : Nat) : Int) == (s : Int)) = true := by rw [hc]; simp
       have e2 : pbsO M s ++ pbsA s (x + 1) = (pbsO M s ++ pbsA s x) ++ [(x : Int)] := by rw [pbsA, if_pos hc, List.append_assoc]
       clear hc
       generalize hZ : pbsO M s ++ pbsA s x = zs at l5 e2
       (repeat' (first | (refine gate_a fun _ => ?_) | (refine fork_intro (fun hb => ?_) (fun hb => ?_) <;> (try simp only [ew, hM, h6', e1, hZ, iL_snoc] at hb)) | (simp only [go_sem, Nat.reduceLeDiff, Nat.reduceEqDiff, reduceIte, reduceCtorEq, Nat.reduceAdd, Nat.reduceMul, Nat.reduceSub, Nat.reduceLT, Int.reduceLT, Int.reduceLE, Int.reduceNeg, Int.reduceToNat, Nat.reduceBEq, Nat.reduceBNe, Int.reduceGE, Int.reduceGT, *, cPbs, cL1In, cAll2, cCnt, Tryz.results35, hM, h6', e1, hZ, iL_snoc])))
       refine loop_next (x + 1) (by dsimp only; omega) (by dsimp only; omega) ?_
       (repeat' (first | (refine gate_a fun _ => ?_) | (refine fork_intro (fun hb => ?_) (fun hb => ?_) <;> (try simp only [ew, e2, iL_snoc] at hb)) | (simp only [go_sem, Nat.reduceLeDiff, Nat.reduceEqDiff, reduceIte, reduceCtorEq, Nat.reduceAdd, Nat.reduceMul, Nat.reduceSub, Nat.reduceLT, Int.reduceLT, Int.reduceLE, Int.reduceNeg, Int.reduceToNat, Nat.reduceBEq, Nat.reduceBNe, Int.reduceGE, Int.reduceGT, *, cPbs, cL1In, cAll2, cCnt, Tryz.results35, e2, iL_snoc])))
      ·have e1 : (((cnt x : Nat) : Int) == (s : Int)) = false := by rw [beq_eq_false_iff_ne]; omega
       have e2 : pbsA s (x + 1) = pbsA s x := by rw [pbsA, if_neg hc, List.append_nil]
       clear hc
       (repeat' (first | (refine gate_a fun _ => ?_) | (refine fork_intro (fun hb => ?_) (fun hb => ?_) <;> (try simp only [ew, hM, h6', e1] at hb)) | (simp only [go_sem, Nat.reduceLeDiff, Nat.reduceEqDiff, reduceIte, reduceCtorEq, Nat.reduceAdd, Nat.reduceMul, Nat.reduceSub, Nat.reduceLT, Int.reduceLT, Int.reduceLE, Int.reduceNeg, Int.reduceToNat, Nat.reduceBEq, Nat.reduceBNe, Int.reduceGE, Int.reduceGT, *, cPbs, cL1In, cAll2, cCnt, Tryz.results35, hM, h6', e1])))
       refine loop_next (x + 1) (by dsimp only; omega) (by dsimp only; omega) ?_
       (repeat' (first | (refine gate_a fun _ => ?_) | (refine fork_intro (fun hb => ?_) (fun hb => ?_) <;> (try simp only [ew, e2] at hb)) | (simp only [go_sem, Nat.reduceLeDiff, Nat.reduceEqDiff, reduceIte, reduceCtorEq, Nat.reduceAdd, Nat.reduceMul, Nat.reduceSub, Nat.reduceLT, Int.reduceLT, Int.reduceLE, Int.reduceNeg, Int.reduceToNat, Nat.reduceBEq, Nat.reduceBNe, Int.reduceGE, Int.reduceGT, *, cPbs, cL1In, cAll2, cCnt, Tryz.results35, e2])))
     ·have e5 : x = M := by omega
      subst e5
      have h6' : decide ((x : Int) ≤ (x : Int) - 1) = false := decide_eq_false (by omega)
      have e2 : pbsO x (s + 1) = pbsO x s ++ pbsA s x := rfl
      (repeat' (first | (refine gate_a fun _ => ?_) | (refine fork_intro (fun hb => ?_) (fun hb => ?_) <;> (try simp only [ew, hM, h6'] at hb)) | (simp only [go_sem, Nat.reduceLeDiff, Nat.reduceEqDiff, reduceIte, reduceCtorEq, Nat.reduceAdd, Nat.reduceMul, Nat.reduceSub, Nat.reduceLT, Int.reduceLT, Int.reduceLE, Int.reduceNeg, Int.reduceToNat, Nat.reduceBEq, Nat.reduceBNe, Int.reduceGE, Int.reduceGT, *, cPbs, cL1In, cAll2, cCnt, Tryz.results35, hM, h6'])))
      refine loop_next (s + 1) (by dsimp only; omega) (by dsimp only; omega) ?_
      (repeat' (first | (refine gate_a fun _ => ?_) | (refine fork_intro (fun hb => ?_) (fun hb => ?_) <;> (try simp only [ew, e2] at hb)) | (simp only [go_sem, Nat.reduceLeDiff, Nat.reduceEqDiff, reduceIte, reduceCtorEq, Nat.reduceAdd, Nat.reduceMul, Nat.reduceSub, Nat.reduceLT, Int.reduceLT, Int.reduceLE, Int.reduceNeg, Int.reduceToNat, Nat.reduceBEq, Nat.reduceBNe, Int.reduceGE, Int.reduceGT, *, cPbs, cL1In, cAll2, cCnt, Tryz.results35, e2])))
   ·have e5 : s = c + 1 := by omega
    subst e5
    have h5' : decide (c + 1 ≤ c) = false := decide_eq_false (by omega)
    (repeat' (first | (refine gate_a fun _ => ?_) | (refine fork_intro (fun hb => ?_) (fun hb => ?_) <;> (try simp only [ew, h5'] at hb)) | (simp only [go_sem, Nat.reduceLeDiff, Nat.reduceEqDiff, reduceIte, reduceCtorEq, Nat.reduceAdd, Nat.reduceMul, Nat.reduceSub, Nat.reduceLT, Int.reduceLT, Int.reduceLE, Int.reduceNeg, Int.reduceToNat, Nat.reduceBEq, Nat.reduceBNe, Int.reduceGE, Int.reduceGT, *, cPbs, cL1In, cAll2, cCnt, Tryz.results35, h5'])))
end Go.Own
