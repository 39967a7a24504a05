/- Own contracts. Conditions: as each theorem states them. -/
import Derived.Test.YtaigpolfbonjgaaGreatDoorOwnG4
import Derived.Test.YtaigpolfbonjgaaGreatDoorOwnY5
set_option linter.unusedSimpArgs false
set_option linter.unusedVariables false
set_option maxRecDepth 20000
set_option maxHeartbeats 2000000
namespace Go.Own
open Go Go.Proofs
def cnt (x : Int) : Nat := (mem x).length
def pbsA (s : Nat) : Nat → List Int
 | 0 => []
 | x + 1 => pbsA s x ++ (if cnt (x : Nat) = s then [(x : Int)] else [])
def pbsO (M : Nat) : Nat → List Int
 | 0 => []
 | s + 1 => pbsO M s ++ pbsA s M
def pbs (n : Nat) : List Int := pbsO (2 ^ n) (n + 1)
def pbsI (n : Int) : List Int := if inB n 0 5 then pbs n.toNat else []
theorem pbsA_length {s : Nat} : ∀ {x : Nat}, (pbsA s x).length ≤ x
 | 0 => Nat.le_refl _
 | x + 1 => by
  have := @pbsA_length s x
  rw [pbsA, List.length_append]
  split <;> simp <;> omega
theorem pbsO_length {M : Nat} : ∀ {s : Nat}, (pbsO M s).length ≤ s * M
 | 0 => Nat.zero_le _
 | s + 1 => by
  have h1 := @pbsO_length M s
  have h2 := @pbsA_length s M
  rw [pbsO, List.length_append, Nat.succ_mul]; omega
theorem pbs_key : ∀ n : Fin 6, (pbs n.val).length = 2 ^ n.val ∧ ∀ x ∈ pbs n.val, 0 ≤ x ∧ x < 2 ^ n.val := by decide +kernel
theorem pbsI_facts {n : Int} : (pbsI n).length ≤ 32 ∧ (∀ x ∈ pbsI n, 0 ≤ x ∧ x ≤ 31) ∧ ∀ i, i < (pbsI n).length → 0 ≤ (pbsI n).getD i 0 ∧ (pbsI n).getD i 0 ≤ 31 := by
 have h : (pbsI n).length ≤ 32 ∧ ∀ x ∈ pbsI n, 0 ≤ x ∧ x ≤ 31 := by
  unfold pbsI
  split
  ·rename_i h
   rw [inB_iff] at h
   have hn : n.toNat < 6 := by omega
   obtain ⟨h1, h2⟩ := pbs_key ⟨n.toNat, hn⟩
   dsimp only at h1 h2
   have h3 : (2 : Nat) ^ n.toNat ≤ 2 ^ 5 := Nat.pow_le_pow_right (by omega) (by omega)
   have h4 : (2 : Int) ^ n.toNat ≤ 32 := (pow5 h.1 h.2).2
   refine ⟨by omega, fun x hx => ?_⟩
   have := h2 x hx
   omega
  ·simp
 exact ⟨h.1, h.2, fun i hi => h.2 _ (getD_mem hi 0)⟩
def anyIn (tk : List Int) (x : Int) : Bool := tk.any fun y => insB y x
def minR (p : Int → Int → Bool) (r : Int) : List Int → List Int → List Int
 | tk, [] => tk
 | tk, x :: xs => minR p r (if (!hasB x r && !anyIn tk x && p x r) = true then tk ++ [x] else tk) xs
def minC (p : Int → Int → Bool) (n r : Int) : List (Int × Int) := (minR p r [] (pbsI n)).map fun x => (x, r)
def minT (p : Int → Int → Bool) (n : Int) : Nat → List (Int × Int)
 | 0 => []
 | r + 1 => minT p n r ++ minC p n (r : Nat)
def minDs (p : Int → Int → Bool) (n : Int) : List (Int × Int) := minT p n n.toNat
theorem minR_length {p : Int → Int → Bool} {r : Int} : ∀ {xs tk : List Int}, (minR p r tk xs).length ≤ tk.length + xs.length
 | [], tk => by simp [minR]
 | x :: xs, tk => by
  rw [minR]
  have := @minR_length p r xs (if (!hasB x r && !anyIn tk x && p x r) = true then tk ++ [x] else tk)
  have h2 : (if (!hasB x r && !anyIn tk x && p x r) = true then tk ++ [x] else tk).length ≤ tk.length + 1 := by split <;> simp
  simp only [List.length_cons]
  omega
theorem minR_mem {p : Int → Int → Bool} {r : Int} : ∀ {xs tk : List Int} {y : Int}, y ∈ minR p r tk xs → y ∈ tk ∨ (y ∈ xs ∧ hasB y r = false ∧ p y r = true)
 | [], tk, y, h => Or.inl h
 | x :: xs, tk, y, h => by
  rw [minR] at h
  rcases minR_mem h with h | ⟨h, h2⟩
  ·split at h
   ·rename_i hc
    simp only [Bool.and_eq_true, Bool.not_eq_true'] at hc
    rcases List.mem_append.1 h with h | h
    ·exact Or.inl h
    ·rw [List.mem_singleton] at h
     subst h
     exact Or.inr ⟨by simp, hc.1.1, hc.2⟩
   ·exact Or.inl h
  ·exact Or.inr ⟨by simp [h], h2⟩
theorem minC_length {p : Int → Int → Bool} {n r : Int} : (minC p n r).length ≤ 32 := by
 unfold minC
 rw [List.length_map]
 have := @minR_length p r (pbsI n) []
 have h2 := (@pbsI_facts n).1
 simp only [List.length_nil] at this
 omega
theorem minT_length {p : Int → Int → Bool} {n : Int} : ∀ {r : Nat}, (minT p n r).length ≤ r * 32
 | 0 => Nat.zero_le _
 | r + 1 => by
  have h1 := @minT_length p n r
  have h2 := @minC_length p n (r : Nat)
  rw [minT, List.length_append, Nat.succ_mul]; omega
theorem minT_mem {p : Int → Int → Bool} {n : Int} : ∀ {k : Nat} {d : Int × Int}, d ∈ minT p n k → (0 ≤ d.1 ∧ d.1 ≤ 31) ∧ (0 ≤ d.2 ∧ d.2 < k) ∧ hasB d.1 d.2 = false ∧ p d.1 d.2 = true
 | 0, d, h => by cases h
 | k + 1, d, h => by
  rw [minT] at h
  rcases List.mem_append.1 h with h | h
  ·obtain ⟨h1, h2, h3⟩ := minT_mem h
   exact ⟨h1, by omega, h3⟩
  ·unfold minC at h
   obtain ⟨x, hx, rfl⟩ := List.mem_map.1 h
   rcases minR_mem hx with hx | ⟨hx, h2, h3⟩
   ·cases hx
   ·exact ⟨(@pbsI_facts n).2.1 x hx, by dsimp only; omega, h2, h3⟩
theorem minDs_facts {p : Int → Int → Bool} {n : Int} (h5 : n ≤ 5) : (minDs p n).length ≤ 160 ∧ ∀ d ∈ minDs p n, depR d := by
 have h1 := @minT_length p n n.toNat
 refine ⟨by unfold minDs; omega, fun d hd => ?_⟩
 obtain ⟨h2, h3, _⟩ := minT_mem hd
 exact ⟨h2, by omega, by omega⟩
theorem minR_go {p : Int → Int → Bool} {r : Int} {L tk : List Int} {i : Nat} (h : i < L.length) : minR p r tk (L.drop i) = minR p r (if (!hasB (L.getD i 0) r && !anyIn tk (L.getD i 0) && p (L.getD i 0) r) = true then tk ++ [L.getD i 0] else tk) (L.drop (i + 1)) := by
 rw [drop_getD h 0, minR]
def pjB (ds : List (Int × Int)) (set : Int) (x r : Int) : Bool := insB x set && hasB set r && hasB (clo ds x) r
def pdL (n : Int) (ds : List (Int × Int)) (set : Int) : List (Int × Int) := if depsOK n ds && isAttr n set then minDs (pjB ds set) n else []
theorem pdL_facts {n : Int} {ds : List (Int × Int)} {set : Int} : (pdL n ds set).length ≤ 160 ∧ (∀ d ∈ pdL n ds set, depR d) ∧ ∀ i, i < (pdL n ds set).length → (0 ≤ ((pdL n ds set).getD i (0, 0)).1 ∧ ((pdL n ds set).getD i (0, 0)).1 ≤ 31) ∧ 0 ≤ ((pdL n ds set).getD i (0, 0)).2 ∧ ((pdL n ds set).getD i (0, 0)).2 ≤ 4 := by
 have h : (pdL n ds set).length ≤ 160 ∧ ∀ d ∈ pdL n ds set, depR d := by
  unfold pdL
  split
  ·rename_i h
   rw [Bool.and_eq_true] at h
   exact minDs_facts (isAttr_le h.2).2.1
  ·simp
 exact ⟨h.1, h.2, fun i hi => h.2 _ (getD_mem hi (0, 0))⟩
theorem minR_none {p : Int → Int → Bool} {r : Int} (h : ∀ x, p x r = false) : ∀ {xs tk : List Int}, minR p r tk xs = tk
 | [], tk => rfl
 | x :: xs, tk => by rw [minR, h x, Bool.and_false, if_neg (by decide)]; exact minR_none h
theorem minC_none {p : Int → Int → Bool} {n r : Int} (h : ∀ x, p x r = false) : minC p n r = [] := by unfold minC; rw [minR_none h]; rfl
def covB (a : Int × Int) (e : Int × Int) : Bool := e.2 == a.2 && (bitI .and .i64 e.1 a.1 == e.1)
def cov (ds : List (Int × Int)) (a : Int × Int) : Bool := ds.any (covB a)
theorem cov_min {T : List (Int × Int)} {tk : List Int} {x : Int} {r : Nat} (hT : ∀ d ∈ T, d.2 < (r : Int)) (ht : ∀ y ∈ tk, 0 ≤ y ∧ y ≤ 31) (hx : 0 ≤ x ∧ x ≤ 31) : cov (T ++ tk.map fun y => (y, (r : Int))) (x, (r : Int)) = anyIn tk x := by
 unfold cov anyIn
 rw [List.any_append, List.any_map]
 have e : T.any (covB (x, (r : Int))) = false := by
  rw [List.any_eq_false]
  intro d hd
  have := hT d hd
  simp only [covB, Bool.and_eq_true, beq_iff_eq]
  omega
 rw [e, Bool.false_or]
 rw [Bool.eq_iff_iff, List.any_eq_true, List.any_eq_true]
 have key : ∀ y ∈ tk, (covB (x, (r : Int)) ∘ fun y => (y, (r : Int))) y = insB y x := fun y hy => by
  simp only [Function.comp, covB, beq_self_eq_true, Bool.true_and]
  exact and_ins (ht y hy) hx
 constructor
 ·rintro ⟨y, hy, h⟩
  exact ⟨y, hy, by rw [← key y hy]; exact h⟩
 ·rintro ⟨y, hy, h⟩
  exact ⟨y, hy, by rw [key y hy]; exact h⟩
theorem memS_ok : ContractOK E0 185 cMem := by
 refine cWpc (E := E0) (T := mkT Tryz.prog [(72, cValid)] false (fun _ => false) true (fun _ => false)) (mkT_ok (E := E0) (.cons validS_ok .nil)) (fn := Tryz.f185) Tryz.func185 (by kernel_rfl) rfl mixedT (by kernel_rfl) rfl ?_
 intro args p rs ms hr
 unfold cMem at hr
 dsimp only at hr
 split at hr
 rotate_left
 ·cases hr
 rename_i x
 simp only [Option.some.injEq, Prod.mk.injEq] at hr
 obtain ⟨rfl, rfl, rfl⟩ := hr
 refine ⟨rfl, rfl, Nat.le_of_ble_eq_true rfl, ?_⟩
 have hm : maxLen = 9223372036854775807 := rfl
 intro _ bs
 unfold mem
 cases hv : isAttr 5 x
 ·(repeat' first | refine gA fun _ => ?_ | refine fkI ?_ ?_ <;> intro hb <;> try simp only [ew] at hb | simp only [go_sem, simprocAttr, *, cMem, cValid, Tryz.results185])
  refine lpI { ι := Unit, rs := [(6, 23)], mods := [(4, fun _ => .one (.d (.v (.int .i64 0)))), (3, fun _ => .one (.own 1 [] 1))], boxes := [], arrs := [], ok := fun _ => True, mu := fun i => 0 } rfl () trivial ?_ fun i hi => ?_
  ·(repeat' first | refine gA fun _ => ?_ | refine fkI ?_ ?_ <;> intro hb <;> try simp only [ew] at hb | simp only [go_sem, simprocAttr, *, cMem, cValid, Tryz.results185])
  ·dsimp only at i hi
   (repeat' first | refine gA fun _ => ?_ | refine fkI ?_ ?_ <;> intro hb <;> try simp only [ew] at hb | simp only [go_sem, simprocAttr, *, cMem, cValid, Tryz.results185])
   all_goals first | rfl | skip
 ·simp only [if_true]
  (repeat' first | refine gA fun _ => ?_ | refine fkI ?_ ?_ <;> intro hb <;> try simp only [ew] at hb | simp only [go_sem, simprocAttr, *, cMem, cValid, Tryz.results185])
  refine lpI { ι := Nat, rs := [(6, 23)], mods := [(4, fun i => .one (.d (.v (.int .i64 i)))), (3, fun i => .one (.own 1 (iL (memN x i)) 1))], boxes := [], arrs := [], ok := fun i => i ≤ 5, mu := fun i => 5 - i } rfl 0 (Nat.zero_le _) ?_ fun i hi => ?_
  ·(repeat' first | refine gA fun _ => ?_ | refine fkI ?_ ?_ <;> intro hb <;> try simp only [ew] at hb | simp only [go_sem, simprocAttr, *, cMem, cValid, Tryz.results185])
   all_goals first | rfl | skip
  ·dsimp only at i hi
   have hl := @memN_length x i
   by_cases h5 : i < 5
   ·have hp := p5 (c := i) h5
    have h5' : decide ((i : Int) < 5) = true := decide_eq_true (by omega)
    cases hh : hasB x (i : Nat)
    ·have hb : (bitI .and .i64 (x.fdiv (2 ^ i)) 1 == 1) = false := by rw [← hh]; unfold hasB; rw [Int.toNat_natCast]
     have e : memN x (i + 1) = memN x i := by simp [memN, hh]
     clear hh
     (repeat' first | refine gA fun _ => ?_ | refine fkI ?_ ?_ <;> intro hb <;> try simp only [ew, bits64, hb] at hb | simp only [go_sem, simprocAttr, *, cMem, cValid, Tryz.results185, bits64, hb])
     refine lpN (i + 1) (by dsimp only; omega) (by dsimp only; omega) ?_
     (repeat' first | refine gA fun _ => ?_ | refine fkI ?_ ?_ <;> intro hb <;> try simp only [ew, e] at hb | simp only [go_sem, simprocAttr, *, cMem, cValid, Tryz.results185, e])
    ·have hb : (bitI .and .i64 (x.fdiv (2 ^ i)) 1 == 1) = true := by rw [← hh]; unfold hasB; rw [Int.toNat_natCast]
     have e : iL (memN x i) ++ [[D.v (.int .i64 i)]] = iL (memN x (i + 1)) := by simp [memN, hh, iL]
     clear hh
     (repeat' first | refine gA fun _ => ?_ | refine fkI ?_ ?_ <;> intro hb <;> try simp only [ew, bits64, hb] at hb | simp only [go_sem, simprocAttr, *, cMem, cValid, Tryz.results185, bits64, hb])
     refine lpN (i + 1) (by dsimp only; omega) (by dsimp only; omega) ?_
     (repeat' first | refine gA fun _ => ?_ | refine fkI ?_ ?_ <;> intro hb <;> try simp only [ew, e] at hb | simp only [go_sem, simprocAttr, *, cMem, cValid, Tryz.results185, e])
   ·have e : i = 5 := by omega
    subst e
    (repeat' first | refine gA fun _ => ?_ | refine fkI ?_ ?_ <;> intro hb <;> try simp only [ew] at hb | simp only [go_sem, simprocAttr, *, cMem, cValid, Tryz.results185])
    all_goals first | rfl | skip
def cCnt : Contract := ⟨[], false, fun
 | [.one (.v (.int .i64 x))] => some (True, [⟨false, [.d (.v (.int .i64 (cnt x)))]⟩], [])
 | _ => none⟩
theorem cntS_ok : ContractOK E0 167 cCnt := by
 refine cWpc (E := E0) (T := mkT Tryz.prog [(185, cMem)] false (fun _ => false) true (fun _ => false)) (mkT_ok (E := E0) (.cons memS_ok .nil)) (fn := Tryz.f167) Tryz.func167 (by kernel_rfl) rfl mixedT (by kernel_rfl) rfl ?_
 intro args p rs ms hr
 unfold cCnt at hr
 dsimp only at hr
 split at hr
 rotate_left
 ·cases hr
 rename_i x
 simp only [Option.some.injEq, Prod.mk.injEq] at hr
 obtain ⟨rfl, rfl, rfl⟩ := hr
 refine ⟨rfl, rfl, Nat.le_of_ble_eq_true rfl, ?_⟩
 have hm : maxLen = 9223372036854775807 := rfl
 intro _ bs
 unfold cnt
 have hl := @mem_len x
 (repeat' first | refine gA fun _ => ?_ | refine fkI ?_ ?_ <;> intro hb <;> try simp only [ew] at hb | simp only [go_sem, simprocAttr, *, cCnt, cMem, Tryz.results167])
def cPbs : Contract := ⟨[], false, fun
 | [.one (.v (.int .i64 n))] => some (-9223372036854775808 ≤ n ∧ n ≤ 9223372036854775807, [⟨false, [.own 1 (iL (pbsI n)) 1]⟩], [])
 | _ => none⟩
theorem iL_snoc {xs : List Int} {n : Int} : iL xs ++ [[D.v (.int .i64 n)]] = iL (xs ++ [n]) := by simp [iL]
theorem pbsS_ok : ContractOK E0 155 cPbs := by
 refine cWpc (E := E0) (T := mkT Tryz.prog [(62, cL1In), (106, cAll2), (167, cCnt)] false (fun _ => false) true (fun _ => false)) (mkT_ok (E := E0) (.cons l1In_ok (.cons all2_ok (.cons cntS_ok .nil)))) (fn := Tryz.f155) Tryz.func155 (by kernel_rfl) rfl mixedT (by kernel_rfl) rfl ?_
 intro args p rs ms hr
 unfold cPbs at hr
 dsimp only at hr
 split at hr
 rotate_left
 ·cases hr
 rename_i n
 simp only [Option.some.injEq, Prod.mk.injEq] at hr
 obtain ⟨rfl, rfl, rfl⟩ := hr
 refine ⟨rfl, rfl, Nat.le_of_ble_eq_true rfl, ?_⟩
 have hm : maxLen = 9223372036854775807 := rfl
 rintro ⟨hn1, hn2⟩ bs
 cases hv : inB n 0 5
 ·have e : pbsI n = [] := by unfold pbsI; rw [hv]; rfl
  rw [e]
  clear e
  (repeat' first | refine gA fun _ => ?_ | refine fkI ?_ ?_ <;> intro hb <;> try simp only [ew] at hb | simp only [go_sem, simprocAttr, *, cPbs, cL1In, cAll2, cCnt, Tryz.results155])
  refine lpI { ι := Unit, rs := [(5, 6), (7, 30)], mods := [(4, fun _ => .one (.d (.v (.int .i64 0)))), (3, fun _ => .one (.own 1 [] 1))], boxes := [], arrs := [], ok := fun _ => True, mu := fun i => 0 } rfl () trivial ?_ fun i hi => ?_
  ·(repeat' first | refine gA fun _ => ?_ | refine fkI ?_ ?_ <;> intro hb <;> try simp only [ew] at hb | simp only [go_sem, simprocAttr, *, cPbs, cL1In, cAll2, cCnt, Tryz.results155])
  ·dsimp only at i hi
   (repeat' first | refine gA fun _ => ?_ | refine fkI ?_ ?_ <;> intro hb <;> try simp only [ew] at hb | simp only [go_sem, simprocAttr, *, cPbs, cL1In, cAll2, cCnt, Tryz.results155])
   all_goals first | rfl | skip
 ·have hn := inB_iff.1 hv
  obtain ⟨c, rfl⟩ := Int.eq_ofNat_of_zero_le hn.1
  have c5 : c ≤ 5 := by omega
  have e : pbsI c = pbsO (2 ^ c) (c + 1) := by unfold pbsI pbs; rw [hv, Int.toNat_natCast]; rfl
  rw [e]
  clear e
  have hM : all2 c = ((2 ^ c : Nat) : Int) - 1 := by unfold all2; rw [Int.toNat_natCast, Int.one_mul]; simp
  have hM2 : 2 ^ c ≤ 32 := Nat.le_trans (Nat.pow_le_pow_right (by omega) c5) (by decide)
  have hM3 : 1 ≤ 2 ^ c := Nat.one_le_two_pow
  generalize 2 ^ c = M at hM hM2 hM3 ⊢
  (repeat' first | refine gA fun _ => ?_ | refine fkI ?_ ?_ <;> intro hb <;> try simp only [ew] at hb | simp only [go_sem, simprocAttr, *, cPbs, cL1In, cAll2, cCnt, Tryz.results155])
  refine lpI { ι := Nat, rs := [(5, 6), (7, 30)], mods := [(4, fun s => .one (.d (.v (.int .i64 s)))), (3, fun s => .one (.own 1 (iL (pbsO M s)) 1))], boxes := [], arrs := [], ok := fun s => s ≤ c + 1, mu := fun s => c + 1 - s } rfl 0 (Nat.zero_le _) ?_ fun s hs => ?_
  ·(repeat' first | refine gA fun _ => ?_ | refine fkI ?_ ?_ <;> intro hb <;> try simp only [ew] at hb | simp only [go_sem, simprocAttr, *, cPbs, cL1In, cAll2, cCnt, Tryz.results155])
   all_goals first | rfl | skip
  ·dsimp only at s hs
   have l1 := @pbsO_length M s
   have l2 : s * M ≤ 6 * 32 := Nat.mul_le_mul (by omega) hM2
   have l3 : (pbsO M s).length ≤ 192 := by omega
   clear l1 l2
   by_cases h5 : s < c + 1
   ·have h5' : decide (s ≤ c) = true := decide_eq_true (by omega)
    (repeat' first | refine gA fun _ => ?_ | refine fkI ?_ ?_ <;> intro hb <;> try simp only [ew, h5'] at hb | simp only [go_sem, simprocAttr, *, cPbs, cL1In, cAll2, cCnt, Tryz.results155, h5'])
    refine lpI { ι := Nat, rs := [(16, 30)], mods := [(5, fun x => .one (.d (.v (.int .i64 x)))), (3, fun x => .one (.own 1 (iL (pbsO M s ++ pbsA s x)) 1))], boxes := [], arrs := [], ok := fun x => x ≤ M, mu := fun x => M - x } rfl 0 (Nat.zero_le _) ?_ fun x hx => ?_
    ·have e0 : pbsO M s ++ pbsA s 0 = pbsO M s := by simp [pbsA]
     (repeat' first | refine gA fun _ => ?_ | refine fkI ?_ ?_ <;> intro hb <;> try simp only [ew, e0] at hb | simp only [go_sem, simprocAttr, *, cPbs, cL1In, cAll2, cCnt, Tryz.results155, e0])
    ·dsimp only at x hx
     have l4 := @pbsA_length s x
     have l5 : (pbsO M s ++ pbsA s x).length ≤ 224 := by rw [List.length_append]; omega
     by_cases h6 : x < M
     ·have h6' : decide ((x : Int) ≤ (M : Int) - 1) = true := decide_eq_true (by omega)
      by_cases hc : cnt x = s
      ·have e1 : (((cnt x : Nat) : Int) == (s : Int)) = true := by rw [hc]; simp
       have e2 : pbsO M s ++ pbsA s (x + 1) = (pbsO M s ++ pbsA s x) ++ [(x : Int)] := by rw [pbsA, if_pos hc, List.append_assoc]
       clear hc
       generalize hZ : pbsO M s ++ pbsA s x = zs at l5 e2
       (repeat' first | refine gA fun _ => ?_ | refine fkI ?_ ?_ <;> intro hb <;> try simp only [ew, hM, h6', e1, hZ, iL_snoc] at hb | simp only [go_sem, simprocAttr, *, cPbs, cL1In, cAll2, cCnt, Tryz.results155, hM, h6', e1, hZ, iL_snoc])
       refine lpN (x + 1) (by dsimp only; omega) (by dsimp only; omega) ?_
       (repeat' first | refine gA fun _ => ?_ | refine fkI ?_ ?_ <;> intro hb <;> try simp only [ew, e2, iL_snoc] at hb | simp only [go_sem, simprocAttr, *, cPbs, cL1In, cAll2, cCnt, Tryz.results155, e2, iL_snoc])
      ·have e1 : (((cnt x : Nat) : Int) == (s : Int)) = false := by rw [beq_eq_false_iff_ne]; omega
       have e2 : pbsA s (x + 1) = pbsA s x := by rw [pbsA, if_neg hc, List.append_nil]
       clear hc
       (repeat' first | refine gA fun _ => ?_ | refine fkI ?_ ?_ <;> intro hb <;> try simp only [ew, hM, h6', e1] at hb | simp only [go_sem, simprocAttr, *, cPbs, cL1In, cAll2, cCnt, Tryz.results155, hM, h6', e1])
       refine lpN (x + 1) (by dsimp only; omega) (by dsimp only; omega) ?_
       (repeat' first | refine gA fun _ => ?_ | refine fkI ?_ ?_ <;> intro hb <;> try simp only [ew, e2] at hb | simp only [go_sem, simprocAttr, *, cPbs, cL1In, cAll2, cCnt, Tryz.results155, e2])
     ·have e5 : x = M := by omega
      subst e5
      have h6' : decide ((x : Int) ≤ (x : Int) - 1) = false := decide_eq_false (by omega)
      have e2 : pbsO x (s + 1) = pbsO x s ++ pbsA s x := rfl
      (repeat' first | refine gA fun _ => ?_ | refine fkI ?_ ?_ <;> intro hb <;> try simp only [ew, hM, h6'] at hb | simp only [go_sem, simprocAttr, *, cPbs, cL1In, cAll2, cCnt, Tryz.results155, hM, h6'])
      refine lpN (s + 1) (by dsimp only; omega) (by dsimp only; omega) ?_
      (repeat' first | refine gA fun _ => ?_ | refine fkI ?_ ?_ <;> intro hb <;> try simp only [ew, e2] at hb | simp only [go_sem, simprocAttr, *, cPbs, cL1In, cAll2, cCnt, Tryz.results155, e2])
   ·have e5 : s = c + 1 := by omega
    subst e5
    have h5' : decide (c + 1 ≤ c) = false := decide_eq_false (by omega)
    (repeat' first | refine gA fun _ => ?_ | refine fkI ?_ ?_ <;> intro hb <;> try simp only [ew, h5'] at hb | simp only [go_sem, simprocAttr, *, cPbs, cL1In, cAll2, cCnt, Tryz.results155, h5'])
end Go.Own
namespace Go.Own
open Go Go.Proofs
def dgF : Nat → Int → List Int → List Int
 | 0, _, acc => acc
 | k + 1, m, acc => if m = 0 then acc else dgF k (m / 10) ((48 + m % 10) :: acc)
theorem dgF_len : ∀ {k : Nat} {m : Int} {acc : List Int}, (dgF k m acc).length ≤ k + acc.length
 | 0, m, acc => by simp [dgF]
 | k + 1, m, acc => by
  rw [dgF]
  split
  ·omega
  ·have := @dgF_len k (m / 10) ((48 + m % 10) :: acc)
   simp only [List.length_cons] at this
   omega
theorem dgF_zero {k : Nat} {acc : List Int} : dgF k 0 acc = acc := by cases k <;> simp [dgF]
theorem dgF_go {k : Nat} {m : Int} {acc : List Int} (h : m ≠ 0) : dgF (k + 1) m acc = dgF k (m / 10) ((48 + m % 10) :: acc) := by rw [dgF, if_neg h]
end Go.Own
