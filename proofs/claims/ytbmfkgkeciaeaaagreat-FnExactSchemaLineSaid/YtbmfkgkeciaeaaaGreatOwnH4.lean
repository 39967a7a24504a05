import Derived.Test.YtbmfkgkeciaeaaaGreatOwnH3
namespace Go.Own
open Go Go.Proofs
set_option linter.unusedSimpArgs false
set_option linter.unusedVariables false
set_option maxRecDepth 20000
set_option maxHeartbeats 2000000

attribute [local go_sem] unD_dL dL_length dL_get dL_set dL_inj wfD_dL scal2 beq2 pair_eta

/-! The columns that are in a key of a set. -/
def pqB (ds : List (Int × Int)) (set x : Int) : Bool := insB x set && insB set (clo ds x)
def prL (M : Nat) (ds : List (Int × Int)) (set : Int) : List Int := (rng M).filter (pqB ds set)
def orL (l : List Int) : Int := l.foldl (fun a x => bitI .or .i64 a x) 0
def primeL (n : Int) (ds : List (Int × Int)) (set : Int) : Int := orL (selS minT1 (prL (2 ^ n.toNat) ds set))
theorem orr_key : ∀ x y : Fin 32, 0 ≤ bitI .or .i64 ((x.val : Nat) : Int) ((y.val : Nat) : Int) ∧ bitI .or .i64 ((x.val : Nat) : Int) ((y.val : Nat) : Int) ≤ 31 := by decide +kernel
theorem or_R {x y : Int} (hx : R5 x) (hy : R5 y) : R5 (bitI .or .i64 x y) := by
  obtain ⟨x, rfl⟩ := hx.fin; obtain ⟨y, rfl⟩ := hy.fin
  exact orr_key x y
theorem foldl_or_R : ∀ {l : List Int} {a : Int}, R5 a → (∀ x ∈ l, R5 x) → R5 (l.foldl (fun a x => bitI .or .i64 a x) a)
  | [], a, h, _ => h
  | x :: l, a, h, hl => foldl_or_R (l := l) (or_R h (hl x (by simp))) fun y hy => hl y (by simp [hy])
theorem orL_R {l : List Int} (hl : ∀ x ∈ l, R5 x) : R5 (orL l) := foldl_or_R ⟨by decide, by decide⟩ hl
theorem orL_snoc {l : List Int} {x : Int} : orL (l ++ [x]) = bitI .or .i64 (orL l) x := by unfold orL; rw [List.foldl_append]; rfl
theorem ins_le_key : ∀ x s : Fin 32, insB ((x.val : Nat) : Int) ((s.val : Nat) : Int) = true → x.val ≤ s.val := by decide +kernel
theorem ins_le {x s : Int} (hx : R5 x) (hs : R5 s) (h : insB x s = true) : x ≤ s := by
  obtain ⟨x, rfl⟩ := hx.fin; obtain ⟨s, rfl⟩ := hs.fin
  have := ins_le_key x s h
  omega
theorem rng_filter {p : Int → Bool} : ∀ {M N : Nat}, N ≤ M → (∀ x : Nat, N ≤ x → x < M → p x = false) → (rng M).filter p = (rng N).filter p
  | 0, N, h, _ => by obtain rfl : N = 0 := by omega
                     rfl
  | M + 1, N, h, hp => by
    by_cases e : N = M + 1
    · rw [e]
    · rw [rng_succ, List.filter_append, List.filter_cons, hp M (by omega) (by omega), if_neg (by decide), List.filter_nil, List.append_nil]
      exact rng_filter (by omega) fun x h1 h2 => hp x h1 (by omega)
theorem attr_pow {n : Nat} {set : Int} (h : isAttr n set = true) : set < ((2 ^ n : Nat) : Int) := by
  simp only [isAttr, Bool.and_eq_true, inB_iff, all2, Int.toNat_natCast, Int.one_mul] at h
  have : ((2 ^ n : Nat) : Int) = (2 : Int) ^ n := by simp
  omega
theorem prL_set {n : Nat} {ds : List (Int × Int)} {set : Int} (h : isAttr n set = true) : prL (2 ^ n) ds set = (rng (set.toNat + 1)).filter (pqB ds set) := by
  obtain ⟨_, n5, s0, s31⟩ := isAttr_le h
  have h1 := attr_pow h
  have hM2 : 2 ^ n ≤ 32 := Nat.le_trans (Nat.pow_le_pow_right (by omega) (show n ≤ 5 by omega)) (by decide)
  refine rng_filter (by omega) fun x hx1 hx2 => ?_
  rw [← Bool.not_eq_true]
  intro hq
  simp only [pqB, Bool.and_eq_true] at hq
  have := ins_le (x := (x : Int)) (s := set) ⟨by omega, by omega⟩ ⟨s0, s31⟩ hq.1
  omega
theorem prL_len {M : Nat} {ds : List (Int × Int)} {set : Int} : (prL M ds set).length ≤ M := by
  have := List.length_filter_le (pqB ds set) (rng M)
  rw [rng_length] at this
  exact this
theorem rng_filter_succ {p : Int → Bool} {x : Nat} : (rng (x + 1)).filter p = (rng x).filter p ++ (if p x then [(x : Int)] else []) := by
  rw [rng_succ, List.filter_append, List.filter_cons, List.filter_nil]
theorem rng_filter_len {p : Int → Bool} {x : Nat} : ((rng x).filter p).length ≤ x := by
  have := List.length_filter_le p (rng x)
  rw [rng_length] at this
  exact this
theorem sel_at {t : Int → Int → Bool} {l : List Int} {i : Nat} (h : i < (selS t l).length) : 0 ≤ (selS t l).getD i 0 ∧ (selS t l).getD i 0 ≤ 31 := by
  have := isAttr_le (selS_mem (getD_mem h 0)).2
  exact this.2.2
theorem primeL_R {n : Int} {ds : List (Int × Int)} {set : Int} : R5 (primeL n ds set) := orL_R fun x hx => by
  have := isAttr_le (selS_mem hx).2
  exact this.2.2
def cPrime : Contract := ⟨[], false, fun
  | [.one (.v (.int .i64 n)), .one (.sl 2 l), .one (.v (.int .i64 set))] => some (WfD l ∧ depsOK n (unD l) = true ∧ isAttr n set = true, [⟨false, [.d (.v (.int .i64 (primeL n (unD l) set)))]⟩], [])
  | _ => none⟩
/-! Third normal form. -/
def thB (n : Int) (ds : List (Int × Int)) (set : Int) : Bool := depsOK n ds && isAttr n set && !(brk n ds set (primeL n ds set)).isSome
def cThird : Contract := ⟨[], false, fun
  | [.one (.v (.int .i64 n)), .one (.sl 2 l), .one (.v (.int .i64 set))] => some (WfD l ∧ -9223372036854775808 ≤ n ∧ n ≤ 9223372036854775807, [⟨false, [.d (.v (.bool (thB n (unD l) set)))]⟩], [])
  | _ => none⟩
end Go.Own
