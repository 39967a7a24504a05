import Derived.Test.YtaigpolfbonjgaaGreatDoorOwnTb
set_option linter.unusedSimpArgs false
set_option linter.unusedVariables false
set_option maxRecDepth 20000
set_option maxHeartbeats 2000000
namespace Go.Own
open Go Go.Proofs
def modeOK (m : Int) : Bool := m == 0 || m == 1
def eqc (m a b : Int) : Bool := modeOK m && a == b && (m == 0 || a != -1)
def agL (m : Int) (a b : List Int) : Nat → Int
 | 0 => 0
 | c + 1 => if eqc m (a.getD c 0) (b.getD c 0) then bitI .or .i64 (agL m a b c) (1 * 2 ^ c) else agL m a b c
theorem or_key : ∀ x : Fin 32, ∀ c : Fin 5, 0 ≤ bitI .or .i64 ((x.val : Nat) : Int) (1 * 2 ^ c.val) ∧ bitI .or .i64 ((x.val : Nat) : Int) (1 * 2 ^ c.val) ≤ 31 := by decide +kernel
theorem agL_range {m : Int} {a b : List Int} : ∀ {n : Nat}, n ≤ 5 → 0 ≤ agL m a b n ∧ agL m a b n ≤ 31
 | 0, _ => by simp [agL]
 | c + 1, h => by
  have ih := @agL_range m a b c (by omega)
  simp only [agL]
  split
  ·have := or_key ⟨(agL m a b c).toNat, by omega⟩ ⟨c, by omega⟩
   rwa [show (((agL m a b c).toNat : Nat) : Int) = agL m a b c by omega] at this
  ·exact ih
def depOK (n l r : Int) : Bool := inB n 1 5 && isAttr n l && inB r 0 (n - 1)
def badS (x l r : Int) : Bool := (bitI .and .i64 x l == l) && (bitI .and .i64 (x.fdiv (2 ^ r.toNat)) 1 == 0)
def badI (x l r : Int) : Bool := (bitI .andNot .i64 l x == 0) && !hasB x r
theorem bad_key : ∀ x l : Fin 32, ∀ r : Fin 5, badI ((x.val : Nat) : Int) ((l.val : Nat) : Int) ((r.val : Nat) : Int) = badS ((x.val : Nat) : Int) ((l.val : Nat) : Int) ((r.val : Nat) : Int) := by decide +kernel
theorem bad_eq {x l r : Int} (hx : 0 ≤ x ∧ x ≤ 31) (hl : 0 ≤ l ∧ l ≤ 31) (hr : 0 ≤ r ∧ r ≤ 4) : badI x l r = badS x l r := by
 have := bad_key ⟨x.toNat, by omega⟩ ⟨l.toNat, by omega⟩ ⟨r.toNat, by omega⟩
 rwa [show ((x.toNat : Nat) : Int) = x by omega, show ((l.toNat : Nat) : Int) = l by omega, show ((r.toNat : Nat) : Int) = r by omega] at this
def dpC (rs : List (List Int)) (c : Nat) (m l r : Int) (i k : Nat) : Bool := badS (agL m (rs.getD i []) (rs.getD k []) c) l r
def dpK (rs : List (List Int)) (c : Nat) (m l r : Int) (i : Nat) : Nat → Nat → Option Nat
 | _, 0 => none
 | k, n + 1 => if dpC rs c m l r i k then some k else dpK rs c m l r i (k + 1) n
def dpI (rs : List (List Int)) (c : Nat) (m l r : Int) : Nat → Nat → Option (Nat × Nat)
 | _, 0 => none
 | i, n + 1 => match dpK rs c m l r i (i + 1) (rs.length - (i + 1)) with
  | some k => some (i, k)
  | none => dpI rs c m l r (i + 1) n
def askOK (c : Int) (rs : List (List Int)) (m l r : Int) : Bool := tabOK c rs && modeOK m && depOK c l r
def wtO (c : Int) (rs : List (List Int)) (m l r : Int) : Option (Nat × Nat) := dpI rs c.toNat m l r 0 rs.length
def hdB (c : Int) (rs : List (List Int)) (m l r : Int) : Bool := askOK c rs m l r && (wtO c rs m l r).isNone
def prI : Option (Nat × Nat) → Int × Int
 | some (i, k) => ((i : Int), (k : Int))
 | none => (-1, -1)
def wtR (c : Int) (rs : List (List Int)) (m l r : Int) : Option (Nat × Nat) := if askOK c rs m l r then wtO c rs m l r else none
theorem p5 {c : Nat} (h : c < 5) : 1 ≤ (2 : Int) ^ c ∧ (2 : Int) ^ c ≤ 16 := by
 have : c = 0 ∨ c = 1 ∨ c = 2 ∨ c = 3 ∨ c = 4 := by omega
 rcases this with rfl | rfl | rfl | rfl | rfl <;> decide
def cMode : Contract := ⟨[], false, fun
 | [.one (.v (.int .i64 m))] => some (True, [⟨false, [.d (.v (.bool (modeOK m)))]⟩], [])
 | _ => none⟩
theorem modeI_ok : ContractOK E0 80 cMode := by
 refine cWpc (E := E0) (T := mkT Tryz.prog [] false (fun _ => false) true (fun _ => false)) (mkT_ok (E := E0) .nil) (fn := Tryz.f80) Tryz.func80 (by kernel_rfl) rfl mixedT (by kernel_rfl) rfl ?_
 intro args p rs ms hr
 unfold cMode at hr
 dsimp only at hr
 split at hr
 rotate_left
 ·cases hr
 rename_i m
 simp only [Option.some.injEq, Prod.mk.injEq] at hr
 obtain ⟨rfl, rfl, rfl⟩ := hr
 refine ⟨rfl, rfl, Nat.le_of_ble_eq_true rfl, ?_⟩
 have hm : maxLen = 9223372036854775807 := rfl
 intro _ bs
 unfold modeOK
 (repeat' first | refine gA fun _ => ?_ | refine fkI ?_ ?_ <;> intro hb <;> try simp only [ew] at hb | simp only [go_sem, simprocAttr, *, cMode, Tryz.results80])
theorem modeS_ok : ContractOK E0 87 cMode := by
 refine cWpc (E := E0) (T := mkT Tryz.prog [] false (fun _ => false) true (fun _ => false)) (mkT_ok (E := E0) .nil) (fn := Tryz.f87) Tryz.func87 (by kernel_rfl) rfl mixedT (by kernel_rfl) rfl ?_
 intro args p rs ms hr
 unfold cMode at hr
 dsimp only at hr
 split at hr
 rotate_left
 ·cases hr
 rename_i m
 simp only [Option.some.injEq, Prod.mk.injEq] at hr
 obtain ⟨rfl, rfl, rfl⟩ := hr
 refine ⟨rfl, rfl, Nat.le_of_ble_eq_true rfl, ?_⟩
 have hm : maxLen = 9223372036854775807 := rfl
 intro _ bs
 unfold modeOK
 (repeat' first | refine gA fun _ => ?_ | refine fkI ?_ ?_ <;> intro hb <;> try simp only [ew] at hb | simp only [go_sem, simprocAttr, *, cMode, Tryz.results87])
def cEqc : Contract := ⟨[], false, fun
 | [.one (.v (.int .i64 m)), .one (.v (.int .i64 a)), .one (.v (.int .i64 b))] => some (True, [⟨false, [.d (.v (.bool (eqc m a b)))]⟩], [])
 | _ => none⟩
theorem eqcI_ok : ContractOK E0 85 cEqc := by
 refine cWpc (E := E0) (T := mkT Tryz.prog [(80, cMode)] false (fun _ => false) true (fun _ => false)) (mkT_ok (E := E0) (.cons modeI_ok .nil)) (fn := Tryz.f85) Tryz.func85 (by kernel_rfl) rfl mixedT (by kernel_rfl) rfl ?_
 intro args p rs ms hr
 unfold cEqc at hr
 dsimp only at hr
 split at hr
 rotate_left
 ·cases hr
 rename_i m a b
 simp only [Option.some.injEq, Prod.mk.injEq] at hr
 obtain ⟨rfl, rfl, rfl⟩ := hr
 refine ⟨rfl, rfl, Nat.le_of_ble_eq_true rfl, ?_⟩
 have hm : maxLen = 9223372036854775807 := rfl
 intro _ bs
 unfold eqc
 (repeat' first | refine gA fun _ => ?_ | refine fkI ?_ ?_ <;> intro hb <;> try simp only [ew] at hb | simp only [go_sem, simprocAttr, *, cEqc, cMode, Tryz.results85])
theorem eqcS_ok : ContractOK E0 130 cEqc := by
 refine cWpc (E := E0) (T := mkT Tryz.prog [(87, cMode)] false (fun _ => false) true (fun _ => false)) (mkT_ok (E := E0) (.cons modeS_ok .nil)) (fn := Tryz.f130) Tryz.func130 (by kernel_rfl) rfl mixedT (by kernel_rfl) rfl ?_
 intro args p rs ms hr
 unfold cEqc at hr
 dsimp only at hr
 split at hr
 rotate_left
 ·cases hr
 rename_i m a b
 simp only [Option.some.injEq, Prod.mk.injEq] at hr
 obtain ⟨rfl, rfl, rfl⟩ := hr
 refine ⟨rfl, rfl, Nat.le_of_ble_eq_true rfl, ?_⟩
 have hm : maxLen = 9223372036854775807 := rfl
 intro _ bs
 unfold eqc
 (repeat' first | refine gA fun _ => ?_ | refine fkI ?_ ?_ <;> intro hb <;> try simp only [ew] at hb | simp only [go_sem, simprocAttr, *, cEqc, cMode, Tryz.results130])
def cAgree : Contract := ⟨[], false, fun
 | [.one (.v (.int .i64 m)), .one (.sl 1 a), .one (.sl 1 b)] => some (WfI a ∧ WfI b ∧ a.length = b.length ∧ a.length ≤ 5, [⟨false, [.d (.v (.int .i64 (agL m (unI a) (unI b) a.length)))]⟩], [])
 | _ => none⟩
theorem agree_ok : ContractOK E0 82 cAgree := by
 refine cWpc (E := E0) (T := mkT Tryz.prog [(85, cEqc)] false (fun _ => false) true (fun _ => false)) (mkT_ok (E := E0) (.cons eqcI_ok .nil)) (fn := Tryz.f82) Tryz.func82 (by kernel_rfl) rfl mixedT (by kernel_rfl) rfl ?_
 intro args p rs ms hr
 unfold cAgree at hr
 dsimp only at hr
 split at hr
 rotate_left
 ·cases hr
 rename_i m a b
 simp only [Option.some.injEq, Prod.mk.injEq] at hr
 obtain ⟨rfl, rfl, rfl⟩ := hr
 refine ⟨rfl, rfl, Nat.le_of_ble_eq_true rfl, ?_⟩
 have hm : maxLen = 9223372036854775807 := rfl
 rintro ⟨h1, h2, h3, h4⟩ bs
 obtain ⟨xs, rfl, hx⟩ := h1.ex
 obtain ⟨ys, rfl, hy⟩ := h2.ex
 clear h1 h2
 rw [iL_length, iL_length] at h3
 rw [iL_length] at h4
 rw [unI_iL, unI_iL, iL_length]
 (repeat' first | refine gA fun _ => ?_ | refine fkI ?_ ?_ <;> intro hb <;> try simp only [ew] at hb | simp only [go_sem, simprocAttr, *, cAgree, cEqc, Tryz.results82])
 refine lpI { ι := Nat, rs := [(8, 9), (12, 29)], mods := [(11, fun i => .one (.d (.v (.int .i64 i)))), (7, fun i => .one (.d (.v (.int .i64 (agL m xs ys i)))))], boxes := [], arrs := [], ok := fun i => i ≤ xs.length, mu := fun i => xs.length - i } rfl 0 (Nat.zero_le _) ?_ fun i hi => ?_
 ·(repeat' first | refine gA fun _ => ?_ | refine fkI ?_ ?_ <;> intro hb <;> try simp only [ew] at hb | simp only [go_sem, simprocAttr, *, cAgree, cEqc, Tryz.results82])
  all_goals first | rfl | skip
 ·dsimp only at i hi
  have hp := fun h => @p5 i h
  by_cases h5 : i < xs.length
  ·have hp := hp (by omega)
   have h5' : i < ys.length := by omega
   (repeat' first | refine gA fun _ => ?_ | refine fkI ?_ ?_ <;> intro hb <;> try simp only [ew, bits64] at hb | simp only [go_sem, simprocAttr, *, cAgree, cEqc, Tryz.results82, bits64])
   ·have hh := ‹eqc m (xs.getD i 0) (ys.getD i 0) = true›
    have e : agL m xs ys (i + 1) = bitI .or .i64 (agL m xs ys i) (1 * 2 ^ i) := by rw [agL, if_pos hh]
    refine lpN (i + 1) (by dsimp only; omega) (by dsimp only; omega) ?_
    clear hh
    (repeat' first | refine gA fun _ => ?_ | refine fkI ?_ ?_ <;> intro hb <;> try simp only [ew, e] at hb | simp only [go_sem, simprocAttr, *, cAgree, cEqc, Tryz.results82, e])
   ·have hh := ‹eqc m (xs.getD i 0) (ys.getD i 0) = false›
    have e : agL m xs ys (i + 1) = agL m xs ys i := by rw [agL, if_neg (by rw [hh]; decide)]
    refine lpN (i + 1) (by dsimp only; omega) (by dsimp only; omega) ?_
    clear hh
    (repeat' first | refine gA fun _ => ?_ | refine fkI ?_ ?_ <;> intro hb <;> try simp only [ew, e] at hb | simp only [go_sem, simprocAttr, *, cAgree, cEqc, Tryz.results82, e])
  ·have h5' : ¬ i < ys.length := by omega
   have e5 : i = xs.length := by omega
   subst e5
   (repeat' first | refine gA fun _ => ?_ | refine fkI ?_ ?_ <;> intro hb <;> try simp only [ew] at hb | simp only [go_sem, simprocAttr, *, cAgree, cEqc, Tryz.results82])
def cL4A : Contract := ⟨[], false, fun
 | [.agg [.v (.int .i64 c), .sl 1 l], .one (.v (.int .i64 m)), .one (.v (.int .i64 i)), .one (.v (.int .i64 k))] => some (WfS l ∧ tabOK c (unS l) = true ∧ (0 ≤ i ∧ i < l.length) ∧ 0 ≤ k ∧ k < l.length,
   [⟨false, [.d (.v (.int .i64 (agL m ((unS l).getD i.toNat []) ((unS l).getD k.toNat []) c.toNat)))]⟩], [])
 | _ => none⟩
theorem tab_rows {c : Int} {rs : List (List Int)} (h : tabOK c rs = true) : ∃ c' : Nat, c = c' ∧ 1 ≤ c' ∧ c' ≤ 5 ∧ rs.length ≤ 40 ∧ ∀ i, i < rs.length → (rs.getD i []).length = c' := by
 have h1 := tab_c h
 have h2 : inB 0 0 (c - 1) = true := inB_iff.2 ⟨by omega, by omega⟩
 obtain ⟨a', c', _, h3, _, h4, h5⟩ := col_facts h h2
 exact ⟨c', h3, by omega, by omega, h4, h5⟩
theorem l4A_ok : ContractOK E0 91 cL4A := by
 refine cWpc (E := E0) (T := mkT Tryz.prog [(130, cEqc)] false (fun _ => false) true (fun _ => false)) (mkT_ok (E := E0) (.cons eqcS_ok .nil)) (fn := Tryz.f91) Tryz.func91 (by kernel_rfl) rfl mixedT (by kernel_rfl) rfl ?_
 intro args p rs ms hr
 unfold cL4A at hr
 dsimp only at hr
 split at hr
 rotate_left
 ·cases hr
 rename_i c l m a b
 simp only [Option.some.injEq, Prod.mk.injEq] at hr
 obtain ⟨rfl, rfl, rfl⟩ := hr
 refine ⟨rfl, rfl, Nat.le_of_ble_eq_true rfl, ?_⟩
 have hm : maxLen = 9223372036854775807 := rfl
 rintro ⟨h1, ht, ⟨ha1, ha2⟩, hb1, hb2⟩ bs
 obtain ⟨rs, rfl, hx, hy⟩ := h1.ex
 clear h1
 rw [unS_sL] at ht ⊢
 rw [sL_length] at ha2 hb2
 obtain ⟨c, rfl, c1, c5, h40, hlen⟩ := tab_rows ht
 obtain ⟨a, rfl⟩ := Int.eq_ofNat_of_zero_le ha1
 obtain ⟨b, rfl⟩ := Int.eq_ofNat_of_zero_le hb1
 have la := hlen a (by omega)
 have lb := hlen b (by omega)
 simp only [Int.toNat_natCast]
 have ha3 : a < rs.length := by omega
 have hb3 : b < rs.length := by omega
 (repeat' first | refine gA fun _ => ?_ | refine fkI ?_ ?_ <;> intro hb <;> try simp only [ew] at hb | simp only [go_sem, simprocAttr, *, cL4A, cEqc, Tryz.results91])
 refine lpI { ι := Nat, rs := [(11, 39)], mods := [(10, fun i => .one (.d (.v (.int .i64 i)))), (9, fun i => .one (.d (.v (.int .i64 (agL m (rs.getD a []) (rs.getD b []) i)))))], boxes := [(4, fun _ => [.d (.v (.int .i64 c)), .d (.sl 1 (sL rs))])], arrs := [], ok := fun i => i ≤ c, mu := fun i => c - i } rfl 0 (Nat.zero_le _) ?_ fun i hi => ?_
 ·(repeat' first | refine gA fun _ => ?_ | refine fkI ?_ ?_ <;> intro hb <;> try simp only [ew] at hb | simp only [go_sem, simprocAttr, *, cL4A, cEqc, Tryz.results91])
  all_goals first | rfl | skip
 ·dsimp only at i hi
  have hp := fun h => @p5 i h
  by_cases h5 : i < c
  ·have hp := hp (by omega)
   (repeat' first | refine gA fun _ => ?_ | refine fkI ?_ ?_ <;> intro hb <;> try simp only [ew, bits64] at hb | simp only [go_sem, simprocAttr, *, cL4A, cEqc, Tryz.results91, bits64])
   ·have hh := ‹eqc m ((rs.getD a []).getD i 0) ((rs.getD b []).getD i 0) = true›
    have e : agL m (rs.getD a []) (rs.getD b []) (i + 1) = bitI .or .i64 (agL m (rs.getD a []) (rs.getD b []) i) (1 * 2 ^ i) := by rw [agL, if_pos hh]
    refine lpN (i + 1) (by dsimp only; omega) (by dsimp only; omega) ?_
    clear hh
    (repeat' first | refine gA fun _ => ?_ | refine fkI ?_ ?_ <;> intro hb <;> try simp only [ew, e] at hb | simp only [go_sem, simprocAttr, *, cL4A, cEqc, Tryz.results91, e])
   ·have hh := ‹eqc m ((rs.getD a []).getD i 0) ((rs.getD b []).getD i 0) = false›
    have e : agL m (rs.getD a []) (rs.getD b []) (i + 1) = agL m (rs.getD a []) (rs.getD b []) i := by rw [agL, if_neg (by rw [hh]; decide)]
    refine lpN (i + 1) (by dsimp only; omega) (by dsimp only; omega) ?_
    clear hh
    (repeat' first | refine gA fun _ => ?_ | refine fkI ?_ ?_ <;> intro hb <;> try simp only [ew, e] at hb | simp only [go_sem, simprocAttr, *, cL4A, cEqc, Tryz.results91, e])
  ·have e5 : i = c := by omega
   subst e5
   (repeat' first | refine gA fun _ => ?_ | refine fkI ?_ ?_ <;> intro hb <;> try simp only [ew] at hb | simp only [go_sem, simprocAttr, *, cL4A, cEqc, Tryz.results91])
def cDep : Contract := ⟨[], false, fun
 | [.one (.v (.int .i64 n)), .agg [.v (.int .i64 l), .v (.int .i64 r)]] => some (-9223372036854775808 ≤ n ∧ n ≤ 9223372036854775807, [⟨false, [.d (.v (.bool (depOK n l r)))]⟩], [])
 | _ => none⟩
theorem depS_ok : ContractOK E0 44 cDep := by
 refine cWpc (E := E0) (T := mkT Tryz.prog [(62, cL1In), (88, cIsAttr)] false (fun _ => false) true (fun _ => false)) (mkT_ok (E := E0) (.cons l1In_ok (.cons isAttrS_ok .nil))) (fn := Tryz.f44) Tryz.func44 (by kernel_rfl) rfl mixedT (by kernel_rfl) rfl ?_
 intro args p rs ms hr
 unfold cDep at hr
 dsimp only at hr
 split at hr
 rotate_left
 ·cases hr
 rename_i n l r
 simp only [Option.some.injEq, Prod.mk.injEq] at hr
 obtain ⟨rfl, rfl, rfl⟩ := hr
 refine ⟨rfl, rfl, Nat.le_of_ble_eq_true rfl, ?_⟩
 have hm : maxLen = 9223372036854775807 := rfl
 rintro ⟨h1, h2⟩ bs
 unfold depOK
 (repeat' (first | (refine gate_intro (by first | omega | (intro h; simp only [inB_iff, Bool.and_eq_true] at h; omega) | ((repeat' (first | apply And.intro | assumption | omega | intro _)); done) | (simp only [maxLen]; omega) | simp_all | (simp_all [maxLen]; omega)) fun _ => ?_) | (refine fkI (fun hb => ?_) (fun hb => ?_) <;> (try simp only [ew] at hb)) | (simp only [go_sem, simprocAttr, *, cDep, cL1In, cIsAttr, Tryz.results44])))
theorem depI_ok : ContractOK E0 81 cDep := by
 refine cWpc (E := E0) (T := mkT Tryz.prog [(116, cIsAttr)] false (fun _ => false) true (fun _ => false)) (mkT_ok (E := E0) (.cons isAttrI_ok .nil)) (fn := Tryz.f81) Tryz.func81 (by kernel_rfl) rfl mixedT (by kernel_rfl) rfl ?_
 intro args p rs ms hr
 unfold cDep at hr
 dsimp only at hr
 split at hr
 rotate_left
 ·cases hr
 rename_i n l r
 simp only [Option.some.injEq, Prod.mk.injEq] at hr
 obtain ⟨rfl, rfl, rfl⟩ := hr
 refine ⟨rfl, rfl, Nat.le_of_ble_eq_true rfl, ?_⟩
 have hm : maxLen = 9223372036854775807 := rfl
 rintro ⟨h1, h2⟩ bs
 have e : depOK n l r = (decide (n ≥ 1) && isAttr n l && decide (r ≥ 0) && decide (r < n)) := by
  rw [Bool.eq_iff_iff]
  unfold depOK
  simp only [Bool.and_eq_true, inB_iff, decide_eq_true_eq]
  constructor
  ·rintro ⟨⟨⟨q1, q2⟩, q3⟩, q4, q5⟩; exact ⟨⟨⟨q1, q3⟩, q4⟩, by omega⟩
  ·rintro ⟨⟨⟨q1, q3⟩, q4⟩, q5⟩
   have := isAttr_le q3
   exact ⟨⟨⟨q1, by omega⟩, q3⟩, q4, by omega⟩
 rw [e]
 clear e
 (repeat' first | refine gA fun _ => ?_ | refine fkI ?_ ?_ <;> intro hb <;> try simp only [ew] at hb | simp only [go_sem, simprocAttr, *, cDep, cIsAttr, Tryz.results81])
def cAsk : Contract := ⟨[], false, fun
 | [.agg [.v (.int .i64 c), .sl 1 t], .one (.v (.int .i64 m)), .agg [.v (.int .i64 l), .v (.int .i64 r)]] => some (WfS t ∧ -9223372036854775808 ≤ c ∧ c ≤ 9223372036854775807, [⟨false, [.d (.v (.bool (askOK c (unS t) m l r)))]⟩], [])
 | _ => none⟩
theorem ask_ok : ContractOK E0 39 cAsk := by
 refine cWpc (E := E0) (T := mkT Tryz.prog [(79, cIsTableS), (80, cMode), (81, cDep)] false (fun _ => false) true (fun _ => false)) (mkT_ok (E := E0) (.cons isTableI_ok (.cons modeI_ok (.cons depI_ok .nil)))) (fn := Tryz.f39) Tryz.func39 (by kernel_rfl) rfl mixedT (by kernel_rfl) rfl ?_
 intro args p rs ms hr
 unfold cAsk at hr
 dsimp only at hr
 split at hr
 rotate_left
 ·cases hr
 rename_i c t m l r
 simp only [Option.some.injEq, Prod.mk.injEq] at hr
 obtain ⟨rfl, rfl, rfl⟩ := hr
 refine ⟨rfl, rfl, Nat.le_of_ble_eq_true rfl, ?_⟩
 have hm : maxLen = 9223372036854775807 := rfl
 rintro ⟨h1, hc1, hc2⟩ bs
 obtain ⟨rs, rfl, hx, hy⟩ := h1.ex
 clear h1
 rw [unS_sL]
 unfold askOK
 (repeat' first | refine gA fun _ => ?_ | refine fkI ?_ ?_ <;> intro hb <;> try simp only [ew] at hb | simp only [go_sem, simprocAttr, *, cAsk, cIsTableS, cMode, cDep, Tryz.results39])
def cFine : Contract := ⟨[], false, fun
 | [.agg [.v (.int .i64 c), .sl 1 t], .one (.v (.int .i64 m))] => some (WfS t ∧ -9223372036854775808 ≤ c ∧ c ≤ 9223372036854775807, [⟨false, [.d (.v (.bool (tabOK c (unS t) && modeOK m)))]⟩], [])
 | _ => none⟩
theorem fine_ok : ContractOK E0 43 cFine := by
 refine cWpc (E := E0) (T := mkT Tryz.prog [(86, cIsTableS), (87, cMode)] false (fun _ => false) true (fun _ => false)) (mkT_ok (E := E0) (.cons isTableS_ok (.cons modeS_ok .nil))) (fn := Tryz.f43) Tryz.func43 (by kernel_rfl) rfl mixedT (by kernel_rfl) rfl ?_
 intro args p rs ms hr
 unfold cFine at hr
 dsimp only at hr
 split at hr
 rotate_left
 ·cases hr
 rename_i c t m
 simp only [Option.some.injEq, Prod.mk.injEq] at hr
 obtain ⟨rfl, rfl, rfl⟩ := hr
 refine ⟨rfl, rfl, Nat.le_of_ble_eq_true rfl, ?_⟩
 have hm : maxLen = 9223372036854775807 := rfl
 rintro ⟨h1, hc1, hc2⟩ bs
 obtain ⟨rs, rfl, hx, hy⟩ := h1.ex
 clear h1
 rw [unS_sL]
 (repeat' first | refine gA fun _ => ?_ | refine fkI ?_ ?_ <;> intro hb <;> try simp only [ew] at hb | simp only [go_sem, simprocAttr, *, cFine, cIsTableS, cMode, Tryz.results43])
end Go.Own
