/-
  Plain law: which rows a join has. Conditions: as each theorem states them.
-/
import Derived.Test.YtjembhkhgahhiaaGreatOwnQ6
import Derived.Test.YtjembhkhgahhiaaGreatOwnT2
import Derived.Test.YtjembhkhgahhiaaGreatOwnG4
import Derived.Test.YtjembhkhgahhiaaGreatOwnY1
set_option linter.unusedSimpArgs false
set_option linter.unusedVariables false
set_option maxRecDepth 20000
set_option maxHeartbeats 4000000
namespace Go.Own
open Go Go.Proofs
theorem mem_col {m : List Int} {k : Nat} (hk : ((k : Nat) : Int) ∈ m) : ∃ j, j < m.length ∧ m.getD j 0 = k := by
 obtain ⟨j, hj, e⟩ := List.mem_iff_getElem.1 hk
 exact ⟨j, hj, by rw [List.getD_eq_getElem?_getD, List.getElem?_eq_getElem hj]; simp [e]⟩
theorem jnB_of : ∀ {r m vs : List Int}, m.Pairwise (· < ·) → (∀ c ∈ m, 0 ≤ c) → (∀ j, j < m.length → r.getD (m.getD j 0).toNat 0 = -2 ∨ r.getD (m.getD j 0).toNat 0 = vs.getD j 0) → jnB r m vs = true
 | r, [], vs, _, _, _ => by simp [jnB]
 | r, c :: cs, [], _, _, _ => by simp [jnB]
 | r, c :: cs, v :: vs, hp, h0, h => by
  have hp' := List.pairwise_cons.1 hp
  rw [jnB, Bool.and_eq_true]
  refine ⟨?_, jnB_of hp'.2 (fun c' hc' => h0 c' (by simp [hc'])) fun j hj => ?_⟩
  ·have := h 0 (by simp)
   simpa using this
  ·have := h (j + 1) (by simpa using hj)
   have e : (c :: cs).getD (j + 1) 0 = cs.getD j 0 := rfl
   have e2 : (v :: vs).getD (j + 1) 0 = vs.getD j 0 := rfl
   rw [e, e2] at this
   have hm : cs.getD j 0 ∈ cs := by rw [List.getD_eq_getElem?_getD, List.getElem?_eq_getElem hj]; simp
   have hlt := hp'.1 _ hm
   have hc0 := h0 c (by simp)
   have hne : c.toNat ≠ (cs.getD j 0).toNat := by omega
   have hg : ∀ q : Nat, c.toNat ≠ q → (r.set c.toNat v).getD q 0 = r.getD q 0 := fun q hq => by
    simp [List.getD_eq_getElem?_getD, List.getElem?_set, hq]
   rw [hg _ hne]
   exact this
theorem prRow_get {m r : List Int} {j : Nat} (hj : j < m.length) : (prRow m r).getD j 0 = r.getD (m.getD j 0).toNat 0 := by
 unfold prRow
 simp [List.getD_eq_getElem?_getD, List.getElem?_map, List.getElem?_eq_getElem hj]
theorem prRow_length {m r : List Int} : (prRow m r).length = m.length := by simp [prRow]
theorem prL_mem {rs : List (List Int)} {x : Int} {v : List Int} : v ∈ prL rs x ↔ ∃ r ∈ rs, prRow (mem x) r = v := by
 unfold prL; rw [onceL_mem, List.mem_map]
def JnM (rs : List (List Int)) (n : Nat) (qs : List Int) (z : List Int) : Prop := z.length = n ∧ (∀ k : Nat, k < n → (∀ q ∈ qs, (k : Int) ∉ mem q) → z.getD k 0 = -2) ∧ ∀ q ∈ qs, fitsOn rs z q
theorem jn_step {rs : List (List Int)} {n : Nat} {qs : List Int} {l : List (List Int)} {x : Int} (h : JnP rs n (qs ++ [x])) (ih : ∀ y, y ∈ l ↔ JnM rs n qs y) (z : List Int) : z ∈ extI l (prL rs x) (mem x) ↔ JnM rs n (qs ++ [x]) z := by
 obtain ⟨p1, p2, p3, p4, _⟩ := h.p (x := x) (by simp)
 have hq : ∀ q ∈ qs, ∀ c ∈ mem q, 0 ≤ c ∧ c.toNat < n := fun q hq => (h.p (x := q) (by simp [hq])).2.2.1
 have hv : ∀ r ∈ rs, ∀ k : Nat, k < n → r.getD k 0 ≠ -2 := fun r hr k hk => h.val r hr _ (getD_mem (by rw [h.len r hr]; exact hk) 0)
 rw [extI_mem]
 constructor
 ·rintro ⟨y, hy, v, hv', e⟩
  obtain ⟨y1, y2, y3⟩ := (ih y).1 hy
  obtain ⟨hb, rfl⟩ := jnRow_some e
  obtain ⟨r, hr, rfl⟩ := prL_mem.1 hv'
  have hin : ∀ k : Nat, (k : Int) ∈ mem x → (jnR y (mem x) (prRow (mem x) r)).getD k 0 = r.getD k 0 ∧ (y.getD k 0 = -2 ∨ y.getD k 0 = r.getD k 0) := fun k hk => by
   obtain ⟨j, hj, ej⟩ := mem_col hk
   have a1 := jnR_in (r := y) (vs := prRow (mem x) r) p2 (fun c hc => by rw [y1]; exact p3 c hc) hj prRow_length.symm
   have a2 := jnB_at p2 (fun c hc => (p3 c hc).1) hb hj prRow_length.symm
   rw [prRow_get hj, ej, Int.toNat_natCast] at a1 a2
   exact ⟨a1, a2⟩
  have hout : ∀ k : Nat, (k : Int) ∉ mem x → (jnR y (mem x) (prRow (mem x) r)).getD k 0 = y.getD k 0 := fun k hk => jnR_out hk fun c hc => (p3 c hc).1
  refine ⟨by rw [jnR_length]; exact y1, fun k hk hno => ?_, fun q hq' => ?_⟩
  ·rw [hout k (hno x (by simp))]
   exact y2 k hk fun q hq => hno q (by simp [hq])
  ·rw [List.mem_append, List.mem_singleton] at hq'
   rcases hq' with hq' | rfl
   ·obtain ⟨r2, hr2, f⟩ := y3 q hq'
    refine ⟨r2, hr2, fun k hk => ?_⟩
    have f1 := f k hk
    have hk5 := hq q hq' _ hk
    rw [Int.toNat_natCast] at hk5
    by_cases hx : (k : Int) ∈ mem x
    ·obtain ⟨a1, a2⟩ := hin k hx
     have a3 := hv r2 hr2 k hk5.2
     rw [f1] at a2
     rcases a2 with a2 | a2
     ·exact absurd a2 a3
     ·rw [a1, a2]
    ·rw [hout k hx]; exact f1
   ·exact ⟨r, hr, fun k hk => (hin k hk).1⟩
 ·rintro ⟨z1, z2, z3⟩
  obtain ⟨r, hr, hf⟩ := z3 x (by simp)
  let y : List Int := (List.range n).map fun (k : Nat) => if qs.any (fun q => (mem q).contains ((k : Nat) : Int)) then z.getD k 0 else -2
  have yl : y.length = n := by simp [y]
  have yk : ∀ k : Nat, k < n → y.getD k 0 = if qs.any (fun q => (mem q).contains ((k : Nat) : Int)) then z.getD k 0 else -2 := fun k hk => by
   simp [y, List.getD_eq_getElem?_getD, hk]
  have yin : ∀ q ∈ qs, ∀ k : Nat, (k : Int) ∈ mem q → y.getD k 0 = z.getD k 0 := fun q hq' k hk => by
   have hk5 := hq q hq' _ hk
   rw [Int.toNat_natCast] at hk5
   rw [yk k hk5.2, if_pos]
   rw [List.any_eq_true]
   exact ⟨q, hq', by simpa using hk⟩
  have yout : ∀ k : Nat, k < n → (∀ q ∈ qs, (k : Int) ∉ mem q) → y.getD k 0 = -2 := fun k hk hno => by
   rw [yk k hk, if_neg]
   rw [List.any_eq_true]
   rintro ⟨q, hq', hc⟩
   exact hno q hq' (by simpa using hc)
  have yor : ∀ k : Nat, k < n → y.getD k 0 = -2 ∨ y.getD k 0 = z.getD k 0 := fun k hk => by
   rw [yk k hk]; split
   ·exact .inr rfl
   ·exact .inl rfl
  have hyM : y ∈ l := (ih y).2 ⟨yl, yout, fun q hq' => by
   obtain ⟨r2, hr2, f⟩ := z3 q (by simp [hq'])
   exact ⟨r2, hr2, fun k hk => by rw [yin q hq' k hk]; exact f k hk⟩⟩
  refine ⟨y, hyM, prRow (mem x) r, prL_mem.2 ⟨r, hr, rfl⟩, ?_⟩
  have hb : jnB y (mem x) (prRow (mem x) r) = true := jnB_of p2 (fun c hc => (p3 c hc).1) fun j hj => by
   have hm := getD_mem hj 0
   obtain ⟨k, ek, _⟩ := mem_nat hm
   have hkn := (p3 _ hm).2
   rw [prRow_get hj]
   rw [ek] at hm hkn ⊢
   rw [Int.toNat_natCast] at hkn ⊢
   rw [← hf k hm]
   exact yor k hkn
  rw [jnRow_eq, if_pos hb]
  congr 1
  refine ext_getD (by rw [jnR_length, yl, z1]) fun k => ?_
  by_cases hk : (k : Int) ∈ mem x
  ·obtain ⟨j, hj, ej⟩ := mem_col hk
   have a1 := jnR_in (r := y) (vs := prRow (mem x) r) p2 (fun c hc => by rw [yl]; exact p3 c hc) hj prRow_length.symm
   rw [prRow_get hj, ej, Int.toNat_natCast] at a1
   rw [a1, hf k hk]
  ·rw [jnR_out hk fun c hc => (p3 c hc).1]
   by_cases hkn : k < n
   ·by_cases hno : ∀ q ∈ qs, (k : Int) ∉ mem q
    ·rw [yout k hkn hno]
     refine (z2 k hkn fun q hq' => ?_).symm
     rw [List.mem_append, List.mem_singleton] at hq'
     rcases hq' with hq' | rfl
     ·exact hno q hq'
     ·exact hk
    ·have : ∃ q ∈ qs, (k : Int) ∈ mem q := Classical.byContradiction fun hc => hno fun q hq' hm => hc ⟨q, hq', hm⟩
     obtain ⟨q, hq', hm⟩ := this
     exact yin q hq' k hm
   ·simp only [List.getD_eq_getElem?_getD]
    rw [List.getElem?_eq_none (by omega), List.getElem?_eq_none (by omega)]
theorem jnI_mem {rs : List (List Int)} {n : Nat} {ps : List Int} (h : JnP rs n ps) : ∀ i, i ≤ ps.length → ∀ z, (z ∈ jnI rs n (ps.take i) ↔ JnM rs n (ps.take i) z)
 | 0, _, z => by
  rw [List.take_zero]
  unfold jnI JnM
  rw [List.foldl_nil, List.mem_singleton]
  constructor
  ·rintro rfl
   refine ⟨by simp, fun k hk _ => ?_, fun q hq => by cases hq⟩
   simp [List.getD_eq_getElem?_getD, hk]
  ·rintro ⟨z1, z2, _⟩
   refine ext_getD (by simp [z1]) fun k => ?_
   by_cases hk : k < n
   ·rw [z2 k hk fun q hq => by cases hq]
    simp [List.getD_eq_getElem?_getD, hk]
   ·simp only [List.getD_eq_getElem?_getD]
    rw [List.getElem?_eq_none (by omega), List.getElem?_eq_none (by simp; omega)]
 | i + 1, hi, z => by
  have hs := take_succ_getD (show i < ps.length by omega) 0
  rw [jnI_take (by omega)]
  have ht := h.take (i + 1)
  rw [hs] at ht ⊢
  exact jn_step ht (jnI_mem h i (by omega)) z
theorem jnS_mem {rs : List (List Int)} {n : Nat} {ps : List Int} (h : JnP rs n ps) (hp : PtP n ps) {z : List Int} : z ∈ jnS rs n ps ↔ z.length = n ∧ ∀ q ∈ ps, fitsOn rs z q := by
 rw [← jn_same, onceL_mem]
 have := jnI_mem h ps.length (Nat.le_refl _) z
 rw [List.take_length] at this
 rw [this]
 refine ⟨fun ⟨a, _, b⟩ => ⟨a, b⟩, fun ⟨a, b⟩ => ⟨a, fun k hk hno => ?_, b⟩⟩
 obtain ⟨p, hp', hb⟩ := hp.all k hk
 exact absurd ((mem_iff (hp.R p hp')).2 ⟨by have := hp.n5; omega, hb⟩) (hno p hp')
theorem jnS_sorted {rs : List (List Int)} {n : Nat} {ps : List Int} : SortedL (jnS rs n ps) := by rw [← jn_same]; exact onceL_sorted
end Go.Own
/-
  Plain law: example tables keep their dependencies. Conditions: as each theorem states them.
-/
namespace Go.Own
open Go Go.Proofs
def clsL (ds : List (Int × Int)) : Nat → List Int
 | 0 => []
 | k + 1 => clsL ds k ++ (if clo ds (k : Nat) == ((k : Nat) : Int) then [((k : Nat) : Int)] else [])
theorem clsL_mem {ds : List (Int × Int)} {y : Int} : ∀ {k : Nat}, y ∈ clsL ds k ↔ ∃ x : Nat, x < k ∧ y = x ∧ clo ds y = y
 | 0 => by simp [clsL]
 | k + 1 => by
  rw [clsL, List.mem_append, clsL_mem]
  constructor
  ·rintro (⟨x, hx, rfl, h⟩ | h)
   ·exact ⟨x, by omega, rfl, h⟩
   ·split at h
    ·rename_i hb
     simp only [List.mem_singleton] at h
     exact ⟨k, by omega, h, by rw [h]; exact eq_of_beq hb⟩
    ·cases h
  ·rintro ⟨x, hx, rfl, h⟩
   by_cases e : x = k
   ·subst e; right; rw [if_pos (by rw [beq_iff_eq]; exact h)]; simp
   ·left; exact ⟨x, by omega, rfl, h⟩
theorem clsL_length {ds : List (Int × Int)} : ∀ {k : Nat}, (clsL ds k).length ≤ k
 | 0 => Nat.le_refl _
 | k + 1 => by
  have := @clsL_length ds k
  rw [clsL, List.length_append]
  split <;> simp <;> omega
def clsF (n : Int) (ds : List (Int × Int)) : List Int := if depsOK n ds then clsL ds (2 ^ n.toNat) else []
theorem pow32n {n : Nat} (h : n ≤ 5) : 2 ^ n ≤ 32 := by
 have : (2 : Nat) ^ n ≤ 2 ^ 5 := Nat.pow_le_pow_right (by omega) h
 simpa using this
theorem clsF_facts {n : Int} {ds : List (Int × Int)} : (clsF n ds).length ≤ 32 := by
 unfold clsF
 split
 ·rename_i h
  obtain ⟨m, rfl, hD⟩ := dpP_of h
  have := @clsL_length ds (2 ^ m)
  have := pow32n hD.n5.2
  rw [Int.toNat_natCast]; omega
 ·simp
def amN (al : Int) (cs : List Int) : Nat → List (Int × Int)
 | 0 => []
 | k + 1 => amN al cs k ++ (if cs.getD k 0 == al then [] else [(cs.getD k 0, (k : Int) + 1)])
theorem amN_mem {al : Int} {cs : List Int} {p : Int × Int} : ∀ {k : Nat}, p ∈ amN al cs k → ∃ j, j < k ∧ p = (cs.getD j 0, (j : Int) + 1)
 | 0, h => by cases h
 | k + 1, h => by
  rw [amN, List.mem_append] at h
  rcases h with h | h
  ·obtain ⟨j, hj, e⟩ := amN_mem h
   exact ⟨j, by omega, e⟩
  ·split at h
   ·cases h
   ·rw [List.mem_singleton] at h
    exact ⟨k, by omega, h⟩
theorem amN_length {al : Int} {cs : List Int} : ∀ {k : Nat}, (amN al cs k).length ≤ k
 | 0 => Nat.le_refl _
 | k + 1 => by
  have := @amN_length al cs k
  rw [amN, List.length_append]
  split <;> simp <;> omega
def amRow (n : Nat) (p : Int × Int) : List Int := csRow n p.1 p.2
def amR (n : Nat) (cs : List Int) (k : Nat) : List (List Int) := zeroR n :: (amN (all2 n) cs k).map (amRow n)
def arR (n : Int) (ds : List (Int × Int)) : List (List Int) := if depsOK n ds then amR n.toNat (clsF n ds) (clsF n ds).length else []
def arC (n : Int) (ds : List (Int × Int)) : Int := if depsOK n ds then n else 0
theorem amR_length {n : Nat} {cs : List Int} {k : Nat} : (amR n cs k).length ≤ k + 1 := by
 have := @amN_length (all2 n) cs k
 unfold amR
 rw [List.length_cons, List.length_map]; omega
theorem amR_lens {n : Nat} {cs : List Int} {k : Nat} : ∀ r ∈ amR n cs k, r.length = n := by
 intro r hr
 unfold amR at hr
 rcases List.mem_cons.1 hr with rfl | hr
 ·exact zeroR_length
 ·obtain ⟨p, _, rfl⟩ := List.mem_map.1 hr
  exact csRow_length
theorem arR_facts {n : Int} {ds : List (Int × Int)} : (arR n ds).length ≤ 33 ∧ ∀ r ∈ arR n ds, r.length ≤ 5 := by
 unfold arR
 split
 ·rename_i h
  obtain ⟨m, rfl, hD⟩ := dpP_of h
  have h1 := @amR_length (((m : Nat) : Int).toNat) (clsF m ds) (clsF m ds).length
  have h2 := @clsF_facts m ds
  refine ⟨by omega, fun r hr => ?_⟩
  rw [amR_lens r hr, Int.toNat_natCast]
  exact hD.n5.2
 ·simp
theorem zeroR_get {n k : Nat} : (zeroR n).getD k 0 = 0 := by
 by_cases h : k < n
 ·simp [zeroR, List.getD_eq_getElem?_getD, h]
 ·simp [zeroR, List.getD_eq_getElem?_getD, h]
theorem arR_row {n : Nat} {ds : List (Int × Int)} (h : depsOK n ds = true) {r : List Int} (hr : r ∈ arR n ds) : ∃ x v, R5 x ∧ closedB ds x ∧ (0 ≤ v ∧ v ≤ 32) ∧ (v = 0 → x = all2 n) ∧ (0 < v → x = (clsF n ds).getD (v - 1).toNat 0) ∧ r = csRow n x v := by
 obtain ⟨m, e, hD⟩ := dpP_of h
 have e : n = m := by omega
 subst e
 have hR : ∀ d ∈ ds, depR d := fun d hd => ⟨(hD.R d hd).1, by have := (hD.R d hd).2; have := hD.n5; omega⟩
 unfold arR at hr
 rw [if_pos h, Int.toNat_natCast] at hr
 unfold amR at hr
 rcases List.mem_cons.1 hr with rfl | hr
 ·have ha : ∀ k : Nat, k < 5 → hasB (all2 n) (k : Nat) = decide (k < n) := fun k hk => (all2_has ⟨n, by have := hD.n5; omega⟩ ⟨k, hk⟩).2
  refine ⟨all2 n, 0, (all2_has ⟨n, by have := hD.n5; omega⟩ ⟨0, by omega⟩).1, fun d hd _ => ?_, by omega, fun _ => rfl, fun h => by omega, ?_⟩
  ·have := (hD.R d hd).2
   have := ha d.2.toNat (by have := hD.n5; omega)
   rw [show ((d.2.toNat : Nat) : Int) = d.2 by omega] at this
   rw [this, decide_eq_true (by omega)]
  ·refine ext_getD (by rw [zeroR_length, csRow_length]) fun k => ?_
   by_cases hk : k < n
   ·rw [zeroR_get, csRow_get hk]; split <;> rfl
   ·simp only [List.getD_eq_getElem?_getD]
    rw [List.getElem?_eq_none (by rw [zeroR_length]; omega), List.getElem?_eq_none (by rw [csRow_length]; omega)]
 ·obtain ⟨p, hp, rfl⟩ := List.mem_map.1 hr
  obtain ⟨j, hj, rfl⟩ := amN_mem hp
  have hl := @clsF_facts n ds
  have hE : clsF n ds = clsL ds (2 ^ n) := by unfold clsF; rw [if_pos h, Int.toNat_natCast]
  have hm : List.getD (clsF n ds) j 0 ∈ clsL ds (2 ^ n) := by rw [← hE]; exact getD_mem hj 0
  obtain ⟨x, hx, e1, e2⟩ := clsL_mem.1 hm
  have h32 := pow32n hD.n5.2
  have hx5 : R5 (List.getD (clsF n ds) j 0) := by
   rw [e1]
   exact ⟨by omega, by omega⟩
  have hcl : closedB ds (List.getD (clsF n ds) j 0) := by
   have := clo_closed hR hx5
   rwa [e2] at this
  exact ⟨_, (j : Int) + 1, hx5, hcl, by omega, fun h => by omega, fun _ => by rw [show ((j : Int) + 1 - 1).toNat = j by omega], rfl⟩
theorem arR_sat {n : Nat} {ds : List (Int × Int)} (h : depsOK n ds = true) {T : List (List Int)} (hT : ∀ t ∈ T, t ∈ arR n ds) : ∀ d ∈ ds, satD n T d := by
 obtain ⟨m, e, hD⟩ := dpP_of h
 have e : n = m := by omega
 subst e
 intro d hd s hs t ht hag
 obtain ⟨x, v, hx, cx, hv, x0, x1, rfl⟩ := arR_row h (hT s hs)
 obtain ⟨y, w, hy, cy, hw, y0, y1, rfl⟩ := arR_row h (hT t ht)
 obtain ⟨dR, d0, dn⟩ := hD.R d hd
 by_cases e : v = w
 ·subst e
  have : x = y := by
   by_cases hv0 : v = 0
   ·rw [x0 hv0, y0 hv0]
   ·rw [x1 (by omega), y1 (by omega)]
  rw [this]
 ·have hboth : ∀ k : Nat, k < 5 → hasB d.1 (k : Nat) = true → hasB x (k : Nat) = true ∧ hasB y (k : Nat) = true := fun k hk hb => by
   obtain ⟨kn, he⟩ := hag k hk hb
   rw [csRow_get kn, csRow_get kn] at he
   have ax : v = 0 → hasB x (k : Nat) = true := fun h => by
    rw [x0 h]
    have := (all2_has ⟨n, by have := hD.n5; omega⟩ ⟨k, hk⟩).2
    dsimp only at this
    rw [this, decide_eq_true kn]
   have ay : w = 0 → hasB y (k : Nat) = true := fun h => by
    rw [y0 h]
    have := (all2_has ⟨n, by have := hD.n5; omega⟩ ⟨k, hk⟩).2
    dsimp only at this
    rw [this, decide_eq_true kn]
   cases q1 : hasB x (k : Nat) <;> cases q2 : hasB y (k : Nat) <;> simp only [q1, q2, if_true, Bool.false_eq_true, if_false] at he ax ay ⊢
   ·exact absurd he e
   ·exact absurd (ax he) (by simp)
   ·exact absurd (ay he.symm) (by simp)
   ·exact ⟨trivial, trivial⟩
  have ix : insB d.1 x = true := (insB_iff dR hx).2 fun c hb => (hboth c.val c.isLt hb).1
  have iy : insB d.1 y = true := (insB_iff dR hy).2 fun c hb => (hboth c.val c.isLt hb).2
  have bx := cx d hd ix
  have bY := cy d hd iy
  rw [show d.2 = ((d.2.toNat : Nat) : Int) by omega] at bx bY
  rw [csRow_get (by omega), csRow_get (by omega), if_pos bx, if_pos bY]
theorem arR_tab {n : Nat} {ds : List (Int × Int)} (h : depsOK n ds = true) {T : List (List Int)} (hT : ∀ t ∈ T, t ∈ arR n ds) (hl : T.length ≤ 40) : tabOK n T = true := by
 obtain ⟨m, e, hD⟩ := dpP_of h
 have e : n = m := by omega
 subst e
 have hn := hD.n5
 simp only [tabOK, rowOK, Bool.and_eq_true, List.all_eq_true, decide_eq_true_eq, inB_iff]
 refine ⟨fun r hr => ?_, by omega, by omega⟩
 obtain ⟨x, v, _, _, hv, _, _, rfl⟩ := arR_row h (hT r hr)
 refine ⟨fun y hy => ?_, by rw [csRow_length]⟩
 unfold csRow at hy
 obtain ⟨k, _, rfl⟩ := List.mem_map.1 hy
 split <;> omega
end Go.Own
/-
  Plain law: a join and its table. Conditions: as each theorem states them.
-/
namespace Go.Own
open Go Go.Proofs
theorem mem_all_eq : ∀ n : Fin 6, mem (all2 ((n.val : Nat) : Int)) = (List.range n.val).map fun k => ((k : Nat) : Int) := by decide +kernel
theorem prRow_all {n : Nat} (hn : n ≤ 5) {r : List Int} (hr : r.length = n) : prRow (mem (all2 n)) r = r := by
 have h := mem_all_eq ⟨n, by omega⟩
 dsimp only at h
 rw [h]
 refine ext_getD (by simp [prRow, hr]) fun k => ?_
 unfold prRow
 rw [List.map_map]
 by_cases hk : k < n
 ·simp [List.getD_eq_getElem?_getD, hk]
 ·simp only [List.getD_eq_getElem?_getD]
  rw [List.getElem?_eq_none (by simp; omega), List.getElem?_eq_none (by omega)]
theorem prL_all {n : Nat} (hn : n ≤ 5) {rs : List (List Int)} (h : ∀ r ∈ rs, r.length = n) : prL rs (all2 n) = onceL rs := by
 unfold prL
 congr 1
 have e : rs.map (prRow (mem (all2 n))) = rs.map id := List.map_congr_left fun r hr => prRow_all hn (h r hr)
 rw [e, List.map_id]
theorem all2_at : ∀ n : Fin 6, 1 ≤ n.val → isAttr ((n.val : Nat) : Int) (all2 ((n.val : Nat) : Int)) = true ∧ (all2 ((n.val : Nat) : Int) == 0) = false ∧ (mem (all2 ((n.val : Nat) : Int))).length = n.val := by decide +kernel
theorem prR_all {n : Nat} {rs : List (List Int)} (ht : tabOK n rs = true) : prR n rs (all2 n) = onceL rs ∧ prC n rs (all2 n) = n := by
 obtain ⟨n', e, n1, n5, _, hl⟩ := tab_rows ht
 have e : n = n' := by omega
 subst e
 have hlen : ∀ r ∈ rs, r.length = n := fun r hr => by
  obtain ⟨i, hi, e⟩ := List.mem_iff_getElem.1 hr
  have := hl i hi
  rw [List.getD_eq_getElem?_getD, List.getElem?_eq_getElem hi, Option.getD_some, e] at this
  exact this
 obtain ⟨a1, a2, a3⟩ := all2_at ⟨n, by omega⟩ n1
 dsimp only at a1 a2 a3
 unfold prR prC prOK
 rw [ht, a1, a2, a3]
 exact ⟨prL_all n5 hlen, rfl⟩
theorem lossless_join {n : Nat} {ds : List (Int × Int)} {ps : List Int} {T : List (List Int)} (hlo : loB n ds ps = true) (hT : tabOK n T = true) (h10 : T.length ≤ 10) (hsat : ∀ d ∈ ds, satD n T d) : jnT n T ps = prR n T (all2 n) ∧ jnC n T ps = prC n T (all2 n) := by
 have hlo' := hlo
 unfold loB at hlo'
 rw [Bool.and_eq_true, Bool.and_eq_true] at hlo'
 obtain ⟨⟨hd, hp⟩, _⟩ := hlo'
 have hz := (loB_iff hd hp).1 hlo
 have hok : jnOK n T ps = true := by unfold jnOK; rw [hT, hp, decide_eq_true h10]; rfl
 obtain ⟨n', e, hJ, _, _⟩ := jnP_of hok
 have e : n = n' := by omega
 subst e
 obtain ⟨n', e, hP⟩ := ptP_of hp
 have e : n = n' := by omega
 subst e
 obtain ⟨p1, p2⟩ := prR_all hT
 unfold jnT jnC
 rw [hok, if_pos rfl, if_pos rfl, p1, p2, Int.toNat_natCast]
 refine ⟨sortedL_ext jnS_sorted onceL_sorted fun z => ?_, rfl⟩
 rw [jnS_mem hJ hP, onceL_mem]
 constructor
 ·rintro ⟨h1, h2⟩
  exact chase_hom hd hp hsat hJ.len h1 h2 hz
 ·intro h
  exact ⟨hJ.len z h, fun q hq => ⟨z, h, fun k _ => rfl⟩⟩
theorem lossy_join {n : Nat} {ds : List (Int × Int)} {ps : List Int} (hlt : ltB n ds ps = true) : (prR n (ltR n ds ps) (all2 n)).length < (jnT n (ltR n ds ps) ps).length ∧ (∀ d ∈ ds, hdB n (ltR n ds ps) 0 d.1 d.2 = true) ∧ tabOK n (ltR n ds ps) = true ∧ ltC n ds ps = n ∧ loB n ds ps = false := by
 have hlt' := hlt
 unfold ltB at hlt'
 rw [Bool.and_eq_true, Bool.and_eq_true, Bool.not_eq_true'] at hlt'
 obtain ⟨⟨hd, hp⟩, hlo⟩ := hlt'
 have hR : ltR n ds ps = chF n ds ps := by unfold ltR; rw [hlt, if_pos rfl]
 have hC : ltC n ds ps = n := by unfold ltC; rw [hlt, if_pos rfl]
 rw [hR, hC]
 have hz : zeroR n ∉ chF n ds ps := fun h => by rw [(loB_iff hd hp).2 h] at hlo; cases hlo
 have hrp := chF_rowsP (ds := ds) hp
 have hpf := parts_facts hp
 have hT := rowsP_tab (n := n) (by omega) hrp
 have hok : jnOK n (chF n ds ps) ps = true := by unfold jnOK; rw [hT, hp, decide_eq_true hrp.1]; rfl
 obtain ⟨n', e, hJ, _, _⟩ := jnP_of hok
 have e : n = n' := by omega
 subst e
 obtain ⟨n', e, hP⟩ := ptP_of hp
 have e : n = n' := by omega
 subst e
 obtain ⟨p1, _⟩ := prR_all hT
 refine ⟨?_, chF_hd hd hp, hT, rfl, hlo⟩
 rw [p1]
 unfold jnT
 rw [hok, if_pos rfl, Int.toNat_natCast]
 have hall : ∀ x ∈ zeroR n :: onceL (chF n ds ps), x ∈ jnS (chF n ds ps) n ps := fun x hx => by
  rw [jnS_mem hJ hP]
  rcases List.mem_cons.1 hx with rfl | hx
  ·refine ⟨zeroR_length, fun q hq => ?_⟩
   obtain ⟨r, hr, hzr⟩ := chF_zero (ds := ds) hp q hq
   refine ⟨r, hr, fun k hk => ?_⟩
   obtain ⟨k5, hb⟩ := (mem_iff (hP.R q hq)).1 hk
   rw [zeroR_get, hzr k k5 hb]
  ·rw [onceL_mem] at hx
   exact ⟨hJ.len x hx, fun q hq => ⟨x, hx, fun k _ => rfl⟩⟩
 have := nodup_le (l := zeroR n :: onceL (chF n ds ps)) (List.nodup_cons.2 ⟨fun h => hz (onceL_mem.1 h), sortedL_nodup onceL_sorted⟩) hall
 rw [List.length_cons] at this
 omega
end Go.Own
/-
  Closed sets, the reference's example tables, all dependencies kept. Conditions: as each theorem states them.
-/
namespace Go.Own
open Go Go.Proofs
attribute [local go_sem] unD_dL dL_length dL_get dL_set dL_inj wfD_dL scal2 beq2 pair_eta
def cCls : Contract := ⟨[], false, fun
 | [.one (.v (.int .i64 n)), .one (.sl 2 l)] => some (WfD l ∧ -9223372036854775808 ≤ n ∧ n ≤ 9223372036854775807, [⟨false, [.own 1 (iL (clsF n (unD l))) 1]⟩], [])
 | _ => none⟩
theorem clsS_ok : ContractOK E0 62 cCls := by
 refine cWpc (E := E0) (T := mkT Tryz.prog [(31, cAreDeps), (63, cAll2), (102, cClo)] false (fun _ => false) true (fun _ => false)) (mkT_ok (E := E0) (.cons areDepsS_ok (.cons all2_ok (.cons cloSpec_ok .nil)))) (fn := Tryz.f62) Tryz.func62 (by kernel_rfl) rfl mixedT (by kernel_rfl) rfl ?_
 intro args p rs ms hr
 unfold cCls at hr
 dsimp only at hr
 split at hr
 rotate_left
 ·cases hr
 rename_i n l
 simp only [Option.some.injEq, Prod.mk.injEq] at hr
 obtain ⟨rfl, rfl, rfl⟩ := hr
 refine ⟨rfl, rfl, Nat.le_of_ble_eq_true rfl, ?_⟩
 have hm : maxLen = 9223372036854775807 := rfl
 rintro ⟨h1, hn1, hn2⟩ bs
 obtain ⟨ds, rfl, hx⟩ := h1.ex
 clear h1
 rw [unD_dL]
 have e0 : iL [] = [] := rfl
 cases hv : depsOK n ds
 ·have e : clsF n ds = [] := by unfold clsF; rw [hv]; rfl
  rw [e]
  clear e
  (repeat' (first | (refine gA fun _ => ?_) | (refine fkI (fun hb => ?_) (fun hb => ?_) <;> (try simp only [ew, hv, e0] at hb)) | (simp only [go_sem, Nat.reduceLeDiff, Nat.reduceEqDiff, reduceIte, reduceCtorEq, Nat.reduceAdd, Nat.reduceMul, Nat.reduceSub, Nat.reduceLT, Int.reduceLT, Int.reduceLE, Int.reduceNeg, Int.reduceToNat, Nat.reduceBEq, Nat.reduceBNe, Int.reduceGE, Int.reduceGT, *, cCls, cAreDeps, cAll2, cClo, Tryz.results62, hv, e0])))
  refine lpI { ι := Nat, rs := [(8, 28)], mods := [(6, fun k => .one (.d (.v (.int .i64 k)))), (5, fun k => .one (.own 1 (iL []) 1))], boxes := [], arrs := [], ok := fun k => k = 0, mu := fun k => k } rfl 0 rfl ?_ fun k hk => ?_
  ·(repeat' (first | (refine gA fun _ => ?_) | (refine fkI (fun hb => ?_) (fun hb => ?_) <;> (try simp only [ew, e0] at hb)) | (simp only [go_sem, Nat.reduceLeDiff, Nat.reduceEqDiff, reduceIte, reduceCtorEq, Nat.reduceAdd, Nat.reduceMul, Nat.reduceSub, Nat.reduceLT, Int.reduceLT, Int.reduceLE, Int.reduceNeg, Int.reduceToNat, Nat.reduceBEq, Nat.reduceBNe, Int.reduceGE, Int.reduceGT, *, cCls, cAreDeps, cAll2, cClo, Tryz.results62, e0])))
   all_goals first | rfl | skip
  ·dsimp only at k hk
   subst hk
   (repeat' (first | (refine gA fun _ => ?_) | (refine fkI (fun hb => ?_) (fun hb => ?_) <;> (try simp only [ew, hv, e0] at hb)) | (simp only [go_sem, Nat.reduceLeDiff, Nat.reduceEqDiff, reduceIte, reduceCtorEq, Nat.reduceAdd, Nat.reduceMul, Nat.reduceSub, Nat.reduceLT, Int.reduceLT, Int.reduceLE, Int.reduceNeg, Int.reduceToNat, Nat.reduceBEq, Nat.reduceBNe, Int.reduceGE, Int.reduceGT, *, cCls, cAreDeps, cAll2, cClo, Tryz.results62, hv, e0])))
   all_goals first | rfl | skip
 ·obtain ⟨m, rfl, hD⟩ := dpP_of hv
  have hd := depsOK_R hv
  have e : clsF m ds = clsL ds (2 ^ m) := by unfold clsF; rw [hv, if_pos rfl, Int.toNat_natCast]
  rw [e]
  clear e
  have hn := hD.n5
  have h32 := pow32n hn.2
  have hp := @all2_pow m
  have hlen := fun k => @clsL_length ds k
  generalize hA : all2 m = A at hp
  generalize hM : 2 ^ m = M at h32 hp
  clear hD
  (repeat' (first | (refine gA fun _ => ?_) | (refine fkI (fun hb => ?_) (fun hb => ?_) <;> (try simp only [ew, hv, e0, hA] at hb)) | (simp only [go_sem, Nat.reduceLeDiff, Nat.reduceEqDiff, reduceIte, reduceCtorEq, Nat.reduceAdd, Nat.reduceMul, Nat.reduceSub, Nat.reduceLT, Int.reduceLT, Int.reduceLE, Int.reduceNeg, Int.reduceToNat, Nat.reduceBEq, Nat.reduceBNe, Int.reduceGE, Int.reduceGT, *, cCls, cAreDeps, cAll2, cClo, Tryz.results62, hv, e0, hA])))
  refine lpI { ι := Nat, rs := [(8, 28)], mods := [(6, fun k => .one (.d (.v (.int .i64 k)))), (5, fun k => .one (.own 1 (iL (clsL ds k)) 1))], boxes := [], arrs := [], ok := fun k => k ≤ M, mu := fun k => M - k } rfl 0 (Nat.zero_le _) ?_ fun k hk => ?_
  ·have e1 : clsL ds 0 = [] := rfl
   clear hlen
   (repeat' (first | (refine gA fun _ => ?_) | (refine fkI (fun hb => ?_) (fun hb => ?_) <;> (try simp only [ew, e0, e1] at hb)) | (simp only [go_sem, Nat.reduceLeDiff, Nat.reduceEqDiff, reduceIte, reduceCtorEq, Nat.reduceAdd, Nat.reduceMul, Nat.reduceSub, Nat.reduceLT, Int.reduceLT, Int.reduceLE, Int.reduceNeg, Int.reduceToNat, Nat.reduceBEq, Nat.reduceBNe, Int.reduceGE, Int.reduceGT, *, cCls, cAreDeps, cAll2, cClo, Tryz.results62, e0, e1])))
   all_goals first | rfl | skip
  ·dsimp only at k hk
   have hl := hlen k
   clear hlen
   by_cases h5 : k < M
   ·have hle : decide ((k : Int) ≤ (M : Int) - 1) = true := decide_eq_true (by omega)
    have eS : clsL ds (k + 1) = clsL ds k ++ (if clo ds (k : Nat) == ((k : Nat) : Int) then [((k : Nat) : Int)] else []) := rfl
    have hk31 : k ≤ 31 := by omega
    have m1 : (clsL ds k).length ≤ maxLen := Nat.le_trans (show (clsL ds k).length ≤ 32 by omega) (by decide)
    generalize hC : clsL ds k = C at hl eS m1
    cases hq : (clo ds (k : Nat) == ((k : Nat) : Int))
    ·rw [hq, if_neg (by decide), List.append_nil] at eS
     (repeat' (first | (refine gA fun _ => ?_) | (refine fkI (fun hb => ?_) (fun hb => ?_) <;> (try simp only [ew, hv, hA, hle, hC, hq] at hb)) | (simp only [go_sem, Nat.reduceLeDiff, Nat.reduceEqDiff, reduceIte, reduceCtorEq, Nat.reduceAdd, Nat.reduceMul, Nat.reduceSub, Nat.reduceLT, Int.reduceLT, Int.reduceLE, Int.reduceNeg, Int.reduceToNat, Nat.reduceBEq, Nat.reduceBNe, Int.reduceGE, Int.reduceGT, *, cCls, cAreDeps, cAll2, cClo, Tryz.results62, hv, hA, hle, hC, hq])))
     refine lpN (k + 1) (by dsimp only; omega) (by dsimp only; omega) ?_
     (repeat' (first | (refine gA fun _ => ?_) | (refine fkI (fun hb => ?_) (fun hb => ?_) <;> (try simp only [ew, eS] at hb)) | (simp only [go_sem, Nat.reduceLeDiff, Nat.reduceEqDiff, reduceIte, reduceCtorEq, Nat.reduceAdd, Nat.reduceMul, Nat.reduceSub, Nat.reduceLT, Int.reduceLT, Int.reduceLE, Int.reduceNeg, Int.reduceToNat, Nat.reduceBEq, Nat.reduceBNe, Int.reduceGE, Int.reduceGT, *, cCls, cAreDeps, cAll2, cClo, Tryz.results62, eS])))
    ·rw [hq, if_pos rfl] at eS
     (repeat' (first | (refine gA fun _ => ?_) | (refine fkI (fun hb => ?_) (fun hb => ?_) <;> (try simp only [ew, hv, hA, hle, hC, hq, iL_snoc] at hb)) | (simp only [go_sem, Nat.reduceLeDiff, Nat.reduceEqDiff, reduceIte, reduceCtorEq, Nat.reduceAdd, Nat.reduceMul, Nat.reduceSub, Nat.reduceLT, Int.reduceLT, Int.reduceLE, Int.reduceNeg, Int.reduceToNat, Nat.reduceBEq, Nat.reduceBNe, Int.reduceGE, Int.reduceGT, *, cCls, cAreDeps, cAll2, cClo, Tryz.results62, hv, hA, hle, hC, hq, iL_snoc])))
     refine lpN (k + 1) (by dsimp only; omega) (by dsimp only; omega) ?_
     (repeat' (first | (refine gA fun _ => ?_) | (refine fkI (fun hb => ?_) (fun hb => ?_) <;> (try simp only [ew, eS, iL_snoc] at hb)) | (simp only [go_sem, Nat.reduceLeDiff, Nat.reduceEqDiff, reduceIte, reduceCtorEq, Nat.reduceAdd, Nat.reduceMul, Nat.reduceSub, Nat.reduceLT, Int.reduceLT, Int.reduceLE, Int.reduceNeg, Int.reduceToNat, Nat.reduceBEq, Nat.reduceBNe, Int.reduceGE, Int.reduceGT, *, cCls, cAreDeps, cAll2, cClo, Tryz.results62, eS, iL_snoc])))
   ·have e5 : k = M := by omega
    subst e5
    have hle : decide ((k : Int) ≤ (k : Int) - 1) = false := decide_eq_false (by omega)
    (repeat' (first | (refine gA fun _ => ?_) | (refine fkI (fun hb => ?_) (fun hb => ?_) <;> (try simp only [ew, hv, hA, hle] at hb)) | (simp only [go_sem, Nat.reduceLeDiff, Nat.reduceEqDiff, reduceIte, reduceCtorEq, Nat.reduceAdd, Nat.reduceMul, Nat.reduceSub, Nat.reduceLT, Int.reduceLT, Int.reduceLE, Int.reduceNeg, Int.reduceToNat, Nat.reduceBEq, Nat.reduceBNe, Int.reduceGE, Int.reduceGT, *, cCls, cAreDeps, cAll2, cClo, Tryz.results62, hv, hA, hle])))
    all_goals first | rfl | skip
def cArm : Contract := ⟨[], false, fun
 | [.one (.v (.int .i64 n)), .one (.sl 2 l)] => some (WfD l ∧ -9223372036854775808 ≤ n ∧ n ≤ 9223372036854775807,
   [⟨true, [.d (.v (.int .i64 (arC n (unD l)))), .own 1 (sL (arR n (unD l))) 1]⟩, ⟨false, [.d (.v (.bool (depsOK n (unD l))))]⟩], [])
 | _ => none⟩
theorem repZ {n : Nat} : List.replicate n [D.v (.int .i64 0)] = iL (zeroR n) := by simp [iL, zeroR]
theorem armS_ok : ContractOK E0 15 cArm := by
 refine cWpc (E := E0) (T := mkT Tryz.prog [(31, cAreDeps), (62, cCls), (63, cAll2)] false (fun _ => false) true (fun d => d == 19 || d == 64)) (mkT_ok (E := E0) (.cons areDepsS_ok (.cons clsS_ok (.cons all2_ok .nil)))) (fn := Tryz.f15) Tryz.func15 (by kernel_rfl) rfl mixedT (by kernel_rfl) rfl ?_
 intro args p rs ms hr
 unfold cArm at hr
 dsimp only at hr
 split at hr
 rotate_left
 ·cases hr
 rename_i n l
 simp only [Option.some.injEq, Prod.mk.injEq] at hr
 obtain ⟨rfl, rfl, rfl⟩ := hr
 refine ⟨rfl, rfl, Nat.le_of_ble_eq_true rfl, ?_⟩
 have hm : maxLen = 9223372036854775807 := rfl
 rintro ⟨h1, hn1, hn2⟩ bs
 obtain ⟨ds, rfl, hx⟩ := h1.ex
 clear h1
 rw [unD_dL]
 unfold arC arR
 have e0 : sL [] = [] := rfl
 have e0' : iL [] = [] := rfl
 cases hv : depsOK n ds
 ·(repeat' (first | (refine gA fun _ => ?_) | (refine fkI (fun hb => ?_) (fun hb => ?_) <;> (try simp only [ew, hv, e0] at hb)) | (simp only [go_sem, Nat.reduceLeDiff, Nat.reduceEqDiff, reduceIte, reduceCtorEq, Nat.reduceAdd, Nat.reduceMul, Nat.reduceSub, Nat.reduceLT, Int.reduceLT, Int.reduceLE, Int.reduceNeg, Int.reduceToNat, Nat.reduceBEq, Nat.reduceBNe, Int.reduceGE, Int.reduceGT, *, cArm, cAreDeps, cCls, cAll2, Tryz.results15, hv, e0])))
  all_goals first | rfl | skip
 ·obtain ⟨m, rfl, hD⟩ := dpP_of hv
  rw [if_pos rfl, if_pos rfl, Int.toNat_natCast]
  have hn := hD.n5
  clear hD
  have hc32 := @clsF_facts m ds
  have hcR : ∀ j, j < (clsF m ds).length → 0 ≤ (clsF m ds).getD j 0 ∧ (clsF m ds).getD j 0 ≤ 31 := fun j hj => by
   have h32 := pow32n hn.2
   have hE : clsF m ds = clsL ds (2 ^ m) := by unfold clsF; rw [if_pos hv, Int.toNat_natCast]
   have := getD_mem hj 0
   have hm : List.getD (clsF m ds) j 0 ∈ clsL ds (2 ^ m) := by rw [← hE]; exact this
   obtain ⟨x, hx, e1, _⟩ := clsL_mem.1 hm
   rw [e1]; omega
  generalize hcs : clsF m ds = cs at hc32 hcR ⊢
  generalize hA : all2 m = A
  have hal := fun k => @amR_length m cs k
  have hal2 := fun k => @amR_lens m cs k
  have eR0 : amR m cs 0 = [zeroR m] := rfl
  have eRS : ∀ k, amR m cs (k + 1) = amR m cs k ++ (if cs.getD k 0 == A then [] else [csRow m (cs.getD k 0) ((k : Int) + 1)]) := fun k => by
   unfold amR
   rw [amN, hA, List.map_append, List.cons_append]
   split <;> rfl
  (repeat' (first | (refine gA fun _ => ?_) | (refine fkI (fun hb => ?_) (fun hb => ?_) <;> (try simp only [ew, hv, e0, e0', repZ, sL_snoc', hcs] at hb)) | (simp only [go_sem, Nat.reduceLeDiff, Nat.reduceEqDiff, reduceIte, reduceCtorEq, Nat.reduceAdd, Nat.reduceMul, Nat.reduceSub, Nat.reduceLT, Int.reduceLT, Int.reduceLE, Int.reduceNeg, Int.reduceToNat, Nat.reduceBEq, Nat.reduceBNe, Int.reduceGE, Int.reduceGT, *, cArm, cAreDeps, cCls, cAll2, Tryz.results15, hv, e0, e0', repZ, sL_snoc', hcs])))
  refine lpI { ι := Nat, rs := [(9, 11), (28, 69)], mods := [(8, fun k => .one (.d (.v (.int .i64 k))))], boxes := [(4, fun _ => [.d (.v (.int .i64 0)), .d (.v (.slice none 0 0))]), (6, fun k => [.d (.v (.int .i64 m)), .own 1 (sL (amR m cs k)) 1])], arrs := [(7, fun _ => (1, iL cs, 1))], ok := fun k => k ≤ cs.length, mu := fun k => cs.length - k } rfl 0 (Nat.zero_le _) ?_ fun k hk => ?_
  ·have eZ : [[D.sl 1 (iL (zeroR m))]] = sL [zeroR m] := rfl
   clear hcR hal hal2 eRS
   (repeat' (first | (refine gA fun _ => ?_) | (refine fkI (fun hb => ?_) (fun hb => ?_) <;> (try simp only [ew, eR0, eZ, repZ] at hb)) | (simp only [go_sem, Nat.reduceLeDiff, Nat.reduceEqDiff, reduceIte, reduceCtorEq, Nat.reduceAdd, Nat.reduceMul, Nat.reduceSub, Nat.reduceLT, Int.reduceLT, Int.reduceLE, Int.reduceNeg, Int.reduceToNat, Nat.reduceBEq, Nat.reduceBNe, Int.reduceGE, Int.reduceGT, *, cArm, cAreDeps, cCls, cAll2, Tryz.results15, eR0, eZ, repZ])))
   all_goals first | rfl | skip
  ·dsimp only at k hk
   by_cases h5 : k < cs.length
   ·have eS := eRS k
    have hl := hal k
    have hx5 := hcR k h5
    clear hcR hal hal2 eRS eR0
    generalize hxe : cs.getD k 0 = x at eS hx5
    generalize hR : amR m cs k = R at eS hl
    have m1 : R.length ≤ maxLen := Nat.le_trans (show R.length ≤ 40 by omega) (by decide)
    cases hq : (x == A)
    ·rw [hq, if_neg (by decide)] at eS
     (repeat' (first | (refine gA fun _ => ?_) | (refine fkI (fun hb => ?_) (fun hb => ?_) <;> (try simp only [ew, hA, hq, hxe, hR, e0'] at hb)) | (simp only [go_sem, Nat.reduceLeDiff, Nat.reduceEqDiff, reduceIte, reduceCtorEq, Nat.reduceAdd, Nat.reduceMul, Nat.reduceSub, Nat.reduceLT, Int.reduceLT, Int.reduceLE, Int.reduceNeg, Int.reduceToNat, Nat.reduceBEq, Nat.reduceBNe, Int.reduceGE, Int.reduceGT, *, cArm, cAreDeps, cCls, cAll2, Tryz.results15, hA, hq, hxe, hR, e0'])))
     refine lpI { ι := Nat, rs := [(42, 63)], mods := [(10, fun j => .one (.d (.v (.int .i64 j)))), (9, fun j => .one (.own 1 (iL (csRow j x ((k : Int) + 1))) 1))], boxes := [(4, fun _ => [.d (.v (.int .i64 0)), .d (.v (.slice none 0 0))]), (6, fun _ => [.d (.v (.int .i64 m)), .own 1 (sL R) 1])], arrs := [(7, fun _ => (1, iL cs, 1))], ok := fun j => j ≤ m, mu := fun j => m - j } rfl 0 (Nat.zero_le _) ?_ fun j hj => ?_
     ·have e1 : csRow 0 x ((k : Int) + 1) = [] := rfl
      (repeat' (first | (refine gA fun _ => ?_) | (refine fkI (fun hb => ?_) (fun hb => ?_) <;> (try simp only [ew, e1, e0'] at hb)) | (simp only [go_sem, Nat.reduceLeDiff, Nat.reduceEqDiff, reduceIte, reduceCtorEq, Nat.reduceAdd, Nat.reduceMul, Nat.reduceSub, Nat.reduceLT, Int.reduceLT, Int.reduceLE, Int.reduceNeg, Int.reduceToNat, Nat.reduceBEq, Nat.reduceBNe, Int.reduceGE, Int.reduceGT, *, cArm, cAreDeps, cCls, cAll2, Tryz.results15, e1, e0'])))
      all_goals first | rfl | skip
     ·dsimp only at j hj
      have hl2 := @csRow_length j x ((k : Int) + 1)
      by_cases h6 : j < m
      ·have eC := @csRow_succ j x ((k : Int) + 1)
       have hb : (bitI .and .i64 (x.fdiv (2 ^ j)) 1 == 1) = hasB x (j : Nat) := by unfold hasB; rw [Int.toNat_natCast]
       generalize hCe : csRow j x ((k : Int) + 1) = C at eC hl2
       have m2 : C.length ≤ maxLen := Nat.le_trans (show C.length ≤ 40 by omega) (by decide)
       cases hh : hasB x (j : Nat)
       ·rw [hh] at hb eC
        rw [if_neg (by decide)] at eC
        clear hh
        (repeat' (first | (refine gA fun _ => ?_) | (refine fkI (fun hb => ?_) (fun hb => ?_) <;> (try simp only [ew, hxe, hR, hCe, hb, bits64, iL_snoc] at hb)) | (simp only [go_sem, Nat.reduceLeDiff, Nat.reduceEqDiff, reduceIte, reduceCtorEq, Nat.reduceAdd, Nat.reduceMul, Nat.reduceSub, Nat.reduceLT, Int.reduceLT, Int.reduceLE, Int.reduceNeg, Int.reduceToNat, Nat.reduceBEq, Nat.reduceBNe, Int.reduceGE, Int.reduceGT, *, cArm, cAreDeps, cCls, cAll2, Tryz.results15, hxe, hR, hCe, hb, bits64, iL_snoc])))
        refine lpN (j + 1) (by dsimp only; omega) (by dsimp only; omega) ?_
        (repeat' (first | (refine gA fun _ => ?_) | (refine fkI (fun hb => ?_) (fun hb => ?_) <;> (try simp only [ew, eC, iL_snoc] at hb)) | (simp only [go_sem, Nat.reduceLeDiff, Nat.reduceEqDiff, reduceIte, reduceCtorEq, Nat.reduceAdd, Nat.reduceMul, Nat.reduceSub, Nat.reduceLT, Int.reduceLT, Int.reduceLE, Int.reduceNeg, Int.reduceToNat, Nat.reduceBEq, Nat.reduceBNe, Int.reduceGE, Int.reduceGT, *, cArm, cAreDeps, cCls, cAll2, Tryz.results15, eC, iL_snoc])))
       ·rw [hh] at hb eC
        rw [if_pos rfl] at eC
        clear hh
        (repeat' (first | (refine gA fun _ => ?_) | (refine fkI (fun hb => ?_) (fun hb => ?_) <;> (try simp only [ew, hxe, hR, hCe, hb, bits64, iL_snoc] at hb)) | (simp only [go_sem, Nat.reduceLeDiff, Nat.reduceEqDiff, reduceIte, reduceCtorEq, Nat.reduceAdd, Nat.reduceMul, Nat.reduceSub, Nat.reduceLT, Int.reduceLT, Int.reduceLE, Int.reduceNeg, Int.reduceToNat, Nat.reduceBEq, Nat.reduceBNe, Int.reduceGE, Int.reduceGT, *, cArm, cAreDeps, cCls, cAll2, Tryz.results15, hxe, hR, hCe, hb, bits64, iL_snoc])))
        refine lpN (j + 1) (by dsimp only; omega) (by dsimp only; omega) ?_
        (repeat' (first | (refine gA fun _ => ?_) | (refine fkI (fun hb => ?_) (fun hb => ?_) <;> (try simp only [ew, eC, iL_snoc] at hb)) | (simp only [go_sem, Nat.reduceLeDiff, Nat.reduceEqDiff, reduceIte, reduceCtorEq, Nat.reduceAdd, Nat.reduceMul, Nat.reduceSub, Nat.reduceLT, Int.reduceLT, Int.reduceLE, Int.reduceNeg, Int.reduceToNat, Nat.reduceBEq, Nat.reduceBNe, Int.reduceGE, Int.reduceGT, *, cArm, cAreDeps, cCls, cAll2, Tryz.results15, eC, iL_snoc])))
      ·have e6 : j = m := by omega
       subst e6
       have m2 : (csRow j x ((k : Int) + 1)).length ≤ maxLen := Nat.le_trans (show (csRow j x ((k : Int) + 1)).length ≤ 40 by omega) (by decide)
       generalize hCe : csRow j x ((k : Int) + 1) = C at eS hl2 m2
       (repeat' (first | (refine gA fun _ => ?_) | (refine fkI (fun hb => ?_) (fun hb => ?_) <;> (try simp only [ew, hR, hCe, sL_snoc'] at hb)) | (simp only [go_sem, Nat.reduceLeDiff, Nat.reduceEqDiff, reduceIte, reduceCtorEq, Nat.reduceAdd, Nat.reduceMul, Nat.reduceSub, Nat.reduceLT, Int.reduceLT, Int.reduceLE, Int.reduceNeg, Int.reduceToNat, Nat.reduceBEq, Nat.reduceBNe, Int.reduceGE, Int.reduceGT, *, cArm, cAreDeps, cCls, cAll2, Tryz.results15, hR, hCe, sL_snoc'])))
       refine lpN (k + 1) (by dsimp only; omega) (by dsimp only; omega) ?_
       (repeat' (first | (refine gA fun _ => ?_) | (refine fkI (fun hb => ?_) (fun hb => ?_) <;> (try simp only [ew, eS, sL_snoc'] at hb)) | (simp only [go_sem, Nat.reduceLeDiff, Nat.reduceEqDiff, reduceIte, reduceCtorEq, Nat.reduceAdd, Nat.reduceMul, Nat.reduceSub, Nat.reduceLT, Int.reduceLT, Int.reduceLE, Int.reduceNeg, Int.reduceToNat, Nat.reduceBEq, Nat.reduceBNe, Int.reduceGE, Int.reduceGT, *, cArm, cAreDeps, cCls, cAll2, Tryz.results15, eS, sL_snoc'])))
    ·rw [hq, if_pos rfl, List.append_nil] at eS
     (repeat' (first | (refine gA fun _ => ?_) | (refine fkI (fun hb => ?_) (fun hb => ?_) <;> (try simp only [ew, hA, hq, hxe, hR] at hb)) | (simp only [go_sem, Nat.reduceLeDiff, Nat.reduceEqDiff, reduceIte, reduceCtorEq, Nat.reduceAdd, Nat.reduceMul, Nat.reduceSub, Nat.reduceLT, Int.reduceLT, Int.reduceLE, Int.reduceNeg, Int.reduceToNat, Nat.reduceBEq, Nat.reduceBNe, Int.reduceGE, Int.reduceGT, *, cArm, cAreDeps, cCls, cAll2, Tryz.results15, hA, hq, hxe, hR])))
     refine lpN (k + 1) (by dsimp only; omega) (by dsimp only; omega) ?_
     (repeat' (first | (refine gA fun _ => ?_) | (refine fkI (fun hb => ?_) (fun hb => ?_) <;> (try simp only [ew, eS] at hb)) | (simp only [go_sem, Nat.reduceLeDiff, Nat.reduceEqDiff, reduceIte, reduceCtorEq, Nat.reduceAdd, Nat.reduceMul, Nat.reduceSub, Nat.reduceLT, Int.reduceLT, Int.reduceLE, Int.reduceNeg, Int.reduceToNat, Nat.reduceBEq, Nat.reduceBNe, Int.reduceGE, Int.reduceGT, *, cArm, cAreDeps, cCls, cAll2, Tryz.results15, eS])))
   ·have e5 : k = cs.length := by omega
    subst e5
    clear hcR eRS
    generalize hR : amR m cs cs.length = R
    (repeat' (first | (refine gA fun _ => ?_) | (refine fkI (fun hb => ?_) (fun hb => ?_) <;> (try simp only [ew, hR] at hb)) | (simp only [go_sem, Nat.reduceLeDiff, Nat.reduceEqDiff, reduceIte, reduceCtorEq, Nat.reduceAdd, Nat.reduceMul, Nat.reduceSub, Nat.reduceLT, Int.reduceLT, Int.reduceLE, Int.reduceNeg, Int.reduceToNat, Nat.reduceBEq, Nat.reduceBNe, Int.reduceGE, Int.reduceGT, *, cArm, cAreDeps, cCls, cAll2, Tryz.results15, hR])))
    all_goals first | rfl | skip
def sasB (c : Int) (rs : List (List Int)) (m : Int) (ds : List (Int × Int)) : Bool := (ds.all fun d => hdB c rs m d.1 d.2) && (tabOK c rs && modeOK m)
def cSas : Contract := ⟨[], false, fun
 | [.agg [.v (.int .i64 c), .sl 1 l], .one (.v (.int .i64 m)), .one (.sl 2 q)] => some (WfS l ∧ WfD q ∧ -9223372036854775808 ≤ c ∧ c ≤ 9223372036854775807, [⟨false, [.d (.v (.bool (sasB c (unS l) m (unD q))))]⟩], [])
 | _ => none⟩
theorem sasS_ok : ContractOK E0 13 cSas := by
 refine cWpc (E := E0) (T := mkT Tryz.prog [(56, cHold), (57, cFine)] false (fun _ => false) true (fun _ => false)) (mkT_ok (E := E0) (.cons holdS_ok (.cons fine_ok .nil))) (fn := Tryz.f13) Tryz.func13 (by kernel_rfl) rfl mixedT (by kernel_rfl) rfl ?_
 intro args p rs ms hr
 unfold cSas at hr
 dsimp only at hr
 split at hr
 rotate_left
 ·cases hr
 rename_i c l m q
 simp only [Option.some.injEq, Prod.mk.injEq] at hr
 obtain ⟨rfl, rfl, rfl⟩ := hr
 refine ⟨rfl, rfl, Nat.le_of_ble_eq_true rfl, ?_⟩
 have hm : maxLen = 9223372036854775807 := rfl
 rintro ⟨h1, h2, hc1, hc2⟩ bs
 obtain ⟨rs, rfl, hx, hy⟩ := h1.ex
 obtain ⟨ds, rfl, hz⟩ := h2.ex
 clear h1 h2
 rw [unS_sL, unD_dL]
 (repeat' (first | (refine gA fun _ => ?_) | (refine fkI (fun hb => ?_) (fun hb => ?_) <;> (try simp only [ew] at hb)) | (simp only [go_sem, Nat.reduceLeDiff, Nat.reduceEqDiff, reduceIte, reduceCtorEq, Nat.reduceAdd, Nat.reduceMul, Nat.reduceSub, Nat.reduceLT, Int.reduceLT, Int.reduceLE, Int.reduceNeg, Int.reduceToNat, Nat.reduceBEq, Nat.reduceBNe, Int.reduceGE, Int.reduceGT, *, cSas, cHold, cFine, Tryz.results13])))
 refine lpI { ι := Nat, rs := [(6, 7), (8, 22)], mods := [(7, fun i => .one (.d (.v (.int .i64 i))))], boxes := [(3, fun _ => [.d (.v (.int .i64 c)), .d (.sl 1 (sL rs))])], arrs := [], ok := fun i => i ≤ ds.length ∧ (ds.drop i).all (fun d => hdB c rs m d.1 d.2) = ds.all (fun d => hdB c rs m d.1 d.2), mu := fun i => ds.length - i } rfl 0 ⟨Nat.zero_le _, rfl⟩ ?_ fun i hi => ?_
 ·(repeat' (first | (refine gA fun _ => ?_) | (refine fkI (fun hb => ?_) (fun hb => ?_) <;> (try simp only [ew] at hb)) | (simp only [go_sem, Nat.reduceLeDiff, Nat.reduceEqDiff, reduceIte, reduceCtorEq, Nat.reduceAdd, Nat.reduceMul, Nat.reduceSub, Nat.reduceLT, Int.reduceLT, Int.reduceLE, Int.reduceNeg, Int.reduceToNat, Nat.reduceBEq, Nat.reduceBNe, Int.reduceGE, Int.reduceGT, *, cSas, cHold, cFine, Tryz.results13])))
  all_goals first | rfl | skip
 ·dsimp only at i hi
  obtain ⟨hi, ht⟩ := hi
  by_cases h5 : i < ds.length
  ·rw [all_drop h5 (0, 0) _] at ht
   cases hq : hdB c rs m (ds.getD i (0, 0)).1 (ds.getD i (0, 0)).2
   ·have e : sasB c rs m ds = false := by unfold sasB; rw [← ht, hq]; rfl
    rw [e]
    clear e ht
    (repeat' (first | (refine gA fun _ => ?_) | (refine fkI (fun hb => ?_) (fun hb => ?_) <;> (try simp only [ew, hq] at hb)) | (simp only [go_sem, Nat.reduceLeDiff, Nat.reduceEqDiff, reduceIte, reduceCtorEq, Nat.reduceAdd, Nat.reduceMul, Nat.reduceSub, Nat.reduceLT, Int.reduceLT, Int.reduceLE, Int.reduceNeg, Int.reduceToNat, Nat.reduceBEq, Nat.reduceBNe, Int.reduceGE, Int.reduceGT, *, cSas, cHold, cFine, Tryz.results13, hq])))
    all_goals first | rfl | skip
   ·rw [hq, Bool.true_and] at ht
    (repeat' (first | (refine gA fun _ => ?_) | (refine fkI (fun hb => ?_) (fun hb => ?_) <;> (try simp only [ew, hq] at hb)) | (simp only [go_sem, Nat.reduceLeDiff, Nat.reduceEqDiff, reduceIte, reduceCtorEq, Nat.reduceAdd, Nat.reduceMul, Nat.reduceSub, Nat.reduceLT, Int.reduceLT, Int.reduceLE, Int.reduceNeg, Int.reduceToNat, Nat.reduceBEq, Nat.reduceBNe, Int.reduceGE, Int.reduceGT, *, cSas, cHold, cFine, Tryz.results13, hq])))
    refine lpN (i + 1) ⟨by omega, ht⟩ (by dsimp only; omega) ?_
    clear ht
    (repeat' (first | (refine gA fun _ => ?_) | (refine fkI (fun hb => ?_) (fun hb => ?_) <;> (try simp only [ew] at hb)) | (simp only [go_sem, Nat.reduceLeDiff, Nat.reduceEqDiff, reduceIte, reduceCtorEq, Nat.reduceAdd, Nat.reduceMul, Nat.reduceSub, Nat.reduceLT, Int.reduceLT, Int.reduceLE, Int.reduceNeg, Int.reduceToNat, Nat.reduceBEq, Nat.reduceBNe, Int.reduceGE, Int.reduceGT, *, cSas, cHold, cFine, Tryz.results13])))
  ·have e5 : i = ds.length := by omega
   subst e5
   rw [List.drop_length, List.all_nil] at ht
   have e : sasB c rs m ds = (tabOK c rs && modeOK m) := by unfold sasB; rw [← ht]; rfl
   rw [e]
   clear e ht
   (repeat' (first | (refine gA fun _ => ?_) | (refine fkI (fun hb => ?_) (fun hb => ?_) <;> (try simp only [ew] at hb)) | (simp only [go_sem, Nat.reduceLeDiff, Nat.reduceEqDiff, reduceIte, reduceCtorEq, Nat.reduceAdd, Nat.reduceMul, Nat.reduceSub, Nat.reduceLT, Int.reduceLT, Int.reduceLE, Int.reduceNeg, Int.reduceToNat, Nat.reduceBEq, Nat.reduceBNe, Int.reduceGE, Int.reduceGT, *, cSas, cHold, cFine, Tryz.results13])))
   all_goals first | rfl | skip
end Go.Own
