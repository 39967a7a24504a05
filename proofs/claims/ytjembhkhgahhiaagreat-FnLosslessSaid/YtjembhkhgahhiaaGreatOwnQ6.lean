/-
  The joining of a table's parts: what it gives. Conditions: as each theorem states them.
-/
import Derived.Test.YtjembhkhgahhiaaGreatOwnQ3
import Derived.Test.YtjembhkhgahhiaaGreatOwnQ5
import Derived.Test.YtjembhkhgahhiaaGreatOwnE2
set_option linter.unusedSimpArgs false
set_option linter.unusedVariables false
set_option maxRecDepth 20000
set_option maxHeartbeats 4000000
namespace Go.Own
open Go Go.Proofs
theorem compL_facts (d : Array (List Int)) (h : ∀ i j, i < j → j < d.size → lexL d[j]! d[i]! = false) : ∀ {m : Nat}, m ≤ d.size → (Lib.compactUpTo d m).Pairwise (fun x y => lexL x y = true) ∧ (∀ x, x ∈ Lib.compactUpTo d m ↔ ∃ j, j < m ∧ d[j]! = x) := by
 intro m
 induction m with
 | zero => intro _; simp [Lib.compactUpTo]
 | succ m ih =>
  intro hm
  obtain ⟨ih1, ih2⟩ := ih (by omega)
  rw [Lib.compactUpTo_succ]
  cases hk : Lib.keeps d m
  ·rw [if_neg (by decide), List.append_nil]
   refine ⟨ih1, fun x => ?_⟩
   rw [ih2]
   have hk2 : ¬ (m = 0 ∨ d[m]! ≠ d[m - 1]!) := of_decide_eq_false hk
   have hm0 : m ≠ 0 := fun e => hk2 (.inl e)
   have he : d[m]! = d[m - 1]! := Decidable.byContradiction fun e => hk2 (.inr e)
   constructor
   ·rintro ⟨j, hj, e⟩; exact ⟨j, by omega, e⟩
   ·rintro ⟨j, hj, e⟩
    by_cases hjm : j = m
    ·subst hjm; exact ⟨j - 1, by omega, by rw [← he]; exact e⟩
    ·exact ⟨j, by omega, e⟩
  ·rw [if_pos rfl]
   refine ⟨?_, fun x => ?_⟩
   ·rw [List.pairwise_append]
    refine ⟨ih1, by simp, fun x hx y hy => ?_⟩
    obtain ⟨j, hj, rfl⟩ := (ih2 x).1 hx
    simp only [List.mem_singleton] at hy
    subst hy
    have hk2 : m = 0 ∨ d[m]! ≠ d[m - 1]! := of_decide_eq_true hk
    rcases hk2 with hk2 | hk2
    ·omega
    ·-- d[j] ≤ d[m-1] < d[m]
     have h1 : lexL d[m]! d[m - 1]! = false := h (m - 1) m (by omega) (by omega)
     have h2 : lexL d[m - 1]! d[m]! = true := by
      cases hl : lexL d[m - 1]! d[m]! with
      | true => rfl
      | false => exact absurd (lex_total h1 hl) hk2
     by_cases hj1 : j = m - 1
     ·subst hj1; exact h2
     ·have h3 : lexL d[m - 1]! d[j]! = false := h j (m - 1) (by omega) (by omega)
      by_cases he : d[j]! = d[m - 1]!
      ·rw [he]; exact h2
      ·have h4 : lexL d[j]! d[m - 1]! = true := by
        cases hl : lexL d[j]! d[m - 1]! with
        | true => rfl
        | false => exact absurd (lex_total hl h3) he
       exact lex_trans h4 h2
   ·rw [List.mem_append, ih2, List.mem_singleton]
    constructor
    ·rintro (⟨j, hj, e⟩ | e)
     ·exact ⟨j, by omega, e⟩
     ·exact ⟨m, by omega, e.symm⟩
    ·rintro ⟨j, hj, e⟩
     by_cases hjm : j = m
     ·subst hjm; exact .inr e.symm
     ·exact .inl ⟨j, by omega, e⟩
theorem comp_srtL {rs : List (List Int)} : Lib.compact (srtL rs) = onceL rs := by
 have hp := @srtL_pair rs
 rw [List.pairwise_iff_getElem] at hp
 obtain ⟨h1, h2⟩ := compL_facts (srtL rs).toArray (fun i j hij hj => by
  have hj' : j < (srtL rs).length := by simpa using hj
  rw [getElem!_pos (srtL rs).toArray j hj, getElem!_pos (srtL rs).toArray i (by simp; omega)]
  simpa using hp i j (by omega) hj' hij) (m := (srtL rs).length) (by simp)
 refine sortedL_ext (l := Lib.compact (srtL rs)) h1 onceL_sorted fun x => ?_
 rw [onceL_mem, ← (srtL_perm (rs := rs)).mem_iff]
 show x ∈ Lib.compactUpTo (srtL rs).toArray (srtL rs).length ↔ _
 rw [h2, List.mem_iff_getElem]
 constructor
 ·rintro ⟨j, hj, e⟩
  rw [getElem!_pos (srtL rs).toArray j (by simpa using hj)] at e
  exact ⟨j, hj, by simpa using e⟩
 ·rintro ⟨j, hj, e⟩
  refine ⟨j, hj, ?_⟩
  rw [getElem!_pos (srtL rs).toArray j (by simpa using hj)]
  simpa using e
theorem srtL_nodup {l : List (List Int)} (h : l.Nodup) : srtL l = onceL l := by
 refine sortedL_ext (l := srtL l) ?_ onceL_sorted fun x => by rw [onceL_mem]; exact srtL_perm.mem_iff
 have hn : (srtL l).Nodup := srtL_perm.nodup_iff.2 h
 have := (@srtL_pair l).and hn
 refine this.imp fun {x y} hxy => ?_
 cases hl : lexL x y with
 | true => rfl
 | false => exact absurd (lex_total hl hxy.1) hxy.2
def jnI (rs : List (List Int)) (n : Nat) (ps : List Int) : List (List Int) := ps.foldl (fun l x => extI l (prL rs x) (mem x)) [List.replicate n (-2)]
def jnS (rs : List (List Int)) (n : Nat) (ps : List Int) : List (List Int) := ps.foldl (fun l x => onceL (extI l (prL rs x) (mem x))) [List.replicate n (-2)]
theorem jnI_take {rs : List (List Int)} {n : Nat} {ps : List Int} {i : Nat} (h : i < ps.length) : jnI rs n (ps.take (i + 1)) = extI (jnI rs n (ps.take i)) (prL rs (ps.getD i 0)) (mem (ps.getD i 0)) := by
 unfold jnI; rw [take_succ_getD h 0, List.foldl_append]; rfl
theorem jnS_take {rs : List (List Int)} {n : Nat} {ps : List Int} {i : Nat} (h : i < ps.length) : jnS rs n (ps.take (i + 1)) = onceL (extI (jnS rs n (ps.take i)) (prL rs (ps.getD i 0)) (mem (ps.getD i 0))) := by
 unfold jnS; rw [take_succ_getD h 0, List.foldl_append]; rfl
structure JnP (rs : List (List Int)) (n : Nat) (ps : List Int) : Prop where
  n5 : 1 ≤ n ∧ n ≤ 5
  len : ∀ r ∈ rs, r.length = n
  val : ∀ r ∈ rs, ∀ v ∈ r, v ≠ -2
  few : rs.length ≤ 10
  att : ∀ x ∈ ps, isAttr n x = true
theorem JnP.p {rs : List (List Int)} {n : Nat} {ps : List Int} (h : JnP rs n ps) {x : Int} (hx : x ∈ ps) : (prL rs x).Nodup ∧ (mem x).Pairwise (· < ·) ∧ (∀ c ∈ mem x, 0 ≤ c ∧ c.toNat < n) ∧ (∀ v ∈ prL rs x, v.length = (mem x).length ∧ ∀ y ∈ v, y ≠ -2) ∧ (prL rs x).length ≤ 10 := by
 have hm := mem_lt (c := (n : Nat)) ⟨by have := h.n5; omega, by have := h.n5; omega⟩ (h.att x hx)
 rw [Int.toNat_natCast] at hm
 refine ⟨sortedL_nodup onceL_sorted, mem_pair, hm, fun v hv => ?_, ?_⟩
 ·unfold prL at hv
  rw [onceL_mem, List.mem_map] at hv
  obtain ⟨r, hr, rfl⟩ := hv
  refine ⟨by simp [prRow], fun y hy => ?_⟩
  unfold prRow at hy
  obtain ⟨k, hk, rfl⟩ := List.mem_map.1 hy
  have hl := h.len r hr
  exact h.val r hr _ (getD_mem (by have := hm k hk; omega) 0)
 ·have := @onceL_length (rs.map (prRow (mem x)))
  unfold prL
  rw [List.length_map] at this
  have := h.few
  omega
theorem start_ok {n : Nat} : JnOK n [List.replicate n (-2)] where
 nodup := by simp
 uni r hr s hs k := by simp at hr hs; subst hr; subst hs; exact Iff.rfl
 len r hr := by simp at hr; subst hr; simp
theorem jnI_ok {rs : List (List Int)} {n : Nat} : ∀ {ps : List Int} {l : List (List Int)}, JnP rs n ps → JnOK n l → JnOK n (ps.foldl (fun l x => extI l (prL rs x) (mem x)) l)
 | [], l, _, hl => hl
 | x :: ps, l, h, hl => by
  obtain ⟨p1, p2, p3, p4, _⟩ := h.p (x := x) (by simp)
  exact jnI_ok (ps := ps) ⟨h.n5, h.len, h.val, h.few, fun y hy => h.att y (by simp [hy])⟩ (extI_ok hl p1 p2 p3 p4)
theorem jnI_cols {rs : List (List Int)} {n : Nat} : ∀ {ps : List Int} {l : List (List Int)}, JnP rs n ps → JnOK n l → (∀ r ∈ l, ∀ j, j < n → r.getD j 0 = -2 ∨ r.getD j 0 ∈ rs.map (·.getD j 0)) →
  ∀ r ∈ ps.foldl (fun l x => extI l (prL rs x) (mem x)) l, ∀ j, j < n → r.getD j 0 = -2 ∨ r.getD j 0 ∈ rs.map (·.getD j 0)
 | [], l, _, _, hl => hl
 | x :: ps, l, h, ho, hl => by
  obtain ⟨p1, p2, p3, p4, _⟩ := h.p (x := x) (by simp)
  refine jnI_cols (ps := ps) ⟨h.n5, h.len, h.val, h.few, fun y hy => h.att y (by simp [hy])⟩ (extI_ok ho p1 p2 p3 p4) fun r hr j hj => ?_
  obtain ⟨q, hq, v, hv, e⟩ := extI_mem.1 hr
  obtain ⟨_, rfl⟩ := jnRow_some e
  by_cases hk : (j : Int) ∈ mem x
  ·obtain ⟨i, hi, hj2⟩ := List.mem_iff_getElem.1 hk
   have e1 : (mem x).getD i 0 = (j : Int) := by rw [List.getD_eq_getElem?_getD, List.getElem?_eq_getElem hi]; simp [hj2]
   have := jnR_in (r := q) p2 (fun c hc => by rw [ho.len q hq]; exact p3 c hc) hi (p4 v hv).1.symm
   rw [e1, Int.toNat_natCast] at this
   rw [this]
   right
   unfold prL at hv
   rw [onceL_mem, List.mem_map] at hv
   obtain ⟨r0, hr0, rfl⟩ := hv
   refine List.mem_map.2 ⟨r0, hr0, ?_⟩
   unfold prRow
   rw [List.getD_eq_getElem?_getD, List.getD_eq_getElem?_getD, List.getElem?_map, List.getElem?_eq_getElem hi, hj2]
   simp [List.getD_eq_getElem?_getD]
  ·rw [jnR_out hk fun c hc => (p3 c hc).1]
   exact hl q hq j hj
theorem jnI_few {rs : List (List Int)} {n : Nat} {ps : List Int} (h : JnP rs n ps) : (jnI rs n ps).length ≤ 161051 := by
 have ho := jnI_ok h start_ok
 have hc := jnI_cols h start_ok fun r hr j hj => by
  simp at hr; subst hr; left
  simp [List.getD_eq_getElem?_getD, hj]
 let ks : List (List Int) := (List.range n).map fun j => -2 :: rs.map (·.getD j 0)
 have hk : ks.length = n := by simp [ks]
 have h1 := nodup_le ho.nodup (m := cartL ks) fun r hr => by
  refine cartL_mem (by rw [ho.len r hr, hk]) fun j hj => ?_
  have hj' : j < n := by omega
  have e : ks.getD j [] = -2 :: rs.map (·.getD j 0) := by
   simp [ks, List.getD_eq_getElem?_getD, hj']
  rw [e]
  rcases hc r hr j hj' with q | q
  ·rw [q]; simp
  ·exact List.mem_cons_of_mem _ q
 have h2 := cartL_length (ks := ks) (B := 11) fun k hk => by
  obtain ⟨j, _, rfl⟩ := List.mem_map.1 hk
  have := h.few
  simp; omega
 rw [hk] at h2
 have h3 : 11 ^ n ≤ 11 ^ 5 := Nat.pow_le_pow_right (by omega) h.n5.2
 have h4 : (11 : Nat) ^ 5 = 161051 := by decide
 exact Nat.le_trans h1 (Nat.le_trans h2 (by omega))
theorem JnP.take {rs : List (List Int)} {n : Nat} {ps : List Int} (h : JnP rs n ps) (i : Nat) : JnP rs n (ps.take i) := ⟨h.n5, h.len, h.val, h.few, fun x hx => h.att x (List.mem_of_mem_take hx)⟩
theorem jn_fold {rs : List (List Int)} : ∀ {ps : List Int} {l : List (List Int)}, onceL (ps.foldl (fun l x => extI l (prL rs x) (mem x)) l) = ps.foldl (fun l x => onceL (extI l (prL rs x) (mem x))) (onceL l)
 | [], l => rfl
 | x :: ps, l => by
  rw [List.foldl_cons, List.foldl_cons, jn_fold, extI_once]
theorem jn_same {rs : List (List Int)} {n : Nat} {ps : List Int} : onceL (jnI rs n ps) = jnS rs n ps := by
 unfold jnI jnS
 rw [jn_fold, onceL_one]
theorem jnS_facts {rs : List (List Int)} {n : Nat} {ps : List Int} (h : JnP rs n ps) : (jnS rs n ps).length ≤ 161051 ∧ (∀ r ∈ jnS rs n ps, r.length = n) := by
 rw [← jn_same]
 have ho := jnI_ok h start_ok
 refine ⟨Nat.le_trans onceL_length (jnI_few h), fun r hr => ?_⟩
 rw [onceL_mem] at hr
 exact ho.len r hr
theorem jn_end {rs : List (List Int)} {n : Nat} {ps : List Int} (h : JnP rs n ps) : srtL (jnI rs n ps) = jnS rs n ps := by
 have hn : (jnI rs n ps).Nodup := (jnI_ok h start_ok).nodup
 rw [srtL_nodup hn]
 exact jn_same
def jnOK (c : Int) (rs : List (List Int)) (ps : List Int) : Bool := tabOK c rs && partsOK c ps && decide (rs.length ≤ 10)
def jnC (c : Int) (rs : List (List Int)) (ps : List Int) : Int := if jnOK c rs ps then c else 0
def jnT (c : Int) (rs : List (List Int)) (ps : List Int) : List (List Int) := if jnOK c rs ps then jnS rs c.toNat ps else []
theorem jnP_of {c : Int} {rs : List (List Int)} {ps : List Int} (h : jnOK c rs ps = true) : ∃ n : Nat, c = n ∧ JnP rs n ps ∧ ps.length ≤ 10 ∧ ∀ x ∈ ps, (x == 0) = false := by
 unfold jnOK at h
 rw [Bool.and_eq_true, Bool.and_eq_true, decide_eq_true_eq] at h
 obtain ⟨⟨h1, h2⟩, h3⟩ := h
 obtain ⟨n, rfl, n1, n5, _, _⟩ := tab_rows h1
 have hrow : ∀ r ∈ rs, rowOK r n = true := by
  simp only [tabOK, Bool.and_eq_true, List.all_eq_true] at h1
  exact h1.1
 have hpt : ∀ x ∈ ps, isAttr n x = true ∧ (x == 0) = false := by
  simp only [partsOK, Bool.and_eq_true, List.all_eq_true] at h2
  intro x hx
  have := h2.1 x hx
  unfold partF at this
  rw [Bool.and_eq_true] at this
  exact ⟨this.1, by simpa using this.2⟩
 refine ⟨n, rfl, ⟨⟨n1, n5⟩, fun r hr => ?_, fun r hr v hv e => ?_, h3, fun x hx => (hpt x hx).1⟩, by have := parts_facts h2; omega, fun x hx => (hpt x hx).2⟩
 ·have := hrow r hr
  simp only [rowOK, Bool.and_eq_true, decide_eq_true_eq] at this
  omega
 ·have := hrow r hr
  simp only [rowOK, Bool.and_eq_true, List.all_eq_true, inB_iff] at this
  have := this.1 v hv
  omega
theorem jnT_facts {c : Int} {rs : List (List Int)} {ps : List Int} : (jnT c rs ps).length ≤ 161051 ∧ ∀ r ∈ jnT c rs ps, r.length ≤ 5 := by
 unfold jnT
 split
 ·rename_i h
  obtain ⟨n, rfl, hp, _⟩ := jnP_of h
  obtain ⟨q1, q2⟩ := jnS_facts hp
  rw [Int.toNat_natCast]
  exact ⟨q1, fun r hr => by have := q2 r hr; have := hp.n5; omega⟩
 ·simp
end Go.Own
