/-
  Plain laws: rows in order, each once; rows joined. Conditions: ax each theorem states them.
-/
import Derived.Test.YtjembhkhgahhiaaGreatOwnV5
set_option linter.unusedSimpArgs false
set_option linter.unusedVariables false
namespace Go.Own
open Go
def lexL : List Int → List Int → Bool
 | [], [] => false
 | [], _ :: _ => true
 | _ :: _, [] => false
 | a :: x, b :: y => if a = b then lexL x y else decide (a < b)
theorem lex_irrefl : ∀ x, lexL x x = false
 | [] => rfl
 | a :: x => by rw [lexL, if_pos rfl]; exact lex_irrefl x
theorem lex_trans : ∀ {x y z}, lexL x y = true → lexL y z = true → lexL x z = true
 | [], [], _, h, _ => by cases h
 | [], _ :: _, [], _, h => by cases h
 | [], _ :: _, _ :: _, _, _ => rfl
 | _ :: _, [], _, h, _ => by cases h
 | _ :: _, _ :: _, [], _, h => by cases h
 | a :: x, b :: y, c :: z, h, g => by
  unfold lexL at *
  by_cases e1 : a = b
  ·subst e1
   rw [if_pos rfl] at h
   by_cases e2 : a = c
   ·rw [if_pos e2] at g ⊢; exact lex_trans h g
   ·rw [if_neg e2] at g ⊢; exact g
  ·rw [if_neg e1, decide_eq_true_eq] at h
   by_cases e2 : b = c
   ·subst e2; rw [if_neg e1]; simpa using h
   ·rw [if_neg e2, decide_eq_true_eq] at g
    rw [if_neg (by omega), decide_eq_true_eq]; omega
theorem lex_total : ∀ {x y}, lexL x y = false → lexL y x = false → x = y
 | [], [], _, _ => rfl
 | [], _ :: _, h, _ => by cases h
 | _ :: _, [], _, h => by cases h
 | a :: x, b :: y, h, g => by
  unfold lexL at *
  by_cases e : a = b
  ·subst e; rw [if_pos rfl] at h g; rw [lex_total h g]
  ·rw [if_neg e, decide_eq_false_iff_not] at h
   rw [if_neg (Ne.symm e), decide_eq_false_iff_not] at g
   omega
theorem lex_asymm {x y} (h : lexL x y = true) : lexL y x = false := by
 cases g : lexL y x with
 | false => rfl
 | true => have := lex_trans h g; rw [lex_irrefl] at this; cases this
abbrev SortedL (l : List (List Int)) : Prop := l.Pairwise fun x y => lexL x y = true
theorem sortedL_nodup {l : List (List Int)} (h : SortedL l) : l.Nodup := h.imp fun {x y} hxy e => by subst e; rw [lex_irrefl] at hxy; cases hxy
theorem sortedL_ext : ∀ {l m : List (List Int)}, SortedL l → SortedL m → (∀ x, x ∈ l ↔ x ∈ m) → l = m
 | [], [], _, _, _ => rfl
 | [], b :: m, _, _, h => by have := (h b).2 (by simp); simp at this
 | a :: l, [], _, _, h => by have := (h a).1 (by simp); simp at this
 | a :: l, b :: m, hl, hm, h => by
  rw [SortedL, List.pairwise_cons] at hl hm
  have hab : a = b := by
   rcases List.mem_cons.1 ((h a).1 (by simp)) with e | e
   ·exact e
   ·rcases List.mem_cons.1 ((h b).2 (by simp)) with e2 | e2
    ·exact e2.symm
    ·have := lex_asymm (hl.1 b e2); rw [hm.1 a e] at this; cases this
  subst hab
  have : l = m := sortedL_ext hl.2 hm.2 fun x => by
   constructor
   ·intro hx
    rcases List.mem_cons.1 ((h x).1 (by simp [hx])) with e | e
    ·subst e; have := hl.1 x hx; rw [lex_irrefl] at this; cases this
    ·exact e
   ·intro hx
    rcases List.mem_cons.1 ((h x).2 (by simp [hx])) with e | e
    ·subst e; have := hm.1 x hx; rw [lex_irrefl] at this; cases this
    ·exact e
  rw [this]
def mergeL : List (List Int) → List (List Int) → List (List Int)
 | [], bs => bs
 | a :: ax, [] => a :: ax
 | a :: ax, b :: bs => if lexL a b then a :: mergeL ax (b :: bs) else if lexL b a then b :: mergeL (a :: ax) bs else mergeL (a :: ax) bs
 termination_by a b => a.length + b.length
theorem mergeL_nil {a : List (List Int)} : mergeL a [] = a := by cases a <;> simp [mergeL]
theorem mergeL_mem : ∀ {a b : List (List Int)} {x}, x ∈ mergeL a b ↔ x ∈ a ∨ x ∈ b
 | [], bs, x => by simp [mergeL]
 | a :: ax, [], x => by simp [mergeL]
 | a :: ax, b :: bs, x => by
  unfold mergeL
  split
  ·rw [List.mem_cons, mergeL_mem, List.mem_cons, List.mem_cons]; simp only [or_assoc]
  ·split
   ·rw [List.mem_cons, mergeL_mem, List.mem_cons, List.mem_cons]
    constructor
    ·rintro (h | (h | h) | h) <;> simp [h]
    ·rintro ((h | h) | h | h) <;> simp [h]
   ·rename_i h1 h2
    have e : a = b := lex_total (by simpa using h1) (by simpa using h2)
    subst e
    rw [mergeL_mem, List.mem_cons, List.mem_cons]
    constructor
    ·rintro ((h | h) | h) <;> simp [h]
    ·rintro ((h | h) | h | h) <;> simp [h]
 termination_by a b => a.length + b.length
theorem mergeL_length : ∀ {a b : List (List Int)}, (mergeL a b).length ≤ a.length + b.length
 | [], bs => by simp [mergeL]
 | a :: ax, [] => by simp [mergeL]
 | a :: ax, b :: bs => by
  unfold mergeL
  split
  ·have := @mergeL_length ax (b :: bs)
   simp only [List.length_cons] at *; omega
  ·split
   ·have := @mergeL_length (a :: ax) bs
    simp only [List.length_cons] at *; omega
   ·have := @mergeL_length (a :: ax) bs
    simp only [List.length_cons] at *; omega
 termination_by a b => a.length + b.length
theorem mergeL_sorted : ∀ {a b : List (List Int)}, SortedL a → SortedL b → SortedL (mergeL a b)
 | [], bs, _, h => by simpa [mergeL] using h
 | a :: ax, [], h, _ => by simpa [mergeL] using h
 | a :: ax, b :: bs, ha, hb => by
  have ha' := List.pairwise_cons.1 ha
  have hb' := List.pairwise_cons.1 hb
  unfold mergeL
  split
  ·rename_i h1
   refine List.pairwise_cons.2 ⟨fun x hx => ?_, mergeL_sorted ha'.2 hb⟩
   rcases mergeL_mem.1 hx with h | h
   ·exact ha'.1 x h
   ·rcases List.mem_cons.1 h with h | h
    ·rw [h]; exact h1
    ·exact lex_trans h1 (hb'.1 x h)
  ·split
   ·rename_i h1 h2
    refine List.pairwise_cons.2 ⟨fun x hx => ?_, mergeL_sorted ha hb'.2⟩
    rcases mergeL_mem.1 hx with h | h
    ·rcases List.mem_cons.1 h with h | h
     ·rw [h]; exact h2
     ·exact lex_trans h2 (ha'.1 x h)
    ·exact hb'.1 x h
   ·exact mergeL_sorted ha hb'.2
 termination_by a b => a.length + b.length
def onceL : List (List Int) → List (List Int)
 | [] => []
 | x :: l => mergeL [x] (onceL l)
theorem onceL_mem : ∀ {l : List (List Int)} {x}, x ∈ onceL l ↔ x ∈ l
 | [], x => by simp [onceL]
 | a :: l, x => by rw [onceL, mergeL_mem, onceL_mem, List.mem_singleton, List.mem_cons]
theorem onceL_sorted : ∀ {l : List (List Int)}, SortedL (onceL l)
 | [] => .nil
 | a :: l => mergeL_sorted (by simp) onceL_sorted
theorem onceL_length : ∀ {l : List (List Int)}, (onceL l).length ≤ l.length
 | [] => Nat.le_refl _
 | a :: l => by
  have h1 := @mergeL_length [a] (onceL l)
  have h2 := @onceL_length l
  rw [onceL, List.length_cons]; simp only [List.length_cons, List.length_nil] at h1; omega
theorem onceL_halves {l : List (List Int)} {k : Nat} : mergeL (onceL (l.take k)) (onceL (l.drop k)) = onceL l :=
 sortedL_ext (mergeL_sorted onceL_sorted onceL_sorted) onceL_sorted fun x => by
  rw [mergeL_mem, onceL_mem, onceL_mem, onceL_mem, ← List.mem_append, List.take_append_drop]
theorem onceL_one {a : List Int} : onceL [a] = [a] := by simp [onceL, mergeL]
def jnRow : List Int → List Int → List Int → Option (List Int)
 | r, c :: cs, v :: vs => if r.getD c.toNat 0 = -2 ∨ r.getD c.toNat 0 = v then jnRow (r.set c.toNat v) cs vs else none
 | r, _, _ => some r
def jnR : List Int → List Int → List Int → List Int
 | r, c :: cs, v :: vs => jnR (r.set c.toNat v) cs vs
 | r, _, _ => r
def jnB : List Int → List Int → List Int → Bool
 | r, c :: cs, v :: vs => (r.getD c.toNat 0 == -2 || r.getD c.toNat 0 == v) && jnB (r.set c.toNat v) cs vs
 | r, _, _ => true
theorem jnRow_eq : ∀ {r m vs : List Int}, jnRow r m vs = if jnB r m vs then some (jnR r m vs) else none
 | r, [], vs => by simp [jnRow, jnB, jnR]
 | r, c :: cs, [] => by simp [jnRow, jnB, jnR]
 | r, c :: cs, v :: vs => by
  unfold jnRow jnB jnR
  rw [jnRow_eq]
  by_cases h : r.getD c.toNat 0 = -2 ∨ r.getD c.toNat 0 = v
  ·rw [if_pos h]
   have : (r.getD c.toNat 0 == -2 || r.getD c.toNat 0 == v) = true := by simpa using h
   rw [this, Bool.true_and]
  ·rw [if_neg h]
   have : (r.getD c.toNat 0 == -2 || r.getD c.toNat 0 == v) = false := by simpa using h
   rw [this, Bool.false_and]; rfl
def extI (l p : List (List Int)) (m : List Int) : List (List Int) := l.flatMap fun r => p.filterMap fun v => jnRow r m v
theorem extI_mem {l p : List (List Int)} {m x : List Int} : x ∈ extI l p m ↔ ∃ r ∈ l, ∃ v ∈ p, jnRow r m v = some x := by
 simp [extI, List.mem_flatMap, List.mem_filterMap]
theorem extI_length {l p : List (List Int)} {m : List Int} : (extI l p m).length ≤ l.length * p.length := by
 unfold extI
 induction l with
 | nil => simp
 | cons a l ih =>
  rw [List.flatMap_cons, List.length_append, List.length_cons, Nat.add_mul, Nat.one_mul]
  have := List.length_filterMap_le (fun v => jnRow a m v) p
  omega
theorem jnR_length : ∀ {r m vs : List Int}, (jnR r m vs).length = r.length
 | r, [], vs => by simp [jnR]
 | r, c :: cs, [] => by simp [jnR]
 | r, c :: cs, v :: vs => by rw [jnR, jnR_length, List.length_set]
theorem jnRow_some {r m vs x : List Int} (h : jnRow r m vs = some x) : jnB r m vs = true ∧ x = jnR r m vs := by
 rw [jnRow_eq] at h
 split at h
 ·exact ⟨‹_›, by simpa using h.symm⟩
 ·cases h
theorem jnR_out : ∀ {r m vs : List Int} {k : Nat}, (k : Int) ∉ m → (∀ c ∈ m, 0 ≤ c) → (jnR r m vs).getD k 0 = r.getD k 0
 | r, [], vs, k, _, _ => by simp [jnR]
 | r, c :: cs, [], k, _, _ => by simp [jnR]
 | r, c :: cs, v :: vs, k, h, h0 => by
  rw [jnR, jnR_out (fun g => h (by simp [g])) (fun c hc => h0 c (by simp [hc]))]
  have hc := h0 c (by simp)
  have : c.toNat ≠ k := fun e => h (by rw [← e]; simp; left; omega)
  simp [List.getD_eq_getElem?_getD, List.getElem?_set, this]
theorem jnR_in : ∀ {r m vs : List Int} {j : Nat}, m.Pairwise (· < ·) → (∀ c ∈ m, 0 ≤ c ∧ c.toNat < r.length) → j < m.length → m.length = vs.length → (jnR r m vs).getD (m.getD j 0).toNat 0 = vs.getD j 0
 | r, [], vs, j, _, _, h, _ => by simp at h
 | r, c :: cs, [], j, _, _, _, h => by simp at h
 | r, c :: cs, v :: vs, 0, hp, h0, _, _ => by
  have hp' := List.pairwise_cons.1 hp
  have hc := h0 c (by simp)
  rw [jnR]
  have e : (c :: cs).getD 0 0 = c := rfl
  have e2 : (v :: vs).getD 0 0 = v := rfl
  rw [e, e2, jnR_out (k := c.toNat) (fun g => by have := hp'.1 _ g; omega) (fun c' hc' => (h0 c' (by simp [hc'])).1)]
  simp [List.getD_eq_getElem?_getD, List.getElem?_set, hc.2]
 | r, c :: cs, v :: vs, j + 1, hp, h0, hj, hl => by
  have hp' := List.pairwise_cons.1 hp
  rw [jnR]
  have e : (c :: cs).getD (j + 1) 0 = cs.getD j 0 := rfl
  have e2 : (v :: vs).getD (j + 1) 0 = vs.getD j 0 := rfl
  rw [e, e2]
  exact jnR_in hp'.2 (fun c' hc' => by rw [List.length_set]; exact h0 c' (by simp [hc'])) (by simpa using hj) (by simpa using hl)
theorem jnB_at : ∀ {r m vs : List Int} {j : Nat}, m.Pairwise (· < ·) → (∀ c ∈ m, 0 ≤ c) → jnB r m vs = true → j < m.length → m.length = vs.length → r.getD (m.getD j 0).toNat 0 = -2 ∨ r.getD (m.getD j 0).toNat 0 = vs.getD j 0
 | r, [], vs, j, _, _, _, h, _ => by simp at h
 | r, c :: cs, [], j, _, _, _, _, h => by simp at h
 | r, c :: cs, v :: vs, 0, hp, h0, hb, _, _ => by
  rw [jnB, Bool.and_eq_true] at hb
  simpa using hb.1
 | r, c :: cs, v :: vs, j + 1, hp, h0, hb, hj, hl => by
  have hp' := List.pairwise_cons.1 hp
  rw [jnB, Bool.and_eq_true] at hb
  have e : (c :: cs).getD (j + 1) 0 = cs.getD j 0 := rfl
  have e2 : (v :: vs).getD (j + 1) 0 = vs.getD j 0 := rfl
  rw [e, e2]
  have hj' : j < cs.length := by simpa using hj
  have := jnB_at hp'.2 (fun c' hc' => h0 c' (by simp [hc'])) hb.2 hj' (by simpa using hl)
  have hm : cs.getD j 0 ∈ cs := by rw [List.getD_eq_getElem?_getD, List.getElem?_eq_getElem hj']; simp
  have hlt := hp'.1 _ hm
  have hc0 := h0 c (by simp)
  have hne : c.toNat ≠ (cs.getD j 0).toNat := by omega
  have hg : ∀ q : Nat, c.toNat ≠ q → (r.set c.toNat v).getD q 0 = r.getD q 0 := fun q hq => by
   simp [List.getD_eq_getElem?_getD, List.getElem?_set, hq]
  rwa [hg _ hne] at this
theorem onceL_ext {l m : List (List Int)} (h : ∀ x, x ∈ l ↔ x ∈ m) : onceL l = onceL m :=
 sortedL_ext onceL_sorted onceL_sorted fun x => by rw [onceL_mem, onceL_mem]; exact h x
theorem extI_once {l p : List (List Int)} {m : List Int} : onceL (extI (onceL l) p m) = onceL (extI l p m) :=
 onceL_ext fun x => by simp only [extI_mem, onceL_mem]
def UniL (l : List (List Int)) : Prop := ∀ r ∈ l, ∀ s ∈ l, ∀ k : Nat, r.getD k 0 = -2 ↔ s.getD k 0 = -2
structure JnOK (n : Nat) (l : List (List Int)) : Prop where
  nodup : l.Nodup
  uni : UniL l
  len : ∀ r ∈ l, r.length = n
theorem ext_getD {r s : List Int} (h : r.length = s.length) (hk : ∀ k : Nat, r.getD k 0 = s.getD k 0) : r = s := by
 apply List.ext_getElem h
 intro i h1 h2
 have := hk i
 simpa [List.getD_eq_getElem?_getD, List.getElem?_eq_getElem h1, List.getElem?_eq_getElem h2] using this
theorem nodup_filterMap {α β : Type} {f : α → Option β} : ∀ {l : List α}, l.Nodup → (∀ x ∈ l, ∀ y ∈ l, ∀ z, f x = some z → f y = some z → x = y) → (l.filterMap f).Nodup
 | [], _, _ => by simp
 | a :: l, h, hf => by
  have h' := List.nodup_cons.1 h
  have ih := nodup_filterMap h'.2 fun x hx y hy => hf x (by simp [hx]) y (by simp [hy])
  rw [List.filterMap_cons]
  split
  ·exact ih
  ·rename_i z hz
   refine List.nodup_cons.2 ⟨fun hm => ?_, ih⟩
   obtain ⟨y, hy, hfy⟩ := List.mem_filterMap.1 hm
   exact h'.1 (hf a (by simp) y (by simp [hy]) z hz hfy ▸ hy)
theorem extI_ok {n : Nat} {l p : List (List Int)} {m : List Int} (h : JnOK n l) (hp : p.Nodup) (hm : m.Pairwise (· < ·)) (hc : ∀ c ∈ m, 0 ≤ c ∧ c.toNat < n) (hv : ∀ v ∈ p, v.length = m.length ∧ ∀ x ∈ v, x ≠ -2) : JnOK n (extI l p m) := by
 have key : ∀ r ∈ l, ∀ v ∈ p, ∀ x, jnRow r m v = some x → ∀ k : Nat, ((k : Int) ∉ m → x.getD k 0 = r.getD k 0) ∧ ∀ j, j < m.length → x.getD (m.getD j 0).toNat 0 = v.getD j 0 := by
  intro r hr v hv' x hx k
  obtain ⟨_, rfl⟩ := jnRow_some hx
  exact ⟨fun hk => jnR_out hk fun c hcm => (hc c hcm).1, fun j hj => jnR_in hm (fun c hcm => by rw [h.len r hr]; exact hc c hcm) hj (hv v hv').1.symm⟩
 have col : ∀ k : Nat, (k : Int) ∈ m → ∃ j, j < m.length ∧ (m.getD j 0).toNat = k := by
  intro k hk
  obtain ⟨j, hj, e⟩ := List.mem_iff_getElem.1 hk
  exact ⟨j, hj, by rw [List.getD_eq_getElem?_getD, List.getElem?_eq_getElem hj]; simp [e]⟩
 have nz : ∀ v ∈ p, ∀ j, j < m.length → v.getD j 0 ≠ -2 := by
  intro v hv' j hj
  obtain ⟨h1, h2⟩ := hv v hv'
  apply h2
  rw [List.getD_eq_getElem?_getD, List.getElem?_eq_getElem (by omega)]
  simp
 have inj : ∀ r ∈ l, ∀ s ∈ l, ∀ v ∈ p, ∀ u ∈ p, ∀ x, jnRow r m v = some x → jnRow s m u = some x → r = s ∧ v = u := by
  intro r hr s hs v hv' u hu x hx hy
  have b1 := (jnRow_some hx).1
  have b2 := (jnRow_some hy).1
  have evu : v = u := ext_getD (by rw [(hv v hv').1, (hv u hu).1]) fun j => by
   by_cases hj : j < m.length
   ·rw [← (key r hr v hv' x hx 0).2 j hj, ← (key s hs u hu x hy 0).2 j hj]
   ·have h1 := (hv v hv').1
    have h2 := (hv u hu).1
    simp only [List.getD_eq_getElem?_getD]
    rw [List.getElem?_eq_none (by omega), List.getElem?_eq_none (by omega)]
  subst evu
  refine ⟨ext_getD (by rw [h.len r hr, h.len s hs]) fun k => ?_, rfl⟩
  by_cases hk : (k : Int) ∈ m
  ·obtain ⟨j, hj, rfl⟩ := col k hk
   have q1 := jnB_at hm (fun c hcm => (hc c hcm).1) b1 hj (hv v hv').1.symm
   have q2 := jnB_at hm (fun c hcm => (hc c hcm).1) b2 hj (hv v hv').1.symm
   have q3 := h.uni r hr s hs (m.getD j 0).toNat
   have q4 := nz v hv' j hj
   rcases q1 with q1 | q1 <;> rcases q2 with q2 | q2
   ·rw [q1, q2]
   ·have := q3.1 q1; rw [q2] at this; exact absurd this q4
   ·have := q3.2 q2; rw [q1] at this; exact absurd this q4
   ·rw [q1, q2]
  ·rw [← (key r hr v hv' x hx k).1 hk, ← (key s hs v hv' x hy k).1 hk]
 refine ⟨?_, ?_, ?_⟩
 ·unfold extI
  have hin : ∀ r ∈ l, (p.filterMap fun v => jnRow r m v).Nodup := fun r hr =>
   nodup_filterMap hp fun v hv' u hu x hx hy => (inj r hr r hr v hv' u hu x hx hy).2
  have hdis : ∀ r ∈ l, ∀ s ∈ l, r ≠ s → ∀ x ∈ (p.filterMap fun v => jnRow r m v), x ∉ (p.filterMap fun v => jnRow s m v) := by
   intro r hr s hs hne x hx hy
   obtain ⟨v, hv', hx⟩ := List.mem_filterMap.1 hx
   obtain ⟨u, hu, hy⟩ := List.mem_filterMap.1 hy
   exact hne (inj r hr s hs v hv' u hu x hx hy).1
  have hn := h.nodup
  clear inj key col nz h
  induction l with
  | nil => simp
  | cons a l ih =>
   have hn' := List.nodup_cons.1 hn
   rw [List.flatMap_cons, List.nodup_append]
   refine ⟨hin a (by simp), ih (fun r hr => hin r (by simp [hr])) (fun r hr s hs => hdis r (by simp [hr]) s (by simp [hs])) hn'.2, ?_⟩
   intro x hx y hy e
   subst e
   obtain ⟨s, hs, hy⟩ := List.mem_flatMap.1 hy
   exact hdis a (by simp) s (by simp [hs]) (fun e => hn'.1 (e ▸ hs)) x hx hy
 ·intro x hx y hy k
  obtain ⟨r, hr, v, hv', hx⟩ := extI_mem.1 hx
  obtain ⟨s, hs, u, hu, hy⟩ := extI_mem.1 hy
  by_cases hk : (k : Int) ∈ m
  ·obtain ⟨j, hj, rfl⟩ := col k hk
   rw [(key r hr v hv' x hx 0).2 j hj, (key s hs u hu y hy 0).2 j hj]
   exact ⟨fun e => absurd e (nz v hv' j hj), fun e => absurd e (nz u hu j hj)⟩
  ·rw [(key r hr v hv' x hx k).1 hk, (key s hs u hu y hy k).1 hk]
   exact h.uni r hr s hs k
 ·intro x hx
  obtain ⟨r, hr, v, hv', hx⟩ := extI_mem.1 hx
  rw [(jnRow_some hx).2, jnR_length]
  exact h.len r hr
def cartL : List (List Int) → List (List Int)
 | [] => [[]]
 | k :: ks => k.flatMap fun x => (cartL ks).map (x :: ·)
theorem cartL_length : ∀ {ks : List (List Int)} {B : Nat}, (∀ k ∈ ks, k.length ≤ B) → (cartL ks).length ≤ B ^ ks.length
 | [], B, _ => by simp [cartL]
 | k :: ks, B, h => by
  have ih := cartL_length fun k' hk => h k' (List.mem_cons_of_mem _ hk)
  have hk := h k (by simp)
  have : ∀ q : List Int, (q.flatMap fun x => (cartL ks).map (x :: ·)).length = q.length * (cartL ks).length := by
   intro q
   induction q with
   | nil => simp
   | cons a q ihq => rw [List.flatMap_cons, List.length_append, ihq, List.length_map, List.length_cons, Nat.add_mul, Nat.one_mul]; omega
  rw [cartL, this, List.length_cons, Nat.pow_succ, Nat.mul_comm]
  exact Nat.mul_le_mul ih hk
theorem cartL_mem : ∀ {ks : List (List Int)} {r : List Int}, r.length = ks.length → (∀ j, j < ks.length → r.getD j 0 ∈ ks.getD j []) → r ∈ cartL ks
 | [], [], _, _ => by simp [cartL]
 | [], _ :: _, h, _ => by simp at h
 | k :: ks, [], h, _ => by simp at h
 | k :: ks, x :: r, h, hm => by
  rw [cartL, List.mem_flatMap]
  refine ⟨x, hm 0 (by simp), List.mem_map.2 ⟨r, cartL_mem (by simpa using h) (fun j hj => hm (j + 1) (by simpa using hj)), rfl⟩⟩
theorem nodup_le : ∀ {l m : List (List Int)}, l.Nodup → (∀ x ∈ l, x ∈ m) → l.length ≤ m.length
 | [], m, _, _ => by simp
 | a :: l, m, h, hm => by
  have h' := List.nodup_cons.1 h
  have ha := hm a (by simp)
  have := nodup_le (m := m.erase a) h'.2 fun x hx => (List.mem_erase_of_ne (by rintro rfl; exact h'.1 hx)).2 (hm x (by simp [hx]))
  rw [List.length_erase_of_mem ha] at this
  have : 0 < m.length := List.length_pos_of_mem ha
  rw [List.length_cons]; omega
end Go.Own
