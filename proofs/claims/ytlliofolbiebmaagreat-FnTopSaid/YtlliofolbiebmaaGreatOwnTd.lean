/- Own contracts. Conditions: as each theorem states them. -/
import Derived.Test.YtlliofolbiebmaaGreatOwnI3
set_option linter.unusedSimpArgs false
set_option linter.unusedVariables false
set_option maxRecDepth 20000
set_option maxHeartbeats 2000000
namespace Go.Own
open Go Go.Proofs
attribute [local go_sem] unD_dL dL_length dL_get dL_set dL_inj wfD_dL scal2 beq2 pair_eta dL_scal
def Later (K : St → Prop) : St → Prop := K
theorem Later.mk {T : Tabs} {ops : Array Oper} {K : St → Prop} {l : List Oper} {s : St} (h : TL T ops (Later K) l s) : TL T ops K l s := h
theorem Later.out {K : St → Prop} {s : St} (h : K s) : Later K s := h
attribute [irreducible] Later
def s17C (L : List (Int × Int)) (r : Int) (xs : List Int) : List (Int × Int) := (xs.filter fun x => L.any fun e => e == (x, r)).map fun x => (x, r)
def s17 (L : List (Int × Int)) (xs : List Int) : Nat → List (Int × Int)
 | 0 => []
 | r + 1 => s17 L xs r ++ s17C L (r : Nat) xs
theorem s17C_len {L : List (Int × Int)} {r : Int} {xs : List Int} : (s17C L r xs).length ≤ xs.length := by
 unfold s17C; rw [List.length_map]; exact List.length_filter_le _ _
theorem s17_len {L : List (Int × Int)} {xs : List Int} (h : xs.length ≤ 32) : ∀ {r : Nat}, (s17 L xs r).length ≤ r * 32
 | 0 => Nat.le_refl _
 | r + 1 => by
  have h1 := @s17_len L xs h r
  have h2 := @s17C_len L (r : Nat) xs
  rw [s17, List.length_append]
  omega
end Go.Own
namespace Go.Own
open Go Go.Proofs
def brkB (n ag : Int) (d : Int × Int) : Bool := depOK n d.1 d.2 && (bitI .and .i64 ag d.1 == d.1) && (bitI .and .i64 (ag.fdiv (2 ^ d.2.toNat)) 1 == 0)
def addK (ag : Int) (d : Int × Int) (K : List (Int × Int)) : Nat → List (Int × Int)
 | 0 => K
 | k + 1 => addK ag d K k ++ (if (bitI .and .i64 (ag.fdiv (2 ^ k)) 1 == 0) && ((k : Nat) : Int) != d.2 && !cov (addK ag d K k) (addB d.1 (k : Nat), d.2) then [(addB d.1 (k : Nat), d.2)] else [])
def addL (m : Nat) (ag : Int) (K B : List (Int × Int)) : List (Int × Int) := B.foldl (fun K d => addK ag d K m) K
def fineT (K : List (Int × Int)) (i k : Nat) : Bool := ((k : Int) == (i : Int)) || !cov [K.getD k (0, 0)] (K.getD i (0, 0)) || (K.getD k (0, 0) == K.getD i (0, 0) && decide ((k : Int) > (i : Int)))
def fineN (K : List (Int × Int)) (i : Nat) : Nat → Bool
 | 0 => true
 | k + 1 => fineN K i k && fineT K i k
def lowL (K : List (Int × Int)) : Nat → List (Int × Int)
 | 0 => []
 | i + 1 => lowL K i ++ (if fineN K i K.length then [K.getD i (0, 0)] else [])
def keptD (n ag : Int) (ds : List (Int × Int)) : List (Int × Int) := addL n.toNat ag (ds.filter fun d => !brkB n ag d) (ds.filter (brkB n ag))
def spcS (n ag : Int) (ds : List (Int × Int)) : List (Int × Int) := if spcV n ag then s17 (lowL (keptD n ag ds) (keptD n ag ds).length) (pbsI n) n.toNat else ds
theorem and_low {e y : Int} (hy : R5 y) : R5 (bitI .and .i64 e y) := by
 have hw : ∀ m : Fin 32, IntKind.i64.wrap ((m.val : Nat) : Int) = ((m.val : Nat) : Int) := by decide +kernel
 have h1 : (BitVec.ofInt IntKind.i64.bits e &&& BitVec.ofInt IntKind.i64.bits y).toNat ≤ 31 := by
  rw [BitVec.toNat_and]
  refine Nat.le_trans Nat.and_le_right ?_
  obtain ⟨q, rfl⟩ := hy.fin
  have : ∀ q : Fin 32, (BitVec.ofInt IntKind.i64.bits ((q.val : Nat) : Int)).toNat ≤ 31 := by decide +kernel
  exact this q
 have h2 := hw ⟨_, Nat.lt_succ_of_le h1⟩
 dsimp only at h2
 unfold bitI
 dsimp only
 rw [h2]
 exact ⟨by omega, by omega⟩
theorem ins_leS : ∀ l x : Fin 32, insB ((l.val : Nat) : Int) ((x.val : Nat) : Int) = true → l.val ≤ x.val := by decide +kernel
theorem insB_le {l x : Int} (hl : R5 l) (hx : R5 x) (h : insB l x = true) : l ≤ x := by
 obtain ⟨l, rfl⟩ := hl.fin; obtain ⟨x, rfl⟩ := hx.fin
 have := ins_leS l x h
 omega
theorem covB_facts {d e : Int × Int} (hd : R5 d.1) (h : covB d e = true) : e.2 = d.2 ∧ R5 e.1 ∧ insB e.1 d.1 = true := by
 unfold covB at h
 rw [Bool.and_eq_true, beq_iff_eq, beq_iff_eq] at h
 have h5 : R5 e.1 := by rw [← h.2]; exact and_low hd
 refine ⟨h.1, h5, ?_⟩
 rw [← and_ins h5 hd, h.2, beq_self_eq_true]
theorem covB_of {d e : Int × Int} (hd : R5 d.1) (he : R5 e.1) (h1 : e.2 = d.2) (h2 : insB e.1 d.1 = true) : covB d e = true := by
 unfold covB
 rw [and_ins he hd, h2, h1]; simp
theorem isAttr_sub {n x y : Int} (hy : isAttr n y = true) (hx : R5 x) (h : insB x y = true) : isAttr n x = true := by
 have h1 := isAttr_le hy
 have h2 := insB_le hx ⟨h1.2.2.1, h1.2.2.2⟩ h
 simp only [isAttr, Bool.and_eq_true, inB_iff] at hy ⊢
 have := hx.1
 omega
theorem covB_valid {n : Int} {d e : Int × Int} (hd : depOK n d.1 d.2 = true) (h : covB d e = true) : depOK n e.1 e.2 = true := by
 obtain ⟨h1, h2, h3⟩ := covB_facts (depOK_R hd).1 h
 unfold depOK at *
 rw [Bool.and_eq_true, Bool.and_eq_true] at *
 rw [h1]
 exact ⟨⟨hd.1.1, isAttr_sub hd.1.2 h2 h3⟩, hd.2⟩
theorem covB_trans {d e f : Int × Int} (hd : R5 d.1) (h1 : covB d e = true) (h2 : covB e f = true) : covB d f = true := by
 obtain ⟨a1, a2, a3⟩ := covB_facts hd h1
 obtain ⟨b1, b2, b3⟩ := covB_facts a2 h2
 exact covB_of hd b2 (b1.trans a1) (insB_trans b2 a2 hd b3 a3)
theorem covB_refl {d : Int × Int} (hd : R5 d.1) : covB d d = true := covB_of hd hd rfl (insB_refl hd)
theorem covB_anti {d e : Int × Int} (hd : R5 d.1) (h1 : covB d e = true) (h2 : covB e d = true) : e = d := by
 obtain ⟨a1, a2, a3⟩ := covB_facts hd h1
 obtain ⟨b1, b2, b3⟩ := covB_facts a2 h2
 exact Prod.ext (leB_antisymm a2 hd ((insB_iff a2 hd).1 a3) ((insB_iff hd a2).1 b3)) a1
theorem cov_iff {K : List (Int × Int)} {d : Int × Int} : cov K d = true ↔ ∃ e ∈ K, covB d e = true := by unfold cov; rw [List.any_eq_true]
def extB (m : Nat) (ag : Int) (d x : Int × Int) : Prop := ∃ k : Nat, k < m ∧ hasB ag (k : Nat) = false ∧ ((k : Nat) : Int) ≠ d.2 ∧ x = (addB d.1 (k : Nat), d.2)
theorem has_zero {ag : Int} (hg : R5 ag) {k : Nat} (hk : k ≤ 4) : (bitI .and .i64 (ag.fdiv (2 ^ k)) 1 == 0) = !hasB ag (k : Nat) := by
 have := has_eq0 (x := ag) (r := (k : Nat)) ⟨by omega, by omega⟩ hg
 rwa [Int.toNat_natCast] at this
theorem addK_facts {ag : Int} (hg : R5 ag) {d : Int × Int} (hd : depR d) : ∀ {m : Nat}, m ≤ 5 → ∀ {K : List (Int × Int)}, (∀ x ∈ addK ag d K m, x ∈ K ∨ extB m ag d x) ∧ (∀ x ∈ K, x ∈ addK ag d K m) ∧ (∀ x, extB m ag d x → cov (addK ag d K m) x = true)
 | 0, _, K => ⟨fun x hx => .inl hx, fun x hx => hx, fun x ⟨k, h, _⟩ => by omega⟩
 | m + 1, hm, K => by
  obtain ⟨h1, h2, h3⟩ := @addK_facts ag hg d hd m (by omega) K
  have hz := has_zero hg (k := m) (by omega)
  have hx5 : R5 (addB d.1 (m : Nat)) := addB_R hd.1 ⟨by omega, by omega⟩
  rw [addK, hz]
  refine ⟨fun x hx => ?_, fun x hx => List.mem_append_left _ (h2 x hx), fun x hx => ?_⟩
  ·rcases List.mem_append.1 hx with hx | hx
   ·rcases h1 x hx with h | ⟨k, k1, k2⟩
    ·exact .inl h
    ·exact .inr ⟨k, by omega, k2⟩
   ·split at hx
    ·rename_i hc
     rw [Bool.and_eq_true, Bool.and_eq_true, Bool.not_eq_true', bne_iff_ne] at hc
     rw [List.mem_singleton] at hx
     exact .inr ⟨m, by omega, hc.1.1, hc.1.2, hx⟩
    ·cases hx
  ·have up : ∀ {L : List (Int × Int)} {y : Int × Int}, cov (addK ag d K m) y = true → cov (addK ag d K m ++ L) y = true := fun {L y} h => by
    obtain ⟨e, e1, e2⟩ := cov_iff.1 h
    exact cov_iff.2 ⟨e, List.mem_append_left _ e1, e2⟩
   obtain ⟨k, k1, k2, k3, rfl⟩ := hx
   by_cases e : k = m
   ·subst e
    rw [k2, bne_iff_ne.2 k3]
    cases hc : cov (addK ag d K k) (addB d.1 (k : Nat), d.2)
    ·exact cov_iff.2 ⟨_, List.mem_append_right _ (by simp), covB_refl hx5⟩
    ·exact up hc
   ·exact up (h3 _ ⟨k, by omega, k2, k3, rfl⟩)
theorem addL_facts {ag : Int} (hg : R5 ag) {m : Nat} (hm : m ≤ 5) : ∀ {B K : List (Int × Int)}, (∀ d ∈ B, depR d) → (∀ x ∈ addL m ag K B, x ∈ K ∨ ∃ d ∈ B, extB m ag d x) ∧ (∀ x ∈ K, x ∈ addL m ag K B) ∧ (∀ x, (∃ d ∈ B, extB m ag d x) → cov (addL m ag K B) x = true)
 | [], K, _ => ⟨fun x hx => .inl hx, fun x hx => hx, fun x ⟨d, h, _⟩ => by cases h⟩
 | b :: B, K, hB => by
  obtain ⟨a1, a2, a3⟩ := addK_facts hg (hB b (by simp)) hm (K := K)
  obtain ⟨b1, b2, b3⟩ := addL_facts hg hm (B := B) (K := addK ag b K m) (fun d hd => hB d (by simp [hd]))
  refine ⟨fun x hx => ?_, fun x hx => b2 x (a2 x hx), fun x ⟨d, hd, hx⟩ => ?_⟩
  ·rcases b1 x hx with h | ⟨d, h1, h2⟩
   ·rcases a1 x h with h | h
    ·exact .inl h
    ·exact .inr ⟨b, by simp, h⟩
   ·exact .inr ⟨d, by simp [h1], h2⟩
  ·rcases List.mem_cons.1 hd with rfl | hd
   ·obtain ⟨e, e1, e2⟩ := cov_iff.1 (a3 x hx)
    exact cov_iff.2 ⟨e, b2 e e1, e2⟩
   ·exact b3 x ⟨d, hd, hx⟩
theorem fineN_iff {K : List (Int × Int)} {i : Nat} : ∀ {k : Nat}, fineN K i k = true ↔ ∀ j, j < k → fineT K i j = true
 | 0 => by simp [fineN]
 | k + 1 => by
  rw [fineN, Bool.and_eq_true, @fineN_iff K i k]
  constructor
  ·rintro ⟨h1, h2⟩ j hj
   by_cases e : j = k
   ·subst e; exact h2
   ·exact h1 j (by omega)
  ·exact fun h => ⟨fun j hj => h j (by omega), h k (by omega)⟩
theorem lowL_mem {K : List (Int × Int)} {x : Int × Int} : ∀ {i : Nat}, x ∈ lowL K i ↔ ∃ j, j < i ∧ fineN K j K.length = true ∧ K.getD j (0, 0) = x
 | 0 => by simp [lowL]
 | i + 1 => by
  rw [lowL, List.mem_append, @lowL_mem K x i]
  constructor
  ·rintro (⟨j, h1, h2⟩ | h)
   ·exact ⟨j, by omega, h2⟩
   ·split at h
    ·rename_i hf
     rw [List.mem_singleton] at h
     exact ⟨i, by omega, hf, h.symm⟩
    ·cases h
  ·rintro ⟨j, h1, h2, h3⟩
   by_cases e : j = i
   ·subst e
    right
    rw [if_pos h2, h3]; simp
   ·exact .inl ⟨j, by omega, h2, h3⟩
theorem low_iff {K : List (Int × Int)} {x : Int × Int} (hx : R5 x.1) : x ∈ lowL K K.length ↔ x ∈ K ∧ ∀ e ∈ K, covB x e = true → e = x := by
 rw [lowL_mem]
 constructor
 ·rintro ⟨j, h1, h2, h3⟩
  refine ⟨by rw [← h3]; exact getD_mem h1 _, fun e he hc => ?_⟩
  obtain ⟨k, hk, rfl⟩ := List.getElem_of_mem he
  have := fineN_iff.1 h2 k hk
  unfold fineT at this
  have e1 : K.getD k (0, 0) = K[k] := by simp [List.getD_eq_getElem?_getD, hk]
  rw [h3, e1] at this
  simp only [Bool.or_eq_true, Bool.and_eq_true, beq_iff_eq, Bool.not_eq_true', cov, List.any_cons, List.any_nil, Bool.or_false, hc] at this
  rcases this with (h | h) | h
  ·have h : k = j := by omega
   subst h
   rw [← h3, e1]
  ·cases h
  ·exact h.1
 ·rintro ⟨h1, h2⟩
  have hex : ∃ j, j < K.length ∧ K.getD j (0, 0) = x := by
   obtain ⟨k, hk, e⟩ := List.getElem_of_mem h1
   exact ⟨k, hk, by simpa [List.getD_eq_getElem?_getD, hk] using e⟩
  have hmin : ∃ j, (j < K.length ∧ K.getD j (0, 0) = x) ∧ ∀ i, i < j → ¬ (i < K.length ∧ K.getD i (0, 0) = x) := by
   obtain ⟨j, hj⟩ := hex
   induction j using Nat.strongRecOn with
   | _ j ih =>
    by_cases q : ∃ i, i < j ∧ (i < K.length ∧ K.getD i (0, 0) = x)
    ·obtain ⟨i, q1, q2⟩ := q
     exact ih i q1 q2
    ·exact ⟨j, hj, fun i hi hq => q ⟨i, hi, hq⟩⟩
  obtain ⟨j, ⟨j1, j2⟩, j3⟩ := hmin
  refine ⟨j, j1, fineN_iff.2 fun k hk => ?_, j2⟩
  unfold fineT
  rw [j2]
  simp only [Bool.or_eq_true, Bool.and_eq_true, beq_iff_eq, Bool.not_eq_true', cov, List.any_cons, List.any_nil, Bool.or_false, decide_eq_true_eq]
  cases hc : covB x (K.getD k (0, 0))
  ·exact .inl (.inr rfl)
  ·have := h2 _ (getD_mem hk _) hc
   by_cases q : k = j
   ·exact .inl (.inl (by rw [q]))
   ·refine .inr ⟨this, ?_⟩
    have : ¬ k < j := fun h => j3 k h ⟨hk, this⟩
    omega
theorem pbsI_mem {n x : Int} (hn : 1 ≤ n ∧ n ≤ 5) : x ∈ pbsI n ↔ isAttr n x = true := by
 have key : ∀ n : Fin 6, (∀ x : Fin 32, (((x.val : Nat) : Int) ∈ pbs n.val ↔ isAttr ((n.val : Nat) : Int) ((x.val : Nat) : Int) = true)) := by decide +kernel
 obtain ⟨m, rfl⟩ := Int.eq_ofNat_of_zero_le (show 0 ≤ n by omega)
 rw [pbsI_nat (by omega)]
 constructor
 ·intro h
  have h1 := (@pbsI_facts (m : Nat)).2.1 x (by rw [pbsI_nat (by omega)]; exact h)
  have := key ⟨m, by omega⟩ ⟨x.toNat, by omega⟩
  dsimp only at this
  rw [show ((x.toNat : Nat) : Int) = x by omega] at this
  exact this.1 h
 ·intro h
  have h1 := isAttr_le h
  have := key ⟨m, by omega⟩ ⟨x.toNat, by omega⟩
  dsimp only at this
  rw [show ((x.toNat : Nat) : Int) = x by omega] at this
  exact this.2 h
theorem s17_mem {L : List (Int × Int)} {X : List Int} {d : Int × Int} : ∀ {r : Nat}, d ∈ s17 L X r ↔ (0 ≤ d.2 ∧ d.2 < r) ∧ d.1 ∈ X ∧ d ∈ L
 | 0 => by simp only [s17, List.not_mem_nil, false_iff]; rintro ⟨h, _⟩; omega
 | r + 1 => by
  rw [s17, List.mem_append, @s17_mem L X d r]
  have hC : d ∈ s17C L (r : Nat) X ↔ d.2 = (r : Nat) ∧ d.1 ∈ X ∧ d ∈ L := by
   unfold s17C
   simp only [List.mem_map, List.mem_filter, List.any_eq_true, beq_iff_eq]
   constructor
   ·rintro ⟨x, ⟨h1, e, h2, rfl⟩, rfl⟩
    exact ⟨rfl, h1, h2⟩
   ·rintro ⟨h1, h2, h3⟩
    have e : (d.1, (r : Int)) = d := Prod.ext rfl h1.symm
    exact ⟨d.1, ⟨h2, d, h3, e.symm⟩, e⟩
  rw [hC]
  constructor
  ·rintro (⟨h1, h2⟩ | ⟨h1, h2⟩)
   ·exact ⟨⟨h1.1, by omega⟩, h2⟩
   ·exact ⟨⟨by omega, by omega⟩, h2⟩
  ·rintro ⟨h1, h2⟩
   by_cases e : d.2 = (r : Nat)
   ·exact .inr ⟨e, h2⟩
   ·exact .inl ⟨⟨h1.1, by omega⟩, h2⟩
def keyD (d : Int × Int) : Nat := keyQ (toQ d)
theorem keyD_inj {d e : Int × Int} (hd : depR d) (he : depR e) (h : keyD d = keyD e) : d = e := by
 have := keyQ_inj h
 rw [← of_toQ hd, this, of_toQ he]
theorem keyD_eq {x r : Int} (hr : 0 ≤ r ∧ r ≤ 4) : keyD (x, r) = r.toNat * 1000 + keyS (toF x) := by
 unfold keyD keyQ toQ
 dsimp only
 rw [Nat.mod_eq_of_lt (by omega)]
theorem pbsI_keyed {n : Int} (hn : 1 ≤ n ∧ n ≤ 5) : (pbsI n).Pairwise fun x y => keyS (toF x) < keyS (toF y) := by
 obtain ⟨m, rfl⟩ := Int.eq_ofNat_of_zero_le (show 0 ≤ n by omega)
 rw [pbsI_nat (by omega)]
 have := (pbs_perm ⟨m, by omega⟩).2.1
 dsimp only at this
 rwa [List.pairwise_map] at this
theorem s17_sorted {L : List (Int × Int)} {X : List Int} (hX : X.Pairwise fun x y => keyS (toF x) < keyS (toF y)) : ∀ {r : Nat}, r ≤ 5 → (s17 L X r).Pairwise fun d e => keyD d < keyD e
 | 0, _ => .nil
 | r + 1, h => by
  have ih := @s17_sorted L X hX r (by omega)
  rw [s17, List.pairwise_append]
  refine ⟨ih, ?_, fun d hd e he => ?_⟩
  ·unfold s17C
   rw [List.pairwise_map]
   refine (List.Pairwise.filter _ hX).imp fun {x y} h => ?_
   rw [keyD_eq ⟨by omega, by omega⟩, keyD_eq ⟨by omega, by omega⟩]
   omega
  ·have h1 := (s17_mem.1 hd).1
   unfold s17C at he
   obtain ⟨x, _, rfl⟩ := List.mem_map.1 he
   obtain ⟨y, s⟩ := d
   dsimp only at h1
   rw [keyD_eq ⟨by omega, by omega⟩, keyD_eq ⟨by omega, by omega⟩]
   have := keyS_le (toF y)
   have := keyS_le (toF x)
   omega
theorem keyed_ext {α : Type} {key : α → Nat} : ∀ {l m : List α}, l.Pairwise (fun a b => key a < key b) → m.Pairwise (fun a b => key a < key b) → (∀ x, x ∈ l ↔ x ∈ m) → l = m
 | [], [], _, _, _ => rfl
 | [], y :: m, _, _, h => by have := (h y).2 (by simp); cases this
 | x :: l, [], _, _, h => by have := (h x).1 (by simp); cases this
 | x :: l, y :: m, hl, hm, h => by
  rw [List.pairwise_cons] at hl hm
  have e : x = y := by
   rcases List.mem_cons.1 ((h x).1 (by simp)) with e | h1
   ·exact e
   ·rcases List.mem_cons.1 ((h y).2 (by simp)) with e | h2
    ·exact e.symm
    ·have := hm.1 x h1
     have := hl.1 y h2
     omega
  subst e
  rw [keyed_ext hl.2 hm.2 fun z => ?_]
  constructor
  ·intro hz
   rcases List.mem_cons.1 ((h z).1 (by simp [hz])) with e | h1
   ·subst e; have := hl.1 z hz; omega
   ·exact h1
  ·intro hz
   rcases List.mem_cons.1 ((h z).2 (by simp [hz])) with e | h1
   ·subst e; have := hm.1 z hz; omega
   ·exact h1
theorem compUpK {α : Type} [Inhabited α] [DecidableEq α] {key : α → Nat} {d : Array α} (hs : ∀ i j, i ≤ j → j < d.size → key d[i]! ≤ key d[j]!) (hi : ∀ i j, i < d.size → j < d.size → key d[i]! = key d[j]! → d[i]! = d[j]!) : ∀ {m : Nat}, m ≤ d.size →
  (Lib.compactUpTo d m).Pairwise (fun a b => key a < key b) ∧ (∀ y, y ∈ Lib.compactUpTo d m ↔ ∃ j, j < m ∧ d[j]! = y)
 | 0, _ => by simp [Lib.compactUpTo]
 | m + 1, h => by
  obtain ⟨h1, h2⟩ := compUpK hs hi (m := m) (by omega)
  rw [Lib.compactUpTo_succ]
  cases hk : Lib.keeps d m
  ·simp only [Bool.false_eq_true, if_false, List.append_nil]
   refine ⟨h1, fun y => ?_⟩
   rw [h2]
   simp only [Lib.keeps, decide_eq_false_iff_not, not_or, ne_eq, Decidable.not_not] at hk
   constructor
   ·rintro ⟨j, hj, e⟩; exact ⟨j, by omega, e⟩
   ·rintro ⟨j, hj, e⟩
    by_cases hm : j = m
    ·subst hm
     exact ⟨j - 1, by omega, by rw [← e]; exact hk.2.symm⟩
    ·exact ⟨j, by omega, e⟩
  ·simp only [if_true]
   simp only [Lib.keeps, decide_eq_true_eq] at hk
   refine ⟨List.pairwise_append.2 ⟨h1, by simp, fun a ha b hb => ?_⟩, fun y => ?_⟩
   ·rw [List.mem_singleton] at hb
    subst hb
    obtain ⟨j, hj, rfl⟩ := (h2 a).1 ha
    have q1 := hs j (m - 1) (by omega) (by omega)
    have q2 := hs (m - 1) m (by omega) (by omega)
    have q3 : d[m]! ≠ d[m - 1]! := by
     rcases hk with hk | hk
     ·omega
     ·exact hk
    have q4 : key d[m - 1]! ≠ key d[m]! := fun e => q3 (hi (m - 1) m (by omega) (by omega) e).symm
    omega
   ·rw [List.mem_append, List.mem_singleton, h2]
    constructor
    ·rintro (⟨j, hj, e⟩ | rfl)
     ·exact ⟨j, by omega, e⟩
     ·exact ⟨m, by omega, rfl⟩
    ·rintro ⟨j, hj, e⟩
     by_cases hm : j = m
     ·subst hm; exact .inr e.symm
     ·exact .inl ⟨j, by omega, e⟩
theorem comp_srtD {ys : List (Int × Int)} (hy : ∀ d ∈ ys, depR d) : (Lib.compact (srtD ys)).Pairwise (fun a b => keyD a < keyD b) ∧ ∀ x, x ∈ Lib.compact (srtD ys) ↔ x ∈ ys := by
 have hR : ∀ d ∈ srtD ys, depR d := fun d hd => hy d ((srtD_mem hy).1 hd)
 have h1 : (srtD ys).Pairwise fun x y => keyD x ≤ keyD y := by
  have : (srtQ (ys.map toQ)).Pairwise fun x y => (!(ltOf cfQ) y x) = true := by
   apply List.pairwise_mergeSort
   ·intro a b c h1 h2
    rw [ltQ] at *
    simp at *
    omega
   ·intro a b
    rw [ltQ, ltQ]
    simp
    omega
  unfold srtD
  rw [List.pairwise_map]
  refine this.imp_of_mem fun {a b} _ _ h => ?_
  rw [ltQ] at h
  simp at h
  have tq : ∀ q : Fin 32 × Fin 5, toQ (ofQ q) = q := by
   rintro ⟨a, b⟩
   unfold toQ ofQ toF
   dsimp only
   refine Prod.ext (Fin.ext ?_) (Fin.ext ?_)
   ·dsimp only; omega
   ·dsimp only; omega
  unfold keyD
  rw [tq, tq]
  exact h
 have hs : ∀ i j, i ≤ j → j < (srtD ys).toArray.size → keyD (srtD ys).toArray[i]! ≤ keyD (srtD ys).toArray[j]! := by
  intro i j hij hj
  by_cases e : i = j
  ·subst e; exact Nat.le_refl _
  ·have hj' : j < (srtD ys).length := by simpa using hj
   have := (List.pairwise_iff_getElem.1 h1) i j (by omega) hj' (by omega)
   rw [getElem!_pos _ i (by omega), getElem!_pos _ j hj]
   simpa using this
 have hi : ∀ i j, i < (srtD ys).toArray.size → j < (srtD ys).toArray.size → keyD (srtD ys).toArray[i]! = keyD (srtD ys).toArray[j]! → (srtD ys).toArray[i]! = (srtD ys).toArray[j]! := by
  intro i j h1 h2 h
  rw [getElem!_pos _ i h1, getElem!_pos _ j h2] at *
  exact keyD_inj (hR _ (by simp)) (hR _ (by simp)) h
 obtain ⟨c1, c2⟩ := compUpK hs hi (Nat.le_refl _)
 have e : Lib.compact (srtD ys) = Lib.compactUpTo (srtD ys).toArray (srtD ys).toArray.size := by unfold Lib.compact; simp
 rw [e]
 refine ⟨c1, fun z => ?_⟩
 rw [c2, ← srtD_mem hy]
 constructor
 ·rintro ⟨j, hj, rfl⟩
  rw [getElem!_pos _ j hj]
  simp
 ·intro hz
  obtain ⟨j, hj, e⟩ := List.getElem_of_mem hz
  refine ⟨j, by simpa using hj, ?_⟩
  rw [getElem!_pos _ j (by simpa using hj)]
  simpa using e
theorem extN_mem {ag : Int} {d x : Int × Int} : ∀ {m : Nat}, x ∈ extN ag d m ↔ extB m ag d x
 | 0 => by simp only [extN, List.not_mem_nil, false_iff]; rintro ⟨k, h, _⟩; omega
 | m + 1 => by
  rw [extN, List.mem_append, @extN_mem ag d x m]
  constructor
  ·rintro (⟨k, h1, h2⟩ | h)
   ·exact ⟨k, by omega, h2⟩
   ·split at h
    ·rename_i hc
     rw [Bool.and_eq_true, Bool.not_eq_true', bne_iff_ne] at hc
     rw [List.mem_singleton] at h
     exact ⟨m, by omega, hc.1, hc.2, h⟩
    ·cases h
  ·rintro ⟨k, h1, h2, h3, h4⟩
   by_cases e : k = m
   ·subst e
    right
    rw [h2, bne_iff_ne.2 h3, if_pos (show (!false && true) = true from rfl), h4]; simp
   ·exact .inl ⟨k, by omega, h2, h3, h4⟩
theorem all2_pow : ∀ n : Fin 6, ∀ k : Fin 5, ∀ x : Fin 32, k.val < n.val → isAttr ((n.val : Nat) : Int) ((x.val : Nat) : Int) = true → isAttr ((n.val : Nat) : Int) (addB ((x.val : Nat) : Int) ((k.val : Nat) : Int)) = true := by decide +kernel
theorem ext_valid {m : Nat} (hm : m ≤ 5) {ag : Int} {d x : Int × Int} (hd : depOK (m : Nat) d.1 d.2 = true) (h : extB m ag d x) : depOK (m : Nat) x.1 x.2 = true := by
 obtain ⟨k, h1, _, _, rfl⟩ := h
 have hR := depOK_R hd
 unfold depOK at *
 rw [Bool.and_eq_true, Bool.and_eq_true] at *
 refine ⟨⟨hd.1.1, ?_⟩, hd.2⟩
 dsimp only
 have := all2_pow ⟨m, by omega⟩ ⟨k, by omega⟩ ⟨d.1.toNat, by omega⟩ h1
 dsimp only at this
 rw [show ((d.1.toNat : Nat) : Int) = d.1 by omega] at this
 exact this hd.1.2
theorem brk_eq {n ag : Int} (hg : R5 ag) {d : Int × Int} (hd : depOK n d.1 d.2 = true) : brkB n ag d = (insB d.1 ag && !hasB ag d.2) := by
 have hR := depOK_R hd
 unfold brkB
 have e : bitI .and .i64 ag d.1 = bitI .and .i64 d.1 ag := by
  obtain ⟨q, hq⟩ := (show R5 d.1 from hR.1).fin
  obtain ⟨a, rfl⟩ := hg.fin
  rw [hq]
  have key : ∀ x y : Fin 32, bitI .and .i64 ((x.val : Nat) : Int) ((y.val : Nat) : Int) = bitI .and .i64 ((y.val : Nat) : Int) ((x.val : Nat) : Int) := by decide +kernel
  exact key a q
 rw [hd, Bool.true_and, e, and_ins hR.1 hg, has_eq0 hR.2 hg]
theorem brk_valid {n ag : Int} {d : Int × Int} (h : brkB n ag d = true) : depOK n d.1 d.2 = true := by
 unfold brkB at h
 rw [Bool.and_eq_true, Bool.and_eq_true] at h
 exact h.1.1
theorem spcL_mem {m : Nat} {ag : Int} (hg : R5 ag) {ds : List (Int × Int)} {x : Int × Int} : x ∈ spcL (m : Nat) ag ds ↔ (x ∈ ds ∧ depOK (m : Nat) x.1 x.2 = true ∧ brkB (m : Nat) ag x = false) ∨ ∃ d ∈ ds, brkB (m : Nat) ag d = true ∧ extB m ag d x := by
 unfold spcL
 rw [List.mem_flatMap]
 constructor
 ·rintro ⟨d, hd, hx⟩
  unfold spcR at hx
  split at hx
  ·rename_i hv
   split at hx
   ·rename_i hc
    rw [List.mem_singleton] at hx
    subst hx
    refine .inl ⟨hd, hv, ?_⟩
    rw [brk_eq hg hv]
    cases h1 : insB x.1 ag
    ·rfl
    ·rw [h1] at hc
     simp only [Bool.not_true, Bool.false_or] at hc
     rw [hc]; rfl
   ·rename_i hc
    refine .inr ⟨d, hd, ?_, ?_⟩
    ·rw [brk_eq hg hv]
     cases h1 : insB d.1 ag
     ·rw [h1] at hc; exact absurd rfl hc
     ·rw [h1] at hc
      cases h2 : hasB ag d.2
      ·rfl
      ·rw [h2] at hc; exact absurd rfl hc
    ·rw [Int.toNat_natCast] at hx
     exact extN_mem.1 hx
  ·cases hx
 ·rintro (⟨h1, h2, h3⟩ | ⟨d, h1, h2, h3⟩)
  ·refine ⟨x, h1, ?_⟩
   rw [brk_eq hg h2] at h3
   unfold spcR
   rw [if_pos h2, if_pos]
   ·simp
   ·cases q1 : insB x.1 ag
    ·rfl
    ·rw [q1] at h3
     simpa using h3
  ·have hv := brk_valid h2
   refine ⟨d, h1, ?_⟩
   rw [brk_eq hg hv, Bool.and_eq_true] at h2
   unfold spcR
   rw [if_pos hv, if_neg, Int.toNat_natCast]
   ·exact extN_mem.2 h3
   ·rw [h2.1]
    have := h2.2
    rw [Bool.not_eq_true'] at this
    rw [this]; decide
theorem spc_eq {n ag : Int} {ds : List (Int × Int)} : spcF n ag ds = spcS n ag ds := by
 unfold spcF spcS
 cases hv : spcV n ag
 ·rfl
 ·rw [if_pos rfl, if_pos rfl]
  unfold spcV at hv
  rw [Bool.and_eq_true, decide_eq_true_eq] at hv
  obtain ⟨n1, ha⟩ := hv
  obtain ⟨_, n5, g0, g31⟩ := isAttr_le ha
  obtain ⟨m, rfl⟩ := Int.eq_ofNat_of_zero_le (show 0 ≤ n by omega)
  have hg : R5 ag := ⟨g0, g31⟩
  have hB : ∀ d ∈ ds.filter (brkB (m : Nat) ag), depR d := fun d hd => depOK_R (brk_valid (List.mem_filter.1 hd).2)
  obtain ⟨k1, k2, k3⟩ := addL_facts hg (m := m) (by omega) (B := ds.filter (brkB (m : Nat) ag)) (K := ds.filter fun d => !brkB (m : Nat) ag d) hB
  have hK : keptD (m : Nat) ag ds = addL m ag (ds.filter fun d => !brkB (m : Nat) ag d) (ds.filter (brkB (m : Nat) ag)) := by unfold keptD; rw [Int.toNat_natCast]
  rw [← hK] at k1 k2 k3
  rw [Int.toNat_natCast]
  generalize hKK : keptD (m : Nat) ag ds = K at k1 k2 k3 ⊢
  have hS : ∀ {x : Int × Int}, x ∈ spcL (m : Nat) ag ds ↔ (x ∈ ds ∧ depOK (m : Nat) x.1 x.2 = true ∧ brkB (m : Nat) ag x = false) ∨ ∃ d ∈ ds, brkB (m : Nat) ag d = true ∧ extB m ag d x := fun {x} => spcL_mem hg
  have hval : ∀ x ∈ spcL (m : Nat) ag ds, depOK (m : Nat) x.1 x.2 = true := fun x hx => by
   rcases hS.1 hx with ⟨_, h, _⟩ | ⟨d, h1, h2, h3⟩
   ·exact h
   ·exact ext_valid (by omega) (brk_valid h2) h3
  have hKS : ∀ x ∈ K, depOK (m : Nat) x.1 x.2 = true → x ∈ spcL (m : Nat) ag ds := fun x hx hv => by
   rcases k1 x hx with h | ⟨d, h1, h2⟩
   ·obtain ⟨h1, h2⟩ := List.mem_filter.1 h
    exact hS.2 (.inl ⟨h1, hv, by simpa using h2⟩)
   ·obtain ⟨h3, h4⟩ := List.mem_filter.1 h1
    exact hS.2 (.inr ⟨d, h3, h4, h2⟩)
  have hSK : ∀ x ∈ spcL (m : Nat) ag ds, ∃ e ∈ K, covB x e = true := fun x hx => by
   have hv := hval x hx
   rcases hS.1 hx with ⟨h1, _, h3⟩ | ⟨d, h1, h2, h3⟩
   ·exact ⟨x, k2 x (List.mem_filter.2 ⟨h1, by rw [h3]; rfl⟩), covB_refl (depOK_R hv).1⟩
   ·exact cov_iff.1 (k3 x ⟨d, List.mem_filter.2 ⟨h1, h2⟩, h3⟩)
  have hRS : ∀ d ∈ spcL (m : Nat) ag ds, depR d := fun d hd => depOK_R (hval d hd)
  obtain ⟨c1, c2⟩ := comp_srtD hRS
  have hX := pbsI_keyed (n := (m : Nat)) ⟨n1, n5⟩
  unfold spcM
  refine keyed_ext (key := keyD) (List.Pairwise.filter _ c1) (s17_sorted hX (by omega)) fun x => ?_
  rw [s17_mem, List.mem_filter, c2, pbsI_mem ⟨n1, n5⟩]
  have hlow : (Lib.compact (srtD (spcL (m : Nat) ag ds))).all (lowT x) = true ↔ ∀ e ∈ spcL (m : Nat) ag ds, lowT x e = true := by
   rw [List.all_eq_true]
   exact ⟨fun h e he => h e ((c2 e).2 he), fun h e he => h e ((c2 e).1 he)⟩
  rw [hlow]
  have hlt : ∀ {x : Int × Int}, depR x → ∀ {e}, depR e → (lowT x e = true ↔ (covB x e = true → e = x)) := fun {x} hx {e} he => by
   unfold lowT
   rw [Bool.or_eq_true, Bool.or_eq_true, beq_iff_eq, bne_iff_ne, Bool.not_eq_true']
   constructor
   ·rintro ((h | h) | h) hc
    ·exact h
    ·exact absurd (covB_facts hx.1 hc).1 h
    ·rw [(covB_facts hx.1 hc).2.2] at h; cases h
   ·intro h
    by_cases q : e = x
    ·exact .inl (.inl q)
    ·by_cases q2 : e.2 = x.2
     ·right
      rw [← Bool.not_eq_true]
      intro q3
      exact q (h (covB_of hx.1 he.1 q2 q3))
     ·exact .inl (.inr q2)
  constructor
  ·rintro ⟨h1, h2⟩
   have hv := hval x h1
   have hR := depOK_R hv
   have hxK : x ∈ K := by
    obtain ⟨e, e1, e2⟩ := hSK x h1
    have he := hKS e e1 (covB_valid hv e2)
    have := (hlt hR (hRS e he)).1 (h2 e he) e2
    rw [← this]; exact e1
   have hd := hv
   unfold depOK at hd
   rw [Bool.and_eq_true, Bool.and_eq_true, inB_iff, inB_iff] at hd
   refine ⟨⟨hd.2.1, by omega⟩, hd.1.2, (low_iff hR.1).2 ⟨hxK, fun e he hc => ?_⟩⟩
   have he' := hKS e he (covB_valid hv hc)
   exact (hlt hR (hRS e he')).1 (h2 e he') hc
  ·rintro ⟨⟨r0, rn⟩, hat, hl⟩
   have hv : depOK (m : Nat) x.1 x.2 = true := by
    unfold depOK
    rw [Bool.and_eq_true, Bool.and_eq_true, inB_iff, inB_iff]
    exact ⟨⟨⟨n1, n5⟩, hat⟩, r0, by omega⟩
   have hR := depOK_R hv
   obtain ⟨l1, l2⟩ := (low_iff hR.1).1 hl
   refine ⟨hKS x l1 hv, fun e he => (hlt hR (hRS e he)).2 fun hc => ?_⟩
   obtain ⟨f, f1, f2⟩ := hSK e he
   have hf : f = x := l2 f f1 (covB_trans hR.1 hc f2)
   rw [hf] at f2
   exact covB_anti hR.1 hc f2
end Go.Own
