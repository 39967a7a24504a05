/-
  Own calculus, part F: the order of a region that draws, on the machine; the weakest precondition 'wpc' of code; its soundness (given that each operation is sound). Conditions: as each theorem states them.
-/
import Derived.Test.YtmfieiphcjenlaaOwnE
import Derived.Deep.LoopGhost
namespace Go.Own
open Go
set_option linter.unusedVariables false
set_option linter.unusedSimpArgs false

/-- An operation is sound: what 'F1' says of it happens. -/
def Sound1 (X : Ctx) (T : Tabs) (ops : Array Oper) (o : Oper) : Prop :=
  ∀ {s p v us}, F1 T ops o s = some (p, v, us) → p → ∀ {a w}, Conc X s a w → ∀ (K : Act → World → Prop) (Q : Exit → Act → World → Prop),
    (∀ u w', Conc X (s.put o.dst v us) (a.put o.dst u) w' → K (a.put o.dst u) w') →
    if Region.wanted o (yielded ops a.tmps) then o.wp X.P a w K Q else K (a.put o.dst undef) w

section
variable {X : Ctx} {T : Tabs} {ops : Array Oper} {Q : St → Prop} {Q' : Exit → Act → World → Prop}

theorem sound_op {i : Nat} {o : Oper} (hi : ops[i]? = some o) (hS : Sound1 X T ops o) {s : St} {a : Act} {w : World} {K : Act → World → Prop} {N : AV → List (Id × Ob) → Prop}
    (H : bindF (F1 T ops o s) N) (c : Conc X s a w) (hK : ∀ v us u w', N v us → Conc X (s.put o.dst v us) (a.put o.dst u) w' → K (a.put o.dst u) w') : wpOp X.P ops Q' i K a w := by
  unfold wpOp
  simp only [hi]
  cases hf : F1 T ops o s with
  | none => rw [hf] at H; exact H.elim
  | some r =>
    obtain ⟨p, v, us⟩ := r
    rw [hf] at H
    have h := hS hf H.1 c K Q' (fun u w' h => hK v us u w' H.2 h)
    split
    · rename_i hw; simp only [hw, if_true] at h; exact .inl h
    · rename_i hw; simp only [hw] at h; exact h

theorem ops_sound (hS : ∀ o ∈ ops.toList, Sound1 X T ops o) (hQ : ∀ s a w, Q s → Conc X s a w → Q' .normal a w) : ∀ (l : List Nat) (s : St) (a : Act) (w : World),
    (∀ i ∈ l, i < ops.size) → TL T ops Q (l.filterMap (ops[·]?)) s → Conc X s a w → wpOps X.P ops Q' l a w
  | [], s, a, w, _, H, c => hQ s a w H c
  | i :: l, s, a, w, hl, H, c => by
    have hi := hl i (by simp)
    have ho : ops[i]? = some ops[i] := Array.getElem?_eq_getElem hi
    rw [wpOps_cons]
    simp only [List.filterMap_cons, ho, TL] at H
    exact sound_op ho (hS _ (by simp)) H c fun v us u w' hn hc => ops_sound hS hQ l _ _ _ (fun j hj => hl j (by simp [hj])) hn hc

/-- The operations that must stand before operation i: directly, and all in all. -/
def preds (ops : Array Oper) (i : Nat) : List Nat :=
  match ops[i]? with
  | some o => (o.after.toList.filter (Region.binds .any)).map (·.on)
  | none => []

def clos (ops : Array Oper) : Nat → List (List Nat)
  | 0 => []
  | n + 1 => clos ops n ++ [((preds ops n).flatMap fun k => k :: (clos ops n).getD k []).eraseDups]

def orderOK (T : Tabs) (ops : Array Oper) : Bool :=
  let L := clos ops ops.size
  (List.range ops.size).all fun i => (preds ops i).all (· < i) && (List.range i).all fun k => (L.getD i []).contains k || match ops[k]?, ops[i]? with
    | some x, some y => indep T ops x y
    | _, _ => false

theorem clos_len (ops : Array Oper) : ∀ n, (clos ops n).length = n
  | 0 => rfl
  | n + 1 => by simp [clos, clos_len ops n]

theorem clos_get (ops : Array Oper) : ∀ n i, i < n → (clos ops n).getD i [] = ((preds ops i).flatMap fun k => k :: (clos ops i).getD k []).eraseDups
  | n + 1, i, h => by
    simp only [clos, List.getD_eq_getElem?_getD]
    by_cases hi : i < n
    · rw [List.getElem?_append_left (by rw [clos_len]; exact hi)]
      have := clos_get ops n i hi
      simp only [List.getD_eq_getElem?_getD] at this
      exact this
    · obtain rfl : i = n := by omega
      rw [List.getElem?_append_right (by rw [clos_len]; exact Nat.le_refl _)]
      simp [clos_len]

theorem clos_down (ops : Array Oper) {L : Nat → Prop} (hlt : ∀ i, ∀ k ∈ preds ops i, k < i) (hd : ∀ j, L j → ∀ k ∈ preds ops j, L k) : ∀ n i, i < n → (∀ k ∈ preds ops i, L k) → ∀ k ∈ (clos ops n).getD i [], L k := by
  intro n i hin hp k hk
  induction i using Nat.strongRecOn generalizing n with
  | _ i ih =>
    rw [clos_get ops n i hin, List.mem_eraseDups, List.mem_flatMap] at hk
    obtain ⟨m, hm, hk⟩ := hk
    rcases List.mem_cons.1 hk with rfl | hk
    · exact hp k hm
    · exact ih m (hlt i m hm) i (hlt i m hm) (hd m (hp m hm)) hk

theorem mem_ready' {j : Nat} {listed : Array Bool} : j ∈ Region.ready .any ops listed ↔ listed.getD j true = false ∧ j < ops.size ∧ ∀ k ∈ preds ops j, listed.getD k false = true := by
  rw [mem_ready]
  constructor
  · rintro ⟨h0, o, ho, hall⟩
    refine ⟨h0, (Array.getElem?_eq_some_iff.1 ho).1, fun k hk => ?_⟩
    simp only [preds, ho, List.mem_map, List.mem_filter] at hk
    obtain ⟨e, ⟨he, hb⟩, rfl⟩ := hk
    exact hall e (by simpa using he) hb
  · rintro ⟨h0, hj, hall⟩
    have ho : ops[j]? = some ops[j] := Array.getElem?_eq_getElem hj
    refine ⟨h0, ops[j], ho, fun e he hb => hall e.on ?_⟩
    simp only [preds, ho, List.mem_map, List.mem_filter]
    exact ⟨e, ⟨by simpa using he, hb⟩, rfl⟩

/-- The operations that are still to come. -/
def rest (n : Nat) (listed : Array Bool) : List Nat := (List.range n).filter fun i => !listed.getD i true

theorem any_sound (hS : ∀ o ∈ ops.toList, Sound1 X T ops o) (hO : orderOK T ops = true) (hQ : ∀ s a w, Q s → Conc X s a w → Q' .normal a w) : ∀ (fuel : Nat) (listed : Array Bool) (s : St) (a : Act) (w : World),
    listed.size = ops.size → (∀ j, listed.getD j false = true → ∀ k ∈ preds ops j, listed.getD k false = true) → (rest ops.size listed).length ≤ fuel →
    TL T ops Q ((rest ops.size listed).filterMap (ops[·]?)) s → Conc X s a w → wpAny X.P .any ops Q' fuel listed a w := by
  have hlt : ∀ i, ∀ k ∈ preds ops i, k < i := by
    intro i k hk
    by_cases hi : i < ops.size
    · simp only [orderOK, List.all_eq_true, List.mem_range, Bool.and_eq_true, decide_eq_true_eq] at hO
      exact (hO i hi).1 k hk
    · simp [preds, Array.getElem?_eq_none (Nat.le_of_not_lt hi)] at hk
  have hind : ∀ i k, i < ops.size → k < i → k ∉ (clos ops ops.size).getD i [] → ∀ x y, ops[k]? = some x → ops[i]? = some y → indep T ops x y = true := by
    intro i k hi hk hno x y hx hy
    simp only [orderOK, List.all_eq_true, List.mem_range, Bool.and_eq_true, Bool.or_eq_true, List.contains_iff_mem] at hO
    rcases (hO i hi).2 k hk with h | h
    · exact absurd h hno
    · simpa only [hx, hy] using h
  have first : ∀ (listed : Array Bool), Region.ready .any ops listed = [] → listed.size = ops.size → rest ops.size listed = [] := by
    intro listed hr hsz
    cases hR : rest ops.size listed with
    | nil => rfl
    | cons i r =>
      exfalso
      have hmem : i ∈ rest ops.size listed := by rw [hR]; simp
      have hi : i < ops.size ∧ listed.getD i true = false := by simpa [rest] using hmem
      have : i ∈ Region.ready .any ops listed := by
        rw [mem_ready']
        refine ⟨hi.2, hi.1, fun k hk => ?_⟩
        have hki := hlt i k hk
        cases hl : listed.getD k false with
        | true => rfl
        | false =>
          have hk2 : k ∈ rest ops.size listed := by
            simp only [rest, List.mem_filter, List.mem_range]
            refine ⟨by omega, ?_⟩
            have : k < listed.size := by omega
            simp [this] at hl ⊢
            exact hl
          have hp : (rest ops.size listed).Pairwise (· < ·) := (List.pairwise_lt_range).filter _
          rw [hR] at hp hk2
          rcases List.mem_cons.1 hk2 with rfl | h
          · omega
          · have := (List.pairwise_cons.1 hp).1 k h; omega
      rw [hr] at this
      cases this
  intro fuel
  induction fuel with
  | zero =>
    intro listed s a w hsz _ hf H c
    have hR : rest ops.size listed = [] := List.eq_nil_of_length_eq_zero (by omega)
    rw [hR] at H
    refine ⟨?_, hQ s a w H c⟩
    cases hr : Region.ready .any ops listed with
    | nil => rfl
    | cons i r =>
      exfalso
      have hm : i ∈ Region.ready .any ops listed := by rw [hr]; simp
      rw [mem_ready'] at hm
      have : i ∈ rest ops.size listed := by simp only [rest, List.mem_filter, List.mem_range]; exact ⟨hm.2.1, by rw [hm.1]; rfl⟩
      rw [hR] at this
      cases this
  | succ fuel ih =>
    intro listed s a w hsz hd hf H c
    refine ⟨fun hr => ?_, fun i hi => ?_⟩
    · rw [first listed hr hsz] at H
      exact hQ s a w H c
    · rw [mem_ready'] at hi
      obtain ⟨h0, hin, hpre⟩ := hi
      have ho : ops[i]? = some ops[i] := Array.getElem?_eq_getElem hin
      have hmem : i ∈ rest ops.size listed := by simp only [rest, List.mem_filter, List.mem_range]; exact ⟨hin, by rw [h0]; rfl⟩
      obtain ⟨pre, post, hsp⟩ := List.append_of_mem hmem
      have hp : (rest ops.size listed).Pairwise (· < ·) := (List.pairwise_lt_range).filter _
      rw [hsp] at hp
      have hlt1 : ∀ k ∈ pre, k < i := fun k hk => (List.pairwise_append.1 hp).2.2 k hk i (by simp)
      have hlt2 : ∀ k ∈ post, i < k := (List.pairwise_cons.1 (List.pairwise_append.1 hp).2.1).1
      have hpn : ∀ k ∈ pre, listed.getD k true = false := fun k hk => by
        have : k ∈ rest ops.size listed := by rw [hsp]; simp [hk]
        simp only [rest, List.mem_filter] at this
        simpa using this.2
      have hnew : rest ops.size (listed.setIfInBounds i true) = pre ++ post := by
        have e1 : rest ops.size (listed.setIfInBounds i true) = (rest ops.size listed).filter (· ≠ i) := by
          simp only [rest, List.filter_filter]
          refine List.filter_congr fun k hk => ?_
          by_cases hki : k = i
          · subst hki; simp [hsz, hin]
          · simp [Array.getElem?_setIfInBounds_ne (Ne.symm hki), hki]
        rw [e1, hsp, List.filter_append, List.filter_cons]
        simp only [ne_eq, not_true_eq_false, decide_false, Bool.false_eq_true, if_false]
        rw [List.filter_eq_self.2 (fun k hk => by have := hlt1 k hk; simp; omega), List.filter_eq_self.2 (fun k hk => by have := hlt2 k hk; simp; omega)]
      rw [hsp] at H
      simp only [List.filterMap_append, List.filterMap_cons, ho] at H
      have H2 := TL_first (x := ops[i]) _ (fun y hy => by
        rw [List.mem_filterMap] at hy
        obtain ⟨k, hk, hky⟩ := hy
        refine hind i k hin (hlt1 k hk) (fun hc => ?_) y ops[i] hky ho
        have := clos_down ops (L := fun j => listed.getD j false = true) hlt hd ops.size i hin hpre k hc
        have h2 := hpn k hk
        have hkl : k < listed.size := by have := hlt1 k hk; omega
        simp [hkl] at this h2
        rw [this] at h2
        cases h2) s H
      refine sound_op ho (hS _ (by simp)) H2 c fun v us u w' hn hc => ?_
      refine ih _ _ _ _ (by simp [hsz]) ?_ ?_ ?_ hc
      · intro j hj k hk
        by_cases hji : j = i
        · subst hji; exact getD_set_true (hpre k hk)
        · have : listed.getD j false = true := by rw [getD_set_ne false (Ne.symm hji)] at hj; exact hj
          exact getD_set_true (hd j this k hk)
      · rw [hnew]
        rw [hsp] at hf
        simp only [List.length_append, List.length_cons] at hf ⊢
        omega
      · rw [hnew, List.filterMap_append]
        exact hn
end

end Go.Own
