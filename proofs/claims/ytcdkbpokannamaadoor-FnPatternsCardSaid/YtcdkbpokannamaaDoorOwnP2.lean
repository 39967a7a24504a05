/-
  Plain law: how many patterns hold. Conditions: as each theorem states them.
-/
import Derived.Test.YtcdkbpokannamaaDoorOwnE8
import Derived.Test.YtcdkbpokannamaaDoorOwnK3
namespace Go.Own
open Go Go.Proofs
set_option linter.unusedSimpArgs false
set_option linter.unusedVariables false

def sm (f : Nat → Nat) : Nat → Nat
  | 0 => 0
  | n + 1 => sm f n + f n
theorem sm_congr {f g : Nat → Nat} : ∀ {n : Nat}, (∀ k, k < n → f k = g k) → sm f n = sm g n
  | 0, _ => rfl
  | n + 1, h => by rw [sm, sm, sm_congr fun k hk => h k (by omega), h n (by omega)]
theorem sm_add {f g : Nat → Nat} : ∀ {n : Nat}, sm (fun k => f k + g k) n = sm f n + sm g n
  | 0 => rfl
  | n + 1 => by rw [sm, sm, sm, @sm_add f g n]; omega
theorem sm_zero : ∀ {n : Nat}, sm (fun _ => 0) n = 0
  | 0 => rfl
  | n + 1 => by rw [sm, @sm_zero n]
theorem sm_swap {f : Nat → Nat → Nat} {m : Nat} : ∀ {n : Nat}, sm (fun a => sm (fun v => f a v) m) n = sm (fun v => sm (fun a => f a v) n) m
  | 0 => by simp only [sm]; exact sm_zero.symm
  | n + 1 => by
    rw [sm, @sm_swap f m n]
    simp only [sm]
    rw [sm_add]
theorem sm_le {f : Nat → Nat} (h : ∀ k, f k ≤ 1) : ∀ {n : Nat}, sm f n ≤ n
  | 0 => Nat.le_refl _
  | n + 1 => by have := @sm_le f h n; have := h n; rw [sm]; omega
theorem sm_leB {f : Nat → Nat} {B : Nat} (h : ∀ k, f k ≤ B) : ∀ {n : Nat}, sm f n ≤ n * B
  | 0 => Nat.zero_le _
  | n + 1 => by have := @sm_leB f B h n; have := h n; rw [sm, Nat.add_mul]; omega
def selN (c : Int) (rs : List (List Int)) (a v : Nat) : Nat := if decide (((selR c rs a v).length : Int) > 0) then 1 else 0
theorem selN_le {c : Int} {rs : List (List Int)} {a v : Nat} : selN c rs a v ≤ 1 := by unfold selN; split <;> omega
theorem ptB_mem {c : Int} {rs : List (List Int)} {m l r : Int} {a : Nat} {q : Int × Int × Int × Int} : ∀ {v : Nat}, q ∈ ptB c rs m l r a v → ptT c rs m l r q.1 q.2.1 = true ∧ q.2.2 = (l, r)
  | 0, h => nomatch h
  | v + 1, h => by
    rw [ptB, List.mem_append] at h
    rcases h with h | h
    · exact ptB_mem h
    · split at h
      · rename_i ht
        rw [List.mem_singleton] at h
        subst h
        exact ⟨ht, rfl⟩
      · cases h
theorem ptA_mem {c : Int} {rs : List (List Int)} {m l r : Int} {q : Int × Int × Int × Int} : ∀ {a : Nat}, q ∈ ptA c rs m l r a → ptT c rs m l r q.1 q.2.1 = true ∧ q.2.2 = (l, r)
  | 0, h => nomatch h
  | a + 1, h => by
    rw [ptA, List.mem_append] at h
    rcases h with h | h
    · exact ptA_mem h
    · exact ptB_mem h
theorem pts_mem {c : Int} {rs : List (List Int)} {m l r : Int} {q : Int × Int × Int × Int} (h : q ∈ pts c rs m l r) : ((selR c rs q.1 q.2.1).length : Int) > 0 ∧ hpB c rs m q.1 q.2.1 q.2.2.1 q.2.2.2 = true := by
  unfold pts at h
  split at h
  · obtain ⟨h1, h2⟩ := ptA_mem h
    obtain ⟨h3, h4⟩ := ptT_t h1
    rw [h2]
    exact ⟨of_decide_eq_true h3, h4⟩
  · cases h
theorem ptB_len {c : Int} {rs : List (List Int)} {m l r : Int} {a : Nat} : ∀ {v : Nat}, (ptB c rs m l r a v).length = sm (fun v => if ptT c rs m l r a v = true then 1 else 0) v
  | 0 => rfl
  | v + 1 => by
    rw [ptB, List.length_append, @ptB_len c rs m l r a v, sm]
    split <;> simp
theorem ptA_len {c : Int} {rs : List (List Int)} {m l r : Int} : ∀ {a : Nat}, (ptA c rs m l r a).length = sm (fun a => sm (fun v => if ptT c rs m l r a v = true then 1 else 0) 41) a
  | 0 => rfl
  | a + 1 => by
    rw [ptA, List.length_append, @ptA_len c rs m l r a, ptB_len]
    rfl
theorem hd_pairs {c : Int} {rs : List (List Int)} {m l r : Int} : hdB c rs m l r = true ↔ askOK c rs m l r = true ∧ rs.Pairwise fun x y => badS (agL m x y c.toNat) l r = false := by
  rw [hdB_iff, List.pairwise_iff_getElem]
  refine and_congr_right fun _ => ⟨fun h i j hi hj hij => ?_, fun h i j hij hj => ?_⟩
  · have := h i j hij hj
    simpa [List.getD_eq_getElem?_getD, hi, hj] using this
  · have := h i j (by omega) hj hij
    simpa [List.getD_eq_getElem?_getD, hj, show i < rs.length by omega] using this
theorem hd_sel {c : Int} {rs : List (List Int)} {m l r : Int} {a v : Int} (h : hdB c rs m l r = true) (ha : inB a 0 (c - 1) = true) (hv : inB v 0 40 = true) : hpB c rs m a v l r = true := by
  have h0 := (hd_pairs.1 h).1
  have hp := (hd_pairs.1 h).2
  have ht : tabOK c rs = true := (ask_facts h0).1
  have hc : colsOK c rs a a = true := by unfold colsOK; rw [ht, ha]; rfl
  have e1 : selC c rs a = c := by unfold selC; rw [hc, if_pos rfl]
  have e2 : selR c rs a v = selL rs a.toNat v := by unfold selR; rw [hc, if_pos rfl]
  unfold hpB
  rw [hc, hv, e1, e2, Bool.true_and, Bool.true_and, hd_pairs]
  refine ⟨?_, ?_⟩
  · unfold askOK at *
    simp only [Bool.and_eq_true] at h0 ⊢
    refine ⟨⟨?_, h0.1.2⟩, h0.2⟩
    unfold tabOK at *
    simp only [Bool.and_eq_true, decide_eq_true_eq, List.all_eq_true] at ht ⊢
    have hl := @selL_len rs a.toNat v
    refine ⟨fun r hr => ht.1 r ?_, ht.2.1, by omega⟩
    unfold selL at hr
    exact (List.mem_filter.1 hr).1
  · unfold selL
    exact hp.filter _
theorem pts_count {c : Int} {rs : List (List Int)} {m l r : Int} (h : hdB c rs m l r = true) : (pts c rs m l r).length = sm (fun v => sm (fun a => selN c rs a v) c.toNat) 41 := by
  have h0 := (hd_pairs.1 h).1
  have hc := tab_c (ask_facts h0).1
  unfold pts
  rw [h0, if_pos rfl, ptA_len, sm_swap]
  refine sm_congr fun v hv => sm_congr fun a ha => ?_
  unfold selN
  have : ptT c rs m l r a v = decide (((selR c rs a v).length : Int) > 0) := by
    unfold ptT
    rw [hd_sel h (inB_iff.2 ⟨by omega, by omega⟩) (inB_iff.2 ⟨by omega, by omega⟩), Bool.and_true]
  rw [this]
end Go.Own
