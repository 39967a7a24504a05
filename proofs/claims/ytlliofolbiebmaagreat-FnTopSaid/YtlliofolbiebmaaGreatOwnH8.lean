import Derived.Test.YtlliofolbiebmaaGreatOwnTb
import Derived.Test.YtlliofolbiebmaaGreatOwnY1
set_option linter.unusedSimpArgs false
set_option linter.unusedVariables false
set_option maxRecDepth 20000
set_option maxHeartbeats 2000000
namespace Go.Own
open Go Go.Proofs
attribute [local go_sem] unD_dL dL_length dL_get dL_set dL_inj wfD_dL scal2 beq2 pair_eta dL_scal
def lowN (p : Int → Int → Bool) (r x : Int) : Nat → Bool
 | 0 => true
 | k + 1 => lowN p r x k && !(hasB x (k : Nat) && p (delB x (k : Nat)) r)
def lowB (p : Int → Int → Bool) (n : Nat) (r x : Int) : Bool := !hasB x r && p x r && lowN p r x n
theorem lowN_iff {p : Int → Int → Bool} {r x : Int} : ∀ {k : Nat}, lowN p r x k = true ↔ ∀ i : Nat, i < k → hasB x (i : Nat) = true → p (delB x (i : Nat)) r = false
 | 0 => by simp [lowN]
 | k + 1 => by
  rw [lowN, Bool.and_eq_true, @lowN_iff p r x k, Bool.not_eq_true']
  constructor
  ·rintro ⟨h1, h2⟩ i hi hb
   by_cases e : i = k
   ·subst e
    rw [hb, Bool.true_and] at h2
    exact h2
   ·exact h1 i (by omega) hb
  ·intro h
   refine ⟨fun i hi hb => h i (by omega) hb, ?_⟩
   cases hq : hasB x (k : Nat)
   ·rfl
   ·rw [h k (by omega) hq]; rfl
theorem lowN_false {p : Int → Int → Bool} {r x : Int} {k n : Nat} (h : k < n) (hq : hasB x (k : Nat) = true) (hp : p (delB x (k : Nat)) r = true) : lowN p r x n = false := by
 rw [← Bool.not_eq_true, lowN_iff]
 intro h2
 rw [h2 k h hq] at hp
 cases hp
theorem pbs_ord : ∀ n : Fin 6, (pbs n.val).Pairwise (fun a b => (insB b a && !(b == a)) = false) ∧ (pbs n.val).Nodup ∧ ∀ x ∈ pbs n.val, ∀ i : Fin 5, delB x ((i.val : Nat) : Int) ∈ pbs n.val := by decide +kernel
theorem del_sub : ∀ x : Fin 32, ∀ i : Fin 5, insB (delB ((x.val : Nat) : Int) ((i.val : Nat) : Int)) ((x.val : Nat) : Int) = true ∧ (hasB ((x.val : Nat) : Int) ((i.val : Nat) : Int) = true → delB ((x.val : Nat) : Int) ((i.val : Nat) : Int) < ((x.val : Nat) : Int)) := by decide +kernel
theorem del_between : ∀ x y : Fin 32, insB ((y.val : Nat) : Int) ((x.val : Nat) : Int) = true → y ≠ x → ∃ i : Fin 5, hasB ((x.val : Nat) : Int) ((i.val : Nat) : Int) = true ∧ insB ((y.val : Nat) : Int) (delB ((x.val : Nat) : Int) ((i.val : Nat) : Int)) = true := by decide +kernel
theorem bit_lt : ∀ n : Fin 6, ∀ x : Fin 32, ∀ i : Fin 5, x.val < 2 ^ n.val → hasB ((x.val : Nat) : Int) ((i.val : Nat) : Int) = true → i.val < n.val := by decide +kernel
theorem insB_trans {x y z : Int} (hx : R5 x) (hy : R5 y) (hz : R5 z) (h1 : insB x y = true) (h2 : insB y z = true) : insB x z = true :=
 (insB_iff hx hz).2 (leB.trans ((insB_iff hx hy).1 h1) ((insB_iff hy hz).1 h2))
theorem insB_refl {x : Int} (hx : R5 x) : insB x x = true := (insB_iff hx hx).2 (leB.refl x)
section
variable {p : Int → Int → Bool} {n : Nat} {r : Int}
theorem pbsI_nat (hn : n ≤ 5) : pbsI (n : Nat) = pbs n := by
 unfold pbsI
 rw [if_pos (inB_iff.2 ⟨by omega, by omega⟩), Int.toNat_natCast]
theorem exists_low (hn : n ≤ 5) (hr : 0 ≤ r ∧ r ≤ 4) : ∀ {k : Nat} {z : Int}, z ∈ pbsI (n : Nat) → z.toNat ≤ k → p z r = true → hasB z r = false → ∃ y ∈ pbsI (n : Nat), insB y z = true ∧ lowB p n r y = true := by
 intro k
 induction k with
 | zero =>
  intro z hz hk hp hb
  obtain ⟨z0, z31⟩ := (@pbsI_facts (n : Nat)).2.1 z hz
  have e : z = 0 := by omega
  subst e
  refine ⟨0, hz, insB_refl ⟨by omega, by omega⟩, ?_⟩
  unfold lowB
  rw [hb, hp, Bool.not_false, Bool.true_and, Bool.true_and, lowN_iff]
  intro i hi h
  have h2 : delB 0 ((i : Nat) : Int) < 0 := (del_sub ⟨0, by omega⟩ ⟨i, by omega⟩).2 h
  have h3 := (del_le (x := 0) (c := (i : Nat)) ⟨by omega, by omega⟩ ⟨by omega, by omega⟩).1
  omega
 | succ k ih =>
  intro z hz hk hp hb
  obtain ⟨z0, z31⟩ := (@pbsI_facts (n : Nat)).2.1 z hz
  cases hl : lowN p r z n
  ·rw [← Bool.not_eq_true, lowN_iff] at hl
   have : ∃ i : Nat, i < n ∧ hasB z (i : Nat) = true ∧ p (delB z (i : Nat)) r = true := by
    apply Classical.byContradiction
    intro hne
    refine hl fun i hi hb => ?_
    rw [← Bool.not_eq_true]
    intro hp2
    exact hne ⟨i, hi, hb, hp2⟩
   obtain ⟨i, hi, hbi, hpi⟩ := this
   have hds := del_sub ⟨z.toNat, by omega⟩ ⟨i, by omega⟩
   dsimp only at hds
   rw [show ((z.toNat : Nat) : Int) = z by omega] at hds
   have hlt := hds.2 hbi
   have hge := (del_le (x := z) (c := (i : Nat)) ⟨z0, z31⟩ ⟨by omega, by omega⟩).1
   have hmem : delB z (i : Nat) ∈ pbsI (n : Nat) := by
    rw [pbsI_nat hn] at hz ⊢
    exact (pbs_ord ⟨n, by omega⟩).2.2 z hz ⟨i, by omega⟩
   have hbr : hasB (delB z (i : Nat)) r = false := by
    rw [del_has ⟨z0, z31⟩ ⟨by omega, by omega⟩ hr, hb, Bool.false_and]
   obtain ⟨y, y1, y2, y3⟩ := ih hmem (by omega) hpi hbr
   obtain ⟨yy0, yy31⟩ := (@pbsI_facts (n : Nat)).2.1 y y1
   exact ⟨y, y1, insB_trans ⟨yy0, yy31⟩ ⟨hge, by omega⟩ ⟨z0, z31⟩ y2 hds.1, y3⟩
  ·refine ⟨z, hz, insB_refl ⟨z0, z31⟩, ?_⟩
   unfold lowB
   rw [hb, hp, hl]; rfl
theorem minR_low (hn : n ≤ 5) (hr : 0 ≤ r ∧ r ≤ 4) (mono : ∀ x ∈ pbsI (n : Nat), ∀ y ∈ pbsI (n : Nat), insB x y = true → p x r = true → p y r = true) : minR p r [] (pbsI (n : Nat)) = (pbsI (n : Nat)).filter (lowB p n r) := by
 have hR := (@pbsI_facts (n : Nat)).2.1
 have hord : (pbsI (n : Nat)).Pairwise (fun a b => (insB b a && !(b == a)) = false) := by rw [pbsI_nat hn]; exact (pbs_ord ⟨n, by omega⟩).1
 have hnd : (pbsI (n : Nat)).Nodup := by rw [pbsI_nat hn]; exact (pbs_ord ⟨n, by omega⟩).2.1
 have hdel : ∀ x ∈ pbsI (n : Nat), ∀ i : Nat, i < 5 → delB x (i : Nat) ∈ pbsI (n : Nat) := by
  rw [pbsI_nat hn]
  intro x hx i hi
  exact (pbs_ord ⟨n, by omega⟩).2.2 x hx ⟨i, hi⟩
 have hlt : ∀ x ∈ pbsI (n : Nat), x < 2 ^ n := by
  rw [pbsI_nat hn]
  intro x hx
  exact ((pbs_key ⟨n, by omega⟩).2 x hx).2
 have hex := fun z => @exists_low p n r hn hr z.toNat z
 suffices H : ∀ post pre, pre ++ post = pbsI (n : Nat) → minR p r (pre.filter (lowB p n r)) post = (pbsI (n : Nat)).filter (lowB p n r) from H _ [] rfl
 intro post
 induction post with
 | nil =>
  intro pre e
  rw [List.append_nil] at e
  rw [e]; rfl
 | cons x post ih =>
  intro pre e
  have hx : x ∈ pbsI (n : Nat) := by rw [← e]; simp
  have hxR := hR x hx
  have hc : (!hasB x r && !anyIn (pre.filter (lowB p n r)) x && p x r) = lowB p n r x := by
   rw [Bool.eq_iff_iff, show lowB p n r x = (!hasB x r && p x r && lowN p r x n) from rfl]
   simp only [Bool.and_eq_true, Bool.not_eq_true', lowN_iff]
   constructor
   ·rintro ⟨⟨h1, h2⟩, h3⟩
    refine ⟨⟨h1, h3⟩, fun i hi hb => ?_⟩
    rw [← Bool.not_eq_true]
    intro hp
    have hds := del_sub ⟨x.toNat, by omega⟩ ⟨i, by omega⟩
    dsimp only at hds
    rw [show ((x.toNat : Nat) : Int) = x by omega] at hds
    have hlt := hds.2 hb
    have hbr : hasB (delB x (i : Nat)) r = false := by
     rw [del_has hxR ⟨by omega, by omega⟩ hr, h1, Bool.false_and]
    have hdm := hdel x hx i (by omega)
    obtain ⟨y, y1, y2, y3⟩ := hex _ hdm (Nat.le_refl _) hp hbr
    have hyR := hR y y1
    have hdR := hR _ hdm
    have hyx : insB y x = true := insB_trans hyR hdR hxR y2 hds.1
    have hle := ins_le hyR hdR y2
    have hne : (y == x) = false := by rw [beq_eq_false_iff_ne]; omega
    have hyp : y ∈ pre := by
     rw [← e] at y1
     rcases List.mem_append.1 y1 with h | h
     ·exact h
     ·rcases List.mem_cons.1 h with h | h
      ·subst h
       rw [beq_self_eq_true] at hne; cases hne
      ·rw [← e, List.pairwise_append, List.pairwise_cons] at hord
       have := hord.2.1.1 y h
       rw [hyx, hne] at this
       cases this
    have : anyIn (pre.filter (lowB p n r)) x = true := by
     unfold anyIn
     exact List.any_eq_true.2 ⟨y, List.mem_filter.2 ⟨hyp, y3⟩, hyx⟩
    rw [h2] at this
    cases this
   ·rintro ⟨⟨h1, h3⟩, h2⟩
    refine ⟨⟨h1, ?_⟩, h3⟩
    rw [← Bool.not_eq_true]
    intro ha
    unfold anyIn at ha
    obtain ⟨t, t1, t2⟩ := List.any_eq_true.1 ha
    rw [List.mem_filter] at t1
    obtain ⟨t1, t3⟩ := t1
    have htL : t ∈ pbsI (n : Nat) := by rw [← e]; simp [t1]
    have htR := hR t htL
    have hne : t ≠ x := by
     intro h
     subst h
     rw [← e, List.nodup_append] at hnd
     exact hnd.2.2 t t1 t (by simp) rfl
    obtain ⟨i, i1, i2⟩ := del_between ⟨x.toNat, by omega⟩ ⟨t.toNat, by omega⟩ (by dsimp only; rw [show ((x.toNat : Nat) : Int) = x by omega, show ((t.toNat : Nat) : Int) = t by omega]; exact t2) (by intro h; rw [Fin.mk.injEq] at h; omega)
    dsimp only at i1 i2
    rw [show ((x.toNat : Nat) : Int) = x by omega] at i1 i2
    rw [show ((t.toNat : Nat) : Int) = t by omega] at i2
    have hin : i.val < n := by
     have h1 := hlt x hx
     refine bit_lt ⟨n, by omega⟩ ⟨x.toNat, by omega⟩ i ?_ ?_
     ·dsimp only
      have : ((2 ^ n : Nat) : Int) = (2 : Int) ^ n := by simp
      omega
     ·dsimp only
      rw [show ((x.toNat : Nat) : Int) = x by omega]
      exact i1
    unfold lowB at t3
    simp only [Bool.and_eq_true] at t3
    have := mono t htL _ (hdel x hx i.val i.isLt) i2 t3.1.2
    rw [h2 i.val hin i1] at this
    cases this
  rw [minR, hc, ← ih (pre ++ [x]) (by rw [List.append_assoc]; exact e), List.filter_append, List.filter_cons, List.filter_nil]
  split
  ·rfl
  ·rw [List.append_nil]
end
theorem minC_low {p : Int → Int → Bool} {n : Nat} {r : Int} (hn : n ≤ 5) (hr : 0 ≤ r ∧ r ≤ 4) (mono : ∀ x ∈ pbsI (n : Nat), ∀ y ∈ pbsI (n : Nat), insB x y = true → p x r = true → p y r = true) : minC p n r = ((pbsI (n : Nat)).filter (lowB p n r)).map fun x => (x, r) := by
 unfold minC
 rw [minR_low hn hr mono]
theorem badS_mono {X x y r : Int} (hX : R5 X) (hx : R5 x) (hy : R5 y) (hr : 0 ≤ r ∧ r ≤ 4) (h : insB x y = true) (hb : badS X y r = true) : badS X x r = true := by
 rw [← bad_eq hX hy hr] at hb
 rw [← bad_eq hX hx hr]
 unfold badI at *
 rw [Bool.and_eq_true] at hb ⊢
 exact ⟨insB_trans hx hy hX h hb.1, hb.2⟩
theorem dpK_mono {rs : List (List Int)} {c : Nat} {m x y r : Int} {i : Nat} (h : ∀ k, dpC rs c m y r i k = true → dpC rs c m x r i k = true) : ∀ {k f : Nat}, dpK rs c m x r i k f = none → dpK rs c m y r i k f = none
 | k, 0, _ => rfl
 | k, f + 1, hx => by
  rw [dpK] at hx ⊢
  split at hx
  ·cases hx
  ·rename_i h1
   rw [if_neg (fun h2 => h1 (h k h2))]
   exact dpK_mono h hx
theorem dpI_mono {rs : List (List Int)} {c : Nat} {m x y r : Int} (h : ∀ i k, dpC rs c m y r i k = true → dpC rs c m x r i k = true) : ∀ {i f : Nat}, dpI rs c m x r i f = none → dpI rs c m y r i f = none
 | i, 0, _ => rfl
 | i, f + 1, hx => by
  rw [dpI] at hx ⊢
  split at hx
  ·cases hx
  ·rename_i h1
   rw [dpK_mono (h i) h1]
   exact dpI_mono h hx
theorem tab_c5 {c : Int} {rs : List (List Int)} (h : tabOK c rs = true) : ∃ n : Nat, c = n ∧ 1 ≤ n ∧ n ≤ 5 := by
 obtain ⟨n, e, h1, h2, _⟩ := tab_rows h
 exact ⟨n, e, h1, h2⟩
theorem hdB_mono {c : Nat} {rs : List (List Int)} {m r : Int} (hc : c ≤ 5) : ∀ x ∈ pbsI (c : Nat), ∀ y ∈ pbsI (c : Nat), insB x y = true → hdB c rs m x r = true → hdB c rs m y r = true := by
 intro x hx y hy h hp
 have hxR := (@pbsI_facts (c : Nat)).2.1 x hx
 have hyR := (@pbsI_facts (c : Nat)).2.1 y hy
 unfold hdB at *
 rw [Bool.and_eq_true] at hp ⊢
 obtain ⟨h1, h2⟩ := hp
 have hr := (ask_facts h1).2.2
 constructor
 ·unfold askOK at *
  simp only [Bool.and_eq_true, depOK, isAttr, inB_iff] at h1 ⊢
  refine ⟨h1.1, ⟨h1.2.1.1, h1.2.1.2.1, hyR.1, ?_⟩, h1.2.2⟩
  rw [pbsI_nat hc] at hy
  have := ((pbs_key ⟨c, by omega⟩).2 y hy).2
  dsimp only at this
  unfold all2
  rw [Int.toNat_natCast, Int.one_mul]
  omega
 ·rw [Option.isNone_iff_eq_none] at h2 ⊢
  unfold wtO at *
  refine dpI_mono (fun i k hb => ?_) h2
  unfold dpC at *
  exact badS_mono (agL_range (by rw [Int.toNat_natCast]; exact hc)) hxR hyR hr h hb
theorem prI_isN : ∀ {w : Option (Nat × Nat)}, decide ((prI w).1 < 0) = w.isNone
 | none => rfl
 | some (i, k) => decide_eq_false (by simp only [prI]; omega)
def cLowN : Contract := ⟨[], false, fun
 | [.agg [.v (.int .i64 c), .sl 1 t], .one (.v (.int .i64 m)), .agg [.v (.int .i64 l), .v (.int .i64 r)]] => some (WfS t ∧ askOK c (unS t) m l r = true, [⟨false, [.d (.v (.bool (lowB (hdB c (unS t) m) c.toNat r l)))]⟩], [])
 | _ => none⟩
def cHol7 : Contract := ⟨[], false, fun
 | [.agg [.v (.int .i64 c), .sl 1 t], .one (.v (.int .i64 m)), .agg [.v (.int .i64 l), .v (.int .i64 r)]] => some (WfS t ∧ askOK c (unS t) m l r = true, [⟨false, [.d (.v (.bool (hdB c (unS t) m l r)))]⟩], [])
 | _ => none⟩
theorem hol7_ok : ContractOK E0 75 cHol7 := by
 refine contract_of_wpc (E := E0) (T := mkT Tryz.prog [(95, cPair)] false (fun _ => false) true (fun _ => false)) (mkT_ok (E := E0) (.cons pair_ok .nil)) (fn := Tryz.f75) Tryz.func75 (by kernel_rfl) rfl mixedT (by kernel_rfl) rfl ?_
 intro args p rs ms hr
 unfold cHol7 at hr
 dsimp only at hr
 split at hr
 rotate_left
 ·cases hr
 rename_i c t m l r
 simp only [Option.some.injEq, Prod.mk.injEq] at hr
 obtain ⟨rfl, rfl, rfl⟩ := hr
 refine ⟨rfl, rfl, Nat.le_of_ble_eq_true rfl, ?_⟩
 have hm : maxLen = 9223372036854775807 := rfl
 rintro ⟨h1, hask⟩ bs
 obtain ⟨rs, rfl, hx, hy⟩ := h1.ex
 clear h1
 rw [unS_sL] at hask ⊢
 unfold hdB
 rw [hask, Bool.true_and]
 have e := @prI_isN (wtO c rs m l r)
 (repeat' (first | (refine gate_a fun _ => ?_) | (refine fork_intro (fun hb => ?_) (fun hb => ?_) <;> (try simp only [ew, hask, e] at hb)) | (simp only [go_sem, Nat.reduceLeDiff, Nat.reduceEqDiff, reduceIte, reduceCtorEq, Nat.reduceAdd, Nat.reduceMul, Nat.reduceSub, Nat.reduceLT, Int.reduceLT, Int.reduceLE, Int.reduceNeg, Int.reduceToNat, Nat.reduceBEq, Nat.reduceBNe, Int.reduceGE, Int.reduceGT, *, cHol7, cPair, Tryz.results75, hask, e])))
theorem low7_ok : ContractOK E0 36 cLowN := by
 refine contract_of_wpc (E := E0) (T := mkT Tryz.prog [(75, cHol7)] false (fun _ => false) true (fun _ => false)) (mkT_ok (E := E0) (.cons hol7_ok .nil)) (fn := Tryz.f36) Tryz.func36 (by kernel_rfl) rfl mixedT (by kernel_rfl) rfl ?_
 intro args p rs ms hr
 unfold cLowN at hr
 dsimp only at hr
 split at hr
 rotate_left
 ·cases hr
 rename_i c t m l r
 simp only [Option.some.injEq, Prod.mk.injEq] at hr
 obtain ⟨rfl, rfl, rfl⟩ := hr
 refine ⟨rfl, rfl, Nat.le_of_ble_eq_true rfl, ?_⟩
 have hm : maxLen = 9223372036854775807 := rfl
 rintro ⟨h1, hask⟩ bs
 obtain ⟨rs, rfl, hx, hy⟩ := h1.ex
 clear h1
 rw [unS_sL] at hask ⊢
 obtain ⟨ht, ⟨l0, l1⟩, r0, r1⟩ := ask_facts hask
 obtain ⟨c, rfl, c1, c5⟩ := tab_c5 ht
 rw [Int.toNat_natCast]
 have hdl : ∀ i : Nat, i < 5 → askOK c rs m (delB l i) r = true := fun i hi => by
  have hd := del_le (x := l) (c := (i : Nat)) ⟨l0, l1⟩ ⟨by omega, by omega⟩
  unfold askOK at *
  simp only [Bool.and_eq_true, depOK, isAttr, inB_iff] at hask ⊢
  exact ⟨hask.1, ⟨hask.2.1.1, hask.2.1.2.1, hd.1, Int.le_trans hd.2 hask.2.1.2.2.2⟩, hask.2.2⟩
 have eb : (bitI .and .i64 (l.fdiv (2 ^ r.toNat)) 1 == 1) = hasB l r := rfl
 unfold lowB
 cases hb : hasB l r
 ·cases hp : hdB c rs m l r
  ·rw [Bool.and_false, Bool.false_and]
   clear hdl
   (repeat' (first | (refine gate_a fun _ => ?_) | (refine fork_intro (fun hb => ?_) (fun hb => ?_) <;> (try simp only [ew, bits64, hask, eb, hb, hp] at hb)) | (simp only [go_sem, Nat.reduceLeDiff, Nat.reduceEqDiff, reduceIte, reduceCtorEq, Nat.reduceAdd, Nat.reduceMul, Nat.reduceSub, Nat.reduceLT, Int.reduceLT, Int.reduceLE, Int.reduceNeg, Int.reduceToNat, Nat.reduceBEq, Nat.reduceBNe, Int.reduceGE, Int.reduceGT, *, cLowN, cHol7, Tryz.results36, bits64, hask, eb, hb, hp])))
  ·rw [Bool.not_false, Bool.true_and, Bool.true_and]
   (repeat' (first | (refine gate_a fun _ => ?_) | (refine fork_intro (fun hb => ?_) (fun hb => ?_) <;> (try simp only [ew, bits64, hask, eb, hb, hp] at hb)) | (simp only [go_sem, Nat.reduceLeDiff, Nat.reduceEqDiff, reduceIte, reduceCtorEq, Nat.reduceAdd, Nat.reduceMul, Nat.reduceSub, Nat.reduceLT, Int.reduceLT, Int.reduceLE, Int.reduceNeg, Int.reduceToNat, Nat.reduceBEq, Nat.reduceBNe, Int.reduceGE, Int.reduceGT, *, cLowN, cHol7, Tryz.results36, bits64, hask, eb, hb, hp])))
   refine loop_intro { ι := Nat, rs := [(6, 7), (22, 47)], mods := [(7, fun i => .one (.d (.v (.int .i64 i))))], boxes := [(3, fun _ => [.d (.v (.int .i64 c)), .d (.sl 1 (sL rs))]), (5, fun _ => [.d (.v (.int .i64 l)), .d (.v (.int .i64 r))])], arrs := [], ok := fun i => i ≤ c ∧ lowN (hdB c rs m) r l i = true, mu := fun i => c - i } rfl 0 ⟨Nat.zero_le _, rfl⟩ ?_ fun i hi => ?_
   ·clear hdl
    (repeat' (first | (refine gate_a fun _ => ?_) | (refine fork_intro (fun hb => ?_) (fun hb => ?_) <;> (try simp only [ew] at hb)) | (simp only [go_sem, Nat.reduceLeDiff, Nat.reduceEqDiff, reduceIte, reduceCtorEq, Nat.reduceAdd, Nat.reduceMul, Nat.reduceSub, Nat.reduceLT, Int.reduceLT, Int.reduceLE, Int.reduceNeg, Int.reduceToNat, Nat.reduceBEq, Nat.reduceBNe, Int.reduceGE, Int.reduceGT, *, cLowN, cHol7, Tryz.results36])))
    all_goals first | rfl | skip
   ·dsimp only at i hi
    obtain ⟨hi, ht2⟩ := hi
    by_cases h5 : i < c
    ·have hpw := p5 (c := i) (by omega)
     have hdi := hdl i (by omega)
     obtain ⟨z0, z1⟩ := del_le (x := l) (c := (i : Nat)) ⟨l0, l1⟩ ⟨by omega, by omega⟩
     have ed : bitI .andNot .i64 l (1 * 2 ^ i) = delB l i := by unfold delB; rw [Int.toNat_natCast]
     have ei : (bitI .and .i64 (l.fdiv (2 ^ i)) 1 == 1) = hasB l i := by unfold hasB; rw [Int.toNat_natCast]
     have es : lowN (hdB c rs m) r l (i + 1) = (lowN (hdB c rs m) r l i && !(hasB l (i : Nat) && hdB c rs m (delB l (i : Nat)) r)) := rfl
     rw [ht2, Bool.true_and] at es
     clear hdl
     cases hq : hasB l (i : Nat)
     ·rw [hq, Bool.false_and] at es
      (repeat' (first | (refine gate_a fun _ => ?_) | (refine fork_intro (fun hb => ?_) (fun hb => ?_) <;> (try simp only [ew, bits64, ei, hq] at hb)) | (simp only [go_sem, Nat.reduceLeDiff, Nat.reduceEqDiff, reduceIte, reduceCtorEq, Nat.reduceAdd, Nat.reduceMul, Nat.reduceSub, Nat.reduceLT, Int.reduceLT, Int.reduceLE, Int.reduceNeg, Int.reduceToNat, Nat.reduceBEq, Nat.reduceBNe, Int.reduceGE, Int.reduceGT, *, cLowN, cHol7, Tryz.results36, bits64, ei, hq])))
      refine loop_next (i + 1) ⟨by omega, es⟩ (by dsimp only; omega) ?_
      clear es
      (repeat' (first | (refine gate_a fun _ => ?_) | (refine fork_intro (fun hb => ?_) (fun hb => ?_) <;> (try simp only [ew, ei, hq] at hb)) | (simp only [go_sem, Nat.reduceLeDiff, Nat.reduceEqDiff, reduceIte, reduceCtorEq, Nat.reduceAdd, Nat.reduceMul, Nat.reduceSub, Nat.reduceLT, Int.reduceLT, Int.reduceLE, Int.reduceNeg, Int.reduceToNat, Nat.reduceBEq, Nat.reduceBNe, Int.reduceGE, Int.reduceGT, *, cLowN, cHol7, Tryz.results36, ei, hq])))
     ·rw [hq, Bool.true_and] at es
      cases hw : hdB c rs m (delB l (i : Nat)) r
      ·rw [hw] at es
       (repeat' (first | (refine gate_a fun _ => ?_) | (refine fork_intro (fun hb => ?_) (fun hb => ?_) <;> (try simp only [ew, bits64, ei, hq, ed, hdi, hw] at hb)) | (simp only [go_sem, Nat.reduceLeDiff, Nat.reduceEqDiff, reduceIte, reduceCtorEq, Nat.reduceAdd, Nat.reduceMul, Nat.reduceSub, Nat.reduceLT, Int.reduceLT, Int.reduceLE, Int.reduceNeg, Int.reduceToNat, Nat.reduceBEq, Nat.reduceBNe, Int.reduceGE, Int.reduceGT, *, cLowN, cHol7, Tryz.results36, bits64, ei, hq, ed, hdi, hw])))
       refine loop_next (i + 1) ⟨by omega, es⟩ (by dsimp only; omega) ?_
       clear es
       (repeat' (first | (refine gate_a fun _ => ?_) | (refine fork_intro (fun hb => ?_) (fun hb => ?_) <;> (try simp only [ew, ei, hq, ed, hw] at hb)) | (simp only [go_sem, Nat.reduceLeDiff, Nat.reduceEqDiff, reduceIte, reduceCtorEq, Nat.reduceAdd, Nat.reduceMul, Nat.reduceSub, Nat.reduceLT, Int.reduceLT, Int.reduceLE, Int.reduceNeg, Int.reduceToNat, Nat.reduceBEq, Nat.reduceBNe, Int.reduceGE, Int.reduceGT, *, cLowN, cHol7, Tryz.results36, ei, hq, ed, hw])))
      ·have e := lowN_false h5 hq hw
       rw [e]
       clear e es ht2
       (repeat' (first | (refine gate_a fun _ => ?_) | (refine fork_intro (fun hb => ?_) (fun hb => ?_) <;> (try simp only [ew, bits64, ei, hq, ed, hdi, hw] at hb)) | (simp only [go_sem, Nat.reduceLeDiff, Nat.reduceEqDiff, reduceIte, reduceCtorEq, Nat.reduceAdd, Nat.reduceMul, Nat.reduceSub, Nat.reduceLT, Int.reduceLT, Int.reduceLE, Int.reduceNeg, Int.reduceToNat, Nat.reduceBEq, Nat.reduceBNe, Int.reduceGE, Int.reduceGT, *, cLowN, cHol7, Tryz.results36, bits64, ei, hq, ed, hdi, hw])))
    ·have e5 : i = c := by omega
     subst e5
     rw [ht2]
     clear hdl ht2
     (repeat' (first | (refine gate_a fun _ => ?_) | (refine fork_intro (fun hb => ?_) (fun hb => ?_) <;> (try simp only [ew] at hb)) | (simp only [go_sem, Nat.reduceLeDiff, Nat.reduceEqDiff, reduceIte, reduceCtorEq, Nat.reduceAdd, Nat.reduceMul, Nat.reduceSub, Nat.reduceLT, Int.reduceLT, Int.reduceLE, Int.reduceNeg, Int.reduceToNat, Nat.reduceBEq, Nat.reduceBNe, Int.reduceGE, Int.reduceGT, *, cLowN, cHol7, Tryz.results36])))
 ·rw [Bool.not_true, Bool.false_and, Bool.false_and]
  clear hdl
  (repeat' (first | (refine gate_a fun _ => ?_) | (refine fork_intro (fun hb => ?_) (fun hb => ?_) <;> (try simp only [ew, bits64, eb, hb] at hb)) | (simp only [go_sem, Nat.reduceLeDiff, Nat.reduceEqDiff, reduceIte, reduceCtorEq, Nat.reduceAdd, Nat.reduceMul, Nat.reduceSub, Nat.reduceLT, Int.reduceLT, Int.reduceLE, Int.reduceNeg, Int.reduceToNat, Nat.reduceBEq, Nat.reduceBNe, Int.reduceGE, Int.reduceGT, *, cLowN, cHol7, Tryz.results36, bits64, eb, hb])))
def mdL (c : Int) (rs : List (List Int)) (m : Int) : List (Int × Int) := if tabOK c rs && modeOK m then minDs (hdB c rs m) c else []
theorem mdL_facts {c : Int} {rs : List (List Int)} {m : Int} : (mdL c rs m).length ≤ 160 ∧ ∀ d ∈ mdL c rs m, depR d := by
 unfold mdL
 split
 ·rename_i h
  rw [Bool.and_eq_true] at h
  obtain ⟨n, rfl, h1, h2⟩ := tab_c5 h.1
  exact minDs_facts (by omega)
 ·simp
def cMD : Contract := ⟨[], false, fun
 | [.agg [.v (.int .i64 c), .sl 1 t], .one (.v (.int .i64 m))] => some (WfS t ∧ -9223372036854775808 ≤ c ∧ c ≤ 9223372036854775807, [⟨false, [.own 2 (dL (mdL c (unS t) m)) 1]⟩], [])
 | _ => none⟩
def cMD1 : Contract := ⟨[], false, fun
 | [.agg [.v (.int .i64 a), .v (.int .i64 b)], .ptr [.v (.int .i64 c), .sl 1 t], .ptr [.v (.int .i64 m)]] => some (WfS t ∧ -9223372036854775808 ≤ c ∧ c ≤ 9223372036854775807, [⟨false, [.d (.v (.bool (hdB c (unS t) m a b)))]⟩], [])
 | _ => none⟩
theorem md1_ok : ContractOK E0 32 cMD1 := by
 refine contract_of_wpc (E := E0) (T := mkT Tryz.prog [(33, cHold)] false (fun _ => false) true (fun _ => false)) (mkT_ok (E := E0) (.cons holdI_ok .nil)) (fn := Tryz.f32) Tryz.func32 (by kernel_rfl) rfl mixedT (by kernel_rfl) rfl ?_
 intro args p rs ms hr
 unfold cMD1 at hr
 dsimp only at hr
 split at hr
 rotate_left
 ·cases hr
 rename_i a b c t m
 simp only [Option.some.injEq, Prod.mk.injEq] at hr
 obtain ⟨rfl, rfl, rfl⟩ := hr
 refine ⟨rfl, rfl, Nat.le_of_ble_eq_true rfl, ?_⟩
 have hm : maxLen = 9223372036854775807 := rfl
 rintro ⟨h1, hc1, hc2⟩ bs
 obtain ⟨rs, rfl, hx, hy⟩ := h1.ex
 clear h1
 rw [unS_sL]
 (repeat' (first | (refine gate_a fun _ => ?_) | (refine fork_intro (fun hb => ?_) (fun hb => ?_) <;> (try simp only [ew] at hb)) | (simp only [go_sem, Nat.reduceLeDiff, Nat.reduceEqDiff, reduceIte, reduceCtorEq, Nat.reduceAdd, Nat.reduceMul, Nat.reduceSub, Nat.reduceLT, Int.reduceLT, Int.reduceLE, Int.reduceNeg, Int.reduceToNat, Nat.reduceBEq, Nat.reduceBNe, Int.reduceGE, Int.reduceGT, *, cMD1, cHold, Tryz.results32])))
def cMinT : Contract := ⟨[], false, fun
 | [.one (.v (.int .i64 n)), .fnc f [[.v (.int .i64 c), .sl 1 t], [.v (.int .i64 m)]]] => some (f = 32 ∧ WfS t ∧ 0 ≤ n ∧ n ≤ 5 ∧ -9223372036854775808 ≤ c ∧ c ≤ 9223372036854775807, [⟨false, [.own 2 (dL (minDs (hdB c (unS t) m) n)) 1]⟩], [])
 | _ => none⟩
theorem minTab_ok : ContractOK E0 31 cMinT := by
 refine ⟨⟨Tryz.f31, Tryz.func31, by kernel_rfl, rfl⟩, ?_⟩
 intro args p rs ms hr hp
 unfold cMinT at hr
 dsimp only at hr
 split at hr
 ·rename_i n f c t m
  simp only [Option.some.injEq, Prod.mk.injEq] at hr
  obtain ⟨rfl, rfl, rfl⟩ := hr
  obtain ⟨rfl, h1, h0, h5, hc1, hc2⟩ := hp
  exact (minG2 (f := 32) (c1 := [.v (.int .i64 c), .sl 1 t]) (c2 := [.v (.int .i64 m)]) (p := hdB c (unS t) m) md1_ok (fun a b => rfl) (fun a b ha hb => ⟨h1, hc1, hc2⟩) (by simp) (by simp) (by simp) ⟨h0, h5⟩).2 _ _ _ _ rfl ⟨rfl, rfl, rfl, rfl⟩
 ·cases hr
theorem mdI_ok : ContractOK E0 7 cMD := by
 refine contract_of_wpc (E := E0) (T := mkT Tryz.prog [(31, cMinT), (29, cIsTableS), (30, cMode), (31, cMinT)] false (fun _ => false) true (fun _ => false)) (mkT_ok (E := E0) (.cons minTab_ok (.cons isTableI_ok (.cons modeI_ok (.cons minTab_ok .nil))))) (fn := Tryz.f7) Tryz.func7 (by kernel_rfl) rfl mixedT (by kernel_rfl) rfl ?_
 intro args p rs ms hr
 unfold cMD at hr
 dsimp only at hr
 split at hr
 rotate_left
 ·cases hr
 rename_i c t m
 simp only [Option.some.injEq, Prod.mk.injEq] at hr
 obtain ⟨rfl, rfl, rfl⟩ := hr
 refine ⟨rfl, rfl, Nat.le_of_ble_eq_true rfl, ?_⟩
 have hm : maxLen = 9223372036854775807 := rfl
 rintro ⟨h1, hc1, hc2⟩ bs
 obtain ⟨rs, rfl, hx, hy⟩ := h1.ex
 clear h1
 rw [unS_sL]
 cases hv : (tabOK c rs && modeOK m)
 ·have e3 : (!tabOK c rs || !modeOK m) = true := by rw [← Bool.not_and, hv]; rfl
  have e : mdL c rs m = [] := by unfold mdL; rw [hv]; rfl
  have e0 : dL [] = [] := rfl
  rw [e]
  clear e hv
  (repeat' (first | (refine gate_a fun _ => ?_) | (refine fork_intro (fun hb => ?_) (fun hb => ?_) <;> (try simp only [ew, e3, e0, cMinT] at hb)) | (simp only [go_sem, Nat.reduceLeDiff, Nat.reduceEqDiff, reduceIte, reduceCtorEq, Nat.reduceAdd, Nat.reduceMul, Nat.reduceSub, Nat.reduceLT, Int.reduceLT, Int.reduceLE, Int.reduceNeg, Int.reduceToNat, Nat.reduceBEq, Nat.reduceBNe, Int.reduceGE, Int.reduceGT, *, cMD, cIsTableS, cMode, cMinT, Tryz.results7, e3, e0, cMinT])))
 ·have e3 : (!tabOK c rs || !modeOK m) = false := by rw [← Bool.not_and, hv]; rfl
  have e : mdL c rs m = minDs (hdB c rs m) c := by unfold mdL; rw [hv]; rfl
  rw [e]
  rw [Bool.and_eq_true] at hv
  obtain ⟨n, rfl, n1, n5⟩ := tab_c5 hv.1
  clear hv e
  (repeat' (first | (refine gate_a fun _ => ?_) | (refine fork_intro (fun hb => ?_) (fun hb => ?_) <;> (try simp only [ew, e3, cMinT] at hb)) | (simp only [go_sem, Nat.reduceLeDiff, Nat.reduceEqDiff, reduceIte, reduceCtorEq, Nat.reduceAdd, Nat.reduceMul, Nat.reduceSub, Nat.reduceLT, Int.reduceLT, Int.reduceLE, Int.reduceNeg, Int.reduceToNat, Nat.reduceBEq, Nat.reduceBNe, Int.reduceGE, Int.reduceGT, *, cMD, cIsTableS, cMode, cMinT, Tryz.results7, e3, cMinT])))
  all_goals first | rfl | skip
theorem mdS_ok : ContractOK E0 8 cMD := by
 refine contract_of_wpc (E := E0) (T := mkT Tryz.prog [(34, cFine), (35, cPbs), (36, cLowN)] false (fun _ => false) true (fun d => d == 42)) (mkT_ok (E := E0) (.cons fine_ok (.cons pbsS_ok (.cons low7_ok .nil)))) (fn := Tryz.f8) Tryz.func8 (by kernel_rfl) rfl mixedT (by kernel_rfl) rfl ?_
 intro args p rs ms hr
 unfold cMD at hr
 dsimp only at hr
 split at hr
 rotate_left
 ·cases hr
 rename_i c t m
 simp only [Option.some.injEq, Prod.mk.injEq] at hr
 obtain ⟨rfl, rfl, rfl⟩ := hr
 refine ⟨rfl, rfl, Nat.le_of_ble_eq_true rfl, ?_⟩
 have hm : maxLen = 9223372036854775807 := rfl
 rintro ⟨h1, hc1, hc2⟩ bs
 obtain ⟨rs, rfl, hx, hy⟩ := h1.ex
 clear h1
 rw [unS_sL]
 cases hv : (tabOK c rs && modeOK m)
 ·have e : mdL c rs m = [] := by unfold mdL; rw [hv]; rfl
  have e0 : dL [] = [] := rfl
  rw [e]
  clear e
  (repeat' (first | (refine gate_a fun _ => ?_) | (refine fork_intro (fun hb => ?_) (fun hb => ?_) <;> (try simp only [ew, hv, e0] at hb)) | (simp only [go_sem, Nat.reduceLeDiff, Nat.reduceEqDiff, reduceIte, reduceCtorEq, Nat.reduceAdd, Nat.reduceMul, Nat.reduceSub, Nat.reduceLT, Int.reduceLT, Int.reduceLE, Int.reduceNeg, Int.reduceToNat, Nat.reduceBEq, Nat.reduceBNe, Int.reduceGE, Int.reduceGT, *, cMD, cFine, cPbs, cLowN, Tryz.results8, hv, e0])))
  all_goals first | rfl | skip
 ·have e : mdL c rs m = minDs (hdB c rs m) c := by unfold mdL; rw [hv]; rfl
  rw [e]
  have hv2 := hv
  rw [Bool.and_eq_true] at hv2
  obtain ⟨n, rfl, n1, n5⟩ := tab_c5 hv2.1
  have hask : ∀ i r : Nat, i < (pbsI (n : Nat)).length → r < n → askOK n rs m ((pbsI (n : Nat)).getD i 0) r = true := fun i r hi hr => by
   have hm := getD_mem hi 0
   have hR := (@pbsI_facts (n : Nat)).2.1 _ hm
   rw [pbsI_nat n5] at hm
   have := ((pbs_key ⟨n, by omega⟩).2 _ hm).2
   rw [← pbsI_nat n5] at this
   dsimp only at this
   unfold askOK
   simp only [Bool.and_eq_true, depOK, isAttr, inB_iff, all2, Int.toNat_natCast, Int.one_mul]
   exact ⟨hv2, ⟨⟨by omega, by omega⟩, ⟨by omega, by omega⟩, hR.1, by omega⟩, by omega, by omega⟩
  clear hv2 e
  unfold minDs
  rw [Int.toNat_natCast]
  obtain ⟨P1, P2, P3⟩ := @pbsI_facts (n : Nat)
  have P1' : (pbsI (n : Nat)).length ≤ maxLen := Nat.le_trans P1 (by decide)
  clear P2
  have hC := fun r h => @minC_low (hdB n rs m) n (r : Nat) n5 h (hdB_mono n5)
  (repeat' (first | (refine gate_a fun _ => ?_) | (refine fork_intro (fun hb => ?_) (fun hb => ?_) <;> (try simp only [ew, hv] at hb)) | (simp only [go_sem, Nat.reduceLeDiff, Nat.reduceEqDiff, reduceIte, reduceCtorEq, Nat.reduceAdd, Nat.reduceMul, Nat.reduceSub, Nat.reduceLT, Int.reduceLT, Int.reduceLE, Int.reduceNeg, Int.reduceToNat, Nat.reduceBEq, Nat.reduceBNe, Int.reduceGE, Int.reduceGT, *, cMD, cFine, cPbs, cLowN, Tryz.results8, hv])))
  refine loop_intro { ι := Nat, rs := [(8, 10), (19, 45)], mods := [(7, fun r => .one (.d (.v (.int .i64 r)))), (5, fun r => .one (.own 2 (dL (minT (hdB n rs m) n r)) 1))], boxes := [(2, fun _ => [.d (.v (.int .i64 n)), .d (.sl 1 (sL rs))])], arrs := [(6, fun _ => (1, iL (pbsI (n : Nat)), 1))], ok := fun r => r ≤ n, mu := fun r => n - r } rfl 0 (Nat.zero_le _) ?_ fun r hr => ?_
  ·clear hask hC P3
   (repeat' (first | (refine gate_a fun _ => ?_) | (refine fork_intro (fun hb => ?_) (fun hb => ?_) <;> (try simp only [ew] at hb)) | (simp only [go_sem, Nat.reduceLeDiff, Nat.reduceEqDiff, reduceIte, reduceCtorEq, Nat.reduceAdd, Nat.reduceMul, Nat.reduceSub, Nat.reduceLT, Int.reduceLT, Int.reduceLE, Int.reduceNeg, Int.reduceToNat, Nat.reduceBEq, Nat.reduceBNe, Int.reduceGE, Int.reduceGT, *, cMD, cFine, cPbs, cLowN, Tryz.results8])))
   all_goals first | rfl | skip
  ·dsimp only at r hr
   have l0 := @minT_length (hdB n rs m) n r
   have l1 : (minT (hdB n rs m) n r).length ≤ 192 := by omega
   clear l0
   by_cases h5 : r < n
   ·have hC := hC r ⟨by omega, by omega⟩
    have hask := fun i h => hask i r h h5
    have eT : minT (hdB n rs m) n (r + 1) = minT (hdB n rs m) n r ++ minC (hdB n rs m) n (r : Nat) := rfl
    rw [hC] at eT
    clear hC
    generalize hA : minT (hdB n rs m) n r = A at l1 eT
    generalize hL : pbsI (n : Nat) = L at P1 P1' P3 hask eT
    generalize hlo : lowB (hdB n rs m) n (r : Nat) = lo at eT
    have hlo' := fun x => congrFun hlo x
    (repeat' (first | (refine gate_a fun _ => ?_) | (refine fork_intro (fun hb => ?_) (fun hb => ?_) <;> (try simp only [ew, hA, hL] at hb)) | (simp only [go_sem, Nat.reduceLeDiff, Nat.reduceEqDiff, reduceIte, reduceCtorEq, Nat.reduceAdd, Nat.reduceMul, Nat.reduceSub, Nat.reduceLT, Int.reduceLT, Int.reduceLE, Int.reduceNeg, Int.reduceToNat, Nat.reduceBEq, Nat.reduceBNe, Int.reduceGE, Int.reduceGT, *, cMD, cFine, cPbs, cLowN, Tryz.results8, hA, hL])))
    refine loop_intro { ι := Nat, rs := [(9, 10), (25, 45)], mods := [(8, fun i => .one (.d (.v (.int .i64 i)))), (5, fun i => .one (.own 2 (dL (A ++ ((L.take i).filter lo).map fun x => (x, (r : Int)))) 1))], boxes := [(2, fun _ => [.d (.v (.int .i64 n)), .d (.sl 1 (sL rs))])], arrs := [(6, fun _ => (1, iL L, 1))], ok := fun i => i ≤ L.length, mu := fun i => L.length - i } rfl 0 (Nat.zero_le _) ?_ fun i hi => ?_
    ·have e1 : A ++ ((L.take 0).filter lo).map (fun x => (x, (r : Int))) = A := by simp
     clear hask P3 eT
     (repeat' (first | (refine gate_a fun _ => ?_) | (refine fork_intro (fun hb => ?_) (fun hb => ?_) <;> (try simp only [ew, hL, hA, e1, List.take_zero, List.filter_nil, List.map_nil, List.append_nil] at hb)) | (simp only [go_sem, Nat.reduceLeDiff, Nat.reduceEqDiff, reduceIte, reduceCtorEq, Nat.reduceAdd, Nat.reduceMul, Nat.reduceSub, Nat.reduceLT, Int.reduceLT, Int.reduceLE, Int.reduceNeg, Int.reduceToNat, Nat.reduceBEq, Nat.reduceBNe, Int.reduceGE, Int.reduceGT, *, cMD, cFine, cPbs, cLowN, Tryz.results8, hL, hA, e1, List.take_zero, List.filter_nil, List.map_nil, List.append_nil])))
     all_goals first | rfl | skip
    ·dsimp only at i hi
     have q1 := List.length_filter_le lo (L.take i)
     rw [List.length_take] at q1
     have q2 : (A ++ ((L.take i).filter lo).map (fun x => (x, (r : Int)))).length ≤ 256 := by
      rw [List.length_append, List.length_map]; omega
     clear q1
     by_cases h6 : i < L.length
     ·have eF := congrArg (fun l => A ++ l.map fun x => (x, (r : Int))) (filter_take h6 lo)
      obtain ⟨x0, x31⟩ := P3 i h6
      have hak := hask i h6
      have hlx := hlo' (L.getD i 0)
      clear hask P3
      try dsimp only at eF
      generalize hB : A ++ ((L.take i).filter lo).map (fun x => (x, (r : Int))) = B at q2
      generalize hX : L.getD i 0 = x at x0 x31 hak hlx eF
      cases hq : lo x
      ·rw [hq, if_neg (by decide), List.append_nil, hB] at eF
       rw [hq] at hlx
       clear eT
       (repeat' (first | (refine gate_a fun _ => ?_) | (refine fork_intro (fun hb => ?_) (fun hb => ?_) <;> (try simp only [ew, hA, hB, hX, hak, hlx] at hb)) | (simp only [go_sem, Nat.reduceLeDiff, Nat.reduceEqDiff, reduceIte, reduceCtorEq, Nat.reduceAdd, Nat.reduceMul, Nat.reduceSub, Nat.reduceLT, Int.reduceLT, Int.reduceLE, Int.reduceNeg, Int.reduceToNat, Nat.reduceBEq, Nat.reduceBNe, Int.reduceGE, Int.reduceGT, *, cMD, cFine, cPbs, cLowN, Tryz.results8, hA, hB, hX, hak, hlx])))
       refine loop_next (i + 1) (by dsimp only; omega) (by dsimp only; omega) ?_
       (repeat' (first | (refine gate_a fun _ => ?_) | (refine fork_intro (fun hb => ?_) (fun hb => ?_) <;> (try simp only [ew, hB, eF] at hb)) | (simp only [go_sem, Nat.reduceLeDiff, Nat.reduceEqDiff, reduceIte, reduceCtorEq, Nat.reduceAdd, Nat.reduceMul, Nat.reduceSub, Nat.reduceLT, Int.reduceLT, Int.reduceLE, Int.reduceNeg, Int.reduceToNat, Nat.reduceBEq, Nat.reduceBNe, Int.reduceGE, Int.reduceGT, *, cMD, cFine, cPbs, cLowN, Tryz.results8, hB, eF])))
      ·rw [hq, if_pos rfl, List.map_append, ← List.append_assoc, hB] at eF
       have e7 : B ++ List.map (fun x => (x, (r : Int))) [x] = B ++ [(x, (r : Int))] := rfl
       rw [e7] at eF
       rw [hq] at hlx
       clear eT e7
       (repeat' (first | (refine gate_a fun _ => ?_) | (refine fork_intro (fun hb => ?_) (fun hb => ?_) <;> (try simp only [ew, hA, hB, hX, hak, hlx, dL_snoc] at hb)) | (simp only [go_sem, Nat.reduceLeDiff, Nat.reduceEqDiff, reduceIte, reduceCtorEq, Nat.reduceAdd, Nat.reduceMul, Nat.reduceSub, Nat.reduceLT, Int.reduceLT, Int.reduceLE, Int.reduceNeg, Int.reduceToNat, Nat.reduceBEq, Nat.reduceBNe, Int.reduceGE, Int.reduceGT, *, cMD, cFine, cPbs, cLowN, Tryz.results8, hA, hB, hX, hak, hlx, dL_snoc])))
       refine loop_next (i + 1) (by dsimp only; omega) (by dsimp only; omega) ?_
       (repeat' (first | (refine gate_a fun _ => ?_) | (refine fork_intro (fun hb => ?_) (fun hb => ?_) <;> (try simp only [ew, hB, eF, hX, hlx, dL_snoc] at hb)) | (simp only [go_sem, Nat.reduceLeDiff, Nat.reduceEqDiff, reduceIte, reduceCtorEq, Nat.reduceAdd, Nat.reduceMul, Nat.reduceSub, Nat.reduceLT, Int.reduceLT, Int.reduceLE, Int.reduceNeg, Int.reduceToNat, Nat.reduceBEq, Nat.reduceBNe, Int.reduceGE, Int.reduceGT, *, cMD, cFine, cPbs, cLowN, Tryz.results8, hB, eF, hX, hlx, dL_snoc])))
     ·have e6 : i = L.length := by omega
      subst e6
      have eP : L.take L.length = L := List.take_length
      rw [← hL] at eT
      clear hask P3
      (repeat' (first | (refine gate_a fun _ => ?_) | (refine fork_intro (fun hb => ?_) (fun hb => ?_) <;> (try simp only [ew, eP] at hb)) | (simp only [go_sem, Nat.reduceLeDiff, Nat.reduceEqDiff, reduceIte, reduceCtorEq, Nat.reduceAdd, Nat.reduceMul, Nat.reduceSub, Nat.reduceLT, Int.reduceLT, Int.reduceLE, Int.reduceNeg, Int.reduceToNat, Nat.reduceBEq, Nat.reduceBNe, Int.reduceGE, Int.reduceGT, *, cMD, cFine, cPbs, cLowN, Tryz.results8, eP])))
      refine loop_next (r + 1) (by dsimp only; omega) (by dsimp only; omega) ?_
      rw [hL] at eT
      (repeat' (first | (refine gate_a fun _ => ?_) | (refine fork_intro (fun hb => ?_) (fun hb => ?_) <;> (try simp only [ew, eP, eT] at hb)) | (simp only [go_sem, Nat.reduceLeDiff, Nat.reduceEqDiff, reduceIte, reduceCtorEq, Nat.reduceAdd, Nat.reduceMul, Nat.reduceSub, Nat.reduceLT, Int.reduceLT, Int.reduceLE, Int.reduceNeg, Int.reduceToNat, Nat.reduceBEq, Nat.reduceBNe, Int.reduceGE, Int.reduceGT, *, cMD, cFine, cPbs, cLowN, Tryz.results8, eP, eT])))
   ·have e5 : r = n := by omega
    subst e5
    clear hask hC P3
    (repeat' (first | (refine gate_a fun _ => ?_) | (refine fork_intro (fun hb => ?_) (fun hb => ?_) <;> (try simp only [ew] at hb)) | (simp only [go_sem, Nat.reduceLeDiff, Nat.reduceEqDiff, reduceIte, reduceCtorEq, Nat.reduceAdd, Nat.reduceMul, Nat.reduceSub, Nat.reduceLT, Int.reduceLT, Int.reduceLE, Int.reduceNeg, Int.reduceToNat, Nat.reduceBEq, Nat.reduceBNe, Int.reduceGE, Int.reduceGT, *, cMD, cFine, cPbs, cLowN, Tryz.results8])))
end Go.Own
