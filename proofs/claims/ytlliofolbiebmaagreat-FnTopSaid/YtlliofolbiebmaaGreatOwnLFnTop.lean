/-
  FnTop: for every table and meaning of nulls: all searches find the same minimal dependencies; every candidate that does not hold has a witness; an example table made from them has exactly these; and after every change the maintained ones are those found anew. Conditions: none.
-/
import Derived.Test.YtlliofolbiebmaaGreatOwnAe
import Derived.Test.YtlliofolbiebmaaGreatOwnY6
set_option linter.unusedVariables false
set_option linter.unusedSimpArgs false
set_option maxHeartbeats 1000000
namespace Go.Proofs.YtlliofolbiebmaaGreat.fnTop
open Go.ChangeShapes Go.WideShapes Go.ChangeAt Go.RowKit Go.Own
theorem own : ownKnob Tryz.prog.godebug = none := by kernel_rfl
theorem laidOut : laidOutB Tryz.prog = true := by kernel_rfl
theorem walk {H : Type} {enc : TypeId × Value → H} (w : World) (ad0 : Option Addr) (ln0 cp0 : Nat) {d0 : DataW H} {p0 : List MemPlace} (h0 : DataW.Trod enc Tryz.prog w 0 (fun _ => true) true 22 (.slice ad0 ln0 cp0) d0 p0) :
  Calls Tryz.prog 3 #[.slice ad0 ln0 cp0] w fun e w' => e = .returned (.bool true) ∧ Below w.heap.size w w' := by
 obtain ⟨_, F0, r0, ⟨l0, rfl, hl0, hb0⟩⟩ := argOf_trod (oB w) h0
 have ha : ArgsOK w.heap [.one (.sl 1 l0)] [.slice ad0 ln0 cp0] (F0 ++ []) ([] ++ []) := (.cons (argOK_slice r0) .nil)
 refine (lawT_ok.2 _ _ _ _ rfl ⟨hl0, hb0⟩ w _ _ _ ha (by simp) (by simp) trivial (Nat.zero_le _) (by simp)).mono ?_
 rintro e w' ⟨v, rfl, po⟩
 obtain ⟨F', os, F2, Ms', r1, _⟩ := po.res
 rw [ret_true r1]
 exact ⟨rfl, below_of_post po⟩
set_option maxRecDepth 100000 in
theorem lifted (os : Os) (started : os.Started) (H : Type) (enc : TypeId × Value → H) :
  ReturnsInHanded {} Tryz.checked os 3 .any (Rows.fnTopSpec.pre6 enc Tryz.prog Tryz.f3 Rows.fnTopRow.domain false) (Rows.fnTopSpec.post enc Tryz.prog Tryz.f3 false true false false) := by
 refine returnsInHanded_of_change (C := Tryz.checked) own started (by kernel_rfl) Tryz.func3
  (ChangeSpec.witness6 (enc := enc) (C := Tryz.checked) false ⟨#[], #[.slice none 0 0], []⟩ 8 (by kernel_rfl) (by kernel_rfl) (by kernel_rfl) (by kernel_rfl)) ?_
 intro W base args ds gs before hval0 hW hcnd _
 have hval : ∀ (j : Nat) t v, Tryz.f3.params[j]? = some t → args[j]? = some v → Value.okWide Tryz.prog W .any base t v := hval0
 have hW' := hW
 obtain ⟨p, q, hA0, hV, rfl, hfz, hnd⟩ := hW
 have hA : DataW.TrodAll enc Tryz.prog W 0 (fun _ => true) true Tryz.f3.params.toList args.toList ds p := hA0
 rw [Tryz.params3] at hA hval
 obtain ⟨v0, vs0, d0, ds0, p0, q0, hargs0, rfl, rfl, h0, r0⟩ := trodAll_cons hA
 obtain ⟨rfl, rfl, rfl⟩ := trodAll_nil r0
 obtain rfl : args = #[v0] := by cases args; simp_all
 obtain ⟨rfl, rfl⟩ := trodVars_none hV
 obtain ⟨ad0, ln0, cp0, rfl⟩ := okWide_slice Tryz.underlying22 (hval 0 22 v0 rfl rfl)
 have lt0 : ∀ x ∈ p0, x.block < W.heap.size := by obtain ⟨m, hm⟩ := h0; exact DataW.trod_lt m _ _ _ hm
 clear hA0 hval0
 refine (walk W ad0 ln0 cp0 h0).mono fun e W' ⟨he, bel⟩ => ?_
 subst he
 exact ⟨_, rfl, _, _, _, [], _, [], hW', trodAll_mk1 (shut_bool Tryz.underlying4 _), (trodAll_cons_mk (Below.trod laidOut (by kernel_rfl) (of_decide_eq_true (by kernel_rfl)) h0 bel lt0) trodAll_mk0), rfl, bel.frame _, fun h => by cases h⟩
theorem over : Rows.fnTopRow.holds Tryz.pinned (OpenSpec.ofChange Rows.fnTopSpec) :=
 OpenClaim.holds_of_wide 3 Tryz.f3 rfl rfl rfl rfl rfl rfl rfl ⟨rfl, rfl, rfl, rfl, rfl⟩ rfl rfl rfl rfl rfl (by as_aux_lemma => kernel_rfl) Tryz.func3 (by as_aux_lemma => kernel_rfl)
  (of_decide_eq_true (by as_aux_lemma => kernel_rfl)) (by as_aux_lemma => unfold Func.isWrapper; first | (rw [if_pos (by decide +kernel)]; kernel_rfl) | (rw [if_neg (by decide +kernel)]; exact ⟨rfl, rfl⟩))
  (fun os started H enc _ => lifted os started H enc)
theorem proved : Rows.FnTopSaid := over
end Go.Proofs.YtlliofolbiebmaaGreat.fnTop
