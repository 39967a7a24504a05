/-
  FnExactUpdateCell: the program's UpdateCell returns what the reference's returns, for all arguments. Conditions: none.
-/
import Derived.Test.YtnjijpgnfjghfaaGreatOwnX4
import Derived.Test.YtnjijpgnfjghfaaGreatOwnY6
namespace Go.Proofs.YtnjijpgnfjghfaaGreat.fnExactUpdateCell
open Go.ChangeShapes Go.WideShapes Go.ChangeAt Go.RowKit Go.Own
set_option linter.unusedVariables false
set_option linter.unusedSimpArgs false
set_option maxHeartbeats 1000000

theorem own : ownKnob Tryz.prog.godebug = none := by kernel_rfl
theorem laidOut : laidOutB Tryz.prog = true := by kernel_rfl

theorem walk {H : Type} {enc : TypeId × Value → H} (w : World) (cs0 : Array Value) (a1 : Int) (a2 : Int) (a3 : Int) {d0 : DataW H} {p0 : List MemPlace} (h0 : DataW.Trod enc Tryz.prog w 0 (fun _ => true) true 27 (.agg cs0) d0 p0) (hi1 : IntKind.min .i64 ≤ a1 ∧ a1 ≤ IntKind.max .i64) (hi2 : IntKind.min .i64 ≤ a2 ∧ a2 ≤ IntKind.max .i64) (hi3 : IntKind.min .i64 ≤ a3 ∧ a3 ≤ IntKind.max .i64) :
    Calls Tryz.prog 6 #[.agg cs0, .int .i64 a1, .int .i64 a2, .int .i64 a3] w fun e w' => e = .returned (.bool true) ∧ Below w.heap.size w w' := by
  obtain ⟨_, F0, r0, ⟨c0, l0, m0, q0, rfl, hl0, hq0, hc0, hd0⟩⟩ := argOf_trod (oN w) h0
  have ha : ArgsOK w.heap [.agg [.v (.int .i64 c0), .sl 1 l0, .v (.int .i64 m0), .sl 2 q0], .one (.v (.int .i64 a1)), .one (.v (.int .i64 a2)), .one (.v (.int .i64 a3))] [.agg cs0, .int .i64 a1, .int .i64 a2, .int .i64 a3] (F0 ++ ([] ++ ([] ++ ([] ++ [])))) ([] ++ ([] ++ ([] ++ ([] ++ [])))) := (.cons (argOK_agg r0) (.cons (.one (.v rfl .nil)) (.cons (.one (.v rfl .nil)) (.cons (.one (.v rfl .nil)) .nil))))
  refine (lawUpd_ok.2 _ _ _ _ rfl ⟨⟨hl0, hq0, hc0, hd0⟩, hi1, hi2, hi3⟩ w _ _ _ ha (by simp) (by simp) trivial (Nat.zero_le _) (by simp)).mono ?_
  rintro e w' ⟨v, rfl, po⟩
  obtain ⟨F', os, F2, Ms', r1, _⟩ := po.res
  rw [ret_true r1]
  exact ⟨rfl, below_of_post po⟩

set_option maxRecDepth 100000 in
theorem lifted (os : Os) (started : os.Started) (H : Type) (enc : TypeId × Value → H) :
    ReturnsInHanded {} Tryz.checked os 6 .any (Rows.fnExactUpdateCellSpec.pre6 enc Tryz.prog Tryz.f6 Rows.fnExactUpdateCellRow.domain false) (Rows.fnExactUpdateCellSpec.post enc Tryz.prog Tryz.f6 false true false false) := by
  refine returnsInHanded_of_change (C := Tryz.checked) own started (by kernel_rfl) Tryz.func6
    (ChangeSpec.witness6 (enc := enc) (C := Tryz.checked) false ⟨#[], #[.agg #[.int .i64 0, .slice none 0 0, .int .i64 0, .slice none 0 0], .int .i64 0, .int .i64 0, .int .i64 0], []⟩ 8 (by kernel_rfl) (by kernel_rfl) (by kernel_rfl) (by kernel_rfl)) ?_
  intro W base args ds gs before hval0 hW hcnd _
  have hval : ∀ (j : Nat) t v, Tryz.f6.params[j]? = some t → args[j]? = some v → Value.okWide Tryz.prog W .any base t v := hval0
  have hW' := hW
  obtain ⟨p, q, hA0, hV, rfl, hfz, hnd⟩ := hW
  have hA : DataW.TrodAll enc Tryz.prog W 0 (fun _ => true) true Tryz.f6.params.toList args.toList ds p := hA0
  rw [Tryz.params6] at hA hval
  obtain ⟨v0, vs0, d0, ds0, p0, q0, hargs0, rfl, rfl, h0, r0⟩ := trodAll_cons hA
  obtain ⟨v1, vs1, d1, ds1, p1, q1, hargs1, rfl, rfl, h1, r1⟩ := trodAll_cons r0
  obtain ⟨v2, vs2, d2, ds2, p2, q2, hargs2, rfl, rfl, h2, r2⟩ := trodAll_cons r1
  obtain ⟨v3, vs3, d3, ds3, p3, q3, hargs3, rfl, rfl, h3, r3⟩ := trodAll_cons r2
  obtain ⟨rfl, rfl, rfl⟩ := trodAll_nil r3
  obtain rfl : args = #[v0, v1, v2, v3] := by cases args; simp_all
  obtain ⟨rfl, rfl⟩ := trodVars_none hV
  obtain ⟨cs0, rfl⟩ := okWide_agg Tryz.underlying27 (hval 0 27 v0 rfl rfl)
  obtain ⟨n1, rfl⟩ := okWide_int Tryz.underlying3 (hval 1 3 v1 rfl rfl)
  have hb1 : IntKind.min .i64 ≤ n1 ∧ n1 ≤ IntKind.max .i64 := int_bounds h1
  obtain ⟨n2, rfl⟩ := okWide_int Tryz.underlying3 (hval 2 3 v2 rfl rfl)
  have hb2 : IntKind.min .i64 ≤ n2 ∧ n2 ≤ IntKind.max .i64 := int_bounds h2
  obtain ⟨n3, rfl⟩ := okWide_int Tryz.underlying3 (hval 3 3 v3 rfl rfl)
  have hb3 : IntKind.min .i64 ≤ n3 ∧ n3 ≤ IntKind.max .i64 := int_bounds h3
  have lt0 : ∀ x ∈ p0, x.block < W.heap.size := by obtain ⟨m, hm⟩ := h0; exact DataW.trod_lt m _ _ _ hm
  have lt1 : ∀ x ∈ p1, x.block < W.heap.size := by obtain ⟨m, hm⟩ := h1; exact DataW.trod_lt m _ _ _ hm
  have lt2 : ∀ x ∈ p2, x.block < W.heap.size := by obtain ⟨m, hm⟩ := h2; exact DataW.trod_lt m _ _ _ hm
  have lt3 : ∀ x ∈ p3, x.block < W.heap.size := by obtain ⟨m, hm⟩ := h3; exact DataW.trod_lt m _ _ _ hm
  clear hA0 hval0
  refine (walk W cs0 n1 n2 n3 h0 hb1 hb2 hb3).mono fun e W' ⟨he, bel⟩ => ?_
  subst he
  exact ⟨_, rfl, _, _, _, [], _, [], hW', trodAll_mk1 (shut_bool Tryz.underlying4 _), (trodAll_cons_mk (Below.trod laidOut (by kernel_rfl) (of_decide_eq_true (by kernel_rfl)) h0 bel lt0) (trodAll_cons_mk (Below.trod laidOut (by kernel_rfl) (of_decide_eq_true (by kernel_rfl)) h1 bel lt1) (trodAll_cons_mk (Below.trod laidOut (by kernel_rfl) (of_decide_eq_true (by kernel_rfl)) h2 bel lt2) (trodAll_cons_mk (Below.trod laidOut (by kernel_rfl) (of_decide_eq_true (by kernel_rfl)) h3 bel lt3) trodAll_mk0)))), rfl, bel.frame _, fun h => by cases h⟩

theorem over : Rows.fnExactUpdateCellRow.holds Tryz.pinned (OpenSpec.ofChange Rows.fnExactUpdateCellSpec) :=
  OpenClaim.holds_of_wide 6 Tryz.f6 rfl rfl rfl rfl rfl rfl rfl ⟨rfl, rfl, rfl, rfl, rfl⟩ rfl rfl rfl rfl rfl (by as_aux_lemma => kernel_rfl) Tryz.func6 (by as_aux_lemma => kernel_rfl)
    (of_decide_eq_true (by as_aux_lemma => kernel_rfl)) (by as_aux_lemma => unfold Func.isWrapper; first | (rw [if_pos (by decide +kernel)]; kernel_rfl) | (rw [if_neg (by decide +kernel)]; exact ⟨rfl, rfl⟩))
    (fun os started H enc _ => lifted os started H enc)

theorem proved : Rows.FnExactUpdateCellSaid := over
end Go.Proofs.YtnjijpgnfjghfaaGreat.fnExactUpdateCell
