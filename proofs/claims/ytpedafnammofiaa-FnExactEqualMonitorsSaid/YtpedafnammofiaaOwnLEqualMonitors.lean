/-
  FnExactEqualMonitors: the program's EqualMonitors returns what the reference's returns, for all arguments. Conditions: none.
-/
import Derived.Test.YtpedafnammofiaaOwnC10
import Derived.Test.YtpedafnammofiaaOwnSh2
namespace Go.Proofs.Ytpedafnammofiaa.fnExactEqualMonitors
open Go.ChangeShapes Go.WideShapes Go.ChangeAt Go.RowKit Go.Own
set_option linter.unusedVariables false
set_option linter.unusedSimpArgs false
set_option maxHeartbeats 1000000

theorem own : ownKnob Try.prog.godebug = none := by kernel_rfl
theorem laidOut : laidOutB Try.prog = true := by kernel_rfl

theorem walk {H : Type} {enc : TypeId × Value → H} (w : World) (cs0 : Array Value) (cs1 : Array Value) {d0 : DataW H} {p0 : List MemPlace} (h0 : DataW.Trod enc Try.prog w 0 (fun _ => true) true 71 (.agg cs0) d0 p0) {d1 : DataW H} {p1 : List MemPlace} (h1 : DataW.Trod enc Try.prog w 0 (fun _ => true) true 71 (.agg cs1) d1 p1) :
    Calls Try.prog 12 #[.agg cs0, .agg cs1] w fun e w' => e = .returned (.bool true) ∧ Below w.heap.size w w' := by
  obtain ⟨_, F0, r0, ⟨c0, l0, m0, q0, rfl, hl0, hq0⟩⟩ := argOf_trod (oM w) h0
  obtain ⟨_, F1, r1, ⟨c1, l1, m1, q1, rfl, hl1, hq1⟩⟩ := argOf_trod (oM w) h1
  have ha : ArgsOK w.heap [.agg [.v (.int .i64 c0), .sl 1 l0, .v (.int .i64 m0), .sl 2 q0], .agg [.v (.int .i64 c1), .sl 1 l1, .v (.int .i64 m1), .sl 2 q1]] [.agg cs0, .agg cs1] (F0 ++ (F1 ++ [])) ([] ++ ([] ++ [])) := (.cons (argOK_agg r0) (.cons (argOK_agg r1) .nil))
  refine (lawEM_ok.2 _ _ _ _ rfl ⟨hl0, hq0, hl1, hq1⟩ w _ _ _ ha (by simp) (by simp) trivial (Nat.zero_le _) (by simp)).mono ?_
  rintro e w' ⟨v, rfl, po⟩
  obtain ⟨F', os, F2, Ms', r1, _⟩ := po.res
  rw [ret_true r1]
  exact ⟨rfl, below_of_post po⟩

set_option maxRecDepth 100000 in
theorem lifted (os : Os) (started : os.Started) (H : Type) (enc : TypeId × Value → H) :
    ReturnsInHanded {} Try.checked os 12 .any (Rows.fnExactEqualMonitorsSpec.pre6 enc Try.prog Try.f12 Rows.fnExactEqualMonitorsRow.domain false) (Rows.fnExactEqualMonitorsSpec.post enc Try.prog Try.f12 false true false false) := by
  refine returnsInHanded_of_change (C := Try.checked) own started (by kernel_rfl) Try.func12
    (ChangeSpec.witness6 (enc := enc) (C := Try.checked) false ⟨#[], #[.agg #[.int .i64 0, .slice none 0 0, .int .i64 0, .slice none 0 0], .agg #[.int .i64 0, .slice none 0 0, .int .i64 0, .slice none 0 0]], []⟩ 8 (by kernel_rfl) (by kernel_rfl) (by kernel_rfl) (by kernel_rfl)) ?_
  intro W base args ds gs before hval0 hW hcnd _
  have hval : ∀ (j : Nat) t v, Try.f12.params[j]? = some t → args[j]? = some v → Value.okWide Try.prog W .any base t v := hval0
  have hW' := hW
  obtain ⟨p, q, hA0, hV, rfl, hfz, hnd⟩ := hW
  have hA : DataW.TrodAll enc Try.prog W 0 (fun _ => true) true Try.f12.params.toList args.toList ds p := hA0
  rw [Try.params12] at hA hval
  obtain ⟨v0, vs0, d0, ds0, p0, q0, hargs0, rfl, rfl, h0, r0⟩ := trodAll_cons hA
  obtain ⟨v1, vs1, d1, ds1, p1, q1, hargs1, rfl, rfl, h1, r1⟩ := trodAll_cons r0
  obtain ⟨rfl, rfl, rfl⟩ := trodAll_nil r1
  obtain rfl : args = #[v0, v1] := by cases args; simp_all
  obtain ⟨rfl, rfl⟩ := trodVars_none hV
  obtain ⟨cs0, rfl⟩ := okWide_agg Try.underlying71 (hval 0 71 v0 rfl rfl)
  obtain ⟨cs1, rfl⟩ := okWide_agg Try.underlying71 (hval 1 71 v1 rfl rfl)
  have lt0 : ∀ x ∈ p0, x.block < W.heap.size := by obtain ⟨m, hm⟩ := h0; exact DataW.trod_lt m _ _ _ hm
  have lt1 : ∀ x ∈ p1, x.block < W.heap.size := by obtain ⟨m, hm⟩ := h1; exact DataW.trod_lt m _ _ _ hm
  clear hA0 hval0
  refine (walk W cs0 cs1 h0 h1).mono fun e W' ⟨he, bel⟩ => ?_
  subst he
  exact ⟨_, rfl, _, _, _, [], _, [], hW', trodAll_mk1 (shut_bool Try.underlying4 _), (trodAll_cons_mk (Below.trod laidOut (by kernel_rfl) (of_decide_eq_true (by kernel_rfl)) h0 bel lt0) (trodAll_cons_mk (Below.trod laidOut (by kernel_rfl) (of_decide_eq_true (by kernel_rfl)) h1 bel lt1) trodAll_mk0)), rfl, bel.frame _, fun h => by cases h⟩

theorem over : Rows.fnExactEqualMonitorsRow.holds Try.pinned (OpenSpec.ofChange Rows.fnExactEqualMonitorsSpec) :=
  OpenClaim.holds_of_wide 12 Try.f12 rfl rfl rfl rfl rfl rfl rfl ⟨rfl, rfl, rfl, rfl, rfl⟩ rfl rfl rfl rfl rfl (by as_aux_lemma => kernel_rfl) Try.func12 (by as_aux_lemma => kernel_rfl)
    (of_decide_eq_true (by as_aux_lemma => kernel_rfl)) (by as_aux_lemma => unfold Func.isWrapper; first | (rw [if_pos (by decide +kernel)]; kernel_rfl) | (rw [if_neg (by decide +kernel)]; exact ⟨rfl, rfl⟩))
    (fun os started H enc _ => lifted os started H enc)

theorem proved : Rows.FnExactEqualMonitorsSaid := over
end Go.Proofs.Ytpedafnammofiaa.fnExactEqualMonitors
