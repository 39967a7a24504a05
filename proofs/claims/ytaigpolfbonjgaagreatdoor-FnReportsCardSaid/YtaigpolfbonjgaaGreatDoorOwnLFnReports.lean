/-
  FnReports: reports are functions of what they show. Conditions: none.
-/
import Derived.Test.YtaigpolfbonjgaaGreatDoorOwnD3
import Derived.Test.YtaigpolfbonjgaaGreatDoorOwnY6
import Derived.Test.YtaigpolfbonjgaaGreatDoorCards
import Derived.Test.YtaigpolfbonjgaaGreatDoorTie
import Derived.LaidLaws
import Derived.LaidHandle
import Derived.LaidMore
import Derived.SevenTiedAt
import Derived.Handed
set_option linter.unusedVariables false
set_option linter.unusedSimpArgs false
set_option maxHeartbeats 1000000
namespace Go.Proofs.YtaigpolfbonjgaaGreatDoor.fnReports
open Go.ChangeShapes Go.WideShapes Go.ChangeAt Go.RowKit Go.Own
theorem own : ownKnob Tryz.prog.godebug = none := by kernel_rfl
theorem laidOut : laidOutB Tryz.prog = true := by kernel_rfl
theorem table (w : World) (hL : laidMetH Tryz.prog Rows.fnReportsRow.laid w) : E0.J w.heap := by
 rw [MakeChecks.laidMetH_plain _ _ _ (by kernel_rfl)] at hL
 obtain ⟨ps, ⟨g0, t0, cs0, fu0, p0, q0, _, _, _, _, ⟨g1, t1, cs1, fu1, p1, q1, _, _, _, _, ⟨g2, t2, cs2, fu2, p2, q2, hg, ht, hv, hd, _⟩, _⟩, _⟩, _⟩ := hL
 have eg : g2 = 1 := Option.some.inj (hg.symm.trans (by kernel_rfl))
 subst eg
 have et : t2 = 164 := Option.some.inj (ht.symm.trans (by kernel_rfl))
 subst et
 have hc := Lib.cells_of_tab (zs := Lib.pow10Tab) Tryz.underlying164 Tryz.underlying146 (by kernel_rfl) (by kernel_rfl) hd
 unfold World.var? at hv
 rw [hg] at hv
 have hv2 : (match w.heap[1]? with | some (Go.Obj.cells cs _ _) => some cs | _ => none) = some cs2 := hv
 split at hv2
 ·rename_i cs e fz hh
  simp only [Option.some.injEq] at hv2
  subst hv2
  refine ⟨e, fz, hh.trans ?_⟩
  have : cs = tabC := by
   apply Array.toList_inj.1
   rw [hc]
   rfl
  rw [this]
 ·cases hv2
theorem walk {H : Type} {enc : TypeId × Value → H} (w : World) (hJ : E0.J w.heap) (ad0 : Option Addr) (ln0 cp0 : Nat) {d0 : DataW H} {p0 : List MemPlace} (h0 : DataW.Trod enc Tryz.prog w 0 (fun _ => true) true 22 (.slice ad0 ln0 cp0) d0 p0) :
  Calls Tryz.prog 3 #[.slice ad0 ln0 cp0] w fun e w' => e = .returned (.bool true) ∧ Below w.heap.size w w' := by
 obtain ⟨_, F0, r0, ⟨l0, rfl, hl0, hb0⟩⟩ := argOf_trod (oB w) h0
 have ha : ArgsOK w.heap [.one (.sl 1 l0)] [.slice ad0 ln0 cp0] (F0 ++ []) ([] ++ []) := (.cons (argOK_slice r0) .nil)
 refine (lawRp_ok.2 _ _ _ _ rfl ⟨hl0, hb0⟩ w _ _ _ ha (by simp) (by simp) hJ (by obtain ⟨_, _, hj⟩ := hJ; exact (Array.getElem?_eq_some_iff.1 hj).1) (by simp)).mono ?_
 rintro e w' ⟨v, rfl, po⟩
 obtain ⟨F', os, F2, Ms', r1, _⟩ := po.res
 rw [ret_true r1]
 exact ⟨rfl, below_of_post po⟩
theorem door_met (os : Os) (args : Array Value) : laidMetH Tryz.prog Rows.fnReportsRow.laid ((World.doorLaid Tryz.prog 24 os).forCall (fun _ _ => 0) ⟨#[], args, []⟩).memory :=
 laidMetH_of_parts3 (fuel := 8) (laidMet_of_run' 8 (by kernel_rfl) (by kernel_rfl)) (by kernel_rfl) (by kernel_rfl)
set_option maxRecDepth 100000 in
theorem lifted (os : Os) (started : os.Started) (H : Type) (enc : TypeId × Value → H) :
  ReturnsInHanded {} Tryz.checked os 3 .any (fun w args => (Rows.fnReportsSpec.pre enc Tryz.prog Tryz.f3 [] false w args ∧ laidMetH Tryz.prog Rows.fnReportsRow.laid w) ∧ sizedMet enc Tryz.prog Tryz.f3 (OpenSpec.ofChange Rows.fnReportsSpec) false w args) (Rows.fnReportsSpec.post enc Tryz.prog Tryz.f3 false true false false) := by
 refine returnsInHanded_of_change_and (C := Tryz.checked) (X := fun w _ => laidMetH Tryz.prog Rows.fnReportsRow.laid w) (fun _ _ _ hh h => h.of_heap hh) own started (by kernel_rfl) Tryz.func3
  (ChangeSpec.witness_shaped (enc := enc) (C := Tryz.checked) (os := os) (X := fun w _ => laidMetH Tryz.prog Rows.fnReportsRow.laid w) false (World.doorLaid Tryz.prog 24 os) #[.slice none 0 0] 8 rfl (World.shaped_of_RefB (by kernel_rfl) (by kernel_rfl)) (by kernel_rfl) (by kernel_rfl) (by kernel_rfl) (door_met os _)) ?_
 intro W base args ds gs before hval0 hW _ _ hL _
 have hval : ∀ (j : Nat) t v, Tryz.f3.params[j]? = some t → args[j]? = some v → Value.okWide Tryz.prog W .any base t v := hval0
 have hW' := hW
 obtain ⟨p, q, hA0, hV, rfl, hfz, hnd⟩ := hW
 have hA : DataW.TrodAll enc Tryz.prog W 0 (fun _ => true) true Tryz.f3.params.toList args.toList ds p := hA0
 rw [Tryz.params3] at hA hval
 obtain ⟨v0, vs0, d0, ds0, p0, q0, hargs0, rfl, rfl, h0, r0⟩ := trodAll_cons hA
 obtain ⟨rfl, rfl, rfl⟩ := trodAll_nil r0
 obtain rfl : args = #[v0] := by cases args; simp_all
 obtain ⟨rfl, rfl⟩ := trodVars_none hV
 obtain ⟨ad0, ln0, cp0, rfl⟩ := okWide_slice Tryz.underlying22 (hval 0 22 v0 rfl rfl)
 have lt0 : ∀ x ∈ p0, x.block < W.heap.size := by obtain ⟨m, hm⟩ := h0; exact DataW.trod_lt m _ _ _ hm
 clear hA0 hval0
 refine (walk W (table W hL) ad0 ln0 cp0 h0).mono fun e W' ⟨he, bel⟩ => ?_
 subst he
 exact ⟨_, rfl, _, _, _, [], _, [], hW', trodAll_mk1 (shut_bool Tryz.underlying4 _), (trodAll_cons_mk (Below.trod laidOut (by kernel_rfl) (of_decide_eq_true (by kernel_rfl)) h0 bel lt0) trodAll_mk0), rfl, bel.frame _, fun h => by cases h⟩
theorem over : Rows.fnReportsRow.holds Tryz.pinned (OpenSpec.ofChange Rows.fnReportsSpec) :=
 OpenClaim.holds_of_wide 3 Tryz.f3 rfl rfl rfl rfl rfl rfl rfl ⟨rfl, rfl, rfl, rfl, rfl⟩ rfl rfl rfl rfl rfl (by as_aux_lemma => kernel_rfl) Tryz.func3 (by as_aux_lemma => kernel_rfl)
  (of_decide_eq_true (by as_aux_lemma => kernel_rfl)) (by as_aux_lemma => unfold Func.isWrapper; first | (rw [if_pos (by decide +kernel)]; kernel_rfl) | (rw [if_neg (by decide +kernel)]; exact ⟨rfl, rfl⟩))
  (fun os started H enc _ => lifted os started H enc)
theorem proved : Rows.FnReportsCardSaid :=
 Claim7.holds_tied_plain_at .later [] [.data, .data, .data] true (true, "75bad499460b3db1d1e4836c3a0d0444af589811ed99b9d6146e3e428907545e") false over (fun _ h => by cases h) (by kernel_rfl) (fun _ h => by cases h) fnReports_row_tie rfl ⟨rfl, rfl⟩ (by kernel_rfl) rfl
  (fun f fn hf hfn => by
   obtain rfl : f = 3 := Option.some.inj ((show Tryz.prog.funcNamed "loop.example/g01988/laws.FnReports" = some 3 by kernel_rfl).symm.trans hf) |>.symm
   obtain rfl : fn = Tryz.f3 := (Option.some.inj (Tryz.func3.symm.trans hfn)).symm
   exact ⟨by kernel_rfl, fun j t ht => by
    rw [Tryz.params3] at ht
    have hm : t ∈ [22] := by simpa using Array.mem_of_getElem? ht
    have hall : ([22].all fun u => !Tryz.prog.wantsStandIn u) = true := by kernel_rfl
    exact (show Tryz.prog.wantsStandIn t = false by simpa using List.all_eq_true.1 hall t hm)⟩)
  (by kernel_rfl)
end Go.Proofs.YtaigpolfbonjgaaGreatDoor.fnReports
