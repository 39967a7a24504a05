/-
  Searches, opened as data. Conditions: none.
-/
import Derived.Test.YthejclmonnpncaaGreatDoorOwnY6
namespace Go.Own
open Go Go.Proofs Go.WideShapes
set_option linter.unusedVariables false

theorem opens_five {P : Program} {w : World} {t : TypeId} {f0 f1 f2 f3 f4 : Field} {S0 S1 S2 S3 S4 : List D → Prop} (ht : P.underlying t = some (.struct #[f0, f1, f2, f3, f4])) (h0 : f0.offset = 0) (h1 : f1.offset = P.cellsOf f0.type) (h2 : f2.offset = P.cellsOf f0.type + P.cellsOf f1.type)
    (h3 : f3.offset = P.cellsOf f0.type + P.cellsOf f1.type + P.cellsOf f2.type) (h4 : f4.offset = P.cellsOf f0.type + P.cellsOf f1.type + P.cellsOf f2.type + P.cellsOf f3.type) (hc : P.cellsOf t = P.cellsOf f0.type + P.cellsOf f1.type + P.cellsOf f2.type + P.cellsOf f3.type + P.cellsOf f4.type)
    (o0 : Opens P w f0.type S0) (o1 : Opens P w f1.type S1) (o2 : Opens P w f2.type S2) (o3 : Opens P w f3.type S3) (o4 : Opens P w f4.type S4) : Opens P w t fun ds => ∃ a b c d e, ds = a ++ (b ++ (c ++ (d ++ e))) ∧ S0 a ∧ S1 b ∧ S2 c ∧ S3 d ∧ S4 e := by
  intro H enc fuel cs x h
  obtain ⟨xs, m, _, _, hl, hx, hf⟩ := DataW.trod_struct ht h
  have hx2 : xs.length = 5 := hx
  have e0 := hf 0 f0 rfl
  have e1 := hf 1 f1 rfl
  have e2 := hf 2 f2 rfl
  have e3 := hf 3 f3 rfl
  have e4 := hf 4 f4 rfl
  rw [List.getElem?_eq_getElem (by omega)] at e0 e1 e2 e3 e4
  obtain ⟨a, F0, r0, s0⟩ := o0 H enc m _ _ e0
  obtain ⟨b, F1, r1, s1⟩ := o1 H enc m _ _ e1
  obtain ⟨c, F2, r2, s2⟩ := o2 H enc m _ _ e2
  obtain ⟨d, F3, r3, s3⟩ := o3 H enc m _ _ e3
  obtain ⟨e, F4, r4, s4⟩ := o4 H enc m _ _ e4
  refine ⟨a ++ (b ++ (c ++ (d ++ e))), F0 ++ (F1 ++ (F2 ++ (F3 ++ F4))), ?_, a, b, c, d, e, rfl, s0, s1, s2, s3, s4⟩
  have := r0.append (r1.append (r2.append (r3.append r4)))
  rw [h0, h1, h2, h3, h4, List.drop_zero] at this
  have k1 : (cs.drop (P.cellsOf f0.type + P.cellsOf f1.type + P.cellsOf f2.type + P.cellsOf f3.type)).take (P.cellsOf f4.type) = cs.drop (P.cellsOf f0.type + P.cellsOf f1.type + P.cellsOf f2.type + P.cellsOf f3.type) := List.take_of_length_le (by rw [List.length_drop]; omega)
  have k4 : (cs.drop (P.cellsOf f0.type + P.cellsOf f1.type + P.cellsOf f2.type)).take (P.cellsOf f3.type) ++ cs.drop (P.cellsOf f0.type + P.cellsOf f1.type + P.cellsOf f2.type + P.cellsOf f3.type) = cs.drop (P.cellsOf f0.type + P.cellsOf f1.type + P.cellsOf f2.type) := by
    rw [show cs.drop (P.cellsOf f0.type + P.cellsOf f1.type + P.cellsOf f2.type + P.cellsOf f3.type) = (cs.drop (P.cellsOf f0.type + P.cellsOf f1.type + P.cellsOf f2.type)).drop (P.cellsOf f3.type) from (List.drop_drop ..).symm, List.take_append_drop]
  have k3 : (cs.drop (P.cellsOf f0.type + P.cellsOf f1.type)).take (P.cellsOf f2.type) ++ cs.drop (P.cellsOf f0.type + P.cellsOf f1.type + P.cellsOf f2.type) = cs.drop (P.cellsOf f0.type + P.cellsOf f1.type) := by
    rw [show cs.drop (P.cellsOf f0.type + P.cellsOf f1.type + P.cellsOf f2.type) = (cs.drop (P.cellsOf f0.type + P.cellsOf f1.type)).drop (P.cellsOf f2.type) from (List.drop_drop ..).symm, List.take_append_drop]
  have k2 : (cs.drop (P.cellsOf f0.type)).take (P.cellsOf f1.type) ++ cs.drop (P.cellsOf f0.type + P.cellsOf f1.type) = cs.drop (P.cellsOf f0.type) := by
    rw [show cs.drop (P.cellsOf f0.type + P.cellsOf f1.type) = (cs.drop (P.cellsOf f0.type)).drop (P.cellsOf f1.type) from (List.drop_drop ..).symm, List.take_append_drop]
  rw [k1, k4, k3, k2, List.take_append_drop] at this
  exact this

def ShR (ds : List D) : Prop := ∃ (c : Int) (l : List (List D)) (m a : Int) (q : List (List D)) (t : Int), ds = [.v (.int .i64 c), .sl 1 l, .v (.int .i64 m), .v (.int .i64 a), .sl 2 q, .v (.int .i64 t)] ∧ WfS l ∧ WfD q ∧ (-9223372036854775808 ≤ c ∧ c ≤ 9223372036854775807) ∧ (-9223372036854775808 ≤ a ∧ a ≤ 9223372036854775807) ∧ -9223372036854775808 ≤ t ∧ t ≤ 9223372036854775807
theorem oR (w : World) : Opens Tryz.prog w 27 ShR := (opens_five Tryz.underlying27 rfl (by kernel_rfl) (by kernel_rfl) (by kernel_rfl) (by kernel_rfl) (by kernel_rfl) (oT w) (oI w) (oI w) (oDS w) (oI w)).mono fun _ h => by
  obtain ⟨x0, x1, x2, x3, x4, rfl, ⟨n, l, rfl, h1, h5, h6⟩, ⟨m, rfl, _⟩, ⟨a, rfl, ha⟩, ⟨q, rfl, h3⟩, ⟨t, rfl, ht⟩⟩ := h
  exact ⟨n, l, m, a, q, t, rfl, h1, h3, ⟨h5, h6⟩, ha, ht⟩
end Go.Own
