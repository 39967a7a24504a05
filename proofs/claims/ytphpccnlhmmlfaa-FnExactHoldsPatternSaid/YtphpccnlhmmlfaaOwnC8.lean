import Derived.Test.YtphpccnlhmmlfaaOwnC5
import Derived.Test.YtphpccnlhmmlfaaOwnC9
import Derived.Test.YtphpccnlhmmlfaaOwnC4
import Derived.Test.YtphpccnlhmmlfaaOwnV8
namespace Go.Own
open Go Go.Proofs
set_option linter.unusedSimpArgs false
set_option linter.unusedVariables false
set_option maxRecDepth 20000
set_option maxHeartbeats 2000000

theorem tot_leB : ∀ {rs : List (List Int)} {B : Nat}, (∀ r ∈ rs, r.length ≤ B) → tot rs ≤ rs.length * B
  | [], _, _ => by simp [tot]
  | r :: rs, B, h => by
    have h1 := h r (by simp)
    have h2 := tot_leB (rs := rs) fun r hr => h r (by simp [hr])
    simp only [tot, List.length_cons]
    have h3 : (((rs.length + 1 : Nat) : Int)) * B = (rs.length : Int) * B + B := by rw [Int.natCast_add, Int.add_mul]; simp
    rw [h3]; omega
theorem tot_big {rs : List (List Int)} (h1 : rs.length ≤ 16777216) (h2 : ∀ r ∈ rs, r.length ≤ 16777216) : 1 + tot rs ≤ 1125899906842624 := by
  have := tot_leB h2
  have h3 : (rs.length : Int) * ((16777216 : Nat) : Int) ≤ 16777216 * 16777216 := by
    have : (rs.length : Int) ≤ 16777216 := by omega
    omega
  omega
theorem markRows_leB {rs : List (List Int)} {k : Int} {B : Nat} (h : ∀ r ∈ rs, r.length ≤ B) : ∀ r ∈ markRows rs k, r.length ≤ B := by
  intro r hr
  have : r.length ∈ (markRows rs k).map List.length := List.mem_map.2 ⟨r, hr, rfl⟩
  rw [markRows_lens] at this
  obtain ⟨r', hr', e⟩ := List.mem_map.1 this
  rw [← e]; exact h r' hr'
theorem tot_markRowsB : ∀ {rs : List (List Int)} {k : Int}, tot (markRows rs k) = tot rs
  | [], _ => rfl
  | r :: rs, k => by simp [markRows, tot, marks_length, tot_markRowsB]
theorem selR_sub {c : Int} {rs : List (List Int)} {a v : Int} : (selR c rs a v).length ≤ rs.length ∧ ∀ r ∈ selR c rs a v, r ∈ rs := by
  unfold selR
  split
  · exact ⟨selL_len, fun r hr => (List.mem_filter.1 hr).1⟩
  · simp

/-! toDep, toPattern, SupportOf -/
def cToP : Contract := ⟨[], false, fun
  | [.agg [.v (.int .i64 a), .v (.int .i64 b), .v (.int .i64 p), .v (.int .i64 q)]] => some (True, [⟨true, [.d (.v (.int .i64 a)), .d (.v (.int .i64 b)), .d (.v (.int .i64 p)), .d (.v (.int .i64 q))]⟩], [])
  | _ => none⟩

theorem toP_ok : ContractOK E0 11 cToP := by
  refine contract_of_wpc (E := E0) (T := mkT Try.prog [(15, cTwo)] false (fun _ => false) true (fun _ => false)) (mkT_ok (E := E0) (.cons toDep_ok .nil)) (fn := Try.f11) Try.func11 (by kernel_rfl) rfl mixedT (by kernel_rfl) rfl ?_
  intro args p rs ms hr
  unfold cToP at hr
  dsimp only at hr
  split at hr
  rotate_left
  · cases hr
  rename_i a b p q
  simp only [Option.some.injEq, Prod.mk.injEq] at hr
  obtain ⟨rfl, rfl, rfl⟩ := hr
  refine ⟨rfl, rfl, Nat.le_of_ble_eq_true rfl, ?_⟩
  have hm : maxLen = 9223372036854775807 := rfl
  intro _ bs
  (repeat' (first
      | (refine gate_intro (by first | omega | (simp only [maxLen]; omega) | simp_all | (simp_all [maxLen]; omega)) fun _ => ?_)
      | ((refine fork_intro (fun hb => ?_) (fun hb => ?_)) <;> (try simp only [decide_eq_true_eq, decide_eq_false_iff_not, iL_length, sL_length, Int.ofNat_lt, Int.ofNat_le, Bool.not_eq_true', Bool.not_eq_false', beq_iff_eq, bne_iff_ne, beq_eq_false_iff_ne, ne_eq, bne_eq_false_iff_eq, Decidable.not_not, Bool.and_eq_true, Bool.and_eq_false_imp, cToP, cTwo, Try.results11] at hb))
      | (simp only [↓wpc_seq, ↓wpc_region, ↓TL_cons, ↓TL_nil, ↓seqK_normal, ↓seqK_exit, ↓seqK_ret, ↓blockK_normal, ↓blockK_exit, ↓blockK_ret, ↓loopK_exit, ↓loopK_ret, ↓wpc_block, ↓wpc_fork, ↓wpc_skip, ↓wpc_exit, ↓wpc_ret, ↓wpc_label, F1, pickG, gOf, opF, cls, rho, opM, opP, opR, Option.getD_some, Option.getD_none, stepT_some, gate_true, fork_true, fork_false, matAV, Value.oneCell', put_sl, put_sl0, put_ob', AV.mk, init_sl, init_ob, head_sl, head_ob, slots_nil, slots_cons, headPat, headCell, headCells, objsOf, inRs, scrub, cellFree, List.any_cons, List.any_nil, List.all_cons, List.all_nil, Nat.reduceLeDiff, decide_true, decide_false, Bool.or_false, Bool.or_true, Bool.false_or, Bool.true_or, Bool.and_false, Bool.false_and, List.map_cons, List.map_nil, List.append_nil, List.nil_append, List.cons_append, argAV, argCell, List.getD_cons_zero, List.getD_cons_succ, List.getD_nil, Nat.reduceEqDiff, updO_nil', updO_nil'', updO_cons', freshAt, AV.isAny, Ob.isNone, Bool.and_self, toD, Array.toList_map, reduceIte, Bool.false_eq_true, reduceCtorEq, true_and, and_true, Bool.and_true, Bool.true_and, Int.toNat_natCast, List.map_replicate, forall_const, Prod.mk.injEq, Nat.succ_ne_self, lift, binV, ints, LoopInv.st, scalCells, scalCell, avCells, tyM ty3, tyM ty4, tyM ty5, tyM ty9, tyM ty22, tyM ty23, tyM ty24, tyM ty26, tyM ty28, tyM ty31, tyM ty33, tyM ty35, tyM ty39, tyM ty46, tyM ty51, tyM ty56, tyM ty73, tyM ty79, mkT_wr, mkT_im, mkT_nm, mkT_ct, decide_eq_true_eq, decide_eq_false_iff_not, List.length_cons, List.length_nil, iL_length, iL_get, iL_set, Nat.zero_add, List.take_zero, List.drop_zero, Nat.add_zero, List.take_nil, List.drop_nil, List.drop_succ_cons, List.take_succ_cons, EnterI, Enter, matchAll, matchPat, matchCell, matchCells, ownCell, DEq, isRef, List.filterMap_cons, List.filterMap_nil, pcN, PostSt, RetOK, retsRV, resOf, avRV, cellsRC, cellRC, and_self, List.nodup_cons, List.nodup_nil, List.mem_nil_iff, List.not_mem_nil, not_false_eq_true, imp_self, implies_true, Option.some.injEq, beq_self_eq_true, Option.bind_some, Option.bind_none, Int.ofNat_lt, Int.ofNat_le, Int.natCast_nonneg, List.headD_cons, List.mem_cons, forall_eq, or_false, scal_v, scal_sl, iL_scal, Nat.min_self, Nat.le_refl, Nat.lt_irrefl, List.length_append, List.length_take, List.length_replicate, List.length_set, inR64, D.v.injEq, Value.int.injEq, Value.bool.injEq, succ_eq, Int.cast_ofNat_Int, Int.natCast_zero, Int.natCast_one, false_or, or_true, true_or, iL_inj, ne_eq, Nat.one_ne_zero, callF, look, argsOf, argOf, cellsD, rvN, nOwn, resAV, resParts, rcCells, scalN, partAV, rvOwns, muty, List.headD_nil, List.tail_nil, List.tail_cons, capsD, magOf, avImm, avNew, cellImm, cellNew, immCell, immCells, unI_iL, unS_sL, sL_length, sL_get, sL_inj, D.sl.injEq, bne_self_eq_false, RC.d.injEq, fieldOf, partOf, litOne, litAgg, buildCells, asNat, maxAV, Option.isSome_some, Option.isSome_none, List.getElem?_cons_zero, List.getElem?_cons_succ, List.set_cons_zero, List.set_cons_succ, matCells, allCells, tgtOf, srcOf, appF, ne_eq, not_true_eq_false, not_false_iff, Nat.reduceAdd, Nat.reduceMul, Nat.reduceSub, decide_not, List.any_nil, id_eq, Bool.not_true, Bool.not_false, Bool.not_eq_true', Bool.not_eq_false', Bool.or_self, cellInts, structEq, sideOf, strip, condOK, Op.operands, wfI_iL, wfS_sL, and_true, List.forall_mem_nil, List.getElem?_toArray, forall_eq_or_imp, cond_and, cond_or, beq_true, Bool.true_eq_false, Bool.cond_true, Bool.cond_false, cond_true, cond_false, Call.operands, List.append_toArray, List.cons_append, List.toList_toArray, Option.toList_some, Option.toList_none, Nat.reduceLT, Int.reduceLT, Int.reduceLE, Int.reduceNeg, Int.reduceToNat, Nat.reduceBEq, Nat.reduceBNe, List.range_zero, List.range_succ, Nat.zero_mul, Nat.zero_le, Nat.one_mul, List.cons.injEq, and_self_iff, initM_sl, initM_ob, argM, obsM, magCells, magObs, PostM, RetOKM, mutFin, magFin, callM, mutArg, setMut, setMag, List.map_id, mkT_bx, bxq, isBptr, capIds, List.isEmpty_nil, *, cToP, cTwo, Try.results11])))

def cSup : Contract := ⟨[], false, fun
  | [.agg [.v (.int .i64 c), .sl 1 l], .agg [.v (.int .i64 a), .v (.int .i64 v), .v (.int .i64 p), .v (.int .i64 q)]] => some (WfS l ∧ -9223372036854775808 ≤ c ∧ c ≤ 9223372036854775807,
      [⟨false, [.d (.v (.int .i64 (selR c (unS l) a v).length))]⟩], [])
  | _ => none⟩

theorem supS_ok : ContractOK E0 49 cSup := by
  refine contract_of_wpc (E := E0) (T := mkT Try.prog [(42, cSel)] false (fun _ => false) true (fun _ => false)) (mkT_ok (E := E0) (.cons selS_ok .nil)) (fn := Try.f49) Try.func49 (by kernel_rfl) rfl mixedT (by kernel_rfl) rfl ?_
  intro args p rs ms hr
  unfold cSup at hr
  dsimp only at hr
  split at hr
  rotate_left
  · cases hr
  rename_i c l a v p q
  simp only [Option.some.injEq, Prod.mk.injEq] at hr
  obtain ⟨rfl, rfl, rfl⟩ := hr
  refine ⟨rfl, rfl, Nat.le_of_ble_eq_true rfl, ?_⟩
  have hm : maxLen = 9223372036854775807 := rfl
  rintro ⟨h1, hc1, hc2⟩ bs
  obtain ⟨rs, rfl, hx, hy⟩ := h1.ex
  clear h1
  rw [unS_sL]
  (repeat' (first
      | (refine gate_intro (by first | omega | (simp only [maxLen]; omega) | simp_all | (simp_all [maxLen]; omega)) fun _ => ?_)
      | ((refine fork_intro (fun hb => ?_) (fun hb => ?_)) <;> (try simp only [decide_eq_true_eq, decide_eq_false_iff_not, iL_length, sL_length, Int.ofNat_lt, Int.ofNat_le, Bool.not_eq_true', Bool.not_eq_false', beq_iff_eq, bne_iff_ne, beq_eq_false_iff_ne, ne_eq, bne_eq_false_iff_eq, Decidable.not_not, Bool.and_eq_true, Bool.and_eq_false_imp, cSup, cSel, Try.results49] at hb))
      | (simp only [↓wpc_seq, ↓wpc_region, ↓TL_cons, ↓TL_nil, ↓seqK_normal, ↓seqK_exit, ↓seqK_ret, ↓blockK_normal, ↓blockK_exit, ↓blockK_ret, ↓loopK_exit, ↓loopK_ret, ↓wpc_block, ↓wpc_fork, ↓wpc_skip, ↓wpc_exit, ↓wpc_ret, ↓wpc_label, F1, pickG, gOf, opF, cls, rho, opM, opP, opR, Option.getD_some, Option.getD_none, stepT_some, gate_true, fork_true, fork_false, matAV, Value.oneCell', put_sl, put_sl0, put_ob', AV.mk, init_sl, init_ob, head_sl, head_ob, slots_nil, slots_cons, headPat, headCell, headCells, objsOf, inRs, scrub, cellFree, List.any_cons, List.any_nil, List.all_cons, List.all_nil, Nat.reduceLeDiff, decide_true, decide_false, Bool.or_false, Bool.or_true, Bool.false_or, Bool.true_or, Bool.and_false, Bool.false_and, List.map_cons, List.map_nil, List.append_nil, List.nil_append, List.cons_append, argAV, argCell, List.getD_cons_zero, List.getD_cons_succ, List.getD_nil, Nat.reduceEqDiff, updO_nil', updO_nil'', updO_cons', freshAt, AV.isAny, Ob.isNone, Bool.and_self, toD, Array.toList_map, reduceIte, Bool.false_eq_true, reduceCtorEq, true_and, and_true, Bool.and_true, Bool.true_and, Int.toNat_natCast, List.map_replicate, forall_const, Prod.mk.injEq, Nat.succ_ne_self, lift, binV, ints, LoopInv.st, scalCells, scalCell, avCells, tyM ty3, tyM ty4, tyM ty5, tyM ty9, tyM ty22, tyM ty23, tyM ty24, tyM ty26, tyM ty28, tyM ty31, tyM ty33, tyM ty35, tyM ty39, tyM ty46, tyM ty51, tyM ty56, tyM ty73, tyM ty79, mkT_wr, mkT_im, mkT_nm, mkT_ct, decide_eq_true_eq, decide_eq_false_iff_not, List.length_cons, List.length_nil, iL_length, iL_get, iL_set, Nat.zero_add, List.take_zero, List.drop_zero, Nat.add_zero, List.take_nil, List.drop_nil, List.drop_succ_cons, List.take_succ_cons, EnterI, Enter, matchAll, matchPat, matchCell, matchCells, ownCell, DEq, isRef, List.filterMap_cons, List.filterMap_nil, pcN, PostSt, RetOK, retsRV, resOf, avRV, cellsRC, cellRC, and_self, List.nodup_cons, List.nodup_nil, List.mem_nil_iff, List.not_mem_nil, not_false_eq_true, imp_self, implies_true, Option.some.injEq, beq_self_eq_true, Option.bind_some, Option.bind_none, Int.ofNat_lt, Int.ofNat_le, Int.natCast_nonneg, List.headD_cons, List.mem_cons, forall_eq, or_false, scal_v, scal_sl, iL_scal, Nat.min_self, Nat.le_refl, Nat.lt_irrefl, List.length_append, List.length_take, List.length_replicate, List.length_set, inR64, D.v.injEq, Value.int.injEq, Value.bool.injEq, succ_eq, Int.cast_ofNat_Int, Int.natCast_zero, Int.natCast_one, false_or, or_true, true_or, iL_inj, ne_eq, Nat.one_ne_zero, callF, look, argsOf, argOf, cellsD, rvN, nOwn, resAV, resParts, rcCells, scalN, partAV, rvOwns, muty, List.headD_nil, List.tail_nil, List.tail_cons, capsD, magOf, avImm, avNew, cellImm, cellNew, immCell, immCells, unI_iL, unS_sL, sL_length, sL_get, sL_inj, D.sl.injEq, bne_self_eq_false, RC.d.injEq, fieldOf, partOf, litOne, litAgg, buildCells, asNat, maxAV, Option.isSome_some, Option.isSome_none, List.getElem?_cons_zero, List.getElem?_cons_succ, List.set_cons_zero, List.set_cons_succ, matCells, allCells, tgtOf, srcOf, appF, ne_eq, not_true_eq_false, not_false_iff, Nat.reduceAdd, Nat.reduceMul, Nat.reduceSub, decide_not, List.any_nil, id_eq, Bool.not_true, Bool.not_false, Bool.not_eq_true', Bool.not_eq_false', Bool.or_self, cellInts, structEq, sideOf, strip, condOK, Op.operands, wfI_iL, wfS_sL, and_true, List.forall_mem_nil, List.getElem?_toArray, forall_eq_or_imp, cond_and, cond_or, beq_true, Bool.true_eq_false, Bool.cond_true, Bool.cond_false, cond_true, cond_false, Call.operands, List.append_toArray, List.cons_append, List.toList_toArray, Option.toList_some, Option.toList_none, Nat.reduceLT, Int.reduceLT, Int.reduceLE, Int.reduceNeg, Int.reduceToNat, Nat.reduceBEq, Nat.reduceBNe, List.range_zero, List.range_succ, Nat.zero_mul, Nat.zero_le, Nat.one_mul, List.cons.injEq, and_self_iff, initM_sl, initM_ob, argM, obsM, magCells, magObs, PostM, RetOKM, mutFin, magFin, callM, mutArg, setMut, setMag, List.map_id, mkT_bx, bxq, isBptr, capIds, List.isEmpty_nil, *, cSup, cSel, Try.results49])))

theorem supI_ok : ContractOK E0 51 cSup := by
  refine contract_of_wpc (E := E0) (T := mkT Try.prog [(46, cSel)] false (fun _ => false) true (fun _ => false)) (mkT_ok (E := E0) (.cons selI_ok .nil)) (fn := Try.f51) Try.func51 (by kernel_rfl) rfl mixedT (by kernel_rfl) rfl ?_
  intro args p rs ms hr
  unfold cSup at hr
  dsimp only at hr
  split at hr
  rotate_left
  · cases hr
  rename_i c l a v p q
  simp only [Option.some.injEq, Prod.mk.injEq] at hr
  obtain ⟨rfl, rfl, rfl⟩ := hr
  refine ⟨rfl, rfl, Nat.le_of_ble_eq_true rfl, ?_⟩
  have hm : maxLen = 9223372036854775807 := rfl
  rintro ⟨h1, hc1, hc2⟩ bs
  obtain ⟨rs, rfl, hx, hy⟩ := h1.ex
  clear h1
  rw [unS_sL]
  (repeat' (first
      | (refine gate_intro (by first | omega | (simp only [maxLen]; omega) | simp_all | (simp_all [maxLen]; omega)) fun _ => ?_)
      | ((refine fork_intro (fun hb => ?_) (fun hb => ?_)) <;> (try simp only [decide_eq_true_eq, decide_eq_false_iff_not, iL_length, sL_length, Int.ofNat_lt, Int.ofNat_le, Bool.not_eq_true', Bool.not_eq_false', beq_iff_eq, bne_iff_ne, beq_eq_false_iff_ne, ne_eq, bne_eq_false_iff_eq, Decidable.not_not, Bool.and_eq_true, Bool.and_eq_false_imp, cSup, cSel, Try.results51] at hb))
      | (simp only [↓wpc_seq, ↓wpc_region, ↓TL_cons, ↓TL_nil, ↓seqK_normal, ↓seqK_exit, ↓seqK_ret, ↓blockK_normal, ↓blockK_exit, ↓blockK_ret, ↓loopK_exit, ↓loopK_ret, ↓wpc_block, ↓wpc_fork, ↓wpc_skip, ↓wpc_exit, ↓wpc_ret, ↓wpc_label, F1, pickG, gOf, opF, cls, rho, opM, opP, opR, Option.getD_some, Option.getD_none, stepT_some, gate_true, fork_true, fork_false, matAV, Value.oneCell', put_sl, put_sl0, put_ob', AV.mk, init_sl, init_ob, head_sl, head_ob, slots_nil, slots_cons, headPat, headCell, headCells, objsOf, inRs, scrub, cellFree, List.any_cons, List.any_nil, List.all_cons, List.all_nil, Nat.reduceLeDiff, decide_true, decide_false, Bool.or_false, Bool.or_true, Bool.false_or, Bool.true_or, Bool.and_false, Bool.false_and, List.map_cons, List.map_nil, List.append_nil, List.nil_append, List.cons_append, argAV, argCell, List.getD_cons_zero, List.getD_cons_succ, List.getD_nil, Nat.reduceEqDiff, updO_nil', updO_nil'', updO_cons', freshAt, AV.isAny, Ob.isNone, Bool.and_self, toD, Array.toList_map, reduceIte, Bool.false_eq_true, reduceCtorEq, true_and, and_true, Bool.and_true, Bool.true_and, Int.toNat_natCast, List.map_replicate, forall_const, Prod.mk.injEq, Nat.succ_ne_self, lift, binV, ints, LoopInv.st, scalCells, scalCell, avCells, tyM ty3, tyM ty4, tyM ty5, tyM ty9, tyM ty22, tyM ty23, tyM ty24, tyM ty26, tyM ty28, tyM ty31, tyM ty33, tyM ty35, tyM ty39, tyM ty46, tyM ty51, tyM ty56, tyM ty73, tyM ty79, mkT_wr, mkT_im, mkT_nm, mkT_ct, decide_eq_true_eq, decide_eq_false_iff_not, List.length_cons, List.length_nil, iL_length, iL_get, iL_set, Nat.zero_add, List.take_zero, List.drop_zero, Nat.add_zero, List.take_nil, List.drop_nil, List.drop_succ_cons, List.take_succ_cons, EnterI, Enter, matchAll, matchPat, matchCell, matchCells, ownCell, DEq, isRef, List.filterMap_cons, List.filterMap_nil, pcN, PostSt, RetOK, retsRV, resOf, avRV, cellsRC, cellRC, and_self, List.nodup_cons, List.nodup_nil, List.mem_nil_iff, List.not_mem_nil, not_false_eq_true, imp_self, implies_true, Option.some.injEq, beq_self_eq_true, Option.bind_some, Option.bind_none, Int.ofNat_lt, Int.ofNat_le, Int.natCast_nonneg, List.headD_cons, List.mem_cons, forall_eq, or_false, scal_v, scal_sl, iL_scal, Nat.min_self, Nat.le_refl, Nat.lt_irrefl, List.length_append, List.length_take, List.length_replicate, List.length_set, inR64, D.v.injEq, Value.int.injEq, Value.bool.injEq, succ_eq, Int.cast_ofNat_Int, Int.natCast_zero, Int.natCast_one, false_or, or_true, true_or, iL_inj, ne_eq, Nat.one_ne_zero, callF, look, argsOf, argOf, cellsD, rvN, nOwn, resAV, resParts, rcCells, scalN, partAV, rvOwns, muty, List.headD_nil, List.tail_nil, List.tail_cons, capsD, magOf, avImm, avNew, cellImm, cellNew, immCell, immCells, unI_iL, unS_sL, sL_length, sL_get, sL_inj, D.sl.injEq, bne_self_eq_false, RC.d.injEq, fieldOf, partOf, litOne, litAgg, buildCells, asNat, maxAV, Option.isSome_some, Option.isSome_none, List.getElem?_cons_zero, List.getElem?_cons_succ, List.set_cons_zero, List.set_cons_succ, matCells, allCells, tgtOf, srcOf, appF, ne_eq, not_true_eq_false, not_false_iff, Nat.reduceAdd, Nat.reduceMul, Nat.reduceSub, decide_not, List.any_nil, id_eq, Bool.not_true, Bool.not_false, Bool.not_eq_true', Bool.not_eq_false', Bool.or_self, cellInts, structEq, sideOf, strip, condOK, Op.operands, wfI_iL, wfS_sL, and_true, List.forall_mem_nil, List.getElem?_toArray, forall_eq_or_imp, cond_and, cond_or, beq_true, Bool.true_eq_false, Bool.cond_true, Bool.cond_false, cond_true, cond_false, Call.operands, List.append_toArray, List.cons_append, List.toList_toArray, Option.toList_some, Option.toList_none, Nat.reduceLT, Int.reduceLT, Int.reduceLE, Int.reduceNeg, Int.reduceToNat, Nat.reduceBEq, Nat.reduceBNe, List.range_zero, List.range_succ, Nat.zero_mul, Nat.zero_le, Nat.one_mul, List.cons.injEq, and_self_iff, initM_sl, initM_ob, argM, obsM, magCells, magObs, PostM, RetOKM, mutFin, magFin, callM, mutArg, setMut, setMag, List.map_id, mkT_bx, bxq, isBptr, capIds, List.isEmpty_nil, *, cSup, cSel, Try.results51])))

def cLawTP : Contract := ⟨[], false, fun
  | [.agg [.v (.int .i64 c), .sl 1 l], .agg [.v (.int .i64 a), .v (.int .i64 v), .v (.int .i64 p), .v (.int .i64 q)]] => some (WfS l ∧ -9223372036854775808 ≤ c ∧ c ≤ 9223372036854775807, [⟨false, [.d (.v (.bool true))]⟩], [])
  | _ => none⟩

end Go.Own
