import Derived.Test.YtphpccnlhmmlfaaOwnV4
namespace Go.Own
open Go Go.Proofs
set_option linter.unusedSimpArgs false
set_option linter.unusedVariables false
set_option maxRecDepth 20000
set_option maxHeartbeats 2000000

/-! Sets of columns. -/
theorem bits64 : ((IntKind.bits .i64 : Nat) : Int) = 64 := rfl
theorem pow5 {n : Int} (h0 : 0 ≤ n) (h5 : n ≤ 5) : 1 ≤ (2 : Int) ^ n.toNat ∧ (2 : Int) ^ n.toNat ≤ 32 := by
  have : n = 0 ∨ n = 1 ∨ n = 2 ∨ n = 3 ∨ n = 4 ∨ n = 5 := by omega
  rcases this with rfl | rfl | rfl | rfl | rfl | rfl <;> decide
def all2 (n : Int) : Int := 1 * 2 ^ n.toNat - 1
def isAttr (n x : Int) : Bool := inB n 0 5 && inB x 0 (all2 n)
def hasB (x c : Int) : Bool := bitI .and .i64 (x.fdiv (2 ^ c.toNat)) 1 == 1
theorem inB_iff {x lo hi : Int} : inB x lo hi = true ↔ lo ≤ x ∧ x ≤ hi := by simp [inB]
theorem isAttr_le {n x : Int} (h : isAttr n x = true) : 0 ≤ n ∧ n ≤ 5 ∧ 0 ≤ x ∧ x ≤ 31 := by
  simp only [isAttr, Bool.and_eq_true, inB_iff, all2] at h
  have := pow5 h.1.1 h.1.2
  omega

def cAll2 : Contract := ⟨[], false, fun
  | [.one (.v (.int .i64 n))] => some (0 ≤ n ∧ n ≤ 5, [⟨false, [.d (.v (.int .i64 (all2 n)))]⟩], [])
  | _ => none⟩

theorem all2_ok : ContractOK E0 94 cAll2 := by
  refine contract_of_wpc (E := E0) (T := mkT Try.prog [] false (fun _ => false) true (fun _ => false)) (mkT_ok (E := E0) .nil) (fn := Try.f94) Try.func94 (by kernel_rfl) rfl mixedT (by kernel_rfl) rfl ?_
  intro args p rs ms hr
  unfold cAll2 at hr
  dsimp only at hr
  split at hr
  rotate_left
  · cases hr
  rename_i n
  simp only [Option.some.injEq, Prod.mk.injEq] at hr
  obtain ⟨rfl, rfl, rfl⟩ := hr
  refine ⟨rfl, rfl, Nat.le_of_ble_eq_true rfl, ?_⟩
  have hm : maxLen = 9223372036854775807 := rfl
  rintro ⟨h0, h5⟩ bs
  have hp := pow5 h0 h5
  unfold all2
  (repeat' (first
      | (refine gate_intro (by first | omega | (simp only [maxLen]; omega) | simp_all | (simp_all [maxLen]; omega)) fun _ => ?_)
      | ((refine fork_intro (fun hb => ?_) (fun hb => ?_)) <;> (try simp only [decide_eq_true_eq, decide_eq_false_iff_not, iL_length, sL_length, Int.ofNat_lt, Int.ofNat_le, Bool.not_eq_true', Bool.not_eq_false', beq_iff_eq, bne_iff_ne, beq_eq_false_iff_ne, ne_eq, bne_eq_false_iff_eq, Decidable.not_not, Bool.and_eq_true, Bool.and_eq_false_imp, cAll2, Try.results94, bits64] at hb))
      | (simp only [↓wpc_seq, ↓wpc_region, ↓TL_cons, ↓TL_nil, ↓seqK_normal, ↓seqK_exit, ↓seqK_ret, ↓blockK_normal, ↓blockK_exit, ↓blockK_ret, ↓loopK_exit, ↓loopK_ret, ↓wpc_block, ↓wpc_fork, ↓wpc_skip, ↓wpc_exit, ↓wpc_ret, ↓wpc_label, F1, pickG, gOf, opF, cls, rho, opM, opP, opR, Option.getD_some, Option.getD_none, stepT_some, gate_true, fork_true, fork_false, matAV, Value.oneCell', put_sl, put_sl0, put_ob', AV.mk, init_sl, init_ob, head_sl, head_ob, slots_nil, slots_cons, headPat, headCell, headCells, objsOf, inRs, scrub, cellFree, List.any_cons, List.any_nil, List.all_cons, List.all_nil, Nat.reduceLeDiff, decide_true, decide_false, Bool.or_false, Bool.or_true, Bool.false_or, Bool.true_or, Bool.and_false, Bool.false_and, List.map_cons, List.map_nil, List.append_nil, List.nil_append, List.cons_append, argAV, argCell, List.getD_cons_zero, List.getD_cons_succ, List.getD_nil, Nat.reduceEqDiff, updO_nil', updO_nil'', updO_cons', freshAt, AV.isAny, Ob.isNone, Bool.and_self, toD, Array.toList_map, reduceIte, Bool.false_eq_true, reduceCtorEq, true_and, and_true, Bool.and_true, Bool.true_and, Int.toNat_natCast, List.map_replicate, forall_const, Prod.mk.injEq, Nat.succ_ne_self, lift, binV, ints, LoopInv.st, scalCells, scalCell, avCells, tyM ty3, tyM ty4, tyM ty5, tyM ty9, tyM ty22, tyM ty23, tyM ty24, tyM ty26, tyM ty28, tyM ty31, tyM ty33, tyM ty35, tyM ty39, tyM ty46, tyM ty51, tyM ty56, tyM ty73, tyM ty79, mkT_wr, mkT_im, mkT_nm, mkT_ct, decide_eq_true_eq, decide_eq_false_iff_not, List.length_cons, List.length_nil, iL_length, iL_get, iL_set, Nat.zero_add, List.take_zero, List.drop_zero, Nat.add_zero, List.take_nil, List.drop_nil, List.drop_succ_cons, List.take_succ_cons, EnterI, Enter, matchAll, matchPat, matchCell, matchCells, ownCell, DEq, isRef, List.filterMap_cons, List.filterMap_nil, pcN, PostSt, RetOK, retsRV, resOf, avRV, cellsRC, cellRC, and_self, List.nodup_cons, List.nodup_nil, List.mem_nil_iff, List.not_mem_nil, not_false_eq_true, imp_self, implies_true, Option.some.injEq, beq_self_eq_true, Option.bind_some, Option.bind_none, Int.ofNat_lt, Int.ofNat_le, Int.natCast_nonneg, List.headD_cons, List.mem_cons, forall_eq, or_false, scal_v, scal_sl, iL_scal, Nat.min_self, Nat.le_refl, Nat.lt_irrefl, List.length_append, List.length_take, List.length_replicate, List.length_set, inR64, D.v.injEq, Value.int.injEq, Value.bool.injEq, succ_eq, Int.cast_ofNat_Int, Int.natCast_zero, Int.natCast_one, false_or, or_true, true_or, iL_inj, ne_eq, Nat.one_ne_zero, callF, look, argsOf, argOf, cellsD, rvN, nOwn, resAV, resParts, rcCells, scalN, partAV, rvOwns, muty, List.headD_nil, List.tail_nil, List.tail_cons, capsD, magOf, avImm, avNew, cellImm, cellNew, immCell, immCells, unI_iL, unS_sL, sL_length, sL_get, sL_inj, D.sl.injEq, bne_self_eq_false, RC.d.injEq, fieldOf, partOf, litOne, litAgg, buildCells, asNat, maxAV, Option.isSome_some, Option.isSome_none, List.getElem?_cons_zero, List.getElem?_cons_succ, List.set_cons_zero, List.set_cons_succ, matCells, allCells, tgtOf, srcOf, appF, ne_eq, not_true_eq_false, not_false_iff, Nat.reduceAdd, Nat.reduceMul, Nat.reduceSub, decide_not, List.any_nil, id_eq, Bool.not_true, Bool.not_false, Bool.not_eq_true', Bool.not_eq_false', Bool.or_self, cellInts, structEq, sideOf, strip, condOK, Op.operands, wfI_iL, wfS_sL, and_true, List.forall_mem_nil, List.getElem?_toArray, forall_eq_or_imp, cond_and, cond_or, beq_true, Bool.true_eq_false, Bool.cond_true, Bool.cond_false, cond_true, cond_false, Call.operands, List.append_toArray, List.cons_append, List.toList_toArray, Option.toList_some, Option.toList_none, Nat.reduceLT, Int.reduceLT, Int.reduceLE, Int.reduceNeg, Int.reduceToNat, Nat.reduceBEq, Nat.reduceBNe, List.range_zero, List.range_succ, Nat.zero_mul, Nat.zero_le, Nat.one_mul, List.cons.injEq, and_self_iff, initM_sl, initM_ob, argM, obsM, magCells, magObs, PostM, RetOKM, mutFin, magFin, callM, mutArg, setMut, setMag, List.map_id, mkT_bx, bxq, isBptr, capIds, List.isEmpty_nil, *, cAll2, Try.results94, bits64])))

def cIsAttr : Contract := ⟨[], false, fun
  | [.one (.v (.int .i64 n)), .one (.v (.int .i64 x))] => some (True, [⟨false, [.d (.v (.bool (isAttr n x)))]⟩], [])
  | _ => none⟩

theorem isAttrS_ok : ContractOK E0 79 cIsAttr := by
  refine contract_of_wpc (E := E0) (T := mkT Try.prog [(40, cL1In), (94, cAll2)] false (fun _ => false) true (fun _ => false)) (mkT_ok (E := E0) (.cons l1In_ok (.cons all2_ok .nil))) (fn := Try.f79) Try.func79 (by kernel_rfl) rfl mixedT (by kernel_rfl) rfl ?_
  intro args p rs ms hr
  unfold cIsAttr at hr
  dsimp only at hr
  split at hr
  rotate_left
  · cases hr
  rename_i n x
  simp only [Option.some.injEq, Prod.mk.injEq] at hr
  obtain ⟨rfl, rfl, rfl⟩ := hr
  refine ⟨rfl, rfl, Nat.le_of_ble_eq_true rfl, ?_⟩
  have hm : maxLen = 9223372036854775807 := rfl
  intro _ bs
  unfold isAttr
  (repeat' (first
      | (refine gate_intro (by first | omega | (intro h; rw [inB_iff] at h; exact h) | (simp only [maxLen]; omega) | simp_all | (simp_all [maxLen]; omega)) fun _ => ?_)
      | ((refine fork_intro (fun hb => ?_) (fun hb => ?_)) <;> (try simp only [decide_eq_true_eq, decide_eq_false_iff_not, iL_length, sL_length, Int.ofNat_lt, Int.ofNat_le, Bool.not_eq_true', Bool.not_eq_false', beq_iff_eq, bne_iff_ne, beq_eq_false_iff_ne, ne_eq, bne_eq_false_iff_eq, Decidable.not_not, Bool.and_eq_true, Bool.and_eq_false_imp, cIsAttr, cL1In, cAll2, Try.results79] at hb))
      | (simp only [↓wpc_seq, ↓wpc_region, ↓TL_cons, ↓TL_nil, ↓seqK_normal, ↓seqK_exit, ↓seqK_ret, ↓blockK_normal, ↓blockK_exit, ↓blockK_ret, ↓loopK_exit, ↓loopK_ret, ↓wpc_block, ↓wpc_fork, ↓wpc_skip, ↓wpc_exit, ↓wpc_ret, ↓wpc_label, F1, pickG, gOf, opF, cls, rho, opM, opP, opR, Option.getD_some, Option.getD_none, stepT_some, gate_true, fork_true, fork_false, matAV, Value.oneCell', put_sl, put_sl0, put_ob', AV.mk, init_sl, init_ob, head_sl, head_ob, slots_nil, slots_cons, headPat, headCell, headCells, objsOf, inRs, scrub, cellFree, List.any_cons, List.any_nil, List.all_cons, List.all_nil, Nat.reduceLeDiff, decide_true, decide_false, Bool.or_false, Bool.or_true, Bool.false_or, Bool.true_or, Bool.and_false, Bool.false_and, List.map_cons, List.map_nil, List.append_nil, List.nil_append, List.cons_append, argAV, argCell, List.getD_cons_zero, List.getD_cons_succ, List.getD_nil, Nat.reduceEqDiff, updO_nil', updO_nil'', updO_cons', freshAt, AV.isAny, Ob.isNone, Bool.and_self, toD, Array.toList_map, reduceIte, Bool.false_eq_true, reduceCtorEq, true_and, and_true, Bool.and_true, Bool.true_and, Int.toNat_natCast, List.map_replicate, forall_const, Prod.mk.injEq, Nat.succ_ne_self, lift, binV, ints, LoopInv.st, scalCells, scalCell, avCells, tyM ty3, tyM ty4, tyM ty5, tyM ty9, tyM ty22, tyM ty23, tyM ty24, tyM ty26, tyM ty28, tyM ty31, tyM ty33, tyM ty35, tyM ty39, tyM ty46, tyM ty51, tyM ty56, tyM ty73, tyM ty79, mkT_wr, mkT_im, mkT_nm, mkT_ct, decide_eq_true_eq, decide_eq_false_iff_not, List.length_cons, List.length_nil, iL_length, iL_get, iL_set, Nat.zero_add, List.take_zero, List.drop_zero, Nat.add_zero, List.take_nil, List.drop_nil, List.drop_succ_cons, List.take_succ_cons, EnterI, Enter, matchAll, matchPat, matchCell, matchCells, ownCell, DEq, isRef, List.filterMap_cons, List.filterMap_nil, pcN, PostSt, RetOK, retsRV, resOf, avRV, cellsRC, cellRC, and_self, List.nodup_cons, List.nodup_nil, List.mem_nil_iff, List.not_mem_nil, not_false_eq_true, imp_self, implies_true, Option.some.injEq, beq_self_eq_true, Option.bind_some, Option.bind_none, Int.ofNat_lt, Int.ofNat_le, Int.natCast_nonneg, List.headD_cons, List.mem_cons, forall_eq, or_false, scal_v, scal_sl, iL_scal, Nat.min_self, Nat.le_refl, Nat.lt_irrefl, List.length_append, List.length_take, List.length_replicate, List.length_set, inR64, D.v.injEq, Value.int.injEq, Value.bool.injEq, succ_eq, Int.cast_ofNat_Int, Int.natCast_zero, Int.natCast_one, false_or, or_true, true_or, iL_inj, ne_eq, Nat.one_ne_zero, callF, look, argsOf, argOf, cellsD, rvN, nOwn, resAV, resParts, rcCells, scalN, partAV, rvOwns, muty, List.headD_nil, List.tail_nil, List.tail_cons, capsD, magOf, avImm, avNew, cellImm, cellNew, immCell, immCells, unI_iL, unS_sL, sL_length, sL_get, sL_inj, D.sl.injEq, bne_self_eq_false, RC.d.injEq, fieldOf, partOf, litOne, litAgg, buildCells, asNat, maxAV, Option.isSome_some, Option.isSome_none, List.getElem?_cons_zero, List.getElem?_cons_succ, List.set_cons_zero, List.set_cons_succ, matCells, allCells, tgtOf, srcOf, appF, ne_eq, not_true_eq_false, not_false_iff, Nat.reduceAdd, Nat.reduceMul, Nat.reduceSub, decide_not, List.any_nil, id_eq, Bool.not_true, Bool.not_false, Bool.not_eq_true', Bool.not_eq_false', Bool.or_self, cellInts, structEq, sideOf, strip, condOK, Op.operands, wfI_iL, wfS_sL, and_true, List.forall_mem_nil, List.getElem?_toArray, forall_eq_or_imp, cond_and, cond_or, beq_true, Bool.true_eq_false, Bool.cond_true, Bool.cond_false, cond_true, cond_false, Call.operands, List.append_toArray, List.cons_append, List.toList_toArray, Option.toList_some, Option.toList_none, Nat.reduceLT, Int.reduceLT, Int.reduceLE, Int.reduceNeg, Int.reduceToNat, Nat.reduceBEq, Nat.reduceBNe, List.range_zero, List.range_succ, Nat.zero_mul, Nat.zero_le, Nat.one_mul, List.cons.injEq, and_self_iff, initM_sl, initM_ob, argM, obsM, magCells, magObs, PostM, RetOKM, mutFin, magFin, callM, mutArg, setMut, setMag, List.map_id, mkT_bx, bxq, isBptr, capIds, List.isEmpty_nil, *, cIsAttr, cL1In, cAll2, Try.results79])))

theorem isAttrI_ok : ContractOK E0 95 cIsAttr := by
  refine contract_of_wpc (E := E0) (T := mkT Try.prog [] false (fun _ => false) true (fun _ => false)) (mkT_ok (E := E0) .nil) (fn := Try.f95) Try.func95 (by kernel_rfl) rfl mixedT (by kernel_rfl) rfl ?_
  intro args p rs ms hr
  unfold cIsAttr at hr
  dsimp only at hr
  split at hr
  rotate_left
  · cases hr
  rename_i n x
  simp only [Option.some.injEq, Prod.mk.injEq] at hr
  obtain ⟨rfl, rfl, rfl⟩ := hr
  refine ⟨rfl, rfl, Nat.le_of_ble_eq_true rfl, ?_⟩
  have hm : maxLen = 9223372036854775807 := rfl
  intro _ bs
  unfold isAttr
  (repeat' (first
      | (refine gate_intro (by first | omega | (intro h; simp only [Bool.and_eq_true, decide_eq_true_eq] at h; have := pow5 h.1.1 h.1.2; omega) | (simp only [maxLen]; omega) | simp_all | (simp_all [maxLen]; omega)) fun _ => ?_)
      | ((refine fork_intro (fun hb => ?_) (fun hb => ?_)) <;> (try simp only [decide_eq_true_eq, decide_eq_false_iff_not, iL_length, sL_length, Int.ofNat_lt, Int.ofNat_le, Bool.not_eq_true', Bool.not_eq_false', beq_iff_eq, bne_iff_ne, beq_eq_false_iff_ne, ne_eq, bne_eq_false_iff_eq, Decidable.not_not, Bool.and_eq_true, Bool.and_eq_false_imp, cIsAttr, Try.results95, bits64] at hb))
      | (simp only [↓wpc_seq, ↓wpc_region, ↓TL_cons, ↓TL_nil, ↓seqK_normal, ↓seqK_exit, ↓seqK_ret, ↓blockK_normal, ↓blockK_exit, ↓blockK_ret, ↓loopK_exit, ↓loopK_ret, ↓wpc_block, ↓wpc_fork, ↓wpc_skip, ↓wpc_exit, ↓wpc_ret, ↓wpc_label, F1, pickG, gOf, opF, cls, rho, opM, opP, opR, Option.getD_some, Option.getD_none, stepT_some, gate_true, fork_true, fork_false, matAV, Value.oneCell', put_sl, put_sl0, put_ob', AV.mk, init_sl, init_ob, head_sl, head_ob, slots_nil, slots_cons, headPat, headCell, headCells, objsOf, inRs, scrub, cellFree, List.any_cons, List.any_nil, List.all_cons, List.all_nil, Nat.reduceLeDiff, decide_true, decide_false, Bool.or_false, Bool.or_true, Bool.false_or, Bool.true_or, Bool.and_false, Bool.false_and, List.map_cons, List.map_nil, List.append_nil, List.nil_append, List.cons_append, argAV, argCell, List.getD_cons_zero, List.getD_cons_succ, List.getD_nil, Nat.reduceEqDiff, updO_nil', updO_nil'', updO_cons', freshAt, AV.isAny, Ob.isNone, Bool.and_self, toD, Array.toList_map, reduceIte, Bool.false_eq_true, reduceCtorEq, true_and, and_true, Bool.and_true, Bool.true_and, Int.toNat_natCast, List.map_replicate, forall_const, Prod.mk.injEq, Nat.succ_ne_self, lift, binV, ints, LoopInv.st, scalCells, scalCell, avCells, tyM ty3, tyM ty4, tyM ty5, tyM ty9, tyM ty22, tyM ty23, tyM ty24, tyM ty26, tyM ty28, tyM ty31, tyM ty33, tyM ty35, tyM ty39, tyM ty46, tyM ty51, tyM ty56, tyM ty73, tyM ty79, mkT_wr, mkT_im, mkT_nm, mkT_ct, decide_eq_true_eq, decide_eq_false_iff_not, List.length_cons, List.length_nil, iL_length, iL_get, iL_set, Nat.zero_add, List.take_zero, List.drop_zero, Nat.add_zero, List.take_nil, List.drop_nil, List.drop_succ_cons, List.take_succ_cons, EnterI, Enter, matchAll, matchPat, matchCell, matchCells, ownCell, DEq, isRef, List.filterMap_cons, List.filterMap_nil, pcN, PostSt, RetOK, retsRV, resOf, avRV, cellsRC, cellRC, and_self, List.nodup_cons, List.nodup_nil, List.mem_nil_iff, List.not_mem_nil, not_false_eq_true, imp_self, implies_true, Option.some.injEq, beq_self_eq_true, Option.bind_some, Option.bind_none, Int.ofNat_lt, Int.ofNat_le, Int.natCast_nonneg, List.headD_cons, List.mem_cons, forall_eq, or_false, scal_v, scal_sl, iL_scal, Nat.min_self, Nat.le_refl, Nat.lt_irrefl, List.length_append, List.length_take, List.length_replicate, List.length_set, inR64, D.v.injEq, Value.int.injEq, Value.bool.injEq, succ_eq, Int.cast_ofNat_Int, Int.natCast_zero, Int.natCast_one, false_or, or_true, true_or, iL_inj, ne_eq, Nat.one_ne_zero, callF, look, argsOf, argOf, cellsD, rvN, nOwn, resAV, resParts, rcCells, scalN, partAV, rvOwns, muty, List.headD_nil, List.tail_nil, List.tail_cons, capsD, magOf, avImm, avNew, cellImm, cellNew, immCell, immCells, unI_iL, unS_sL, sL_length, sL_get, sL_inj, D.sl.injEq, bne_self_eq_false, RC.d.injEq, fieldOf, partOf, litOne, litAgg, buildCells, asNat, maxAV, Option.isSome_some, Option.isSome_none, List.getElem?_cons_zero, List.getElem?_cons_succ, List.set_cons_zero, List.set_cons_succ, matCells, allCells, tgtOf, srcOf, appF, ne_eq, not_true_eq_false, not_false_iff, Nat.reduceAdd, Nat.reduceMul, Nat.reduceSub, decide_not, List.any_nil, id_eq, Bool.not_true, Bool.not_false, Bool.not_eq_true', Bool.not_eq_false', Bool.or_self, cellInts, structEq, sideOf, strip, condOK, Op.operands, wfI_iL, wfS_sL, and_true, List.forall_mem_nil, List.getElem?_toArray, forall_eq_or_imp, cond_and, cond_or, beq_true, Bool.true_eq_false, Bool.cond_true, Bool.cond_false, cond_true, cond_false, Call.operands, List.append_toArray, List.cons_append, List.toList_toArray, Option.toList_some, Option.toList_none, Nat.reduceLT, Int.reduceLT, Int.reduceLE, Int.reduceNeg, Int.reduceToNat, Nat.reduceBEq, Nat.reduceBNe, List.range_zero, List.range_succ, Nat.zero_mul, Nat.zero_le, Nat.one_mul, List.cons.injEq, and_self_iff, initM_sl, initM_ob, argM, obsM, magCells, magObs, PostM, RetOKM, mutFin, magFin, callM, mutArg, setMut, setMag, List.map_id, mkT_bx, bxq, isBptr, capIds, List.isEmpty_nil, *, cIsAttr, Try.results95, bits64])))
  unfold inB all2
  rw [Bool.eq_iff_iff]
  simp only [Bool.and_eq_true, decide_eq_true_eq]
  constructor
  · rintro ⟨⟨⟨h1, h2⟩, h3⟩, h4⟩; exact ⟨⟨h1, h2⟩, h3, by omega⟩
  · rintro ⟨⟨h1, h2⟩, h3, h4⟩; exact ⟨⟨⟨h1, h2⟩, h3⟩, by omega⟩

def cValid : Contract := ⟨[], false, fun
  | [.one (.v (.int .i64 x))] => some (True, [⟨false, [.d (.v (.bool (isAttr 5 x)))]⟩], [])
  | _ => none⟩

def cHasB : Contract := ⟨[], false, fun
  | [.one (.v (.int .i64 x)), .one (.v (.int .i64 c))] => some (0 ≤ c ∧ c < 64, [⟨false, [.d (.v (.bool (hasB x c)))]⟩], [])
  | _ => none⟩

theorem hasB_ok : ContractOK E0 93 cHasB := by
  refine contract_of_wpc (E := E0) (T := mkT Try.prog [] false (fun _ => false) true (fun _ => false)) (mkT_ok (E := E0) .nil) (fn := Try.f93) Try.func93 (by kernel_rfl) rfl mixedT (by kernel_rfl) rfl ?_
  intro args p rs ms hr
  unfold cHasB at hr
  dsimp only at hr
  split at hr
  rotate_left
  · cases hr
  rename_i x c
  simp only [Option.some.injEq, Prod.mk.injEq] at hr
  obtain ⟨rfl, rfl, rfl⟩ := hr
  refine ⟨rfl, rfl, Nat.le_of_ble_eq_true rfl, ?_⟩
  have hm : maxLen = 9223372036854775807 := rfl
  rintro ⟨h0, h5⟩ bs
  unfold hasB
  (repeat' (first
      | (refine gate_intro (by first | omega | (simp only [maxLen]; omega) | simp_all | (simp_all [maxLen]; omega)) fun _ => ?_)
      | ((refine fork_intro (fun hb => ?_) (fun hb => ?_)) <;> (try simp only [decide_eq_true_eq, decide_eq_false_iff_not, iL_length, sL_length, Int.ofNat_lt, Int.ofNat_le, Bool.not_eq_true', Bool.not_eq_false', beq_iff_eq, bne_iff_ne, beq_eq_false_iff_ne, ne_eq, bne_eq_false_iff_eq, Decidable.not_not, Bool.and_eq_true, Bool.and_eq_false_imp, cHasB, Try.results93, bits64] at hb))
      | (simp only [↓wpc_seq, ↓wpc_region, ↓TL_cons, ↓TL_nil, ↓seqK_normal, ↓seqK_exit, ↓seqK_ret, ↓blockK_normal, ↓blockK_exit, ↓blockK_ret, ↓loopK_exit, ↓loopK_ret, ↓wpc_block, ↓wpc_fork, ↓wpc_skip, ↓wpc_exit, ↓wpc_ret, ↓wpc_label, F1, pickG, gOf, opF, cls, rho, opM, opP, opR, Option.getD_some, Option.getD_none, stepT_some, gate_true, fork_true, fork_false, matAV, Value.oneCell', put_sl, put_sl0, put_ob', AV.mk, init_sl, init_ob, head_sl, head_ob, slots_nil, slots_cons, headPat, headCell, headCells, objsOf, inRs, scrub, cellFree, List.any_cons, List.any_nil, List.all_cons, List.all_nil, Nat.reduceLeDiff, decide_true, decide_false, Bool.or_false, Bool.or_true, Bool.false_or, Bool.true_or, Bool.and_false, Bool.false_and, List.map_cons, List.map_nil, List.append_nil, List.nil_append, List.cons_append, argAV, argCell, List.getD_cons_zero, List.getD_cons_succ, List.getD_nil, Nat.reduceEqDiff, updO_nil', updO_nil'', updO_cons', freshAt, AV.isAny, Ob.isNone, Bool.and_self, toD, Array.toList_map, reduceIte, Bool.false_eq_true, reduceCtorEq, true_and, and_true, Bool.and_true, Bool.true_and, Int.toNat_natCast, List.map_replicate, forall_const, Prod.mk.injEq, Nat.succ_ne_self, lift, binV, ints, LoopInv.st, scalCells, scalCell, avCells, tyM ty3, tyM ty4, tyM ty5, tyM ty9, tyM ty22, tyM ty23, tyM ty24, tyM ty26, tyM ty28, tyM ty31, tyM ty33, tyM ty35, tyM ty39, tyM ty46, tyM ty51, tyM ty56, tyM ty73, tyM ty79, mkT_wr, mkT_im, mkT_nm, mkT_ct, decide_eq_true_eq, decide_eq_false_iff_not, List.length_cons, List.length_nil, iL_length, iL_get, iL_set, Nat.zero_add, List.take_zero, List.drop_zero, Nat.add_zero, List.take_nil, List.drop_nil, List.drop_succ_cons, List.take_succ_cons, EnterI, Enter, matchAll, matchPat, matchCell, matchCells, ownCell, DEq, isRef, List.filterMap_cons, List.filterMap_nil, pcN, PostSt, RetOK, retsRV, resOf, avRV, cellsRC, cellRC, and_self, List.nodup_cons, List.nodup_nil, List.mem_nil_iff, List.not_mem_nil, not_false_eq_true, imp_self, implies_true, Option.some.injEq, beq_self_eq_true, Option.bind_some, Option.bind_none, Int.ofNat_lt, Int.ofNat_le, Int.natCast_nonneg, List.headD_cons, List.mem_cons, forall_eq, or_false, scal_v, scal_sl, iL_scal, Nat.min_self, Nat.le_refl, Nat.lt_irrefl, List.length_append, List.length_take, List.length_replicate, List.length_set, inR64, D.v.injEq, Value.int.injEq, Value.bool.injEq, succ_eq, Int.cast_ofNat_Int, Int.natCast_zero, Int.natCast_one, false_or, or_true, true_or, iL_inj, ne_eq, Nat.one_ne_zero, callF, look, argsOf, argOf, cellsD, rvN, nOwn, resAV, resParts, rcCells, scalN, partAV, rvOwns, muty, List.headD_nil, List.tail_nil, List.tail_cons, capsD, magOf, avImm, avNew, cellImm, cellNew, immCell, immCells, unI_iL, unS_sL, sL_length, sL_get, sL_inj, D.sl.injEq, bne_self_eq_false, RC.d.injEq, fieldOf, partOf, litOne, litAgg, buildCells, asNat, maxAV, Option.isSome_some, Option.isSome_none, List.getElem?_cons_zero, List.getElem?_cons_succ, List.set_cons_zero, List.set_cons_succ, matCells, allCells, tgtOf, srcOf, appF, ne_eq, not_true_eq_false, not_false_iff, Nat.reduceAdd, Nat.reduceMul, Nat.reduceSub, decide_not, List.any_nil, id_eq, Bool.not_true, Bool.not_false, Bool.not_eq_true', Bool.not_eq_false', Bool.or_self, cellInts, structEq, sideOf, strip, condOK, Op.operands, wfI_iL, wfS_sL, and_true, List.forall_mem_nil, List.getElem?_toArray, forall_eq_or_imp, cond_and, cond_or, beq_true, Bool.true_eq_false, Bool.cond_true, Bool.cond_false, cond_true, cond_false, Call.operands, List.append_toArray, List.cons_append, List.toList_toArray, Option.toList_some, Option.toList_none, Nat.reduceLT, Int.reduceLT, Int.reduceLE, Int.reduceNeg, Int.reduceToNat, Nat.reduceBEq, Nat.reduceBNe, List.range_zero, List.range_succ, Nat.zero_mul, Nat.zero_le, Nat.one_mul, List.cons.injEq, and_self_iff, initM_sl, initM_ob, argM, obsM, magCells, magObs, PostM, RetOKM, mutFin, magFin, callM, mutArg, setMut, setMag, List.map_id, mkT_bx, bxq, isBptr, capIds, List.isEmpty_nil, *, cHasB, Try.results93, bits64])))
end Go.Own
