/-
  Own calculus: the rules by which an abstract state is reckoned, gathered under one word. Conditions: none.
-/
import Derived.Test.YtmfieiphcjenlaaOwnU
namespace Go.Own
open Go
set_option linter.unusedVariables false
set_option linter.unusedSimpArgs false
theorem tyM {P : Program} {l : List (FuncId × Contract)} {wr : Bool} {im : Nat → Bool} {nm : Bool} {bx : Nat → Bool} {t : TypeId} {r : Option TyI} (h : tyOf P t = r) : (mkT P l wr im nm bx).ty t = r := h
theorem all_nil {α : Type} {p : α → Prop} : (∀ x, x ∈ ([] : List α) → p x) ↔ True := ⟨fun _ => trivial, fun _ x hx => nomatch hx⟩
attribute [go_sem ↓] wpc_seq wpc_region TL_cons TL_nil seqK_normal seqK_exit seqK_ret blockK_normal blockK_exit blockK_ret loopK_exit loopK_ret
  wpc_block wpc_fork wpc_skip wpc_exit wpc_ret wpc_label
attribute [go_sem] F1 pickG gOf opF cls rho opM opP opR Option.getD_some Option.getD_none stepT_some
  gate_true fork_true fork_false matAV Value.oneCell' put_sl put_sl0 put_ob' AV.mk init_sl init_ob head_sl ali_nil ali_cons aliOK
  head_ob slots_nil slots_cons headPat headCell headCells objsOf inRs scrub cellFree List.any_cons List.any_nil
  List.all_cons List.all_nil decide_true decide_false Bool.or_false Bool.or_true Bool.false_or Bool.true_or Bool.and_false Bool.false_and List.map_cons List.map_nil
  List.append_nil List.nil_append List.cons_append argAV argCell List.getD_cons_zero List.getD_cons_succ List.getD_nil updO_nil' updO_nil'' updO_cons' freshAt
  AV.isAny Ob.isNone Bool.and_self toD Array.toList_map Bool.false_eq_true true_and and_true Bool.and_true Bool.true_and Int.toNat_natCast List.map_replicate
  forall_const Prod.mk.injEq Nat.succ_ne_self lift binV ints LoopInv.st scalCells scalCell avCells mkT_wr mkT_im
  mkT_nm mkT_ct decide_eq_true_eq decide_eq_false_iff_not List.length_cons List.length_nil iL_length iL_get iL_set Nat.zero_add List.take_zero List.drop_zero
  Nat.add_zero List.take_nil List.drop_nil List.drop_succ_cons List.take_succ_cons EnterI Enter matchAll matchPat matchCell matchCells ownCell
  DEq isRef List.filterMap_cons List.filterMap_nil pcN PostSt RetOK retsRV resOf avRV cellsRC cellRC
  and_self List.nodup_cons List.nodup_nil List.mem_nil_iff List.not_mem_nil not_false_eq_true imp_self implies_true Option.some.injEq beq_self_eq_true Option.bind_some Option.bind_none
  Int.ofNat_lt Int.ofNat_le Int.natCast_nonneg List.headD_cons List.mem_cons forall_eq or_false scal_v scal_sl iL_scal Nat.min_self Nat.le_refl
  Nat.lt_irrefl List.length_append List.length_take List.length_replicate List.length_set inR64 D.v.injEq Value.int.injEq Value.bool.injEq succ_eq Int.cast_ofNat_Int Int.natCast_zero
  Int.natCast_one false_or or_true true_or iL_inj ne_eq Nat.one_ne_zero callF look argsOf argOf cellsD
  rvN nOwn resAV resParts rcCells scalN partAV rvOwns muty List.headD_nil List.tail_nil List.tail_cons
  capsD magOf avImm avNew cellImm cellNew immCell immCells unI_iL unS_sL sL_length sL_get
  sL_inj D.sl.injEq bne_self_eq_false RC.d.injEq fieldOf partOf litOne litAgg buildCells asNat maxAV Option.isSome_some
  Option.isSome_none List.getElem?_cons_zero List.getElem?_cons_succ List.set_cons_zero List.set_cons_succ matCells allCells tgtOf srcOf appF not_true_eq_false not_false_iff
  decide_not id_eq Bool.not_true Bool.not_false Bool.not_eq_true' Bool.not_eq_false' Bool.or_self cellInts structEq sideOf strip condOK
  Op.operands wfI_iL wfS_sL all_nil List.getElem?_toArray forall_eq_or_imp cond_and cond_or beq_true Bool.true_eq_false Bool.cond_true Bool.cond_false
  cond_true cond_false Call.operands List.append_toArray List.toList_toArray Option.toList_some Option.toList_none List.range_zero List.range_succ Nat.zero_mul Nat.zero_le Nat.one_mul
  List.cons.injEq and_self_iff initM_sl initM_ob argM obsM magCells magObs PostM RetOKM mutFin magFin
  callM mutArg setMut setMag List.map_id mkT_bx bxq isBptr isSc litBytes capIds List.isEmpty_nil
end Go.Own
