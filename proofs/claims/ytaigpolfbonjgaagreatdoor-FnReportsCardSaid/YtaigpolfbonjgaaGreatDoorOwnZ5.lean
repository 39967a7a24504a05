/-
  Own calculus: the rules by which an abstract state is reckoned, gathered under one word. Conditions: none.
-/
import Derived.Test.YtaigpolfbonjgaaGreatDoorOwnZ4
import Derived.Test.YtaigpolfbonjgaaGreatDoorProg
import Derived.Lib.LaidTab
import Derived.Shelf.Strconv.Itoa3
set_option linter.unusedVariables false
set_option linter.unusedSimpArgs false
set_option maxRecDepth 20000
set_option maxHeartbeats 2000000
namespace Go.Own
open Go
theorem tyM {P : Program} {l : List (FuncId × Contract)} {wr : Bool} {im : Nat → Bool} {nm : Bool} {bx : Nat → Bool} {t : TypeId} {r : Option TyI} (h : tyOf P t = r) : (mkT P l wr im nm bx).ty t = r := h
theorem all_nil {α : Type} {p : α → Prop} : (∀ x, x ∈ ([] : List α) → p x) ↔ True := ⟨fun _ => trivial, fun _ x hx => nomatch hx⟩
theorem gA {T : Tabs} {s : St} {p : Prop} {v : AV} {us : List (Id × Ob)} {ops : Array Oper} {K : St → Prop} {d : Option Nat} {r : List Oper} (k : p → TL T ops K r (s.put d v us))
  (h : p := by first | omega | ((repeat' (first | apply And.intro | assumption | omega | intro _)); done) | (simp only [maxLen]; omega) | simp_all | (simp_all [maxLen]; omega)) : Gate p T ops K d r s v us := gate_intro h k
theorem ew : (∀ (p : Prop) [Decidable p], (decide p = true) = p) ∧ (∀ (p : Prop) [Decidable p], (decide p = false) ↔ ¬ p) ∧ (∀ xs : List Int, (iL xs).length = xs.length) ∧ (∀ rs : List (List Int), (sL rs).length = rs.length) ∧
  (∀ n m : Nat, (n : Int) < (m : Int) ↔ n < m) ∧ (∀ n m : Nat, (n : Int) ≤ (m : Int) ↔ n ≤ m) ∧ (∀ b : Bool, ((!b) = true) = (b = false)) ∧ (∀ b : Bool, ((!b) = false) = (b = true)) ∧
  (∀ {α : Type} [BEq α] [LawfulBEq α] {a b : α}, (a == b) = true ↔ a = b) ∧ (∀ {α : Type} [BEq α] [LawfulBEq α] {a b : α}, (a != b) = true ↔ a ≠ b) ∧ (∀ {α : Type} [BEq α] [LawfulBEq α] {a b : α}, (a == b) = false ↔ a ≠ b) ∧
  (∀ {α : Type} [BEq α] [LawfulBEq α] {a b : α}, (a != b) = false ↔ a = b) ∧ (∀ {α : Type} (a b : α), (a ≠ b) = ¬ (a = b)) ∧ (∀ {p : Prop} [Decidable p], ¬¬p ↔ p) ∧ (∀ a b : Bool, ((a && b) = true) = (a = true ∧ b = true)) ∧
  (∀ a b : Bool, (a && b) = false ↔ (a = true → b = false)) :=
 ⟨@decide_eq_true_eq, @decide_eq_false_iff_not, iL_length, sL_length, fun _ _ => Int.ofNat_lt, fun _ _ => Int.ofNat_le, Bool.not_eq_true', Bool.not_eq_false', @beq_iff_eq, @bne_iff_ne, @beq_eq_false_iff_ne, @bne_eq_false_iff_eq, @ne_eq, @Decidable.not_not, Bool.and_eq_true, @Bool.and_eq_false_imp⟩
attribute [go_sem ↓] wpc_seq wpc_region TL_cons TL_nil seqK_normal seqK_exit seqK_ret blockK_normal blockK_exit blockK_ret loopK_exit loopK_ret
  wpc_block wpc_fork wpc_skip wpc_exit wpc_ret wpc_label
attribute [go_sem] F1 pickG gOf opF cls rho opM opP opR Option.getD_some Option.getD_none stepT_some
  gate_true fork_true fork_false matAV litOwn Value.oneCell' put_sl put_sl0 put_ob' AV.mk init_sl init_ob head_sl ali_nil ali_cons aliOK
  head_ob slots_nil slots_cons headPat headCell headCells objsOf inRs scrub cellFree List.any_cons List.any_nil
  List.all_cons List.all_nil decide_true decide_false Bool.or_false Bool.or_true Bool.false_or Bool.true_or Bool.and_false Bool.false_and List.map_cons List.map_nil
  List.append_nil List.nil_append List.cons_append argAV argCell List.getD_cons_zero List.getD_cons_succ List.getD_nil updO_nil' updO_nil'' updO_cons' freshAt
  AV.isAny Ob.isNone Bool.and_self toD Array.toList_map Bool.false_eq_true true_and and_true Bool.and_true Bool.true_and Int.toNat_natCast List.map_replicate
  forall_const Prod.mk.injEq Nat.succ_ne_self lift binV ints LoopInv.st scalCells scalCell avCells mkT_wr mkT_im
  mkT_nm mkT_ct decide_eq_true_eq decide_eq_false_iff_not List.length_cons List.length_nil iL_length iL_get iL_set Nat.zero_add List.take_zero List.drop_zero
  Nat.add_zero List.take_nil List.drop_nil List.drop_succ_cons List.take_succ_cons EnterI Enter matchAll matchPat matchCell matchCells ownCell
  DEq isRef List.filterMap_cons List.filterMap_nil pcN PostSt RetOK PostC RetOKC retsP avRP cellsRP cellRP nilP cellPl retsRV resOf avRV cellsRC cellRC
  and_self List.nodup_cons List.nodup_nil List.mem_nil_iff List.not_mem_nil not_false_eq_true imp_self implies_true Option.some.injEq beq_self_eq_true Option.bind_some Option.bind_none
  Int.ofNat_lt Int.ofNat_le Int.natCast_nonneg List.headD_cons List.mem_cons forall_eq or_false scal_v scal_sl iL_scal Nat.min_self Nat.le_refl
  Nat.lt_irrefl List.length_append List.length_take List.length_replicate List.length_set inR64 D.v.injEq Value.int.injEq Value.bool.injEq succ_eq Int.cast_ofNat_Int Int.natCast_zero
  Int.natCast_one false_or or_true true_or iL_inj ne_eq Nat.one_ne_zero callF look argsOf argOf cellsD
  rvN nOwn resAV resParts rcCells scalN partAV rvOwns muty List.headD_nil List.tail_nil List.tail_cons
  capsD magOf avImm avNew cellImm cellNew immCell immCells unI_iL unS_sL sL_length sL_get
  sL_inj D.sl.injEq bne_self_eq_false RC.d.injEq fieldOf partOf litOne litAgg buildCells asNat maxAV Option.isSome_some
  Option.isSome_none List.getElem?_cons_zero List.getElem?_cons_succ List.set_cons_zero List.set_cons_succ matCells allCells tgtOf srcOf appF not_true_eq_false not_false_iff
  decide_not id_eq Bool.not_true Bool.not_false Bool.not_eq_true' Bool.not_eq_false' Bool.or_self cellInts structEq sideOf strip condOK
  Op.operands wfI_iL wfS_sL all_nil List.getElem?_toArray forall_eq_or_imp cond_and cond_or beq_true Bool.true_eq_false Bool.cond_true Bool.cond_false
  cond_true cond_false Call.operands List.append_toArray List.toList_toArray Option.toList_some Option.toList_none List.range_zero List.range_succ Nat.zero_mul Nat.zero_le Nat.one_mul
  List.cons.injEq and_self_iff initM_sl initM_ob initL_sl initL_ob callL splitL lastB argM obsM magCells magObs litF appS PostM PostB RetOKB finB initB_sl initB_ob isV rcPlain rvPlain RetOKM mutFin magFin
  appI callM callA adoptV callC callK stK storeF storeV absV absC bxs keepB boxNew argCell unlit buildS szOf mutArg setMut setMag List.map_id mkT_bx bxq isBptr isSc litBytes capIds List.isEmpty_nil
  frG frAV frCell callX magX oldX newX obsX freeX slotX cellNewX PostX RetOKX cellX cellsX finX initX_sl initX_ob
end Go.Own
namespace Go.Own
open Go Go.Proofs
theorem ty2 : tyOf Tryz.prog 2 = some ⟨1, 8, false, false, .int .i64, [Value.int .i64 0]⟩ := by kernel_rfl
theorem ty3 : tyOf Tryz.prog 3 = some ⟨1, 8, false, false, .int .i64, [Value.int .i64 0]⟩ := by kernel_rfl
theorem ty4 : tyOf Tryz.prog 4 = some ⟨1, 1, false, false, .bool, [Value.bool false]⟩ := by kernel_rfl
theorem ty5 : tyOf Tryz.prog 5 = some ⟨1, 1, false, false, .int .u8, [Value.int .u8 0]⟩ := by kernel_rfl
theorem ty6 : tyOf Tryz.prog 6 = some ⟨1, 1, false, false, .int .u8, [Value.int .u8 0]⟩ := by kernel_rfl
theorem ty7 : tyOf Tryz.prog 7 = some ⟨4, 24, true, false, .struct [(0, 2), (1, 3), (2, 4), (3, 6)], [Value.int .i64 0, Value.int .i64 0, Value.bool false, Value.int .u8 0]⟩ := by kernel_rfl
theorem ty8 : tyOf Tryz.prog 8 = some ⟨4, 24, true, false, .struct [(0, 2), (1, 3), (2, 4), (3, 6)], [Value.int .i64 0, Value.int .i64 0, Value.bool false, Value.int .u8 0]⟩ := by kernel_rfl
theorem ty9 : tyOf Tryz.prog 9 = some ⟨1, 16, false, false, .str, [Value.string ByteArray.empty]⟩ := by kernel_rfl
theorem ty10 : tyOf Tryz.prog 10 = some ⟨1, 16, false, false, .str, [Value.string ByteArray.empty]⟩ := by kernel_rfl
theorem ty11 : tyOf Tryz.prog 11 = some ⟨1, 16, false, false, .str, [Value.string ByteArray.empty]⟩ := by kernel_rfl
theorem ty12 : tyOf Tryz.prog 12 = some ⟨1, 8, false, false, .int .u64, [Value.int .u64 0]⟩ := by kernel_rfl
theorem ty13 : tyOf Tryz.prog 13 = some ⟨2, 24, true, false, .struct [(0, 9), (1, 12)], [Value.string ByteArray.empty, Value.int .u64 0]⟩ := by kernel_rfl
theorem ty14 : tyOf Tryz.prog 14 = some ⟨2, 24, true, false, .struct [(0, 9), (1, 12)], [Value.string ByteArray.empty, Value.int .u64 0]⟩ := by kernel_rfl
theorem ty21 : tyOf Tryz.prog 21 = some ⟨1, 4, false, false, .int .i32, [Value.int .i32 0]⟩ := by kernel_rfl
theorem ty22 : tyOf Tryz.prog 22 = some ⟨1, 24, false, false, .slice 5, [Value.slice none 0 0]⟩ := by kernel_rfl
theorem ty24 : tyOf Tryz.prog 24 = some ⟨1, 24, false, false, .slice 32, [Value.slice none 0 0]⟩ := by kernel_rfl
theorem ty26 : tyOf Tryz.prog 26 = some ⟨1, 24, false, false, .slice 3, [Value.slice none 0 0]⟩ := by kernel_rfl
theorem ty28 : tyOf Tryz.prog 28 = some ⟨1, 24, false, false, .slice 26, [Value.slice none 0 0]⟩ := by kernel_rfl
theorem ty29 : tyOf Tryz.prog 29 = some ⟨2, 32, true, false, .struct [(0, 3), (1, 28)], [Value.int .i64 0, Value.slice none 0 0]⟩ := by kernel_rfl
theorem ty30 : tyOf Tryz.prog 30 = some ⟨2, 32, true, false, .struct [(0, 3), (1, 28)], [Value.int .i64 0, Value.slice none 0 0]⟩ := by kernel_rfl
theorem ty31 : tyOf Tryz.prog 31 = some ⟨2, 16, true, true, .struct [(0, 3), (1, 3)], [Value.int .i64 0, Value.int .i64 0]⟩ := by kernel_rfl
theorem ty32 : tyOf Tryz.prog 32 = some ⟨2, 16, true, true, .struct [(0, 3), (1, 3)], [Value.int .i64 0, Value.int .i64 0]⟩ := by kernel_rfl
theorem ty37 : tyOf Tryz.prog 37 = some ⟨1, 24, false, false, .slice 9, [Value.slice none 0 0]⟩ := by kernel_rfl
theorem ty39 : tyOf Tryz.prog 39 = some ⟨6, 80, true, false, .struct [(0, 30), (2, 3), (3, 3), (4, 24), (5, 3)], [Value.int .i64 0, Value.slice none 0 0, Value.int .i64 0, Value.int .i64 0, Value.slice none 0 0, Value.int .i64 0]⟩ := by kernel_rfl
theorem ty40 : tyOf Tryz.prog 40 = some ⟨6, 80, true, false, .struct [(0, 30), (2, 3), (3, 3), (4, 24), (5, 3)], [Value.int .i64 0, Value.slice none 0 0, Value.int .i64 0, Value.int .i64 0, Value.slice none 0 0, Value.int .i64 0]⟩ := by kernel_rfl
theorem ty55 : tyOf Tryz.prog 55 = some ⟨1, 24, false, false, .slice 59, [Value.slice none 0 0]⟩ := by kernel_rfl
theorem ty58 : tyOf Tryz.prog 58 = some ⟨3, 24, true, true, .struct [(0, 3), (1, 3), (2, 3)], [Value.int .i64 0, Value.int .i64 0, Value.int .i64 0]⟩ := by kernel_rfl
theorem ty59 : tyOf Tryz.prog 59 = some ⟨3, 24, true, true, .struct [(0, 3), (1, 3), (2, 3)], [Value.int .i64 0, Value.int .i64 0, Value.int .i64 0]⟩ := by kernel_rfl
theorem ty74 : tyOf Tryz.prog 74 = some ⟨3, 40, true, false, .struct [(0, 22), (1, 3), (2, 3)], [Value.slice none 0 0, Value.int .i64 0, Value.int .i64 0]⟩ := by kernel_rfl
theorem ty75 : tyOf Tryz.prog 75 = some ⟨3, 40, true, false, .struct [(0, 22), (1, 3), (2, 3)], [Value.slice none 0 0, Value.int .i64 0, Value.int .i64 0]⟩ := by kernel_rfl
theorem ty134 : tyOf Tryz.prog 134 = some ⟨1, 8, false, false, .int .u64, [Value.int .u64 0]⟩ := by kernel_rfl
theorem ty139 : tyOf Tryz.prog 139 = some ⟨1, 24, false, false, .slice 4, [Value.slice none 0 0]⟩ := by kernel_rfl
theorem ty146 : tyOf Tryz.prog 146 = some ⟨1, 8, false, false, .int .u64, [Value.int .u64 0]⟩ := by kernel_rfl
theorem ty154 : tyOf Tryz.prog 154 = some ⟨1, 8, false, false, .int .i64, [Value.int .i64 0]⟩ := by kernel_rfl
theorem ty162 : tyOf Tryz.prog 162 = some ⟨1, 4, false, false, .int .u32, [Value.int .u32 0]⟩ := by kernel_rfl
theorem ty167 : tyOf Tryz.prog 167 = some ⟨1, 8, false, false, .int .u64, [Value.int .u64 0]⟩ := by kernel_rfl
theorem ty191 : tyOf Tryz.prog 191 = some ⟨1, 1, false, false, .int .u8, [Value.int .u8 0]⟩ := by kernel_rfl
theorem ty192 : tyOf Tryz.prog 192 = some ⟨1, 1, false, false, .int .u8, [Value.int .u8 0]⟩ := by kernel_rfl
theorem ty194 : tyOf Tryz.prog 194 = some ⟨1, 4, false, false, .int .i32, [Value.int .i32 0]⟩ := by kernel_rfl
theorem ty195 : tyOf Tryz.prog 195 = some ⟨1, 4, false, false, .int .i32, [Value.int .i32 0]⟩ := by kernel_rfl
theorem mixedT : Tryz.prog.follows .mixedOrders = true := by kernel_rfl
theorem tm2 {l : List (FuncId × Contract)} {wr : Bool} {im : Nat → Bool} {nm : Bool} {bx : Nat → Bool} : (mkT Tryz.prog l wr im nm bx).ty 2 = some ⟨1, 8, false, false, .int .i64, [Value.int .i64 0]⟩ := tyM ty2
theorem tm3 {l : List (FuncId × Contract)} {wr : Bool} {im : Nat → Bool} {nm : Bool} {bx : Nat → Bool} : (mkT Tryz.prog l wr im nm bx).ty 3 = some ⟨1, 8, false, false, .int .i64, [Value.int .i64 0]⟩ := tyM ty3
theorem tm4 {l : List (FuncId × Contract)} {wr : Bool} {im : Nat → Bool} {nm : Bool} {bx : Nat → Bool} : (mkT Tryz.prog l wr im nm bx).ty 4 = some ⟨1, 1, false, false, .bool, [Value.bool false]⟩ := tyM ty4
theorem tm5 {l : List (FuncId × Contract)} {wr : Bool} {im : Nat → Bool} {nm : Bool} {bx : Nat → Bool} : (mkT Tryz.prog l wr im nm bx).ty 5 = some ⟨1, 1, false, false, .int .u8, [Value.int .u8 0]⟩ := tyM ty5
theorem tm6 {l : List (FuncId × Contract)} {wr : Bool} {im : Nat → Bool} {nm : Bool} {bx : Nat → Bool} : (mkT Tryz.prog l wr im nm bx).ty 6 = some ⟨1, 1, false, false, .int .u8, [Value.int .u8 0]⟩ := tyM ty6
theorem tm7 {l : List (FuncId × Contract)} {wr : Bool} {im : Nat → Bool} {nm : Bool} {bx : Nat → Bool} : (mkT Tryz.prog l wr im nm bx).ty 7 = some ⟨4, 24, true, false, .struct [(0, 2), (1, 3), (2, 4), (3, 6)], [Value.int .i64 0, Value.int .i64 0, Value.bool false, Value.int .u8 0]⟩ := tyM ty7
theorem tm8 {l : List (FuncId × Contract)} {wr : Bool} {im : Nat → Bool} {nm : Bool} {bx : Nat → Bool} : (mkT Tryz.prog l wr im nm bx).ty 8 = some ⟨4, 24, true, false, .struct [(0, 2), (1, 3), (2, 4), (3, 6)], [Value.int .i64 0, Value.int .i64 0, Value.bool false, Value.int .u8 0]⟩ := tyM ty8
theorem tm9 {l : List (FuncId × Contract)} {wr : Bool} {im : Nat → Bool} {nm : Bool} {bx : Nat → Bool} : (mkT Tryz.prog l wr im nm bx).ty 9 = some ⟨1, 16, false, false, .str, [Value.string ByteArray.empty]⟩ := tyM ty9
theorem tm10 {l : List (FuncId × Contract)} {wr : Bool} {im : Nat → Bool} {nm : Bool} {bx : Nat → Bool} : (mkT Tryz.prog l wr im nm bx).ty 10 = some ⟨1, 16, false, false, .str, [Value.string ByteArray.empty]⟩ := tyM ty10
theorem tm11 {l : List (FuncId × Contract)} {wr : Bool} {im : Nat → Bool} {nm : Bool} {bx : Nat → Bool} : (mkT Tryz.prog l wr im nm bx).ty 11 = some ⟨1, 16, false, false, .str, [Value.string ByteArray.empty]⟩ := tyM ty11
theorem tm12 {l : List (FuncId × Contract)} {wr : Bool} {im : Nat → Bool} {nm : Bool} {bx : Nat → Bool} : (mkT Tryz.prog l wr im nm bx).ty 12 = some ⟨1, 8, false, false, .int .u64, [Value.int .u64 0]⟩ := tyM ty12
theorem tm13 {l : List (FuncId × Contract)} {wr : Bool} {im : Nat → Bool} {nm : Bool} {bx : Nat → Bool} : (mkT Tryz.prog l wr im nm bx).ty 13 = some ⟨2, 24, true, false, .struct [(0, 9), (1, 12)], [Value.string ByteArray.empty, Value.int .u64 0]⟩ := tyM ty13
theorem tm14 {l : List (FuncId × Contract)} {wr : Bool} {im : Nat → Bool} {nm : Bool} {bx : Nat → Bool} : (mkT Tryz.prog l wr im nm bx).ty 14 = some ⟨2, 24, true, false, .struct [(0, 9), (1, 12)], [Value.string ByteArray.empty, Value.int .u64 0]⟩ := tyM ty14
theorem tm21 {l : List (FuncId × Contract)} {wr : Bool} {im : Nat → Bool} {nm : Bool} {bx : Nat → Bool} : (mkT Tryz.prog l wr im nm bx).ty 21 = some ⟨1, 4, false, false, .int .i32, [Value.int .i32 0]⟩ := tyM ty21
theorem tm22 {l : List (FuncId × Contract)} {wr : Bool} {im : Nat → Bool} {nm : Bool} {bx : Nat → Bool} : (mkT Tryz.prog l wr im nm bx).ty 22 = some ⟨1, 24, false, false, .slice 5, [Value.slice none 0 0]⟩ := tyM ty22
theorem tm24 {l : List (FuncId × Contract)} {wr : Bool} {im : Nat → Bool} {nm : Bool} {bx : Nat → Bool} : (mkT Tryz.prog l wr im nm bx).ty 24 = some ⟨1, 24, false, false, .slice 32, [Value.slice none 0 0]⟩ := tyM ty24
theorem tm26 {l : List (FuncId × Contract)} {wr : Bool} {im : Nat → Bool} {nm : Bool} {bx : Nat → Bool} : (mkT Tryz.prog l wr im nm bx).ty 26 = some ⟨1, 24, false, false, .slice 3, [Value.slice none 0 0]⟩ := tyM ty26
theorem tm28 {l : List (FuncId × Contract)} {wr : Bool} {im : Nat → Bool} {nm : Bool} {bx : Nat → Bool} : (mkT Tryz.prog l wr im nm bx).ty 28 = some ⟨1, 24, false, false, .slice 26, [Value.slice none 0 0]⟩ := tyM ty28
theorem tm29 {l : List (FuncId × Contract)} {wr : Bool} {im : Nat → Bool} {nm : Bool} {bx : Nat → Bool} : (mkT Tryz.prog l wr im nm bx).ty 29 = some ⟨2, 32, true, false, .struct [(0, 3), (1, 28)], [Value.int .i64 0, Value.slice none 0 0]⟩ := tyM ty29
theorem tm30 {l : List (FuncId × Contract)} {wr : Bool} {im : Nat → Bool} {nm : Bool} {bx : Nat → Bool} : (mkT Tryz.prog l wr im nm bx).ty 30 = some ⟨2, 32, true, false, .struct [(0, 3), (1, 28)], [Value.int .i64 0, Value.slice none 0 0]⟩ := tyM ty30
theorem tm31 {l : List (FuncId × Contract)} {wr : Bool} {im : Nat → Bool} {nm : Bool} {bx : Nat → Bool} : (mkT Tryz.prog l wr im nm bx).ty 31 = some ⟨2, 16, true, true, .struct [(0, 3), (1, 3)], [Value.int .i64 0, Value.int .i64 0]⟩ := tyM ty31
theorem tm32 {l : List (FuncId × Contract)} {wr : Bool} {im : Nat → Bool} {nm : Bool} {bx : Nat → Bool} : (mkT Tryz.prog l wr im nm bx).ty 32 = some ⟨2, 16, true, true, .struct [(0, 3), (1, 3)], [Value.int .i64 0, Value.int .i64 0]⟩ := tyM ty32
theorem tm37 {l : List (FuncId × Contract)} {wr : Bool} {im : Nat → Bool} {nm : Bool} {bx : Nat → Bool} : (mkT Tryz.prog l wr im nm bx).ty 37 = some ⟨1, 24, false, false, .slice 9, [Value.slice none 0 0]⟩ := tyM ty37
theorem tm39 {l : List (FuncId × Contract)} {wr : Bool} {im : Nat → Bool} {nm : Bool} {bx : Nat → Bool} : (mkT Tryz.prog l wr im nm bx).ty 39 = some ⟨6, 80, true, false, .struct [(0, 30), (2, 3), (3, 3), (4, 24), (5, 3)], [Value.int .i64 0, Value.slice none 0 0, Value.int .i64 0, Value.int .i64 0, Value.slice none 0 0, Value.int .i64 0]⟩ := tyM ty39
theorem tm40 {l : List (FuncId × Contract)} {wr : Bool} {im : Nat → Bool} {nm : Bool} {bx : Nat → Bool} : (mkT Tryz.prog l wr im nm bx).ty 40 = some ⟨6, 80, true, false, .struct [(0, 30), (2, 3), (3, 3), (4, 24), (5, 3)], [Value.int .i64 0, Value.slice none 0 0, Value.int .i64 0, Value.int .i64 0, Value.slice none 0 0, Value.int .i64 0]⟩ := tyM ty40
theorem tm55 {l : List (FuncId × Contract)} {wr : Bool} {im : Nat → Bool} {nm : Bool} {bx : Nat → Bool} : (mkT Tryz.prog l wr im nm bx).ty 55 = some ⟨1, 24, false, false, .slice 59, [Value.slice none 0 0]⟩ := tyM ty55
theorem tm58 {l : List (FuncId × Contract)} {wr : Bool} {im : Nat → Bool} {nm : Bool} {bx : Nat → Bool} : (mkT Tryz.prog l wr im nm bx).ty 58 = some ⟨3, 24, true, true, .struct [(0, 3), (1, 3), (2, 3)], [Value.int .i64 0, Value.int .i64 0, Value.int .i64 0]⟩ := tyM ty58
theorem tm59 {l : List (FuncId × Contract)} {wr : Bool} {im : Nat → Bool} {nm : Bool} {bx : Nat → Bool} : (mkT Tryz.prog l wr im nm bx).ty 59 = some ⟨3, 24, true, true, .struct [(0, 3), (1, 3), (2, 3)], [Value.int .i64 0, Value.int .i64 0, Value.int .i64 0]⟩ := tyM ty59
theorem tm74 {l : List (FuncId × Contract)} {wr : Bool} {im : Nat → Bool} {nm : Bool} {bx : Nat → Bool} : (mkT Tryz.prog l wr im nm bx).ty 74 = some ⟨3, 40, true, false, .struct [(0, 22), (1, 3), (2, 3)], [Value.slice none 0 0, Value.int .i64 0, Value.int .i64 0]⟩ := tyM ty74
theorem tm75 {l : List (FuncId × Contract)} {wr : Bool} {im : Nat → Bool} {nm : Bool} {bx : Nat → Bool} : (mkT Tryz.prog l wr im nm bx).ty 75 = some ⟨3, 40, true, false, .struct [(0, 22), (1, 3), (2, 3)], [Value.slice none 0 0, Value.int .i64 0, Value.int .i64 0]⟩ := tyM ty75
theorem tm134 {l : List (FuncId × Contract)} {wr : Bool} {im : Nat → Bool} {nm : Bool} {bx : Nat → Bool} : (mkT Tryz.prog l wr im nm bx).ty 134 = some ⟨1, 8, false, false, .int .u64, [Value.int .u64 0]⟩ := tyM ty134
theorem tm139 {l : List (FuncId × Contract)} {wr : Bool} {im : Nat → Bool} {nm : Bool} {bx : Nat → Bool} : (mkT Tryz.prog l wr im nm bx).ty 139 = some ⟨1, 24, false, false, .slice 4, [Value.slice none 0 0]⟩ := tyM ty139
theorem tm146 {l : List (FuncId × Contract)} {wr : Bool} {im : Nat → Bool} {nm : Bool} {bx : Nat → Bool} : (mkT Tryz.prog l wr im nm bx).ty 146 = some ⟨1, 8, false, false, .int .u64, [Value.int .u64 0]⟩ := tyM ty146
theorem tm154 {l : List (FuncId × Contract)} {wr : Bool} {im : Nat → Bool} {nm : Bool} {bx : Nat → Bool} : (mkT Tryz.prog l wr im nm bx).ty 154 = some ⟨1, 8, false, false, .int .i64, [Value.int .i64 0]⟩ := tyM ty154
theorem tm162 {l : List (FuncId × Contract)} {wr : Bool} {im : Nat → Bool} {nm : Bool} {bx : Nat → Bool} : (mkT Tryz.prog l wr im nm bx).ty 162 = some ⟨1, 4, false, false, .int .u32, [Value.int .u32 0]⟩ := tyM ty162
theorem tm167 {l : List (FuncId × Contract)} {wr : Bool} {im : Nat → Bool} {nm : Bool} {bx : Nat → Bool} : (mkT Tryz.prog l wr im nm bx).ty 167 = some ⟨1, 8, false, false, .int .u64, [Value.int .u64 0]⟩ := tyM ty167
theorem tm191 {l : List (FuncId × Contract)} {wr : Bool} {im : Nat → Bool} {nm : Bool} {bx : Nat → Bool} : (mkT Tryz.prog l wr im nm bx).ty 191 = some ⟨1, 1, false, false, .int .u8, [Value.int .u8 0]⟩ := tyM ty191
theorem tm192 {l : List (FuncId × Contract)} {wr : Bool} {im : Nat → Bool} {nm : Bool} {bx : Nat → Bool} : (mkT Tryz.prog l wr im nm bx).ty 192 = some ⟨1, 1, false, false, .int .u8, [Value.int .u8 0]⟩ := tyM ty192
theorem tm194 {l : List (FuncId × Contract)} {wr : Bool} {im : Nat → Bool} {nm : Bool} {bx : Nat → Bool} : (mkT Tryz.prog l wr im nm bx).ty 194 = some ⟨1, 4, false, false, .int .i32, [Value.int .i32 0]⟩ := tyM ty194
theorem tm195 {l : List (FuncId × Contract)} {wr : Bool} {im : Nat → Bool} {nm : Bool} {bx : Nat → Bool} : (mkT Tryz.prog l wr im nm bx).ty 195 = some ⟨1, 4, false, false, .int .i32, [Value.int .i32 0]⟩ := tyM ty195
attribute [go_sem] tm2 tm3 tm4 tm5 tm6 tm7 tm8 tm9 tm10 tm11 tm12 tm13 tm14 tm21 tm22 tm24 tm26 tm28 tm29 tm30 tm31 tm32 tm37 tm39 tm40 tm55 tm58 tm59 tm74 tm75 tm134 tm139 tm146 tm154 tm162 tm167 tm191 tm192 tm194 tm195
end Go.Own
namespace Go.Own
open Go Go.Proofs
def tabC : Array Value := (Lib.pow10Tab.map fun z => Value.int .u64 z).toArray
theorem e0st : ∀ h h' : Heap, (∃ e fz, h[1]? = some (.cells tabC e fz)) → (∀ b, b < 2 → h'[b]? = h[b]?) → ∃ e fz, h'[1]? = some (.cells tabC e fz) := fun h h' ⟨e, fz, hj⟩ hs => ⟨e, fz, by rw [hs 1 (by omega)]; exact hj⟩
noncomputable def E0 : Env := ⟨Tryz.prog, 2, fun h => ∃ e fz, h[1]? = some (.cells tabC e fz), e0st⟩
theorem take_succ_getD {α : Type} {xs : List α} {i : Nat} (h : i < xs.length) (d : α) : xs.take (i + 1) = xs.take i ++ [xs.getD i d] := by
 rw [List.take_add_one]; simp [List.getD_eq_getElem?_getD, h]
theorem drop_getD {α : Type} {xs : List α} {i : Nat} (h : i < xs.length) (d : α) : xs.drop i = xs.getD i d :: xs.drop (i + 1) := by
 rw [List.drop_eq_getElem_cons h]; simp [List.getD_eq_getElem?_getD, h]
theorem eq_of_takes {α : Type} {xs ys : List α} {i : Nat} (h : xs.length = ys.length) (hi : ¬ i < xs.length) (ht : xs.take i = ys.take i) : xs = ys := by
 rwa [List.take_of_length_le (by omega), List.take_of_length_le (by omega)] at ht
theorem ne_of_getD {α : Type} {xs ys : List α} {i : Nat} {d : α} (h : xs.getD i d ≠ ys.getD i d) : xs ≠ ys := fun e => h (by rw [e])
theorem all_getD {rs : List (List Int)} {B : Nat} (h : ∀ r ∈ rs, r.length ≤ B) (i : Nat) : (rs.getD i []).length ≤ B := by
 by_cases hi : i < rs.length
 ·exact h _ (by simp [List.getD_eq_getElem?_getD, hi])
 ·simp [List.getD_eq_getElem?_getD, Nat.le_of_not_lt hi]
theorem all_drop {α : Type} {xs : List α} {i : Nat} (h : i < xs.length) (d : α) (f : α → Bool) : (xs.drop i).all f = (f (xs.getD i d) && (xs.drop (i + 1)).all f) := by
 rw [drop_getD h d]; rfl
end Go.Own
namespace Go.Own
open Go Go.Proofs
end Go.Own
namespace Go.Own
open Go Go.Proofs
end Go.Own
namespace Go.Own
open Go Go.Proofs
def inB (x lo hi : Int) : Bool := decide (x ≥ lo) && decide (x ≤ hi)
def rowOK (r : List Int) (c : Int) : Bool := r.all (fun v => inB v (-1) 40) && decide ((r.length : Int) = c)
def tabOK (c : Int) (rs : List (List Int)) : Bool := rs.all (fun r => rowOK r c) && (inB c 1 5 && decide ((rs.length : Int) ≤ 40))
def cL1In : Contract := ⟨[], false, fun
 | [.one (.v (.int .i64 x)), .one (.v (.int .i64 lo)), .one (.v (.int .i64 hi))] => some (True, [⟨false, [.d (.v (.bool (inB x lo hi)))]⟩], [])
 | _ => none⟩
theorem l1In_ok : ContractOK E0 62 cL1In := by
 refine cWpc (E := E0) (T := mkT Tryz.prog [] false (fun _ => false) true (fun _ => false)) (mkT_ok (E := E0) .nil) (fn := Tryz.f62) Tryz.func62 (by kernel_rfl) rfl mixedT (by kernel_rfl) rfl ?_
 intro args p rs ms hr
 unfold cL1In at hr
 dsimp only at hr
 split at hr
 ·simp only [Option.some.injEq, Prod.mk.injEq] at hr
  obtain ⟨rfl, rfl, rfl⟩ := hr
  refine ⟨rfl, rfl, Nat.le_of_ble_eq_true rfl, ?_⟩
  intro _ bs
  unfold inB
  (repeat' first | refine gA fun _ => ?_ | refine fkI ?_ ?_ <;> intro hb <;> try simp only [ew, cL1In, Tryz.results62] at hb | simp only [go_sem, simprocAttr, *, cL1In, Tryz.results62])
 ·cases hr
def cL3Row : Contract := ⟨[], false, fun
 | [.one (.sl 1 a), .one (.v (.int .i64 c))] => some (WfI a, [⟨false, [.d (.v (.bool (rowOK (unI a) c)))]⟩], [])
 | _ => none⟩
theorem l3Row_ok : ContractOK E0 128 cL3Row := by
 refine cWpc (E := E0) (T := mkT Tryz.prog [(62, cL1In)] false (fun _ => false) true (fun _ => false)) (mkT_ok (E := E0) (.cons l1In_ok .nil)) (fn := Tryz.f128) Tryz.func128 (by kernel_rfl) rfl mixedT (by kernel_rfl) rfl ?_
 intro args p rs ms hr
 unfold cL3Row at hr
 dsimp only at hr
 split at hr
 ·rename_i l c
  simp only [Option.some.injEq, Prod.mk.injEq] at hr
  obtain ⟨rfl, rfl, rfl⟩ := hr
  refine ⟨rfl, rfl, Nat.le_of_ble_eq_true rfl, ?_⟩
  intro h1 bs
  obtain ⟨xs, rfl, hx⟩ := h1.ex
  clear h1
  rw [unI_iL]
  have hm : maxLen = 9223372036854775807 := rfl
  unfold rowOK
  (repeat' first | refine gA fun _ => ?_ | refine fkI ?_ ?_ <;> intro hb <;> try simp only [ew, cL3Row, cL1In, Tryz.results128] at hb | simp only [go_sem, simprocAttr, *, cL3Row, cL1In, Tryz.results128])
  refine lpI { ι := Nat, rs := [(4, 5), (6, 18)], mods := [(5, fun i => .one (.d (.v (.int .i64 i))))], boxes := [], arrs := [], ok := fun i => i ≤ xs.length ∧ (xs.drop i).all (fun v => inB v (-1) 40) = xs.all (fun v => inB v (-1) 40), mu := fun i => xs.length - i } rfl 0 ⟨Nat.zero_le _, rfl⟩ ?_ fun i hi => ?_
  ·(repeat' first | refine gA fun _ => ?_ | refine fkI ?_ ?_ <;> intro hb <;> try simp only [ew, cL3Row] at hb | simp only [go_sem, simprocAttr, *, cL3Row])
  ·dsimp only at i hi
   obtain ⟨hi, ht⟩ := hi
   (repeat' first | refine gA fun _ => ?_ | refine fkI ?_ ?_ <;> intro hb <;> try simp only [ew, cL3Row, cL1In, Tryz.results128] at hb | simp only [go_sem, simprocAttr, *, cL3Row, cL1In, Tryz.results128])
   ·rw [← ht, all_drop (by omega) 0 _, ‹inB _ _ _ = false›]; rfl
   ·refine lpN (i + 1) ⟨by omega, ?_⟩ (by dsimp only; omega) ?_
    ·rw [← ht, all_drop (i := i) (by omega) 0 _, ‹inB _ _ _ = true›]; rfl
    ·(repeat' first | refine gA fun _ => ?_ | refine fkI ?_ ?_ <;> intro hb <;> try simp only [ew] at hb | simp only [go_sem, simprocAttr, *])
   ·rw [← ht, List.drop_of_length_le (by omega)]; rw [Bool.eq_iff_iff]; simp
 ·cases hr
def cIsTableS : Contract := ⟨[], false, fun
 | [.agg [.v (.int .i64 c), .sl 1 a]] => some (WfS a ∧ -9223372036854775808 ≤ c ∧ c ≤ 9223372036854775807, [⟨false, [.d (.v (.bool (tabOK c (unS a))))]⟩], [])
 | _ => none⟩
theorem isTableS_ok : ContractOK E0 86 cIsTableS := by
 refine cWpc (E := E0) (T := mkT Tryz.prog [(62, cL1In), (128, cL3Row)] false (fun _ => false) true (fun _ => false)) (mkT_ok (E := E0) (.cons l1In_ok (.cons l3Row_ok .nil))) (fn := Tryz.f86) Tryz.func86 (by kernel_rfl) rfl mixedT (by kernel_rfl) rfl ?_
 intro args p rs ms hr
 unfold cIsTableS at hr
 dsimp only at hr
 split at hr
 ·rename_i c l
  simp only [Option.some.injEq, Prod.mk.injEq] at hr
  obtain ⟨rfl, rfl, rfl⟩ := hr
  refine ⟨rfl, rfl, Nat.le_of_ble_eq_true rfl, ?_⟩
  rintro ⟨h1, hc1, hc2⟩ bs
  obtain ⟨rs, rfl, hx, hy⟩ := h1.ex
  clear h1
  rw [unS_sL]
  have hm : maxLen = 9223372036854775807 := rfl
  have hyi := all_getD hy
  (repeat' first | refine gA fun _ => ?_ | refine fkI ?_ ?_ <;> intro hb <;> try simp only [ew, cIsTableS, cL1In, cL3Row, Tryz.results86] at hb | simp only [go_sem, simprocAttr, *, cIsTableS, cL1In, cL3Row, Tryz.results86])
  refine lpI { ι := Nat, rs := [(2, 3), (4, 20)], mods := [(3, fun i => .one (.d (.v (.int .i64 i))))], boxes := [(1, fun _ => [.d (.v (.int .i64 c)), .d (.sl 1 (sL rs))])], arrs := [], ok := fun i => i ≤ rs.length ∧ (rs.drop i).all (fun r => rowOK r c) = rs.all (fun r => rowOK r c), mu := fun i => rs.length - i } rfl 0 ⟨Nat.zero_le _, rfl⟩ ?_ fun i hi => ?_
  ·(repeat' first | refine gA fun _ => ?_ | refine fkI ?_ ?_ <;> intro hb <;> try simp only [ew] at hb | simp only [go_sem, simprocAttr, *])
  ·dsimp only at i hi
   obtain ⟨hi, ht⟩ := hi
   (repeat' first | refine gA fun _ => ?_ | refine fkI ?_ ?_ <;> intro hb <;> try simp only [ew, cIsTableS, cL1In, cL3Row, Tryz.results86] at hb | simp only [go_sem, simprocAttr, *, cIsTableS, cL1In, cL3Row, Tryz.results86])
   ·unfold tabOK; rw [← ht, all_drop (by omega) [] _, ‹rowOK _ _ = false›]; rfl
   ·refine lpN (i + 1) ⟨by omega, ?_⟩ (by dsimp only; omega) ?_
    ·rw [← ht, all_drop (i := i) (by omega) [] _, ‹rowOK _ _ = true›]; rfl
    ·(repeat' first | refine gA fun _ => ?_ | refine fkI ?_ ?_ <;> intro hb <;> try simp only [ew] at hb | simp only [go_sem, simprocAttr, *])
   ·unfold tabOK; rw [← ht, List.drop_of_length_le (by omega)]; simp
 ·cases hr
def colsOK (c : Int) (rs : List (List Int)) (a b : Int) : Bool := tabOK c rs && inB a 0 (c - 1) && inB b 0 (c - 1)
theorem tab_c {c : Int} {rs : List (List Int)} (h : tabOK c rs = true) : 1 ≤ c ∧ c ≤ 5 := by
 simp [tabOK, inB] at h; omega
end Go.Own
