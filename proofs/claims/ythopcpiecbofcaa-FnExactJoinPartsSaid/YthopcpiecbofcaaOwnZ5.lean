/-
  Own calculus: the rules by which an abstract state is reckoned, gathered under one word. Conditions: none.
-/
import Derived.Test.YthopcpiecbofcaaOwnZ4
import Derived.Test.YthopcpiecbofcaaProg
namespace Go.Own
open Go
set_option linter.unusedVariables false
set_option linter.unusedSimpArgs false
theorem tyM {P : Program} {l : List (FuncId × Contract)} {wr : Bool} {im : Nat → Bool} {nm : Bool} {bx : Nat → Bool} {t : TypeId} {r : Option TyI} (h : tyOf P t = r) : (mkT P l wr im nm bx).ty t = r := h
theorem all_nil {α : Type} {p : α → Prop} : (∀ x, x ∈ ([] : List α) → p x) ↔ True := ⟨fun _ => trivial, fun _ x hx => nomatch hx⟩
/-- A gate whose condition is plain. -/
theorem gate_a {T : Tabs} {s : St} {p : Prop} {v : AV} {us : List (Id × Ob)} {ops : Array Oper} {K : St → Prop} {d : Option Nat} {r : List Oper} (k : p → TL T ops K r (s.put d v us))
    (h : p := by first | omega | ((repeat' (first | apply And.intro | assumption | omega | intro _)); done) | (simp only [maxLen]; omega) | simp_all | (simp_all [maxLen]; omega)) : Gate p T ops K d r s v us := gate_intro h k
/-- Words for a test. -/
theorem ew : (∀ (p : Prop) [Decidable p], (decide p = true) = p) ∧ (∀ (p : Prop) [Decidable p], (decide p = false) ↔ ¬ p) ∧ (∀ xs : List Int, (iL xs).length = xs.length) ∧ (∀ rs : List (List Int), (sL rs).length = rs.length) ∧
    (∀ n m : Nat, (n : Int) < (m : Int) ↔ n < m) ∧ (∀ n m : Nat, (n : Int) ≤ (m : Int) ↔ n ≤ m) ∧ (∀ b : Bool, ((!b) = true) = (b = false)) ∧ (∀ b : Bool, ((!b) = false) = (b = true)) ∧
    (∀ {α : Type} [BEq α] [LawfulBEq α] {a b : α}, (a == b) = true ↔ a = b) ∧ (∀ {α : Type} [BEq α] [LawfulBEq α] {a b : α}, (a != b) = true ↔ a ≠ b) ∧ (∀ {α : Type} [BEq α] [LawfulBEq α] {a b : α}, (a == b) = false ↔ a ≠ b) ∧
    (∀ {α : Type} [BEq α] [LawfulBEq α] {a b : α}, (a != b) = false ↔ a = b) ∧ (∀ {α : Type} (a b : α), (a ≠ b) = ¬ (a = b)) ∧ (∀ {p : Prop} [Decidable p], ¬¬p ↔ p) ∧ (∀ a b : Bool, ((a && b) = true) = (a = true ∧ b = true)) ∧
    (∀ a b : Bool, (a && b) = false ↔ (a = true → b = false)) :=
  ⟨@decide_eq_true_eq, @decide_eq_false_iff_not, iL_length, sL_length, fun _ _ => Int.ofNat_lt, fun _ _ => Int.ofNat_le, Bool.not_eq_true', Bool.not_eq_false', @beq_iff_eq, @bne_iff_ne, @beq_eq_false_iff_ne, @bne_eq_false_iff_eq, @ne_eq, @Decidable.not_not, Bool.and_eq_true, @Bool.and_eq_false_imp⟩
attribute [go_sem ↓] wpc_seq wpc_region TL_cons TL_nil seqK_normal seqK_exit seqK_ret blockK_normal blockK_exit blockK_ret loopK_exit loopK_ret
  wpc_block wpc_fork wpc_skip wpc_exit wpc_ret wpc_label
attribute [go_sem] F1 pickG gOf opF cls rho opM opP opR Option.getD_some Option.getD_none stepT_some
  gate_true fork_true fork_false matAV litOwn Value.oneCell' put_sl put_sl0 put_ob' AV.mk init_sl init_ob head_sl ali_nil ali_cons aliOK
  head_ob slots_nil slots_cons headPat headCell headCells objsOf inRs scrub cellFree List.any_cons List.any_nil
  List.all_cons List.all_nil decide_true decide_false Bool.or_false Bool.or_true Bool.false_or Bool.true_or Bool.and_false Bool.false_and List.map_cons List.map_nil
  List.append_nil List.nil_append List.cons_append argAV argCell List.getD_cons_zero List.getD_cons_succ List.getD_nil updO_nil' updO_nil'' updO_cons' freshAt
  AV.isAny Ob.isNone Bool.and_self toD Array.toList_map Bool.false_eq_true true_and and_true Bool.and_true Bool.true_and Int.toNat_natCast List.map_replicate
  forall_const Prod.mk.injEq Nat.succ_ne_self lift binV ints LoopInv.st scalCells scalCell avCells mkT_wr mkT_im
  mkT_nm mkT_ct decide_eq_true_eq decide_eq_false_iff_not List.length_cons List.length_nil iL_length iL_get iL_set Nat.zero_add List.take_zero List.drop_zero
  Nat.add_zero List.take_nil List.drop_nil List.drop_succ_cons List.take_succ_cons EnterI Enter matchAll matchPat matchCell matchCells ownCell
  DEq isRef List.filterMap_cons List.filterMap_nil pcN PostSt RetOK PostC RetOKC retsP avRP cellsRP cellRP nilP cellPl retsRV resOf avRV cellsRC cellRC
  and_self List.nodup_cons List.nodup_nil List.mem_nil_iff List.not_mem_nil not_false_eq_true imp_self implies_true Option.some.injEq beq_self_eq_true Option.bind_some Option.bind_none
  Int.ofNat_lt Int.ofNat_le Int.natCast_nonneg List.headD_cons List.mem_cons forall_eq or_false scal_v scal_sl iL_scal Nat.min_self Nat.le_refl
  Nat.lt_irrefl List.length_append List.length_take List.length_replicate List.length_set inR64 D.v.injEq Value.int.injEq Value.bool.injEq succ_eq Int.cast_ofNat_Int Int.natCast_zero
  Int.natCast_one false_or or_true true_or iL_inj ne_eq Nat.one_ne_zero callF look argsOf argOf cellsD
  rvN nOwn resAV resParts rcCells scalN partAV rvOwns muty List.headD_nil List.tail_nil List.tail_cons
  capsD magOf avImm avNew cellImm cellNew immCell immCells unI_iL unS_sL sL_length sL_get
  sL_inj D.sl.injEq bne_self_eq_false RC.d.injEq fieldOf partOf litOne litAgg buildCells asNat maxAV Option.isSome_some
  Option.isSome_none List.getElem?_cons_zero List.getElem?_cons_succ List.set_cons_zero List.set_cons_succ matCells allCells tgtOf srcOf appF not_true_eq_false not_false_iff
  decide_not id_eq Bool.not_true Bool.not_false Bool.not_eq_true' Bool.not_eq_false' Bool.or_self cellInts structEq sideOf strip condOK
  Op.operands wfI_iL wfS_sL all_nil List.getElem?_toArray forall_eq_or_imp cond_and cond_or beq_true Bool.true_eq_false Bool.cond_true Bool.cond_false
  cond_true cond_false Call.operands List.append_toArray List.toList_toArray Option.toList_some Option.toList_none List.range_zero List.range_succ Nat.zero_mul Nat.zero_le Nat.one_mul
  List.cons.injEq and_self_iff initM_sl initM_ob initL_sl initL_ob callL splitL lastB argM obsM magCells magObs litF appS PostM PostB RetOKB finB initB_sl initB_ob isV rcPlain rvPlain RetOKM mutFin magFin
  appI callM callA adoptV callC callK stK storeF bxs keepB boxNew argCell unlit buildS szOf mutArg setMut setMag List.map_id mkT_bx bxq isBptr isSc litBytes capIds List.isEmpty_nil
end Go.Own

namespace Go.Own
open Go Go.Proofs
theorem ty2 : tyOf Try.prog 2 = some ⟨1, 8, false, false, .int .i64, [Value.int .i64 0]⟩ := by kernel_rfl
theorem ty3 : tyOf Try.prog 3 = some ⟨1, 8, false, false, .int .i64, [Value.int .i64 0]⟩ := by kernel_rfl
theorem ty4 : tyOf Try.prog 4 = some ⟨1, 1, false, false, .bool, [Value.bool false]⟩ := by kernel_rfl
theorem ty5 : tyOf Try.prog 5 = some ⟨1, 1, false, false, .int .u8, [Value.int .u8 0]⟩ := by kernel_rfl
theorem ty6 : tyOf Try.prog 6 = some ⟨1, 1, false, false, .int .u8, [Value.int .u8 0]⟩ := by kernel_rfl
theorem ty7 : tyOf Try.prog 7 = some ⟨4, 24, true, false, .struct [(0, 2), (1, 3), (2, 4), (3, 6)], [Value.int .i64 0, Value.int .i64 0, Value.bool false, Value.int .u8 0]⟩ := by kernel_rfl
theorem ty8 : tyOf Try.prog 8 = some ⟨4, 24, true, false, .struct [(0, 2), (1, 3), (2, 4), (3, 6)], [Value.int .i64 0, Value.int .i64 0, Value.bool false, Value.int .u8 0]⟩ := by kernel_rfl
theorem ty9 : tyOf Try.prog 9 = some ⟨1, 16, false, false, .str, [Value.string ByteArray.empty]⟩ := by kernel_rfl
theorem ty10 : tyOf Try.prog 10 = some ⟨1, 16, false, false, .str, [Value.string ByteArray.empty]⟩ := by kernel_rfl
theorem ty11 : tyOf Try.prog 11 = some ⟨1, 16, false, false, .str, [Value.string ByteArray.empty]⟩ := by kernel_rfl
theorem ty12 : tyOf Try.prog 12 = some ⟨1, 8, false, false, .int .u64, [Value.int .u64 0]⟩ := by kernel_rfl
theorem ty13 : tyOf Try.prog 13 = some ⟨2, 24, true, false, .struct [(0, 9), (1, 12)], [Value.string ByteArray.empty, Value.int .u64 0]⟩ := by kernel_rfl
theorem ty14 : tyOf Try.prog 14 = some ⟨2, 24, true, false, .struct [(0, 9), (1, 12)], [Value.string ByteArray.empty, Value.int .u64 0]⟩ := by kernel_rfl
theorem ty21 : tyOf Try.prog 21 = some ⟨1, 4, false, false, .int .i32, [Value.int .i32 0]⟩ := by kernel_rfl
theorem ty22 : tyOf Try.prog 22 = some ⟨1, 24, false, false, .slice 25, [Value.slice none 0 0]⟩ := by kernel_rfl
theorem ty23 : tyOf Try.prog 23 = some ⟨2, 32, true, false, .struct [(0, 3), (1, 22)], [Value.int .i64 0, Value.slice none 0 0]⟩ := by kernel_rfl
theorem ty24 : tyOf Try.prog 24 = some ⟨2, 32, true, false, .struct [(0, 3), (1, 22)], [Value.int .i64 0, Value.slice none 0 0]⟩ := by kernel_rfl
theorem ty25 : tyOf Try.prog 25 = some ⟨1, 24, false, false, .slice 3, [Value.slice none 0 0]⟩ := by kernel_rfl
theorem ty27 : tyOf Try.prog 27 = some ⟨2, 32, true, false, .struct [(0, 3), (1, 22)], [Value.int .i64 0, Value.slice none 0 0]⟩ := by kernel_rfl
theorem ty56 : tyOf Try.prog 56 = some ⟨1, 8, false, false, .int .u64, [Value.int .u64 0]⟩ := by kernel_rfl
theorem ty60 : tyOf Try.prog 60 = some ⟨1, 8, false, false, .int .i64, [Value.int .i64 0]⟩ := by kernel_rfl
theorem ty68 : tyOf Try.prog 68 = some ⟨1, 4, false, false, .int .u32, [Value.int .u32 0]⟩ := by kernel_rfl
theorem ty70 : tyOf Try.prog 70 = some ⟨1, 8, false, false, .int .u64, [Value.int .u64 0]⟩ := by kernel_rfl
theorem ty71 : tyOf Try.prog 71 = some ⟨1, 8, false, false, .int .u64, [Value.int .u64 0]⟩ := by kernel_rfl
theorem ty87 : tyOf Try.prog 87 = some ⟨1, 1, false, false, .int .u8, [Value.int .u8 0]⟩ := by kernel_rfl
theorem ty88 : tyOf Try.prog 88 = some ⟨1, 1, false, false, .int .u8, [Value.int .u8 0]⟩ := by kernel_rfl
theorem ty91 : tyOf Try.prog 91 = some ⟨1, 4, false, false, .int .i32, [Value.int .i32 0]⟩ := by kernel_rfl
theorem ty92 : tyOf Try.prog 92 = some ⟨1, 4, false, false, .int .i32, [Value.int .i32 0]⟩ := by kernel_rfl
theorem mixedT : Try.prog.follows .mixedOrders = true := by kernel_rfl
theorem tm2 {l : List (FuncId × Contract)} {wr : Bool} {im : Nat → Bool} {nm : Bool} {bx : Nat → Bool} : (mkT Try.prog l wr im nm bx).ty 2 = some ⟨1, 8, false, false, .int .i64, [Value.int .i64 0]⟩ := tyM ty2
theorem tm3 {l : List (FuncId × Contract)} {wr : Bool} {im : Nat → Bool} {nm : Bool} {bx : Nat → Bool} : (mkT Try.prog l wr im nm bx).ty 3 = some ⟨1, 8, false, false, .int .i64, [Value.int .i64 0]⟩ := tyM ty3
theorem tm4 {l : List (FuncId × Contract)} {wr : Bool} {im : Nat → Bool} {nm : Bool} {bx : Nat → Bool} : (mkT Try.prog l wr im nm bx).ty 4 = some ⟨1, 1, false, false, .bool, [Value.bool false]⟩ := tyM ty4
theorem tm5 {l : List (FuncId × Contract)} {wr : Bool} {im : Nat → Bool} {nm : Bool} {bx : Nat → Bool} : (mkT Try.prog l wr im nm bx).ty 5 = some ⟨1, 1, false, false, .int .u8, [Value.int .u8 0]⟩ := tyM ty5
theorem tm6 {l : List (FuncId × Contract)} {wr : Bool} {im : Nat → Bool} {nm : Bool} {bx : Nat → Bool} : (mkT Try.prog l wr im nm bx).ty 6 = some ⟨1, 1, false, false, .int .u8, [Value.int .u8 0]⟩ := tyM ty6
theorem tm7 {l : List (FuncId × Contract)} {wr : Bool} {im : Nat → Bool} {nm : Bool} {bx : Nat → Bool} : (mkT Try.prog l wr im nm bx).ty 7 = some ⟨4, 24, true, false, .struct [(0, 2), (1, 3), (2, 4), (3, 6)], [Value.int .i64 0, Value.int .i64 0, Value.bool false, Value.int .u8 0]⟩ := tyM ty7
theorem tm8 {l : List (FuncId × Contract)} {wr : Bool} {im : Nat → Bool} {nm : Bool} {bx : Nat → Bool} : (mkT Try.prog l wr im nm bx).ty 8 = some ⟨4, 24, true, false, .struct [(0, 2), (1, 3), (2, 4), (3, 6)], [Value.int .i64 0, Value.int .i64 0, Value.bool false, Value.int .u8 0]⟩ := tyM ty8
theorem tm9 {l : List (FuncId × Contract)} {wr : Bool} {im : Nat → Bool} {nm : Bool} {bx : Nat → Bool} : (mkT Try.prog l wr im nm bx).ty 9 = some ⟨1, 16, false, false, .str, [Value.string ByteArray.empty]⟩ := tyM ty9
theorem tm10 {l : List (FuncId × Contract)} {wr : Bool} {im : Nat → Bool} {nm : Bool} {bx : Nat → Bool} : (mkT Try.prog l wr im nm bx).ty 10 = some ⟨1, 16, false, false, .str, [Value.string ByteArray.empty]⟩ := tyM ty10
theorem tm11 {l : List (FuncId × Contract)} {wr : Bool} {im : Nat → Bool} {nm : Bool} {bx : Nat → Bool} : (mkT Try.prog l wr im nm bx).ty 11 = some ⟨1, 16, false, false, .str, [Value.string ByteArray.empty]⟩ := tyM ty11
theorem tm12 {l : List (FuncId × Contract)} {wr : Bool} {im : Nat → Bool} {nm : Bool} {bx : Nat → Bool} : (mkT Try.prog l wr im nm bx).ty 12 = some ⟨1, 8, false, false, .int .u64, [Value.int .u64 0]⟩ := tyM ty12
theorem tm13 {l : List (FuncId × Contract)} {wr : Bool} {im : Nat → Bool} {nm : Bool} {bx : Nat → Bool} : (mkT Try.prog l wr im nm bx).ty 13 = some ⟨2, 24, true, false, .struct [(0, 9), (1, 12)], [Value.string ByteArray.empty, Value.int .u64 0]⟩ := tyM ty13
theorem tm14 {l : List (FuncId × Contract)} {wr : Bool} {im : Nat → Bool} {nm : Bool} {bx : Nat → Bool} : (mkT Try.prog l wr im nm bx).ty 14 = some ⟨2, 24, true, false, .struct [(0, 9), (1, 12)], [Value.string ByteArray.empty, Value.int .u64 0]⟩ := tyM ty14
theorem tm21 {l : List (FuncId × Contract)} {wr : Bool} {im : Nat → Bool} {nm : Bool} {bx : Nat → Bool} : (mkT Try.prog l wr im nm bx).ty 21 = some ⟨1, 4, false, false, .int .i32, [Value.int .i32 0]⟩ := tyM ty21
theorem tm22 {l : List (FuncId × Contract)} {wr : Bool} {im : Nat → Bool} {nm : Bool} {bx : Nat → Bool} : (mkT Try.prog l wr im nm bx).ty 22 = some ⟨1, 24, false, false, .slice 25, [Value.slice none 0 0]⟩ := tyM ty22
theorem tm23 {l : List (FuncId × Contract)} {wr : Bool} {im : Nat → Bool} {nm : Bool} {bx : Nat → Bool} : (mkT Try.prog l wr im nm bx).ty 23 = some ⟨2, 32, true, false, .struct [(0, 3), (1, 22)], [Value.int .i64 0, Value.slice none 0 0]⟩ := tyM ty23
theorem tm24 {l : List (FuncId × Contract)} {wr : Bool} {im : Nat → Bool} {nm : Bool} {bx : Nat → Bool} : (mkT Try.prog l wr im nm bx).ty 24 = some ⟨2, 32, true, false, .struct [(0, 3), (1, 22)], [Value.int .i64 0, Value.slice none 0 0]⟩ := tyM ty24
theorem tm25 {l : List (FuncId × Contract)} {wr : Bool} {im : Nat → Bool} {nm : Bool} {bx : Nat → Bool} : (mkT Try.prog l wr im nm bx).ty 25 = some ⟨1, 24, false, false, .slice 3, [Value.slice none 0 0]⟩ := tyM ty25
theorem tm27 {l : List (FuncId × Contract)} {wr : Bool} {im : Nat → Bool} {nm : Bool} {bx : Nat → Bool} : (mkT Try.prog l wr im nm bx).ty 27 = some ⟨2, 32, true, false, .struct [(0, 3), (1, 22)], [Value.int .i64 0, Value.slice none 0 0]⟩ := tyM ty27
theorem tm56 {l : List (FuncId × Contract)} {wr : Bool} {im : Nat → Bool} {nm : Bool} {bx : Nat → Bool} : (mkT Try.prog l wr im nm bx).ty 56 = some ⟨1, 8, false, false, .int .u64, [Value.int .u64 0]⟩ := tyM ty56
theorem tm60 {l : List (FuncId × Contract)} {wr : Bool} {im : Nat → Bool} {nm : Bool} {bx : Nat → Bool} : (mkT Try.prog l wr im nm bx).ty 60 = some ⟨1, 8, false, false, .int .i64, [Value.int .i64 0]⟩ := tyM ty60
theorem tm68 {l : List (FuncId × Contract)} {wr : Bool} {im : Nat → Bool} {nm : Bool} {bx : Nat → Bool} : (mkT Try.prog l wr im nm bx).ty 68 = some ⟨1, 4, false, false, .int .u32, [Value.int .u32 0]⟩ := tyM ty68
theorem tm70 {l : List (FuncId × Contract)} {wr : Bool} {im : Nat → Bool} {nm : Bool} {bx : Nat → Bool} : (mkT Try.prog l wr im nm bx).ty 70 = some ⟨1, 8, false, false, .int .u64, [Value.int .u64 0]⟩ := tyM ty70
theorem tm71 {l : List (FuncId × Contract)} {wr : Bool} {im : Nat → Bool} {nm : Bool} {bx : Nat → Bool} : (mkT Try.prog l wr im nm bx).ty 71 = some ⟨1, 8, false, false, .int .u64, [Value.int .u64 0]⟩ := tyM ty71
theorem tm87 {l : List (FuncId × Contract)} {wr : Bool} {im : Nat → Bool} {nm : Bool} {bx : Nat → Bool} : (mkT Try.prog l wr im nm bx).ty 87 = some ⟨1, 1, false, false, .int .u8, [Value.int .u8 0]⟩ := tyM ty87
theorem tm88 {l : List (FuncId × Contract)} {wr : Bool} {im : Nat → Bool} {nm : Bool} {bx : Nat → Bool} : (mkT Try.prog l wr im nm bx).ty 88 = some ⟨1, 1, false, false, .int .u8, [Value.int .u8 0]⟩ := tyM ty88
theorem tm91 {l : List (FuncId × Contract)} {wr : Bool} {im : Nat → Bool} {nm : Bool} {bx : Nat → Bool} : (mkT Try.prog l wr im nm bx).ty 91 = some ⟨1, 4, false, false, .int .i32, [Value.int .i32 0]⟩ := tyM ty91
theorem tm92 {l : List (FuncId × Contract)} {wr : Bool} {im : Nat → Bool} {nm : Bool} {bx : Nat → Bool} : (mkT Try.prog l wr im nm bx).ty 92 = some ⟨1, 4, false, false, .int .i32, [Value.int .i32 0]⟩ := tyM ty92
attribute [go_sem] tm2 tm3 tm4 tm5 tm6 tm7 tm8 tm9 tm10 tm11 tm12 tm13 tm14 tm21 tm22 tm23 tm24 tm25 tm27 tm56 tm60 tm68 tm70 tm71 tm87 tm88 tm91 tm92
end Go.Own

namespace Go.Own
open Go Go.Proofs
set_option linter.unusedSimpArgs false
set_option linter.unusedVariables false
set_option maxRecDepth 20000


noncomputable def E0 : Env := ⟨Try.prog, 0, fun _ => True, fun _ _ _ _ => trivial⟩

theorem take_succ_getD {α : Type} {xs : List α} {i : Nat} (h : i < xs.length) (d : α) : xs.take (i + 1) = xs.take i ++ [xs.getD i d] := by
  rw [List.take_add_one]; simp [List.getD_eq_getElem?_getD, h]
theorem drop_getD {α : Type} {xs : List α} {i : Nat} (h : i < xs.length) (d : α) : xs.drop i = xs.getD i d :: xs.drop (i + 1) := by
  rw [List.drop_eq_getElem_cons h]; simp [List.getD_eq_getElem?_getD, h]
theorem eq_of_takes {α : Type} {xs ys : List α} {i : Nat} (h : xs.length = ys.length) (hi : ¬ i < xs.length) (ht : xs.take i = ys.take i) : xs = ys := by
  rwa [List.take_of_length_le (by omega), List.take_of_length_le (by omega)] at ht
theorem ne_of_getD {α : Type} {xs ys : List α} {i : Nat} {d : α} (h : xs.getD i d ≠ ys.getD i d) : xs ≠ ys := fun e => h (by rw [e])

theorem not_len {xs ys : List Int} (h : ¬ (xs.length : Int) = ys.length) : (xs == ys) = false := beq_eq_false_iff_ne.2 fun e => h (by rw [e])

theorem all_getD {rs : List (List Int)} {B : Nat} (h : ∀ r ∈ rs, r.length ≤ B) (i : Nat) : (rs.getD i []).length ≤ B := by
  by_cases hi : i < rs.length
  · exact h _ (by simp [List.getD_eq_getElem?_getD, hi])
  · simp [List.getD_eq_getElem?_getD, Nat.le_of_not_lt hi]

theorem all_drop {α : Type} {xs : List α} {i : Nat} (h : i < xs.length) (d : α) (f : α → Bool) : (xs.drop i).all f = (f (xs.getD i d) && (xs.drop (i + 1)).all f) := by
  rw [drop_getD h d]; rfl

/-! The sizes. -/
def szI (r : List Int) (k : Int) : Int := if k - r.length < 0 then -1 else k - r.length
def szGo : List (List Int) → Int → Int
  | [], k => k
  | r :: rs, k => if szI r k < 0 then -1 else szGo rs (szI r k)
def szL (rs : List (List Int)) (k : Int) : Int := if k - rs.length < 0 then -1 else szGo rs (k - rs.length)
end Go.Own

namespace Go.Own
open Go Go.Proofs
set_option linter.unusedSimpArgs false
set_option linter.unusedVariables false
set_option maxRecDepth 20000

/-! laws.eqIntS -/
def cEqIntS : Contract := ⟨[], false, fun
  | [.one (.sl 1 a), .one (.sl 1 b)] => some (WfI a ∧ WfI b, [⟨false, [.d (.v (.bool (unI a == unI b)))]⟩], [])
  | _ => none⟩

theorem eqIntS_ok : ContractOK E0 10 cEqIntS := by
  refine contract_of_wpc (E := E0) (T := mkT Try.prog [] false (fun _ => false) true (fun _ => false)) (mkT_ok (E := E0) .nil) (fn := Try.f10) Try.func10 (by kernel_rfl) rfl mixedT (by kernel_rfl) rfl ?_
  intro args p rs ms hr
  unfold cEqIntS at hr
  dsimp only at hr
  split at hr
  · simp only [Option.some.injEq, Prod.mk.injEq] at hr
    obtain ⟨rfl, rfl, rfl⟩ := hr
    refine ⟨rfl, rfl, Nat.le_of_ble_eq_true rfl, ?_⟩
    rintro ⟨h1, h2⟩ bs
    obtain ⟨xs, rfl, hx⟩ := h1.ex
    obtain ⟨ys, rfl, hy⟩ := h2.ex
    clear h1 h2
    rw [unI_iL, unI_iL]
    have hm : maxLen = 9223372036854775807 := rfl
    (repeat' (first
      | (refine gate_a fun _ => ?_)
      | (refine fork_intro (fun hb => ?_) (fun hb => ?_) <;> (try simp only [ew, cEqIntS, Try.results10] at hb))
      | (simp only [go_sem, Nat.reduceLeDiff, Nat.reduceEqDiff, reduceIte, reduceCtorEq, Nat.reduceAdd, Nat.reduceMul, Nat.reduceSub, Nat.reduceLT, Int.reduceLT, Int.reduceLE, Int.reduceNeg, Int.reduceToNat, Nat.reduceBEq, Nat.reduceBNe, Int.reduceGE, Int.reduceGT, *, cEqIntS, Try.results10])))
    · exact (not_len ‹_›).symm
    · refine loop_intro { ι := Nat, rs := [(4, 5), (11, 26)], mods := [(5, fun i => .one (.d (.v (.int .i64 i))))], boxes := [], arrs := [], ok := fun i => i ≤ xs.length ∧ xs.take i = ys.take i, mu := fun i => xs.length - i } rfl 0 ⟨Nat.zero_le _, rfl⟩ ?_ fun i hi => ?_
      · (repeat' (first
      | (refine gate_a fun _ => ?_)
      | (refine fork_intro (fun hb => ?_) (fun hb => ?_) <;> (try simp only [ew, cEqIntS] at hb))
      | (simp only [go_sem, Nat.reduceLeDiff, Nat.reduceEqDiff, reduceIte, reduceCtorEq, Nat.reduceAdd, Nat.reduceMul, Nat.reduceSub, Nat.reduceLT, Int.reduceLT, Int.reduceLE, Int.reduceNeg, Int.reduceToNat, Nat.reduceBEq, Nat.reduceBNe, Int.reduceGE, Int.reduceGT, *, cEqIntS])))
      · dsimp only at i hi
        obtain ⟨hi, ht⟩ := hi
        have hlen : xs.length = ys.length := by omega
        (repeat' (first
      | (refine gate_a fun _ => ?_)
      | (refine fork_intro (fun hb => ?_) (fun hb => ?_) <;> (try simp only [ew, cEqIntS, Try.results10] at hb))
      | (simp only [go_sem, Nat.reduceLeDiff, Nat.reduceEqDiff, reduceIte, reduceCtorEq, Nat.reduceAdd, Nat.reduceMul, Nat.reduceSub, Nat.reduceLT, Int.reduceLT, Int.reduceLE, Int.reduceNeg, Int.reduceToNat, Nat.reduceBEq, Nat.reduceBNe, Int.reduceGE, Int.reduceGT, *, cEqIntS, Try.results10])))
        · exact (beq_eq_false_iff_ne.2 (ne_of_getD ‹_›)).symm
        · refine loop_next (i + 1) ⟨by omega, ?_⟩ (by dsimp only; omega) ?_
          · rw [take_succ_getD (by omega) 0, take_succ_getD (by omega) 0, ht]; simp_all
          · (repeat' (first
      | (refine gate_a fun _ => ?_)
      | (refine fork_intro (fun hb => ?_) (fun hb => ?_) <;> (try simp only [ew] at hb))
      | (simp only [go_sem, Nat.reduceLeDiff, Nat.reduceEqDiff, reduceIte, reduceCtorEq, Nat.reduceAdd, Nat.reduceMul, Nat.reduceSub, Nat.reduceLT, Int.reduceLT, Int.reduceLE, Int.reduceNeg, Int.reduceToNat, Nat.reduceBEq, Nat.reduceBNe, Int.reduceGE, Int.reduceGT, *])))
        · have := eq_of_takes hlen (by omega) ht
          subst this; simp
  · cases hr

/-! laws.szIntS -/
def cSzIntS : Contract := ⟨[], false, fun
  | [.one (.sl 1 a), .one (.v (.int .i64 k))] => some (WfI a ∧ 0 ≤ k ∧ k ≤ 1048576, [⟨false, [.d (.v (.int .i64 (szI (unI a) k)))]⟩], [])
  | _ => none⟩

theorem szIntS_ok : ContractOK E0 31 cSzIntS := by
  refine contract_of_wpc (E := E0) (T := mkT Try.prog [] false (fun _ => false) true (fun _ => false)) (mkT_ok (E := E0) .nil) (fn := Try.f31) Try.func31 (by kernel_rfl) rfl mixedT (by kernel_rfl) rfl ?_
  intro args p rs ms hr
  unfold cSzIntS at hr
  dsimp only at hr
  split at hr
  · simp only [Option.some.injEq, Prod.mk.injEq] at hr
    obtain ⟨rfl, rfl, rfl⟩ := hr
    refine ⟨rfl, rfl, Nat.le_of_ble_eq_true rfl, ?_⟩
    rintro ⟨h1, h2, h3⟩ bs
    obtain ⟨xs, rfl, hx⟩ := h1.ex
    clear h1
    rw [unI_iL]
    have hm : maxLen = 9223372036854775807 := rfl
    (repeat' (first
      | (refine gate_a fun _ => ?_)
      | (refine fork_intro (fun hb => ?_) (fun hb => ?_) <;> (try simp only [ew, cSzIntS, Try.results31, szI] at hb))
      | (simp only [go_sem, Nat.reduceLeDiff, Nat.reduceEqDiff, reduceIte, reduceCtorEq, Nat.reduceAdd, Nat.reduceMul, Nat.reduceSub, Nat.reduceLT, Int.reduceLT, Int.reduceLE, Int.reduceNeg, Int.reduceToNat, Nat.reduceBEq, Nat.reduceBNe, Int.reduceGE, Int.reduceGT, *, cSzIntS, Try.results31, szI])))
  · cases hr

/-! laws.szIntSS -/
def cSzIntSS : Contract := ⟨[], false, fun
  | [.one (.sl 1 a), .one (.v (.int .i64 k))] => some (WfS a ∧ 0 ≤ k ∧ k ≤ 1048576, [⟨false, [.d (.v (.int .i64 (szL (unS a) k)))]⟩], [])
  | _ => none⟩

theorem szI_le {r : List Int} {k : Int} (h : ¬ szI r k < 0) : szI r k ≤ k := by unfold szI at *; split <;> omega

theorem szIntSS_ok : ContractOK E0 14 cSzIntSS := by
  refine contract_of_wpc (E := E0) (T := mkT Try.prog [(31, cSzIntS)] false (fun _ => false) true (fun _ => false)) (mkT_ok (E := E0) (.cons szIntS_ok .nil)) (fn := Try.f14) Try.func14 (by kernel_rfl) rfl mixedT (by kernel_rfl) rfl ?_
  intro args p rs ms hr
  unfold cSzIntSS at hr
  dsimp only at hr
  split at hr
  · rename_i l k
    simp only [Option.some.injEq, Prod.mk.injEq] at hr
    obtain ⟨rfl, rfl, rfl⟩ := hr
    refine ⟨rfl, rfl, Nat.le_of_ble_eq_true rfl, ?_⟩
    rintro ⟨h1, h2, h3⟩ bs
    obtain ⟨rs, rfl, hx, hy⟩ := h1.ex
    clear h1
    rw [unS_sL]
    have hm : maxLen = 9223372036854775807 := rfl
    unfold szL
    (repeat' (first
      | (refine gate_a fun _ => ?_)
      | (refine fork_intro (fun hb => ?_) (fun hb => ?_) <;> (try simp only [ew, cSzIntSS, Try.results14, cSzIntS] at hb))
      | (simp only [go_sem, Nat.reduceLeDiff, Nat.reduceEqDiff, reduceIte, reduceCtorEq, Nat.reduceAdd, Nat.reduceMul, Nat.reduceSub, Nat.reduceLT, Int.reduceLT, Int.reduceLE, Int.reduceNeg, Int.reduceToNat, Nat.reduceBEq, Nat.reduceBNe, Int.reduceGE, Int.reduceGT, *, cSzIntSS, Try.results14, cSzIntS])))
    refine loop_intro { ι := Nat × Int, rs := [(4, 5), (12, 26)], mods := [(5, fun i => .one (.d (.v (.int .i64 i.1)))), (1, fun i => .one (.d (.v (.int .i64 i.2))))], boxes := [], arrs := [], ok := fun i => i.1 ≤ rs.length ∧ 0 ≤ i.2 ∧ i.2 ≤ 1048576 ∧ szGo (rs.drop i.1) i.2 = szGo rs (k - rs.length), mu := fun i => rs.length - i.1 } rfl (0, k - rs.length) ⟨Nat.zero_le _, by dsimp only; omega, by dsimp only; omega, rfl⟩ ?_ ?_
    · (repeat' (first
      | (refine gate_a fun _ => ?_)
      | (refine fork_intro (fun hb => ?_) (fun hb => ?_) <;> (try simp only [ew] at hb))
      | (simp only [go_sem, Nat.reduceLeDiff, Nat.reduceEqDiff, reduceIte, reduceCtorEq, Nat.reduceAdd, Nat.reduceMul, Nat.reduceSub, Nat.reduceLT, Int.reduceLT, Int.reduceLE, Int.reduceNeg, Int.reduceToNat, Nat.reduceBEq, Nat.reduceBNe, Int.reduceGE, Int.reduceGT, *])))
    · rintro ⟨i, kk⟩ hi
      dsimp only at hi
      obtain ⟨hi, hk0, hk1, ht⟩ := hi
      (repeat' (first
      | (refine gate_a fun _ => ?_)
      | (refine fork_intro (fun hb => ?_) (fun hb => ?_) <;> (try simp only [ew, cSzIntSS, Try.results14, cSzIntS] at hb))
      | (simp only [go_sem, Nat.reduceLeDiff, Nat.reduceEqDiff, reduceIte, reduceCtorEq, Nat.reduceAdd, Nat.reduceMul, Nat.reduceSub, Nat.reduceLT, Int.reduceLT, Int.reduceLE, Int.reduceNeg, Int.reduceToNat, Nat.reduceBEq, Nat.reduceBNe, Int.reduceGE, Int.reduceGT, *, cSzIntSS, Try.results14, cSzIntS])))
      · rw [← ht, drop_getD (by omega) [], szGo, if_pos ‹_›]
      · have := szI_le ‹_›
        refine loop_next (i + 1, szI (rs.getD i []) kk) ⟨by dsimp only; omega, by dsimp only; omega, by dsimp only; omega, ?_⟩ (by dsimp only; omega) ?_
        · dsimp only
          rw [← ht, drop_getD (xs := rs) (i := i) (by omega) [], szGo, if_neg ‹_›]
        · (repeat' (first
      | (refine gate_a fun _ => ?_)
      | (refine fork_intro (fun hb => ?_) (fun hb => ?_) <;> (try simp only [ew] at hb))
      | (simp only [go_sem, Nat.reduceLeDiff, Nat.reduceEqDiff, reduceIte, reduceCtorEq, Nat.reduceAdd, Nat.reduceMul, Nat.reduceSub, Nat.reduceLT, Int.reduceLT, Int.reduceLE, Int.reduceNeg, Int.reduceToNat, Nat.reduceBEq, Nat.reduceBNe, Int.reduceGE, Int.reduceGT, *])))
      · rw [← ht, List.drop_of_length_le (by omega)]; rfl
  · cases hr

/-! laws.szTable -/
def WfT (c : Int) (l : List (List D)) : Prop := WfS l ∧ -9223372036854775808 ≤ c ∧ c ≤ 9223372036854775807

def cSzTable : Contract := ⟨[], false, fun
  | [.agg [.v (.int .i64 c), .sl 1 a], .one (.v (.int .i64 k))] => some (WfS a ∧ 0 ≤ k ∧ k ≤ 1048576, [⟨false, [.d (.v (.int .i64 (szL (unS a) k)))]⟩], [])
  | _ => none⟩

theorem szGo_neg : ∀ {rs : List (List Int)} {k : Int}, 0 ≤ k → szGo rs k < 0 → szGo rs k = -1
  | [], k, h, h1 => by simp [szGo] at h1; omega
  | r :: rs, k, h, h1 => by
    simp only [szGo] at h1 ⊢
    split
    · rfl
    · rw [if_neg ‹_›] at h1
      exact szGo_neg (by omega) h1
theorem szL_neg {rs : List (List Int)} {k : Int} (h : szL rs k < 0) : szL rs k = -1 := by
  unfold szL at *
  split
  · rfl
  · rw [if_neg ‹_›] at h
    exact szGo_neg (by omega) h

theorem szTable_ok : ContractOK E0 4 cSzTable := by
  refine contract_of_wpc (E := E0) (T := mkT Try.prog [(14, cSzIntSS)] false (fun _ => false) true (fun _ => false)) (mkT_ok (E := E0) (.cons szIntSS_ok .nil)) (fn := Try.f4) Try.func4 (by kernel_rfl) rfl mixedT (by kernel_rfl) rfl ?_
  intro args p rs ms hr
  unfold cSzTable at hr
  dsimp only at hr
  split at hr
  · rename_i c l k
    simp only [Option.some.injEq, Prod.mk.injEq] at hr
    obtain ⟨rfl, rfl, rfl⟩ := hr
    refine ⟨rfl, rfl, Nat.le_of_ble_eq_true rfl, ?_⟩
    rintro ⟨h1, h2, h3⟩ bs
    obtain ⟨rs, rfl, hx, hy⟩ := h1.ex
    clear h1
    rw [unS_sL]
    have hm : maxLen = 9223372036854775807 := rfl
    (repeat' (first
      | (refine gate_a fun _ => ?_)
      | (refine fork_intro (fun hb => ?_) (fun hb => ?_) <;> (try simp only [ew, cSzTable, Try.results4, cSzIntSS] at hb))
      | (simp only [go_sem, Nat.reduceLeDiff, Nat.reduceEqDiff, reduceIte, reduceCtorEq, Nat.reduceAdd, Nat.reduceMul, Nat.reduceSub, Nat.reduceLT, Int.reduceLT, Int.reduceLE, Int.reduceNeg, Int.reduceToNat, Nat.reduceBEq, Nat.reduceBNe, Int.reduceGE, Int.reduceGT, *, cSzTable, Try.results4, cSzIntSS])))
    all_goals first | exact (szL_neg ‹_›).symm | skip
  · cases hr
end Go.Own

namespace Go.Own
open Go Go.Proofs
set_option linter.unusedSimpArgs false
set_option linter.unusedVariables false
set_option maxRecDepth 20000


/-! laws.toIntS -/
def cToIntS : Contract := ⟨[], false, fun
  | [.one (.sl 1 l)] => some (WfI l ∧ l.length ≤ 16777216, [⟨false, [.own 1 l 1]⟩], [])
  | _ => none⟩

theorem toIntS_ok : ContractOK E0 7 cToIntS := by
  refine contract_of_wpc (E := E0) (T := mkT Try.prog [] false (fun _ => false) true (fun _ => false)) (mkT_ok (E := E0) .nil) (fn := Try.f7) Try.func7 (by kernel_rfl) rfl mixedT (by kernel_rfl) rfl ?_
  intro args p rs ms hr
  unfold cToIntS at hr
  dsimp only at hr
  split at hr
  · simp only [Option.some.injEq, Prod.mk.injEq] at hr
    obtain ⟨rfl, rfl, rfl⟩ := hr
    refine ⟨rfl, rfl, Nat.le_of_ble_eq_true rfl, ?_⟩
    rintro ⟨h1, hx⟩ bs
    obtain ⟨xs, rfl, -⟩ := h1.ex
    clear h1
    rw [iL_length] at hx
    (repeat' (first
      | (refine gate_a fun _ => ?_)
      | (refine fork_intro (fun hb => ?_) (fun hb => ?_) <;> (try simp only [ew, cToIntS] at hb))
      | (simp only [go_sem, Nat.reduceLeDiff, Nat.reduceEqDiff, reduceIte, reduceCtorEq, Nat.reduceAdd, Nat.reduceMul, Nat.reduceSub, Nat.reduceLT, Int.reduceLT, Int.reduceLE, Int.reduceNeg, Int.reduceToNat, Nat.reduceBEq, Nat.reduceBNe, Int.reduceGE, Int.reduceGT, *, cToIntS])))
    refine loop_intro { ι := Nat, rs := [(8, 21)], mods := [(4, fun i => .one (.d (.v (.int .i64 i))))], boxes := [], arrs := [(3, fun i => (1, iL (xs.take i ++ List.replicate (xs.length - i) 0), 1))], ok := fun i => i ≤ xs.length, mu := fun i => xs.length - i } rfl 0 (Nat.zero_le _) ?_ fun i hi => ?_
    · (repeat' (first
      | (refine gate_a fun _ => ?_)
      | (refine fork_intro (fun hb => ?_) (fun hb => ?_) <;> (try simp only [ew, cToIntS] at hb))
      | (simp only [go_sem, Nat.reduceLeDiff, Nat.reduceEqDiff, reduceIte, reduceCtorEq, Nat.reduceAdd, Nat.reduceMul, Nat.reduceSub, Nat.reduceLT, Int.reduceLT, Int.reduceLE, Int.reduceNeg, Int.reduceToNat, Nat.reduceBEq, Nat.reduceBNe, Int.reduceGE, Int.reduceGT, *, cToIntS])))
      simp [iL]
    · dsimp only at i hi
      (repeat' (first
      | (refine gate_a fun _ => ?_)
      | (refine fork_intro (fun hb => ?_) (fun hb => ?_) <;> (try simp only [ew, cToIntS, Try.results7] at hb))
      | (simp only [go_sem, Nat.reduceLeDiff, Nat.reduceEqDiff, reduceIte, reduceCtorEq, Nat.reduceAdd, Nat.reduceMul, Nat.reduceSub, Nat.reduceLT, Int.reduceLT, Int.reduceLE, Int.reduceNeg, Int.reduceToNat, Nat.reduceBEq, Nat.reduceBNe, Int.reduceGE, Int.reduceGT, *, cToIntS, Try.results7])))
      · refine loop_next (i + 1) (by dsimp only; omega) (by dsimp only; omega) ?_
        (repeat' (first
      | (refine gate_a fun _ => ?_)
      | (refine fork_intro (fun hb => ?_) (fun hb => ?_) <;> (try simp only [ew, take_set] at hb))
      | (simp only [go_sem, Nat.reduceLeDiff, Nat.reduceEqDiff, reduceIte, reduceCtorEq, Nat.reduceAdd, Nat.reduceMul, Nat.reduceSub, Nat.reduceLT, Int.reduceLT, Int.reduceLE, Int.reduceNeg, Int.reduceToNat, Nat.reduceBEq, Nat.reduceBNe, Int.reduceGE, Int.reduceGT, *, take_set])))
      · rw [take_all ‹_›]
  · cases hr

/-! laws.toIntSS -/
def cToIntSS : Contract := ⟨[], false, fun
  | [.one (.sl 1 l)] => some (WfS l ∧ l.length ≤ 16777216 ∧ ∀ r ∈ unS l, r.length ≤ 16777216, [⟨false, [.own 1 l 1]⟩], [])
  | _ => none⟩

theorem sL_set {rs : List (List Int)} {z : List D} {i : Nat} (h : i < rs.length) : (sL (rs.take i) ++ List.replicate (rs.length - i) z).set i [D.sl 1 (iL (rs.getD i []))] = sL (rs.take (i + 1)) ++ List.replicate (rs.length - (i + 1)) z := by
  have e : rs.length - i = rs.length - (i + 1) + 1 := by omega
  have e2 : (sL (rs.take i)).length = i := by rw [sL_length]; simp; omega
  rw [List.set_append_right _ _ (by omega), e2, Nat.sub_self, e, List.replicate_succ, List.set_cons_zero, take_succ_getD h []]
  simp [sL]
theorem sL_set' {rs : List (List Int)} {z : D} {i : Nat} (h : i < rs.length) : (sL (rs.take i) ++ List.replicate (rs.length - i) [z]).set i (((sL (rs.take i) ++ List.replicate (rs.length - i) [z]).getD i []).set 0 (D.sl 1 (iL (rs.getD i [])))) = sL (rs.take (i + 1)) ++ List.replicate (rs.length - (i + 1)) [z] := by
  have e : (sL (rs.take i) ++ List.replicate (rs.length - i) [z]).getD i [] = [z] := by
    have e2 : (sL (rs.take i)).length = i := by rw [sL_length]; simp; omega
    rw [List.getD_eq_getElem?_getD, List.getElem?_append_right (by omega), e2, Nat.sub_self]
    have : 0 < rs.length - i := by omega
    simp [this]
  rw [e, List.set_cons_zero, sL_set h]
theorem sL_all {rs : List (List Int)} {z : List D} {i : Nat} (h : ¬ i < rs.length) : sL (rs.take i) ++ List.replicate (rs.length - i) z = sL rs := by
  have : rs.length - i = 0 := by omega
  rw [this, List.take_of_length_le (by omega)]; simp

theorem toIntSS_ok : ContractOK E0 20 cToIntSS := by
  refine contract_of_wpc (E := E0) (T := mkT Try.prog [(7, cToIntS)] false (fun _ => false) true (fun _ => false)) (mkT_ok (E := E0) (.cons toIntS_ok .nil)) (fn := Try.f20) Try.func20 (by kernel_rfl) rfl mixedT (by kernel_rfl) rfl ?_
  intro args p rs ms hr
  unfold cToIntSS at hr
  dsimp only at hr
  split at hr
  · simp only [Option.some.injEq, Prod.mk.injEq] at hr
    obtain ⟨rfl, rfl, rfl⟩ := hr
    refine ⟨rfl, rfl, Nat.le_of_ble_eq_true rfl, ?_⟩
    rintro ⟨h1, hx, hy⟩ bs
    obtain ⟨rs, rfl, -⟩ := h1.ex
    clear h1
    rw [sL_length] at hx
    rw [unS_sL] at hy
    (repeat' (first
      | (refine gate_a fun _ => ?_)
      | (refine fork_intro (fun hb => ?_) (fun hb => ?_) <;> (try simp only [ew, cToIntSS] at hb))
      | (simp only [go_sem, Nat.reduceLeDiff, Nat.reduceEqDiff, reduceIte, reduceCtorEq, Nat.reduceAdd, Nat.reduceMul, Nat.reduceSub, Nat.reduceLT, Int.reduceLT, Int.reduceLE, Int.reduceNeg, Int.reduceToNat, Nat.reduceBEq, Nat.reduceBNe, Int.reduceGE, Int.reduceGT, *, cToIntSS])))
    refine loop_intro { ι := Nat, rs := [(8, 22)], mods := [(4, fun i => .one (.d (.v (.int .i64 i))))], boxes := [], arrs := [(3, fun i => (1, sL (rs.take i) ++ List.replicate (rs.length - i) [D.v (.slice none 0 0)], 1))], ok := fun i => i ≤ rs.length, mu := fun i => rs.length - i } rfl 0 (Nat.zero_le _) ?_ fun i hi => ?_
    · (repeat' (first
      | (refine gate_a fun _ => ?_)
      | (refine fork_intro (fun hb => ?_) (fun hb => ?_) <;> (try simp only [ew, cToIntSS] at hb))
      | (simp only [go_sem, Nat.reduceLeDiff, Nat.reduceEqDiff, reduceIte, reduceCtorEq, Nat.reduceAdd, Nat.reduceMul, Nat.reduceSub, Nat.reduceLT, Int.reduceLT, Int.reduceLE, Int.reduceNeg, Int.reduceToNat, Nat.reduceBEq, Nat.reduceBNe, Int.reduceGE, Int.reduceGT, *, cToIntSS])))
      simp [sL]
    · dsimp only at i hi
      have hyi := all_getD hy
      have hyj : ∀ i, (rs.getD i []).length ≤ maxLen := fun i => Nat.le_trans (hyi i) (by decide)
      (repeat' (first
      | (refine gate_a fun _ => ?_)
      | (refine fork_intro (fun hb => ?_) (fun hb => ?_) <;> (try simp only [ew, cToIntSS, cToIntS, Try.results20] at hb))
      | (simp only [go_sem, Nat.reduceLeDiff, Nat.reduceEqDiff, reduceIte, reduceCtorEq, Nat.reduceAdd, Nat.reduceMul, Nat.reduceSub, Nat.reduceLT, Int.reduceLT, Int.reduceLE, Int.reduceNeg, Int.reduceToNat, Nat.reduceBEq, Nat.reduceBNe, Int.reduceGE, Int.reduceGT, *, cToIntSS, cToIntS, Try.results20])))
      · refine loop_next (i + 1) (by dsimp only; omega) (by dsimp only; omega) ?_
        (repeat' (first
      | (refine gate_a fun _ => ?_)
      | (refine fork_intro (fun hb => ?_) (fun hb => ?_) <;> (try simp only [ew, sL_set'] at hb))
      | (simp only [go_sem, Nat.reduceLeDiff, Nat.reduceEqDiff, reduceIte, reduceCtorEq, Nat.reduceAdd, Nat.reduceMul, Nat.reduceSub, Nat.reduceLT, Int.reduceLT, Int.reduceLE, Int.reduceNeg, Int.reduceToNat, Nat.reduceBEq, Nat.reduceBNe, Int.reduceGE, Int.reduceGT, *, sL_set'])))
      · rw [sL_all ‹_›]
  · cases hr

/-! laws.toTable -/
def cToTable : Contract := ⟨[], false, fun
  | [.agg [.v (.int .i64 c), .sl 1 l]] => some (WfS l ∧ l.length ≤ 16777216 ∧ ∀ r ∈ unS l, r.length ≤ 16777216, [⟨true, [.d (.v (.int .i64 c)), .own 1 l 1]⟩], [])
  | _ => none⟩

theorem toTable_ok : ContractOK E0 6 cToTable := by
  refine contract_of_wpc (E := E0) (T := mkT Try.prog [(20, cToIntSS)] false (fun _ => false) true (fun _ => false)) (mkT_ok (E := E0) (.cons toIntSS_ok .nil)) (fn := Try.f6) Try.func6 (by kernel_rfl) rfl mixedT (by kernel_rfl) rfl ?_
  intro args p rs ms hr
  unfold cToTable at hr
  dsimp only at hr
  split at hr
  · simp only [Option.some.injEq, Prod.mk.injEq] at hr
    obtain ⟨rfl, rfl, rfl⟩ := hr
    refine ⟨rfl, rfl, Nat.le_of_ble_eq_true rfl, ?_⟩
    rintro ⟨h1, hx, hy⟩ bs
    have h1' : WfS _ := h1
    obtain ⟨rs, rfl, -⟩ := h1.ex
    simp only [sL_length, unS_sL] at hx hy
    rw [wfS_sL] at h1'
    (repeat' (first
      | (refine gate_a fun _ => ?_)
      | (refine fork_intro (fun hb => ?_) (fun hb => ?_) <;> (try simp only [ew, cToTable, cToIntSS, Try.results6] at hb))
      | (simp only [go_sem, Nat.reduceLeDiff, Nat.reduceEqDiff, reduceIte, reduceCtorEq, Nat.reduceAdd, Nat.reduceMul, Nat.reduceSub, Nat.reduceLT, Int.reduceLT, Int.reduceLE, Int.reduceNeg, Int.reduceToNat, Nat.reduceBEq, Nat.reduceBNe, Int.reduceGE, Int.reduceGT, *, cToTable, cToIntSS, Try.results6])))
  · cases hr

/-! laws.eqIntSS -/
def cEqIntSS : Contract := ⟨[], false, fun
  | [.one (.sl 1 a), .one (.sl 1 b)] => some (WfS a ∧ WfS b, [⟨false, [.d (.v (.bool (unS a == unS b)))]⟩], [])
  | _ => none⟩

theorem not_len' {xs ys : List (List Int)} (h : ¬ (xs.length : Int) = ys.length) : (xs == ys) = false := beq_eq_false_iff_ne.2 fun e => h (by rw [e])

theorem eqIntSS_ok : ContractOK E0 28 cEqIntSS := by
  refine contract_of_wpc (E := E0) (T := mkT Try.prog [(10, cEqIntS)] false (fun _ => false) true (fun _ => false)) (mkT_ok (E := E0) (.cons eqIntS_ok .nil)) (fn := Try.f28) Try.func28 (by kernel_rfl) rfl mixedT (by kernel_rfl) rfl ?_
  intro args p rs ms hr
  unfold cEqIntSS at hr
  dsimp only at hr
  split at hr
  · simp only [Option.some.injEq, Prod.mk.injEq] at hr
    obtain ⟨rfl, rfl, rfl⟩ := hr
    refine ⟨rfl, rfl, Nat.le_of_ble_eq_true rfl, ?_⟩
    rintro ⟨h1, h2⟩ bs
    obtain ⟨xs, rfl, hx, hx'⟩ := h1.ex
    obtain ⟨ys, rfl, hy, hy'⟩ := h2.ex
    clear h1 h2
    rw [unS_sL, unS_sL]
    have hm : maxLen = 9223372036854775807 := rfl
    (repeat' (first
      | (refine gate_a fun _ => ?_)
      | (refine fork_intro (fun hb => ?_) (fun hb => ?_) <;> (try simp only [ew, cEqIntSS, cEqIntS, Try.results28] at hb))
      | (simp only [go_sem, Nat.reduceLeDiff, Nat.reduceEqDiff, reduceIte, reduceCtorEq, Nat.reduceAdd, Nat.reduceMul, Nat.reduceSub, Nat.reduceLT, Int.reduceLT, Int.reduceLE, Int.reduceNeg, Int.reduceToNat, Nat.reduceBEq, Nat.reduceBNe, Int.reduceGE, Int.reduceGT, *, cEqIntSS, cEqIntS, Try.results28])))
    · exact (not_len' ‹_›).symm
    · refine loop_intro { ι := Nat, rs := [(4, 5), (11, 27)], mods := [(5, fun i => .one (.d (.v (.int .i64 i))))], boxes := [], arrs := [], ok := fun i => i ≤ xs.length ∧ xs.take i = ys.take i, mu := fun i => xs.length - i } rfl 0 ⟨Nat.zero_le _, rfl⟩ ?_ fun i hi => ?_
      · (repeat' (first
      | (refine gate_a fun _ => ?_)
      | (refine fork_intro (fun hb => ?_) (fun hb => ?_) <;> (try simp only [ew, cEqIntSS] at hb))
      | (simp only [go_sem, Nat.reduceLeDiff, Nat.reduceEqDiff, reduceIte, reduceCtorEq, Nat.reduceAdd, Nat.reduceMul, Nat.reduceSub, Nat.reduceLT, Int.reduceLT, Int.reduceLE, Int.reduceNeg, Int.reduceToNat, Nat.reduceBEq, Nat.reduceBNe, Int.reduceGE, Int.reduceGT, *, cEqIntSS])))
      · dsimp only at i hi
        obtain ⟨hi, ht⟩ := hi
        have hlen : xs.length = ys.length := by omega
        have hxi := all_getD hx'
        have hyi := all_getD hy'
        (repeat' (first
      | (refine gate_a fun _ => ?_)
      | (refine fork_intro (fun hb => ?_) (fun hb => ?_) <;> (try simp only [ew, cEqIntSS, cEqIntS, Try.results28] at hb))
      | (simp only [go_sem, Nat.reduceLeDiff, Nat.reduceEqDiff, reduceIte, reduceCtorEq, Nat.reduceAdd, Nat.reduceMul, Nat.reduceSub, Nat.reduceLT, Int.reduceLT, Int.reduceLE, Int.reduceNeg, Int.reduceToNat, Nat.reduceBEq, Nat.reduceBNe, Int.reduceGE, Int.reduceGT, *, cEqIntSS, cEqIntS, Try.results28])))
        · exact (beq_eq_false_iff_ne.2 (ne_of_getD ‹_›)).symm
        · refine loop_next (i + 1) ⟨by omega, ?_⟩ (by dsimp only; omega) ?_
          · rw [take_succ_getD (by omega) [], take_succ_getD (by omega) [], ht]; simp_all
          · (repeat' (first
      | (refine gate_a fun _ => ?_)
      | (refine fork_intro (fun hb => ?_) (fun hb => ?_) <;> (try simp only [ew] at hb))
      | (simp only [go_sem, Nat.reduceLeDiff, Nat.reduceEqDiff, reduceIte, reduceCtorEq, Nat.reduceAdd, Nat.reduceMul, Nat.reduceSub, Nat.reduceLT, Int.reduceLT, Int.reduceLE, Int.reduceNeg, Int.reduceToNat, Nat.reduceBEq, Nat.reduceBNe, Int.reduceGE, Int.reduceGT, *])))
        · have := eq_of_takes hlen (by omega) ht
          subst this; simp
  · cases hr

/-! laws.eqTable -/
def cEqTable : Contract := ⟨[], false, fun
  | [.agg [.v (.int .i64 c), .sl 1 a], .agg [.v (.int .i64 d), .sl 1 b]] => some (WfS a ∧ WfS b, [⟨false, [.d (.v (.bool (c == d && unS a == unS b)))]⟩], [])
  | _ => none⟩

theorem eqTable_ok : ContractOK E0 9 cEqTable := by
  refine contract_of_wpc (E := E0) (T := mkT Try.prog [(28, cEqIntSS)] false (fun _ => false) true (fun _ => false)) (mkT_ok (E := E0) (.cons eqIntSS_ok .nil)) (fn := Try.f9) Try.func9 (by kernel_rfl) rfl mixedT (by kernel_rfl) rfl ?_
  intro args p rs ms hr
  unfold cEqTable at hr
  dsimp only at hr
  split at hr
  · simp only [Option.some.injEq, Prod.mk.injEq] at hr
    obtain ⟨rfl, rfl, rfl⟩ := hr
    refine ⟨rfl, rfl, Nat.le_of_ble_eq_true rfl, ?_⟩
    rintro ⟨h1, h2⟩ bs
    obtain ⟨xs, rfl, hx, hx'⟩ := h1.ex
    obtain ⟨ys, rfl, hy, hy'⟩ := h2.ex
    clear h1 h2
    rw [unS_sL, unS_sL]
    (repeat' (first
      | (refine gate_a fun _ => ?_)
      | (refine fork_intro (fun hb => ?_) (fun hb => ?_) <;> (try simp only [ew, cEqTable, cEqIntSS, Try.results9] at hb))
      | (simp only [go_sem, Nat.reduceLeDiff, Nat.reduceEqDiff, reduceIte, reduceCtorEq, Nat.reduceAdd, Nat.reduceMul, Nat.reduceSub, Nat.reduceLT, Int.reduceLT, Int.reduceLE, Int.reduceNeg, Int.reduceToNat, Nat.reduceBEq, Nat.reduceBNe, Int.reduceGE, Int.reduceGT, *, cEqTable, cEqIntSS, Try.results9])))
    all_goals simp_all
  · cases hr
end Go.Own

namespace Go.Own
open Go Go.Proofs
set_option linter.unusedSimpArgs false
set_option linter.unusedVariables false
set_option maxRecDepth 20000
set_option maxHeartbeats 2000000



def inB (x lo hi : Int) : Bool := decide (x ≥ lo) && decide (x ≤ hi)
def rowOK (r : List Int) (c : Int) : Bool := r.all (fun v => inB v (-1) 40) && decide ((r.length : Int) = c)
def tabOK (c : Int) (rs : List (List Int)) : Bool := rs.all (fun r => rowOK r c) && (inB c 1 5 && decide ((rs.length : Int) ≤ 40))

/-! spec.l1In -/
def cL1In : Contract := ⟨[], false, fun
  | [.one (.v (.int .i64 x)), .one (.v (.int .i64 lo)), .one (.v (.int .i64 hi))] => some (True, [⟨false, [.d (.v (.bool (inB x lo hi)))]⟩], [])
  | _ => none⟩

theorem l1In_ok : ContractOK E0 33 cL1In := by
  refine contract_of_wpc (E := E0) (T := mkT Try.prog [] false (fun _ => false) true (fun _ => false)) (mkT_ok (E := E0) .nil) (fn := Try.f33) Try.func33 (by kernel_rfl) rfl mixedT (by kernel_rfl) rfl ?_
  intro args p rs ms hr
  unfold cL1In at hr
  dsimp only at hr
  split at hr
  · simp only [Option.some.injEq, Prod.mk.injEq] at hr
    obtain ⟨rfl, rfl, rfl⟩ := hr
    refine ⟨rfl, rfl, Nat.le_of_ble_eq_true rfl, ?_⟩
    intro _ bs
    unfold inB
    (repeat' (first
      | (refine gate_a fun _ => ?_)
      | (refine fork_intro (fun hb => ?_) (fun hb => ?_) <;> (try simp only [ew, cL1In, Try.results33] at hb))
      | (simp only [go_sem, Nat.reduceLeDiff, Nat.reduceEqDiff, reduceIte, reduceCtorEq, Nat.reduceAdd, Nat.reduceMul, Nat.reduceSub, Nat.reduceLT, Int.reduceLT, Int.reduceLE, Int.reduceNeg, Int.reduceToNat, Nat.reduceBEq, Nat.reduceBNe, Int.reduceGE, Int.reduceGT, *, cL1In, Try.results33])))
  · cases hr

/-! spec.l3Row -/
def cL3Row : Contract := ⟨[], false, fun
  | [.one (.sl 1 a), .one (.v (.int .i64 c))] => some (WfI a, [⟨false, [.d (.v (.bool (rowOK (unI a) c)))]⟩], [])
  | _ => none⟩

theorem l3Row_ok : ContractOK E0 32 cL3Row := by
  refine contract_of_wpc (E := E0) (T := mkT Try.prog [(33, cL1In)] false (fun _ => false) true (fun _ => false)) (mkT_ok (E := E0) (.cons l1In_ok .nil)) (fn := Try.f32) Try.func32 (by kernel_rfl) rfl mixedT (by kernel_rfl) rfl ?_
  intro args p rs ms hr
  unfold cL3Row at hr
  dsimp only at hr
  split at hr
  · rename_i l c
    simp only [Option.some.injEq, Prod.mk.injEq] at hr
    obtain ⟨rfl, rfl, rfl⟩ := hr
    refine ⟨rfl, rfl, Nat.le_of_ble_eq_true rfl, ?_⟩
    intro h1 bs
    obtain ⟨xs, rfl, hx⟩ := h1.ex
    clear h1
    rw [unI_iL]
    have hm : maxLen = 9223372036854775807 := rfl
    unfold rowOK
    (repeat' (first
      | (refine gate_a fun _ => ?_)
      | (refine fork_intro (fun hb => ?_) (fun hb => ?_) <;> (try simp only [ew, cL3Row, cL1In, Try.results32] at hb))
      | (simp only [go_sem, Nat.reduceLeDiff, Nat.reduceEqDiff, reduceIte, reduceCtorEq, Nat.reduceAdd, Nat.reduceMul, Nat.reduceSub, Nat.reduceLT, Int.reduceLT, Int.reduceLE, Int.reduceNeg, Int.reduceToNat, Nat.reduceBEq, Nat.reduceBNe, Int.reduceGE, Int.reduceGT, *, cL3Row, cL1In, Try.results32])))
    refine loop_intro { ι := Nat, rs := [(4, 5), (6, 18)], mods := [(5, fun i => .one (.d (.v (.int .i64 i))))], boxes := [], arrs := [], ok := fun i => i ≤ xs.length ∧ (xs.drop i).all (fun v => inB v (-1) 40) = xs.all (fun v => inB v (-1) 40), mu := fun i => xs.length - i } rfl 0 ⟨Nat.zero_le _, rfl⟩ ?_ fun i hi => ?_
    · (repeat' (first
      | (refine gate_a fun _ => ?_)
      | (refine fork_intro (fun hb => ?_) (fun hb => ?_) <;> (try simp only [ew, cL3Row] at hb))
      | (simp only [go_sem, Nat.reduceLeDiff, Nat.reduceEqDiff, reduceIte, reduceCtorEq, Nat.reduceAdd, Nat.reduceMul, Nat.reduceSub, Nat.reduceLT, Int.reduceLT, Int.reduceLE, Int.reduceNeg, Int.reduceToNat, Nat.reduceBEq, Nat.reduceBNe, Int.reduceGE, Int.reduceGT, *, cL3Row])))
    · dsimp only at i hi
      obtain ⟨hi, ht⟩ := hi
      (repeat' (first
      | (refine gate_a fun _ => ?_)
      | (refine fork_intro (fun hb => ?_) (fun hb => ?_) <;> (try simp only [ew, cL3Row, cL1In, Try.results32] at hb))
      | (simp only [go_sem, Nat.reduceLeDiff, Nat.reduceEqDiff, reduceIte, reduceCtorEq, Nat.reduceAdd, Nat.reduceMul, Nat.reduceSub, Nat.reduceLT, Int.reduceLT, Int.reduceLE, Int.reduceNeg, Int.reduceToNat, Nat.reduceBEq, Nat.reduceBNe, Int.reduceGE, Int.reduceGT, *, cL3Row, cL1In, Try.results32])))
      · rw [← ht, all_drop (by omega) 0 _, ‹inB _ _ _ = false›]; rfl
      · refine loop_next (i + 1) ⟨by omega, ?_⟩ (by dsimp only; omega) ?_
        · rw [← ht, all_drop (i := i) (by omega) 0 _, ‹inB _ _ _ = true›]; rfl
        · (repeat' (first
      | (refine gate_a fun _ => ?_)
      | (refine fork_intro (fun hb => ?_) (fun hb => ?_) <;> (try simp only [ew] at hb))
      | (simp only [go_sem, Nat.reduceLeDiff, Nat.reduceEqDiff, reduceIte, reduceCtorEq, Nat.reduceAdd, Nat.reduceMul, Nat.reduceSub, Nat.reduceLT, Int.reduceLT, Int.reduceLE, Int.reduceNeg, Int.reduceToNat, Nat.reduceBEq, Nat.reduceBNe, Int.reduceGE, Int.reduceGT, *])))
      · rw [← ht, List.drop_of_length_le (by omega)]; rw [Bool.eq_iff_iff]; simp
  · cases hr

/-! spec.IsTable -/
def cIsTableS : Contract := ⟨[], false, fun
  | [.agg [.v (.int .i64 c), .sl 1 a]] => some (WfS a ∧ -9223372036854775808 ≤ c ∧ c ≤ 9223372036854775807, [⟨false, [.d (.v (.bool (tabOK c (unS a))))]⟩], [])
  | _ => none⟩

theorem isTableS_ok : ContractOK E0 15 cIsTableS := by
  refine contract_of_wpc (E := E0) (T := mkT Try.prog [(33, cL1In), (32, cL3Row)] false (fun _ => false) true (fun _ => false)) (mkT_ok (E := E0) (.cons l1In_ok (.cons l3Row_ok .nil))) (fn := Try.f15) Try.func15 (by kernel_rfl) rfl mixedT (by kernel_rfl) rfl ?_
  intro args p rs ms hr
  unfold cIsTableS at hr
  dsimp only at hr
  split at hr
  · rename_i c l
    simp only [Option.some.injEq, Prod.mk.injEq] at hr
    obtain ⟨rfl, rfl, rfl⟩ := hr
    refine ⟨rfl, rfl, Nat.le_of_ble_eq_true rfl, ?_⟩
    rintro ⟨h1, hc1, hc2⟩ bs
    obtain ⟨rs, rfl, hx, hy⟩ := h1.ex
    clear h1
    rw [unS_sL]
    have hm : maxLen = 9223372036854775807 := rfl
    have hyi := all_getD hy
    (repeat' (first
      | (refine gate_a fun _ => ?_)
      | (refine fork_intro (fun hb => ?_) (fun hb => ?_) <;> (try simp only [ew, cIsTableS, cL1In, cL3Row, Try.results15] at hb))
      | (simp only [go_sem, Nat.reduceLeDiff, Nat.reduceEqDiff, reduceIte, reduceCtorEq, Nat.reduceAdd, Nat.reduceMul, Nat.reduceSub, Nat.reduceLT, Int.reduceLT, Int.reduceLE, Int.reduceNeg, Int.reduceToNat, Nat.reduceBEq, Nat.reduceBNe, Int.reduceGE, Int.reduceGT, *, cIsTableS, cL1In, cL3Row, Try.results15])))
    refine loop_intro { ι := Nat, rs := [(2, 3), (4, 20)], mods := [(3, fun i => .one (.d (.v (.int .i64 i))))], boxes := [(1, fun _ => [.d (.v (.int .i64 c)), .d (.sl 1 (sL rs))])], arrs := [], ok := fun i => i ≤ rs.length ∧ (rs.drop i).all (fun r => rowOK r c) = rs.all (fun r => rowOK r c), mu := fun i => rs.length - i } rfl 0 ⟨Nat.zero_le _, rfl⟩ ?_ fun i hi => ?_
    · (repeat' (first
      | (refine gate_a fun _ => ?_)
      | (refine fork_intro (fun hb => ?_) (fun hb => ?_) <;> (try simp only [ew] at hb))
      | (simp only [go_sem, Nat.reduceLeDiff, Nat.reduceEqDiff, reduceIte, reduceCtorEq, Nat.reduceAdd, Nat.reduceMul, Nat.reduceSub, Nat.reduceLT, Int.reduceLT, Int.reduceLE, Int.reduceNeg, Int.reduceToNat, Nat.reduceBEq, Nat.reduceBNe, Int.reduceGE, Int.reduceGT, *])))
    · dsimp only at i hi
      obtain ⟨hi, ht⟩ := hi
      (repeat' (first
      | (refine gate_a fun _ => ?_)
      | (refine fork_intro (fun hb => ?_) (fun hb => ?_) <;> (try simp only [ew, cIsTableS, cL1In, cL3Row, Try.results15] at hb))
      | (simp only [go_sem, Nat.reduceLeDiff, Nat.reduceEqDiff, reduceIte, reduceCtorEq, Nat.reduceAdd, Nat.reduceMul, Nat.reduceSub, Nat.reduceLT, Int.reduceLT, Int.reduceLE, Int.reduceNeg, Int.reduceToNat, Nat.reduceBEq, Nat.reduceBNe, Int.reduceGE, Int.reduceGT, *, cIsTableS, cL1In, cL3Row, Try.results15])))
      · unfold tabOK; rw [← ht, all_drop (by omega) [] _, ‹rowOK _ _ = false›]; rfl
      · refine loop_next (i + 1) ⟨by omega, ?_⟩ (by dsimp only; omega) ?_
        · rw [← ht, all_drop (i := i) (by omega) [] _, ‹rowOK _ _ = true›]; rfl
        · (repeat' (first
      | (refine gate_a fun _ => ?_)
      | (refine fork_intro (fun hb => ?_) (fun hb => ?_) <;> (try simp only [ew] at hb))
      | (simp only [go_sem, Nat.reduceLeDiff, Nat.reduceEqDiff, reduceIte, reduceCtorEq, Nat.reduceAdd, Nat.reduceMul, Nat.reduceSub, Nat.reduceLT, Int.reduceLT, Int.reduceLE, Int.reduceNeg, Int.reduceToNat, Nat.reduceBEq, Nat.reduceBNe, Int.reduceGE, Int.reduceGT, *])))
      · unfold tabOK; rw [← ht, List.drop_of_length_le (by omega)]; simp
  · cases hr

/-! spec.l15Columns -/
def colsOK (c : Int) (rs : List (List Int)) (a b : Int) : Bool := tabOK c rs && inB a 0 (c - 1) && inB b 0 (c - 1)

def cL15 : Contract := ⟨[], false, fun
  | [.agg [.v (.int .i64 c), .sl 1 l], .one (.v (.int .i64 a)), .one (.v (.int .i64 b))] => some (WfS l ∧ -9223372036854775808 ≤ c ∧ c ≤ 9223372036854775807, [⟨false, [.d (.v (.bool (colsOK c (unS l) a b)))]⟩], [])
  | _ => none⟩

theorem tab_c {c : Int} {rs : List (List Int)} (h : tabOK c rs = true) : 1 ≤ c ∧ c ≤ 5 := by
  simp [tabOK, inB] at h; omega

end Go.Own
