/-
  Own calculus: the rules by which an abstract state is reckoned, gathered under one word. Conditions: none.
-/
import Derived.Test.YtnmkpepdacbfaaaGreatDoorRc03
import Derived.Test.YtnmkpepdacbfaaaGreatDoorProg
import Derived.Lib.LaidTab
import Derived.Shelf.Strconv.Itoa3
set_option linter.unusedVariables false
set_option linter.unusedSimpArgs false
set_option maxRecDepth 20000
set_option maxHeartbeats 2000000
namespace Go.Own
open Go
theorem tyM{P:Program}{l:List (FuncId×Qb)}{wr:Bool}{im:Nat→Bool}{nm:Bool}{bx:Nat→Bool}{t:TypeId}{r:Option TyI}(h:QbT P t=r):(mkT P l wr im nm bx).ty t=r:=h
theorem all_nil{α:Type}{p:α→Prop}:(∀x,x∈([]:List α)→p x)↔True:=⟨fun _=>trivial,fun _ x hx=>nomatch hx⟩
theorem gA{T:QR}{s:St}{p:Prop}{v:AV}{us:List (Id×Ob)}{ops:Array Oper}{K:St→Prop}{d:Option Nat}{r:List Oper}(k:p→TL T ops K r (s.put d v us))
  (h:p:=by first|omega|((repeat' (first|apply And.intro|assumption|omega|intro _));done)|(simp only[maxLen];omega)|simp_all|(simp_all[maxLen];omega)):QAR p T ops K d r s v us:=Qep h k
theorem ew:(∀(p:Prop) [Decidable p],(decide p=true)=p)∧(∀(p:Prop) [Decidable p],(decide p=false)↔¬p)∧(∀xs:List Int,(iL xs).length=xs.length)∧(∀rs:List (List Int),(sL rs).length=rs.length)∧
  (∀n m:Nat,(n:Int)<(m:Int)↔n<m)∧(∀n m:Nat,(n:Int)≤(m:Int)↔n≤m)∧(∀b:Bool,((!b)=true)=(b=false))∧(∀b:Bool,((!b)=false)=(b=true))∧
  (∀{α:Type} [BEq α] [LawfulBEq α] {a b:α},(a==b)=true↔a=b)∧(∀{α:Type} [BEq α] [LawfulBEq α] {a b:α},(a !=b)=true↔a≠b)∧(∀{α:Type} [BEq α] [LawfulBEq α] {a b:α},(a==b)=false↔a≠b)∧
  (∀{α:Type} [BEq α] [LawfulBEq α] {a b:α},(a !=b)=false↔a=b)∧(∀{α:Type} (a b:α),(a≠b)=¬(a=b))∧(∀{p:Prop} [Decidable p],¬¬p↔p)∧(∀a b:Bool,((a&&b)=true)=(a=true∧b=true))∧
  (∀a b:Bool,(a&&b)=false↔(a=true→b=false)):=
 ⟨@decide_eq_true_eq,@decide_eq_false_iff_not,Qr,Qae,fun _ _=>Int.ofNat_lt,fun _ _=>Int.ofNat_le,Bool.not_eq_true',Bool.not_eq_false',@beq_iff_eq,@bne_iff_ne,@beq_eq_false_iff_ne,@bne_eq_false_iff_eq,@ne_eq,@Decidable.not_not,Bool.and_eq_true,@Bool.and_eq_false_imp⟩
attribute [go_sem ↓] QuM Qkd Qys QBa QiN QmS Qw4 Qfp QhV QqC Qq9 Qtw
  Qm2 Qxm Qxn Qqs QAN QuL
attribute [go_sem] F1 Qjh gOf opF cls rho opM opP opR Option.getD_some Option.getD_none Qrs
  Qs8 Qs4 QqY Qgt Qmo Value.oneCell' QB3 Qz9 Qz8 AV.mk Qzx Qzw Qzt Qyx Qu8 QrZ
  Qzs Qus Qrl QX Qan QA QcG QxR scrub Qb0 List.any_cons List.any_nil
  List.all_cons List.all_nil decide_true decide_false Bool.or_false Bool.or_true Bool.false_or Bool.true_or Bool.and_false Bool.false_and List.map_cons List.map_nil
  List.append_nil List.nil_append List.cons_append QbD QbF List.getD_cons_zero List.getD_cons_succ List.getD_nil QuE Qrx Qrw Qq
  AV.isAny Ob.isNone Bool.and_self toD Array.toList_map Bool.false_eq_true true_and and_true Bool.and_true Bool.true_and Int.toNat_natCast List.map_replicate
  forall_const Prod.mk.injEq Nat.succ_ne_self QBK QCy QzB QU.st Qw QbC Qce QBT QBR
  QBS QBQ decide_eq_true_eq decide_eq_false_iff_not List.length_cons List.length_nil Qr QBC QBE Nat.zero_add List.take_zero List.drop_zero
  Nat.add_zero List.take_nil List.drop_nil List.drop_succ_cons List.take_succ_cons QhK Qqt QfI QcF Qau Qbv Qv
  DEq Qww List.filterMap_cons List.filterMap_nil pcN Qxp Qqx Qyn QgH Qoa QCw QdT QoJ QBU Qsq QdE Qri QCx Qdj QoI
  and_self List.nodup_cons List.nodup_nil List.mem_nil_iff List.not_mem_nil not_false_eq_true imp_self implies_true Option.some.injEq beq_self_eq_true Option.bind_some Option.bind_none
  Int.ofNat_lt Int.ofNat_le Int.natCast_nonneg List.headD_cons List.mem_cons forall_eq or_false QCe QAl Qzv Nat.min_self Nat.le_refl
  Nat.lt_irrefl List.length_append List.length_take List.length_replicate List.length_set QCU D.v.injEq Value.int.injEq Value.bool.injEq QAy Int.cast_ofNat_Int Int.natCast_zero
  Int.natCast_one false_or or_true true_or QBD ne_eq Nat.one_ne_zero Qf8 look QbX QeX Qcj
  rvN Qm6 QiL QhC Qdw QmP Qt2 QdF QtL List.headD_nil List.tail_nil List.tail_cons
  Qnv Qdt Qg0 QhU QhZ Qby Qdr Qay QaC Qz Qae QCa
  QCb D.sl.injEq bne_self_eq_false RC.d.injEq Qig QgS QeP QeO Qb6 Qi5 Qrc Option.isSome_some
  Option.isSome_none List.getElem?_cons_zero List.getElem?_cons_succ List.set_cons_zero List.set_cons_succ QaY QN Qeg Qrr QAU not_true_eq_false not_false_iff
  decide_not id_eq Bool.not_true Bool.not_false Bool.not_eq_true' Bool.not_eq_false' Bool.or_self Qdi Qlp QfV Qcs QdA
  Op.operands Qyd QCn all_nil List.getElem?_toArray forall_eq_or_imp QvU QyY beq_true Bool.true_eq_false Bool.cond_true Bool.cond_false
  cond_true cond_false Call.operands List.append_toArray List.toList_toArray Option.toList_some Option.toList_none List.range_zero List.range_succ Nat.zero_mul Nat.zero_le Nat.one_mul
  List.cons.injEq and_self_iff Qwr Qwq Qwp Qwo Qg3 QeS Qts Qoy Qn7 QfH QbQ QBL QAW QCF QCE QrM QDG Qwn Qwm isV Qff Qlk QrN QxZ QpC
  QAV Qf9 Qi8 QlH Qg2 QqJ stK QmW QmX QCv Qxq bxs QkV QeM QbF Qol Qju Qrv QfM Qa9 QS List.map_id QBP bxq Qmi QCB Qer QjB List.isEmpty_nil
  frG Qi1 QcB Qg4 Qje Qea Qjf Qc6 Qja Qji Qft QA8 QlG QvJ QgJ QCT Qwt Qws
theorem mxE:maxLen=9223372036854775807:=rfl
theorem nLe{n m:Nat}(h:Nat.ble n m=true):n≤m:=Nat.le_of_ble_eq_true h
theorem gQ{p:Prop}(h:p:=by(repeat' first|refine gA fun _=>?_|apply fkI<;>intro hb<;>try simp only[ew]at hb|simp only[go_sem,simprocAttr, *])<;>first|rfl|skip):p:=h
end Go.Own
namespace Go.Own
open Go Go.Proofs
theorem ty2:QbT Tryz.prog 2=some ⟨1,8,false,false,.int .i64,[Value.int .i64 0]⟩:=by kernel_rfl
theorem ty3:QbT Tryz.prog 3=some ⟨1,8,false,false,.int .i64,[Value.int .i64 0]⟩:=by kernel_rfl
theorem ty4:QbT Tryz.prog 4=some ⟨1,1,false,false,.bool,[Value.bool false]⟩:=by kernel_rfl
theorem ty5:QbT Tryz.prog 5=some ⟨1,1,false,false,.int .u8,[Value.int .u8 0]⟩:=by kernel_rfl
theorem ty6:QbT Tryz.prog 6=some ⟨1,1,false,false,.int .u8,[Value.int .u8 0]⟩:=by kernel_rfl
theorem ty7:QbT Tryz.prog 7=some ⟨4,24,true,false,.struct [(0,2),(1,3),(2,4),(3,6)],[Value.int .i64 0,Value.int .i64 0,Value.bool false,Value.int .u8 0]⟩:=by kernel_rfl
theorem ty8:QbT Tryz.prog 8=some ⟨4,24,true,false,.struct [(0,2),(1,3),(2,4),(3,6)],[Value.int .i64 0,Value.int .i64 0,Value.bool false,Value.int .u8 0]⟩:=by kernel_rfl
theorem ty9:QbT Tryz.prog 9=some ⟨1,16,false,false,.str,[Value.string ByteArray.empty]⟩:=by kernel_rfl
theorem QEl:QbT Tryz.prog 10=some ⟨1,16,false,false,.str,[Value.string ByteArray.empty]⟩:=by kernel_rfl
theorem QEm:QbT Tryz.prog 11=some ⟨1,16,false,false,.str,[Value.string ByteArray.empty]⟩:=by kernel_rfl
theorem QEn:QbT Tryz.prog 12=some ⟨1,8,false,false,.int .u64,[Value.int .u64 0]⟩:=by kernel_rfl
theorem QEo:QbT Tryz.prog 13=some ⟨2,24,true,false,.struct [(0,9),(1,12)],[Value.string ByteArray.empty,Value.int .u64 0]⟩:=by kernel_rfl
theorem QEp:QbT Tryz.prog 14=some ⟨2,24,true,false,.struct [(0,9),(1,12)],[Value.string ByteArray.empty,Value.int .u64 0]⟩:=by kernel_rfl
theorem QEq:QbT Tryz.prog 21=some ⟨1,4,false,false,.int .i32,[Value.int .i32 0]⟩:=by kernel_rfl
theorem QEr:QbT Tryz.prog 24=some ⟨1,24,false,false,.slice 5,[Value.slice none 0 0]⟩:=by kernel_rfl
theorem QEs:QbT Tryz.prog 27=some ⟨1,24,false,false,.slice 31,[Value.slice none 0 0]⟩:=by kernel_rfl
theorem QEt:QbT Tryz.prog 28=some ⟨2,32,true,false,.struct [(0,3),(1,27)],[Value.int .i64 0,Value.slice none 0 0]⟩:=by kernel_rfl
theorem QEu:QbT Tryz.prog 29=some ⟨2,32,true,false,.struct [(0,3),(1,27)],[Value.int .i64 0,Value.slice none 0 0]⟩:=by kernel_rfl
theorem QEv:QbT Tryz.prog 30=some ⟨1,24,false,false,.slice 9,[Value.slice none 0 0]⟩:=by kernel_rfl
theorem QEw:QbT Tryz.prog 31=some ⟨1,24,false,false,.slice 3,[Value.slice none 0 0]⟩:=by kernel_rfl
theorem QEx:QbT Tryz.prog 35=some ⟨1,24,false,false,.slice 57,[Value.slice none 0 0]⟩:=by kernel_rfl
theorem QEy:QbT Tryz.prog 42=some ⟨4,64,true,false,.struct [(0,29),(2,3),(3,35)],[Value.int .i64 0,Value.slice none 0 0,Value.int .i64 0,Value.slice none 0 0]⟩:=by kernel_rfl
theorem QEz:QbT Tryz.prog 43=some ⟨4,64,true,false,.struct [(0,29),(2,3),(3,35)],[Value.int .i64 0,Value.slice none 0 0,Value.int .i64 0,Value.slice none 0 0]⟩:=by kernel_rfl
theorem QEA:QbT Tryz.prog 44=some ⟨6,96,true,false,.struct [(0,43),(4,4),(5,35)],[Value.int .i64 0,Value.slice none 0 0,Value.int .i64 0,Value.slice none 0 0,Value.bool false,Value.slice none 0 0]⟩:=by kernel_rfl
theorem QEB:QbT Tryz.prog 45=some ⟨6,96,true,false,.struct [(0,43),(4,4),(5,35)],[Value.int .i64 0,Value.slice none 0 0,Value.int .i64 0,Value.slice none 0 0,Value.bool false,Value.slice none 0 0]⟩:=by kernel_rfl
theorem QEC:QbT Tryz.prog 49=some ⟨5,88,true,false,.struct [(0,43),(4,35)],[Value.int .i64 0,Value.slice none 0 0,Value.int .i64 0,Value.slice none 0 0,Value.slice none 0 0]⟩:=by kernel_rfl
theorem QED:QbT Tryz.prog 50=some ⟨5,88,true,false,.struct [(0,43),(4,35)],[Value.int .i64 0,Value.slice none 0 0,Value.int .i64 0,Value.slice none 0 0,Value.slice none 0 0]⟩:=by kernel_rfl
theorem QEE:QbT Tryz.prog 56=some ⟨2,16,true,true,.struct [(0,3),(1,3)],[Value.int .i64 0,Value.int .i64 0]⟩:=by kernel_rfl
theorem QEF:QbT Tryz.prog 57=some ⟨2,16,true,true,.struct [(0,3),(1,3)],[Value.int .i64 0,Value.int .i64 0]⟩:=by kernel_rfl
theorem QEG:QbT Tryz.prog 96=some ⟨3,40,true,false,.struct [(0,24),(1,3),(2,3)],[Value.slice none 0 0,Value.int .i64 0,Value.int .i64 0]⟩:=by kernel_rfl
theorem QEH:QbT Tryz.prog 97=some ⟨3,40,true,false,.struct [(0,24),(1,3),(2,3)],[Value.slice none 0 0,Value.int .i64 0,Value.int .i64 0]⟩:=by kernel_rfl
theorem QDj:QbT Tryz.prog 126=some ⟨1,8,false,false,.int .u64,[Value.int .u64 0]⟩:=by kernel_rfl
theorem QDk:QbT Tryz.prog 135=some ⟨1,24,false,false,.slice 139,[Value.slice none 0 0]⟩:=by kernel_rfl
theorem QDl:QbT Tryz.prog 138=some ⟨3,24,true,true,.struct [(0,3),(1,3),(2,3)],[Value.int .i64 0,Value.int .i64 0,Value.int .i64 0]⟩:=by kernel_rfl
theorem QDm:QbT Tryz.prog 139=some ⟨3,24,true,true,.struct [(0,3),(1,3),(2,3)],[Value.int .i64 0,Value.int .i64 0,Value.int .i64 0]⟩:=by kernel_rfl
theorem QDn:QbT Tryz.prog 158=some ⟨1,8,false,false,.int .i64,[Value.int .i64 0]⟩:=by kernel_rfl
theorem QDo:QbT Tryz.prog 171=some ⟨2,2,true,true,.struct [(0,5),(1,5)],[Value.int .u8 0,Value.int .u8 0]⟩:=by kernel_rfl
theorem QDp:QbT Tryz.prog 172=some ⟨2,2,true,true,.struct [(0,5),(1,5)],[Value.int .u8 0,Value.int .u8 0]⟩:=by kernel_rfl
theorem QDq:QbT Tryz.prog 174=some ⟨1,4,false,false,.int .u32,[Value.int .u32 0]⟩:=by kernel_rfl
theorem QDr:QbT Tryz.prog 179=some ⟨1,8,false,false,.int .u64,[Value.int .u64 0]⟩:=by kernel_rfl
theorem QDs:QbT Tryz.prog 195=some ⟨1,8,false,false,.int .i64,[Value.int .i64 0]⟩:=by kernel_rfl
theorem QDt:QbT Tryz.prog 205=some ⟨1,16,true,false,.struct [(0,9)],[Value.string ByteArray.empty]⟩:=by kernel_rfl
theorem QDu:QbT Tryz.prog 206=some ⟨1,16,true,false,.struct [(0,9)],[Value.string ByteArray.empty]⟩:=by kernel_rfl
theorem QDv:QbT Tryz.prog 216=some ⟨1,24,false,false,.slice 4,[Value.slice none 0 0]⟩:=by kernel_rfl
theorem QDw:QbT Tryz.prog 222=some ⟨1,8,false,false,.int .u64,[Value.int .u64 0]⟩:=by kernel_rfl
theorem QDx:QbT Tryz.prog 247=some ⟨1,1,false,false,.int .u8,[Value.int .u8 0]⟩:=by kernel_rfl
theorem QDy:QbT Tryz.prog 248=some ⟨1,1,false,false,.int .u8,[Value.int .u8 0]⟩:=by kernel_rfl
theorem QDz:QbT Tryz.prog 250=some ⟨1,4,false,false,.int .i32,[Value.int .i32 0]⟩:=by kernel_rfl
theorem QDA:QbT Tryz.prog 251=some ⟨1,4,false,false,.int .i32,[Value.int .i32 0]⟩:=by kernel_rfl
theorem Qc:Tryz.prog.follows .mixedOrders=true:=by kernel_rfl
theorem tm2{l:List (FuncId×Qb)}{wr:Bool}{im:Nat→Bool}{nm:Bool}{bx:Nat→Bool}:(mkT Tryz.prog l wr im nm bx).ty 2=some ⟨1,8,false,false,.int .i64,[Value.int .i64 0]⟩:=tyM ty2
theorem tm3{l:List (FuncId×Qb)}{wr:Bool}{im:Nat→Bool}{nm:Bool}{bx:Nat→Bool}:(mkT Tryz.prog l wr im nm bx).ty 3=some ⟨1,8,false,false,.int .i64,[Value.int .i64 0]⟩:=tyM ty3
theorem tm4{l:List (FuncId×Qb)}{wr:Bool}{im:Nat→Bool}{nm:Bool}{bx:Nat→Bool}:(mkT Tryz.prog l wr im nm bx).ty 4=some ⟨1,1,false,false,.bool,[Value.bool false]⟩:=tyM ty4
theorem tm5{l:List (FuncId×Qb)}{wr:Bool}{im:Nat→Bool}{nm:Bool}{bx:Nat→Bool}:(mkT Tryz.prog l wr im nm bx).ty 5=some ⟨1,1,false,false,.int .u8,[Value.int .u8 0]⟩:=tyM ty5
theorem tm6{l:List (FuncId×Qb)}{wr:Bool}{im:Nat→Bool}{nm:Bool}{bx:Nat→Bool}:(mkT Tryz.prog l wr im nm bx).ty 6=some ⟨1,1,false,false,.int .u8,[Value.int .u8 0]⟩:=tyM ty6
theorem tm7{l:List (FuncId×Qb)}{wr:Bool}{im:Nat→Bool}{nm:Bool}{bx:Nat→Bool}:(mkT Tryz.prog l wr im nm bx).ty 7=some ⟨4,24,true,false,.struct [(0,2),(1,3),(2,4),(3,6)],[Value.int .i64 0,Value.int .i64 0,Value.bool false,Value.int .u8 0]⟩:=tyM ty7
theorem tm8{l:List (FuncId×Qb)}{wr:Bool}{im:Nat→Bool}{nm:Bool}{bx:Nat→Bool}:(mkT Tryz.prog l wr im nm bx).ty 8=some ⟨4,24,true,false,.struct [(0,2),(1,3),(2,4),(3,6)],[Value.int .i64 0,Value.int .i64 0,Value.bool false,Value.int .u8 0]⟩:=tyM ty8
theorem tm9{l:List (FuncId×Qb)}{wr:Bool}{im:Nat→Bool}{nm:Bool}{bx:Nat→Bool}:(mkT Tryz.prog l wr im nm bx).ty 9=some ⟨1,16,false,false,.str,[Value.string ByteArray.empty]⟩:=tyM ty9
theorem QDW{l:List (FuncId×Qb)}{wr:Bool}{im:Nat→Bool}{nm:Bool}{bx:Nat→Bool}:(mkT Tryz.prog l wr im nm bx).ty 10=some ⟨1,16,false,false,.str,[Value.string ByteArray.empty]⟩:=tyM QEl
theorem QDX{l:List (FuncId×Qb)}{wr:Bool}{im:Nat→Bool}{nm:Bool}{bx:Nat→Bool}:(mkT Tryz.prog l wr im nm bx).ty 11=some ⟨1,16,false,false,.str,[Value.string ByteArray.empty]⟩:=tyM QEm
theorem QDY{l:List (FuncId×Qb)}{wr:Bool}{im:Nat→Bool}{nm:Bool}{bx:Nat→Bool}:(mkT Tryz.prog l wr im nm bx).ty 12=some ⟨1,8,false,false,.int .u64,[Value.int .u64 0]⟩:=tyM QEn
theorem QDZ{l:List (FuncId×Qb)}{wr:Bool}{im:Nat→Bool}{nm:Bool}{bx:Nat→Bool}:(mkT Tryz.prog l wr im nm bx).ty 13=some ⟨2,24,true,false,.struct [(0,9),(1,12)],[Value.string ByteArray.empty,Value.int .u64 0]⟩:=tyM QEo
theorem QD0{l:List (FuncId×Qb)}{wr:Bool}{im:Nat→Bool}{nm:Bool}{bx:Nat→Bool}:(mkT Tryz.prog l wr im nm bx).ty 14=some ⟨2,24,true,false,.struct [(0,9),(1,12)],[Value.string ByteArray.empty,Value.int .u64 0]⟩:=tyM QEp
theorem QD1{l:List (FuncId×Qb)}{wr:Bool}{im:Nat→Bool}{nm:Bool}{bx:Nat→Bool}:(mkT Tryz.prog l wr im nm bx).ty 21=some ⟨1,4,false,false,.int .i32,[Value.int .i32 0]⟩:=tyM QEq
theorem QD2{l:List (FuncId×Qb)}{wr:Bool}{im:Nat→Bool}{nm:Bool}{bx:Nat→Bool}:(mkT Tryz.prog l wr im nm bx).ty 24=some ⟨1,24,false,false,.slice 5,[Value.slice none 0 0]⟩:=tyM QEr
theorem QD3{l:List (FuncId×Qb)}{wr:Bool}{im:Nat→Bool}{nm:Bool}{bx:Nat→Bool}:(mkT Tryz.prog l wr im nm bx).ty 27=some ⟨1,24,false,false,.slice 31,[Value.slice none 0 0]⟩:=tyM QEs
theorem QD4{l:List (FuncId×Qb)}{wr:Bool}{im:Nat→Bool}{nm:Bool}{bx:Nat→Bool}:(mkT Tryz.prog l wr im nm bx).ty 28=some ⟨2,32,true,false,.struct [(0,3),(1,27)],[Value.int .i64 0,Value.slice none 0 0]⟩:=tyM QEt
theorem QD5{l:List (FuncId×Qb)}{wr:Bool}{im:Nat→Bool}{nm:Bool}{bx:Nat→Bool}:(mkT Tryz.prog l wr im nm bx).ty 29=some ⟨2,32,true,false,.struct [(0,3),(1,27)],[Value.int .i64 0,Value.slice none 0 0]⟩:=tyM QEu
theorem QD6{l:List (FuncId×Qb)}{wr:Bool}{im:Nat→Bool}{nm:Bool}{bx:Nat→Bool}:(mkT Tryz.prog l wr im nm bx).ty 30=some ⟨1,24,false,false,.slice 9,[Value.slice none 0 0]⟩:=tyM QEv
theorem QD7{l:List (FuncId×Qb)}{wr:Bool}{im:Nat→Bool}{nm:Bool}{bx:Nat→Bool}:(mkT Tryz.prog l wr im nm bx).ty 31=some ⟨1,24,false,false,.slice 3,[Value.slice none 0 0]⟩:=tyM QEw
theorem QD8{l:List (FuncId×Qb)}{wr:Bool}{im:Nat→Bool}{nm:Bool}{bx:Nat→Bool}:(mkT Tryz.prog l wr im nm bx).ty 35=some ⟨1,24,false,false,.slice 57,[Value.slice none 0 0]⟩:=tyM QEx
theorem QD9{l:List (FuncId×Qb)}{wr:Bool}{im:Nat→Bool}{nm:Bool}{bx:Nat→Bool}:(mkT Tryz.prog l wr im nm bx).ty 42=some ⟨4,64,true,false,.struct [(0,29),(2,3),(3,35)],[Value.int .i64 0,Value.slice none 0 0,Value.int .i64 0,Value.slice none 0 0]⟩:=tyM QEy
theorem QEa{l:List (FuncId×Qb)}{wr:Bool}{im:Nat→Bool}{nm:Bool}{bx:Nat→Bool}:(mkT Tryz.prog l wr im nm bx).ty 43=some ⟨4,64,true,false,.struct [(0,29),(2,3),(3,35)],[Value.int .i64 0,Value.slice none 0 0,Value.int .i64 0,Value.slice none 0 0]⟩:=tyM QEz
theorem QEb{l:List (FuncId×Qb)}{wr:Bool}{im:Nat→Bool}{nm:Bool}{bx:Nat→Bool}:(mkT Tryz.prog l wr im nm bx).ty 44=some ⟨6,96,true,false,.struct [(0,43),(4,4),(5,35)],[Value.int .i64 0,Value.slice none 0 0,Value.int .i64 0,Value.slice none 0 0,Value.bool false,Value.slice none 0 0]⟩:=tyM QEA
theorem QEc{l:List (FuncId×Qb)}{wr:Bool}{im:Nat→Bool}{nm:Bool}{bx:Nat→Bool}:(mkT Tryz.prog l wr im nm bx).ty 45=some ⟨6,96,true,false,.struct [(0,43),(4,4),(5,35)],[Value.int .i64 0,Value.slice none 0 0,Value.int .i64 0,Value.slice none 0 0,Value.bool false,Value.slice none 0 0]⟩:=tyM QEB
theorem QEd{l:List (FuncId×Qb)}{wr:Bool}{im:Nat→Bool}{nm:Bool}{bx:Nat→Bool}:(mkT Tryz.prog l wr im nm bx).ty 49=some ⟨5,88,true,false,.struct [(0,43),(4,35)],[Value.int .i64 0,Value.slice none 0 0,Value.int .i64 0,Value.slice none 0 0,Value.slice none 0 0]⟩:=tyM QEC
theorem QEe{l:List (FuncId×Qb)}{wr:Bool}{im:Nat→Bool}{nm:Bool}{bx:Nat→Bool}:(mkT Tryz.prog l wr im nm bx).ty 50=some ⟨5,88,true,false,.struct [(0,43),(4,35)],[Value.int .i64 0,Value.slice none 0 0,Value.int .i64 0,Value.slice none 0 0,Value.slice none 0 0]⟩:=tyM QED
theorem QEf{l:List (FuncId×Qb)}{wr:Bool}{im:Nat→Bool}{nm:Bool}{bx:Nat→Bool}:(mkT Tryz.prog l wr im nm bx).ty 56=some ⟨2,16,true,true,.struct [(0,3),(1,3)],[Value.int .i64 0,Value.int .i64 0]⟩:=tyM QEE
theorem QEg{l:List (FuncId×Qb)}{wr:Bool}{im:Nat→Bool}{nm:Bool}{bx:Nat→Bool}:(mkT Tryz.prog l wr im nm bx).ty 57=some ⟨2,16,true,true,.struct [(0,3),(1,3)],[Value.int .i64 0,Value.int .i64 0]⟩:=tyM QEF
theorem QEh{l:List (FuncId×Qb)}{wr:Bool}{im:Nat→Bool}{nm:Bool}{bx:Nat→Bool}:(mkT Tryz.prog l wr im nm bx).ty 96=some ⟨3,40,true,false,.struct [(0,24),(1,3),(2,3)],[Value.slice none 0 0,Value.int .i64 0,Value.int .i64 0]⟩:=tyM QEG
theorem QEi{l:List (FuncId×Qb)}{wr:Bool}{im:Nat→Bool}{nm:Bool}{bx:Nat→Bool}:(mkT Tryz.prog l wr im nm bx).ty 97=some ⟨3,40,true,false,.struct [(0,24),(1,3),(2,3)],[Value.slice none 0 0,Value.int .i64 0,Value.int .i64 0]⟩:=tyM QEH
theorem QC1{l:List (FuncId×Qb)}{wr:Bool}{im:Nat→Bool}{nm:Bool}{bx:Nat→Bool}:(mkT Tryz.prog l wr im nm bx).ty 126=some ⟨1,8,false,false,.int .u64,[Value.int .u64 0]⟩:=tyM QDj
theorem QC2{l:List (FuncId×Qb)}{wr:Bool}{im:Nat→Bool}{nm:Bool}{bx:Nat→Bool}:(mkT Tryz.prog l wr im nm bx).ty 135=some ⟨1,24,false,false,.slice 139,[Value.slice none 0 0]⟩:=tyM QDk
theorem QC3{l:List (FuncId×Qb)}{wr:Bool}{im:Nat→Bool}{nm:Bool}{bx:Nat→Bool}:(mkT Tryz.prog l wr im nm bx).ty 138=some ⟨3,24,true,true,.struct [(0,3),(1,3),(2,3)],[Value.int .i64 0,Value.int .i64 0,Value.int .i64 0]⟩:=tyM QDl
theorem QC4{l:List (FuncId×Qb)}{wr:Bool}{im:Nat→Bool}{nm:Bool}{bx:Nat→Bool}:(mkT Tryz.prog l wr im nm bx).ty 139=some ⟨3,24,true,true,.struct [(0,3),(1,3),(2,3)],[Value.int .i64 0,Value.int .i64 0,Value.int .i64 0]⟩:=tyM QDm
theorem QC5{l:List (FuncId×Qb)}{wr:Bool}{im:Nat→Bool}{nm:Bool}{bx:Nat→Bool}:(mkT Tryz.prog l wr im nm bx).ty 158=some ⟨1,8,false,false,.int .i64,[Value.int .i64 0]⟩:=tyM QDn
theorem QC6{l:List (FuncId×Qb)}{wr:Bool}{im:Nat→Bool}{nm:Bool}{bx:Nat→Bool}:(mkT Tryz.prog l wr im nm bx).ty 171=some ⟨2,2,true,true,.struct [(0,5),(1,5)],[Value.int .u8 0,Value.int .u8 0]⟩:=tyM QDo
theorem QC7{l:List (FuncId×Qb)}{wr:Bool}{im:Nat→Bool}{nm:Bool}{bx:Nat→Bool}:(mkT Tryz.prog l wr im nm bx).ty 172=some ⟨2,2,true,true,.struct [(0,5),(1,5)],[Value.int .u8 0,Value.int .u8 0]⟩:=tyM QDp
theorem QC8{l:List (FuncId×Qb)}{wr:Bool}{im:Nat→Bool}{nm:Bool}{bx:Nat→Bool}:(mkT Tryz.prog l wr im nm bx).ty 174=some ⟨1,4,false,false,.int .u32,[Value.int .u32 0]⟩:=tyM QDq
theorem QC9{l:List (FuncId×Qb)}{wr:Bool}{im:Nat→Bool}{nm:Bool}{bx:Nat→Bool}:(mkT Tryz.prog l wr im nm bx).ty 179=some ⟨1,8,false,false,.int .u64,[Value.int .u64 0]⟩:=tyM QDr
theorem QDa{l:List (FuncId×Qb)}{wr:Bool}{im:Nat→Bool}{nm:Bool}{bx:Nat→Bool}:(mkT Tryz.prog l wr im nm bx).ty 195=some ⟨1,8,false,false,.int .i64,[Value.int .i64 0]⟩:=tyM QDs
theorem QDb{l:List (FuncId×Qb)}{wr:Bool}{im:Nat→Bool}{nm:Bool}{bx:Nat→Bool}:(mkT Tryz.prog l wr im nm bx).ty 205=some ⟨1,16,true,false,.struct [(0,9)],[Value.string ByteArray.empty]⟩:=tyM QDt
theorem QDc{l:List (FuncId×Qb)}{wr:Bool}{im:Nat→Bool}{nm:Bool}{bx:Nat→Bool}:(mkT Tryz.prog l wr im nm bx).ty 206=some ⟨1,16,true,false,.struct [(0,9)],[Value.string ByteArray.empty]⟩:=tyM QDu
theorem QDd{l:List (FuncId×Qb)}{wr:Bool}{im:Nat→Bool}{nm:Bool}{bx:Nat→Bool}:(mkT Tryz.prog l wr im nm bx).ty 216=some ⟨1,24,false,false,.slice 4,[Value.slice none 0 0]⟩:=tyM QDv
theorem QDe{l:List (FuncId×Qb)}{wr:Bool}{im:Nat→Bool}{nm:Bool}{bx:Nat→Bool}:(mkT Tryz.prog l wr im nm bx).ty 222=some ⟨1,8,false,false,.int .u64,[Value.int .u64 0]⟩:=tyM QDw
theorem QDf{l:List (FuncId×Qb)}{wr:Bool}{im:Nat→Bool}{nm:Bool}{bx:Nat→Bool}:(mkT Tryz.prog l wr im nm bx).ty 247=some ⟨1,1,false,false,.int .u8,[Value.int .u8 0]⟩:=tyM QDx
theorem QDg{l:List (FuncId×Qb)}{wr:Bool}{im:Nat→Bool}{nm:Bool}{bx:Nat→Bool}:(mkT Tryz.prog l wr im nm bx).ty 248=some ⟨1,1,false,false,.int .u8,[Value.int .u8 0]⟩:=tyM QDy
theorem QDh{l:List (FuncId×Qb)}{wr:Bool}{im:Nat→Bool}{nm:Bool}{bx:Nat→Bool}:(mkT Tryz.prog l wr im nm bx).ty 250=some ⟨1,4,false,false,.int .i32,[Value.int .i32 0]⟩:=tyM QDz
theorem QDi{l:List (FuncId×Qb)}{wr:Bool}{im:Nat→Bool}{nm:Bool}{bx:Nat→Bool}:(mkT Tryz.prog l wr im nm bx).ty 251=some ⟨1,4,false,false,.int .i32,[Value.int .i32 0]⟩:=tyM QDA
attribute [go_sem] tm2 tm3 tm4 tm5 tm6 tm7 tm8 tm9 QDW QDX QDY QDZ QD0 QD1 QD2 QD3 QD4 QD5 QD6 QD7 QD8 QD9 QEa QEb QEc QEd QEe QEf QEg QEh QEi QC1 QC2 QC3 QC4 QC5 QC6 QC7 QC8 QC9 QDa QDb QDc QDd QDe QDf QDg QDh QDi
end Go.Own
namespace Go.Own
open Go Go.Proofs
def QC0:Array Value:=(Lib.pow10Tab.map fun z=>Value.int .u64 z).toArray
structure Low(h:Q5):Prop where
  max:∃c e fz,h[0]? =some (.cells c e fz)∧∃m,c[0]? =some (.int .i64 m)
  syn:∃c e fz,h[3]? =some (.cells c e fz)∧∃v,c[0]? =some v∧(v= .nilIface∨∃t p,v= .iface t p)
  rng:∃c e fz,h[4]? =some (.cells c e fz)∧∃v,c[0]? =some v∧(v= .nilIface∨∃t p,v= .iface t p)
  tab:∃e fz,h[5]? =some (.cells QC0 e fz)
theorem QDM:∀h h':Q5,Low h→(∀b,b<8→h'[b]? =h[b]?)→Low h':=fun h h' a hs=>by
 refine⟨?_,?_,?_,?_⟩
 ·rw[hs 0 (by omega)];exact a.max
 ·rw[hs 3 (by omega)];exact a.syn
 ·rw[hs 4 (by omega)];exact a.rng
 ·rw[hs 5 (by omega)];exact a.tab
noncomputable def E0:Env:=⟨Tryz.prog,8,Low,QDM⟩
theorem Qkr{w:World}{b:Nat}{c:Array Value}{e fz}{v:Value}(h:w.heap[b]? =some (.cells c e fz))(hv:c[0]? =some v):w.cell? ⟨b,0,none⟩=some v:=by
 unfold World.cell?;dsimp only;rw[h];exact hv
theorem QDF{w:World}(h:E0.J w.heap):∃m,w.cell? ⟨0,0,none⟩=some (.int .i64 m):=by
 obtain⟨c,e,fz,h1,m,h2⟩:=Low.max h;exact⟨m,Qkr h1 h2⟩
theorem QCS{w:World}(h:E0.J w.heap):∃v,w.cell? ⟨3,0,none⟩=some v∧(v= .nilIface∨∃t p,v= .iface t p):=by
 obtain⟨c,e,fz,h1,v,h2,h3⟩:=Low.syn h;exact⟨v,Qkr h1 h2,h3⟩
theorem QCR{w:World}(h:E0.J w.heap):∃v,w.cell? ⟨4,0,none⟩=some v∧(v= .nilIface∨∃t p,v= .iface t p):=by
 obtain⟨c,e,fz,h1,v,h2,h3⟩:=Low.rng h;exact⟨v,Qkr h1 h2,h3⟩
theorem Qf{α:Type}{xs:List α}{i:Nat}(h:i<xs.length)(d:α):xs.take (i+1)=xs.take i++[xs.getD i d]:=by
 rw[List.take_add_one];simp[List.getD_eq_getElem?_getD,h]
theorem QaQ{α:Type}{xs:List α}{i:Nat}(h:i<xs.length)(d:α):xs.drop i=xs.getD i d::xs.drop (i+1):=by
 rw[List.drop_eq_getElem_cons h];simp[List.getD_eq_getElem?_getD,h]
theorem Qie{α:Type}{xs ys:List α}{i:Nat}(h:xs.length=ys.length)(hi:¬i<xs.length)(ht:xs.take i=ys.take i):xs=ys:=by
 rwa [List.take_of_length_le (by omega),List.take_of_length_le (by omega)]at ht
theorem Qj0{α:Type}{xs ys:List α}{i:Nat}{d:α}(h:xs.getD i d≠ys.getD i d):xs≠ys:=fun e=>h (by rw[e])
theorem QbM{rs:List (List Int)}{B:Nat}(h:∀r∈rs,r.length≤B)(i:Nat):(rs.getD i []).length≤B:=by
 by_cases hi:i<rs.length
 ·exact h _ (by simp[List.getD_eq_getElem?_getD,hi])
 ·simp[List.getD_eq_getElem?_getD,Nat.le_of_not_lt hi]
theorem Qbk{α:Type}{xs:List α}{i:Nat}(h:i<xs.length)(d:α)(f:α→Bool):(xs.drop i).all f=(f (xs.getD i d)&&(xs.drop (i+1)).all f):=by
 rw[QaQ h d];rfl
end Go.Own
namespace Go.Own
open Go Go.Proofs
end Go.Own
namespace Go.Own
open Go Go.Proofs
end Go.Own
namespace Go.Own
open Go Go.Proofs
def inB(x lo hi:Int):Bool:=decide (x≥lo)&&decide (x≤hi)
def QbS(r:List Int)(c:Int):Bool:=r.all (fun v=>inB v (-1) 40)&&decide ((r.length:Int)=c)
def QK(c:Int)(rs:List (List Int)):Bool:=rs.all (fun r=>QbS r c)&&(inB c 1 5&&decide ((rs.length:Int)≤40))
def Qbf:Qb:=⟨[],false,fun
 | [.one (.v (.int .i64 x)),.one (.v (.int .i64 lo)),.one (.v (.int .i64 hi))]=>some (True,[⟨false,[.d (.v (.bool (inB x lo hi)))]⟩],[])
 | _=>none⟩
theorem Qcp:Qa E0 62 Qbf:=by
 refine QE (E:=E0) (T:=mkT Tryz.prog [] false (fun _=>false) true (fun _=>false)) (Qd (E:=E0) .nil) (fn:=Tryz.f62) Tryz.func62 (by kernel_rfl) rfl Qc (by kernel_rfl) rfl ?_
 intro args p rs ms hr;unfold Qbf at hr;dsimp only at hr;split at hr
 ·cases hr
  refine⟨rfl,rfl,nLe rfl,?_⟩
  intro _ bs;unfold inB;(repeat' first|refine gA fun _=>?_|apply fkI<;>intro hb<;>try simp only[ew,Qbf,Tryz.results62]at hb|simp only[go_sem,simprocAttr, *,Qbf,Tryz.results62])
 ·cases hr
def QaA:Qb:=⟨[],false,fun
 | [.one (.sl 1 a),.one (.v (.int .i64 c))]=>some (WfI a,[⟨false,[.d (.v (.bool (QbS (unI a) c)))]⟩],[])
 | _=>none⟩
theorem Qpy:Qa E0 61 QaA:=by
 refine QE (E:=E0) (T:=mkT Tryz.prog [(62,Qbf)] false (fun _=>false) true (fun _=>false)) (Qd (E:=E0) (.cons Qcp .nil)) (fn:=Tryz.f61) Tryz.func61 (by kernel_rfl) rfl Qc (by kernel_rfl) rfl ?_
 intro args p rs ms hr;unfold QaA at hr;dsimp only at hr;split at hr
 ·rename_i l c
  cases hr;refine⟨rfl,rfl,nLe rfl,?_⟩
  intro h1 bs;obtain⟨xs,rfl,hx⟩:=h1.ex;clear h1;rw[QaC];have hm:=mxE;unfold QbS;(repeat' first|refine gA fun _=>?_|apply fkI<;>intro hb<;>try simp only[ew,QaA,Qbf,Tryz.results61]at hb|simp only[go_sem,simprocAttr, *,QaA,Qbf,Tryz.results61])
  refine lpI {ι:=Nat,rs:=[(4,5),(6,18)],mods:=[(5,fun i=> .one (.d (.v (.int .i64 i))))],boxes:=[],arrs:=[],ok:=fun i=>i≤xs.length∧(xs.drop i).all (fun v=>inB v (-1) 40)=xs.all (fun v=>inB v (-1) 40),mu:=fun i=>xs.length-i} rfl 0 ⟨Nat.zero_le _,rfl⟩ ?_ fun i hi=>?_
  ·(repeat' first|refine gA fun _=>?_|apply fkI<;>intro hb<;>try simp only[ew,QaA]at hb|simp only[go_sem,simprocAttr, *,QaA])
  ·dsimp only at i hi
   obtain⟨hi,ht⟩:=hi;(repeat' first|refine gA fun _=>?_|apply fkI<;>intro hb<;>try simp only[ew,QaA,Qbf,Tryz.results61]at hb|simp only[go_sem,simprocAttr, *,QaA,Qbf,Tryz.results61])
   ·rw[←ht,Qbk (by omega) 0 _,‹inB _ _ _=false›];rfl
   ·refine lpN (i+1) ⟨by omega,?_⟩ (by dsimp only;omega) ?_
    ·rw[←ht,Qbk (i:=i) (by omega) 0 _,‹inB _ _ _=true›];rfl
    ·exact gQ
   ·rw[←ht,List.drop_of_length_le (by omega)];rw[Bool.eq_iff_iff];simp
 ·cases hr
def Qy:Qb:=⟨[],false,fun
 | [.agg [.v (.int .i64 c),.sl 1 a]]=>some (WfS a∧ -9223372036854775808≤c∧c≤9223372036854775807,[⟨false,[.d (.v (.bool (QK c (unS a))))]⟩],[])
 | _=>none⟩
theorem QnU:Qa E0 22 Qy:=by
 refine QE (E:=E0) (T:=mkT Tryz.prog [(62,Qbf),(61,QaA)] false (fun _=>false) true (fun _=>false)) (Qd (E:=E0) (.cons Qcp (.cons Qpy .nil))) (fn:=Tryz.f22) Tryz.func22 (by kernel_rfl) rfl Qc (by kernel_rfl) rfl ?_
 intro args p rs ms hr;unfold Qy at hr;dsimp only at hr;split at hr
 ·rename_i c l
  cases hr;refine⟨rfl,rfl,nLe rfl,?_⟩
  rintro⟨h1,hc1,hc2⟩ bs;obtain⟨rs,rfl,hx,hy⟩:=h1.ex;clear h1;rw[Qz];have hm:=mxE;have hyi:=QbM hy
  (repeat' first|refine gA fun _=>?_|apply fkI<;>intro hb<;>try simp only[ew,Qy,Qbf,QaA,Tryz.results22]at hb|simp only[go_sem,simprocAttr, *,Qy,Qbf,QaA,Tryz.results22])
  refine lpI {ι:=Nat,rs:=[(2,3),(4,20)],mods:=[(3,fun i=> .one (.d (.v (.int .i64 i))))],boxes:=[(1,fun _=>[.d (.v (.int .i64 c)),.d (.sl 1 (sL rs))])],arrs:=[],ok:=fun i=>i≤rs.length∧(rs.drop i).all (fun r=>QbS r c)=rs.all (fun r=>QbS r c),mu:=fun i=>rs.length-i} rfl 0 ⟨Nat.zero_le _,rfl⟩ ?_ fun i hi=>?_
  ·exact gQ
  ·dsimp only at i hi
   obtain⟨hi,ht⟩:=hi;(repeat' first|refine gA fun _=>?_|apply fkI<;>intro hb<;>try simp only[ew,Qy,Qbf,QaA,Tryz.results22]at hb|simp only[go_sem,simprocAttr, *,Qy,Qbf,QaA,Tryz.results22])
   ·unfold QK;rw[←ht,Qbk (by omega) [] _,‹QbS _ _=false›];rfl
   ·refine lpN (i+1) ⟨by omega,?_⟩ (by dsimp only;omega) ?_
    ·rw[←ht,Qbk (i:=i) (by omega) [] _,‹QbS _ _=true›];rfl
    ·exact gQ
   ·unfold QK;rw[←ht,List.drop_of_length_le (by omega)];simp
 ·cases hr
def QoO(c:Int)(rs:List (List Int))(a b:Int):Bool:=QK c rs&&inB a 0 (c-1)&&inB b 0 (c-1)
theorem QAC{c:Int}{rs:List (List Int)}(h:QK c rs=true):1≤c∧c≤5:=by
 simp[QK,inB]at h;omega
end Go.Own
