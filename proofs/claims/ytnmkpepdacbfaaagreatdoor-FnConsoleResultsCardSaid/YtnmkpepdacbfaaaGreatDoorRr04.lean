/-
  Own calculus: the rules by which an abstract state is reckoned, gathered under one word. Conditions: none.
-/
import Derived.Test.YtnmkpepdacbfaaaGreatDoorRr03
import Derived.Test.YtnmkpepdacbfaaaGreatDoorProg
import Derived.Lib.LaidTab
import Derived.Shelf.Strconv.Itoa3
set_option linter.unusedVariables false
set_option linter.unusedSimpArgs false
set_option maxRecDepth 20000
set_option maxHeartbeats 2000000
namespace Go.Own
open Go
theorem tyM{P:Program}{l:List (FuncId×Qb)}{wr:Bool}{im:Nat→Bool}{nm:Bool}{bx:Nat→Bool}{t:TypeId}{r:Option TyI}(h:QbG P t=r):(mkT P l wr im nm bx).ty t=r:=h
theorem all_nil{α:Type}{p:α→Prop}:(∀x,x∈([]:List α)→p x)↔True:=⟨fun _=>trivial,fun _ x hx=>nomatch hx⟩
theorem gA{T:QH}{s:St}{p:Prop}{v:AV}{us:List (Id×Ob)}{ops:Array Oper}{K:St→Prop}{d:Option Nat}{r:List Oper}(k:p→TL T ops K r (s.put d v us))
  (h:p:=by first|omega|((repeat' (first|apply And.intro|assumption|omega|intro _));done)|(simp only[maxLen];omega)|simp_all|(simp_all[maxLen];omega)):Qy6 p T ops K d r s v us:=Qfv h k
theorem ew:(∀(p:Prop) [Decidable p],(decide p=true)=p)∧(∀(p:Prop) [Decidable p],(decide p=false)↔¬p)∧(∀xs:List Int,(iL xs).length=xs.length)∧(∀rs:List (List Int),(sL rs).length=rs.length)∧
  (∀n m:Nat,(n:Int)<(m:Int)↔n<m)∧(∀n m:Nat,(n:Int)≤(m:Int)↔n≤m)∧(∀b:Bool,((!b)=true)=(b=false))∧(∀b:Bool,((!b)=false)=(b=true))∧
  (∀{α:Type} [BEq α] [LawfulBEq α] {a b:α},(a==b)=true↔a=b)∧(∀{α:Type} [BEq α] [LawfulBEq α] {a b:α},(a !=b)=true↔a≠b)∧(∀{α:Type} [BEq α] [LawfulBEq α] {a b:α},(a==b)=false↔a≠b)∧
  (∀{α:Type} [BEq α] [LawfulBEq α] {a b:α},(a !=b)=false↔a=b)∧(∀{α:Type} (a b:α),(a≠b)=¬(a=b))∧(∀{p:Prop} [Decidable p],¬¬p↔p)∧(∀a b:Bool,((a&&b)=true)=(a=true∧b=true))∧
  (∀a b:Bool,(a&&b)=false↔(a=true→b=false)):=
 ⟨@decide_eq_true_eq,@decide_eq_false_iff_not,Qo,Qas,fun _ _=>Int.ofNat_lt,fun _ _=>Int.ofNat_le,Bool.not_eq_true',Bool.not_eq_false',@beq_iff_eq,@bne_iff_ne,@beq_eq_false_iff_ne,@bne_eq_false_iff_eq,@ne_eq,@Decidable.not_not,Bool.and_eq_true,@Bool.and_eq_false_imp⟩
attribute [go_sem ↓] Qy2 Qpx QwH Qzy Qmt Qsw Qvi QiZ Qls Qoy Qpb QrD
  QsX QvD QvE QvC Qy1 QsY
attribute [go_sem] F1 QhZ gOf opF cls rho opM opP opR Option.getD_some Option.getD_none Qpt
  Qrg Qrc QoX QfB QkE Value.oneCell' QAH Qyo Qyn AV.mk QxM QxL QxI QwM Qtl QpX
  QxH QsB Qpm QS Qac Qw Qcp Qv9 scrub QbR List.any_cons List.any_nil
  List.all_cons List.all_nil decide_true decide_false Bool.or_false Bool.or_true Bool.false_or Bool.true_or Bool.and_false Bool.false_and List.map_cons List.map_nil
  List.append_nil List.nil_append List.cons_append Qc8 Qbr List.getD_cons_zero List.getD_cons_succ List.getD_nil QsQ Qpw Qpv Qn
  AV.isAny Ob.isNone Bool.and_self toD Array.toList_map Bool.false_eq_true true_and and_true Bool.and_true Bool.true_and Int.toNat_natCast List.map_replicate
  forall_const Prod.mk.injEq Nat.succ_ne_self QAn QBf QxQ QO.st Qv Qbl Qb3 QAx QAv
  QAw QAu decide_eq_true_eq decide_eq_false_iff_not List.length_cons List.length_nil Qo Qz8 QAa Nat.zero_add List.take_zero List.drop_zero
  Nat.add_zero List.take_nil List.drop_nil List.drop_succ_cons List.take_succ_cons QgA Qop QeV Qco Qam Qbb Qu
  DEq QuH List.filterMap_cons List.filterMap_nil pcN QvF Qot Qzw QgC Qmn QBd Qdk QmQ QAy Qqo QdC Qpl QBe QcR QmP
  and_self List.nodup_cons List.nodup_nil List.mem_nil_iff List.not_mem_nil not_false_eq_true imp_self implies_true Option.some.injEq beq_self_eq_true Option.bind_some Option.bind_none
  Int.ofNat_lt Int.ofNat_le Int.natCast_nonneg List.headD_cons List.mem_cons forall_eq or_false QAR QyD QxK Nat.min_self Nat.le_refl
  Nat.lt_irrefl List.length_append List.length_take List.length_replicate List.length_set QBB D.v.injEq Value.int.injEq Value.bool.injEq QyQ Int.cast_ofNat_Int Int.natCast_zero
  Int.natCast_one false_or or_true true_or Qz9 ne_eq Nat.one_ne_zero Qfi look QbN Qeh Qb6
  rvN Qlb Qhz Qgu QcZ QkZ Qr9 Qc6 QrQ List.headD_nil List.tail_nil List.tail_cons
  QlE QcY Qf8 QgM QgS Qbf Qbi Q7 Qay QG Qas QAN
  QAO D.sl.injEq bne_self_eq_false RC.d.injEq Qg6 Qf0 Qdv Qdu QbY Qf7 Qpe Option.isSome_some
  Option.isSome_none List.getElem?_cons_zero List.getElem?_cons_succ List.set_cons_zero List.set_cons_succ QaI QB QdH Qps QAM Qy9 not_true_eq_false not_false_iff
  decide_not id_eq Bool.not_true Bool.not_false Bool.not_eq_true' Bool.not_eq_false' Bool.or_self QcQ QjU Qe5 Qcc Qc2
  Op.operands QA3 QA4 all_nil List.getElem?_toArray forall_eq_or_imp Qt5 Qxj beq_true Bool.true_eq_false Bool.cond_true Bool.cond_false
  cond_true cond_false Call.operands List.append_toArray List.toList_toArray Option.toList_some Option.toList_none List.range_zero List.range_succ Nat.zero_mul Nat.zero_le Nat.one_mul
  List.cons.injEq and_self_iff QuD QuC QuB QuA Qga Qed QrA Qp0 QrW QeU QbE QAo Qzb QBn QBm QpM QCn Quz Quy isV Qsg QyA QpN Qwj QnB
  Qza Qfj QhT Qj8 Qf9 QoC stK Qk5 Qk6 QBb QvG bxs Qjp Qd9 Qbr Qmy Qib Qpu QeX QaT QK List.map_id QAt bxq QkB QBi QdS Qij List.isEmpty_nil
  frG QhQ Qck Qgb QhX QdB Qme QdX QhV Qh0 QeE QBo QpO QzS Qqr QCo QuF QuE
theorem mxE:maxLen=9223372036854775807:=rfl
theorem nLe{n m:Nat}(h:Nat.ble n m=true):n≤m:=Nat.le_of_ble_eq_true h
theorem gQ{p:Prop}(h:p:=by(repeat' first|refine gA fun _=>?_|apply fkI<;>intro hb<;>try simp only[ew]at hb|simp only[go_sem,simprocAttr, *])<;>first|rfl|skip):p:=h
end Go.Own
namespace Go.Own
open Go Go.Proofs
theorem ty2:QbG Tryz.prog 2=some ⟨1,8,false,false,.int .i64,[Value.int .i64 0]⟩:=by kernel_rfl
theorem ty3:QbG Tryz.prog 3=some ⟨1,8,false,false,.int .i64,[Value.int .i64 0]⟩:=by kernel_rfl
theorem ty4:QbG Tryz.prog 4=some ⟨1,1,false,false,.bool,[Value.bool false]⟩:=by kernel_rfl
theorem ty5:QbG Tryz.prog 5=some ⟨1,1,false,false,.int .u8,[Value.int .u8 0]⟩:=by kernel_rfl
theorem ty6:QbG Tryz.prog 6=some ⟨1,1,false,false,.int .u8,[Value.int .u8 0]⟩:=by kernel_rfl
theorem ty7:QbG Tryz.prog 7=some ⟨4,24,true,false,.struct [(0,2),(1,3),(2,4),(3,6)],[Value.int .i64 0,Value.int .i64 0,Value.bool false,Value.int .u8 0]⟩:=by kernel_rfl
theorem ty8:QbG Tryz.prog 8=some ⟨4,24,true,false,.struct [(0,2),(1,3),(2,4),(3,6)],[Value.int .i64 0,Value.int .i64 0,Value.bool false,Value.int .u8 0]⟩:=by kernel_rfl
theorem ty9:QbG Tryz.prog 9=some ⟨1,16,false,false,.str,[Value.string ByteArray.empty]⟩:=by kernel_rfl
theorem QC5:QbG Tryz.prog 10=some ⟨1,16,false,false,.str,[Value.string ByteArray.empty]⟩:=by kernel_rfl
theorem QC6:QbG Tryz.prog 11=some ⟨1,16,false,false,.str,[Value.string ByteArray.empty]⟩:=by kernel_rfl
theorem QC7:QbG Tryz.prog 12=some ⟨1,8,false,false,.int .u64,[Value.int .u64 0]⟩:=by kernel_rfl
theorem QC8:QbG Tryz.prog 13=some ⟨2,24,true,false,.struct [(0,9),(1,12)],[Value.string ByteArray.empty,Value.int .u64 0]⟩:=by kernel_rfl
theorem QC9:QbG Tryz.prog 14=some ⟨2,24,true,false,.struct [(0,9),(1,12)],[Value.string ByteArray.empty,Value.int .u64 0]⟩:=by kernel_rfl
theorem QDa:QbG Tryz.prog 21=some ⟨1,4,false,false,.int .i32,[Value.int .i32 0]⟩:=by kernel_rfl
theorem QDb:QbG Tryz.prog 24=some ⟨1,24,false,false,.slice 5,[Value.slice none 0 0]⟩:=by kernel_rfl
theorem QDc:QbG Tryz.prog 27=some ⟨1,24,false,false,.slice 31,[Value.slice none 0 0]⟩:=by kernel_rfl
theorem QDd:QbG Tryz.prog 28=some ⟨2,32,true,false,.struct [(0,3),(1,27)],[Value.int .i64 0,Value.slice none 0 0]⟩:=by kernel_rfl
theorem QDe:QbG Tryz.prog 29=some ⟨2,32,true,false,.struct [(0,3),(1,27)],[Value.int .i64 0,Value.slice none 0 0]⟩:=by kernel_rfl
theorem QDf:QbG Tryz.prog 30=some ⟨1,24,false,false,.slice 9,[Value.slice none 0 0]⟩:=by kernel_rfl
theorem QDg:QbG Tryz.prog 31=some ⟨1,24,false,false,.slice 3,[Value.slice none 0 0]⟩:=by kernel_rfl
theorem QDh:QbG Tryz.prog 35=some ⟨1,24,false,false,.slice 57,[Value.slice none 0 0]⟩:=by kernel_rfl
theorem QDi:QbG Tryz.prog 42=some ⟨4,64,true,false,.struct [(0,29),(2,3),(3,35)],[Value.int .i64 0,Value.slice none 0 0,Value.int .i64 0,Value.slice none 0 0]⟩:=by kernel_rfl
theorem QDj:QbG Tryz.prog 43=some ⟨4,64,true,false,.struct [(0,29),(2,3),(3,35)],[Value.int .i64 0,Value.slice none 0 0,Value.int .i64 0,Value.slice none 0 0]⟩:=by kernel_rfl
theorem QDk:QbG Tryz.prog 44=some ⟨6,96,true,false,.struct [(0,43),(4,4),(5,35)],[Value.int .i64 0,Value.slice none 0 0,Value.int .i64 0,Value.slice none 0 0,Value.bool false,Value.slice none 0 0]⟩:=by kernel_rfl
theorem QDl:QbG Tryz.prog 45=some ⟨6,96,true,false,.struct [(0,43),(4,4),(5,35)],[Value.int .i64 0,Value.slice none 0 0,Value.int .i64 0,Value.slice none 0 0,Value.bool false,Value.slice none 0 0]⟩:=by kernel_rfl
theorem QDm:QbG Tryz.prog 49=some ⟨5,88,true,false,.struct [(0,43),(4,35)],[Value.int .i64 0,Value.slice none 0 0,Value.int .i64 0,Value.slice none 0 0,Value.slice none 0 0]⟩:=by kernel_rfl
theorem QDn:QbG Tryz.prog 50=some ⟨5,88,true,false,.struct [(0,43),(4,35)],[Value.int .i64 0,Value.slice none 0 0,Value.int .i64 0,Value.slice none 0 0,Value.slice none 0 0]⟩:=by kernel_rfl
theorem QDo:QbG Tryz.prog 56=some ⟨2,16,true,true,.struct [(0,3),(1,3)],[Value.int .i64 0,Value.int .i64 0]⟩:=by kernel_rfl
theorem QDp:QbG Tryz.prog 57=some ⟨2,16,true,true,.struct [(0,3),(1,3)],[Value.int .i64 0,Value.int .i64 0]⟩:=by kernel_rfl
theorem QDq:QbG Tryz.prog 96=some ⟨3,40,true,false,.struct [(0,24),(1,3),(2,3)],[Value.slice none 0 0,Value.int .i64 0,Value.int .i64 0]⟩:=by kernel_rfl
theorem QDr:QbG Tryz.prog 97=some ⟨3,40,true,false,.struct [(0,24),(1,3),(2,3)],[Value.slice none 0 0,Value.int .i64 0,Value.int .i64 0]⟩:=by kernel_rfl
theorem QB0:QbG Tryz.prog 126=some ⟨1,8,false,false,.int .u64,[Value.int .u64 0]⟩:=by kernel_rfl
theorem QB1:QbG Tryz.prog 135=some ⟨1,24,false,false,.slice 139,[Value.slice none 0 0]⟩:=by kernel_rfl
theorem QB2:QbG Tryz.prog 138=some ⟨3,24,true,true,.struct [(0,3),(1,3),(2,3)],[Value.int .i64 0,Value.int .i64 0,Value.int .i64 0]⟩:=by kernel_rfl
theorem QB3:QbG Tryz.prog 139=some ⟨3,24,true,true,.struct [(0,3),(1,3),(2,3)],[Value.int .i64 0,Value.int .i64 0,Value.int .i64 0]⟩:=by kernel_rfl
theorem QB4:QbG Tryz.prog 158=some ⟨1,8,false,false,.int .i64,[Value.int .i64 0]⟩:=by kernel_rfl
theorem QB5:QbG Tryz.prog 171=some ⟨2,2,true,true,.struct [(0,5),(1,5)],[Value.int .u8 0,Value.int .u8 0]⟩:=by kernel_rfl
theorem QB6:QbG Tryz.prog 172=some ⟨2,2,true,true,.struct [(0,5),(1,5)],[Value.int .u8 0,Value.int .u8 0]⟩:=by kernel_rfl
theorem QB7:QbG Tryz.prog 174=some ⟨1,4,false,false,.int .u32,[Value.int .u32 0]⟩:=by kernel_rfl
theorem QB8:QbG Tryz.prog 179=some ⟨1,8,false,false,.int .u64,[Value.int .u64 0]⟩:=by kernel_rfl
theorem QB9:QbG Tryz.prog 195=some ⟨1,8,false,false,.int .i64,[Value.int .i64 0]⟩:=by kernel_rfl
theorem QCa:QbG Tryz.prog 205=some ⟨1,16,true,false,.struct [(0,9)],[Value.string ByteArray.empty]⟩:=by kernel_rfl
theorem QCb:QbG Tryz.prog 206=some ⟨1,16,true,false,.struct [(0,9)],[Value.string ByteArray.empty]⟩:=by kernel_rfl
theorem QCc:QbG Tryz.prog 216=some ⟨1,24,false,false,.slice 4,[Value.slice none 0 0]⟩:=by kernel_rfl
theorem QCd:QbG Tryz.prog 222=some ⟨1,8,false,false,.int .u64,[Value.int .u64 0]⟩:=by kernel_rfl
theorem QCe:QbG Tryz.prog 247=some ⟨1,1,false,false,.int .u8,[Value.int .u8 0]⟩:=by kernel_rfl
theorem QCf:QbG Tryz.prog 248=some ⟨1,1,false,false,.int .u8,[Value.int .u8 0]⟩:=by kernel_rfl
theorem QCg:QbG Tryz.prog 250=some ⟨1,4,false,false,.int .i32,[Value.int .i32 0]⟩:=by kernel_rfl
theorem QCh:QbG Tryz.prog 251=some ⟨1,4,false,false,.int .i32,[Value.int .i32 0]⟩:=by kernel_rfl
theorem Qe:Tryz.prog.follows .mixedOrders=true:=by kernel_rfl
theorem tm2{l:List (FuncId×Qb)}{wr:Bool}{im:Nat→Bool}{nm:Bool}{bx:Nat→Bool}:(mkT Tryz.prog l wr im nm bx).ty 2=some ⟨1,8,false,false,.int .i64,[Value.int .i64 0]⟩:=tyM ty2
theorem tm3{l:List (FuncId×Qb)}{wr:Bool}{im:Nat→Bool}{nm:Bool}{bx:Nat→Bool}:(mkT Tryz.prog l wr im nm bx).ty 3=some ⟨1,8,false,false,.int .i64,[Value.int .i64 0]⟩:=tyM ty3
theorem tm4{l:List (FuncId×Qb)}{wr:Bool}{im:Nat→Bool}{nm:Bool}{bx:Nat→Bool}:(mkT Tryz.prog l wr im nm bx).ty 4=some ⟨1,1,false,false,.bool,[Value.bool false]⟩:=tyM ty4
theorem tm5{l:List (FuncId×Qb)}{wr:Bool}{im:Nat→Bool}{nm:Bool}{bx:Nat→Bool}:(mkT Tryz.prog l wr im nm bx).ty 5=some ⟨1,1,false,false,.int .u8,[Value.int .u8 0]⟩:=tyM ty5
theorem tm6{l:List (FuncId×Qb)}{wr:Bool}{im:Nat→Bool}{nm:Bool}{bx:Nat→Bool}:(mkT Tryz.prog l wr im nm bx).ty 6=some ⟨1,1,false,false,.int .u8,[Value.int .u8 0]⟩:=tyM ty6
theorem tm7{l:List (FuncId×Qb)}{wr:Bool}{im:Nat→Bool}{nm:Bool}{bx:Nat→Bool}:(mkT Tryz.prog l wr im nm bx).ty 7=some ⟨4,24,true,false,.struct [(0,2),(1,3),(2,4),(3,6)],[Value.int .i64 0,Value.int .i64 0,Value.bool false,Value.int .u8 0]⟩:=tyM ty7
theorem tm8{l:List (FuncId×Qb)}{wr:Bool}{im:Nat→Bool}{nm:Bool}{bx:Nat→Bool}:(mkT Tryz.prog l wr im nm bx).ty 8=some ⟨4,24,true,false,.struct [(0,2),(1,3),(2,4),(3,6)],[Value.int .i64 0,Value.int .i64 0,Value.bool false,Value.int .u8 0]⟩:=tyM ty8
theorem tm9{l:List (FuncId×Qb)}{wr:Bool}{im:Nat→Bool}{nm:Bool}{bx:Nat→Bool}:(mkT Tryz.prog l wr im nm bx).ty 9=some ⟨1,16,false,false,.str,[Value.string ByteArray.empty]⟩:=tyM ty9
theorem QCG{l:List (FuncId×Qb)}{wr:Bool}{im:Nat→Bool}{nm:Bool}{bx:Nat→Bool}:(mkT Tryz.prog l wr im nm bx).ty 10=some ⟨1,16,false,false,.str,[Value.string ByteArray.empty]⟩:=tyM QC5
theorem QCH{l:List (FuncId×Qb)}{wr:Bool}{im:Nat→Bool}{nm:Bool}{bx:Nat→Bool}:(mkT Tryz.prog l wr im nm bx).ty 11=some ⟨1,16,false,false,.str,[Value.string ByteArray.empty]⟩:=tyM QC6
theorem QCI{l:List (FuncId×Qb)}{wr:Bool}{im:Nat→Bool}{nm:Bool}{bx:Nat→Bool}:(mkT Tryz.prog l wr im nm bx).ty 12=some ⟨1,8,false,false,.int .u64,[Value.int .u64 0]⟩:=tyM QC7
theorem QCJ{l:List (FuncId×Qb)}{wr:Bool}{im:Nat→Bool}{nm:Bool}{bx:Nat→Bool}:(mkT Tryz.prog l wr im nm bx).ty 13=some ⟨2,24,true,false,.struct [(0,9),(1,12)],[Value.string ByteArray.empty,Value.int .u64 0]⟩:=tyM QC8
theorem QCK{l:List (FuncId×Qb)}{wr:Bool}{im:Nat→Bool}{nm:Bool}{bx:Nat→Bool}:(mkT Tryz.prog l wr im nm bx).ty 14=some ⟨2,24,true,false,.struct [(0,9),(1,12)],[Value.string ByteArray.empty,Value.int .u64 0]⟩:=tyM QC9
theorem QCL{l:List (FuncId×Qb)}{wr:Bool}{im:Nat→Bool}{nm:Bool}{bx:Nat→Bool}:(mkT Tryz.prog l wr im nm bx).ty 21=some ⟨1,4,false,false,.int .i32,[Value.int .i32 0]⟩:=tyM QDa
theorem QCM{l:List (FuncId×Qb)}{wr:Bool}{im:Nat→Bool}{nm:Bool}{bx:Nat→Bool}:(mkT Tryz.prog l wr im nm bx).ty 24=some ⟨1,24,false,false,.slice 5,[Value.slice none 0 0]⟩:=tyM QDb
theorem QCN{l:List (FuncId×Qb)}{wr:Bool}{im:Nat→Bool}{nm:Bool}{bx:Nat→Bool}:(mkT Tryz.prog l wr im nm bx).ty 27=some ⟨1,24,false,false,.slice 31,[Value.slice none 0 0]⟩:=tyM QDc
theorem QCO{l:List (FuncId×Qb)}{wr:Bool}{im:Nat→Bool}{nm:Bool}{bx:Nat→Bool}:(mkT Tryz.prog l wr im nm bx).ty 28=some ⟨2,32,true,false,.struct [(0,3),(1,27)],[Value.int .i64 0,Value.slice none 0 0]⟩:=tyM QDd
theorem QCP{l:List (FuncId×Qb)}{wr:Bool}{im:Nat→Bool}{nm:Bool}{bx:Nat→Bool}:(mkT Tryz.prog l wr im nm bx).ty 29=some ⟨2,32,true,false,.struct [(0,3),(1,27)],[Value.int .i64 0,Value.slice none 0 0]⟩:=tyM QDe
theorem QCQ{l:List (FuncId×Qb)}{wr:Bool}{im:Nat→Bool}{nm:Bool}{bx:Nat→Bool}:(mkT Tryz.prog l wr im nm bx).ty 30=some ⟨1,24,false,false,.slice 9,[Value.slice none 0 0]⟩:=tyM QDf
theorem QCR{l:List (FuncId×Qb)}{wr:Bool}{im:Nat→Bool}{nm:Bool}{bx:Nat→Bool}:(mkT Tryz.prog l wr im nm bx).ty 31=some ⟨1,24,false,false,.slice 3,[Value.slice none 0 0]⟩:=tyM QDg
theorem QCS{l:List (FuncId×Qb)}{wr:Bool}{im:Nat→Bool}{nm:Bool}{bx:Nat→Bool}:(mkT Tryz.prog l wr im nm bx).ty 35=some ⟨1,24,false,false,.slice 57,[Value.slice none 0 0]⟩:=tyM QDh
theorem QCT{l:List (FuncId×Qb)}{wr:Bool}{im:Nat→Bool}{nm:Bool}{bx:Nat→Bool}:(mkT Tryz.prog l wr im nm bx).ty 42=some ⟨4,64,true,false,.struct [(0,29),(2,3),(3,35)],[Value.int .i64 0,Value.slice none 0 0,Value.int .i64 0,Value.slice none 0 0]⟩:=tyM QDi
theorem QCU{l:List (FuncId×Qb)}{wr:Bool}{im:Nat→Bool}{nm:Bool}{bx:Nat→Bool}:(mkT Tryz.prog l wr im nm bx).ty 43=some ⟨4,64,true,false,.struct [(0,29),(2,3),(3,35)],[Value.int .i64 0,Value.slice none 0 0,Value.int .i64 0,Value.slice none 0 0]⟩:=tyM QDj
theorem QCV{l:List (FuncId×Qb)}{wr:Bool}{im:Nat→Bool}{nm:Bool}{bx:Nat→Bool}:(mkT Tryz.prog l wr im nm bx).ty 44=some ⟨6,96,true,false,.struct [(0,43),(4,4),(5,35)],[Value.int .i64 0,Value.slice none 0 0,Value.int .i64 0,Value.slice none 0 0,Value.bool false,Value.slice none 0 0]⟩:=tyM QDk
theorem QCW{l:List (FuncId×Qb)}{wr:Bool}{im:Nat→Bool}{nm:Bool}{bx:Nat→Bool}:(mkT Tryz.prog l wr im nm bx).ty 45=some ⟨6,96,true,false,.struct [(0,43),(4,4),(5,35)],[Value.int .i64 0,Value.slice none 0 0,Value.int .i64 0,Value.slice none 0 0,Value.bool false,Value.slice none 0 0]⟩:=tyM QDl
theorem QCX{l:List (FuncId×Qb)}{wr:Bool}{im:Nat→Bool}{nm:Bool}{bx:Nat→Bool}:(mkT Tryz.prog l wr im nm bx).ty 49=some ⟨5,88,true,false,.struct [(0,43),(4,35)],[Value.int .i64 0,Value.slice none 0 0,Value.int .i64 0,Value.slice none 0 0,Value.slice none 0 0]⟩:=tyM QDm
theorem QCY{l:List (FuncId×Qb)}{wr:Bool}{im:Nat→Bool}{nm:Bool}{bx:Nat→Bool}:(mkT Tryz.prog l wr im nm bx).ty 50=some ⟨5,88,true,false,.struct [(0,43),(4,35)],[Value.int .i64 0,Value.slice none 0 0,Value.int .i64 0,Value.slice none 0 0,Value.slice none 0 0]⟩:=tyM QDn
theorem QCZ{l:List (FuncId×Qb)}{wr:Bool}{im:Nat→Bool}{nm:Bool}{bx:Nat→Bool}:(mkT Tryz.prog l wr im nm bx).ty 56=some ⟨2,16,true,true,.struct [(0,3),(1,3)],[Value.int .i64 0,Value.int .i64 0]⟩:=tyM QDo
theorem QC0{l:List (FuncId×Qb)}{wr:Bool}{im:Nat→Bool}{nm:Bool}{bx:Nat→Bool}:(mkT Tryz.prog l wr im nm bx).ty 57=some ⟨2,16,true,true,.struct [(0,3),(1,3)],[Value.int .i64 0,Value.int .i64 0]⟩:=tyM QDp
theorem QC1{l:List (FuncId×Qb)}{wr:Bool}{im:Nat→Bool}{nm:Bool}{bx:Nat→Bool}:(mkT Tryz.prog l wr im nm bx).ty 96=some ⟨3,40,true,false,.struct [(0,24),(1,3),(2,3)],[Value.slice none 0 0,Value.int .i64 0,Value.int .i64 0]⟩:=tyM QDq
theorem QC2{l:List (FuncId×Qb)}{wr:Bool}{im:Nat→Bool}{nm:Bool}{bx:Nat→Bool}:(mkT Tryz.prog l wr im nm bx).ty 97=some ⟨3,40,true,false,.struct [(0,24),(1,3),(2,3)],[Value.slice none 0 0,Value.int .i64 0,Value.int .i64 0]⟩:=tyM QDr
theorem QBI{l:List (FuncId×Qb)}{wr:Bool}{im:Nat→Bool}{nm:Bool}{bx:Nat→Bool}:(mkT Tryz.prog l wr im nm bx).ty 126=some ⟨1,8,false,false,.int .u64,[Value.int .u64 0]⟩:=tyM QB0
theorem QBJ{l:List (FuncId×Qb)}{wr:Bool}{im:Nat→Bool}{nm:Bool}{bx:Nat→Bool}:(mkT Tryz.prog l wr im nm bx).ty 135=some ⟨1,24,false,false,.slice 139,[Value.slice none 0 0]⟩:=tyM QB1
theorem QBK{l:List (FuncId×Qb)}{wr:Bool}{im:Nat→Bool}{nm:Bool}{bx:Nat→Bool}:(mkT Tryz.prog l wr im nm bx).ty 138=some ⟨3,24,true,true,.struct [(0,3),(1,3),(2,3)],[Value.int .i64 0,Value.int .i64 0,Value.int .i64 0]⟩:=tyM QB2
theorem QBL{l:List (FuncId×Qb)}{wr:Bool}{im:Nat→Bool}{nm:Bool}{bx:Nat→Bool}:(mkT Tryz.prog l wr im nm bx).ty 139=some ⟨3,24,true,true,.struct [(0,3),(1,3),(2,3)],[Value.int .i64 0,Value.int .i64 0,Value.int .i64 0]⟩:=tyM QB3
theorem QBM{l:List (FuncId×Qb)}{wr:Bool}{im:Nat→Bool}{nm:Bool}{bx:Nat→Bool}:(mkT Tryz.prog l wr im nm bx).ty 158=some ⟨1,8,false,false,.int .i64,[Value.int .i64 0]⟩:=tyM QB4
theorem QBN{l:List (FuncId×Qb)}{wr:Bool}{im:Nat→Bool}{nm:Bool}{bx:Nat→Bool}:(mkT Tryz.prog l wr im nm bx).ty 171=some ⟨2,2,true,true,.struct [(0,5),(1,5)],[Value.int .u8 0,Value.int .u8 0]⟩:=tyM QB5
theorem QBO{l:List (FuncId×Qb)}{wr:Bool}{im:Nat→Bool}{nm:Bool}{bx:Nat→Bool}:(mkT Tryz.prog l wr im nm bx).ty 172=some ⟨2,2,true,true,.struct [(0,5),(1,5)],[Value.int .u8 0,Value.int .u8 0]⟩:=tyM QB6
theorem QBP{l:List (FuncId×Qb)}{wr:Bool}{im:Nat→Bool}{nm:Bool}{bx:Nat→Bool}:(mkT Tryz.prog l wr im nm bx).ty 174=some ⟨1,4,false,false,.int .u32,[Value.int .u32 0]⟩:=tyM QB7
theorem QBQ{l:List (FuncId×Qb)}{wr:Bool}{im:Nat→Bool}{nm:Bool}{bx:Nat→Bool}:(mkT Tryz.prog l wr im nm bx).ty 179=some ⟨1,8,false,false,.int .u64,[Value.int .u64 0]⟩:=tyM QB8
theorem QBR{l:List (FuncId×Qb)}{wr:Bool}{im:Nat→Bool}{nm:Bool}{bx:Nat→Bool}:(mkT Tryz.prog l wr im nm bx).ty 195=some ⟨1,8,false,false,.int .i64,[Value.int .i64 0]⟩:=tyM QB9
theorem QBS{l:List (FuncId×Qb)}{wr:Bool}{im:Nat→Bool}{nm:Bool}{bx:Nat→Bool}:(mkT Tryz.prog l wr im nm bx).ty 205=some ⟨1,16,true,false,.struct [(0,9)],[Value.string ByteArray.empty]⟩:=tyM QCa
theorem QBT{l:List (FuncId×Qb)}{wr:Bool}{im:Nat→Bool}{nm:Bool}{bx:Nat→Bool}:(mkT Tryz.prog l wr im nm bx).ty 206=some ⟨1,16,true,false,.struct [(0,9)],[Value.string ByteArray.empty]⟩:=tyM QCb
theorem QBU{l:List (FuncId×Qb)}{wr:Bool}{im:Nat→Bool}{nm:Bool}{bx:Nat→Bool}:(mkT Tryz.prog l wr im nm bx).ty 216=some ⟨1,24,false,false,.slice 4,[Value.slice none 0 0]⟩:=tyM QCc
theorem QBV{l:List (FuncId×Qb)}{wr:Bool}{im:Nat→Bool}{nm:Bool}{bx:Nat→Bool}:(mkT Tryz.prog l wr im nm bx).ty 222=some ⟨1,8,false,false,.int .u64,[Value.int .u64 0]⟩:=tyM QCd
theorem QBW{l:List (FuncId×Qb)}{wr:Bool}{im:Nat→Bool}{nm:Bool}{bx:Nat→Bool}:(mkT Tryz.prog l wr im nm bx).ty 247=some ⟨1,1,false,false,.int .u8,[Value.int .u8 0]⟩:=tyM QCe
theorem QBX{l:List (FuncId×Qb)}{wr:Bool}{im:Nat→Bool}{nm:Bool}{bx:Nat→Bool}:(mkT Tryz.prog l wr im nm bx).ty 248=some ⟨1,1,false,false,.int .u8,[Value.int .u8 0]⟩:=tyM QCf
theorem QBY{l:List (FuncId×Qb)}{wr:Bool}{im:Nat→Bool}{nm:Bool}{bx:Nat→Bool}:(mkT Tryz.prog l wr im nm bx).ty 250=some ⟨1,4,false,false,.int .i32,[Value.int .i32 0]⟩:=tyM QCg
theorem QBZ{l:List (FuncId×Qb)}{wr:Bool}{im:Nat→Bool}{nm:Bool}{bx:Nat→Bool}:(mkT Tryz.prog l wr im nm bx).ty 251=some ⟨1,4,false,false,.int .i32,[Value.int .i32 0]⟩:=tyM QCh
attribute [go_sem] tm2 tm3 tm4 tm5 tm6 tm7 tm8 tm9 QCG QCH QCI QCJ QCK QCL QCM QCN QCO QCP QCQ QCR QCS QCT QCU QCV QCW QCX QCY QCZ QC0 QC1 QC2 QBI QBJ QBK QBL QBM QBN QBO QBP QBQ QBR QBS QBT QBU QBV QBW QBX QBY QBZ
end Go.Own
namespace Go.Own
open Go Go.Proofs
def QBH:Array Value:=(Lib.pow10Tab.map fun z=>Value.int .u64 z).toArray
structure Low(h:QT):Prop where
  max:∃c e fz,h[0]? =some (.cells c e fz)∧∃m,c[0]? =some (.int .i64 m)
  syn:∃c e fz,h[3]? =some (.cells c e fz)∧∃v,c[0]? =some v∧(v= .nilIface∨∃t p,v= .iface t p)
  rng:∃c e fz,h[4]? =some (.cells c e fz)∧∃v,c[0]? =some v∧(v= .nilIface∨∃t p,v= .iface t p)
  tab:∃e fz,h[5]? =some (.cells QBH e fz)
theorem QCu:∀h h':QT,Low h→(∀b,b<8→h'[b]? =h[b]?)→Low h':=fun h h' a hs=>by
 refine⟨?_,?_,?_,?_⟩
 ·rw[hs 0 (by omega)];exact a.max
 ·rw[hs 3 (by omega)];exact a.syn
 ·rw[hs 4 (by omega)];exact a.rng
 ·rw[hs 5 (by omega)];exact a.tab
noncomputable def E0:Env:=⟨Tryz.prog,8,Low,QCu⟩
theorem Qi1{w:World}{b:Nat}{c:Array Value}{e fz}{v:Value}(h:w.heap[b]? =some (.cells c e fz))(hv:c[0]? =some v):w.cell? ⟨b,0,none⟩=some v:=by
 unfold World.cell?;dsimp only;rw[h];exact hv
theorem QCm{w:World}(h:E0.J w.heap):∃m,w.cell? ⟨0,0,none⟩=some (.int .i64 m):=by
 obtain⟨c,e,fz,h1,m,h2⟩:=Low.max h;exact⟨m,Qi1 h1 h2⟩
theorem QBA{w:World}(h:E0.J w.heap):∃v,w.cell? ⟨3,0,none⟩=some v∧(v= .nilIface∨∃t p,v= .iface t p):=by
 obtain⟨c,e,fz,h1,v,h2,h3⟩:=Low.syn h;exact⟨v,Qi1 h1 h2,h3⟩
theorem QBz{w:World}(h:E0.J w.heap):∃v,w.cell? ⟨4,0,none⟩=some v∧(v= .nilIface∨∃t p,v= .iface t p):=by
 obtain⟨c,e,fz,h1,v,h2,h3⟩:=Low.rng h;exact⟨v,Qi1 h1 h2,h3⟩
theorem Qk{α:Type}{xs:List α}{i:Nat}(h:i<xs.length)(d:α):xs.take (i+1)=xs.take i++[xs.getD i d]:=by
 rw[List.take_add_one];simp[List.getD_eq_getElem?_getD,h]
theorem QaX{α:Type}{xs:List α}{i:Nat}(h:i<xs.length)(d:α):xs.drop i=xs.getD i d::xs.drop (i+1):=by
 rw[List.drop_eq_getElem_cons h];simp[List.getD_eq_getElem?_getD,h]
theorem QlQ{α:Type}{xs ys:List α}{i:Nat}(h:xs.length=ys.length)(hi:¬i<xs.length)(ht:xs.take i=ys.take i):xs=ys:=by
 rwa [List.take_of_length_le (by omega),List.take_of_length_le (by omega)]at ht
theorem Qpf{α:Type}{xs ys:List α}{i:Nat}{d:α}(h:xs.getD i d≠ys.getD i d):xs≠ys:=fun e=>h (by rw[e])
theorem QdK{rs:List (List Int)}{B:Nat}(h:∀r∈rs,r.length≤B)(i:Nat):(rs.getD i []).length≤B:=by
 by_cases hi:i<rs.length
 ·exact h _ (by simp[List.getD_eq_getElem?_getD,hi])
 ·simp[List.getD_eq_getElem?_getD,Nat.le_of_not_lt hi]
theorem Qbd{α:Type}{xs:List α}{i:Nat}(h:i<xs.length)(d:α)(f:α→Bool):(xs.drop i).all f=(f (xs.getD i d)&&(xs.drop (i+1)).all f):=by
 rw[QaX h d];rfl
end Go.Own
namespace Go.Own
open Go Go.Proofs
end Go.Own
namespace Go.Own
open Go Go.Proofs
end Go.Own
namespace Go.Own
open Go Go.Proofs
def inB(x lo hi:Int):Bool:=decide (x≥lo)&&decide (x≤hi)
def Qbx(r:List Int)(c:Int):Bool:=r.all (fun v=>inB v (-1) 40)&&decide ((r.length:Int)=c)
def QC(c:Int)(rs:List (List Int)):Bool:=rs.all (fun r=>Qbx r c)&&(inB c 1 5&&decide ((rs.length:Int)≤40))
def QbD:Qb:=⟨[],false,fun
 | [.one (.v (.int .i64 x)),.one (.v (.int .i64 lo)),.one (.v (.int .i64 hi))]=>some (True,[⟨false,[.d (.v (.bool (inB x lo hi)))]⟩],[])
 | _=>none⟩
theorem Qhj:Qa E0 62 QbD:=by
 refine QV (E:=E0) (T:=mkT Tryz.prog [] false (fun _=>false) true (fun _=>false)) (Qf (E:=E0) .nil) (fn:=Tryz.f62) Tryz.func62 (by kernel_rfl) rfl Qe (by kernel_rfl) rfl ?_
 intro args p rs ms hr;unfold QbD at hr;dsimp only at hr;split at hr
 ·cases hr
  refine⟨rfl,rfl,nLe rfl,?_⟩
  intro _ bs;unfold inB;(repeat' first|refine gA fun _=>?_|apply fkI<;>intro hb<;>try simp only[ew,QbD,Tryz.results62]at hb|simp only[go_sem,simprocAttr, *,QbD,Tryz.results62])
 ·cases hr
def Qar:Qb:=⟨[],false,fun
 | [.one (.sl 1 a),.one (.v (.int .i64 c))]=>some (WfI a,[⟨false,[.d (.v (.bool (Qbx (unI a) c)))]⟩],[])
 | _=>none⟩
theorem QuN:Qa E0 61 Qar:=by
 refine QV (E:=E0) (T:=mkT Tryz.prog [(62,QbD)] false (fun _=>false) true (fun _=>false)) (Qf (E:=E0) (.cons Qhj .nil)) (fn:=Tryz.f61) Tryz.func61 (by kernel_rfl) rfl Qe (by kernel_rfl) rfl ?_
 intro args p rs ms hr;unfold Qar at hr;dsimp only at hr;split at hr
 ·rename_i l c
  cases hr;refine⟨rfl,rfl,nLe rfl,?_⟩
  intro h1 bs;obtain⟨xs,rfl,hx⟩:=h1.ex;clear h1;rw[Qay];have hm:=mxE;unfold Qbx;(repeat' first|refine gA fun _=>?_|apply fkI<;>intro hb<;>try simp only[ew,Qar,QbD,Tryz.results61]at hb|simp only[go_sem,simprocAttr, *,Qar,QbD,Tryz.results61])
  refine lpI {ι:=Nat,rs:=[(4,5),(6,18)],mods:=[(5,fun i=> .one (.d (.v (.int .i64 i))))],boxes:=[],arrs:=[],ok:=fun i=>i≤xs.length∧(xs.drop i).all (fun v=>inB v (-1) 40)=xs.all (fun v=>inB v (-1) 40),mu:=fun i=>xs.length-i} rfl 0 ⟨Nat.zero_le _,rfl⟩ ?_ fun i hi=>?_
  ·(repeat' first|refine gA fun _=>?_|apply fkI<;>intro hb<;>try simp only[ew,Qar]at hb|simp only[go_sem,simprocAttr, *,Qar])
  ·dsimp only at i hi
   obtain⟨hi,ht⟩:=hi;(repeat' first|refine gA fun _=>?_|apply fkI<;>intro hb<;>try simp only[ew,Qar,QbD,Tryz.results61]at hb|simp only[go_sem,simprocAttr, *,Qar,QbD,Tryz.results61])
   ·rw[←ht,Qbd (by omega) 0 _,‹inB _ _ _=false›];rfl
   ·refine lpN (i+1) ⟨by omega,?_⟩ (by dsimp only;omega) ?_
    ·rw[←ht,Qbd (i:=i) (by omega) 0 _,‹inB _ _ _=true›];rfl
    ·exact gQ
   ·rw[←ht,List.drop_of_length_le (by omega)];rw[Bool.eq_iff_iff];simp
 ·cases hr
def Qs:Qb:=⟨[],false,fun
 | [.agg [.v (.int .i64 c),.sl 1 a]]=>some (WfS a∧ -9223372036854775808≤c∧c≤9223372036854775807,[⟨false,[.d (.v (.bool (QC c (unS a))))]⟩],[])
 | _=>none⟩
theorem Qhd:Qa E0 22 Qs:=by
 refine QV (E:=E0) (T:=mkT Tryz.prog [(62,QbD),(61,Qar)] false (fun _=>false) true (fun _=>false)) (Qf (E:=E0) (.cons Qhj (.cons QuN .nil))) (fn:=Tryz.f22) Tryz.func22 (by kernel_rfl) rfl Qe (by kernel_rfl) rfl ?_
 intro args p rs ms hr;unfold Qs at hr;dsimp only at hr;split at hr
 ·rename_i c l
  cases hr;refine⟨rfl,rfl,nLe rfl,?_⟩
  rintro⟨h1,hc1,hc2⟩ bs;obtain⟨rs,rfl,hx,hy⟩:=h1.ex;clear h1;rw[QG];have hm:=mxE;have hyi:=QdK hy
  (repeat' first|refine gA fun _=>?_|apply fkI<;>intro hb<;>try simp only[ew,Qs,QbD,Qar,Tryz.results22]at hb|simp only[go_sem,simprocAttr, *,Qs,QbD,Qar,Tryz.results22])
  refine lpI {ι:=Nat,rs:=[(2,3),(4,20)],mods:=[(3,fun i=> .one (.d (.v (.int .i64 i))))],boxes:=[(1,fun _=>[.d (.v (.int .i64 c)),.d (.sl 1 (sL rs))])],arrs:=[],ok:=fun i=>i≤rs.length∧(rs.drop i).all (fun r=>Qbx r c)=rs.all (fun r=>Qbx r c),mu:=fun i=>rs.length-i} rfl 0 ⟨Nat.zero_le _,rfl⟩ ?_ fun i hi=>?_
  ·exact gQ
  ·dsimp only at i hi
   obtain⟨hi,ht⟩:=hi;(repeat' first|refine gA fun _=>?_|apply fkI<;>intro hb<;>try simp only[ew,Qs,QbD,Qar,Tryz.results22]at hb|simp only[go_sem,simprocAttr, *,Qs,QbD,Qar,Tryz.results22])
   ·unfold QC;rw[←ht,Qbd (by omega) [] _,‹Qbx _ _=false›];rfl
   ·refine lpN (i+1) ⟨by omega,?_⟩ (by dsimp only;omega) ?_
    ·rw[←ht,Qbd (i:=i) (by omega) [] _,‹Qbx _ _=true›];rfl
    ·exact gQ
   ·unfold QC;rw[←ht,List.drop_of_length_le (by omega)];simp
 ·cases hr
def QmX(c:Int)(rs:List (List Int))(a b:Int):Bool:=QC c rs&&inB a 0 (c-1)&&inB b 0 (c-1)
theorem QyS{c:Int}{rs:List (List Int)}(h:QC c rs=true):1≤c∧c≤5:=by
 simp[QC,inB]at h;omega
end Go.Own
