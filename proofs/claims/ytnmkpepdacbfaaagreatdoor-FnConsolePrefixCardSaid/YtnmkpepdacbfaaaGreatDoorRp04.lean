/- Contracts. Conditions: as stated. -/
import Derived.Test.YtnmkpepdacbfaaaGreatDoorRp03
import Derived.Test.YtnmkpepdacbfaaaGreatDoorProg
import Derived.Lib.LaidTab
import Derived.Shelf.Strconv.Itoa3
set_option linter.all false
set_option maxRecDepth 20000
set_option maxHeartbeats 2000000
namespace Go.Own
open Go
theorem tyM{P:Program}{l:List (FuncId×Qb)}{wr:Bool}{im:Nat→Bool}{nm:Bool}{bx:Nat→Bool}{t:TypeId}{r:Option TyI}(h:Qb8 P t=r):(mkT P l wr im nm bx).ty t=r:=h
theorem all_nil{α:Type}{p:α→Prop}:(∀x,x∈([]:List α)→p x)↔True:=⟨fun _=>trivial,fun _ x hx=>nomatch hx⟩
theorem gA{T:QS}{s:St}{p:Prop}{v:AV}{us:List (Id×Ob)}{ops:Array Oper}{K:St→Prop}{d:Option Nat}{r:List Oper}(k:p→TL T ops K r (s.put d v us))
  (h:p:=by first|omega|((repeat' (first|apply And.intro|assumption|omega|intro _));done)|(simp only[maxLen];omega)|simp_all|(simp_all[maxLen];omega)):QCG p T ops K d r s v us:=QeM h k
theorem ew:(∀(p:Prop) [Decidable p],(decide p=true)=p)∧(∀(p:Prop) [Decidable p],(decide p=false)↔¬p)∧(∀xs:List Int,(iL xs).length=xs.length)∧(∀rs:List (List Int),(sL rs).length=rs.length)∧
  (∀n m:Nat,(n:Int)<(m:Int)↔n<m)∧(∀n m:Nat,(n:Int)≤(m:Int)↔n≤m)∧(∀b:Bool,((!b)=true)=(b=false))∧(∀b:Bool,((!b)=false)=(b=true))∧
  (∀{α:Type} [BEq α] [LawfulBEq α] {a b:α},(a==b)=true↔a=b)∧(∀{α:Type} [BEq α] [LawfulBEq α] {a b:α},(a !=b)=true↔a≠b)∧(∀{α:Type} [BEq α] [LawfulBEq α] {a b:α},(a==b)=false↔a≠b)∧
  (∀{α:Type} [BEq α] [LawfulBEq α] {a b:α},(a !=b)=false↔a=b)∧(∀{α:Type} (a b:α),(a≠b)=¬(a=b))∧(∀{p:Prop} [Decidable p],¬¬p↔p)∧(∀a b:Bool,((a&&b)=true)=(a=true∧b=true))∧
  (∀a b:Bool,(a&&b)=false↔(a=true→b=false)):=
 ⟨@KK,@Kl,Qs,Qai,fun _ _=>Int.ofNat_lt,fun _ _=>Int.ofNat_le,Ko,YL,@Kh,@bne_iff_ne,@KU,@bne_eq_false_iff_eq,@ne_eq,@Decidable.not_not,KB,@Bool.and_eq_false_imp⟩
attribute [go_sem ↓] Qwi QkV Qz3 QCZ Qjq QnL QyG QfL Qit QrK Qso QuT
  QnV QyY QyZ Qry QCA Qwh
attribute [go_sem] F1 QjX gOf opF cls rho opM opP opR Option.getD_some Option.getD_none QsH
  Quu Quq Qsb QgY Qni Value.oneCell' QD6 QBU QBT AV.mk QBg QBf QBc Qz8 QwE Qtc
  QBb QvX QsA Q4 Qat QC QcX Qzs scrub Qcg List.any_cons List.any_nil
  List.all_cons List.all_nil decide_true decide_false Bool.or_false Bool.or_true K8 YC YM KT List.map_cons List.map_nil
  KM List.nil_append List.cons_append QbA QbL List.getD_cons_zero List.getD_cons_succ List.getD_nil Qwa QsM QsL Qr
  AV.isAny Ob.isNone Bool.and_self toD Array.toList_map KX true_and and_true Yd KY KE List.map_replicate
  forall_const KC Nat.succ_ne_self QDM QEE QBk QY.st Qy QbR Qct QDW QDU
  QDV QDT KK Kl List.length_cons Yb Qs QDE QDG Ya Kw K1
  Nat.add_zero List.take_nil List.drop_nil List.drop_succ_cons List.take_succ_cons Qig QrA Qf7 QcW QaB QbI Qw
  DEq Qx8 List.filterMap_cons List.filterMap_nil pcN Qy1 QrE QzY Qhf Qpa QEC Qeb QpJ QDX QtL QdX Qsy QED QdD QpI
  and_self Ke List.nodup_nil List.mem_nil_iff YK not_false_eq_true imp_self implies_true KA beq_self_eq_true Option.bind_some Option.bind_none
  Int.ofNat_lt Int.ofNat_le Int.natCast_nonneg List.headD_cons KI forall_eq or_false QEi QB8 QBe Nat.min_self KP
  Nat.lt_irrefl KN KO List.length_replicate List.length_set QE3 D.v.injEq Value.int.injEq Value.bool.injEq QCl Int.cast_ofNat_Int Int.natCast_zero
  Int.natCast_one false_or or_true true_or QDF ne_eq Nat.one_ne_zero QgA look Qce Qfh Qcx
  rvN Qn0 Qjn Qh8 QdO QnI Qvt QdY Qu8 List.headD_nil List.tail_nil List.tail_cons
  Qor QdM Qhx Qis Qiy QbM QbO Qao QaH QB Qai QEf
  QEg D.sl.injEq bne_self_eq_false RC.d.injEq QiR Qhq Qeq Qep Qcn Qhw Qsr Option.isSome_some
  Option.isSome_none List.getElem?_cons_zero List.getElem?_cons_succ List.set_cons_zero List.set_cons_succ Qa8 QK QeB QsG QEd QCJ not_true_eq_false not_false_iff
  decide_not id_eq YV YU Ko YL Bool.or_self QdC Ql9 Qgn QcI QdT
  Op.operands QzO QEt all_nil List.getElem?_toArray forall_eq_or_imp Qxt QAG beq_true Bool.true_eq_false Bool.cond_true Bool.cond_false
  cond_true cond_false Call.operands List.append_toArray List.toList_toArray Option.toList_some Option.toList_none List.range_zero List.range_succ Nat.zero_mul KJ Nat.one_mul
  YO and_self_iff Qx3 Qx2 Qx1 Qx0 QhA Qfb QuO Qpx Qo5 Qf6 Qb5 QDO QCL QEN QCW Qmr QE1 QxZ QxY isV QfA Qjo Qs0 QzA QqH
  QCK QgB QjL Qmt Qhz QrS stK QnQ QnR QEB Qy2 bxs QlD Qe8 QbL Qpk Qka QsK Qgb Qbm QW List.map_id QDS bxq Qnc QEJ QeO Qkh List.isEmpty_nil
  frG QjF QcS QhB QjT Qew QjU Qdo QjO QjY QfQ QCX Qms Qxh Qhh QE2 Qx5 Qx4
theorem mxE:maxLen=9223372036854775807:=rfl
theorem nLe{n m:Nat}(h:Nat.ble n m=true):n≤m:=Nat.le_of_ble_eq_true h
theorem gQ{p:Prop}(h:p:=by(repeat' first|refine gA fun _=>?_|apply fkI<;>intro hb<;>try simp only[ew]at hb|simp only[go_sem,simprocAttr, *])<;>first|rfl|skip):p:=h
theorem gP{p:Prop}(h:p:=by (repeat' first|refine gA fun u_=>?_|apply fkI<;>intro u_<;>try simp only[ew, *]at u_|simp only[go_sem,simprocAttr, *])<;>rfl):p:=h
structure Wr(q:Prop):Prop where
 o:q
theorem gR{p q:Prop}(a:q)(h:Wr q→p:=by intro w_;(repeat' first|refine gA fun u_=>?_|apply fkI<;>intro u_<;>try simp only[ew, *]at u_|simp only[go_sem,simprocAttr, *]);(repeat revert u_);all_goals exact w_.o):p:=h ⟨a⟩
theorem lpQ{Q:_}{s:_}{nm:Bool}{I:QY}{i:I.ι}(j:I.ι)(h3:Qig nm I j s)(h1:I.ok j:=by dsimp only;omega)(h2:I.mu j<I.mu i:=by dsimp only;omega):QlI nm I i Q .normal s:=⟨j,h1,h2,h3⟩
section
open Go.Proofs
theorem ty2:Qb8 Tryz.prog 2=some ⟨1,8,false,false,.int .i64,[Value.int .i64 0]⟩:=kR
theorem ty3:Qb8 Tryz.prog 3=some ⟨1,8,false,false,.int .i64,[Value.int .i64 0]⟩:=kR
theorem ty4:Qb8 Tryz.prog 4=some ⟨1,1,false,false,.bool,[Value.bool false]⟩:=kR
theorem ty5:Qb8 Tryz.prog 5=some ⟨1,1,false,false,.int .u8,[Value.int .u8 0]⟩:=kR
theorem ty6:Qb8 Tryz.prog 6=some ⟨1,1,false,false,.int .u8,[Value.int .u8 0]⟩:=kR
theorem ty7:Qb8 Tryz.prog 7=some ⟨4,24,true,false,.struct [(0,2),(1,3),(2,4),(3,6)],[Value.int .i64 0,Value.int .i64 0,Value.bool false,Value.int .u8 0]⟩:=kR
theorem ty8:Qb8 Tryz.prog 8=some ⟨4,24,true,false,.struct [(0,2),(1,3),(2,4),(3,6)],[Value.int .i64 0,Value.int .i64 0,Value.bool false,Value.int .u8 0]⟩:=kR
theorem ty9:Qb8 Tryz.prog 9=some ⟨1,16,false,false,.str,[Value.string ByteArray.empty]⟩:=kR
theorem QGu:Qb8 Tryz.prog 10=some ⟨1,16,false,false,.str,[Value.string ByteArray.empty]⟩:=kR
theorem QGv:Qb8 Tryz.prog 11=some ⟨1,16,false,false,.str,[Value.string ByteArray.empty]⟩:=kR
theorem QGw:Qb8 Tryz.prog 12=some ⟨1,8,false,false,.int .u64,[Value.int .u64 0]⟩:=kR
theorem QGx:Qb8 Tryz.prog 13=some ⟨2,24,true,false,.struct [(0,9),(1,12)],[Value.string ByteArray.empty,Value.int .u64 0]⟩:=kR
theorem QGy:Qb8 Tryz.prog 14=some ⟨2,24,true,false,.struct [(0,9),(1,12)],[Value.string ByteArray.empty,Value.int .u64 0]⟩:=kR
theorem QGz:Qb8 Tryz.prog 21=some ⟨1,4,false,false,.int .i32,[Value.int .i32 0]⟩:=kR
theorem QGA:Qb8 Tryz.prog 24=some ⟨1,24,false,false,.slice 5,[Value.slice none 0 0]⟩:=kR
theorem QGB:Qb8 Tryz.prog 27=some ⟨1,24,false,false,.slice 31,[Value.slice none 0 0]⟩:=kR
theorem QGC:Qb8 Tryz.prog 28=some ⟨2,32,true,false,.struct [(0,3),(1,27)],[Value.int .i64 0,Value.slice none 0 0]⟩:=kR
theorem QGD:Qb8 Tryz.prog 29=some ⟨2,32,true,false,.struct [(0,3),(1,27)],[Value.int .i64 0,Value.slice none 0 0]⟩:=kR
theorem QGE:Qb8 Tryz.prog 30=some ⟨1,24,false,false,.slice 9,[Value.slice none 0 0]⟩:=kR
theorem QGF:Qb8 Tryz.prog 31=some ⟨1,24,false,false,.slice 3,[Value.slice none 0 0]⟩:=kR
theorem QGG:Qb8 Tryz.prog 35=some ⟨1,24,false,false,.slice 57,[Value.slice none 0 0]⟩:=kR
theorem QGH:Qb8 Tryz.prog 42=some ⟨4,64,true,false,.struct [(0,29),(2,3),(3,35)],[Value.int .i64 0,Value.slice none 0 0,Value.int .i64 0,Value.slice none 0 0]⟩:=kR
theorem QGI:Qb8 Tryz.prog 43=some ⟨4,64,true,false,.struct [(0,29),(2,3),(3,35)],[Value.int .i64 0,Value.slice none 0 0,Value.int .i64 0,Value.slice none 0 0]⟩:=kR
theorem QGJ:Qb8 Tryz.prog 44=some ⟨6,96,true,false,.struct [(0,43),(4,4),(5,35)],[Value.int .i64 0,Value.slice none 0 0,Value.int .i64 0,Value.slice none 0 0,Value.bool false,Value.slice none 0 0]⟩:=kR
theorem QGK:Qb8 Tryz.prog 45=some ⟨6,96,true,false,.struct [(0,43),(4,4),(5,35)],[Value.int .i64 0,Value.slice none 0 0,Value.int .i64 0,Value.slice none 0 0,Value.bool false,Value.slice none 0 0]⟩:=kR
theorem QGL:Qb8 Tryz.prog 49=some ⟨5,88,true,false,.struct [(0,43),(4,35)],[Value.int .i64 0,Value.slice none 0 0,Value.int .i64 0,Value.slice none 0 0,Value.slice none 0 0]⟩:=kR
theorem QGM:Qb8 Tryz.prog 50=some ⟨5,88,true,false,.struct [(0,43),(4,35)],[Value.int .i64 0,Value.slice none 0 0,Value.int .i64 0,Value.slice none 0 0,Value.slice none 0 0]⟩:=kR
theorem QGN:Qb8 Tryz.prog 56=some ⟨2,16,true,true,.struct [(0,3),(1,3)],[Value.int .i64 0,Value.int .i64 0]⟩:=kR
theorem QGO:Qb8 Tryz.prog 57=some ⟨2,16,true,true,.struct [(0,3),(1,3)],[Value.int .i64 0,Value.int .i64 0]⟩:=kR
theorem QGP:Qb8 Tryz.prog 96=some ⟨3,40,true,false,.struct [(0,24),(1,3),(2,3)],[Value.slice none 0 0,Value.int .i64 0,Value.int .i64 0]⟩:=kR
theorem QGQ:Qb8 Tryz.prog 97=some ⟨3,40,true,false,.struct [(0,24),(1,3),(2,3)],[Value.slice none 0 0,Value.int .i64 0,Value.int .i64 0]⟩:=kR
theorem QFs:Qb8 Tryz.prog 126=some ⟨1,8,false,false,.int .u64,[Value.int .u64 0]⟩:=kR
theorem QFt:Qb8 Tryz.prog 135=some ⟨1,24,false,false,.slice 139,[Value.slice none 0 0]⟩:=kR
theorem QFu:Qb8 Tryz.prog 138=some ⟨3,24,true,true,.struct [(0,3),(1,3),(2,3)],[Value.int .i64 0,Value.int .i64 0,Value.int .i64 0]⟩:=kR
theorem QFv:Qb8 Tryz.prog 139=some ⟨3,24,true,true,.struct [(0,3),(1,3),(2,3)],[Value.int .i64 0,Value.int .i64 0,Value.int .i64 0]⟩:=kR
theorem QFw:Qb8 Tryz.prog 158=some ⟨1,8,false,false,.int .i64,[Value.int .i64 0]⟩:=kR
theorem QFx:Qb8 Tryz.prog 171=some ⟨2,2,true,true,.struct [(0,5),(1,5)],[Value.int .u8 0,Value.int .u8 0]⟩:=kR
theorem QFy:Qb8 Tryz.prog 172=some ⟨2,2,true,true,.struct [(0,5),(1,5)],[Value.int .u8 0,Value.int .u8 0]⟩:=kR
theorem QFz:Qb8 Tryz.prog 174=some ⟨1,4,false,false,.int .u32,[Value.int .u32 0]⟩:=kR
theorem QFA:Qb8 Tryz.prog 179=some ⟨1,8,false,false,.int .u64,[Value.int .u64 0]⟩:=kR
theorem QFB:Qb8 Tryz.prog 195=some ⟨1,8,false,false,.int .i64,[Value.int .i64 0]⟩:=kR
theorem QFC:Qb8 Tryz.prog 205=some ⟨1,16,true,false,.struct [(0,9)],[Value.string ByteArray.empty]⟩:=kR
theorem QFD:Qb8 Tryz.prog 206=some ⟨1,16,true,false,.struct [(0,9)],[Value.string ByteArray.empty]⟩:=kR
theorem QFE:Qb8 Tryz.prog 216=some ⟨1,24,false,false,.slice 4,[Value.slice none 0 0]⟩:=kR
theorem QFF:Qb8 Tryz.prog 222=some ⟨1,8,false,false,.int .u64,[Value.int .u64 0]⟩:=kR
theorem QFG:Qb8 Tryz.prog 247=some ⟨1,1,false,false,.int .u8,[Value.int .u8 0]⟩:=kR
theorem QFH:Qb8 Tryz.prog 248=some ⟨1,1,false,false,.int .u8,[Value.int .u8 0]⟩:=kR
theorem QFI:Qb8 Tryz.prog 250=some ⟨1,4,false,false,.int .i32,[Value.int .i32 0]⟩:=kR
theorem QFJ:Qb8 Tryz.prog 251=some ⟨1,4,false,false,.int .i32,[Value.int .i32 0]⟩:=kR
theorem Qc:Tryz.prog.follows .mixedOrders=true:=kR
theorem tm2{l:List (FuncId×Qb)}{wr:Bool}{im:Nat→Bool}{nm:Bool}{bx:Nat→Bool}:(mkT Tryz.prog l wr im nm bx).ty 2=some ⟨1,8,false,false,.int .i64,[Value.int .i64 0]⟩:=tyM ty2
theorem tm3{l:List (FuncId×Qb)}{wr:Bool}{im:Nat→Bool}{nm:Bool}{bx:Nat→Bool}:(mkT Tryz.prog l wr im nm bx).ty 3=some ⟨1,8,false,false,.int .i64,[Value.int .i64 0]⟩:=tyM ty3
theorem tm4{l:List (FuncId×Qb)}{wr:Bool}{im:Nat→Bool}{nm:Bool}{bx:Nat→Bool}:(mkT Tryz.prog l wr im nm bx).ty 4=some ⟨1,1,false,false,.bool,[Value.bool false]⟩:=tyM ty4
theorem tm5{l:List (FuncId×Qb)}{wr:Bool}{im:Nat→Bool}{nm:Bool}{bx:Nat→Bool}:(mkT Tryz.prog l wr im nm bx).ty 5=some ⟨1,1,false,false,.int .u8,[Value.int .u8 0]⟩:=tyM ty5
theorem tm6{l:List (FuncId×Qb)}{wr:Bool}{im:Nat→Bool}{nm:Bool}{bx:Nat→Bool}:(mkT Tryz.prog l wr im nm bx).ty 6=some ⟨1,1,false,false,.int .u8,[Value.int .u8 0]⟩:=tyM ty6
theorem tm7{l:List (FuncId×Qb)}{wr:Bool}{im:Nat→Bool}{nm:Bool}{bx:Nat→Bool}:(mkT Tryz.prog l wr im nm bx).ty 7=some ⟨4,24,true,false,.struct [(0,2),(1,3),(2,4),(3,6)],[Value.int .i64 0,Value.int .i64 0,Value.bool false,Value.int .u8 0]⟩:=tyM ty7
theorem tm8{l:List (FuncId×Qb)}{wr:Bool}{im:Nat→Bool}{nm:Bool}{bx:Nat→Bool}:(mkT Tryz.prog l wr im nm bx).ty 8=some ⟨4,24,true,false,.struct [(0,2),(1,3),(2,4),(3,6)],[Value.int .i64 0,Value.int .i64 0,Value.bool false,Value.int .u8 0]⟩:=tyM ty8
theorem tm9{l:List (FuncId×Qb)}{wr:Bool}{im:Nat→Bool}{nm:Bool}{bx:Nat→Bool}:(mkT Tryz.prog l wr im nm bx).ty 9=some ⟨1,16,false,false,.str,[Value.string ByteArray.empty]⟩:=tyM ty9
theorem QF5{l:List (FuncId×Qb)}{wr:Bool}{im:Nat→Bool}{nm:Bool}{bx:Nat→Bool}:(mkT Tryz.prog l wr im nm bx).ty 10=some ⟨1,16,false,false,.str,[Value.string ByteArray.empty]⟩:=tyM QGu
theorem QF6{l:List (FuncId×Qb)}{wr:Bool}{im:Nat→Bool}{nm:Bool}{bx:Nat→Bool}:(mkT Tryz.prog l wr im nm bx).ty 11=some ⟨1,16,false,false,.str,[Value.string ByteArray.empty]⟩:=tyM QGv
theorem QF7{l:List (FuncId×Qb)}{wr:Bool}{im:Nat→Bool}{nm:Bool}{bx:Nat→Bool}:(mkT Tryz.prog l wr im nm bx).ty 12=some ⟨1,8,false,false,.int .u64,[Value.int .u64 0]⟩:=tyM QGw
theorem QF8{l:List (FuncId×Qb)}{wr:Bool}{im:Nat→Bool}{nm:Bool}{bx:Nat→Bool}:(mkT Tryz.prog l wr im nm bx).ty 13=some ⟨2,24,true,false,.struct [(0,9),(1,12)],[Value.string ByteArray.empty,Value.int .u64 0]⟩:=tyM QGx
theorem QF9{l:List (FuncId×Qb)}{wr:Bool}{im:Nat→Bool}{nm:Bool}{bx:Nat→Bool}:(mkT Tryz.prog l wr im nm bx).ty 14=some ⟨2,24,true,false,.struct [(0,9),(1,12)],[Value.string ByteArray.empty,Value.int .u64 0]⟩:=tyM QGy
theorem QGa{l:List (FuncId×Qb)}{wr:Bool}{im:Nat→Bool}{nm:Bool}{bx:Nat→Bool}:(mkT Tryz.prog l wr im nm bx).ty 21=some ⟨1,4,false,false,.int .i32,[Value.int .i32 0]⟩:=tyM QGz
theorem QGb{l:List (FuncId×Qb)}{wr:Bool}{im:Nat→Bool}{nm:Bool}{bx:Nat→Bool}:(mkT Tryz.prog l wr im nm bx).ty 24=some ⟨1,24,false,false,.slice 5,[Value.slice none 0 0]⟩:=tyM QGA
theorem QGc{l:List (FuncId×Qb)}{wr:Bool}{im:Nat→Bool}{nm:Bool}{bx:Nat→Bool}:(mkT Tryz.prog l wr im nm bx).ty 27=some ⟨1,24,false,false,.slice 31,[Value.slice none 0 0]⟩:=tyM QGB
theorem QGd{l:List (FuncId×Qb)}{wr:Bool}{im:Nat→Bool}{nm:Bool}{bx:Nat→Bool}:(mkT Tryz.prog l wr im nm bx).ty 28=some ⟨2,32,true,false,.struct [(0,3),(1,27)],[Value.int .i64 0,Value.slice none 0 0]⟩:=tyM QGC
theorem QGe{l:List (FuncId×Qb)}{wr:Bool}{im:Nat→Bool}{nm:Bool}{bx:Nat→Bool}:(mkT Tryz.prog l wr im nm bx).ty 29=some ⟨2,32,true,false,.struct [(0,3),(1,27)],[Value.int .i64 0,Value.slice none 0 0]⟩:=tyM QGD
theorem QGf{l:List (FuncId×Qb)}{wr:Bool}{im:Nat→Bool}{nm:Bool}{bx:Nat→Bool}:(mkT Tryz.prog l wr im nm bx).ty 30=some ⟨1,24,false,false,.slice 9,[Value.slice none 0 0]⟩:=tyM QGE
theorem QGg{l:List (FuncId×Qb)}{wr:Bool}{im:Nat→Bool}{nm:Bool}{bx:Nat→Bool}:(mkT Tryz.prog l wr im nm bx).ty 31=some ⟨1,24,false,false,.slice 3,[Value.slice none 0 0]⟩:=tyM QGF
theorem QGh{l:List (FuncId×Qb)}{wr:Bool}{im:Nat→Bool}{nm:Bool}{bx:Nat→Bool}:(mkT Tryz.prog l wr im nm bx).ty 35=some ⟨1,24,false,false,.slice 57,[Value.slice none 0 0]⟩:=tyM QGG
theorem QGi{l:List (FuncId×Qb)}{wr:Bool}{im:Nat→Bool}{nm:Bool}{bx:Nat→Bool}:(mkT Tryz.prog l wr im nm bx).ty 42=some ⟨4,64,true,false,.struct [(0,29),(2,3),(3,35)],[Value.int .i64 0,Value.slice none 0 0,Value.int .i64 0,Value.slice none 0 0]⟩:=tyM QGH
theorem QGj{l:List (FuncId×Qb)}{wr:Bool}{im:Nat→Bool}{nm:Bool}{bx:Nat→Bool}:(mkT Tryz.prog l wr im nm bx).ty 43=some ⟨4,64,true,false,.struct [(0,29),(2,3),(3,35)],[Value.int .i64 0,Value.slice none 0 0,Value.int .i64 0,Value.slice none 0 0]⟩:=tyM QGI
theorem QGk{l:List (FuncId×Qb)}{wr:Bool}{im:Nat→Bool}{nm:Bool}{bx:Nat→Bool}:(mkT Tryz.prog l wr im nm bx).ty 44=some ⟨6,96,true,false,.struct [(0,43),(4,4),(5,35)],[Value.int .i64 0,Value.slice none 0 0,Value.int .i64 0,Value.slice none 0 0,Value.bool false,Value.slice none 0 0]⟩:=tyM QGJ
theorem QGl{l:List (FuncId×Qb)}{wr:Bool}{im:Nat→Bool}{nm:Bool}{bx:Nat→Bool}:(mkT Tryz.prog l wr im nm bx).ty 45=some ⟨6,96,true,false,.struct [(0,43),(4,4),(5,35)],[Value.int .i64 0,Value.slice none 0 0,Value.int .i64 0,Value.slice none 0 0,Value.bool false,Value.slice none 0 0]⟩:=tyM QGK
theorem QGm{l:List (FuncId×Qb)}{wr:Bool}{im:Nat→Bool}{nm:Bool}{bx:Nat→Bool}:(mkT Tryz.prog l wr im nm bx).ty 49=some ⟨5,88,true,false,.struct [(0,43),(4,35)],[Value.int .i64 0,Value.slice none 0 0,Value.int .i64 0,Value.slice none 0 0,Value.slice none 0 0]⟩:=tyM QGL
theorem QGn{l:List (FuncId×Qb)}{wr:Bool}{im:Nat→Bool}{nm:Bool}{bx:Nat→Bool}:(mkT Tryz.prog l wr im nm bx).ty 50=some ⟨5,88,true,false,.struct [(0,43),(4,35)],[Value.int .i64 0,Value.slice none 0 0,Value.int .i64 0,Value.slice none 0 0,Value.slice none 0 0]⟩:=tyM QGM
theorem QGo{l:List (FuncId×Qb)}{wr:Bool}{im:Nat→Bool}{nm:Bool}{bx:Nat→Bool}:(mkT Tryz.prog l wr im nm bx).ty 56=some ⟨2,16,true,true,.struct [(0,3),(1,3)],[Value.int .i64 0,Value.int .i64 0]⟩:=tyM QGN
theorem QGp{l:List (FuncId×Qb)}{wr:Bool}{im:Nat→Bool}{nm:Bool}{bx:Nat→Bool}:(mkT Tryz.prog l wr im nm bx).ty 57=some ⟨2,16,true,true,.struct [(0,3),(1,3)],[Value.int .i64 0,Value.int .i64 0]⟩:=tyM QGO
theorem QGq{l:List (FuncId×Qb)}{wr:Bool}{im:Nat→Bool}{nm:Bool}{bx:Nat→Bool}:(mkT Tryz.prog l wr im nm bx).ty 96=some ⟨3,40,true,false,.struct [(0,24),(1,3),(2,3)],[Value.slice none 0 0,Value.int .i64 0,Value.int .i64 0]⟩:=tyM QGP
theorem QGr{l:List (FuncId×Qb)}{wr:Bool}{im:Nat→Bool}{nm:Bool}{bx:Nat→Bool}:(mkT Tryz.prog l wr im nm bx).ty 97=some ⟨3,40,true,false,.struct [(0,24),(1,3),(2,3)],[Value.slice none 0 0,Value.int .i64 0,Value.int .i64 0]⟩:=tyM QGQ
theorem QFa{l:List (FuncId×Qb)}{wr:Bool}{im:Nat→Bool}{nm:Bool}{bx:Nat→Bool}:(mkT Tryz.prog l wr im nm bx).ty 126=some ⟨1,8,false,false,.int .u64,[Value.int .u64 0]⟩:=tyM QFs
theorem QFb{l:List (FuncId×Qb)}{wr:Bool}{im:Nat→Bool}{nm:Bool}{bx:Nat→Bool}:(mkT Tryz.prog l wr im nm bx).ty 135=some ⟨1,24,false,false,.slice 139,[Value.slice none 0 0]⟩:=tyM QFt
theorem QFc{l:List (FuncId×Qb)}{wr:Bool}{im:Nat→Bool}{nm:Bool}{bx:Nat→Bool}:(mkT Tryz.prog l wr im nm bx).ty 138=some ⟨3,24,true,true,.struct [(0,3),(1,3),(2,3)],[Value.int .i64 0,Value.int .i64 0,Value.int .i64 0]⟩:=tyM QFu
theorem QFd{l:List (FuncId×Qb)}{wr:Bool}{im:Nat→Bool}{nm:Bool}{bx:Nat→Bool}:(mkT Tryz.prog l wr im nm bx).ty 139=some ⟨3,24,true,true,.struct [(0,3),(1,3),(2,3)],[Value.int .i64 0,Value.int .i64 0,Value.int .i64 0]⟩:=tyM QFv
theorem QFe{l:List (FuncId×Qb)}{wr:Bool}{im:Nat→Bool}{nm:Bool}{bx:Nat→Bool}:(mkT Tryz.prog l wr im nm bx).ty 158=some ⟨1,8,false,false,.int .i64,[Value.int .i64 0]⟩:=tyM QFw
theorem QFf{l:List (FuncId×Qb)}{wr:Bool}{im:Nat→Bool}{nm:Bool}{bx:Nat→Bool}:(mkT Tryz.prog l wr im nm bx).ty 171=some ⟨2,2,true,true,.struct [(0,5),(1,5)],[Value.int .u8 0,Value.int .u8 0]⟩:=tyM QFx
theorem QFg{l:List (FuncId×Qb)}{wr:Bool}{im:Nat→Bool}{nm:Bool}{bx:Nat→Bool}:(mkT Tryz.prog l wr im nm bx).ty 172=some ⟨2,2,true,true,.struct [(0,5),(1,5)],[Value.int .u8 0,Value.int .u8 0]⟩:=tyM QFy
theorem QFh{l:List (FuncId×Qb)}{wr:Bool}{im:Nat→Bool}{nm:Bool}{bx:Nat→Bool}:(mkT Tryz.prog l wr im nm bx).ty 174=some ⟨1,4,false,false,.int .u32,[Value.int .u32 0]⟩:=tyM QFz
theorem QFi{l:List (FuncId×Qb)}{wr:Bool}{im:Nat→Bool}{nm:Bool}{bx:Nat→Bool}:(mkT Tryz.prog l wr im nm bx).ty 179=some ⟨1,8,false,false,.int .u64,[Value.int .u64 0]⟩:=tyM QFA
theorem QFj{l:List (FuncId×Qb)}{wr:Bool}{im:Nat→Bool}{nm:Bool}{bx:Nat→Bool}:(mkT Tryz.prog l wr im nm bx).ty 195=some ⟨1,8,false,false,.int .i64,[Value.int .i64 0]⟩:=tyM QFB
theorem QFk{l:List (FuncId×Qb)}{wr:Bool}{im:Nat→Bool}{nm:Bool}{bx:Nat→Bool}:(mkT Tryz.prog l wr im nm bx).ty 205=some ⟨1,16,true,false,.struct [(0,9)],[Value.string ByteArray.empty]⟩:=tyM QFC
theorem QFl{l:List (FuncId×Qb)}{wr:Bool}{im:Nat→Bool}{nm:Bool}{bx:Nat→Bool}:(mkT Tryz.prog l wr im nm bx).ty 206=some ⟨1,16,true,false,.struct [(0,9)],[Value.string ByteArray.empty]⟩:=tyM QFD
theorem QFm{l:List (FuncId×Qb)}{wr:Bool}{im:Nat→Bool}{nm:Bool}{bx:Nat→Bool}:(mkT Tryz.prog l wr im nm bx).ty 216=some ⟨1,24,false,false,.slice 4,[Value.slice none 0 0]⟩:=tyM QFE
theorem QFn{l:List (FuncId×Qb)}{wr:Bool}{im:Nat→Bool}{nm:Bool}{bx:Nat→Bool}:(mkT Tryz.prog l wr im nm bx).ty 222=some ⟨1,8,false,false,.int .u64,[Value.int .u64 0]⟩:=tyM QFF
theorem QFo{l:List (FuncId×Qb)}{wr:Bool}{im:Nat→Bool}{nm:Bool}{bx:Nat→Bool}:(mkT Tryz.prog l wr im nm bx).ty 247=some ⟨1,1,false,false,.int .u8,[Value.int .u8 0]⟩:=tyM QFG
theorem QFp{l:List (FuncId×Qb)}{wr:Bool}{im:Nat→Bool}{nm:Bool}{bx:Nat→Bool}:(mkT Tryz.prog l wr im nm bx).ty 248=some ⟨1,1,false,false,.int .u8,[Value.int .u8 0]⟩:=tyM QFH
theorem QFq{l:List (FuncId×Qb)}{wr:Bool}{im:Nat→Bool}{nm:Bool}{bx:Nat→Bool}:(mkT Tryz.prog l wr im nm bx).ty 250=some ⟨1,4,false,false,.int .i32,[Value.int .i32 0]⟩:=tyM QFI
theorem QFr{l:List (FuncId×Qb)}{wr:Bool}{im:Nat→Bool}{nm:Bool}{bx:Nat→Bool}:(mkT Tryz.prog l wr im nm bx).ty 251=some ⟨1,4,false,false,.int .i32,[Value.int .i32 0]⟩:=tyM QFJ
attribute [go_sem] tm2 tm3 tm4 tm5 tm6 tm7 tm8 tm9 QF5 QF6 QF7 QF8 QF9 QGa QGb QGc QGd QGe QGf QGg QGh QGi QGj QGk QGl QGm QGn QGo QGp QGq QGr QFa QFb QFc QFd QFe QFf QFg QFh QFi QFj QFk QFl QFm QFn QFo QFp QFq QFr
end
section
open Go.Proofs
def QE9:Array Value:=(Lib.pow10Tab.map fun z=>Value.int .u64 z).toArray
structure Low(h:Q6):Prop where
  max:∃c e fz,h[0]? =some (.cells c e fz)∧∃m,c[0]? =some (.int .i64 m)
  syn:∃c e fz,h[3]? =some (.cells c e fz)∧∃v,c[0]? =some v∧(v= .nilIface∨∃t p,v= .iface t p)
  rng:∃c e fz,h[4]? =some (.cells c e fz)∧∃v,c[0]? =some v∧(v= .nilIface∨∃t p,v= .iface t p)
  tab:∃e fz,h[5]? =some (.cells QE9 e fz)
theorem QFV:∀h h':Q6,Low h→(∀b,b<8→h'[b]? =h[b]?)→Low h':=fun h h' a hs=>by
 refine⟨?_,?_,?_,?_⟩
 ·rw[hs 0 (by omega)];exact a.max
 ·rw[hs 3 (by omega)];exact a.syn
 ·rw[hs 4 (by omega)];exact a.rng
 ·rw[hs 5 (by omega)];exact a.tab
noncomputable def E0:Env:=⟨Tryz.prog,8,Low,QFV⟩
theorem Qk8{w:World}{b:Nat}{c:Array Value}{e fz}{v:Value}(h:w.heap[b]? =some (.cells c e fz))(hv:c[0]? =some v):w.cell? ⟨b,0,none⟩=some v:=by
 unfold World.cell?;dsimp only;rw[h];exact hv
theorem QFO{w:World}(h:E0.J w.heap):∃m,w.cell? ⟨0,0,none⟩=some (.int .i64 m):=by
 obtain⟨c,e,fz,h1,m,h2⟩:=Low.max h;exact⟨m,Qk8 h1 h2⟩
theorem QE0{w:World}(h:E0.J w.heap):∃v,w.cell? ⟨3,0,none⟩=some v∧(v= .nilIface∨∃t p,v= .iface t p):=by
 obtain⟨c,e,fz,h1,v,h2,h3⟩:=Low.syn h;exact⟨v,Qk8 h1 h2,h3⟩
theorem QEZ{w:World}(h:E0.J w.heap):∃v,w.cell? ⟨4,0,none⟩=some v∧(v= .nilIface∨∃t p,v= .iface t p):=by
 obtain⟨c,e,fz,h1,v,h2,h3⟩:=Low.rng h;exact⟨v,Qk8 h1 h2,h3⟩
theorem Qf{α:Type}{xs:List α}{i:Nat}(h:i<xs.length)(d:α):xs.take (i+1)=xs.take i++[xs.getD i d]:=by
 rw[List.take_add_one];simp[KD,h]
theorem QaZ{α:Type}{xs:List α}{i:Nat}(h:i<xs.length)(d:α):xs.drop i=xs.getD i d::xs.drop (i+1):=by
 rw[YX h];simp[KD,h]
theorem QiP{α:Type}{xs ys:List α}{i:Nat}(h:xs.length=ys.length)(hi:¬i<xs.length)(ht:xs.take i=ys.take i):xs=ys:=by
 rwa [Kj (by omega),Kj (by omega)]at ht
theorem QkG{α:Type}{xs ys:List α}{i:Nat}{d:α}(h:xs.getD i d≠ys.getD i d):xs≠ys:=fun e=>h (by rw[e])
theorem QbZ{rs:List (List Int)}{B:Nat}(h:∀r∈rs,r.length≤B)(i:Nat):(rs.getD i []).length≤B:=by
 by_cases hi:i<rs.length
 ·exact h _ (by simp[KD,hi])
 ·simp[KD,Nat.le_of_not_lt hi]
theorem Qbt{α:Type}{xs:List α}{i:Nat}(h:i<xs.length)(d:α)(f:α→Bool):(xs.drop i).all f=(f (xs.getD i d)&&(xs.drop (i+1)).all f):=by
 rw[QaZ h d];rfl
end
section
open Go.Proofs
end
section
open Go.Proofs
end
open Go.Proofs
def inB(x lo hi:Int):Bool:=decide (x≥lo)&&decide (x≤hi)
def Qb7(r:List Int)(c:Int):Bool:=r.all (fun v=>inB v (-1) 40)&&decide ((r.length:Int)=c)
def QP(c:Int)(rs:List (List Int)):Bool:=rs.all (fun r=>Qb7 r c)&&(inB c 1 5&&decide ((rs.length:Int)≤40))
def Qbr:Qb:=⟨[],false,fun
 | [.one (.v (.int .i64 x)),.one (.v (.int .i64 lo)),.one (.v (.int .i64 hi))]=>some (True,[⟨false,[.d (.v (.bool (inB x lo hi)))]⟩],[])
 | _=>none⟩
theorem QcD:Qa E0 62 Qbr:=by
 refine QG (E:=E0) (T:=mkT Tryz.prog [] false (fun _=>false) true (fun _=>false)) (Qd (E:=E0) .nil) (fn:=Tryz.f62) Tryz.func62 kR rfl Qc kR rfl ?_
 intro args p rs ms hr;unfold Qbr at hr;dsimp only at hr;split at hr
 ·cases hr
  refine⟨rfl,rfl,nLe rfl,?_⟩
  intro _ bs;unfold inB;(repeat' first|refine gA fun _=>?_|apply fkI<;>intro hb<;>try simp only[ew,Qbr,Tryz.results62]at hb|simp only[go_sem,simprocAttr, *,Qbr,Tryz.results62])
 ·cases hr
def QaF:Qb:=⟨[],false,fun
 | [.one (.sl 1 a),.one (.v (.int .i64 c))]=>some (WfI a,[⟨false,[.d (.v (.bool (Qb7 (unI a) c)))]⟩],[])
 | _=>none⟩
theorem QqD:Qa E0 61 QaF:=by
 refine QG (E:=E0) (T:=mkT Tryz.prog [(62,Qbr)] false (fun _=>false) true (fun _=>false)) (Qd (E:=E0) (.cons QcD .nil)) (fn:=Tryz.f61) Tryz.func61 kR rfl Qc kR rfl ?_
 intro args p rs ms hr;unfold QaF at hr;dsimp only at hr;split at hr
 ·rename_i l c
  cases hr;refine⟨rfl,rfl,nLe rfl,?_⟩
  intro h1 bs;obtain⟨xs,rfl,hx⟩:=h1.ex;clear h1;rw[QaH];have hm:=mxE;unfold Qb7;(repeat' first|refine gA fun _=>?_|apply fkI<;>intro hb<;>try simp only[ew,QaF,Qbr,Tryz.results61]at hb|simp only[go_sem,simprocAttr, *,QaF,Qbr,Tryz.results61])
  refine lpI {ι:=Nat,rs:=[(4,5),(6,18)],mods:=[(5,fun i=> .one (.d (.v (.int .i64 i))))],boxes:=[],arrs:=[],ok:=fun i=>i≤xs.length∧(xs.drop i).all (fun v=>inB v (-1) 40)=xs.all (fun v=>inB v (-1) 40),mu:=fun i=>xs.length-i} rfl 0 ⟨KJ _,rfl⟩ ?_ fun i hi=>?_
  ·(repeat' first|refine gA fun _=>?_|apply fkI<;>intro hb<;>try simp only[ew,QaF]at hb|simp only[go_sem,simprocAttr, *,QaF])
  ·dsimp only at i hi
   obtain⟨hi,ht⟩:=hi;(repeat' first|refine gA fun _=>?_|apply fkI<;>intro hb<;>try simp only[ew,QaF,Qbr,Tryz.results61]at hb|simp only[go_sem,simprocAttr, *,QaF,Qbr,Tryz.results61])
   ·rw[←ht,Qbt (by omega) 0 _,‹inB _ _ _=false›];rfl
   ·refine lpN (i+1) ⟨by omega,?_⟩ (by dsimp only;omega) ?_
    ·rw[←ht,Qbt (i:=i) (by omega) 0 _,‹inB _ _ _=true›];rfl
    ·exact gQ
   ·rw[←ht,YB (by omega)];rw[Kp];simp
 ·cases hr
def QA:Qb:=⟨[],false,fun
 | [.agg [.v (.int .i64 c),.sl 1 a]]=>some (WfS a∧ -9223372036854775808≤c∧c≤9223372036854775807,[⟨false,[.d (.v (.bool (QP c (unS a))))]⟩],[])
 | _=>none⟩
theorem QoS:Qa E0 22 QA:=by
 refine QG (E:=E0) (T:=mkT Tryz.prog [(62,Qbr),(61,QaF)] false (fun _=>false) true (fun _=>false)) (Qd (E:=E0) (.cons QcD (.cons QqD .nil))) (fn:=Tryz.f22) Tryz.func22 kR rfl Qc kR rfl ?_
 intro args p rs ms hr;unfold QA at hr;dsimp only at hr;split at hr
 ·rename_i c l
  cases hr;refine⟨rfl,rfl,nLe rfl,?_⟩
  rintro⟨h1,hc1,hc2⟩ bs;obtain⟨rs,rfl,hx,hy⟩:=h1.ex;clear h1;rw[QB];have hm:=mxE;have hyi:=QbZ hy
  (repeat' first|refine gA fun _=>?_|apply fkI<;>intro hb<;>try simp only[ew,QA,Qbr,QaF,Tryz.results22]at hb|simp only[go_sem,simprocAttr, *,QA,Qbr,QaF,Tryz.results22])
  refine lpI {ι:=Nat,rs:=[(2,3),(4,20)],mods:=[(3,fun i=> .one (.d (.v (.int .i64 i))))],boxes:=[(1,fun _=>[.d (.v (.int .i64 c)),.d (.sl 1 (sL rs))])],arrs:=[],ok:=fun i=>i≤rs.length∧(rs.drop i).all (fun r=>Qb7 r c)=rs.all (fun r=>Qb7 r c),mu:=fun i=>rs.length-i} rfl 0 ⟨KJ _,rfl⟩ ?_ fun i hi=>?_
  ·exact gQ
  ·dsimp only at i hi
   obtain⟨hi,ht⟩:=hi;(repeat' first|refine gA fun _=>?_|apply fkI<;>intro hb<;>try simp only[ew,QA,Qbr,QaF,Tryz.results22]at hb|simp only[go_sem,simprocAttr, *,QA,Qbr,QaF,Tryz.results22])
   ·unfold QP;rw[←ht,Qbt (by omega) [] _,‹Qb7 _ _=false›];rfl
   ·refine lpN (i+1) ⟨by omega,?_⟩ (by dsimp only;omega) ?_
    ·rw[←ht,Qbt (i:=i) (by omega) [] _,‹Qb7 _ _=true›];rfl
    ·exact gQ
   ·unfold QP;rw[←ht,YB (by omega)];simp
 ·cases hr
def QpR(c:Int)(rs:List (List Int))(a b:Int):Bool:=QP c rs&&inB a 0 (c-1)&&inB b 0 (c-1)
theorem QCp{c:Int}{rs:List (List Int)}(h:QP c rs=true):1≤c∧c≤5:=by
 simp[QP,inB]at h;omega
end Go.Own
