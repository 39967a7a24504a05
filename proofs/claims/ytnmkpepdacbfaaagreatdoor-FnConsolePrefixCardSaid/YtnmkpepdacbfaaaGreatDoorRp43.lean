/- Contracts. Conditions: as stated. -/
import Derived.Test.YtnmkpepdacbfaaaGreatDoorRp41
import Derived.Test.YtnmkpepdacbfaaaGreatDoorRp42
set_option linter.all false
set_option maxRecDepth 20000
set_option maxHeartbeats 4000000
namespace Go.Own
open Go Go.Proofs
section
attribute [local go_sem] QrM Qmg Tryz.results95 cPV cPI Tryz.results92 QmB cPA QhO Tryz.results48 QEG cFD Tryz.results58 Qa1 Qz QbD QbT Qfc
theorem QtT:Qa E0 95 QrM:=by
 refine QG (E:=E0) (T:=mkT Tryz.prog [(97,Qmg)] false (fun _=>false) true (fun _=>false)) (Qd (E:=E0) (.cons Qjb .nil)) (fn:=Tryz.f95) Tryz.func95 kR rfl Qc kR rfl ?_
 intro args p rs ms hr;unfold QrM at hr;dsimp only at hr;split at hr;rotate_left
 ·cases hr
 rename_i x;cases hr;refine⟨rfl,rfl,nLe rfl,?_⟩
 have hm:=mxE;intro _ bs;unfold cnt;have hl:=@Qet x
 exact gQ
theorem QD7:Qa E0 92 cPV:=by
 refine QG (E:=E0) (T:=mkT Tryz.prog [(55,cPI)] false (fun _=>false) true (fun _=>false)) (Qd (E:=E0) (.cons Qq2 .nil)) (fn:=Tryz.f92) Tryz.func92 kR rfl Qc kR rfl ?_
 intro args p rs ms hr;unfold cPV at hr;dsimp only at hr;split at hr;rotate_left
 ·cases hr
 rename_i s;cases hr;refine⟨rfl,rfl,nLe rfl,?_⟩
 have hm:=mxE;intro h1 bs;unfold pvF;cases hw:isW s QjQ
 ·rw[if_neg (by decide)]
  generalize hF:spF s.data.toList=F;cases h2:F.2
  ·simp only[YU,YC,if_true]
   (repeat' first|refine gA fun _=>?_|apply fkI<;>intro hb<;>try simp only[ew,Qah,hF,hw,h2]at hb|simp only[go_sem,simprocAttr, *,Qah,hF,hw,h2])
   all_goals first|rfl|skip
  ·cases h3:decide (F.1<0)
   ·cases h4:decide (F.1>40)
    ·simp only[YV,Bool.or_self,KX,if_false]
     (repeat' first|refine gA fun _=>?_|apply fkI<;>intro hb<;>try simp only[ew,Qah,hF,hw,h2,h3,h4]at hb|simp only[go_sem,simprocAttr, *,Qah,hF,hw,h2,h3,h4])
     all_goals first|rfl|skip
    ·simp only[Bool.or_true,if_true]
     (repeat' first|refine gA fun _=>?_|apply fkI<;>intro hb<;>try simp only[ew,Qah,hF,hw,h2,h3,h4]at hb|simp only[go_sem,simprocAttr, *,Qah,hF,hw,h2,h3,h4])
     all_goals first|rfl|skip
   ·simp only[Bool.or_true,YC,if_true]
    (repeat' first|refine gA fun _=>?_|apply fkI<;>intro hb<;>try simp only[ew,Qah,hF,hw,h2,h3]at hb|simp only[go_sem,simprocAttr, *,Qah,hF,hw,h2,h3])
    all_goals first|rfl|skip
 ·rw[if_pos rfl]
  (repeat' first|refine gA fun _=>?_|apply fkI<;>intro hb<;>try simp only[ew,Qah,hw]at hb|simp only[go_sem,simprocAttr, *,Qah,hw])
  all_goals first|rfl|skip
def cPD:Qb:=⟨[],false,fun
 | [.one (.v (.int .i64 n)),.one (.v (.string s))]=>some (s.size≤1073741824∧ -9223372036854775808≤n∧n≤9223372036854775807,[⟨true,[.d (.v (.int .i64 (pdF n s).1.1)),.d (.v (.int .i64 (pdF n s).1.2))]⟩,⟨false,[.d (.v (.bool (pdF n s).2))]⟩],[])
 | _=>none⟩
attribute [local go_sem] cPD
theorem Qnx{n:Int}{x y:Int×Bool}(h:(x.2&&y.2&&decide (((mem y.1).length:Int)=1)&&QO n x.1 ((mem y.1).getD 0 0))=false):QcO n x y=((0,0),false):=by
 unfold QcO;rw[h];rfl
theorem QzE{n:Int}{x y:Int×Bool}(h:(x.2&&y.2&&decide (((mem y.1).length:Int)=1)&&QO n x.1 ((mem y.1).getD 0 0))=true):QcO n x y=((x.1,(mem y.1).getD 0 0),true):=by
 unfold QcO;rw[h];rfl
theorem u62:UInt8.ofNat (Int.toNat 62)=62:=rfl
theorem QsU:UInt8.ofNat 62=62:=rfl
theorem Qxz{s:ByteArray}:Lib.cut s.data.toList [62]=((QEV s ⟨#[62]⟩).data.toList,(QEW s ⟨#[62]⟩).data.toList,QEX s ⟨#[62]⟩):=rfl
theorem Qlv{xs:List Int}(h:0<xs.length):(iL xs).getD 0 []=[D.v (.int .i64 (xs.getD 0 0))]:=by
 simp[iL,KD,h]
theorem QBN:Qa E0 48 cPD:=by
 refine QG (E:=E0) (T:=mkT Tryz.prog [(18,QmB),(44,cPA),(45,QrM),(47,Qmg),(82,QhO)] false (fun d=>d==46) true (fun _=>false)) (Qd (E:=E0) (.cons QuM (.cons QzD (.cons Qov (.cons QoZ (.cons Qfm .nil)))))) (fn:=Tryz.f48) Tryz.func48 kR rfl Qc kR rfl ?_
 intro args p rs ms hr;unfold cPD at hr;dsimp only at hr;split at hr;rotate_left
 ·cases hr
 rename_i n s;cases hr;refine⟨rfl,rfl,nLe rfl,?_⟩
 have hm:=mxE;rintro⟨h1,n1,n2⟩ bs;unfold pdF;have hl:=@QfW 62 s.data.toList
 have hl2:(Qa9 62 s).length≤maxLen:=by
  unfold Qa9;rw[KV];rw[bsz]at hl;exact KF hl (KF (show _≤1073741825 by omega) (by decide))
 clear hl;generalize hC:Qa9 62 s=C at hl2 ⊢
 by_cases hc:C.length=2
 ·have e2:(((C.length:Nat):Int)!=2)=false:=by rw[hc];rfl
  have i0:0<C.length:=by omega
  have i1:1<C.length:=by omega
  rw[if_pos hc];clear hc;generalize hA:C.getD 0 ⟨#[]⟩=a;generalize hB:C.getD 1 ⟨#[]⟩=b;generalize hX:paF a=x;generalize hY:paF b=y;have hm:=@Qet y.1;cases p1:x.2
  ·rw[Qnx (by rw[p1];rfl)]
   (repeat' first|refine gA fun _=>?_|apply fkI<;>intro hb<;>try simp only[ew,u62,QsU,hC,hA,hB,hX,hY]at hb|simp only[go_sem,simprocAttr, *,u62,QsU,hC,hA,hB,hX,hY])
   all_goals first|rfl|skip
  ·cases p2:y.2
   ·rw[Qnx (by rw[p2];simp)]
    (repeat' first|refine gA fun _=>?_|apply fkI<;>intro hb<;>try simp only[ew,u62,QsU,hC,hA,hB,hX,hY]at hb|simp only[go_sem,simprocAttr, *,u62,QsU,hC,hA,hB,hX,hY])
    all_goals first|rfl|skip
   ·by_cases p3:((mem y.1).length:Int)=1
    ·have p3':(((mem y.1).length:Int)!=1)=false:=by rw[p3];rfl
     have j0:0<(mem y.1).length:=by omega
     have hg:=Qlv j0
     cases p4:QO n x.1 ((mem y.1).getD 0 0)
     ·rw[Qnx (by rw[p4];simp)]
      (repeat' first|refine gA fun _=>?_|apply fkI<;>intro hb<;>try simp only[ew,u62,QsU,hC,hA,hB,hX,hY,cnt]at hb|simp only[go_sem,simprocAttr, *,u62,QsU,hC,hA,hB,hX,hY,cnt])
      all_goals first|rfl|skip
     ·rw[QzE (by rw[p1,p2,KZ p3,p4];rfl)]
      (repeat' first|refine gA fun _=>?_|apply fkI<;>intro hb<;>try simp only[ew,u62,QsU,hC,hA,hB,hX,hY,cnt]at hb|simp only[go_sem,simprocAttr, *,u62,QsU,hC,hA,hB,hX,hY,cnt])
      all_goals first|rfl|skip
    ·have p3':(((mem y.1).length:Int)!=1)=true:=by rw[bne_iff_ne];exact p3
     rw[Qnx (by rw[KW p3];simp)]
     (repeat' first|refine gA fun _=>?_|apply fkI<;>intro hb<;>try simp only[ew,u62,QsU,hC,hA,hB,hX,hY,cnt]at hb|simp only[go_sem,simprocAttr, *,u62,QsU,hC,hA,hB,hX,hY,cnt])
     all_goals first|rfl|skip
 ·have e2:(((C.length:Nat):Int)!=2)=true:=by rw[bne_iff_ne];omega
  rw[if_neg hc];clear hc;(repeat' first|refine gA fun _=>?_|apply fkI<;>intro hb<;>try simp only[ew,u62,QsU,hC]at hb|simp only[go_sem,simprocAttr, *,u62,QsU,hC])
  all_goals first|rfl|skip
theorem QBM:Qa E0 58 cPD:=by
 refine QG (E:=E0) (T:=mkT Tryz.prog [(104,QEG),(94,cPA),(95,QrM),(97,Qmg),(105,QhO),(106,cFD)] false (fun d=>d==44) true (fun _=>false)) (Qd (E:=E0) (.cons QDo (.cons QzC (.cons QtT (.cons Qjb (.cons QiN (.cons Qqe .nil))))))) (fn:=Tryz.f58) Tryz.func58 kR rfl Qc kR rfl ?_
 intro args p rs ms hr;unfold cPD at hr;dsimp only at hr;split at hr;rotate_left
 ·cases hr
 rename_i n s;cases hr;refine⟨rfl,rfl,nLe rfl,?_⟩
 have hm:=mxE;rintro⟨h1,n1,n2⟩ bs;rw[QBK Qxz];generalize hE:QEX s ⟨#[62]⟩=f;generalize hA:QEV s ⟨#[62]⟩=a;generalize hB:QEW s ⟨#[62]⟩=b;generalize hX:paF a=x;generalize hY:paF b=y;have hm:=@Qet y.1;cases p1:x.2
 ·rw[Qnx (by rw[p1];rfl),KT,if_neg (by decide)]
  (repeat' first|refine gA fun _=>?_|apply fkI<;>intro hb<;>try simp only[ew,hE,hA,hB,hX,hY]at hb|simp only[go_sem,simprocAttr, *,hE,hA,hB,hX,hY])
  all_goals first|rfl|skip
 ·cases p2:y.2
  ·rw[Qnx (by rw[p2];simp),KT,if_neg (by decide)]
   (repeat' first|refine gA fun _=>?_|apply fkI<;>intro hb<;>try simp only[ew,hE,hA,hB,hX,hY]at hb|simp only[go_sem,simprocAttr, *,hE,hA,hB,hX,hY])
   all_goals first|rfl|skip
  ·by_cases p3:((mem y.1).length:Int)=1
   ·have p3':(((mem y.1).length:Int)!=1)=false:=by rw[p3];rfl
    have j0:0<(mem y.1).length:=by omega
    have hg:=Qlv j0
    cases p4:QO n x.1 ((mem y.1).getD 0 0)
    ·rw[Qnx (by rw[p4];simp),KT,if_neg (by decide)]
     (repeat' first|refine gA fun _=>?_|apply fkI<;>intro hb<;>try simp only[ew,cnt,hE,hA,hB,hX,hY]at hb|simp only[go_sem,simprocAttr, *,cnt,hE,hA,hB,hX,hY])
     all_goals first|rfl|skip
    ·rw[QzE (by rw[p1,p2,KZ p3,p4];rfl),KY]
     cases p5:((fd (x.1,(mem y.1).getD 0 0)).toList==s.toList)
     ·rw[if_neg (by decide)]
      (repeat' first|refine gA fun _=>?_|apply fkI<;>intro hb<;>try simp only[ew,cnt,hE,hA,hB,hX,hY]at hb|simp only[go_sem,simprocAttr, *,cnt,hE,hA,hB,hX,hY])
      all_goals first|rfl|skip
     ·rw[if_pos rfl]
      (repeat' first|refine gA fun _=>?_|apply fkI<;>intro hb<;>try simp only[ew,cnt,hE,hA,hB,hX,hY]at hb|simp only[go_sem,simprocAttr, *,cnt,hE,hA,hB,hX,hY])
      all_goals first|rfl|skip
   ·have p3':(((mem y.1).length:Int)!=1)=true:=by rw[bne_iff_ne];exact p3
    rw[Qnx (by rw[KW p3];simp),KT,if_neg (by decide)]
    (repeat' first|refine gA fun _=>?_|apply fkI<;>intro hb<;>try simp only[ew,cnt,hE,hA,hB,hX,hY]at hb|simp only[go_sem,simprocAttr, *,cnt,hE,hA,hB,hX,hY])
    all_goals first|rfl|skip
end
attribute [local go_sem] cDL Qw2 cSL QsO Qok QdS QsP Qw4 Tryz.results60 cWl QmD QwX QmE Tryz.results59
theorem Qdi{w:ByteArray}:(w.toList==ByteArray.toList ⟨#[97,112,97,114,116]⟩)=isW w Qqu:=rfl
theorem Qdj{w:ByteArray}:(w.toList==ByteArray.toList ⟨#[101,113,117,97,108]⟩)=isW w Qne:=rfl
theorem Qb4{w:ByteArray}:(w.toList==ByteArray.toList ⟨#[99,111,108,117,109,110,115]⟩)=isW w QhZ:=rfl
theorem Qf1{w:ByteArray}:(w.toList==ByteArray.toList ⟨#[114,111,119]⟩)=isW w QCO:=rfl
theorem Qeg{w:ByteArray}:(w.toList==ByteArray.toList ⟨#[99,101,108,108]⟩)=isW w Qyd:=rfl
theorem Qeh{w:ByteArray}:(w.toList==ByteArray.toList ⟨#[100,114,111,112]⟩)=isW w Qye:=rfl
theorem Qkt{w:ByteArray}:(w.toList==ByteArray.toList ⟨#[99,104,101,99,107]⟩)=isW w Qzu:=rfl
theorem Qkx{w:ByteArray}:(w.toList==ByteArray.toList ⟨#[103,105,118,101,110]⟩)=isW w Qzv:=rfl
theorem Qhn{w:ByteArray}:(w.toList==ByteArray.toList ⟨#[105,109,112,108,105,101,100]⟩)=isW w Qqw:=rfl
theorem Qm0{w:ByteArray}:(w.toList==ByteArray.toList ⟨#[100,101,112,115]⟩)=isW w QBo:=rfl
theorem Qm1{w:ByteArray}:(w.toList==ByteArray.toList ⟨#[107,101,121,115]⟩)=isW w QBp:=rfl
theorem Qks{w:ByteArray}:(w.toList==ByteArray.toList ⟨#[97,103,114,101,101]⟩)=isW w QuK:=rfl
theorem Qm2{w:ByteArray}:(w.toList==ByteArray.toList ⟨#[115,105,122,101]⟩)=isW w QBq:=rfl
theorem Qm3{w:ByteArray}:(w.toList==ByteArray.toList ⟨#[116,97,107,101]⟩)=isW w Qyf:=rfl
theorem Qku{w:ByteArray}:(w.toList==ByteArray.toList ⟨#[99,108,101,97,114]⟩)=isW w Qqv:=rfl
theorem Qkv{w:ByteArray}:(w.toList==ByteArray.toList ⟨#[99,111,118,101,114]⟩)=isW w QkB:=rfl
theorem QiV{w:ByteArray}:(w.toList==ByteArray.toList ⟨#[115,99,104,101,109,97]⟩)=isW w QgT:=rfl
theorem QbN{σ:Con}(h:Qdf σ):(0≤σ.c∧σ.c≤5)∧σ.rs.length≤40∧(∀r∈σ.rs,r.length≤5)∧σ.ds.length≤160∧σ.gv.length≤20:=by
 have hd:=Qzg h
 rcases h.1 with k|k
 ·rw[k.1,k.2.1]
  exact⟨⟨by decide,by decide⟩,by simp,by simp,hd,h.2.1⟩
 ·obtain⟨t,_,_⟩:=QaJ k
  obtain⟨t1,t2⟩:=Qds t;obtain⟨n,e,n1,n5,_⟩:=QQ t;exact⟨⟨by omega,by omega⟩,t1,t2,hd,h.2.1⟩
def Qwq(z:Con×ByteArray):List RV:=[⟨true,[.d (.v (.int .i64 z.1.c)),.d (.sl 1 (sL z.1.rs)),.d (.v (.int .i64 z.1.m)),.d (.sl 2 (dL z.1.ds)),.d (.sl 2 (dL z.1.gv))]⟩,⟨false,[.d (.v (.string z.2))]⟩]
theorem QpW{ds:List (Int×Int)}{a b:Int}:dL ds++[[D.v (.int .i64 a),D.v (.int .i64 b)]]=dL (ds++[(a,b)]):=by simp[dL]
theorem Qcc:sL []=[]:=rfl
theorem Qa5:dL []=[]:=rfl
attribute [local go_sem] Qdi Qdj Qb4 Qf1 Qeg Qeh Qkt Qkx Qhn Qm0 Qm1 Qks Qm2 Qm3 Qku Qkv QiV Qwq Qh Qg Qae Qag Qaf Qaj Qa7 Qd1 Qv Qa1 Qz QbD QbT Qfc Qht Qez QcJ
def QDi:Qb:=⟨[],true,fun
 | [.agg [.v (.int .i64 c),.sl 1 l,.v (.int .i64 m),.sl 2 q,.sl 2 g],.one (.v (.string w))]=>some ((WfS l∧WfD q∧WfD g)∧Qdf ⟨c,unS l,m,unD q,unD g⟩,Qwq (Qmb ⟨c,unS l,m,unD q,unD g⟩ w),[])
 | _=>none⟩
attribute [local go_sem] QDi
theorem QEr:Qa E0 60 QDi:=by
 refine QG (E:=E0) (T:=mkT Tryz.prog [(112,cDL),(114,Qw2),(113,cSL),(103,QsO),(99,Qok),(108,QdS),(115,QsP),(116,Qw4)] false (fun _=>false) true (fun d=>d==998)) (Qd (E:=E0) (.cons QDt (.cons QBu (.cons QzJ (.cons Qta (.cons Qo4 (.cons QfU (.cons Qt1 (.cons QB9 .nil))))))))) (fn:=Tryz.f60) Tryz.func60 kR rfl Qc kR rfl ?_
 intro args p rs ms hr;unfold QDi at hr;dsimp only at hr;split at hr;rotate_left
 ·cases hr
 rename_i c l m q g w;cases hr;refine⟨rfl,rfl,nLe rfl,?_⟩
 have hm:=mxE;rintro⟨⟨h1,h2,h3⟩,hc⟩ bs;obtain⟨rs,rfl,hx,hy⟩:=h1.ex;obtain⟨ds,rfl,hd⟩:=h2.ex;obtain⟨gv,rfl,hg⟩:=h3.ex;clear h1 h2 h3;rw[QB,Qh,Qh]at hc ⊢;obtain⟨⟨c0,c5⟩,r40,r5,d160,g20⟩:=QbN hc;dsimp only at c0 c5 r40 r5 d160 g20;clear hc r5;generalize hZ:Qmb ⟨c,rs,m,ds,gv⟩ w=Z;unfold Qmb at hZ;dsimp only at hZ;split at hZ
 ·rename_i k1
  subst hZ;exact gQ
 rename_i k1;rw[KS]at k1;split at hZ
 ·rename_i k2
  subst hZ;have f1:=@QoW c rs m
  generalize hK:Qqz c rs m=xs at f1;have f2:xs.length≤maxLen:=KF f1 (by decide)
  (repeat' first|refine gA fun _=>?_|apply fkI<;>intro hb<;>try simp only[ew,hK]at hb|simp only[go_sem,simprocAttr, *,hK])
  all_goals first|rfl|skip
 rename_i k2;rw[KS]at k2;split at hZ
 ·rename_i k3
  subst hZ;have f1:=(@Qd5 c rs m).1
  generalize hK:Qii c rs m=xs at f1;have f2:xs.length≤maxLen:=KF f1 (by decide)
  (repeat' first|refine gA fun _=>?_|apply fkI<;>intro hb<;>try simp only[ew,hK]at hb|simp only[go_sem,simprocAttr, *,hK])
  all_goals first|rfl|skip
 rename_i k3;rw[KS]at k3;split at hZ
 ·rename_i k4
  subst hZ;exact gQ
 rename_i k4;rw[KS]at k4;split at hZ
 ·rename_i k5
  split at hZ
  ·rename_i k6
   subst hZ;exact gQ
  ·rename_i k6
   rw[KS]at k6;subst hZ;exact gQ
 rename_i k5;rw[KS]at k5;split at hZ
 ·rename_i k6
  subst hZ;(repeat' first|refine gA fun _=>?_|apply fkI<;>intro hb<;>try simp only[ew,Qa5]at hb|simp only[go_sem,simprocAttr, *,Qa5])
  all_goals first|rfl|skip
 rename_i k6;rw[KS]at k6;split at hZ
 ·rename_i k7
  subst hZ;have f1:=(@Qdg c gv).2
  generalize hK:QgG c gv=xs at f1;have f2:xs.length≤maxLen:=KF f1 (by decide)
  (repeat' first|refine gA fun _=>?_|apply fkI<;>intro hb<;>try simp only[ew,hK]at hb|simp only[go_sem,simprocAttr, *,hK])
  all_goals first|rfl|skip
 rename_i k7;rw[KS]at k7;split at hZ
 ·rename_i k8
  subst hZ;exact gQ
 ·rename_i k8
  rw[KS]at k8;subst hZ;exact gQ
def Qtt:Qb:=⟨[],true,fun
 | [.agg [.v (.int .i64 c),.sl 1 l,.v (.int .i64 m),.sl 2 q,.sl 2 g],.one (.v (.string w)),.agg [.v (.int .i64 a),.v (.int .i64 b)]]=>some ((WfS l∧WfD q∧WfD g)∧Qdf ⟨c,unS l,m,unD q,unD g⟩,Qwq (Qmy ⟨c,unS l,m,unD q,unD g⟩ w (a,b)),[])
 | _=>none⟩
attribute [local go_sem] Qtt
theorem QBs{α:Type}{xs:List α}:(((xs.length:Nat):Int)==0)=xs.isEmpty:=by cases xs<;>simp<;>omega
theorem QAc:Qa E0 59 Qtt:=by
 refine QG (E:=E0) (T:=mkT Tryz.prog [(107,cWl),(108,QdS),(99,Qok),(109,QmD),(110,QwX),(111,QmE)] false (fun _=>false) true (fun d=>d==998)) (Qd (E:=E0) (.cons QEu (.cons QfU (.cons Qo4 (.cons QoN (.cons QAV (.cons QoV .nil))))))) (fn:=Tryz.f59) Tryz.func59 kR rfl Qc kR rfl ?_
 intro args p rs ms hr;unfold Qtt at hr;dsimp only at hr;split at hr;rotate_left
 ·cases hr
 rename_i c l m q g w a b;cases hr;refine⟨rfl,rfl,nLe rfl,?_⟩
 have hm:=mxE;rintro⟨⟨h1,h2,h3⟩,hc⟩ bs;obtain⟨rs,rfl,hx,hy⟩:=h1.ex;obtain⟨ds,rfl,hd⟩:=h2.ex;obtain⟨gv,rfl,hg⟩:=h3.ex;clear h1 h2 h3;rw[QB,Qh,Qh]at hc ⊢;obtain⟨⟨c0,c5⟩,r40,r5,d160,g20⟩:=QbN hc;dsimp only at c0 c5 r40 r5 d160 g20;clear hc r5;generalize hZ:Qmy ⟨c,rs,m,ds,gv⟩ w (a,b)=Z;unfold Qmy at hZ;dsimp only at hZ;split at hZ
 ·rename_i k1
  subst hZ;exact gQ
 rename_i k1;rw[KS]at k1;split at hZ
 ·rename_i k2
  split at hZ
  ·rename_i k3
   subst hZ;have k3':(((gv.length:Nat):Int)==20)=true:=by
    rw[KK]at k3;rw[Kh];omega
   clear k3;exact gQ
  ·rename_i k3
   rw[KK]at k3;subst hZ;have k3':(((gv.length:Nat):Int)==20)=false:=KU.2 (by omega)
   have hl:(gv++[(a,b)]).length=gv.length+1:=by simp
   have hm2:gv.length+1≤maxLen:=KF (show _≤21 by omega) (by decide)
   clear k3;(repeat' first|refine gA fun _=>?_|apply fkI<;>intro hb<;>try simp only[ew,QpW,hl]at hb|simp only[go_sem,simprocAttr, *,QpW,hl])
   all_goals first|rfl|skip
 rename_i k2;rw[KS]at k2;split at hZ
 ·rename_i k3
  cases hi:Qkz c gv a b
  ·rw[hi,if_neg (by decide)]at hZ
   subst hZ;exact gQ
  ·rw[hi,if_pos rfl]at hZ
   have f1:=@QoH c gv a b
   have f3:=@Qp4 c gv a b
   generalize hK:QnY c gv a b=xs at f1 f3 hZ;have f2:xs.length≤maxLen:=KF f1 (by decide)
   have f4:xs.length≤16777216:=by omega
   have f5:(jb ⟨#[59,32]⟩ xs).size≤140737488355328:=by omega
   have fe:=@QBs _ xs
   cases he:xs.isEmpty
   ·rw[he]at fe
    rw[he,if_neg (by decide)]at hZ
    subst hZ;(repeat' first|refine gA fun _=>?_|apply fkI<;>intro hb<;>try simp only[ew,hK]at hb|simp only[go_sem,simprocAttr, *,hK])
    all_goals first|rfl|skip
   ·rw[he]at fe
    rw[he,if_pos rfl]at hZ;subst hZ;(repeat' first|refine gA fun _=>?_|apply fkI<;>intro hb<;>try simp only[ew,hK]at hb|simp only[go_sem,simprocAttr, *,hK])
    all_goals first|rfl|skip
 ·rename_i k3
  rw[KS]at k3;subst hZ;exact gQ
end Go.Own
