/- Own contracts. Conditions: as each theorem states them. -/
import Derived.Test.YtnmkpepdacbfaaaGreatDoorRc43
import Derived.Test.YtnmkpepdacbfaaaGreatDoorRc44
set_option linter.unusedSimpArgs false
set_option linter.unusedVariables false
set_option maxRecDepth 20000
set_option maxHeartbeats 4000000
namespace Go.Own
open Go Go.Proofs
attribute [local go_sem] QqD Qlu Tryz.results95 cPV cPI Tryz.results92 QlO cPA Qhh Tryz.results48 QCz cFD Tryz.results58
attribute [local go_sem] Qbh QC Qbs Qct QfX
theorem Qsx:Qa E0 95 QqD:=by
 refine QE (E:=E0) (T:=mkT Tryz.prog [(97,Qlu)] false (fun _=>false) true (fun _=>false)) (Qd (E:=E0) (.cons Qix .nil)) (fn:=Tryz.f95) Tryz.func95 (by kernel_rfl) rfl Qc (by kernel_rfl) rfl ?_
 intro args p rs ms hr;unfold QqD at hr;dsimp only at hr;split at hr;rotate_left
 ·cases hr
 rename_i x;cases hr;refine⟨rfl,rfl,nLe rfl,?_⟩
 have hm:=mxE;intro _ bs;unfold cnt;have hl:=@Qd8 x
 exact gQ
theorem QB4:Qa E0 92 cPV:=by
 refine QE (E:=E0) (T:=mkT Tryz.prog [(55,cPI)] false (fun _=>false) true (fun _=>false)) (Qd (E:=E0) (.cons QpX .nil)) (fn:=Tryz.f92) Tryz.func92 (by kernel_rfl) rfl Qc (by kernel_rfl) rfl ?_
 intro args p rs ms hr;unfold cPV at hr;dsimp only at hr;split at hr;rotate_left
 ·cases hr
 rename_i s;cases hr;refine⟨rfl,rfl,nLe rfl,?_⟩
 have hm:=mxE;intro h1 bs;unfold pvF;cases hw:isW s QkU
 ·rw[if_neg (by decide)]
  generalize hF:spF s.data.toList=F;cases h2:F.2
  ·simp only[Bool.not_false,Bool.true_or,if_true]
   (repeat' first|refine gA fun _=>?_|apply fkI<;>intro hb<;>try simp only[ew,Qad,hF,hw,h2]at hb|simp only[go_sem,simprocAttr, *,Qad,hF,hw,h2])
   all_goals first|rfl|skip
  ·cases h3:decide (F.1<0)
   ·cases h4:decide (F.1>40)
    ·simp only[Bool.not_true,Bool.or_self,Bool.false_eq_true,if_false]
     (repeat' first|refine gA fun _=>?_|apply fkI<;>intro hb<;>try simp only[ew,Qad,hF,hw,h2,h3,h4]at hb|simp only[go_sem,simprocAttr, *,Qad,hF,hw,h2,h3,h4])
     all_goals first|rfl|skip
    ·simp only[Bool.or_true,if_true]
     (repeat' first|refine gA fun _=>?_|apply fkI<;>intro hb<;>try simp only[ew,Qad,hF,hw,h2,h3,h4]at hb|simp only[go_sem,simprocAttr, *,Qad,hF,hw,h2,h3,h4])
     all_goals first|rfl|skip
   ·simp only[Bool.or_true,Bool.true_or,if_true]
    (repeat' first|refine gA fun _=>?_|apply fkI<;>intro hb<;>try simp only[ew,Qad,hF,hw,h2,h3]at hb|simp only[go_sem,simprocAttr, *,Qad,hF,hw,h2,h3])
    all_goals first|rfl|skip
 ·rw[if_pos rfl]
  (repeat' first|refine gA fun _=>?_|apply fkI<;>intro hb<;>try simp only[ew,Qad,hw]at hb|simp only[go_sem,simprocAttr, *,Qad,hw])
  all_goals first|rfl|skip
def cPD:Qb:=⟨[],false,fun
 | [.one (.v (.int .i64 n)),.one (.v (.string s))]=>some (s.size≤1073741824∧ -9223372036854775808≤n∧n≤9223372036854775807,[⟨true,[.d (.v (.int .i64 (pdF n s).1.1)),.d (.v (.int .i64 (pdF n s).1.2))]⟩,⟨false,[.d (.v (.bool (pdF n s).2))]⟩],[])
 | _=>none⟩
attribute [local go_sem] cPD
theorem QmE{n:Int}{x y:Int×Bool}(h:(x.2&&y.2&&decide (((mem y.1).length:Int)=1)&&QJ n x.1 ((mem y.1).getD 0 0))=false):Qcx n x y=((0,0),false):=by
 unfold Qcx;rw[h];rfl
theorem Qx3{n:Int}{x y:Int×Bool}(h:(x.2&&y.2&&decide (((mem y.1).length:Int)=1)&&QJ n x.1 ((mem y.1).getD 0 0))=true):Qcx n x y=((x.1,(mem y.1).getD 0 0),true):=by
 unfold Qcx;rw[h];rfl
theorem u62:UInt8.ofNat (Int.toNat 62)=62:=rfl
theorem QrG:UInt8.ofNat 62=62:=rfl
theorem Qv0{s:ByteArray}:Lib.cut s.data.toList [62]=((QCN s ⟨#[62]⟩).data.toList,(QCO s ⟨#[62]⟩).data.toList,QCP s ⟨#[62]⟩):=rfl
theorem QkN{xs:List Int}(h:0<xs.length):(iL xs).getD 0 []=[D.v (.int .i64 (xs.getD 0 0))]:=by
 simp[iL,List.getD_eq_getElem?_getD,h]
theorem Qz3:Qa E0 48 cPD:=by
 refine QE (E:=E0) (T:=mkT Tryz.prog [(18,QlO),(44,cPA),(45,QqD),(47,Qlu),(82,Qhh)] false (fun d=>d==46) true (fun _=>false)) (Qd (E:=E0) (.cons Qtq (.cons Qx2 (.cons Qny (.cons Qn1 (.cons Qe2 .nil)))))) (fn:=Tryz.f48) Tryz.func48 (by kernel_rfl) rfl Qc (by kernel_rfl) rfl ?_
 intro args p rs ms hr;unfold cPD at hr;dsimp only at hr;split at hr;rotate_left
 ·cases hr
 rename_i n s;cases hr;refine⟨rfl,rfl,nLe rfl,?_⟩
 have hm:=mxE;rintro⟨h1,n1,n2⟩ bs;unfold pdF;have hl:=@Qfy 62 s.data.toList
 have hl2:(Qbm 62 s).length≤maxLen:=by
  unfold Qbm;rw[List.length_map];rw[bsz]at hl;exact Nat.le_trans hl (Nat.le_trans (show _≤1073741825 by omega) (by decide))
 clear hl;generalize hC:Qbm 62 s=C at hl2 ⊢
 by_cases hc:C.length=2
 ·have e2:(((C.length:Nat):Int)!=2)=false:=by rw[hc];rfl
  have i0:0<C.length:=by omega
  have i1:1<C.length:=by omega
  rw[if_pos hc];clear hc;generalize hA:C.getD 0 ⟨#[]⟩=a;generalize hB:C.getD 1 ⟨#[]⟩=b;generalize hX:paF a=x;generalize hY:paF b=y;have hm:=@Qd8 y.1;cases p1:x.2
  ·rw[QmE (by rw[p1];rfl)]
   (repeat' first|refine gA fun _=>?_|apply fkI<;>intro hb<;>try simp only[ew,u62,QrG,hC,hA,hB,hX,hY]at hb|simp only[go_sem,simprocAttr, *,u62,QrG,hC,hA,hB,hX,hY])
   all_goals first|rfl|skip
  ·cases p2:y.2
   ·rw[QmE (by rw[p2];simp)]
    (repeat' first|refine gA fun _=>?_|apply fkI<;>intro hb<;>try simp only[ew,u62,QrG,hC,hA,hB,hX,hY]at hb|simp only[go_sem,simprocAttr, *,u62,QrG,hC,hA,hB,hX,hY])
    all_goals first|rfl|skip
   ·by_cases p3:((mem y.1).length:Int)=1
    ·have p3':(((mem y.1).length:Int)!=1)=false:=by rw[p3];rfl
     have j0:0<(mem y.1).length:=by omega
     have hg:=QkN j0
     cases p4:QJ n x.1 ((mem y.1).getD 0 0)
     ·rw[QmE (by rw[p4];simp)]
      (repeat' first|refine gA fun _=>?_|apply fkI<;>intro hb<;>try simp only[ew,u62,QrG,hC,hA,hB,hX,hY,cnt]at hb|simp only[go_sem,simprocAttr, *,u62,QrG,hC,hA,hB,hX,hY,cnt])
      all_goals first|rfl|skip
     ·rw[Qx3 (by rw[p1,p2,decide_eq_true p3,p4];rfl)]
      (repeat' first|refine gA fun _=>?_|apply fkI<;>intro hb<;>try simp only[ew,u62,QrG,hC,hA,hB,hX,hY,cnt]at hb|simp only[go_sem,simprocAttr, *,u62,QrG,hC,hA,hB,hX,hY,cnt])
      all_goals first|rfl|skip
    ·have p3':(((mem y.1).length:Int)!=1)=true:=by rw[bne_iff_ne];exact p3
     rw[QmE (by rw[decide_eq_false p3];simp)]
     (repeat' first|refine gA fun _=>?_|apply fkI<;>intro hb<;>try simp only[ew,u62,QrG,hC,hA,hB,hX,hY,cnt]at hb|simp only[go_sem,simprocAttr, *,u62,QrG,hC,hA,hB,hX,hY,cnt])
     all_goals first|rfl|skip
 ·have e2:(((C.length:Nat):Int)!=2)=true:=by rw[bne_iff_ne];omega
  rw[if_neg hc];clear hc;(repeat' first|refine gA fun _=>?_|apply fkI<;>intro hb<;>try simp only[ew,u62,QrG,hC]at hb|simp only[go_sem,simprocAttr, *,u62,QrG,hC])
  all_goals first|rfl|skip
theorem Qz2:Qa E0 58 cPD:=by
 refine QE (E:=E0) (T:=mkT Tryz.prog [(104,QCz),(94,cPA),(95,QqD),(97,Qlu),(105,Qhh),(106,cFD)] false (fun d=>d==44) true (fun _=>false)) (Qd (E:=E0) (.cons QBo (.cons Qx1 (.cons Qsx (.cons Qix (.cons Qic (.cons Qpb .nil))))))) (fn:=Tryz.f58) Tryz.func58 (by kernel_rfl) rfl Qc (by kernel_rfl) rfl ?_
 intro args p rs ms hr;unfold cPD at hr;dsimp only at hr;split at hr;rotate_left
 ·cases hr
 rename_i n s;cases hr;refine⟨rfl,rfl,nLe rfl,?_⟩
 have hm:=mxE;rintro⟨h1,n1,n2⟩ bs;rw[Qz0 Qv0];generalize hE:QCP s ⟨#[62]⟩=f;generalize hA:QCN s ⟨#[62]⟩=a;generalize hB:QCO s ⟨#[62]⟩=b;generalize hX:paF a=x;generalize hY:paF b=y;have hm:=@Qd8 y.1;cases p1:x.2
 ·rw[QmE (by rw[p1];rfl),Bool.false_and,if_neg (by decide)]
  (repeat' first|refine gA fun _=>?_|apply fkI<;>intro hb<;>try simp only[ew,hE,hA,hB,hX,hY]at hb|simp only[go_sem,simprocAttr, *,hE,hA,hB,hX,hY])
  all_goals first|rfl|skip
 ·cases p2:y.2
  ·rw[QmE (by rw[p2];simp),Bool.false_and,if_neg (by decide)]
   (repeat' first|refine gA fun _=>?_|apply fkI<;>intro hb<;>try simp only[ew,hE,hA,hB,hX,hY]at hb|simp only[go_sem,simprocAttr, *,hE,hA,hB,hX,hY])
   all_goals first|rfl|skip
  ·by_cases p3:((mem y.1).length:Int)=1
   ·have p3':(((mem y.1).length:Int)!=1)=false:=by rw[p3];rfl
    have j0:0<(mem y.1).length:=by omega
    have hg:=QkN j0
    cases p4:QJ n x.1 ((mem y.1).getD 0 0)
    ·rw[QmE (by rw[p4];simp),Bool.false_and,if_neg (by decide)]
     (repeat' first|refine gA fun _=>?_|apply fkI<;>intro hb<;>try simp only[ew,cnt,hE,hA,hB,hX,hY]at hb|simp only[go_sem,simprocAttr, *,cnt,hE,hA,hB,hX,hY])
     all_goals first|rfl|skip
    ·rw[Qx3 (by rw[p1,p2,decide_eq_true p3,p4];rfl),Bool.true_and]
     cases p5:((fd (x.1,(mem y.1).getD 0 0)).toList==s.toList)
     ·rw[if_neg (by decide)]
      (repeat' first|refine gA fun _=>?_|apply fkI<;>intro hb<;>try simp only[ew,cnt,hE,hA,hB,hX,hY]at hb|simp only[go_sem,simprocAttr, *,cnt,hE,hA,hB,hX,hY])
      all_goals first|rfl|skip
     ·rw[if_pos rfl]
      (repeat' first|refine gA fun _=>?_|apply fkI<;>intro hb<;>try simp only[ew,cnt,hE,hA,hB,hX,hY]at hb|simp only[go_sem,simprocAttr, *,cnt,hE,hA,hB,hX,hY])
      all_goals first|rfl|skip
   ·have p3':(((mem y.1).length:Int)!=1)=true:=by rw[bne_iff_ne];exact p3
    rw[QmE (by rw[decide_eq_false p3];simp),Bool.false_and,if_neg (by decide)]
    (repeat' first|refine gA fun _=>?_|apply fkI<;>intro hb<;>try simp only[ew,cnt,hE,hA,hB,hX,hY]at hb|simp only[go_sem,simprocAttr, *,cnt,hE,hA,hB,hX,hY])
    all_goals first|rfl|skip
end Go.Own

namespace Go.Own
open Go Go.Proofs
attribute [local go_sem] cDL Qvu cSL Qrz Qnp Qdz QrA Qvw Tryz.results60 cWl QlQ Qvp QlR Tryz.results59
theorem Qc1{w:ByteArray}:(w.toList==ByteArray.toList ⟨#[97,112,97,114,116]⟩)=isW w Qpp:=rfl
theorem Qc2{w:ByteArray}:(w.toList==ByteArray.toList ⟨#[101,113,117,97,108]⟩)=isW w Qmk:=rfl
theorem QbP{w:ByteArray}:(w.toList==ByteArray.toList ⟨#[99,111,108,117,109,110,115]⟩)=isW w Qht:=rfl
theorem QfC{w:ByteArray}:(w.toList==ByteArray.toList ⟨#[114,111,119]⟩)=isW w QAZ:=rfl
theorem QdY{w:ByteArray}:(w.toList==ByteArray.toList ⟨#[99,101,108,108]⟩)=isW w QwB:=rfl
theorem QdZ{w:ByteArray}:(w.toList==ByteArray.toList ⟨#[100,114,111,112]⟩)=isW w QwC:=rfl
theorem QjM{w:ByteArray}:(w.toList==ByteArray.toList ⟨#[99,104,101,99,107]⟩)=isW w QxT:=rfl
theorem QjQ{w:ByteArray}:(w.toList==ByteArray.toList ⟨#[103,105,118,101,110]⟩)=isW w QxU:=rfl
theorem QgP{w:ByteArray}:(w.toList==ByteArray.toList ⟨#[105,109,112,108,105,101,100]⟩)=isW w Qpr:=rfl
theorem Ql8{w:ByteArray}:(w.toList==ByteArray.toList ⟨#[100,101,112,115]⟩)=isW w QzF:=rfl
theorem Ql9{w:ByteArray}:(w.toList==ByteArray.toList ⟨#[107,101,121,115]⟩)=isW w QzG:=rfl
theorem QjL{w:ByteArray}:(w.toList==ByteArray.toList ⟨#[97,103,114,101,101]⟩)=isW w Qto:=rfl
theorem Qma{w:ByteArray}:(w.toList==ByteArray.toList ⟨#[115,105,122,101]⟩)=isW w QzH:=rfl
theorem Qmb{w:ByteArray}:(w.toList==ByteArray.toList ⟨#[116,97,107,101]⟩)=isW w QwD:=rfl
theorem QjN{w:ByteArray}:(w.toList==ByteArray.toList ⟨#[99,108,101,97,114]⟩)=isW w Qpq:=rfl
theorem QjO{w:ByteArray}:(w.toList==ByteArray.toList ⟨#[99,111,118,101,114]⟩)=isW w QjU:=rfl
theorem Qij{w:ByteArray}:(w.toList==ByteArray.toList ⟨#[115,99,104,101,109,97]⟩)=isW w Qgs:=rfl
theorem Qbz{σ:Con}(h:QcY σ):(0≤σ.c∧σ.c≤5)∧σ.rs.length≤40∧(∀r∈σ.rs,r.length≤5)∧σ.ds.length≤160∧σ.gv.length≤20:=by
 have hd:=QxF h
 rcases h.1 with k|k
 ·rw[k.1,k.2.1]
  exact⟨⟨by decide,by decide⟩,by simp,by simp,hd,h.2.1⟩
 ·obtain⟨t,_,_⟩:=QaD k
  obtain⟨t1,t2⟩:=Qc9 t;obtain⟨n,e,n1,n5,_⟩:=QL t;exact⟨⟨by omega,by omega⟩,t1,t2,hd,h.2.1⟩
def QuT(z:Con×ByteArray):List RV:=[⟨true,[.d (.v (.int .i64 z.1.c)),.d (.sl 1 (sL z.1.rs)),.d (.v (.int .i64 z.1.m)),.d (.sl 2 (dL z.1.ds)),.d (.sl 2 (dL z.1.gv))]⟩,⟨false,[.d (.v (.string z.2))]⟩]
theorem QoU{ds:List (Int×Int)}{a b:Int}:dL ds++[[D.v (.int .i64 a),D.v (.int .i64 b)]]=dL (ds++[(a,b)]):=by simp[dL]
theorem QbW:sL []=[]:=rfl
theorem QaU:dL []=[]:=rfl
attribute [local go_sem] Qc1 Qc2 QbP QfC QdY QdZ QjM QjQ QgP Ql8 Ql9 QjL Qma Qmb QjN QjO Qij QuT Qh Qe Qaa Qac Qab Qaf QaX QdJ Qu Qbh QC Qbs Qct QfX QgX QgW Qee
def QBl:Qb:=⟨[],true,fun
 | [.agg [.v (.int .i64 c),.sl 1 l,.v (.int .i64 m),.sl 2 q,.sl 2 g],.one (.v (.string w))]=>some ((WfS l∧WfD q∧WfD g)∧QcY ⟨c,unS l,m,unD q,unD g⟩,QuT (QlA ⟨c,unS l,m,unD q,unD g⟩ w),[])
 | _=>none⟩
attribute [local go_sem] QBl
theorem QCl:Qa E0 60 QBl:=by
 refine QE (E:=E0) (T:=mkT Tryz.prog [(112,cDL),(114,Qvu),(113,cSL),(103,Qrz),(99,Qnp),(108,Qdz),(115,QrA),(116,Qvw)] false (fun _=>false) true (fun d=>d==998)) (Qd (E:=E0) (.cons QBt (.cons QzL (.cons Qx7 (.cons QrX (.cons Qn6 (.cons Qfw (.cons QsE (.cons QAm .nil))))))))) (fn:=Tryz.f60) Tryz.func60 (by kernel_rfl) rfl Qc (by kernel_rfl) rfl ?_
 intro args p rs ms hr;unfold QBl at hr;dsimp only at hr;split at hr;rotate_left
 ·cases hr
 rename_i c l m q g w;cases hr;refine⟨rfl,rfl,nLe rfl,?_⟩
 have hm:=mxE;rintro⟨⟨h1,h2,h3⟩,hc⟩ bs;obtain⟨rs,rfl,hx,hy⟩:=h1.ex;obtain⟨ds,rfl,hd⟩:=h2.ex;obtain⟨gv,rfl,hg⟩:=h3.ex;clear h1 h2 h3;rw[Qz,Qh,Qh]at hc ⊢;obtain⟨⟨c0,c5⟩,r40,r5,d160,g20⟩:=Qbz hc;dsimp only at c0 c5 r40 r5 d160 g20;clear hc r5;generalize hZ:QlA ⟨c,rs,m,ds,gv⟩ w=Z;unfold QlA at hZ;dsimp only at hZ;split at hZ
 ·rename_i k1
  subst hZ;exact gQ
 rename_i k1;rw[Bool.not_eq_true]at k1;split at hZ
 ·rename_i k2
  subst hZ;have f1:=@QnY c rs m
  generalize hK:Qpu c rs m=xs at f1;have f2:xs.length≤maxLen:=Nat.le_trans f1 (by decide)
  (repeat' first|refine gA fun _=>?_|apply fkI<;>intro hb<;>try simp only[ew,hK]at hb|simp only[go_sem,simprocAttr, *,hK])
  all_goals first|rfl|skip
 rename_i k2;rw[Bool.not_eq_true]at k2;split at hZ
 ·rename_i k3
  subst hZ;have f1:=(@QdM c rs m).1
  generalize hK:QhM c rs m=xs at f1;have f2:xs.length≤maxLen:=Nat.le_trans f1 (by decide)
  (repeat' first|refine gA fun _=>?_|apply fkI<;>intro hb<;>try simp only[ew,hK]at hb|simp only[go_sem,simprocAttr, *,hK])
  all_goals first|rfl|skip
 rename_i k3;rw[Bool.not_eq_true]at k3;split at hZ
 ·rename_i k4
  subst hZ;exact gQ
 rename_i k4;rw[Bool.not_eq_true]at k4;split at hZ
 ·rename_i k5
  split at hZ
  ·rename_i k6
   subst hZ;exact gQ
  ·rename_i k6
   rw[Bool.not_eq_true]at k6;subst hZ;exact gQ
 rename_i k5;rw[Bool.not_eq_true]at k5;split at hZ
 ·rename_i k6
  subst hZ;(repeat' first|refine gA fun _=>?_|apply fkI<;>intro hb<;>try simp only[ew,QaU]at hb|simp only[go_sem,simprocAttr, *,QaU])
  all_goals first|rfl|skip
 rename_i k6;rw[Bool.not_eq_true]at k6;split at hZ
 ·rename_i k7
  subst hZ;have f1:=(@QcZ c gv).2
  generalize hK:Qgf c gv=xs at f1;have f2:xs.length≤maxLen:=Nat.le_trans f1 (by decide)
  (repeat' first|refine gA fun _=>?_|apply fkI<;>intro hb<;>try simp only[ew,hK]at hb|simp only[go_sem,simprocAttr, *,hK])
  all_goals first|rfl|skip
 rename_i k7;rw[Bool.not_eq_true]at k7;split at hZ
 ·rename_i k8
  subst hZ;exact gQ
 ·rename_i k8
  rw[Bool.not_eq_true]at k8;subst hZ;exact gQ
def Qsb:Qb:=⟨[],true,fun
 | [.agg [.v (.int .i64 c),.sl 1 l,.v (.int .i64 m),.sl 2 q,.sl 2 g],.one (.v (.string w)),.agg [.v (.int .i64 a),.v (.int .i64 b)]]=>some ((WfS l∧WfD q∧WfD g)∧QcY ⟨c,unS l,m,unD q,unD g⟩,QuT (Qm4 ⟨c,unS l,m,unD q,unD g⟩ w (a,b)),[])
 | _=>none⟩
attribute [local go_sem] Qsb
theorem QzJ{α:Type}{xs:List α}:(((xs.length:Nat):Int)==0)=xs.isEmpty:=by cases xs<;>simp<;>omega
theorem QyB:Qa E0 59 Qsb:=by
 refine QE (E:=E0) (T:=mkT Tryz.prog [(107,cWl),(108,Qdz),(99,Qnp),(109,QlQ),(110,Qvp),(111,QlR)] false (fun _=>false) true (fun d=>d==998)) (Qd (E:=E0) (.cons QCo (.cons Qfw (.cons Qn6 (.cons QnP (.cons Qzd (.cons QnX .nil))))))) (fn:=Tryz.f59) Tryz.func59 (by kernel_rfl) rfl Qc (by kernel_rfl) rfl ?_
 intro args p rs ms hr;unfold Qsb at hr;dsimp only at hr;split at hr;rotate_left
 ·cases hr
 rename_i c l m q g w a b;cases hr;refine⟨rfl,rfl,nLe rfl,?_⟩
 have hm:=mxE;rintro⟨⟨h1,h2,h3⟩,hc⟩ bs;obtain⟨rs,rfl,hx,hy⟩:=h1.ex;obtain⟨ds,rfl,hd⟩:=h2.ex;obtain⟨gv,rfl,hg⟩:=h3.ex;clear h1 h2 h3;rw[Qz,Qh,Qh]at hc ⊢;obtain⟨⟨c0,c5⟩,r40,r5,d160,g20⟩:=Qbz hc;dsimp only at c0 c5 r40 r5 d160 g20;clear hc r5;generalize hZ:Qm4 ⟨c,rs,m,ds,gv⟩ w (a,b)=Z;unfold Qm4 at hZ;dsimp only at hZ;split at hZ
 ·rename_i k1
  subst hZ;exact gQ
 rename_i k1;rw[Bool.not_eq_true]at k1;split at hZ
 ·rename_i k2
  split at hZ
  ·rename_i k3
   subst hZ;have k3':(((gv.length:Nat):Int)==20)=true:=by
    rw[decide_eq_true_eq]at k3;rw[beq_iff_eq];omega
   clear k3;exact gQ
  ·rename_i k3
   rw[decide_eq_true_eq]at k3;subst hZ;have k3':(((gv.length:Nat):Int)==20)=false:=beq_eq_false_iff_ne.2 (by omega)
   have hl:(gv++[(a,b)]).length=gv.length+1:=by simp
   have hm2:gv.length+1≤maxLen:=Nat.le_trans (show _≤21 by omega) (by decide)
   clear k3;(repeat' first|refine gA fun _=>?_|apply fkI<;>intro hb<;>try simp only[ew,QoU,hl]at hb|simp only[go_sem,simprocAttr, *,QoU,hl])
   all_goals first|rfl|skip
 rename_i k2;rw[Bool.not_eq_true]at k2;split at hZ
 ·rename_i k3
  cases hi:QjS c gv a b
  ·rw[hi,if_neg (by decide)]at hZ
   subst hZ;exact gQ
  ·rw[hi,if_pos rfl]at hZ
   have f1:=@QnJ c gv a b
   have f3:=@Qo2 c gv a b
   generalize hK:QnI c gv a b=xs at f1 f3 hZ;have f2:xs.length≤maxLen:=Nat.le_trans f1 (by decide)
   have f4:xs.length≤16777216:=by omega
   have f5:(jb ⟨#[59,32]⟩ xs).size≤140737488355328:=by omega
   have fe:=@QzJ _ xs
   cases he:xs.isEmpty
   ·rw[he]at fe
    rw[he,if_neg (by decide)]at hZ
    subst hZ;(repeat' first|refine gA fun _=>?_|apply fkI<;>intro hb<;>try simp only[ew,hK]at hb|simp only[go_sem,simprocAttr, *,hK])
    all_goals first|rfl|skip
   ·rw[he]at fe
    rw[he,if_pos rfl]at hZ;subst hZ;(repeat' first|refine gA fun _=>?_|apply fkI<;>intro hb<;>try simp only[ew,hK]at hb|simp only[go_sem,simprocAttr, *,hK])
    all_goals first|rfl|skip
 ·rename_i k3
  rw[Bool.not_eq_true]at k3;subst hZ;exact gQ
end Go.Own
