/- Contracts. Conditions: as stated. -/
import Derived.Test.YtnmkpepdacbfaaaGreatDoorRp43
set_option linter.all false
set_option maxRecDepth 20000
set_option maxHeartbeats 4000000
namespace Go.Own
open Go Go.Proofs
section
attribute [local go_sem] Tryz.results57 cPI Tryz.results52 cPV QrN Tryz.results53 cPA QrM Qmg Qw6 Tryz.results54 Qdi Qdj Qb4 Qf1 Qeg Qeh Qwq Qh Qg Qae Qag Qaf Qaj Qa7 Qd1 Qv Qa1 Qz QbD QbT Qfc Qht Qez QcJ
def Qhg:Qb:=⟨[],false,fun
 | [.agg [.v (.int .i64 c),.v (.slice none 0 0)],.one (.v (.int .i64 m))]=>some (-9223372036854775808≤c∧c≤9223372036854775807,
   [⟨true,[.d (.v (.int .i64 (nmC c [] m))),.own 1 (sL (nmR c [] m)) 1,.d (.v (.int .i64 (nmM c [] m))),.own 2 (dL (mdL c [] m)) 1]⟩,⟨false,[.d (.v (.bool (nmB c [] m)))]⟩],[])
 | _=>none⟩
attribute [local go_sem] Qhg
theorem QqP{f:FuncId}(h:Qa E0 f QrP):Qa E0 f Qhg:=by
 refine⟨h.1,?_⟩
 intro args p rs ms hr hp w vals F Ms ha hnd hF hJ hN hMN;unfold Qhg at hr;dsimp only at hr;split at hr
 ·rename_i c m
  cases hr;cases ha with
  | cons g1 g2=>
   cases g1 with
   | agg r=>
    cases r with
    | v e1 r=>
     cases r with
     | v e2 r=>
      cases r
      exact h.2 [.agg [.v (.int .i64 c),.sl 1 []],.one (.v (.int .i64 m))] _ _ _ rfl ⟨⟨rfl,KJ _,fun r hr=>by cases hr⟩,hp⟩ w _ _ _ (.cons (.agg (.v e1 (.none (fun h=>nomatch h) .nil))) g2) hnd hF hJ hN hMN
 ·cases hr
theorem Qva:Qa E0 91 Qhg:=QqP Qyp
theorem Qvb:Qa E0 39 Qhg:=QqP Qyq
def Qmn(b:Bool):ByteArray:=if b then sOk else sNo
def QAv:Qb:=⟨[],false,fun
 | [.one (.v (.bool b))]=>some (True,[⟨false,[.d (.v (.string (Qmn b)))]⟩],[])
 | _=>none⟩
attribute [local go_sem] QAv
theorem Qwl:Qa E0 57 QAv:=by
 refine QG (E:=E0) (T:=mkT Tryz.prog [] false (fun _=>false) true (fun _=>false)) (Qd (E:=E0) .nil) (fn:=Tryz.f57) Tryz.func57 kR rfl Qc kR rfl ?_
 intro args p rs ms hr;unfold QAv at hr;dsimp only at hr;split at hr;rotate_left
 ·cases hr
 rename_i b;cases hr;refine⟨rfl,rfl,nLe rfl,?_⟩
 have hm:=mxE;intro _ bs;unfold Qmn;cases b
 ·rw[if_neg (by decide)]
  exact gQ
 ·rw[if_pos rfl]
  exact gQ
theorem QqQ{c m:Int}(h:nmB c [] m=true):nmC c [] m=c∧nmR c [] m=[]∧nmM c [] m=m:=by
 unfold nmC nmR nmM;rw[h];exact⟨rfl,rfl,rfl⟩
def Qtu:Qb:=⟨[],true,fun
 | [.agg [.v (.int .i64 c),.sl 1 l,.v (.int .i64 m),.sl 2 q,.sl 2 g],.one (.v (.string a)),.one (.v (.string b))]=>some ((WfS l∧WfD q∧WfD g)∧a.size≤1073741824,Qwq (QwS ⟨c,unS l,m,unD q,unD g⟩ a b),[])
 | _=>none⟩
attribute [local go_sem] Qtu
theorem QAl:Qa E0 52 Qtu:=by
 refine QG (E:=E0) (T:=mkT Tryz.prog [(55,cPI),(91,Qhg)] false (fun d=>d==26) true (fun d=>d==998)) (Qd (E:=E0) (.cons Qq2 (.cons Qva .nil))) (fn:=Tryz.f52) Tryz.func52 kR rfl Qc kR rfl ?_
 intro args p rs ms hr;unfold Qtu at hr;dsimp only at hr;split at hr;rotate_left
 ·cases hr
 rename_i c l m q g a b;cases hr;refine⟨rfl,rfl,nLe rfl,?_⟩
 have hm:=mxE;rintro⟨⟨h1,h2,h3⟩,hs⟩ bs;obtain⟨rs,rfl,hx,hy⟩:=h1.ex;obtain⟨ds,rfl,hd⟩:=h2.ex;obtain⟨gv,rfl,hg⟩:=h3.ex;clear h1 h2 h3;rw[QB,Qh,Qh];generalize hZ:QwS ⟨c,rs,m,ds,gv⟩ a b=Z;unfold QwS at hZ;(try dsimp only at hZ)
 have hr:=@QvY a.data.toList
 have hq:=fun M=>@QC5 a M
 have hnum:=fun M=>@QAk a M
 generalize hP:spF a.data.toList=P at hr hq hnum;cases k1:isW b Qqu
 ·cases k2:isW b Qne
  ·have hm:Qo3 b= -1:=by unfold Qo3;rw[k1,k2];rfl
   have hn:nmB (l3V a) [] (-1)=false:=by rw[Qfu];simp[QN]
   rw[hm,hn,if_neg (by decide)]at hZ
   subst hZ;clear hq hnum;(repeat' first|refine gA fun _=>?_|apply fkI<;>intro hb<;>try simp only[ew,hP]at hb|simp only[go_sem,simprocAttr, *,hP])
   all_goals first|rfl|skip
  ·have hm:Qo3 b=0:=by unfold Qo3;rw[k1,k2];rfl
   rw[hm]at hZ;have hq0:=hq 0
   cases p2:P.2
   ·rw[hq0,p2,KT,if_neg (by decide)]at hZ
    subst hZ;clear hq hnum hq0;(repeat' first|refine gA fun _=>?_|apply fkI<;>intro hb<;>try simp only[ew,hP]at hb|simp only[go_sem,simprocAttr, *,hP])
    all_goals first|rfl|skip
   ·cases hn:nmB P.1 [] 0
    ·rw[hq0,p2,hn,YM,if_neg (by decide)]at hZ
     subst hZ;clear hq hnum hq0;(repeat' first|refine gA fun _=>?_|apply fkI<;>intro hb<;>try simp only[ew,hP]at hb|simp only[go_sem,simprocAttr, *,hP])
     all_goals first|rfl|skip
    ·rw[p2,hn]at hq0
     have e1:=hnum 0 hq0
     obtain⟨e2,e3,e4⟩:=QqQ hn;rw[hq0,←e1,Bool.and_self,if_pos rfl]at hZ;subst hZ;clear hq hnum hq0 e1;(repeat' first|refine gA fun _=>?_|apply fkI<;>intro hb<;>try simp only[ew,hP,Qcc,Qa5]at hb|simp only[go_sem,simprocAttr, *,hP,Qcc,Qa5])
     all_goals first|rfl|skip
 ·have hm:Qo3 b=1:=by unfold Qo3;rw[k1];rfl
  rw[hm]at hZ;have hq0:=hq 1
  cases p2:P.2
  ·rw[hq0,p2,KT,if_neg (by decide)]at hZ
   subst hZ;clear hq hnum hq0;(repeat' first|refine gA fun _=>?_|apply fkI<;>intro hb<;>try simp only[ew,hP]at hb|simp only[go_sem,simprocAttr, *,hP])
   all_goals first|rfl|skip
  ·cases hn:nmB P.1 [] 1
   ·rw[hq0,p2,hn,YM,if_neg (by decide)]at hZ
    subst hZ;clear hq hnum hq0;(repeat' first|refine gA fun _=>?_|apply fkI<;>intro hb<;>try simp only[ew,hP]at hb|simp only[go_sem,simprocAttr, *,hP])
    all_goals first|rfl|skip
   ·rw[p2,hn]at hq0
    have e1:=hnum 1 hq0
    obtain⟨e2,e3,e4⟩:=QqQ hn;rw[hq0,←e1,Bool.and_self,if_pos rfl]at hZ;subst hZ;clear hq hnum hq0 e1;(repeat' first|refine gA fun _=>?_|apply fkI<;>intro hb<;>try simp only[ew,hP,Qcc,Qa5]at hb|simp only[go_sem,simprocAttr, *,hP,Qcc,Qa5])
    all_goals first|rfl|skip
theorem QvG:∀{ws:List ByteArray},(∀w∈ws,(pvF w).2=true)→rvF ws=(ws.map fun w=>(pvF w).1,true)
 | [],_=>rfl
 | w::r,h=>by
  rw[rvF,if_pos (h w (by simp)),QvG fun x hx=>h x (by simp[hx])]
  rfl
theorem QvH:∀{ws:List ByteArray} {w:ByteArray},w∈ws→(pvF w).2=false→(rvF ws).2=false
 | x::r,w,h,hw=>by
  rw[rvF];cases hx:(pvF x).2
  ·rfl
  ·rw[if_pos rfl]
   rcases KI.1 h with rfl|h
   ·rw[hw]at hx;cases hx
   ·exact QvH h hw
def QtG:Qb:=⟨[],true,fun
 | [.agg [.v (.int .i64 c),.sl 1 l,.v (.int .i64 m),.sl 2 q,.sl 2 g],.one (.sl 1 t)]=>some ((WfS l∧WfD q∧WfD g)∧Qdf ⟨c,unS l,m,unD q,unD g⟩∧(WfL t∧∀w∈unT t,w.size≤1073741824)∧t.length≤2147483648,Qwq (QvE ⟨c,unS l,m,unD q,unD g⟩ (unT t)),[])
 | _=>none⟩
attribute [local go_sem] QtG
theorem Qei{ws:List ByteArray}{B:Nat}(h:∀w∈ws,w.size≤B)(i:Nat):(ws.getD i ⟨#[]⟩).size≤B:=by
 by_cases hi:i<ws.length
 ·exact h _ (by simp[KD,hi])
 ·simp[KD,Nat.le_of_not_lt hi]
  exact KJ _
theorem QB5:Qa E0 53 QtG:=by
 refine QG (E:=E0) (T:=mkT Tryz.prog [(92,cPV),(93,QrN),(57,QAv)] false (fun d=>d==37) true (fun d=>d==998)) (Qd (E:=E0) (.cons QD7 (.cons QuB (.cons Qwl .nil)))) (fn:=Tryz.f53) Tryz.func53 kR rfl Qc kR rfl ?_
 intro args p rs ms hr;unfold QtG at hr;dsimp only at hr;split at hr;rotate_left
 ·cases hr
 rename_i c l m q g t;cases hr;refine⟨rfl,rfl,nLe rfl,?_⟩
 have hm:=mxE;rintro⟨⟨h1,h2,h3⟩,hc,⟨h4,hs⟩,hw2⟩ bs;obtain⟨rs,rfl,hx,hy⟩:=h1.ex;obtain⟨ds,rfl,hd⟩:=h2.ex;obtain⟨gv,rfl,hg⟩:=h3.ex;obtain⟨ws,rfl,hw⟩:=h4.ex;clear h1 h2 h3 h4;rw[QB,Qh,Qh]at hc ⊢;rw[Qa1]at hs ⊢;rw[Qz]at hw2;obtain⟨⟨c0,c5⟩,r40,r5,d160,g20⟩:=QbN hc;dsimp only at c0 c5 r40 r5 d160 g20;clear hc;have r6:∀r∈rs,r.length≤16777216:=fun r hr=>KF (r5 r hr) (by decide)
 clear r5;have hsz:=fun i=>Qei hs i
 clear hs;have ei:iL []=[]:=rfl
 generalize hZ:QvE ⟨c,rs,m,ds,gv⟩ ws=Z;(repeat' first|refine gA fun _=>?_|apply fkI<;>intro hb<;>try simp only[ew,ei]at hb|simp only[go_sem,simprocAttr, *,ei])
 refine lpI {ι:=Nat,rs:=[(5,6),(8,11),(17,33)],mods:=[(16,fun k=> .one (.d (.v (.int .i64 k)))),(6,fun k=> .one (.own 1 (iL ((ws.take k).map fun w=>(pvF w).1)) 1))],boxes:=[(2,fun _=>[.d (.v (.int .i64 c)),.d (.sl 1 (sL rs)),.d (.v (.int .i64 m)),.d (.sl 2 (dL ds)),.d (.sl 2 (dL gv))]),(4,fun _=>[.d (.v (.int .i64 0)),.d (.v (.slice none 0 0)),.d (.v (.int .i64 0)),.d (.v (.slice none 0 0)),.d (.v (.slice none 0 0))])],arrs:=[],ok:=fun k=>k≤ws.length∧∀w∈ws.take k,(pvF w).2=true,mu:=fun k=>ws.length-k} rfl 0 ⟨KJ _,by simp⟩ ?_ fun k hk=>?_
 ·clear hsz
  (repeat' first|refine gA fun _=>?_|apply fkI<;>intro hb<;>try simp only[ew,ei,Kw,List.map_nil]at hb|simp only[go_sem,simprocAttr, *,ei,Kw,List.map_nil])
  all_goals first|rfl|skip
 ·dsimp only at k hk
  obtain⟨hk1,hk2⟩:=hk
  by_cases h5:k<ws.length
  ·have hz:=hsz k
   have ht:ws.take (k+1)=ws.take k++[ws.getD k ⟨#[]⟩]:=Qf h5 _
   have hmem:ws.getD k ⟨#[]⟩∈ws:=by simp[KD,h5]
   clear hsz;have hlen:((ws.take k).map fun w=>(pvF w).1).length≤2147483648:=by simp only[KV,KO];omega
   have hlen2:((ws.take k).map fun w=>(pvF w).1).length≤maxLen:=KF hlen (by decide)
   generalize hV:((ws.take k).map fun w=>(pvF w).1)=V at hlen hlen2
   generalize hB:ws.getD k ⟨#[]⟩=b at hz ht hmem;cases hp:(pvF b).2
   ·have hbad:=QvH hmem hp
    rw[QEb hbad]at hZ;subst hZ;clear ht hmem hk2 hbad;(repeat' first|refine gA fun _=>?_|apply fkI<;>intro hb<;>try simp only[ew,hV,hB]at hb|simp only[go_sem,simprocAttr, *,hV,hB])
    all_goals first|rfl|skip
   ·have hk3:∀w∈ws.take (k+1),(pvF w).2=true:=fun w hw=>by
     rw[ht]at hw;rcases KG.1 hw with hw|hw
     ·exact hk2 w hw
     ·rw[KH]at hw;subst hw;exact hp
    have hV2:((ws.take (k+1)).map fun w=>(pvF w).1)=V++[(pvF b).1]:=by rw[ht,Kv,hV];rfl
    clear ht hmem hk2 hZ;(repeat' first|refine gA fun _=>?_|apply fkI<;>intro hb<;>try simp only[ew,hV,hB,Qo]at hb|simp only[go_sem,simprocAttr, *,hV,hB,Qo])
    refine lpN (k+1) ⟨by omega,hk3⟩ (by dsimp only;omega) ?_
    clear hk3;(repeat' first|refine gA fun _=>?_|apply fkI<;>intro hb<;>try simp only[ew,hV2,Qo]at hb|simp only[go_sem,simprocAttr, *,hV2,Qo])
  ·have e5:k=ws.length:=by omega
   subst e5;rw[KR]at hk2;have hT:ws.take ws.length=ws:=KR
   have hall:=QvG hk2
   rw[QB4 (by rw[hall]),hall]at hZ
   dsimp only at hZ;have hlen:(ws.map fun w=>(pvF w).1).length≤maxLen:=by simp only[KV];omega
   generalize hV:(ws.map fun w=>(pvF w).1)=V at hZ hlen
   have hy:(if Qi2 c rs m ds V then sOk else sNo)=Qmn (Qi2 c rs m ds V):=rfl
   rw[hy]at hZ;subst hZ;clear hsz hk2 hall hy;(repeat' first|refine gA fun _=>?_|apply fkI<;>intro hb<;>try simp only[ew,hT,hV]at hb|simp only[go_sem,simprocAttr, *,hT,hV])
   all_goals first|rfl|skip
def Qtw:Qb:=⟨[],true,fun
 | [.agg [.v (.int .i64 c),.sl 1 l,.v (.int .i64 m),.sl 2 q,.sl 2 g],.one (.v (.string a)),.one (.v (.string b)),.one (.v (.string v))]=>some ((WfS l∧WfD q∧WfD g)∧Qdf ⟨c,unS l,m,unD q,unD g⟩∧a.size≤1073741824∧v.size≤1073741824,Qwq (QrT ⟨c,unS l,m,unD q,unD g⟩ a b v),[])
 | _=>none⟩
attribute [local go_sem] Qtw
theorem QpH{σ:Con}{p l v:ByteArray}(h:((paF l).2&&decide (((mem (paF l).1).length:Int)=1))=false):QrT σ p l v=(σ,Ql5):=by
 unfold QrT;rw[h,if_neg (by decide)]
theorem QAy:Qa E0 54 Qtw:=by
 refine QG (E:=E0) (T:=mkT Tryz.prog [(94,cPA),(95,QrM),(55,cPI),(92,cPV),(97,Qmg),(96,Qw6),(57,QAv)] false (fun d=>d==52||d==56) true (fun d=>d==998||d==996)) (Qd (E:=E0) (.cons QzC (.cons QtT (.cons Qq2 (.cons QD7 (.cons Qjb (.cons QCv (.cons Qwl .nil)))))))) (fn:=Tryz.f54) Tryz.func54 kR rfl Qc kR rfl ?_
 intro args p rs ms hr;unfold Qtw at hr;dsimp only at hr;split at hr;rotate_left
 ·cases hr
 rename_i c l m q g a b v;cases hr;refine⟨rfl,rfl,nLe rfl,?_⟩
 have hm:=mxE;rintro⟨⟨h1,h2,h3⟩,hc,hs1,hs2⟩ bs;obtain⟨rs,rfl,hx,hy⟩:=h1.ex;obtain⟨ds,rfl,hd⟩:=h2.ex;obtain⟨gv,rfl,hg⟩:=h3.ex;clear h1 h2 h3;rw[QB,Qh,Qh]at hc ⊢;obtain⟨⟨c0,c5⟩,r40,r5,d160,g20⟩:=QbN hc;dsimp only at c0 c5 r40 r5 d160 g20;clear hc;have r6:∀r∈rs,r.length≤16777216:=fun r hr=>KF (r5 r hr) (by decide)
 clear r5;have hl:=@Qet (paF b).1
 generalize hZ:QrT ⟨c,rs,m,ds,gv⟩ a b v=Z;cases p1:(paF b).2
 ·rw[QpH (by rw[p1];rfl)]at hZ
  subst hZ;(repeat' first|refine gA fun _=>?_|apply fkI<;>intro hb<;>try simp only[ew,cnt]at hb|simp only[go_sem,simprocAttr, *,cnt])
  all_goals first|rfl|skip
 ·by_cases p3:((mem (paF b).1).length:Int)=1
  ·have p3':(((mem (paF b).1).length:Int)!=1)=false:=by rw[p3];rfl
   have hok:((paF b).2&&decide (((mem (paF b).1).length:Int)=1))=true:=by rw[p1,KZ p3];rfl
   have j0:0<(mem (paF b).1).length:=by omega
   have hg0:=Qlv j0
   cases q1:(spF a.data.toList).2
   ·rw[Qza hok (by rw[q1];rfl)]at hZ
    subst hZ;clear hok;(repeat' first|refine gA fun _=>?_|apply fkI<;>intro hb<;>try simp only[ew,cnt]at hb|simp only[go_sem,simprocAttr, *,cnt])
    all_goals first|rfl|skip
   ·cases q2:(pvF v).2
    ·rw[Qza hok (by rw[q2];simp)]at hZ
     subst hZ;clear hok;(repeat' first|refine gA fun _=>?_|apply fkI<;>intro hb<;>try simp only[ew,cnt]at hb|simp only[go_sem,simprocAttr, *,cnt])
     all_goals first|rfl|skip
    ·rw[QAx hok (by rw[q1,q2];rfl)]at hZ
     dsimp only at hZ;generalize (mem (paF b).1).getD 0 0=k at hZ hg0;have hy:(if QnU c rs m ds (spF a.data.toList).1 k (pvF v).1 then sOk else sNo)=Qmn (QnU c rs m ds (spF a.data.toList).1 k (pvF v).1):=rfl
     rw[hy]at hZ;subst hZ;clear hok hy;(repeat' first|refine gA fun _=>?_|apply fkI<;>intro hb<;>try simp only[ew,cnt]at hb|simp only[go_sem,simprocAttr, *,cnt])
     all_goals first|rfl|skip
  ·have p3':(((mem (paF b).1).length:Int)!=1)=true:=by rw[bne_iff_ne];exact p3
   rw[QpH (by rw[KW p3];simp)]at hZ
   subst hZ;(repeat' first|refine gA fun _=>?_|apply fkI<;>intro hb<;>try simp only[ew,cnt]at hb|simp only[go_sem,simprocAttr, *,cnt])
   all_goals first|rfl|skip
end
def QxV(sep:ByteArray):UInt8:=sep.data.toList.headD 0
@[go_sem] theorem QEI {c:UInt8}:QxV ⟨#[c]⟩=c:=rfl
theorem QzM{s sep:ByteArray}(h:sep.size=1):Lib.splitB sep 0 (Lib.countB s sep) s=Qa9 (QxV sep) s:=by
 obtain⟨c,rfl⟩:=Lib.one_byte sep h;exact QsF
def Qw5:Qb:=⟨[],false,fun
 | [.one (.v (.string s)),.one (.v (.string sep))]=>some (s.size<4294967281∧sep.size=1,[⟨false,[.own 1 (tL (Qa9 (QxV sep) s)) 1]⟩],[])
 | _=>none⟩
theorem Qrn{W:Bool}{h:Q6}:∀{ss:List ByteArray},Qn W h (tL ss).flatten (ss.map Value.string) []
 | []=> .nil
 | s::ss=> .v rfl Qrn
theorem QCg:Qa E0 20 Qw5:=by
 refine⟨⟨Tryz.f20,Tryz.func20,by kernel_rfl,rfl⟩,?_⟩
 intro args p rs ms hr hp w vals F Ms ha hnd hF hJ hN hMN;unfold Qw5 at hr;dsimp only at hr;split at hr
 ·rename_i s sep
  cases hr;obtain⟨hs,h1⟩:=hp;cases ha with
  | cons g1 g2=>
   cases g2 with
   | cons g2 g3=>
    cases g3
    cases g1 with
    | one r1=>
     cases r1 with
     | v _ r1=>
      cases r1
      cases g2 with
      | one r2=>
       cases r2 with
       | v _ r2=>
        cases r2
        obtain⟨m,hm⟩:=QFO hJ;have hlen:Lib.countB s sep+1=(Qa9 (QxV sep) s).length:=by
         rw[←QzM h1];exact(Lib.splitB_all sep (by omega) 0 _ s rfl).symm
        have hle:(Qa9 (QxV sep) s).length≤s.size+1:=by
         have:=@QfW (QxV sep) s.data.toList
         unfold Qa9;rw[KV];rw[bsz]at this;exact this
        have hc:=Any.strings_Split Tryz.lays146 kR s sep m w hs hm (by omega)
        rw[hlen,QzM h1]at hc;generalize Qa9 (QxV sep) s=ss at hc hle ⊢;refine hc.mono ?_
        rintro e w' ⟨rfl,rfl⟩;refine⟨_,rfl,⟨rfl,rfl,rfl,by show _≤(w.heap.push _).size;rw[Array.size_push];omega,fun b hb _=>by show(w.heap.push _)[b]? =_;rw[Array.getElem?_push,if_neg (Nat.ne_of_lt hb)],[],[[w.heap.size]],[],[],?_,.nil,by simp,fun b hb=>?_,by simp,by simp,by simp,by simp⟩⟩
        rotate_left
        ·have hb2:b=w.heap.size:=by simpa using hb
         subst hb2;exact⟨.inl (KP _),by show _<(w.heap.push _).size;rw[Array.size_push];omega⟩
        have ha:Qar (w.alloc (.cells (ss.map Value.string).toArray (9))).heap [w.heap.size] [] 1 (tL ss) 1 (.slice (some ⟨w.heap.size,0,none⟩) ss.length ss.length):=by
         refine .inr ⟨w.heap.size,ss.length,(ss.map Value.string).toArray,9,[],by rw[Qz],rfl,rfl,by show(w.heap.push _)[w.heap.size]? =_;rw[Array.getElem?_push,if_pos rfl],by rw[Qz];exact KP _,by unfold maxLen;omega,by simp,?_,?_⟩
         ·intro x hx
          simp only[tL,KQ]at hx
          obtain⟨y,_,rfl⟩:=hx;rfl
         ·rw[Qz,Nat.mul_one,Kj (by simp)]
          simpa using Qrn
        exact(by simpa using QaN.own ha .nil:QaN _ [.own 1 (tL ss) 1] [_] [] [[w.heap.size]])
 ·cases hr
attribute [local go_sem] Qtu QtG Qtw cPI QsQ QAv cPD Qtt QDi Tryz.results21
theorem QFL{a b:Bool}:cond a b false=(a&&b):=by cases a<;>rfl
attribute [local go_sem] QFL Qdi Qdj Qb4 Qf1 Qeg Qeh Qwq Qh Qg Qae Qag Qaf Qaj Qa7 Qd1 Qv Qa1 Qz QbD QbT Qfc Qht Qez QcJ
theorem QiY{n k:Nat}:(((n:Nat):Int)==((k:Nat):Int))=(n==k):=by
 rw[Kp,Kh,Kh];omega
theorem Qzr{n k:Nat}:decide (((n:Nat):Int)>((k:Nat):Int))=decide (n>k):=by
 rw[Kp,KK,KK];omega
theorem Qrm{ws:List ByteArray}:((tL ws).take ws.length).drop 1=tL (ws.drop 1):=by
 rw[Kj (by rw[Qz];exact KP _)]
 simp[tL,List.map_drop]
def QtI:Qb:=⟨[],true,fun
 | [.agg [.v (.int .i64 c),.sl 1 l,.v (.int .i64 m),.sl 2 q,.sl 2 g],.one (.sl 1 t)]=>some ((WfS l∧WfD q∧WfD g)∧Qdf ⟨c,unS l,m,unD q,unD g⟩∧(WfL t∧∀w∈unT t,w.size≤1073741824)∧0<t.length∧t.length≤2147483648,Qwq (Qgr ⟨c,unS l,m,unD q,unD g⟩ (unT t)),[])
 | _=>none⟩
attribute [local go_sem] QtI
theorem QB6:Qa E0 21 QtI:=by
 refine QG (E:=E0) (T:=mkT Tryz.prog [(52,Qtu),(53,QtG),(54,Qtw),(55,cPI),(56,QsQ),(57,QAv),(58,cPD),(59,Qtt),(60,QDi)] false (fun d=>d==99) true (fun d=>d==998||d==996)) (Qd (E:=E0) (.cons QAl (.cons QB5 (.cons QAy (.cons Qq2 (.cons Qt9 (.cons Qwl (.cons QBM (.cons QAc (.cons QEr .nil)))))))))) (fn:=Tryz.f21) Tryz.func21 kR rfl Qc kR rfl ?_
 intro args p rs ms hr;unfold QtI at hr;dsimp only at hr;split at hr;rotate_left
 ·cases hr
 rename_i c l m q g t;cases hr;refine⟨rfl,rfl,nLe rfl,?_⟩
 have hm:=mxE;rintro⟨⟨h1,h2,h3⟩,hc,⟨h4,hs⟩,h0,hw2⟩ bs;obtain⟨rs,rfl,hx,hy⟩:=h1.ex;obtain⟨ds,rfl,hd⟩:=h2.ex;obtain⟨gv,rfl,hg⟩:=h3.ex;obtain⟨ws,rfl,hw⟩:=h4.ex;clear h1 h2 h3 h4;rw[QB,Qh,Qh]at hc ⊢;rw[Qa1]at hs ⊢;rw[Qz]at h0 hw2;obtain⟨⟨c0,c5⟩,r40,r5,d160,g20⟩:=QbN hc;dsimp only at c0 c5 r40 r5 d160 g20;have r6:∀r∈rs,r.length≤16777216:=fun r hr=>KF (r5 r hr) (by decide)
 clear r5;have hsz:=fun i=>Qei hs i
 have n3:=@QiY ws.length 3
 have n4:=@QiY ws.length 4
 have n2:=@QiY ws.length 2
 have n1:=@QiY ws.length 1
 have n0:=@Qzr ws.length 1
 have z0:=hsz 0
 have z1:=hsz 1
 have z2:=hsz 2
 have z3:=hsz 3
 clear hsz;generalize hZ:Qgr ⟨c,rs,m,ds,gv⟩ ws=Z;unfold Qgr at hZ;dsimp only at hZ;generalize hW0:ws.getD 0 ⟨#[]⟩=w0 at hZ z0;generalize hW1:ws.getD 1 ⟨#[]⟩=w1 at hZ z1;generalize hW2:ws.getD 2 ⟨#[]⟩=w2 at hZ z2;generalize hW3:ws.getD 3 ⟨#[]⟩=w3 at hZ z3;split at hZ
 ·rename_i k1
  rw[KB,Kh]at k1;obtain⟨k1,k2⟩:=k1;have a3:(((ws.length:Nat):Int)==3)=true:=n3.trans (by rw[k2];rfl)
  have i1:1<ws.length:=by omega
  have i2:2<ws.length:=by omega
  clear n0 n1 n2 n3 n4 k2 hc;subst hZ;(repeat' first|refine gA fun _=>?_|apply fkI<;>intro hb<;>try simp only[ew,hW0,hW1,hW2]at hb|simp only[go_sem,simprocAttr, *,hW0,hW1,hW2])
  all_goals first|rfl|skip
 rename_i k1;rw[KS]at k1;have a1:(isW w0 QhZ&&(((ws.length:Nat):Int)==3))=false:=by rw[show(((ws.length:Nat):Int)==3)=(ws.length==3)from n3];exact k1
 clear k1 n3;split at hZ
 ·rename_i k2
  clear n0 n1 n2 n4 hc;subst hZ;(repeat' first|refine gA fun _=>?_|apply fkI<;>intro hb<;>try simp only[ew,hW0]at hb|simp only[go_sem,simprocAttr, *,hW0])
  all_goals first|rfl|skip
 rename_i k2;rw[KS]at k2;split at hZ
 ·rename_i k3
  rw[KB,KK]at k3;obtain⟨k3,k4⟩:=k3;have a2:decide (((ws.length:Nat):Int)>1)=true:=n0.trans (KZ k4)
  have hs2:∀w∈ws.drop 1,w.size≤1073741824:=fun w hw=>hs w (YI hw)
  have hl2:(ws.drop 1).length≤maxLen:=by rw[Kk];omega
  have hl4:(ws.drop 1).length≤2147483648:=by rw[Kk];omega
  have i1:1≤ws.length:=by omega
  clear n0 n1 n2 n4 k4 hs;subst hZ;(repeat' first|refine gA fun _=>?_|apply fkI<;>intro hb<;>try simp only[ew,hW0,Qrm]at hb|simp only[go_sem,simprocAttr, *,hW0,Qrm])
  all_goals first|rfl|skip
 rename_i k3;rw[KS]at k3;have a2:(isW w0 QCO&&decide (((ws.length:Nat):Int)>1))=false:=by rw[show decide (((ws.length:Nat):Int)>1)=decide (ws.length>1)from n0];exact k3
 clear k3 n0;split at hZ
 ·rename_i k4
  rw[KB,Kh]at k4;obtain⟨k4,k5⟩:=k4;have a3:(((ws.length:Nat):Int)==4)=true:=n4.trans (by rw[k5];rfl)
  have i1:1<ws.length:=by omega
  have i2:2<ws.length:=by omega
  have i3:3<ws.length:=by omega
  clear n1 n2 n4 k5 hs;subst hZ;(repeat' first|refine gA fun _=>?_|apply fkI<;>intro hb<;>try simp only[ew,hW0,hW1,hW2,hW3]at hb|simp only[go_sem,simprocAttr, *,hW0,hW1,hW2,hW3])
  all_goals first|rfl|skip
 rename_i k4;rw[KS]at k4;have a3:(isW w0 Qyd&&(((ws.length:Nat):Int)==4))=false:=by rw[show(((ws.length:Nat):Int)==4)=(ws.length==4)from n4];exact k4
 clear k4 n4;split at hZ
 ·rename_i k5
  rw[KB,Kh]at k5;obtain⟨k5,k6⟩:=k5;have a4:(((ws.length:Nat):Int)==2)=true:=n2.trans (by rw[k6];rfl)
  have i1:1<ws.length:=by omega
  clear n1 n2 k6 hs hc;cases q1:(spF w1.data.toList).2
  ·rw[QDw q1]at hZ
   subst hZ;(repeat' first|refine gA fun _=>?_|apply fkI<;>intro hb<;>try simp only[ew,hW0,hW1]at hb|simp only[go_sem,simprocAttr, *,hW0,hW1])
   all_goals first|rfl|skip
  ·rw[QAY q1]at hZ
   dsimp only at hZ;have hy:(if QhG c rs m ds (spF w1.data.toList).1 then sOk else sNo)=Qmn (QhG c rs m ds (spF w1.data.toList).1):=rfl
   rw[hy]at hZ;subst hZ;clear hy;(repeat' first|refine gA fun _=>?_|apply fkI<;>intro hb<;>try simp only[ew,hW0,hW1]at hb|simp only[go_sem,simprocAttr, *,hW0,hW1])
   all_goals first|rfl|skip
 rename_i k5;rw[KS]at k5;have a4:(isW w0 Qye&&(((ws.length:Nat):Int)==2))=false:=by rw[show(((ws.length:Nat):Int)==2)=(ws.length==2)from n2];exact k5
 clear k5;split at hZ
 ·rename_i k6
  have a5:(((ws.length:Nat):Int)==2)=true:=n2.trans k6
  rw[a5]at a4;rw[Kh]at k6;have i1:1<ws.length:=by omega
  rw[Yd]at a4;clear n1 n2 k6 hs;cases q1:(pdF c w1).2
  ·rw[q1,if_neg (by decide)]at hZ
   subst hZ;clear hc;(repeat' first|refine gA fun _=>?_|apply fkI<;>intro hb<;>try simp only[ew,hW0,hW1]at hb|simp only[go_sem,simprocAttr, *,hW0,hW1])
   all_goals first|rfl|skip
  ·rw[q1,if_pos rfl]at hZ
   subst hZ;(repeat' first|refine gA fun _=>?_|apply fkI<;>intro hb<;>try simp only[ew,hW0,hW1]at hb|simp only[go_sem,simprocAttr, *,hW0,hW1])
   all_goals first|rfl|skip
 rename_i k6;rw[KS]at k6;have a5:(((ws.length:Nat):Int)==2)=false:=n2.trans k6
 rw[a5]at a4;rw[YM]at a4;clear n2 k6 a4;split at hZ
 ·rename_i k7
  have a6:(((ws.length:Nat):Int)==1)=true:=n1.trans k7
  clear n1 k7 hs;subst hZ;(repeat' first|refine gA fun _=>?_|apply fkI<;>intro hb<;>try simp only[ew,hW0]at hb|simp only[go_sem,simprocAttr, *,hW0])
  all_goals first|rfl|skip
 ·rename_i k7
  rw[KS]at k7;have a6:(((ws.length:Nat):Int)==1)=false:=n1.trans k7
  clear n1 k7 hs hc;subst hZ;(repeat' first|refine gA fun _=>?_|apply fkI<;>intro hb<;>try simp only[ew,hW0]at hb|simp only[go_sem,simprocAttr, *,hW0])
  all_goals first|rfl|skip
theorem Qh0:∀{ls:List ByteArray} {σ:Con},Qdf σ→Qdf (QF σ ls).1
 | [],σ,h=>h
 | l::r,σ,h=>by
  rw[QF];split
  ·exact Qh0 h
  ·exact Qh0 (QzH h)
theorem QkD{ls:List ByteArray}{l:ByteArray}{σ:Con}:QF σ (ls++[l])=if isW l ⟨#[]⟩then QF σ ls else((Qgr (QF σ ls).1 (Qa9 32 l)).1,(QF σ ls).2++((Qgr (QF σ ls).1 (Qa9 32 l)).2++⟨#[10]⟩)):=by
 induction ls generalizing σ with
 | nil=>
  have e1:QF σ []=(σ,⟨#[]⟩):=rfl
  have e2:QF σ [l]=if isW l ⟨#[]⟩then QF σ []else((QF (Qgr σ (Qa9 32 l)).1 []).1,((Qgr σ (Qa9 32 l)).2++⟨#[10]⟩)++(QF (Qgr σ (Qa9 32 l)).1 []).2):=rfl
  rw[List.nil_append,e2,e1]
  by_cases h:isW l ⟨#[]⟩=true
  ·rw[if_pos h,if_pos h]
  ·rw[if_neg h,if_neg h]
   refine Prod.ext rfl ?_
   have e3:∀τ:Con,(QF τ []).2=⟨#[]⟩:=fun _=>rfl
   dsimp only;rw[e3];exact QbG (by simp only[Qb2];rw[KM,List.nil_append])
 | cons x r ih=>
  rw[List.cons_append,QF,QF]
  by_cases hx:isW x ⟨#[]⟩=true
  ·rw[if_pos hx,if_pos hx,ih]
  ·rw[if_neg hx,if_neg hx,ih]
   by_cases h:isW l ⟨#[]⟩=true
   ·rw[if_pos h,if_pos h]
   ·rw[if_neg h,if_neg h]
    refine Prod.ext rfl ?_
    dsimp only;exact QbG (by simp only[Qb2,Kn])
theorem QgX{ls:List ByteArray}{σ:Con}(h:Qdf σ):(QF σ ls).2.size≤ls.length*10001:=by
 induction ls generalizing σ with
 | nil=>exact KJ _
 | cons x r ih=>
  rw[QF];split
  ·have:=ih h;rw[List.length_cons,YD,Nat.one_mul];exact KF this (Nat.le_add_right _ _)
  ·have h1:=@Ql2 σ (Qa9 32 x) h
   have h2:=ih (@QzH σ (Qa9 32 x) h)
   dsimp only;rw[Qe,Qe];have:ByteArray.size ⟨#[10]⟩=1:=rfl
   rw[List.length_cons,YD,Nat.one_mul];generalize r.length*10001=q at h2 ⊢;omega
theorem Qlf{c:UInt8}{s:ByteArray}:∀w∈Qa9 c s,w.size≤s.size:=fun w hw=>by
 unfold Qa9 at hw;obtain⟨l,hl,rfl⟩:=KQ.1 hw;have:=QiK l hl
 rw[bsz]at this;exact this
theorem Qle{c:UInt8}{s:ByteArray}:0<(Qa9 c s).length:=by
 unfold Qa9;rw[KV];exact List.length_pos_iff.2 QdG
theorem QhS{c:UInt8}{s:ByteArray}:(Qa9 c s).length≤s.size+1:=by
 unfold Qa9;rw[KV];have:=@QfW c s.data.toList
 rw[bsz]at this;exact this
theorem Qkw{w:ByteArray}:(w.toList==ByteArray.toList ⟨#[]⟩)=isW w ⟨#[]⟩:=rfl
theorem Qi5{ls:List ByteArray}(h:0<ls.length):(isW (ls.getD (ls.length-1) ⟨#[]⟩) ⟨#[]⟩=true∧Qc2 ls=ls.take (ls.length-1))∨(isW (ls.getD (ls.length-1) ⟨#[]⟩) ⟨#[]⟩=false∧Qc2 ls=ls):=by
 unfold Qc2;cases hq:isW (ls.getD (ls.length-1) ⟨#[]⟩) ⟨#[]⟩
 ·exact .inr ⟨rfl,if_neg (by decide)⟩
 ·exact .inl ⟨rfl,if_pos rfl⟩
theorem QFW:QxV ⟨#[10]⟩=10:=rfl
theorem QFX:QxV ⟨#[32]⟩=32:=rfl
theorem QF3:ByteArray.size ⟨#[10]⟩=1:=rfl
theorem QF4:ByteArray.size ⟨#[32]⟩=1:=rfl
theorem QeA{ws:List ByteArray}{n:Nat}:(tL ws).take n=tL (ws.take n):=by simp[tL,List.map_take]
end Go.Own
