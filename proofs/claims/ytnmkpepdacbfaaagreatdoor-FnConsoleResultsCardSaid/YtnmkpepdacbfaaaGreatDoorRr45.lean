/-
  The program's console: new tables, rows, cells. Conditions: as each theorem states them.
-/
import Derived.Test.YtnmkpepdacbfaaaGreatDoorRr44
set_option linter.unusedSimpArgs false
set_option linter.unusedVariables false
set_option maxRecDepth 20000
set_option maxHeartbeats 4000000
namespace Go.Own
open Go Go.Proofs
attribute [local go_sem] Tryz.results57 cPI Tryz.results52 cPV QtH Tryz.results53 cPA Qqh Qk9 Qzh Tryz.results54
attribute [local go_sem] QdP QdQ Qcj Qgo QeL QeM Qs7 Qm Qc QZ Q1 Q0 Q3 QaH Qdb Qr Qbp Qz Qbm Qcu Qf3 QhJ QhI Qew
def Qig:Qb:=⟨[],false,fun
 | [.agg [.v (.int .i64 c),.v (.slice none 0 0)],.one (.v (.int .i64 m))]=>some (-9223372036854775808≤c∧c≤9223372036854775807,
   [⟨true,[.d (.v (.int .i64 (nmC c [] m))),.own 1 (sL (nmR c [] m)) 1,.d (.v (.int .i64 (nmM c [] m))),.own 2 (dL (mdL c [] m)) 1]⟩,⟨false,[.d (.v (.bool (nmB c [] m)))]⟩],[])
 | _=>none⟩
attribute [local go_sem] Qig
theorem QuU{f:FuncId}(h:Qa E0 f QtK):Qa E0 f Qig:=by
 refine⟨h.1,?_⟩
 intro args p rs ms hr hp w vals F Ms ha hnd hF hJ hN hMN;unfold Qig at hr;dsimp only at hr;split at hr
 ·rename_i c m
  cases hr;cases ha with
  | cons g1 g2=>
   cases g1 with
   | agg r=>
    cases r with
    | v e1 r=>
     cases r with
     | v e2 r=>
      cases r
      exact h.2 [.agg [.v (.int .i64 c),.sl 1 []],.one (.v (.int .i64 m))] _ _ _ rfl ⟨⟨rfl,Nat.zero_le _,fun r hr=>by cases hr⟩,hp⟩ w _ _ _ (.cons (.agg (.v e1 (.none (fun h=>nomatch h) .nil))) g2) hnd hF hJ hN hMN
 ·cases hr
theorem QrS:Qa E0 91 Qig:=QuU QuV
def QA9(b:Bool):ByteArray:=if b then sOk else sNo
def Qw9:Qb:=⟨[],false,fun
 | [.one (.v (.bool b))]=>some (True,[⟨false,[.d (.v (.string (QA9 b)))]⟩],[])
 | _=>none⟩
attribute [local go_sem] Qw9
theorem Qs0:Qa E0 57 Qw9:=by
 refine QV (E:=E0) (T:=mkT Tryz.prog [] false (fun _=>false) true (fun _=>false)) (Qf (E:=E0) .nil) (fn:=Tryz.f57) Tryz.func57 (by kernel_rfl) rfl Qe (by kernel_rfl) rfl ?_
 intro args p rs ms hr;unfold Qw9 at hr;dsimp only at hr;split at hr;rotate_left
 ·cases hr
 rename_i b;cases hr;refine⟨rfl,rfl,nLe rfl,?_⟩
 have hm:=mxE;intro _ bs;unfold QA9;cases b
 ·rw[if_neg (by decide)]
  exact gQ
 ·rw[if_pos rfl]
  exact gQ
theorem Qwk{c m:Int}(h:nmB c [] m=true):nmC c [] m=c∧nmR c [] m=[]∧nmM c [] m=m:=by
 unfold nmC nmR nmM;rw[h];exact⟨rfl,rfl,rfl⟩
def Qqc:Qb:=⟨[],true,fun
 | [.agg [.v (.int .i64 c),.sl 1 l,.v (.int .i64 m),.sl 2 q,.sl 2 g],.one (.v (.string a)),.one (.v (.string b))]=>some ((WfS l∧WfD q∧WfD g)∧a.size≤1073741824,Qs7 (QtB ⟨c,unS l,m,unD q,unD g⟩ a b),[])
 | _=>none⟩
attribute [local go_sem] Qqc
theorem QwZ:Qa E0 52 Qqc:=by
 refine QV (E:=E0) (T:=mkT Tryz.prog [(55,cPI),(91,Qig)] false (fun d=>d==26) true (fun d=>d==998)) (Qf (E:=E0) (.cons QnW (.cons QrS .nil))) (fn:=Tryz.f52) Tryz.func52 (by kernel_rfl) rfl Qe (by kernel_rfl) rfl ?_
 intro args p rs ms hr;unfold Qqc at hr;dsimp only at hr;split at hr;rotate_left
 ·cases hr
 rename_i c l m q g a b;cases hr;refine⟨rfl,rfl,nLe rfl,?_⟩
 have hm:=mxE;rintro⟨⟨h1,h2,h3⟩,hs⟩ bs;obtain⟨rs,rfl,hx,hy⟩:=h1.ex;obtain⟨ds,rfl,hd⟩:=h2.ex;obtain⟨gv,rfl,hg⟩:=h3.ex;clear h1 h2 h3;rw[QG,Qm,Qm];generalize hZ:QtB ⟨c,rs,m,ds,gv⟩ a b=Z;unfold QtB at hZ;(try dsimp only at hZ)
 have hr:=@QyI a.data.toList
 have hq:=fun M=>@QzB a M
 have hnum:=fun M=>@QwY a M
 generalize hP:spF a.data.toList=P at hr hq hnum;cases k1:isW b Qea
 ·cases k2:isW b Qeb
  ·have hm:QrM b= -1:=by unfold QrM;rw[k1,k2];rfl
   have hn:nmB (l3V a) [] (-1)=false:=by rw[QjD];simp[QJ]
   rw[hm,hn,if_neg (by decide)]at hZ
   subst hZ;clear hq hnum;(repeat' first|refine gA fun _=>?_|apply fkI<;>intro hb<;>try simp only[ew,hP]at hb|simp only[go_sem,simprocAttr, *,hP])
   all_goals first|rfl|skip
  ·have hm:QrM b=0:=by unfold QrM;rw[k1,k2];rfl
   rw[hm]at hZ;have hq0:=hq 0
   cases p2:P.2
   ·rw[hq0,p2,Bool.false_and,if_neg (by decide)]at hZ
    subst hZ;clear hq hnum hq0;(repeat' first|refine gA fun _=>?_|apply fkI<;>intro hb<;>try simp only[ew,hP]at hb|simp only[go_sem,simprocAttr, *,hP])
    all_goals first|rfl|skip
   ·cases hn:nmB P.1 [] 0
    ·rw[hq0,p2,hn,Bool.and_false,if_neg (by decide)]at hZ
     subst hZ;clear hq hnum hq0;(repeat' first|refine gA fun _=>?_|apply fkI<;>intro hb<;>try simp only[ew,hP]at hb|simp only[go_sem,simprocAttr, *,hP])
     all_goals first|rfl|skip
    ·rw[p2,hn]at hq0
     have e1:=hnum 0 hq0
     obtain⟨e2,e3,e4⟩:=Qwk hn;rw[hq0,←e1,Bool.and_self,if_pos rfl]at hZ;subst hZ;clear hq hnum hq0 e1;(repeat' first|refine gA fun _=>?_|apply fkI<;>intro hb<;>try simp only[ew,hP,QdE,Qdo]at hb|simp only[go_sem,simprocAttr, *,hP,QdE,Qdo])
     all_goals first|rfl|skip
 ·have hm:QrM b=1:=by unfold QrM;rw[k1];rfl
  rw[hm]at hZ;have hq0:=hq 1
  cases p2:P.2
  ·rw[hq0,p2,Bool.false_and,if_neg (by decide)]at hZ
   subst hZ;clear hq hnum hq0;(repeat' first|refine gA fun _=>?_|apply fkI<;>intro hb<;>try simp only[ew,hP]at hb|simp only[go_sem,simprocAttr, *,hP])
   all_goals first|rfl|skip
  ·cases hn:nmB P.1 [] 1
   ·rw[hq0,p2,hn,Bool.and_false,if_neg (by decide)]at hZ
    subst hZ;clear hq hnum hq0;(repeat' first|refine gA fun _=>?_|apply fkI<;>intro hb<;>try simp only[ew,hP]at hb|simp only[go_sem,simprocAttr, *,hP])
    all_goals first|rfl|skip
   ·rw[p2,hn]at hq0
    have e1:=hnum 1 hq0
    obtain⟨e2,e3,e4⟩:=Qwk hn;rw[hq0,←e1,Bool.and_self,if_pos rfl]at hZ;subst hZ;clear hq hnum hq0 e1;(repeat' first|refine gA fun _=>?_|apply fkI<;>intro hb<;>try simp only[ew,hP,QdE,Qdo]at hb|simp only[go_sem,simprocAttr, *,hP,QdE,Qdo])
    all_goals first|rfl|skip
theorem Qsn:∀{ws:List ByteArray},(∀w∈ws,(pvF w).2=true)→rvF ws=(ws.map fun w=>(pvF w).1,true)
 | [],_=>rfl
 | w::r,h=>by
  rw[rvF,if_pos (h w (by simp)),Qsn fun x hx=>h x (by simp[hx])]
  rfl
theorem Qso:∀{ws:List ByteArray} {w:ByteArray},w∈ws→(pvF w).2=false→(rvF ws).2=false
 | x::r,w,h,hw=>by
  rw[rvF];cases hx:(pvF x).2
  ·rfl
  ·rw[if_pos rfl]
   rcases List.mem_cons.1 h with rfl|h
   ·rw[hw]at hx;cases hx
   ·exact Qso h hw
def Qql:Qb:=⟨[],true,fun
 | [.agg [.v (.int .i64 c),.sl 1 l,.v (.int .i64 m),.sl 2 q,.sl 2 g],.one (.sl 1 t)]=>some ((WfS l∧WfD q∧WfD g)∧Qdm ⟨c,unS l,m,unD q,unD g⟩∧(WfL t∧∀w∈unT t,w.size≤1073741824)∧t.length≤2147483648,Qs7 (Qsj ⟨c,unS l,m,unD q,unD g⟩ (unT t)),[])
 | _=>none⟩
attribute [local go_sem] Qql
theorem QlU{ws:List ByteArray}{B:Nat}(h:∀w∈ws,w.size≤B)(i:Nat):(ws.getD i ⟨#[]⟩).size≤B:=by
 by_cases hi:i<ws.length
 ·exact h _ (by simp[List.getD_eq_getElem?_getD,hi])
 ·simp[List.getD_eq_getElem?_getD,Nat.le_of_not_lt hi]
  exact Nat.zero_le _
theorem Qyx:Qa E0 53 Qql:=by
 refine QV (E:=E0) (T:=mkT Tryz.prog [(92,cPV),(93,QtH),(57,Qw9)] false (fun d=>d==37) true (fun d=>d==998)) (Qf (E:=E0) (.cons QAI (.cons Qrp (.cons Qs0 .nil)))) (fn:=Tryz.f53) Tryz.func53 (by kernel_rfl) rfl Qe (by kernel_rfl) rfl ?_
 intro args p rs ms hr;unfold Qql at hr;dsimp only at hr;split at hr;rotate_left
 ·cases hr
 rename_i c l m q g t;cases hr;refine⟨rfl,rfl,nLe rfl,?_⟩
 have hm:=mxE;rintro⟨⟨h1,h2,h3⟩,hc,⟨h4,hs⟩,hw2⟩ bs;obtain⟨rs,rfl,hx,hy⟩:=h1.ex;obtain⟨ds,rfl,hd⟩:=h2.ex;obtain⟨gv,rfl,hg⟩:=h3.ex;obtain⟨ws,rfl,hw⟩:=h4.ex;clear h1 h2 h3 h4;rw[QG,Qm,Qm]at hc ⊢;rw[Qbp]at hs ⊢;rw[Qz]at hw2;obtain⟨⟨c0,c5⟩,r40,r5,d160,g20⟩:=QcF hc;dsimp only at c0 c5 r40 r5 d160 g20;clear hc;have r6:∀r∈rs,r.length≤16777216:=fun r hr=>Nat.le_trans (r5 r hr) (by decide)
 clear r5;have hsz:=fun i=>QlU hs i
 clear hs;have ei:iL []=[]:=rfl
 generalize hZ:Qsj ⟨c,rs,m,ds,gv⟩ ws=Z;(repeat' first|refine gA fun _=>?_|apply fkI<;>intro hb<;>try simp only[ew,ei]at hb|simp only[go_sem,simprocAttr, *,ei])
 refine lpI {ι:=Nat,rs:=[(5,6),(8,11),(17,33)],mods:=[(16,fun k=> .one (.d (.v (.int .i64 k)))),(6,fun k=> .one (.own 1 (iL ((ws.take k).map fun w=>(pvF w).1)) 1))],boxes:=[(2,fun _=>[.d (.v (.int .i64 c)),.d (.sl 1 (sL rs)),.d (.v (.int .i64 m)),.d (.sl 2 (dL ds)),.d (.sl 2 (dL gv))]),(4,fun _=>[.d (.v (.int .i64 0)),.d (.v (.slice none 0 0)),.d (.v (.int .i64 0)),.d (.v (.slice none 0 0)),.d (.v (.slice none 0 0))])],arrs:=[],ok:=fun k=>k≤ws.length∧∀w∈ws.take k,(pvF w).2=true,mu:=fun k=>ws.length-k} rfl 0 ⟨Nat.zero_le _,by simp⟩ ?_ fun k hk=>?_
 ·clear hsz
  (repeat' first|refine gA fun _=>?_|apply fkI<;>intro hb<;>try simp only[ew,ei,List.take_zero,List.map_nil]at hb|simp only[go_sem,simprocAttr, *,ei,List.take_zero,List.map_nil])
  all_goals first|rfl|skip
 ·dsimp only at k hk
  obtain⟨hk1,hk2⟩:=hk
  by_cases h5:k<ws.length
  ·have hz:=hsz k
   have ht:ws.take (k+1)=ws.take k++[ws.getD k ⟨#[]⟩]:=Qk h5 _
   have hmem:ws.getD k ⟨#[]⟩∈ws:=by simp[List.getD_eq_getElem?_getD,h5]
   clear hsz;have hlen:((ws.take k).map fun w=>(pvF w).1).length≤2147483648:=by simp only[List.length_map,List.length_take];omega
   have hlen2:((ws.take k).map fun w=>(pvF w).1).length≤maxLen:=Nat.le_trans hlen (by decide)
   generalize hV:((ws.take k).map fun w=>(pvF w).1)=V at hlen hlen2
   generalize hB:ws.getD k ⟨#[]⟩=b at hz ht hmem;cases hp:(pvF b).2
   ·have hbad:=Qso hmem hp
    rw[QAL hbad]at hZ;subst hZ;clear ht hmem hk2 hbad;(repeat' first|refine gA fun _=>?_|apply fkI<;>intro hb<;>try simp only[ew,hV,hB]at hb|simp only[go_sem,simprocAttr, *,hV,hB])
    all_goals first|rfl|skip
   ·have hk3:∀w∈ws.take (k+1),(pvF w).2=true:=fun w hw=>by
     rw[ht]at hw;rcases List.mem_append.1 hw with hw|hw
     ·exact hk2 w hw
     ·rw[List.mem_singleton]at hw;subst hw;exact hp
    have hV2:((ws.take (k+1)).map fun w=>(pvF w).1)=V++[(pvF b).1]:=by rw[ht,List.map_append,hV];rfl
    clear ht hmem hk2 hZ;(repeat' first|refine gA fun _=>?_|apply fkI<;>intro hb<;>try simp only[ew,hV,hB,Ql]at hb|simp only[go_sem,simprocAttr, *,hV,hB,Ql])
    refine lpN (k+1) ⟨by omega,hk3⟩ (by dsimp only;omega) ?_
    clear hk3;(repeat' first|refine gA fun _=>?_|apply fkI<;>intro hb<;>try simp only[ew,hV2,Ql]at hb|simp only[go_sem,simprocAttr, *,hV2,Ql])
  ·have e5:k=ws.length:=by omega
   subst e5;rw[List.take_length]at hk2;have hT:ws.take ws.length=ws:=List.take_length
   have hall:=Qsn hk2
   rw[Qyw (by rw[hall]),hall]at hZ
   dsimp only at hZ;have hlen:(ws.map fun w=>(pvF w).1).length≤maxLen:=by simp only[List.length_map];omega
   generalize hV:(ws.map fun w=>(pvF w).1)=V at hZ hlen
   have hy:(if Qiz c rs m ds V then sOk else sNo)=QA9 (Qiz c rs m ds V):=rfl
   rw[hy]at hZ;subst hZ;clear hsz hk2 hall hy;(repeat' first|refine gA fun _=>?_|apply fkI<;>intro hb<;>try simp only[ew,hT,hV]at hb|simp only[go_sem,simprocAttr, *,hT,hV])
   all_goals first|rfl|skip
def Qqe:Qb:=⟨[],true,fun
 | [.agg [.v (.int .i64 c),.sl 1 l,.v (.int .i64 m),.sl 2 q,.sl 2 g],.one (.v (.string a)),.one (.v (.string b)),.one (.v (.string v))]=>some ((WfS l∧WfD q∧WfD g)∧Qdm ⟨c,unS l,m,unD q,unD g⟩∧a.size≤1073741824∧v.size≤1073741824,Qs7 (Qqs ⟨c,unS l,m,unD q,unD g⟩ a b v),[])
 | _=>none⟩
attribute [local go_sem] Qqe
theorem QvN{σ:Con}{p l v:ByteArray}(h:((paF l).2&&decide (((mem (paF l).1).length:Int)=1))=false):Qqs σ p l v=(σ,Qmr):=by
 unfold Qqs;rw[h,if_neg (by decide)]
theorem Qxc:Qa E0 54 Qqe:=by
 refine QV (E:=E0) (T:=mkT Tryz.prog [(94,cPA),(95,Qqh),(55,cPI),(92,cPV),(97,Qk9),(96,Qzh),(57,Qw9)] false (fun d=>d==52||d==56) true (fun d=>d==998||d==996)) (Qf (E:=E0) (.cons Qwl (.cons Qqx (.cons QnW (.cons QAI (.cons Qho (.cons QyY (.cons Qs0 .nil)))))))) (fn:=Tryz.f54) Tryz.func54 (by kernel_rfl) rfl Qe (by kernel_rfl) rfl ?_
 intro args p rs ms hr;unfold Qqe at hr;dsimp only at hr;split at hr;rotate_left
 ·cases hr
 rename_i c l m q g a b v;cases hr;refine⟨rfl,rfl,nLe rfl,?_⟩
 have hm:=mxE;rintro⟨⟨h1,h2,h3⟩,hc,hs1,hs2⟩ bs;obtain⟨rs,rfl,hx,hy⟩:=h1.ex;obtain⟨ds,rfl,hd⟩:=h2.ex;obtain⟨gv,rfl,hg⟩:=h3.ex;clear h1 h2 h3;rw[QG,Qm,Qm]at hc ⊢;obtain⟨⟨c0,c5⟩,r40,r5,d160,g20⟩:=QcF hc;dsimp only at c0 c5 r40 r5 d160 g20;clear hc;have r6:∀r∈rs,r.length≤16777216:=fun r hr=>Nat.le_trans (r5 r hr) (by decide)
 clear r5;have hl:=@QfC (paF b).1
 generalize hZ:Qqs ⟨c,rs,m,ds,gv⟩ a b v=Z;cases p1:(paF b).2
 ·rw[QvN (by rw[p1];rfl)]at hZ
  subst hZ;(repeat' first|refine gA fun _=>?_|apply fkI<;>intro hb<;>try simp only[ew,cnt]at hb|simp only[go_sem,simprocAttr, *,cnt])
  all_goals first|rfl|skip
 ·by_cases p3:((mem (paF b).1).length:Int)=1
  ·have p3':(((mem (paF b).1).length:Int)!=1)=false:=by rw[p3];rfl
   have hok:((paF b).2&&decide (((mem (paF b).1).length:Int)=1))=true:=by rw[p1,decide_eq_true p3];rfl
   have j0:0<(mem (paF b).1).length:=by omega
   have hg0:=Qrk j0
   cases q1:(spF a.data.toList).2
   ·rw[QvM hok (by rw[q1];rfl)]at hZ
    subst hZ;clear hok;(repeat' first|refine gA fun _=>?_|apply fkI<;>intro hb<;>try simp only[ew,cnt]at hb|simp only[go_sem,simprocAttr, *,cnt])
    all_goals first|rfl|skip
   ·cases q2:(pvF v).2
    ·rw[QvM hok (by rw[q2];simp)]at hZ
     subst hZ;clear hok;(repeat' first|refine gA fun _=>?_|apply fkI<;>intro hb<;>try simp only[ew,cnt]at hb|simp only[go_sem,simprocAttr, *,cnt])
     all_goals first|rfl|skip
    ·rw[Qxb hok (by rw[q1,q2];rfl)]at hZ
     dsimp only at hZ;generalize (mem (paF b).1).getD 0 0=k at hZ hg0;have hy:(if QpF c rs m ds (spF a.data.toList).1 k (pvF v).1 then sOk else sNo)=QA9 (QpF c rs m ds (spF a.data.toList).1 k (pvF v).1):=rfl
     rw[hy]at hZ;subst hZ;clear hok hy;(repeat' first|refine gA fun _=>?_|apply fkI<;>intro hb<;>try simp only[ew,cnt]at hb|simp only[go_sem,simprocAttr, *,cnt])
     all_goals first|rfl|skip
  ·have p3':(((mem (paF b).1).length:Int)!=1)=true:=by rw[bne_iff_ne];exact p3
   rw[QvN (by rw[decide_eq_false p3];simp)]at hZ
   subst hZ;(repeat' first|refine gA fun _=>?_|apply fkI<;>intro hb<;>try simp only[ew,cnt]at hb|simp only[go_sem,simprocAttr, *,cnt])
   all_goals first|rfl|skip
end Go.Own
