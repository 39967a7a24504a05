/- Contracts. Conditions: as stated. -/
import Derived.Test.YtnmkpepdacbfaaaGreatDoorRp23
import Derived.Test.YtnmkpepdacbfaaaGreatDoorRp24
set_option linter.all false
set_option maxRecDepth 20000
set_option maxHeartbeats 2000000
namespace Go.Own
open Go Go.Proofs
attribute [local go_sem] Qak QdS QhO Qax QcL QeG Qkc Tryz.results143 Qh Qg Qae Qag Qaf Qaj Qa7 Qd1 Qv Qa6
def QmX(ag:Int)(d:Int×Int):Nat→List (Int×Int)
 | 0=>[]
 | k+1=>QmX ag d k++(if !Qu ag (k:Nat)&&((k:Nat):Int)!=d.2 then [(Qbp d.1 (k:Nat),d.2)]else [])
def Qv0(n ag:Int)(d:Int×Int):List (Int×Int):=if QO n d.1 d.2 then(if !Qab d.1 ag||Qu ag d.2 then [d]else QmX ag d n.toNat)else []
def QfF(n ag:Int)(ds:List (Int×Int)):List (Int×Int):=ds.flatMap (Qv0 n ag)
def Qmj(d e:Int×Int):Bool:=(e==d||e.2 !=d.2)|| !Qab e.1 d.1
def QEl(n ag:Int)(ds:List (Int×Int)):List (Int×Int):=(Lib.compact (Qe1 (QfF n ag ds))).filter fun d=>(Lib.compact (Qe1 (QfF n ag ds))).all (Qmj d)
def QsT(n ag:Int):Bool:=decide (1≤n)&&Ql n ag
def QsS(n ag:Int)(ds:List (Int×Int)):List (Int×Int):=if QsT n ag then QEl n ag ds else ds
theorem Qlp{ag:Int}{d:Int×Int}:∀{k:Nat},(QmX ag d k).length≤k
 | 0=>KP _
 | k+1=>by
  have:=@Qlp ag d k
  rw[QmX,KN];split<;>simp<;>omega
theorem Qzn{ag:Int}{d:Int×Int}(hd:Qbv d):∀{k:Nat},k≤5→∀e∈QmX ag d k,Qbv e
 | 0,_,e,he=>by cases he
 | k+1,h,e,he=>by
  rw[QmX]at he;rcases KG.1 he with he|he
  ·exact Qzn hd (by omega) e he
  ·split at he
   ·rw[KH]at he
    rw[he];exact⟨Qd4 hd.1 ⟨by omega,by omega⟩,hd.2⟩
   ·cases he
theorem QsE{n ag:Int}(hn:n≤5){d:Int×Int}:(Qv0 n ag d).length≤5∧∀e∈Qv0 n ag d,Qbv e:=by
 unfold Qv0;split
 ·rename_i h
  have hd:=Qaz h
  split
  ·exact⟨by simp,fun e he=>by rw[KH]at he;rw[he];exact hd⟩
  ·exact⟨KF Qlp (by omega),Qzn hd (by omega)⟩
 ·simp
theorem QvZ{n ag:Int}{ds:List (Int×Int)}{i:Nat}(h:i<ds.length):QfF n ag (ds.take (i+1))=QfF n ag (ds.take i)++Qv0 n ag (ds.getD i (0,0)):=by
 unfold QfF;rw[Qf h (0,0),List.flatMap_append];simp
theorem Qhb{n ag:Int}(hn:n≤5):∀{ds:List (Int×Int)},(QfF n ag ds).length≤5*ds.length∧∀e∈QfF n ag ds,Qbv e
 | []=>by simp[QfF]
 | d::ds=>by
  obtain⟨h1,h2⟩:=@Qhb n ag hn ds;obtain⟨k1,k2⟩:=@QsE n ag hn d;unfold QfF at *;rw[List.flatMap_cons,KN,List.length_cons];refine⟨by omega,fun e he=>?_⟩
  rcases KG.1 he with he|he
  ·exact k2 e he
  ·exact h2 e he
def QDg:Qb:=⟨[],false,fun
 | [.one (.sl 2 l),.one (.v (.int .i64 n)),.one (.v (.int .i64 ag))]=>some (WfD l∧l.length≤1048576∧ -9223372036854775808≤n∧n≤9223372036854775807,[⟨false,[.own 2 (dL (QsS n ag (unD l))) 1]⟩],[])
 | _=>none⟩
attribute [local go_sem] QDg
theorem Qk4{α:Type}{p:α→Bool}{xs:List α}{i:Nat}(h:i<xs.length)(d:α):(xs.take (i+1)).filter p=(xs.take i).filter p++(if p (xs.getD i d)then [xs.getD i d]else []):=by
 rw[Qf h d,List.filter_append,List.filter_cons,List.filter_nil]
theorem Qrj{ys:List (Int×Int)}(h:∀d∈ys,Qbv d){x:Int×Int}:x∈Qe1 ys↔x∈ys:=by
 unfold Qe1 QCi;rw[KQ];constructor
 ·rintro⟨a,ha,rfl⟩
  rw[List.mem_mergeSort]at ha;obtain⟨d,hd,rfl⟩:=KQ.1 ha;rw[Qnp (h d hd)];exact hd
 ·intro hx
  exact⟨toQ x,by rw[List.mem_mergeSort];exact KQ.2 ⟨x,hx,rfl⟩,Qnp (h x hx)⟩
theorem QCd:Qa E0 143 QDg:=by
 refine QG (E:=E0) (T:=mkT Tryz.prog [(154,Qak),(108,QdS),(105,QhO),(157,Qax),(149,QcL),(188,QeG),(190,Qkc)] false (fun _=>false) true (fun _=>false)) (Qd (E:=E0) (.cons QbW (.cons QfU (.cons QiN (.cons Qbe (.cons QcA (.cons QsB (.cons Qxq .nil)))))))) (fn:=Tryz.f143) Tryz.func143 kR rfl Qc kR rfl ?_
 intro args p rs ms hr;unfold QDg at hr;dsimp only at hr;split at hr;rotate_left
 ·cases hr
 rename_i l n ag;cases hr;refine⟨rfl,rfl,nLe rfl,?_⟩
 have hm:=mxE;rintro⟨h1,hl,hn1,hn2⟩ bs;obtain⟨ds,rfl,hx⟩:=h1.ex;clear h1;rw[Qg]at hl;rw[Qh];cases hv:QsT n ag
 ·have e:QsS n ag ds=ds:=by unfold QsS;rw[hv];rfl
  rw[e];clear e;have e3:(decide (n<1)||decide (n>5)|| !Ql n ag)=true:=by
   cases q:(decide (n<1)||decide (n>5)|| !Ql n ag)with
   | true=>rfl
   | false=>
    simp only[Kt,YL,Kl]at q
    unfold QsT at hv;rw[q.2,Yd,Kl]at hv;omega
  clear hv;(repeat' first|refine gA fun _=>?_|apply fkI<;>intro hb<;>try simp only[ew,e3]at hb|simp only[go_sem,simprocAttr, *])
  all_goals first|rfl|skip
 ·have e:QsS n ag ds=QEl n ag ds:=by unfold QsS;rw[hv];rfl
  rw[e];clear e;unfold QsT at hv;rw[KB,KK]at hv;obtain⟨n1,ha⟩:=hv;obtain⟨_,n5,g0,g31⟩:=Qq ha;have e3:(decide (n<1)||decide (n>5)|| !Ql n ag)=false:=by
   rw[ha,KW (show ¬n<1 by omega),KW (show ¬n>5 by omega)];rfl
  obtain⟨m,rfl⟩:=KL (show 0≤n by omega)
  have hF:=fun i=>@Qhb (m:Int) ag n5 (ds.take i)
  have e0:QfF (m:Int) ag (ds.take 0)=[]:=rfl
  clear ha;(repeat' first|refine gA fun _=>?_|apply fkI<;>intro hb<;>try simp only[ew,e3]at hb|simp only[go_sem,simprocAttr, *])
  refine lpI {ι:=Nat,rs:=[(9,11),(35,84)],mods:=[(34,fun i=> .one (.d (.v (.int .i64 i)))),(7,fun i=> .one (.own 2 (dL (QfF (m:Int) ag (ds.take i))) 1))],boxes:=[],arrs:=[],ok:=fun i=>i≤ds.length,mu:=fun i=>ds.length-i} rfl 0 (KJ _) ?_ fun i hi=>?_
  ·clear hF
   (repeat' first|refine gA fun _=>?_|apply fkI<;>intro hb<;>try simp only[ew,e0]at hb|simp only[go_sem,simprocAttr, *])
   all_goals first|rfl|skip
  ·dsimp only at i hi
   obtain⟨s1,s2⟩:=hF i;rw[KO]at s1;have s3:(QfF (m:Int) ag (ds.take i)).length≤5242880:=by omega
   have s4:(QfF (m:Int) ag (ds.take i)).length≤maxLen:=KF s3 (by decide)
   clear s1 hF
   by_cases h5:i<ds.length
   ·have eS:=QvZ (n:=(m:Int)) (ag:=ag) h5
    clear s2;generalize hP:QfF (m:Int) ag (ds.take i)=P at s3 s4 eS;generalize hg:ds.getD i (0,0)=g at eS;obtain⟨a,b⟩:=g;unfold Qv0 at eS;dsimp only at eS;cases hd:QO (m:Int) a b
    ·rw[hd,if_neg (by decide),KM]at eS
     (repeat' first|refine gA fun _=>?_|apply fkI<;>intro hb<;>try simp only[ew,hP,hg,hd]at hb|simp only[go_sem,simprocAttr, *,hd])
     refine lpQ (i+1) ?_
     (repeat' first|refine gA fun _=>?_|apply fkI<;>intro hb<;>try simp only[ew,hP,eS,hg,hd]at hb|simp only[go_sem,simprocAttr, *,hd])
    ·rw[hd,if_pos rfl,Qbw]at eS
     obtain⟨⟨a0,a31⟩,b0,b4⟩:=Qaz hd;cases hc:(!(QV .andNot .i64 a ag==0)||Qu ag b)
     ·rw[hc,if_neg (by decide),KE]at eS
      have eX:=fun c=>@Qlp ag (a,b) c
      have e1:P++QmX ag (a,b) 0=P:=KM _
      (repeat' first|refine gA fun _=>?_|apply fkI<;>intro hb<;>try simp only[ew,hP,hg,hd,hc]at hb|simp only[go_sem,simprocAttr, *,hd,hc])
      refine lpI {ι:=Nat,rs:=[(57,83)],mods:=[(10,fun c=> .one (.d (.v (.int .i64 c)))),(7,fun c=> .one (.own 2 (dL (P++QmX ag (a,b) c)) 1))],boxes:=[(9,fun _=>[.d (.v (.int .i64 a)),.d (.v (.int .i64 b))])],arrs:=[],ok:=fun c=>c≤m,mu:=fun c=>m-c} rfl 0 (KJ _) ?_ fun c hcm=>?_
      ·clear eX
       (repeat' first|refine gA fun _=>?_|apply fkI<;>intro hb<;>try simp only[ew,hP,hg,e1]at hb|simp only[go_sem,simprocAttr, *])
       all_goals first|rfl|skip
      ·dsimp only at c hcm
       have x1:=eX c
       have x2:(P++QmX ag (a,b) c).length≤5242885:=by rw[KN];omega
       have x3:(P++QmX ag (a,b) c).length≤maxLen:=KF x2 (by decide)
       clear eX x1
       by_cases h6:c<m
       ·have hpw:=p5 (c:=c) (by omega)
        have eE:P++QmX ag (a,b) (c+1)=(P++QmX ag (a,b) c)++(if !Qu ag (c:Nat)&&((c:Nat):Int)!=b then [(Qbp a (c:Nat),b)]else []):=by rw[QmX,Kn]
        have eo:QV .or .i64 a (1*2^c)=Qbp a (c:Nat):=by unfold Qbp;rw[KE]
        generalize hQ:P++QmX ag (a,b) c=Q at x2 x3 eE;cases hq:(!Qu ag (c:Nat)&&((c:Nat):Int)!=b)
        ·rw[hq,if_neg (by decide),KM]at eE
         (repeat' first|refine gA fun _=>?_|apply fkI<;>intro hb<;>try simp only[ew,hQ,hq]at hb|simp only[go_sem,simprocAttr, *,hq])
         refine lpQ (c+1) ?_
         (repeat' first|refine gA fun _=>?_|apply fkI<;>intro hb<;>try simp only[ew,hQ,eE,hq]at hb|simp only[go_sem,simprocAttr, *,hq])
        ·rw[hq,if_pos rfl]at eE
         (repeat' first|refine gA fun _=>?_|apply fkI<;>intro hb<;>try simp only[ew,Qi,hQ,hq,eo,Qm]at hb|simp only[go_sem,simprocAttr, *,Qi,hq,Qm])
         refine lpQ (c+1) ?_
         (repeat' first|refine gA fun _=>?_|apply fkI<;>intro hb<;>try simp only[ew,hQ,eE,hq,eo,Qm]at hb|simp only[go_sem,simprocAttr, *,hq,Qm])
       ·have e6:c=m:=by omega
        subst e6;(repeat' first|refine gA fun _=>?_|apply fkI<;>intro hb<;>try simp only[ew]at hb|simp only[go_sem,simprocAttr, *])
        refine lpQ (i+1) ?_
        (repeat' first|refine gA fun _=>?_|apply fkI<;>intro hb<;>try simp only[ew,eS]at hb|simp only[go_sem,simprocAttr, *])
     ·rw[hc,if_pos rfl]at eS
      (repeat' first|refine gA fun _=>?_|apply fkI<;>intro hb<;>try simp only[ew,hP,hg,hd,hc,Qm]at hb|simp only[go_sem,simprocAttr, *,hd,hc,Qm])
      refine lpQ (i+1) ?_
      (repeat' first|refine gA fun _=>?_|apply fkI<;>intro hb<;>try simp only[ew,hP,eS,hg,hd,hc,Qm]at hb|simp only[go_sem,simprocAttr, *,hd,hc,Qm])
   ·have e5:i=ds.length:=by omega
    subst e5;have eP:ds.take ds.length=ds:=KR
    rw[eP]at s2 s3 s4;have t1:=@Qjw (QfF (m:Int) ag ds)
    have t2:=Lib.compact_length_le (Qe1 (QfF (m:Int) ag ds))
    unfold QEl;generalize hS:QfF (m:Int) ag ds=S at s2 s3 s4 t1 t2 ⊢;have t3:(Qe1 S).length≤maxLen:=by omega
    have t4:(Qe1 S).length≤5242880:=by omega
    generalize hT:Qe1 S=T at t1 t2 t3 t4 ⊢;have t5:(Lib.compact T).length≤maxLen:=by omega
    have t6:(Lib.compact T).length≤5242880:=by omega
    generalize hZ:Lib.compact T=Z at t5 t6 ⊢;clear t1 t2;(repeat' first|refine gA fun _=>?_|apply fkI<;>intro hb<;>try simp only[ew,eP,hS,hT,hZ]at hb|simp only[go_sem,simprocAttr, *])
    refine lpI {ι:=Nat,rs:=[(13,15),(16,17),(92,129)],mods:=[(91,fun i=> .one (.d (.v (.int .i64 i)))),(11,fun i=> .one (.own 2 (dL ((Z.take i).filter fun d=>Z.all (Qmj d))) 1))],boxes:=[],arrs:=[(7,fun _=>(2,dL Z,1))],alis:=[(89,7)],ok:=fun i=>i≤Z.length,mu:=fun i=>Z.length-i} rfl 0 (KJ _) ?_ fun i hi=>?_
    ·clear s2
     (repeat' first|refine gA fun _=>?_|apply fkI<;>intro hb<;>try simp only[ew,eP,hS,hT,hZ]at hb|simp only[go_sem,simprocAttr, *])
     all_goals first|rfl|skip
    ·dsimp only at i hi
     clear s2 s3 s4 t3 t4;have o1:=K3 (fun d=>Z.all (Qmj d)) (Z.take i)
     rw[KO]at o1;have o2:((Z.take i).filter fun d=>Z.all (Qmj d)).length≤5242880:=by omega
     have o3:((Z.take i).filter fun d=>Z.all (Qmj d)).length≤maxLen:=KF o2 (by decide)
     clear o1
     by_cases h7:i<Z.length
     ·have eF:=Qk4 (p:=fun d=>Z.all (Qmj d)) h7 (0,0)
      generalize hO:(Z.take i).filter (fun d=>Z.all (Qmj d))=O at o2 o3 eF
      generalize hg:Z.getD i (0,0)=g at eF;obtain⟨a,b⟩:=g;(repeat' first|refine gA fun _=>?_|apply fkI<;>intro hb<;>try simp only[ew,hO,hg]at hb|simp only[go_sem,simprocAttr, *])
      refine lpI {ι:=Nat,rs:=[(16,17),(98,123)],mods:=[(97,fun k=> .one (.d (.v (.int .i64 k)))),(14,fun k=> .one (.d (.v (.bool ((Z.take k).all (Qmj (a,b)))))))],boxes:=[(13,fun _=>[.d (.v (.int .i64 a)),.d (.v (.int .i64 b))])],arrs:=[(7,fun _=>(2,dL Z,1)),(11,fun _=>(2,dL O,1))],alis:=[(89,7),(95,7)],ok:=fun k=>k≤Z.length,mu:=fun k=>Z.length-k} rfl 0 (KJ _) ?_ fun k hk=>?_
      ·(repeat' first|refine gA fun _=>?_|apply fkI<;>intro hb<;>try simp only[ew,hO,hg]at hb|simp only[go_sem,simprocAttr, *])
       all_goals first|rfl|skip
      ·dsimp only at k hk
       by_cases h8:k<Z.length
       ·have et:=QeF h8 (0,0) (Qmj (a,b))
        generalize hh:Z.getD k (0,0)=h at et;obtain⟨u,v⟩:=h;have em:Qmj (a,b) (u,v)=(((u,v)==(a,b)||v !=b)|| !(QV .andNot .i64 u a==0)):=rfl
        rw[em]at et;clear em eF;generalize hf:(Z.take k).all (Qmj (a,b))=b0 at et;cases b0
        ·rw[KT]at et
         (repeat' first|refine gA fun _=>?_|apply fkI<;>intro hb<;>try simp only[ew,hf,hh]at hb|simp only[go_sem,simprocAttr, *])
         refine lpQ (k+1) ?_
         (repeat' first|refine gA fun _=>?_|apply fkI<;>intro hb<;>try simp only[ew,hf,et,hh]at hb|simp only[go_sem,simprocAttr, *])
        ·rw[KY]at et
         cases q1:((u,v)==(a,b))
         ·rw[q1,K8]at et
          cases q2:(v !=b)
          ·rw[q2,K8]at et
           (repeat' first|refine gA fun _=>?_|apply fkI<;>intro hb<;>try simp only[ew,hf,hh,q1,q2]at hb|simp only[go_sem,simprocAttr, *,q1,q2])
           refine lpQ (k+1) ?_
           (repeat' first|refine gA fun _=>?_|apply fkI<;>intro hb<;>try simp only[ew,hf,et,hh,q1,q2]at hb|simp only[go_sem,simprocAttr, *,q1,q2])
          ·rw[q2,YC]at et
           (repeat' first|refine gA fun _=>?_|apply fkI<;>intro hb<;>try simp only[ew,hf,hh,q1,q2]at hb|simp only[go_sem,simprocAttr, *,q1,q2])
           refine lpQ (k+1) ?_
           (repeat' first|refine gA fun _=>?_|apply fkI<;>intro hb<;>try simp only[ew,hf,et,hh,q1,q2]at hb|simp only[go_sem,simprocAttr, *,q1,q2])
         ·rw[q1,YC,YC]at et
          (repeat' first|refine gA fun _=>?_|apply fkI<;>intro hb<;>try simp only[ew,hf,hh,q1]at hb|simp only[go_sem,simprocAttr, *,q1])
          refine lpQ (k+1) ?_
          (repeat' first|refine gA fun _=>?_|apply fkI<;>intro hb<;>try simp only[ew,hf,et,hh,q1]at hb|simp only[go_sem,simprocAttr, *,q1])
       ·have e8:k=Z.length:=by omega
        subst e8;have eZ:Z.take Z.length=Z:=KR
        cases hq:Z.all (Qmj (a,b))
        ·rw[hq,if_neg (by decide),KM]at eF
         (repeat' first|refine gA fun _=>?_|apply fkI<;>intro hb<;>try simp only[ew,eZ,hq]at hb|simp only[go_sem,simprocAttr, *,hq])
         refine lpQ (i+1) ?_
         (repeat' first|refine gA fun _=>?_|apply fkI<;>intro hb<;>try simp only[ew,hO,eZ,hq,eF]at hb|simp only[go_sem,simprocAttr, *,hq])
        ·rw[hq,if_pos rfl]at eF
         (repeat' first|refine gA fun _=>?_|apply fkI<;>intro hb<;>try simp only[ew,eZ,hq,Qm]at hb|simp only[go_sem,simprocAttr, *,hq,Qm])
         refine lpQ (i+1) ?_
         (repeat' first|refine gA fun _=>?_|apply fkI<;>intro hb<;>try simp only[ew,hO,eZ,hq,eF,Qm]at hb|simp only[go_sem,simprocAttr, *,hq,Qm])
     ·have e7:i=Z.length:=by omega
      subst e7;have eZ:Z.take Z.length=Z:=KR
      (repeat' first|refine gA fun _=>?_|apply fkI<;>intro hb<;>try simp only[ew,eZ]at hb|simp only[go_sem,simprocAttr, *])
      all_goals first|rfl|skip
end Go.Own
