/- Contracts. Conditions: as stated. -/
import Derived.Test.YtnmkpepdacbfaaaGreatDoorRp27
set_option linter.all false
set_option maxRecDepth 20000
set_option maxHeartbeats 2000000
namespace Go.Own
open Go Go.Proofs
attribute [local go_sem] Qbr Qak QhO Qy4 QDf Tryz.results78
theorem QCs{a b:Int}:unD [[D.v (.int .i64 a),D.v (.int .i64 b)]]=[(a,b)]:=rfl
theorem QCx{a b:Int}:WfD [[D.v (.int .i64 a),D.v (.int .i64 b)]]↔True:=by
 refine⟨fun _=>trivial,fun _=>⟨rfl,by show 1≤maxLen;decide⟩⟩
attribute [local go_sem] Qh Qg Qae Qag Qaf Qaj Qa7 Qd1 Qv Qa6 QCs QCx
theorem Qk1{ag:Int}{d:Int×Int}{K:List (Int×Int)}:∀{k:Nat},(QhL ag d K k).length≤K.length+k
 | 0=>KP _
 | k+1=>by
  have:=@Qk1 ag d K k
  rw[QhL,KN];split<;>simp<;>omega
theorem Qps{m:Nat}{ag:Int}:∀{B K:List (Int×Int)},(Qmf m ag K B).length≤K.length+B.length*m
 | [],K=>by simp[Qmf]
 | b::B,K=>by
  have h1:=@Qps m ag B (QhL ag b K m)
  have h2:=@Qk1 ag b K m
  have e:Qmf m ag K (b::B)=Qmf m ag (QhL ag b K m) B:=rfl
  rw[e,List.length_cons,YD];omega
theorem Qs3{m:Nat}{ag:Int}{K B:List (Int×Int)}{i:Nat}(h:i<B.length):Qmf m ag K (B.take (i+1))=QhL ag (B.getD i (0,0)) (Qmf m ag K (B.take i)) m:=by
 unfold Qmf;rw[Qf h (0,0),YW];rfl
theorem QqE{K:List (Int×Int)}:∀{i:Nat},(Qnk K i).length≤i
 | 0=>KP _
 | i+1=>by
  have:=@QqE K i
  rw[Qnk,KN];split<;>simp<;>omega
def QtJ:Qb:=⟨[],false,fun
 | [.one (.sl 2 l),.one (.v (.int .i64 n)),.one (.v (.int .i64 ag))]=>some (WfD l∧l.length≤1048576∧ -9223372036854775808≤n∧n≤9223372036854775807,[⟨false,[.own 2 (dL (QyO n ag (unD l))) 1]⟩],[])
 | _=>none⟩
attribute [local go_sem] QtJ
theorem QCe:Qa E0 78 QtJ:=by
 refine QG (E:=E0) (T:=mkT Tryz.prog [(62,Qbr),(66,Qak),(82,QhO),(121,Qy4),(122,QDf)] false (fun _=>false) true (fun _=>false)) (Qd (E:=E0) (.cons QcD (.cons Qcq (.cons Qfm (.cons Qt5 (.cons QEe .nil)))))) (fn:=Tryz.f78) Tryz.func78 kR rfl Qc kR rfl ?_
 intro args p rs ms hr;unfold QtJ at hr;dsimp only at hr;split at hr;rotate_left
 ·cases hr
 rename_i l n ag;cases hr;refine⟨rfl,rfl,nLe rfl,?_⟩
 have hm:=mxE;rintro⟨h1,hl,hn1,hn2⟩ bs;obtain⟨ds,rfl,hx⟩:=h1.ex;clear h1;rw[Qg]at hl;rw[Qh];cases hv:QsT n ag
 ·have e:QyO n ag ds=ds:=by unfold QyO;rw[hv];rfl
  rw[e];clear e;have e0:dL []=[]:=rfl
  have e3:(!inB n 1 5|| !Ql n ag)=true:=by
   cases q:(!inB n 1 5|| !Ql n ag)with
   | true=>rfl
   | false=>
    simp only[Kt,YL]at q
    unfold QsT at hv;rw[Qj]at q;rw[q.2,Yd,Kl]at hv;omega
  clear hv;(repeat' first|refine gA fun _=>?_|apply fkI<;>intro hb<;>try simp only[ew,e3]at hb|simp only[go_sem,simprocAttr, *])
  all_goals first|rfl|skip
 ·have e:QyO n ag ds=s17 (Qnk (QjR n ag ds) (QjR n ag ds).length) (Q8 n) n.toNat:=by unfold QyO;rw[hv];rfl
  rw[e];clear e;unfold QsT at hv;rw[KB,KK]at hv;obtain⟨n1,ha⟩:=hv;obtain⟨_,n5,g0,g31⟩:=Qq ha;have e3:(!inB n 1 5|| !Ql n ag)=false:=by rw[Qj.2 ⟨n1,n5⟩,ha];rfl
  obtain⟨m,rfl⟩:=KL (show 0≤n by omega)
  unfold QjR;rw[KE];clear ha;have e0:dL []=[]:=rfl
  (repeat' first|refine gA fun _=>?_|apply fkI<;>intro hb<;>try simp only[ew,e3,e0]at hb|simp only[go_sem,simprocAttr, *])
  refine lpI {ι:=Nat,rs:=[(31,83)],mods:=[(9,fun i=> .one (.d (.v (.int .i64 i)))),(7,fun i=> .one (.own 2 (dL ((ds.take i).filter fun d=> !Qgw m ag d)) 1)),(8,fun i=> .one (.own 2 (dL ((ds.take i).filter (Qgw m ag))) 1))],boxes:=[],arrs:=[],ok:=fun i=>i≤ds.length,mu:=fun i=>ds.length-i} rfl 0 (KJ _) ?_ fun i hi=>?_
  ·(repeat' first|refine gA fun _=>?_|apply fkI<;>intro hb<;>try simp only[ew,e0,Kw,List.filter_nil]at hb|simp only[go_sem,simprocAttr, *,Kw,List.filter_nil])
   all_goals first|rfl|skip
  ·dsimp only at i hi
   have s1:=K3 (fun d=> !Qgw (m:Int) ag d) (ds.take i)
   have s2:=K3 (Qgw (m:Int) ag) (ds.take i)
   rw[KO]at s1 s2
   by_cases h5:i<ds.length
   ·have eK:=Qk4 (p:=fun d=> !Qgw (m:Int) ag d) h5 (0,0)
    have eB:=Qk4 (p:=Qgw (m:Int) ag) h5 (0,0)
    generalize hP:(ds.take i).filter (fun d=> !Qgw (m:Int) ag d)=P at s1 eK
    generalize hQ:(ds.take i).filter (Qgw (m:Int) ag)=Q at s2 eB;have p1:P.length≤maxLen:=by
      have:P.length≤1048576:=by omega
      exact KF this (by decide)
    have p2:P.length≤1048576:=by omega
    have p3:Q.length≤maxLen:=by
      have:Q.length≤1048576:=by omega
      exact KF this (by decide)
    have p4:Q.length≤1048576:=by omega
    clear s1 s2;generalize hg:ds.getD i (0,0)=g at eK eB;obtain⟨a,b⟩:=g;have hbrk:Qgw (m:Int) ag (a,b)=(QO (m:Int) a b&&(QV .and .i64 ag a==a)&&(QV .and .i64 (ag.fdiv (2^b.toNat)) 1==0)):=rfl
    rw[hbrk]at eK eB;clear hbrk;cases hd:QO (m:Int) a b
    ·rw[hd,KT,KT,if_pos (by decide)]at eK
     rw[hd,KT,KT,if_neg (by decide),KM]at eB
     (repeat' first|refine gA fun _=>?_|apply fkI<;>intro hb<;>try simp only[ew,hP,hQ,hg,hd,Qm]at hb|simp only[go_sem,simprocAttr, *,hd,Qm])
     refine lpQ (i+1) ?_
     (repeat' first|refine gA fun _=>?_|apply fkI<;>intro hb<;>try simp only[ew,hP,hQ,eK,eB,hg,hd,Qm]at hb|simp only[go_sem,simprocAttr, *,hd,Qm])
    ·obtain⟨⟨a0,a31⟩,b0,b4⟩:=Qaz hd
     rw[hd,KY]at eK eB;cases hA:(QV .and .i64 ag a==a)
     ·rw[hA,KT,if_pos (by decide)]at eK
      rw[hA,KT,if_neg (by decide),KM]at eB
      (repeat' first|refine gA fun _=>?_|apply fkI<;>intro hb<;>try simp only[ew,hP,hQ,hg,hd,hA,Qm]at hb|simp only[go_sem,simprocAttr, *,hd,hA,Qm])
      refine lpQ (i+1) ?_
      (repeat' first|refine gA fun _=>?_|apply fkI<;>intro hb<;>try simp only[ew,hP,hQ,eK,eB,hg,hd,hA,Qm]at hb|simp only[go_sem,simprocAttr, *,hd,hA,Qm])
     ·rw[hA,KY]at eK eB
      cases hz:(QV .and .i64 (ag.fdiv (2^b.toNat)) 1==0)
      ·rw[hz,if_pos (by decide)]at eK
       rw[hz,if_neg (by decide),KM]at eB
       (repeat' first|refine gA fun _=>?_|apply fkI<;>intro hb<;>try simp only[ew,Qi,hP,hQ,hg,hd,hA,hz,Qm]at hb|simp only[go_sem,simprocAttr, *,Qi,hd,hA,hz,Qm])
       refine lpQ (i+1) ?_
       (repeat' first|refine gA fun _=>?_|apply fkI<;>intro hb<;>try simp only[ew,hP,hQ,eK,eB,hg,hd,hA,hz,Qm]at hb|simp only[go_sem,simprocAttr, *,hd,hA,hz,Qm])
      ·rw[hz,if_neg (by decide),KM]at eK
       rw[hz,if_pos rfl]at eB;(repeat' first|refine gA fun _=>?_|apply fkI<;>intro hb<;>try simp only[ew,Qi,hP,hQ,hg,hd,hA,hz,Qm]at hb|simp only[go_sem,simprocAttr, *,Qi,hd,hA,hz,Qm])
       refine lpQ (i+1) ?_
       (repeat' first|refine gA fun _=>?_|apply fkI<;>intro hb<;>try simp only[ew,hP,hQ,eK,eB,hg,hd,hA,hz,Qm]at hb|simp only[go_sem,simprocAttr, *,hd,hA,hz,Qm])
   ·have e5:i=ds.length:=by omega
    subst e5;have eP:ds.take ds.length=ds:=KR
    rw[eP]at s1 s2;have hBR:∀d∈ds.filter (Qgw (m:Int) ag),Qbv d:=fun d hd=>Qaz (QfN (Ku.1 hd).2)
    generalize hP:ds.filter (fun d=> !Qgw (m:Int) ag d)=P at s1 ⊢
    generalize hB:ds.filter (Qgw (m:Int) ag)=B at s2 hBR ⊢;have p2:P.length≤1048576:=by omega
    have p4:B.length≤1048576:=by omega
    have p1:P.length≤maxLen:=KF p2 (by decide)
    have p3:B.length≤maxLen:=KF p4 (by decide)
    clear s1 s2 hi;have hal:=fun i=>@Qps m ag (B.take i) P
    have e1:Qmf m ag P (B.take 0)=P:=rfl
    (repeat' first|refine gA fun _=>?_|apply fkI<;>intro hb<;>try simp only[ew,eP,hP,hB]at hb|simp only[go_sem,simprocAttr, *])
    refine lpI {ι:=Nat,rs:=[(11,13),(83,129)],mods:=[(10,fun i=> .one (.d (.v (.int .i64 i)))),(7,fun i=> .one (.own 2 (dL (Qmf m ag P (B.take i))) 1))],boxes:=[],arrs:=[(8,fun _=>(2,dL B,1))],ok:=fun i=>i≤B.length,mu:=fun i=>B.length-i} rfl 0 (KJ _) ?_ fun i hi=>?_
    ·clear hal hBR
     (repeat' first|refine gA fun _=>?_|apply fkI<;>intro hb<;>try simp only[ew,e1]at hb|simp only[go_sem,simprocAttr, *])
     all_goals first|rfl|skip
    ·dsimp only at i hi
     have l1:=hal i
     rw[KO]at l1;have l2:(Qmf m ag P (B.take i)).length≤6291456:=by
      refine KF l1 ?_
      have h1:min i B.length*m≤1048576*5:=Nat.mul_le_mul (by omega) (by omega)
      omega
     have l3:(Qmf m ag P (B.take i)).length≤maxLen:=KF l2 (by decide)
     clear l1
     by_cases h6:i<B.length
     ·have eS:=Qs3 (m:=m) (ag:=ag) (K:=P) h6
      obtain⟨⟨a0,a31⟩,b0,b4⟩:=hBR _ (QE h6 (0,0));clear hal hBR;generalize hQ:Qmf m ag P (B.take i)=Q at l2 l3 eS;generalize hg:B.getD i (0,0)=g at eS a0 a31 b0 b4;obtain⟨a,b⟩:=g;dsimp only at a0 a31 b0 b4;have e2:QhL ag (a,b) Q 0=Q:=rfl
      have hkl:=fun k=>@Qk1 ag (a,b) Q k
      (repeat' first|refine gA fun _=>?_|apply fkI<;>intro hb<;>try simp only[ew,hQ]at hb|simp only[go_sem,simprocAttr, *])
      refine lpI {ι:=Nat,rs:=[(12,13),(89,129)],mods:=[(11,fun k=> .one (.d (.v (.int .i64 k)))),(7,fun k=> .one (.own 2 (dL (QhL ag (a,b) Q k)) 1))],boxes:=[],arrs:=[(8,fun _=>(2,dL B,1))],ok:=fun k=>k≤m,mu:=fun k=>m-k} rfl 0 (KJ _) ?_ fun k hk=>?_
      ·clear hkl
       (repeat' first|refine gA fun _=>?_|apply fkI<;>intro hb<;>try simp only[ew,hQ,e2]at hb|simp only[go_sem,simprocAttr, *])
       all_goals first|rfl|skip
      ·dsimp only at k hk
       have x1:=hkl k
       have x2:(QhL ag (a,b) Q k).length≤6291461:=by omega
       have x3:(QhL ag (a,b) Q k).length≤maxLen:=KF x2 (by decide)
       clear hkl x1
       by_cases h7:k<m
       ·have hpw:=p5 (c:=k) (by omega)
        have eE:QhL ag (a,b) Q (k+1)=QhL ag (a,b) Q k++(if(QV .and .i64 (ag.fdiv (2^k)) 1==0)&&((k:Nat):Int)!=b&& !cov (QhL ag (a,b) Q k) (Qbp a (k:Nat),b)then [(Qbp a (k:Nat),b)]else []):=rfl
        have eo:QV .or .i64 a (1*2^k)=Qbp a (k:Nat):=by unfold Qbp;rw[KE]
        generalize hT:QhL ag (a,b) Q k=T at x2 x3 eE;generalize hu:Qbp a (k:Nat)=u at eo eE;cases hA:(QV .and .i64 (ag.fdiv (2^k)) 1==0)
        ·rw[hA,KT,KT,if_neg (by decide),KM]at eE
         (repeat' first|refine gA fun _=>?_|apply fkI<;>intro hb<;>try simp only[ew,Qi,hT,hg,hA,eo]at hb|simp only[go_sem,simprocAttr, *,Qi,hA])
         refine lpQ (k+1) ?_
         (repeat' first|refine gA fun _=>?_|apply fkI<;>intro hb<;>try simp only[ew,hT,eE,hA,eo]at hb|simp only[go_sem,simprocAttr, *,hA])
        ·rw[hA,KY]at eE
         cases hC:(((k:Nat):Int)!=b)
         ·rw[hC,KT,if_neg (by decide),KM]at eE
          (repeat' first|refine gA fun _=>?_|apply fkI<;>intro hb<;>try simp only[ew,Qi,hT,hg,hA,hC,eo]at hb|simp only[go_sem,simprocAttr, *,Qi,hA,hC])
          refine lpQ (k+1) ?_
          (repeat' first|refine gA fun _=>?_|apply fkI<;>intro hb<;>try simp only[ew,hT,eE,hA,hC,eo]at hb|simp only[go_sem,simprocAttr, *,hA,hC])
         ·rw[hC,KY]at eE
          cases hD:cov T (u,b)
          ·rw[hD,if_pos (show(!false)=true from rfl)]at eE
           (repeat' first|refine gA fun _=>?_|apply fkI<;>intro hb<;>try simp only[ew,Qi,hT,hg,hA,hC,hD,eo,Qm]at hb|simp only[go_sem,simprocAttr, *,Qi,hA,hC,hD,Qm])
           refine lpQ (k+1) ?_
           (repeat' first|refine gA fun _=>?_|apply fkI<;>intro hb<;>try simp only[ew,hT,eE,hA,hC,hD,eo,Qm]at hb|simp only[go_sem,simprocAttr, *,hA,hC,hD,Qm])
          ·rw[hD,if_neg (by decide),KM]at eE
           (repeat' first|refine gA fun _=>?_|apply fkI<;>intro hb<;>try simp only[ew,Qi,hT,hg,hA,hC,hD,eo]at hb|simp only[go_sem,simprocAttr, *,Qi,hA,hC,hD])
           refine lpQ (k+1) ?_
           (repeat' first|refine gA fun _=>?_|apply fkI<;>intro hb<;>try simp only[ew,hT,eE,hA,hC,hD,eo]at hb|simp only[go_sem,simprocAttr, *,hA,hC,hD])
       ·have e7:k=m:=by omega
        subst e7;(repeat' first|refine gA fun _=>?_|apply fkI<;>intro hb<;>try simp only[ew]at hb|simp only[go_sem,simprocAttr, *])
        refine lpQ (i+1) ?_
        (repeat' first|refine gA fun _=>?_|apply fkI<;>intro hb<;>try simp only[ew,hQ,eS]at hb|simp only[go_sem,simprocAttr, *])
     ·have e6:i=B.length:=by omega
      subst e6;have eB:B.take B.length=B:=KR
      rw[eB]at l2 l3;clear hal hBR;generalize hK:Qmf m ag P B=K at l2 l3 ⊢;have hll:=fun i=>@QqE K i
      have e4:Qnk K 0=[]:=rfl
      (repeat' first|refine gA fun _=>?_|apply fkI<;>intro hb<;>try simp only[ew,eB,hK,e0]at hb|simp only[go_sem,simprocAttr, *])
      refine lpI {ι:=Nat,rs:=[(15,17),(130,185)],mods:=[(14,fun i=> .one (.d (.v (.int .i64 i)))),(13,fun i=> .one (.own 2 (dL (Qnk K i)) 1))],boxes:=[],arrs:=[(7,fun _=>(2,dL K,1))],ok:=fun i=>i≤K.length,mu:=fun i=>K.length-i} rfl 0 (KJ _) ?_ fun i hi=>?_
      ·clear hll
       (repeat' first|refine gA fun _=>?_|apply fkI<;>intro hb<;>try simp only[ew,e4,e0]at hb|simp only[go_sem,simprocAttr, *])
       all_goals first|rfl|skip
      ·dsimp only at i hi
       have o1:=hll i
       have o2:(Qnk K i).length≤6291456:=by omega
       have o3:(Qnk K i).length≤maxLen:=KF o2 (by decide)
       clear hll o1
       by_cases h8:i<K.length
       ·have eW:Qnk K (i+1)=Qnk K i++(if QgN K i K.length then [K.getD i (0,0)]else []):=rfl
        have eF0:QgN K i 0=true:=rfl
        generalize hO:Qnk K i=O at o2 o3 eW;generalize hg:K.getD i (0,0)=g at eW;obtain⟨a,b⟩:=g;(repeat' first|refine gA fun _=>?_|apply fkI<;>intro hb<;>try simp only[ew,hO,hg]at hb|simp only[go_sem,simprocAttr, *])
        refine lpI {ι:=Nat,rs:=[(136,177)],mods:=[(16,fun k=> .one (.d (.v (.int .i64 k)))),(15,fun k=> .one (.d (.v (.bool (QgN K i k)))))],boxes:=[],arrs:=[(7,fun _=>(2,dL K,1)),(13,fun _=>(2,dL O,1))],ok:=fun k=>k≤K.length,mu:=fun k=>K.length-k} rfl 0 (KJ _) ?_ fun k hk=>?_
        ·(repeat' first|refine gA fun _=>?_|apply fkI<;>intro hb<;>try simp only[ew,hO,hg,eF0]at hb|simp only[go_sem,simprocAttr, *])
         all_goals first|rfl|skip
        ·dsimp only at k hk
         by_cases h9:k<K.length
         ·have et:QgN K i (k+1)=(QgN K i k&&Qr8 K i k):=rfl
          unfold Qr8 at et;rw[hg]at et;generalize hh:K.getD k (0,0)=h at et;obtain⟨u,v⟩:=h;clear eW;generalize hf:QgN K i k=b0 at et;cases b0
          ·rw[KT]at et
           (repeat' first|refine gA fun _=>?_|apply fkI<;>intro hb<;>try simp only[ew,hf,hh,hg]at hb|simp only[go_sem,simprocAttr, *])
           refine lpQ (k+1) ?_
           (repeat' first|refine gA fun _=>?_|apply fkI<;>intro hb<;>try simp only[ew,hf,et,hh,hg]at hb|simp only[go_sem,simprocAttr, *])
          ·rw[KY]at et
           cases q1:((k:Int)==(i:Int))
           ·rw[q1,K8]at et
            cases q2:cov [(u,v)] (a,b)
            ·rw[q2,YU,YC]at et
             (repeat' first|refine gA fun _=>?_|apply fkI<;>intro hb<;>try simp only[ew,hf,hh,hg,q1,q2]at hb|simp only[go_sem,simprocAttr, *,q1,q2])
             refine lpQ (k+1) ?_
             (repeat' first|refine gA fun _=>?_|apply fkI<;>intro hb<;>try simp only[ew,hf,et,hh,hg,q1,q2]at hb|simp only[go_sem,simprocAttr, *,q1,q2])
            ·rw[q2,YV,K8]at et
             cases q3:((u,v)==(a,b))
             ·rw[q3,KT]at et
              (repeat' first|refine gA fun _=>?_|apply fkI<;>intro hb<;>try simp only[ew,hf,hh,hg,q1,q2,q3]at hb|simp only[go_sem,simprocAttr, *,q1,q2,q3])
              refine lpQ (k+1) ?_
              (repeat' first|refine gA fun _=>?_|apply fkI<;>intro hb<;>try simp only[ew,hf,et,hh,hg,q1,q2,q3]at hb|simp only[go_sem,simprocAttr, *,q1,q2,q3])
             ·rw[q3,KY]at et
              cases q4:decide ((k:Int)>(i:Int))
              ·rw[q4]at et
               (repeat' first|refine gA fun _=>?_|apply fkI<;>intro hb<;>try simp only[ew,hf,hh,hg,q1,q2,q3,q4]at hb|simp only[go_sem,simprocAttr, *,q1,q2,q3,q4])
               refine lpQ (k+1) ?_
               (repeat' first|refine gA fun _=>?_|apply fkI<;>intro hb<;>try simp only[ew,hf,et,hh,hg,q1,q2,q3,q4]at hb|simp only[go_sem,simprocAttr, *,q1,q2,q3,q4])
               all_goals first|rfl|(simp only[KK,Kl]at q4;omega)
              ·rw[q4]at et
               (repeat' first|refine gA fun _=>?_|apply fkI<;>intro hb<;>try simp only[ew,hf,hh,hg,q1,q2,q3,q4]at hb|simp only[go_sem,simprocAttr, *,q1,q2,q3,q4])
               refine lpQ (k+1) ?_
               (repeat' first|refine gA fun _=>?_|apply fkI<;>intro hb<;>try simp only[ew,hf,et,hh,hg,q1,q2,q3,q4]at hb|simp only[go_sem,simprocAttr, *,q1,q2,q3,q4])
               all_goals first|rfl|(simp only[KK,Kl]at q4;omega)
           ·rw[q1,YC,YC]at et
            (repeat' first|refine gA fun _=>?_|apply fkI<;>intro hb<;>try simp only[ew,hf,hh,hg,q1]at hb|simp only[go_sem,simprocAttr, *,q1])
            refine lpQ (k+1) ?_
            (repeat' first|refine gA fun _=>?_|apply fkI<;>intro hb<;>try simp only[ew,hf,et,hh,hg,q1]at hb|simp only[go_sem,simprocAttr, *,q1])
         ·have e8:k=K.length:=by omega
          subst e8;cases hq:QgN K i K.length
          ·rw[hq,if_neg (by decide),KM]at eW
           (repeat' first|refine gA fun _=>?_|apply fkI<;>intro hb<;>try simp only[ew,hq]at hb|simp only[go_sem,simprocAttr, *,hq])
           refine lpQ (i+1) ?_
           (repeat' first|refine gA fun _=>?_|apply fkI<;>intro hb<;>try simp only[ew,hO,hq,eW]at hb|simp only[go_sem,simprocAttr, *,hq])
          ·rw[hq,if_pos rfl]at eW
           (repeat' first|refine gA fun _=>?_|apply fkI<;>intro hb<;>try simp only[ew,hq,hg,Qm]at hb|simp only[go_sem,simprocAttr, *,hq,Qm])
           refine lpQ (i+1) ?_
           (repeat' first|refine gA fun _=>?_|apply fkI<;>intro hb<;>try simp only[ew,hO,hq,hg,eW,Qm]at hb|simp only[go_sem,simprocAttr, *,hq,Qm])
       ·have e9:i=K.length:=by omega
        subst e9;exact gQ
end Go.Own
