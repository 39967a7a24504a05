/- Own contracts. Conditions: as each theorem states them. -/
import Derived.Test.YtnmkpepdacbfaaaGreatDoorRr26
import Derived.Test.YtnmkpepdacbfaaaGreatDoorRr27
set_option linter.unusedSimpArgs false
set_option linter.unusedVariables false
set_option maxRecDepth 20000
set_option maxHeartbeats 2000000
namespace Go.Own
open Go Go.Proofs
attribute [local go_sem] Qak Qc1 Qlw Qaj Qcf QdM Qid Tryz.results143
attribute [local go_sem] Qm Qc QZ Q1 Q0 Q3 QaH Qdb Qr QaG
def Qku(ag:Int)(d:Int×Int):Nat→List (Int×Int)
 | 0=>[]
 | k+1=>Qku ag d k++(if !Qy ag (k:Nat)&&((k:Nat):Int)!=d.2 then [(QbI d.1 (k:Nat),d.2)]else [])
def QsD(n ag:Int)(d:Int×Int):List (Int×Int):=if Q2 n d.1 d.2 then(if !Qal d.1 ag||Qy ag d.2 then [d]else Qku ag d n.toNat)else []
def Qey(n ag:Int)(ds:List (Int×Int)):List (Int×Int):=ds.flatMap (QsD n ag)
def Qj1(d e:Int×Int):Bool:=(e==d||e.2 !=d.2)|| !Qal e.1 d.1
def QAV(n ag:Int)(ds:List (Int×Int)):List (Int×Int):=(Lib.compact (Qd1 (Qey n ag ds))).filter fun d=>(Lib.compact (Qd1 (Qey n ag ds))).all (Qj1 d)
def Qvr(n ag:Int):Bool:=decide (1≤n)&&Qj n ag
def QpD(n ag:Int)(ds:List (Int×Int)):List (Int×Int):=if Qvr n ag then QAV n ag ds else ds
theorem Qjc{ag:Int}{d:Int×Int}:∀{k:Nat},(Qku ag d k).length≤k
 | 0=>Nat.le_refl _
 | k+1=>by
  have:=@Qjc ag d k
  rw[Qku,List.length_append];split<;>simp<;>omega
theorem Qv4{ag:Int}{d:Int×Int}(hd:Qbo d):∀{k:Nat},k≤5→∀e∈Qku ag d k,Qbo e
 | 0,_,e,he=>by cases he
 | k+1,h,e,he=>by
  rw[Qku]at he;rcases List.mem_append.1 he with he|he
  ·exact Qv4 hd (by omega) e he
  ·split at he
   ·rw[List.mem_singleton]at he
    rw[he];exact⟨Qdf hd.1 ⟨by omega,by omega⟩,hd.2⟩
   ·cases he
theorem Qpq{n ag:Int}(hn:n≤5){d:Int×Int}:(QsD n ag d).length≤5∧∀e∈QsD n ag d,Qbo e:=by
 unfold QsD;split
 ·rename_i h
  have hd:=QaL h
  split
  ·exact⟨by simp,fun e he=>by rw[List.mem_singleton]at he;rw[he];exact hd⟩
  ·exact⟨Nat.le_trans Qjc (by omega),Qv4 hd (by omega)⟩
 ·simp
theorem QsC{n ag:Int}{ds:List (Int×Int)}{i:Nat}(h:i<ds.length):Qey n ag (ds.take (i+1))=Qey n ag (ds.take i)++QsD n ag (ds.getD i (0,0)):=by
 unfold Qey;rw[Qk h (0,0),List.flatMap_append];simp
theorem QfQ{n ag:Int}(hn:n≤5):∀{ds:List (Int×Int)},(Qey n ag ds).length≤5*ds.length∧∀e∈Qey n ag ds,Qbo e
 | []=>by simp[Qey]
 | d::ds=>by
  obtain⟨h1,h2⟩:=@QfQ n ag hn ds;obtain⟨k1,k2⟩:=@Qpq n ag hn d;unfold Qey at *;rw[List.flatMap_cons,List.length_append,List.length_cons];refine⟨by omega,fun e he=>?_⟩
  rcases List.mem_append.1 he with he|he
  ·exact k2 e he
  ·exact h2 e he
def QzN:Qb:=⟨[],false,fun
 | [.one (.sl 2 l),.one (.v (.int .i64 n)),.one (.v (.int .i64 ag))]=>some (WfD l∧l.length≤1048576∧ -9223372036854775808≤n∧n≤9223372036854775807,[⟨false,[.own 2 (dL (QpD n ag (unD l))) 1]⟩],[])
 | _=>none⟩
attribute [local go_sem] QzN
theorem Qtt{α:Type}{p:α→Bool}{xs:List α}{i:Nat}(h:i<xs.length)(d:α):(xs.take (i+1)).filter p=(xs.take i).filter p++(if p (xs.getD i d)then [xs.getD i d]else []):=by
 rw[Qk h d,List.filter_append,List.filter_cons,List.filter_nil]
theorem Qn9{ys:List (Int×Int)}(h:∀d∈ys,Qbo d){x:Int×Int}:x∈Qd1 ys↔x∈ys:=by
 unfold Qd1 QyN;rw[List.mem_map];constructor
 ·rintro⟨a,ha,rfl⟩
  rw[List.mem_mergeSort]at ha;obtain⟨d,hd,rfl⟩:=List.mem_map.1 ha;rw[QkJ (h d hd)];exact hd
 ·intro hx
  exact⟨toQ x,by rw[List.mem_mergeSort];exact List.mem_map.2 ⟨x,hx,rfl⟩,QkJ (h x hx)⟩
theorem QyJ:Qa E0 143 QzN:=by
 refine QV (E:=E0) (T:=mkT Tryz.prog [(154,Qak),(108,Qc1),(105,Qlw),(157,Qaj),(149,Qcf),(188,QdM),(190,Qid)] false (fun _=>false) true (fun _=>false)) (Qf (E:=E0) (.cons Qbv (.cons QeH (.cons Qg4 (.cons QaN (.cons Qb8 (.cons Qpn (.cons Qt2 .nil)))))))) (fn:=Tryz.f143) Tryz.func143 (by kernel_rfl) rfl Qe (by kernel_rfl) rfl ?_
 intro args p rs ms hr;unfold QzN at hr;dsimp only at hr;split at hr;rotate_left
 ·cases hr
 rename_i l n ag;cases hr;refine⟨rfl,rfl,nLe rfl,?_⟩
 have hm:=mxE;rintro⟨h1,hl,hn1,hn2⟩ bs;obtain⟨ds,rfl,hx⟩:=h1.ex;clear h1;rw[Qc]at hl;rw[Qm];cases hv:Qvr n ag
 ·have e:QpD n ag ds=ds:=by unfold QpD;rw[hv];rfl
  rw[e];clear e;have e3:(decide (n<1)||decide (n>5)|| !Qj n ag)=true:=by
   cases q:(decide (n<1)||decide (n>5)|| !Qj n ag)with
   | true=>rfl
   | false=>
    simp only[Bool.or_eq_false_iff,Bool.not_eq_false',decide_eq_false_iff_not]at q
    unfold Qvr at hv;rw[q.2,Bool.and_true,decide_eq_false_iff_not]at hv;omega
  clear hv;(repeat' first|refine gA fun _=>?_|apply fkI<;>intro hb<;>try simp only[ew,e3]at hb|simp only[go_sem,simprocAttr, *])
  all_goals first|rfl|skip
 ·have e:QpD n ag ds=QAV n ag ds:=by unfold QpD;rw[hv];rfl
  rw[e];clear e;unfold Qvr at hv;rw[Bool.and_eq_true,decide_eq_true_eq]at hv;obtain⟨n1,ha⟩:=hv;obtain⟨_,n5,g0,g31⟩:=Qt ha;have e3:(decide (n<1)||decide (n>5)|| !Qj n ag)=false:=by
   rw[ha,decide_eq_false (show ¬n<1 by omega),decide_eq_false (show ¬n>5 by omega)];rfl
  obtain⟨m,rfl⟩:=Int.eq_ofNat_of_zero_le (show 0≤n by omega)
  have hF:=fun i=>@QfQ (m:Int) ag n5 (ds.take i)
  have e0:Qey (m:Int) ag (ds.take 0)=[]:=rfl
  clear ha;(repeat' first|refine gA fun _=>?_|apply fkI<;>intro hb<;>try simp only[ew,e3]at hb|simp only[go_sem,simprocAttr, *])
  refine lpI {ι:=Nat,rs:=[(9,11),(35,84)],mods:=[(34,fun i=> .one (.d (.v (.int .i64 i)))),(7,fun i=> .one (.own 2 (dL (Qey (m:Int) ag (ds.take i))) 1))],boxes:=[],arrs:=[],ok:=fun i=>i≤ds.length,mu:=fun i=>ds.length-i} rfl 0 (Nat.zero_le _) ?_ fun i hi=>?_
  ·clear hF
   (repeat' first|refine gA fun _=>?_|apply fkI<;>intro hb<;>try simp only[ew,e0]at hb|simp only[go_sem,simprocAttr, *])
   all_goals first|rfl|skip
  ·dsimp only at i hi
   obtain⟨s1,s2⟩:=hF i;rw[List.length_take]at s1;have s3:(Qey (m:Int) ag (ds.take i)).length≤5242880:=by omega
   have s4:(Qey (m:Int) ag (ds.take i)).length≤maxLen:=Nat.le_trans s3 (by decide)
   clear s1 hF
   by_cases h5:i<ds.length
   ·have eS:=QsC (n:=(m:Int)) (ag:=ag) h5
    clear s2;generalize hP:Qey (m:Int) ag (ds.take i)=P at s3 s4 eS;generalize hg:ds.getD i (0,0)=g at eS;obtain⟨a,b⟩:=g;unfold QsD at eS;dsimp only at eS;cases hd:Q2 (m:Int) a b
    ·rw[hd,if_neg (by decide),List.append_nil]at eS
     (repeat' first|refine gA fun _=>?_|apply fkI<;>intro hb<;>try simp only[ew,hP,hg,hd]at hb|simp only[go_sem,simprocAttr, *,hd])
     refine lpN (i+1) (by dsimp only;omega) (by dsimp only;omega) ?_
     (repeat' first|refine gA fun _=>?_|apply fkI<;>intro hb<;>try simp only[ew,hP,eS,hg,hd]at hb|simp only[go_sem,simprocAttr, *,hd])
    ·rw[hd,if_pos rfl,Qa0]at eS
     obtain⟨⟨a0,a31⟩,b0,b4⟩:=QaL hd;cases hc:(!(Qax .andNot .i64 a ag==0)||Qy ag b)
     ·rw[hc,if_neg (by decide),Int.toNat_natCast]at eS
      have eX:=fun c=>@Qjc ag (a,b) c
      have e1:P++Qku ag (a,b) 0=P:=List.append_nil _
      (repeat' first|refine gA fun _=>?_|apply fkI<;>intro hb<;>try simp only[ew,hP,hg,hd,hc]at hb|simp only[go_sem,simprocAttr, *,hd,hc])
      refine lpI {ι:=Nat,rs:=[(57,83)],mods:=[(10,fun c=> .one (.d (.v (.int .i64 c)))),(7,fun c=> .one (.own 2 (dL (P++Qku ag (a,b) c)) 1))],boxes:=[(9,fun _=>[.d (.v (.int .i64 a)),.d (.v (.int .i64 b))])],arrs:=[],ok:=fun c=>c≤m,mu:=fun c=>m-c} rfl 0 (Nat.zero_le _) ?_ fun c hcm=>?_
      ·clear eX
       (repeat' first|refine gA fun _=>?_|apply fkI<;>intro hb<;>try simp only[ew,hP,hg,e1]at hb|simp only[go_sem,simprocAttr, *])
       all_goals first|rfl|skip
      ·dsimp only at c hcm
       have x1:=eX c
       have x2:(P++Qku ag (a,b) c).length≤5242885:=by rw[List.length_append];omega
       have x3:(P++Qku ag (a,b) c).length≤maxLen:=Nat.le_trans x2 (by decide)
       clear eX x1
       by_cases h6:c<m
       ·have hpw:=p5 (c:=c) (by omega)
        have eE:P++Qku ag (a,b) (c+1)=(P++Qku ag (a,b) c)++(if !Qy ag (c:Nat)&&((c:Nat):Int)!=b then [(QbI a (c:Nat),b)]else []):=by rw[Qku,List.append_assoc]
        have eo:Qax .or .i64 a (1*2^c)=QbI a (c:Nat):=by unfold QbI;rw[Int.toNat_natCast]
        generalize hQ:P++Qku ag (a,b) c=Q at x2 x3 eE;cases hq:(!Qy ag (c:Nat)&&((c:Nat):Int)!=b)
        ·rw[hq,if_neg (by decide),List.append_nil]at eE
         (repeat' first|refine gA fun _=>?_|apply fkI<;>intro hb<;>try simp only[ew,hQ,hq]at hb|simp only[go_sem,simprocAttr, *,hq])
         refine lpN (c+1) (by dsimp only;omega) (by dsimp only;omega) ?_
         (repeat' first|refine gA fun _=>?_|apply fkI<;>intro hb<;>try simp only[ew,hQ,eE,hq]at hb|simp only[go_sem,simprocAttr, *,hq])
        ·rw[hq,if_pos rfl]at eE
         (repeat' first|refine gA fun _=>?_|apply fkI<;>intro hb<;>try simp only[ew,Qq,hQ,hq,eo,QW]at hb|simp only[go_sem,simprocAttr, *,Qq,hq,QW])
         refine lpN (c+1) (by dsimp only;omega) (by dsimp only;omega) ?_
         (repeat' first|refine gA fun _=>?_|apply fkI<;>intro hb<;>try simp only[ew,hQ,eE,hq,eo,QW]at hb|simp only[go_sem,simprocAttr, *,hq,QW])
       ·have e6:c=m:=by omega
        subst e6;(repeat' first|refine gA fun _=>?_|apply fkI<;>intro hb<;>try simp only[ew]at hb|simp only[go_sem,simprocAttr, *])
        refine lpN (i+1) (by dsimp only;omega) (by dsimp only;omega) ?_
        (repeat' first|refine gA fun _=>?_|apply fkI<;>intro hb<;>try simp only[ew,eS]at hb|simp only[go_sem,simprocAttr, *])
     ·rw[hc,if_pos rfl]at eS
      (repeat' first|refine gA fun _=>?_|apply fkI<;>intro hb<;>try simp only[ew,hP,hg,hd,hc,QW]at hb|simp only[go_sem,simprocAttr, *,hd,hc,QW])
      refine lpN (i+1) (by dsimp only;omega) (by dsimp only;omega) ?_
      (repeat' first|refine gA fun _=>?_|apply fkI<;>intro hb<;>try simp only[ew,hP,eS,hg,hd,hc,QW]at hb|simp only[go_sem,simprocAttr, *,hd,hc,QW])
   ·have e5:i=ds.length:=by omega
    subst e5;have eP:ds.take ds.length=ds:=List.take_length
    rw[eP]at s2 s3 s4;have t1:=@QhH (Qey (m:Int) ag ds)
    have t2:=Lib.compact_length_le (Qd1 (Qey (m:Int) ag ds))
    unfold QAV;generalize hS:Qey (m:Int) ag ds=S at s2 s3 s4 t1 t2 ⊢;have t3:(Qd1 S).length≤maxLen:=by omega
    have t4:(Qd1 S).length≤5242880:=by omega
    generalize hT:Qd1 S=T at t1 t2 t3 t4 ⊢;have t5:(Lib.compact T).length≤maxLen:=by omega
    have t6:(Lib.compact T).length≤5242880:=by omega
    generalize hZ:Lib.compact T=Z at t5 t6 ⊢;clear t1 t2;(repeat' first|refine gA fun _=>?_|apply fkI<;>intro hb<;>try simp only[ew,eP,hS,hT,hZ]at hb|simp only[go_sem,simprocAttr, *])
    refine lpI {ι:=Nat,rs:=[(13,15),(16,17),(92,129)],mods:=[(91,fun i=> .one (.d (.v (.int .i64 i)))),(11,fun i=> .one (.own 2 (dL ((Z.take i).filter fun d=>Z.all (Qj1 d))) 1))],boxes:=[],arrs:=[(7,fun _=>(2,dL Z,1))],alis:=[(89,7)],ok:=fun i=>i≤Z.length,mu:=fun i=>Z.length-i} rfl 0 (Nat.zero_le _) ?_ fun i hi=>?_
    ·clear s2
     (repeat' first|refine gA fun _=>?_|apply fkI<;>intro hb<;>try simp only[ew,eP,hS,hT,hZ]at hb|simp only[go_sem,simprocAttr, *])
     all_goals first|rfl|skip
    ·dsimp only at i hi
     clear s2 s3 s4 t3 t4;have o1:=List.length_filter_le (fun d=>Z.all (Qj1 d)) (Z.take i)
     rw[List.length_take]at o1;have o2:((Z.take i).filter fun d=>Z.all (Qj1 d)).length≤5242880:=by omega
     have o3:((Z.take i).filter fun d=>Z.all (Qj1 d)).length≤maxLen:=Nat.le_trans o2 (by decide)
     clear o1
     by_cases h7:i<Z.length
     ·have eF:=Qtt (p:=fun d=>Z.all (Qj1 d)) h7 (0,0)
      generalize hO:(Z.take i).filter (fun d=>Z.all (Qj1 d))=O at o2 o3 eF
      generalize hg:Z.getD i (0,0)=g at eF;obtain⟨a,b⟩:=g;(repeat' first|refine gA fun _=>?_|apply fkI<;>intro hb<;>try simp only[ew,hO,hg]at hb|simp only[go_sem,simprocAttr, *])
      refine lpI {ι:=Nat,rs:=[(16,17),(98,123)],mods:=[(97,fun k=> .one (.d (.v (.int .i64 k)))),(14,fun k=> .one (.d (.v (.bool ((Z.take k).all (Qj1 (a,b)))))))],boxes:=[(13,fun _=>[.d (.v (.int .i64 a)),.d (.v (.int .i64 b))])],arrs:=[(7,fun _=>(2,dL Z,1)),(11,fun _=>(2,dL O,1))],alis:=[(89,7),(95,7)],ok:=fun k=>k≤Z.length,mu:=fun k=>Z.length-k} rfl 0 (Nat.zero_le _) ?_ fun k hk=>?_
      ·(repeat' first|refine gA fun _=>?_|apply fkI<;>intro hb<;>try simp only[ew,hO,hg]at hb|simp only[go_sem,simprocAttr, *])
       all_goals first|rfl|skip
      ·dsimp only at k hk
       by_cases h8:k<Z.length
       ·have et:=Qgj h8 (0,0) (Qj1 (a,b))
        generalize hh:Z.getD k (0,0)=h at et;obtain⟨u,v⟩:=h;have em:Qj1 (a,b) (u,v)=(((u,v)==(a,b)||v !=b)|| !(Qax .andNot .i64 u a==0)):=rfl
        rw[em]at et;clear em eF;generalize hf:(Z.take k).all (Qj1 (a,b))=b0 at et;cases b0
        ·rw[Bool.false_and]at et
         (repeat' first|refine gA fun _=>?_|apply fkI<;>intro hb<;>try simp only[ew,hf,hh]at hb|simp only[go_sem,simprocAttr, *])
         refine lpN (k+1) (by dsimp only;omega) (by dsimp only;omega) ?_
         (repeat' first|refine gA fun _=>?_|apply fkI<;>intro hb<;>try simp only[ew,hf,et,hh]at hb|simp only[go_sem,simprocAttr, *])
        ·rw[Bool.true_and]at et
         cases q1:((u,v)==(a,b))
         ·rw[q1,Bool.false_or]at et
          cases q2:(v !=b)
          ·rw[q2,Bool.false_or]at et
           (repeat' first|refine gA fun _=>?_|apply fkI<;>intro hb<;>try simp only[ew,hf,hh,q1,q2]at hb|simp only[go_sem,simprocAttr, *,q1,q2])
           refine lpN (k+1) (by dsimp only;omega) (by dsimp only;omega) ?_
           (repeat' first|refine gA fun _=>?_|apply fkI<;>intro hb<;>try simp only[ew,hf,et,hh,q1,q2]at hb|simp only[go_sem,simprocAttr, *,q1,q2])
          ·rw[q2,Bool.true_or]at et
           (repeat' first|refine gA fun _=>?_|apply fkI<;>intro hb<;>try simp only[ew,hf,hh,q1,q2]at hb|simp only[go_sem,simprocAttr, *,q1,q2])
           refine lpN (k+1) (by dsimp only;omega) (by dsimp only;omega) ?_
           (repeat' first|refine gA fun _=>?_|apply fkI<;>intro hb<;>try simp only[ew,hf,et,hh,q1,q2]at hb|simp only[go_sem,simprocAttr, *,q1,q2])
         ·rw[q1,Bool.true_or,Bool.true_or]at et
          (repeat' first|refine gA fun _=>?_|apply fkI<;>intro hb<;>try simp only[ew,hf,hh,q1]at hb|simp only[go_sem,simprocAttr, *,q1])
          refine lpN (k+1) (by dsimp only;omega) (by dsimp only;omega) ?_
          (repeat' first|refine gA fun _=>?_|apply fkI<;>intro hb<;>try simp only[ew,hf,et,hh,q1]at hb|simp only[go_sem,simprocAttr, *,q1])
       ·have e8:k=Z.length:=by omega
        subst e8;have eZ:Z.take Z.length=Z:=List.take_length
        cases hq:Z.all (Qj1 (a,b))
        ·rw[hq,if_neg (by decide),List.append_nil]at eF
         (repeat' first|refine gA fun _=>?_|apply fkI<;>intro hb<;>try simp only[ew,eZ,hq]at hb|simp only[go_sem,simprocAttr, *,hq])
         refine lpN (i+1) (by dsimp only;omega) (by dsimp only;omega) ?_
         (repeat' first|refine gA fun _=>?_|apply fkI<;>intro hb<;>try simp only[ew,hO,eZ,hq,eF]at hb|simp only[go_sem,simprocAttr, *,hq])
        ·rw[hq,if_pos rfl]at eF
         (repeat' first|refine gA fun _=>?_|apply fkI<;>intro hb<;>try simp only[ew,eZ,hq,QW]at hb|simp only[go_sem,simprocAttr, *,hq,QW])
         refine lpN (i+1) (by dsimp only;omega) (by dsimp only;omega) ?_
         (repeat' first|refine gA fun _=>?_|apply fkI<;>intro hb<;>try simp only[ew,hO,eZ,hq,eF,QW]at hb|simp only[go_sem,simprocAttr, *,hq,QW])
     ·have e7:i=Z.length:=by omega
      subst e7;have eZ:Z.take Z.length=Z:=List.take_length
      (repeat' first|refine gA fun _=>?_|apply fkI<;>intro hb<;>try simp only[ew,eZ]at hb|simp only[go_sem,simprocAttr, *])
      all_goals first|rfl|skip
end Go.Own
