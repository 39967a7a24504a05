/- Own contracts. Conditions: as each theorem states them. -/
import Derived.Test.YtnmkpepdacbfaaaGreatDoorRc28
set_option linter.unusedSimpArgs false
set_option linter.unusedVariables false
set_option maxRecDepth 20000
set_option maxHeartbeats 2000000
namespace Go.Own
open Go Go.Proofs
attribute [local go_sem] Qbf Qag Qhh Qxt QBj Tryz.results78
theorem QAF{a b:Int}:unD [[D.v (.int .i64 a),D.v (.int .i64 b)]]=[(a,b)]:=rfl
theorem QAK{a b:Int}:WfD [[D.v (.int .i64 a),D.v (.int .i64 b)]]↔True:=by
 refine⟨fun _=>trivial,fun _=>⟨rfl,by show 1≤maxLen;decide⟩⟩
attribute [local go_sem] Qh Qe Qaa Qac Qab Qaf QaX QdJ Qu QaV QAF QAK
theorem Qki{ag:Int}{d:Int×Int}{K:List (Int×Int)}:∀{k:Nat},(Qhd ag d K k).length≤K.length+k
 | 0=>Nat.le_refl _
 | k+1=>by
  have:=@Qki ag d K k
  rw[Qhd,List.length_append];split<;>simp<;>omega
theorem Qot{m:Nat}{ag:Int}:∀{B K:List (Int×Int)},(Qlt m ag K B).length≤K.length+B.length*m
 | [],K=>by simp[Qlt]
 | b::B,K=>by
  have h1:=@Qot m ag B (Qhd ag b K m)
  have h2:=@Qki ag b K m
  have e:Qlt m ag K (b::B)=Qlt m ag (Qhd ag b K m) B:=rfl
  rw[e,List.length_cons,Nat.add_mul];omega
theorem QrQ{m:Nat}{ag:Int}{K B:List (Int×Int)}{i:Nat}(h:i<B.length):Qlt m ag K (B.take (i+1))=Qhd ag (B.getD i (0,0)) (Qlt m ag K (B.take i)) m:=by
 unfold Qlt;rw[Qf h (0,0),List.foldl_append];rfl
theorem Qpz{K:List (Int×Int)}:∀{i:Nat},(Qmq K i).length≤i
 | 0=>Nat.le_refl _
 | i+1=>by
  have:=@Qpz K i
  rw[Qmq,List.length_append];split<;>simp<;>omega
def Qso:Qb:=⟨[],false,fun
 | [.one (.sl 2 l),.one (.v (.int .i64 n)),.one (.v (.int .i64 ag))]=>some (WfD l∧l.length≤1048576∧ -9223372036854775808≤n∧n≤9223372036854775807,[⟨false,[.own 2 (dL (Qxc n ag (unD l))) 1]⟩],[])
 | _=>none⟩
attribute [local go_sem] Qso
theorem QAr:Qa E0 78 Qso:=by
 refine QE (E:=E0) (T:=mkT Tryz.prog [(62,Qbf),(66,Qag),(82,Qhh),(121,Qxt),(122,QBj)] false (fun _=>false) true (fun _=>false)) (Qd (E:=E0) (.cons Qcp (.cons Qb9 (.cons Qe2 (.cons QsI (.cons QB9 .nil)))))) (fn:=Tryz.f78) Tryz.func78 (by kernel_rfl) rfl Qc (by kernel_rfl) rfl ?_
 intro args p rs ms hr;unfold Qso at hr;dsimp only at hr;split at hr;rotate_left
 ·cases hr
 rename_i l n ag;cases hr;refine⟨rfl,rfl,nLe rfl,?_⟩
 have hm:=mxE;rintro⟨h1,hl,hn1,hn2⟩ bs;obtain⟨ds,rfl,hx⟩:=h1.ex;clear h1;rw[Qe]at hl;rw[Qh];cases hv:QrF n ag
 ·have e:Qxc n ag ds=ds:=by unfold Qxc;rw[hv];rfl
  rw[e];clear e;have e0:dL []=[]:=rfl
  have e3:(!inB n 1 5|| !Ql n ag)=true:=by
   cases q:(!inB n 1 5|| !Ql n ag)with
   | true=>rfl
   | false=>
    simp only[Bool.or_eq_false_iff,Bool.not_eq_false']at q
    unfold QrF at hv;rw[Qi]at q;rw[q.2,Bool.and_true,decide_eq_false_iff_not]at hv;omega
  clear hv;(repeat' first|refine gA fun _=>?_|apply fkI<;>intro hb<;>try simp only[ew,e3]at hb|simp only[go_sem,simprocAttr, *])
  all_goals first|rfl|skip
 ·have e:Qxc n ag ds=s17 (Qmq (Qjc n ag ds) (Qjc n ag ds).length) (Q3 n) n.toNat:=by unfold Qxc;rw[hv];rfl
  rw[e];clear e;unfold QrF at hv;rw[Bool.and_eq_true,decide_eq_true_eq]at hv;obtain⟨n1,ha⟩:=hv;obtain⟨_,n5,g0,g31⟩:=Qp ha;have e3:(!inB n 1 5|| !Ql n ag)=false:=by rw[Qi.2 ⟨n1,n5⟩,ha];rfl
  obtain⟨m,rfl⟩:=Int.eq_ofNat_of_zero_le (show 0≤n by omega)
  unfold Qjc;rw[Int.toNat_natCast];clear ha;have e0:dL []=[]:=rfl
  (repeat' first|refine gA fun _=>?_|apply fkI<;>intro hb<;>try simp only[ew,e3,e0]at hb|simp only[go_sem,simprocAttr, *])
  refine lpI {ι:=Nat,rs:=[(31,83)],mods:=[(9,fun i=> .one (.d (.v (.int .i64 i)))),(7,fun i=> .one (.own 2 (dL ((ds.take i).filter fun d=> !Qf4 m ag d)) 1)),(8,fun i=> .one (.own 2 (dL ((ds.take i).filter (Qf4 m ag))) 1))],boxes:=[],arrs:=[],ok:=fun i=>i≤ds.length,mu:=fun i=>ds.length-i} rfl 0 (Nat.zero_le _) ?_ fun i hi=>?_
  ·(repeat' first|refine gA fun _=>?_|apply fkI<;>intro hb<;>try simp only[ew,e0,List.take_zero,List.filter_nil]at hb|simp only[go_sem,simprocAttr, *,List.take_zero,List.filter_nil])
   all_goals first|rfl|skip
  ·dsimp only at i hi
   have s1:=List.length_filter_le (fun d=> !Qf4 (m:Int) ag d) (ds.take i)
   have s2:=List.length_filter_le (Qf4 (m:Int) ag) (ds.take i)
   rw[List.length_take]at s1 s2
   by_cases h5:i<ds.length
   ·have eK:=Qkl (p:=fun d=> !Qf4 (m:Int) ag d) h5 (0,0)
    have eB:=Qkl (p:=Qf4 (m:Int) ag) h5 (0,0)
    generalize hP:(ds.take i).filter (fun d=> !Qf4 (m:Int) ag d)=P at s1 eK
    generalize hQ:(ds.take i).filter (Qf4 (m:Int) ag)=Q at s2 eB;have p1:P.length≤maxLen:=by
      have:P.length≤1048576:=by omega
      exact Nat.le_trans this (by decide)
    have p2:P.length≤1048576:=by omega
    have p3:Q.length≤maxLen:=by
      have:Q.length≤1048576:=by omega
      exact Nat.le_trans this (by decide)
    have p4:Q.length≤1048576:=by omega
    clear s1 s2;generalize hg:ds.getD i (0,0)=g at eK eB;obtain⟨a,b⟩:=g;have hbrk:Qf4 (m:Int) ag (a,b)=(QJ (m:Int) a b&&(Q6 .and .i64 ag a==a)&&(Q6 .and .i64 (ag.fdiv (2^b.toNat)) 1==0)):=rfl
    rw[hbrk]at eK eB;clear hbrk;cases hd:QJ (m:Int) a b
    ·rw[hd,Bool.false_and,Bool.false_and,if_pos (by decide)]at eK
     rw[hd,Bool.false_and,Bool.false_and,if_neg (by decide),List.append_nil]at eB
     (repeat' first|refine gA fun _=>?_|apply fkI<;>intro hb<;>try simp only[ew,hP,hQ,hg,hd,Qm]at hb|simp only[go_sem,simprocAttr, *,hd,Qm])
     refine lpN (i+1) (by dsimp only;omega) (by dsimp only;omega) ?_
     (repeat' first|refine gA fun _=>?_|apply fkI<;>intro hb<;>try simp only[ew,hP,hQ,eK,eB,hg,hd,Qm]at hb|simp only[go_sem,simprocAttr, *,hd,Qm])
    ·obtain⟨⟨a0,a31⟩,b0,b4⟩:=Qas hd
     rw[hd,Bool.true_and]at eK eB;cases hA:(Q6 .and .i64 ag a==a)
     ·rw[hA,Bool.false_and,if_pos (by decide)]at eK
      rw[hA,Bool.false_and,if_neg (by decide),List.append_nil]at eB
      (repeat' first|refine gA fun _=>?_|apply fkI<;>intro hb<;>try simp only[ew,hP,hQ,hg,hd,hA,Qm]at hb|simp only[go_sem,simprocAttr, *,hd,hA,Qm])
      refine lpN (i+1) (by dsimp only;omega) (by dsimp only;omega) ?_
      (repeat' first|refine gA fun _=>?_|apply fkI<;>intro hb<;>try simp only[ew,hP,hQ,eK,eB,hg,hd,hA,Qm]at hb|simp only[go_sem,simprocAttr, *,hd,hA,Qm])
     ·rw[hA,Bool.true_and]at eK eB
      cases hz:(Q6 .and .i64 (ag.fdiv (2^b.toNat)) 1==0)
      ·rw[hz,if_pos (by decide)]at eK
       rw[hz,if_neg (by decide),List.append_nil]at eB
       (repeat' first|refine gA fun _=>?_|apply fkI<;>intro hb<;>try simp only[ew,Qj,hP,hQ,hg,hd,hA,hz,Qm]at hb|simp only[go_sem,simprocAttr, *,Qj,hd,hA,hz,Qm])
       refine lpN (i+1) (by dsimp only;omega) (by dsimp only;omega) ?_
       (repeat' first|refine gA fun _=>?_|apply fkI<;>intro hb<;>try simp only[ew,hP,hQ,eK,eB,hg,hd,hA,hz,Qm]at hb|simp only[go_sem,simprocAttr, *,hd,hA,hz,Qm])
      ·rw[hz,if_neg (by decide),List.append_nil]at eK
       rw[hz,if_pos rfl]at eB;(repeat' first|refine gA fun _=>?_|apply fkI<;>intro hb<;>try simp only[ew,Qj,hP,hQ,hg,hd,hA,hz,Qm]at hb|simp only[go_sem,simprocAttr, *,Qj,hd,hA,hz,Qm])
       refine lpN (i+1) (by dsimp only;omega) (by dsimp only;omega) ?_
       (repeat' first|refine gA fun _=>?_|apply fkI<;>intro hb<;>try simp only[ew,hP,hQ,eK,eB,hg,hd,hA,hz,Qm]at hb|simp only[go_sem,simprocAttr, *,hd,hA,hz,Qm])
   ·have e5:i=ds.length:=by omega
    subst e5;have eP:ds.take ds.length=ds:=List.take_length
    rw[eP]at s1 s2;have hBR:∀d∈ds.filter (Qf4 (m:Int) ag),Qbn d:=fun d hd=>Qas (Qfr (List.mem_filter.1 hd).2)
    generalize hP:ds.filter (fun d=> !Qf4 (m:Int) ag d)=P at s1 ⊢
    generalize hB:ds.filter (Qf4 (m:Int) ag)=B at s2 hBR ⊢;have p2:P.length≤1048576:=by omega
    have p4:B.length≤1048576:=by omega
    have p1:P.length≤maxLen:=Nat.le_trans p2 (by decide)
    have p3:B.length≤maxLen:=Nat.le_trans p4 (by decide)
    clear s1 s2 hi;have hal:=fun i=>@Qot m ag (B.take i) P
    have e1:Qlt m ag P (B.take 0)=P:=rfl
    (repeat' first|refine gA fun _=>?_|apply fkI<;>intro hb<;>try simp only[ew,eP,hP,hB]at hb|simp only[go_sem,simprocAttr, *])
    refine lpI {ι:=Nat,rs:=[(11,13),(83,129)],mods:=[(10,fun i=> .one (.d (.v (.int .i64 i)))),(7,fun i=> .one (.own 2 (dL (Qlt m ag P (B.take i))) 1))],boxes:=[],arrs:=[(8,fun _=>(2,dL B,1))],ok:=fun i=>i≤B.length,mu:=fun i=>B.length-i} rfl 0 (Nat.zero_le _) ?_ fun i hi=>?_
    ·clear hal hBR
     (repeat' first|refine gA fun _=>?_|apply fkI<;>intro hb<;>try simp only[ew,e1]at hb|simp only[go_sem,simprocAttr, *])
     all_goals first|rfl|skip
    ·dsimp only at i hi
     have l1:=hal i
     rw[List.length_take]at l1;have l2:(Qlt m ag P (B.take i)).length≤6291456:=by
      refine Nat.le_trans l1 ?_
      have h1:min i B.length*m≤1048576*5:=Nat.mul_le_mul (by omega) (by omega)
      omega
     have l3:(Qlt m ag P (B.take i)).length≤maxLen:=Nat.le_trans l2 (by decide)
     clear l1
     by_cases h6:i<B.length
     ·have eS:=QrQ (m:=m) (ag:=ag) (K:=P) h6
      obtain⟨⟨a0,a31⟩,b0,b4⟩:=hBR _ (QP h6 (0,0));clear hal hBR;generalize hQ:Qlt m ag P (B.take i)=Q at l2 l3 eS;generalize hg:B.getD i (0,0)=g at eS a0 a31 b0 b4;obtain⟨a,b⟩:=g;dsimp only at a0 a31 b0 b4;have e2:Qhd ag (a,b) Q 0=Q:=rfl
      have hkl:=fun k=>@Qki ag (a,b) Q k
      (repeat' first|refine gA fun _=>?_|apply fkI<;>intro hb<;>try simp only[ew,hQ]at hb|simp only[go_sem,simprocAttr, *])
      refine lpI {ι:=Nat,rs:=[(12,13),(89,129)],mods:=[(11,fun k=> .one (.d (.v (.int .i64 k)))),(7,fun k=> .one (.own 2 (dL (Qhd ag (a,b) Q k)) 1))],boxes:=[],arrs:=[(8,fun _=>(2,dL B,1))],ok:=fun k=>k≤m,mu:=fun k=>m-k} rfl 0 (Nat.zero_le _) ?_ fun k hk=>?_
      ·clear hkl
       (repeat' first|refine gA fun _=>?_|apply fkI<;>intro hb<;>try simp only[ew,hQ,e2]at hb|simp only[go_sem,simprocAttr, *])
       all_goals first|rfl|skip
      ·dsimp only at k hk
       have x1:=hkl k
       have x2:(Qhd ag (a,b) Q k).length≤6291461:=by omega
       have x3:(Qhd ag (a,b) Q k).length≤maxLen:=Nat.le_trans x2 (by decide)
       clear hkl x1
       by_cases h7:k<m
       ·have hpw:=p5 (c:=k) (by omega)
        have eE:Qhd ag (a,b) Q (k+1)=Qhd ag (a,b) Q k++(if(Q6 .and .i64 (ag.fdiv (2^k)) 1==0)&&((k:Nat):Int)!=b&& !cov (Qhd ag (a,b) Q k) (Qbd a (k:Nat),b)then [(Qbd a (k:Nat),b)]else []):=rfl
        have eo:Q6 .or .i64 a (1*2^k)=Qbd a (k:Nat):=by unfold Qbd;rw[Int.toNat_natCast]
        generalize hT:Qhd ag (a,b) Q k=T at x2 x3 eE;generalize hu:Qbd a (k:Nat)=u at eo eE;cases hA:(Q6 .and .i64 (ag.fdiv (2^k)) 1==0)
        ·rw[hA,Bool.false_and,Bool.false_and,if_neg (by decide),List.append_nil]at eE
         (repeat' first|refine gA fun _=>?_|apply fkI<;>intro hb<;>try simp only[ew,Qj,hT,hg,hA,eo]at hb|simp only[go_sem,simprocAttr, *,Qj,hA])
         refine lpN (k+1) (by dsimp only;omega) (by dsimp only;omega) ?_
         (repeat' first|refine gA fun _=>?_|apply fkI<;>intro hb<;>try simp only[ew,hT,eE,hA,eo]at hb|simp only[go_sem,simprocAttr, *,hA])
        ·rw[hA,Bool.true_and]at eE
         cases hC:(((k:Nat):Int)!=b)
         ·rw[hC,Bool.false_and,if_neg (by decide),List.append_nil]at eE
          (repeat' first|refine gA fun _=>?_|apply fkI<;>intro hb<;>try simp only[ew,Qj,hT,hg,hA,hC,eo]at hb|simp only[go_sem,simprocAttr, *,Qj,hA,hC])
          refine lpN (k+1) (by dsimp only;omega) (by dsimp only;omega) ?_
          (repeat' first|refine gA fun _=>?_|apply fkI<;>intro hb<;>try simp only[ew,hT,eE,hA,hC,eo]at hb|simp only[go_sem,simprocAttr, *,hA,hC])
         ·rw[hC,Bool.true_and]at eE
          cases hD:cov T (u,b)
          ·rw[hD,if_pos (show(!false)=true from rfl)]at eE
           (repeat' first|refine gA fun _=>?_|apply fkI<;>intro hb<;>try simp only[ew,Qj,hT,hg,hA,hC,hD,eo,Qm]at hb|simp only[go_sem,simprocAttr, *,Qj,hA,hC,hD,Qm])
           refine lpN (k+1) (by dsimp only;omega) (by dsimp only;omega) ?_
           (repeat' first|refine gA fun _=>?_|apply fkI<;>intro hb<;>try simp only[ew,hT,eE,hA,hC,hD,eo,Qm]at hb|simp only[go_sem,simprocAttr, *,hA,hC,hD,Qm])
          ·rw[hD,if_neg (by decide),List.append_nil]at eE
           (repeat' first|refine gA fun _=>?_|apply fkI<;>intro hb<;>try simp only[ew,Qj,hT,hg,hA,hC,hD,eo]at hb|simp only[go_sem,simprocAttr, *,Qj,hA,hC,hD])
           refine lpN (k+1) (by dsimp only;omega) (by dsimp only;omega) ?_
           (repeat' first|refine gA fun _=>?_|apply fkI<;>intro hb<;>try simp only[ew,hT,eE,hA,hC,hD,eo]at hb|simp only[go_sem,simprocAttr, *,hA,hC,hD])
       ·have e7:k=m:=by omega
        subst e7;(repeat' first|refine gA fun _=>?_|apply fkI<;>intro hb<;>try simp only[ew]at hb|simp only[go_sem,simprocAttr, *])
        refine lpN (i+1) (by dsimp only;omega) (by dsimp only;omega) ?_
        (repeat' first|refine gA fun _=>?_|apply fkI<;>intro hb<;>try simp only[ew,hQ,eS]at hb|simp only[go_sem,simprocAttr, *])
     ·have e6:i=B.length:=by omega
      subst e6;have eB:B.take B.length=B:=List.take_length
      rw[eB]at l2 l3;clear hal hBR;generalize hK:Qlt m ag P B=K at l2 l3 ⊢;have hll:=fun i=>@Qpz K i
      have e4:Qmq K 0=[]:=rfl
      (repeat' first|refine gA fun _=>?_|apply fkI<;>intro hb<;>try simp only[ew,eB,hK,e0]at hb|simp only[go_sem,simprocAttr, *])
      refine lpI {ι:=Nat,rs:=[(15,17),(130,185)],mods:=[(14,fun i=> .one (.d (.v (.int .i64 i)))),(13,fun i=> .one (.own 2 (dL (Qmq K i)) 1))],boxes:=[],arrs:=[(7,fun _=>(2,dL K,1))],ok:=fun i=>i≤K.length,mu:=fun i=>K.length-i} rfl 0 (Nat.zero_le _) ?_ fun i hi=>?_
      ·clear hll
       (repeat' first|refine gA fun _=>?_|apply fkI<;>intro hb<;>try simp only[ew,e4,e0]at hb|simp only[go_sem,simprocAttr, *])
       all_goals first|rfl|skip
      ·dsimp only at i hi
       have o1:=hll i
       have o2:(Qmq K i).length≤6291456:=by omega
       have o3:(Qmq K i).length≤maxLen:=Nat.le_trans o2 (by decide)
       clear hll o1
       by_cases h8:i<K.length
       ·have eW:Qmq K (i+1)=Qmq K i++(if Qgm K i K.length then [K.getD i (0,0)]else []):=rfl
        have eF0:Qgm K i 0=true:=rfl
        generalize hO:Qmq K i=O at o2 o3 eW;generalize hg:K.getD i (0,0)=g at eW;obtain⟨a,b⟩:=g;(repeat' first|refine gA fun _=>?_|apply fkI<;>intro hb<;>try simp only[ew,hO,hg]at hb|simp only[go_sem,simprocAttr, *])
        refine lpI {ι:=Nat,rs:=[(136,177)],mods:=[(16,fun k=> .one (.d (.v (.int .i64 k)))),(15,fun k=> .one (.d (.v (.bool (Qgm K i k)))))],boxes:=[],arrs:=[(7,fun _=>(2,dL K,1)),(13,fun _=>(2,dL O,1))],ok:=fun k=>k≤K.length,mu:=fun k=>K.length-k} rfl 0 (Nat.zero_le _) ?_ fun k hk=>?_
        ·(repeat' first|refine gA fun _=>?_|apply fkI<;>intro hb<;>try simp only[ew,hO,hg,eF0]at hb|simp only[go_sem,simprocAttr, *])
         all_goals first|rfl|skip
        ·dsimp only at k hk
         by_cases h9:k<K.length
         ·have et:Qgm K i (k+1)=(Qgm K i k&&QqW K i k):=rfl
          unfold QqW at et;rw[hg]at et;generalize hh:K.getD k (0,0)=h at et;obtain⟨u,v⟩:=h;clear eW;generalize hf:Qgm K i k=b0 at et;cases b0
          ·rw[Bool.false_and]at et
           (repeat' first|refine gA fun _=>?_|apply fkI<;>intro hb<;>try simp only[ew,hf,hh,hg]at hb|simp only[go_sem,simprocAttr, *])
           refine lpN (k+1) (by dsimp only;omega) (by dsimp only;omega) ?_
           (repeat' first|refine gA fun _=>?_|apply fkI<;>intro hb<;>try simp only[ew,hf,et,hh,hg]at hb|simp only[go_sem,simprocAttr, *])
          ·rw[Bool.true_and]at et
           cases q1:((k:Int)==(i:Int))
           ·rw[q1,Bool.false_or]at et
            cases q2:cov [(u,v)] (a,b)
            ·rw[q2,Bool.not_false,Bool.true_or]at et
             (repeat' first|refine gA fun _=>?_|apply fkI<;>intro hb<;>try simp only[ew,hf,hh,hg,q1,q2]at hb|simp only[go_sem,simprocAttr, *,q1,q2])
             refine lpN (k+1) (by dsimp only;omega) (by dsimp only;omega) ?_
             (repeat' first|refine gA fun _=>?_|apply fkI<;>intro hb<;>try simp only[ew,hf,et,hh,hg,q1,q2]at hb|simp only[go_sem,simprocAttr, *,q1,q2])
            ·rw[q2,Bool.not_true,Bool.false_or]at et
             cases q3:((u,v)==(a,b))
             ·rw[q3,Bool.false_and]at et
              (repeat' first|refine gA fun _=>?_|apply fkI<;>intro hb<;>try simp only[ew,hf,hh,hg,q1,q2,q3]at hb|simp only[go_sem,simprocAttr, *,q1,q2,q3])
              refine lpN (k+1) (by dsimp only;omega) (by dsimp only;omega) ?_
              (repeat' first|refine gA fun _=>?_|apply fkI<;>intro hb<;>try simp only[ew,hf,et,hh,hg,q1,q2,q3]at hb|simp only[go_sem,simprocAttr, *,q1,q2,q3])
             ·rw[q3,Bool.true_and]at et
              cases q4:decide ((k:Int)>(i:Int))
              ·rw[q4]at et
               (repeat' first|refine gA fun _=>?_|apply fkI<;>intro hb<;>try simp only[ew,hf,hh,hg,q1,q2,q3,q4]at hb|simp only[go_sem,simprocAttr, *,q1,q2,q3,q4])
               refine lpN (k+1) (by dsimp only;omega) (by dsimp only;omega) ?_
               (repeat' first|refine gA fun _=>?_|apply fkI<;>intro hb<;>try simp only[ew,hf,et,hh,hg,q1,q2,q3,q4]at hb|simp only[go_sem,simprocAttr, *,q1,q2,q3,q4])
               all_goals first|rfl|(simp only[decide_eq_true_eq,decide_eq_false_iff_not]at q4;omega)
              ·rw[q4]at et
               (repeat' first|refine gA fun _=>?_|apply fkI<;>intro hb<;>try simp only[ew,hf,hh,hg,q1,q2,q3,q4]at hb|simp only[go_sem,simprocAttr, *,q1,q2,q3,q4])
               refine lpN (k+1) (by dsimp only;omega) (by dsimp only;omega) ?_
               (repeat' first|refine gA fun _=>?_|apply fkI<;>intro hb<;>try simp only[ew,hf,et,hh,hg,q1,q2,q3,q4]at hb|simp only[go_sem,simprocAttr, *,q1,q2,q3,q4])
               all_goals first|rfl|(simp only[decide_eq_true_eq,decide_eq_false_iff_not]at q4;omega)
           ·rw[q1,Bool.true_or,Bool.true_or]at et
            (repeat' first|refine gA fun _=>?_|apply fkI<;>intro hb<;>try simp only[ew,hf,hh,hg,q1]at hb|simp only[go_sem,simprocAttr, *,q1])
            refine lpN (k+1) (by dsimp only;omega) (by dsimp only;omega) ?_
            (repeat' first|refine gA fun _=>?_|apply fkI<;>intro hb<;>try simp only[ew,hf,et,hh,hg,q1]at hb|simp only[go_sem,simprocAttr, *,q1])
         ·have e8:k=K.length:=by omega
          subst e8;cases hq:Qgm K i K.length
          ·rw[hq,if_neg (by decide),List.append_nil]at eW
           (repeat' first|refine gA fun _=>?_|apply fkI<;>intro hb<;>try simp only[ew,hq]at hb|simp only[go_sem,simprocAttr, *,hq])
           refine lpN (i+1) (by dsimp only;omega) (by dsimp only;omega) ?_
           (repeat' first|refine gA fun _=>?_|apply fkI<;>intro hb<;>try simp only[ew,hO,hq,eW]at hb|simp only[go_sem,simprocAttr, *,hq])
          ·rw[hq,if_pos rfl]at eW
           (repeat' first|refine gA fun _=>?_|apply fkI<;>intro hb<;>try simp only[ew,hq,hg,Qm]at hb|simp only[go_sem,simprocAttr, *,hq,Qm])
           refine lpN (i+1) (by dsimp only;omega) (by dsimp only;omega) ?_
           (repeat' first|refine gA fun _=>?_|apply fkI<;>intro hb<;>try simp only[ew,hO,hq,hg,eW,Qm]at hb|simp only[go_sem,simprocAttr, *,hq,Qm])
       ·have e9:i=K.length:=by omega
        subst e9;exact gQ
end Go.Own
