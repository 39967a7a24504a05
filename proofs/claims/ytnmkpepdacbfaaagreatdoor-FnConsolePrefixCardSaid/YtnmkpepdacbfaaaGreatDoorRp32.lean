/- Contracts. Conditions: as stated. -/
import Derived.Test.YtnmkpepdacbfaaaGreatDoorRp30
import Derived.Test.YtnmkpepdacbfaaaGreatDoorRp31
set_option linter.all false
set_option maxRecDepth 20000
set_option maxHeartbeats 2000000
namespace Go.Own
open Go Go.Proofs
section
attribute [local go_sem] QrN QcR Qoi QaF QrO QtJ Tryz.results40 Qh Qg Qae Qag Qaf Qaj Qa7 Qd1 Qv Qa6
theorem QuC:Qa E0 40 QrN:=by
 refine QG (E:=E0) (T:=mkT Tryz.prog [(76,QcR),(77,Qoi),(61,QaF),(79,QrO),(78,QtJ)] false (fun _=>false) true (fun d=>d==31)) (Qd (E:=E0) (.cons QiI (.cons QoQ (.cons QqD (.cons Qnh (.cons QCe .nil)))))) (fn:=Tryz.f40) Tryz.func40 kR rfl Qc kR rfl ?_
 intro args p rs ms hr;unfold QrN at hr;dsimp only at hr;split at hr;rotate_left
 ·cases hr
 rename_i c l m q r;cases hr;refine⟨rfl,rfl,nLe rfl,?_⟩
 have hm:=mxE;rintro⟨h1,⟨h2,h2'⟩,h3,h3',h4,hc1,hc2⟩ bs;obtain⟨rs,rfl,hx,hy⟩:=h1.ex;obtain⟨ds,rfl,hd⟩:=h3.ex;obtain⟨row,rfl,hr⟩:=h4.ex;clear h1 h3 h4;rw[QB]at h2' ⊢;rw[Qh,QaH];rw[Qai]at h2;rw[Qg]at h3';cases hv:Qi2 c rs m ds row
 ·have e1:Qmi c rs m ds row=rs:=by unfold Qmi;rw[hv];rfl
  have e2:Qmh c rs m ds row=ds:=by unfold Qmh;rw[hv];rfl
  have e3:(!isM c rs m ds|| !Qb7 row c||decide ((rs.length:Int)≥40))=true:=by
   cases q:(!isM c rs m ds|| !Qb7 row c||decide ((rs.length:Int)≥40))with
   | true=>rfl
   | false=>
    simp only[Kt,YL,Kl]at q
    unfold Qi2 at hv;rw[q.1.1,q.1.2,KZ (by omega)]at hv
    cases hv
  rw[e1,e2];clear e1 e2 hv;(repeat' first|refine gA fun _=>?_|apply fkI<;>intro hb<;>try simp only[ew,e3]at hb|simp only[go_sem,simprocAttr, *])
  all_goals first|rfl|skip
 ·have e1:Qmi c rs m ds row=rs++[row]:=by unfold Qmi;rw[hv];rfl
  have e2:Qmh c rs m ds row=QjP c m row rs ds:=by unfold Qmh;rw[hv];rfl
  rw[e1,e2];clear e1 e2;unfold Qi2 at hv;rw[KB,KB,KK]at hv;obtain⟨⟨v1,v2⟩,v3⟩:=hv;obtain⟨t1,t2,t3⟩:=QaJ v1;have e3:(!isM c rs m ds|| !Qb7 row c||decide ((rs.length:Int)≥40))=false:=by
   rw[v1,v2,KW (by omega)];rfl
  have tZ:=Qrq t1 v2 v3
  obtain⟨c,rfl,c1,c5,h40,hlen⟩:=QQ t1;have hrl:=QnD v2
  have hrl':row.length=c:=by omega
  have q1:ds.length≤160:=by rw[t3];exact(@QcE (c:Int) rs m).1
  have hsm:=fun i=>@QgS (c:Int) m row (rs.take i) ds q1
  have e0:QjP (c:Int) m row (rs.take 0) ds=ds:=rfl
  have hzl:(rs++[row]).length=rs.length+1:=by simp
  have hzi:∀i,i<rs.length→(rs++[row]).getD i []=rs.getD i []:=fun i h=>by simp[KD,List.getElem?_append_left h]
  have hzn:(rs++[row]).getD rs.length []=row:=by simp[KD]
  have hrm:row.length≤maxLen:=by rw[hrl'];exact KF c5 (by decide)
  have hzy:∀r∈rs++[row],r.length≤maxLen:=fun r h=>by
   rcases KG.1 h with h|h
   ·exact hy r h
   ·rw[KH]at h;rw[h];exact hrm
  have hzm:rs.length+1≤maxLen:=KF (show rs.length+1≤40 by omega) (by decide)
  generalize hZ:rs++[row]=Z at tZ hzl hzi hzn hzy ⊢;clear v1 v2 t1 t2 t3 hlen;(repeat' first|refine gA fun _=>?_|apply fkI<;>intro hb<;>try simp only[ew,e3,Qbo,Q9,hZ]at hb|simp only[go_sem,simprocAttr, *,Qbo,Q9])
  refine lpI {ι:=Nat,rs:=[(44,63)],mods:=[(8,fun i=> .one (.d (.v (.int .i64 i))))],boxes:=[(2,fun _=>[.d (.v (.int .i64 c)),.d (.sl 1 (sL rs)),.d (.v (.int .i64 m)),.d (.sl 2 (dL ds))]),(4,fun _=>[.d (.v (.int .i64 0)),.d (.v (.slice none 0 0)),.d (.v (.int .i64 0)),.d (.v (.slice none 0 0))]),(6,fun i=>[.d (.v (.int .i64 c)),.own 1 (sL Z) 1,.d (.v (.int .i64 m)),.own 2 (dL (QjP c m row (rs.take i) ds)) 1])],arrs:=[],ok:=fun i=>i≤rs.length,mu:=fun i=>rs.length-i} rfl 0 (KJ _) ?_ fun i hi=>?_
  ·clear hsm hzi
   (repeat' first|refine gA fun _=>?_|apply fkI<;>intro hb<;>try simp only[ew,e0,hZ]at hb|simp only[go_sem,simprocAttr, *])
   all_goals first|rfl|skip
  ·dsimp only at i hi
   have s1:=hsm i
   have s2:(QjP (c:Int) m row (rs.take i) ds).length≤maxLen:=KF s1 (by decide)
   clear hsm
   by_cases h5:i<rs.length
   ·have eS:=Qna (c:=(c:Int)) (m:=m) (row:=row) (q:=ds) h5
    have hzi:=hzi i h5
    rw[KE,Qpu,QzL]at eS;have eS':QyO (c:Int) (agL m (rs.getD i []) row c) (QjP (c:Int) m row (rs.take i) ds)=QjP (c:Int) m row (rs.take (i+1)) ds:=eS.symm
    have hiZ:i<Z.length:=by omega
    have hnZ:rs.length<Z.length:=by omega
    clear eS hZ;generalize hP:QjP (c:Int) m row (rs.take i) ds=P at s1 s2 eS';generalize hQ:QjP (c:Int) m row (rs.take (i+1)) ds=Q at eS';(repeat' first|refine gA fun _=>?_|apply fkI<;>intro hb<;>try simp only[ew,hP,hzn]at hb|simp only[go_sem,simprocAttr, *])
    refine lpQ (i+1) ?_
    (repeat' first|refine gA fun _=>?_|apply fkI<;>intro hb<;>try simp only[ew,hP,hQ,hzn,eS']at hb|simp only[go_sem,simprocAttr, *])
   ·have e5:i=rs.length:=by omega
    subst e5;have eT:rs.take rs.length=rs:=KR
    rw[eT]at s1 s2;clear hzi;(repeat' first|refine gA fun _=>?_|apply fkI<;>intro hb<;>try simp only[ew,eT]at hb|simp only[go_sem,simprocAttr, *])
    all_goals first|rfl|skip
end
attribute [local go_sem] Qoi Qgy QcR Qd8 QsQ QrN Tryz.results96 Qbr Tryz.results46 Qh Qg Qae Qag Qaf Qaj Qa7 Qd1 Qv Qa6
def Qmm(c:Int)(rs:List (List Int))(m:Int)(ds:List (Int×Int))(a k v:Int):Bool:=isM c rs m ds&&inB a 0 ((rs.length:Int)-1)&&inB k 0 (c-1)&&inB v (-1) 40
def QdZ(rs:List (List Int))(a k v:Int):List Int:=(rs.getD a.toNat []).set k.toNat v
def Qrw(c:Int)(rs:List (List Int))(m:Int)(ds:List (Int×Int))(a k v:Int):List (List Int):=if Qmm c rs m ds a k v then Qmi c (QeK c rs m ds a) m (QfE c rs m ds a) (QdZ rs a k v)else rs
def Qru(c:Int)(rs:List (List Int))(m:Int)(ds:List (Int×Int))(a k v:Int):List (Int×Int):=if Qmm c rs m ds a k v then Qmh c (QeK c rs m ds a) m (QfE c rs m ds a) (QdZ rs a k v)else ds
def QnU(c:Int)(rs:List (List Int))(m:Int)(ds:List (Int×Int))(a k v:Int):Bool:=Qmm c rs m ds a k v&&Qi2 c (QeK c rs m ds a) m (QfE c rs m ds a) (QdZ rs a k v)
def Qw6:Qb:=⟨[],false,fun
 | [.agg [.v (.int .i64 c),.sl 1 l,.v (.int .i64 m),.sl 2 q],.one (.v (.int .i64 a)),.one (.v (.int .i64 k)),.one (.v (.int .i64 v))]=>some (WfS l∧(l.length≤16777216∧∀r∈unS l,r.length≤16777216)∧WfD q∧q.length≤16777216∧ -9223372036854775808≤c∧c≤9223372036854775807,
   [⟨true,[.d (.v (.int .i64 c)),.own 1 (sL (Qrw c (unS l) m (unD q) a k v)) 1,.d (.v (.int .i64 m)),.own 2 (dL (Qru c (unS l) m (unD q) a k v)) 1]⟩,⟨false,[.d (.v (.bool (QnU c (unS l) m (unD q) a k v)))]⟩],[])
 | _=>none⟩
attribute [local go_sem] Qw6
theorem QCv:Qa E0 96 Qw6:=by
 refine QG (E:=E0) (T:=mkT Tryz.prog [(101,Qoi),(147,Qgy),(100,QcR),(145,Qd8),(56,QsQ),(93,QrN)] false (fun _=>false) true (fun _=>false)) (Qd (E:=E0) (.cons QoP (.cons Quw (.cons QiH (.cons QhQ (.cons Qt9 (.cons QuB .nil))))))) (fn:=Tryz.f96) Tryz.func96 kR rfl Qc kR rfl ?_
 intro args p rs ms hr;unfold Qw6 at hr;dsimp only at hr;split at hr;rotate_left
 ·cases hr
 rename_i c l m q a k v;cases hr;refine⟨rfl,rfl,nLe rfl,?_⟩
 have hm:=mxE;rintro⟨h1,⟨h2,h2'⟩,h3,h3',hc1,hc2⟩ bs;obtain⟨rs,rfl,hx,hy⟩:=h1.ex;obtain⟨ds,rfl,hd⟩:=h3.ex;clear h1 h3;rw[QB]at h2' ⊢;rw[Qh];rw[Qai]at h2;rw[Qg]at h3';cases hv:Qmm c rs m ds a k v
 ·have e1:Qrw c rs m ds a k v=rs:=by unfold Qrw;rw[hv];rfl
  have e2:Qru c rs m ds a k v=ds:=by unfold Qru;rw[hv];rfl
  have e4:QnU c rs m ds a k v=false:=by unfold QnU;rw[hv];rfl
  have e3:(!isM c rs m ds||decide (a<0)||decide (a≥(rs.length:Int))|| !(decide (k≥0)&&decide (k<c))||decide (v< -1)||decide (v>40))=true:=by
   cases q:(!isM c rs m ds||decide (a<0)||decide (a≥(rs.length:Int))|| !(decide (k≥0)&&decide (k<c))||decide (v< -1)||decide (v>40))with
   | true=>rfl
   | false=>
    simp only[Kt,YL,Kl,KB,KK]at q
    unfold Qmm at hv;have i1:inB a 0 ((rs.length:Int)-1)=true:=Qj.2 ⟨by omega,by omega⟩
    have i2:inB k 0 (c-1)=true:=Qj.2 ⟨by omega,by omega⟩
    have i3:inB v (-1) 40=true:=Qj.2 ⟨by omega,by omega⟩
    rw[q.1.1.1.1.1,i1,i2,i3]at hv;cases hv
  rw[e1,e2,e4];clear e1 e2 e4 hv;(repeat' first|refine gA fun _=>?_|apply fkI<;>intro hb<;>try simp only[ew,e3]at hb|simp only[go_sem,simprocAttr, *])
  all_goals first|rfl|skip
 ·have e1:Qrw c rs m ds a k v=Qmi c (QeK c rs m ds a) m (QfE c rs m ds a) (QdZ rs a k v):=by unfold Qrw;rw[hv];rfl
  have e2:Qru c rs m ds a k v=Qmh c (QeK c rs m ds a) m (QfE c rs m ds a) (QdZ rs a k v):=by unfold Qru;rw[hv];rfl
  have e4:QnU c rs m ds a k v=Qi2 c (QeK c rs m ds a) m (QfE c rs m ds a) (QdZ rs a k v):=by unfold QnU;rw[hv];rfl
  rw[e1,e2,e4];clear e1 e2 e4;unfold Qmm at hv;rw[KB,KB,KB,Qj,Qj,Qj]at hv;obtain⟨⟨⟨v1,v2,v3⟩,v4,v5⟩,v6,v7⟩:=hv;have t1:=(QaJ v1).1
  obtain⟨n,rfl⟩:=KL v2;obtain⟨j,rfl⟩:=KL v4;obtain⟨c,rfl,c1,c5,h40,hlen⟩:=QQ t1;have hn:n<rs.length:=by omega
  have hln:=hlen n hn
  have hj:j<(rs.getD n []).length:=by omega
  have e3:(!isM (c:Int) rs m ds||decide ((n:Int)<0)||decide (rs.length≤n)|| !decide (j<c)||decide (v< -1)||decide (v>40))=false:=by
   rw[v1,KW (show ¬(n:Int)<0 by omega),KW (show ¬rs.length≤n by omega),KZ (show j<c by omega),KW (show ¬v< -1 by omega),KW (show ¬v>40 by omega)];rfl
  obtain⟨r1,r2,r3⟩:=@Qkm (c:Int) rs m ds n h2 h2' h3';have k1:(QeK (c:Int) rs m ds n).length≤maxLen:=KF r1 (by decide)
  have k2:∀r∈QeK (c:Int) rs m ds n,r.length≤maxLen:=fun r hr=>KF (r2 r hr) (by decide)
  have k3:(QfE (c:Int) rs m ds n).length≤maxLen:=KF r3 (by decide)
  have eU:QdZ rs n j v=(rs.getD n []).set j v:=rfl
  have lU:(rs.getD n []).length≤16777216:=by omega
  have lU2:(rs.getD n []).length≤maxLen:=KF lU (by decide)
  generalize hR:QeK (c:Int) rs m ds n=R at r1 r2 k1 k2 ⊢;generalize hD:QfE (c:Int) rs m ds n=D0 at r3 k3 ⊢;clear v1 t1 hlen;(repeat' first|refine gA fun _=>?_|apply fkI<;>intro hb<;>try simp only[ew,e3,hR,hD,eU,Q9]at hb|simp only[go_sem,simprocAttr, *,Q9])
  all_goals first|rfl|skip
theorem QCw:Qa E0 46 Qw6:=by
 refine QG (E:=E0) (T:=mkT Tryz.prog [(77,Qoi),(62,Qbr),(76,QcR),(43,QsQ),(40,QrN)] false (fun _=>false) true (fun _=>false)) (Qd (E:=E0) (.cons QoQ (.cons QcD (.cons QiI (.cons Qua (.cons QuC .nil)))))) (fn:=Tryz.f46) Tryz.func46 kR rfl Qc kR rfl ?_
 intro args p rs ms hr;unfold Qw6 at hr;dsimp only at hr;split at hr;rotate_left
 ·cases hr
 rename_i c l m q a k v;cases hr;refine⟨rfl,rfl,nLe rfl,?_⟩
 have hm:=mxE;rintro⟨h1,⟨h2,h2'⟩,h3,h3',hc1,hc2⟩ bs;obtain⟨rs,rfl,hx,hy⟩:=h1.ex;obtain⟨ds,rfl,hd⟩:=h3.ex;clear h1 h3;rw[QB]at h2' ⊢;rw[Qh];rw[Qai]at h2;rw[Qg]at h3';have e3:(!isM c rs m ds|| !inB a 0 ((rs.length:Int)-1)|| !inB k 0 (c-1)|| !inB v (-1) 40)= !Qmm c rs m ds a k v:=by
  unfold Qmm;simp only[YS]
 cases hv:Qmm c rs m ds a k v
 ·have e1:Qrw c rs m ds a k v=rs:=by unfold Qrw;rw[hv];rfl
  have e2:Qru c rs m ds a k v=ds:=by unfold Qru;rw[hv];rfl
  have e4:QnU c rs m ds a k v=false:=by unfold QnU;rw[hv];rfl
  rw[hv]at e3;rw[e1,e2,e4];have hcm:isM c rs m ds=true→1≤c:=fun h=>by
   obtain⟨c',rfl,q,_⟩:=QQ (QaJ h).1;omega
  clear e1 e2 e4 hv;cases hM:isM c rs m ds
  ·clear hcm e3
   (repeat' first|refine gA fun _=>?_|apply fkI<;>intro hb<;>try simp only[ew,hM]at hb|simp only[go_sem,simprocAttr, *,hM])
   all_goals first|rfl|skip
  ·have hc0:=hcm hM
   rw[hM,YV,K8,YU]at e3;clear hcm;(repeat' first|refine gA fun _=>?_|apply fkI<;>intro hb<;>try simp only[ew,e3,hM]at hb|simp only[go_sem,simprocAttr, *,hM])
   all_goals first|rfl|skip
 ·have e1:Qrw c rs m ds a k v=Qmi c (QeK c rs m ds a) m (QfE c rs m ds a) (QdZ rs a k v):=by unfold Qrw;rw[hv];rfl
  have e2:Qru c rs m ds a k v=Qmh c (QeK c rs m ds a) m (QfE c rs m ds a) (QdZ rs a k v):=by unfold Qru;rw[hv];rfl
  have e4:QnU c rs m ds a k v=Qi2 c (QeK c rs m ds a) m (QfE c rs m ds a) (QdZ rs a k v):=by unfold QnU;rw[hv];rfl
  rw[hv]at e3;rw[e1,e2,e4];clear e1 e2 e4;unfold Qmm at hv;rw[KB,KB,KB,Qj,Qj,Qj]at hv;obtain⟨⟨⟨v1,v2,v3⟩,v4,v5⟩,v6,v7⟩:=hv;have t1:=(QaJ v1).1
  obtain⟨n,rfl⟩:=KL v2;obtain⟨j,rfl⟩:=KL v4;obtain⟨c,rfl,c1,c5,h40,hlen⟩:=QQ t1;have hn:n<rs.length:=by omega
  have hln:=hlen n hn
  have hj:j<(rs.getD n []).length:=by omega
  obtain⟨r1,r2,r3⟩:=@Qkm (c:Int) rs m ds n h2 h2' h3';have k1:(QeK (c:Int) rs m ds n).length≤maxLen:=KF r1 (by decide)
  have k2:∀r∈QeK (c:Int) rs m ds n,r.length≤maxLen:=fun r hr=>KF (r2 r hr) (by decide)
  have k3:(QfE (c:Int) rs m ds n).length≤maxLen:=KF r3 (by decide)
  have eU:QdZ rs n j v=(rs.getD n []).set j v:=rfl
  have lU:(rs.getD n []).length≤16777216:=by omega
  have lU2:(rs.getD n []).length≤maxLen:=KF lU (by decide)
  generalize hR:QeK (c:Int) rs m ds n=R at r1 r2 k1 k2 ⊢;generalize hD:QfE (c:Int) rs m ds n=D0 at r3 k3 ⊢;clear v1 t1 hlen;(repeat' first|refine gA fun _=>?_|apply fkI<;>intro hb<;>try simp only[ew,e3,hR,hD,eU,Q9]at hb|simp only[go_sem,simprocAttr, *,Q9])
  all_goals first|rfl|skip
end Go.Own
