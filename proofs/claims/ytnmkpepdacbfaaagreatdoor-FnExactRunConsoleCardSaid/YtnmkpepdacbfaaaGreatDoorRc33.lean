/- Own contracts. Conditions: as each theorem states them. -/
import Derived.Test.YtnmkpepdacbfaaaGreatDoorRc31
import Derived.Test.YtnmkpepdacbfaaaGreatDoorRc32
set_option linter.unusedSimpArgs false
set_option linter.unusedVariables false
set_option maxRecDepth 20000
set_option maxHeartbeats 2000000
namespace Go.Own
open Go Go.Proofs
attribute [local go_sem] QqE Qcz Qnn QaA QqF Qso Tryz.results40
attribute [local go_sem] Qh Qe Qaa Qac Qab Qaf QaX QdJ Qu QaV
theorem Qtg:Qa E0 40 QqE:=by
 refine QE (E:=E0) (T:=mkT Tryz.prog [(76,Qcz),(77,Qnn),(61,QaA),(79,QqF),(78,Qso)] false (fun _=>false) true (fun d=>d==31)) (Qd (E:=E0) (.cons Qh7 (.cons QnS (.cons Qpy (.cons Qmn (.cons QAr .nil)))))) (fn:=Tryz.f40) Tryz.func40 (by kernel_rfl) rfl Qc (by kernel_rfl) rfl ?_
 intro args p rs ms hr;unfold QqE at hr;dsimp only at hr;split at hr;rotate_left
 ·cases hr
 rename_i c l m q r;cases hr;refine⟨rfl,rfl,nLe rfl,?_⟩
 have hm:=mxE;rintro⟨h1,⟨h2,h2'⟩,h3,h3',h4,hc1,hc2⟩ bs;obtain⟨rs,rfl,hx,hy⟩:=h1.ex;obtain⟨ds,rfl,hd⟩:=h3.ex;obtain⟨row,rfl,hr⟩:=h4.ex;clear h1 h3 h4;rw[Qz]at h2' ⊢;rw[Qh,QaC];rw[Qae]at h2;rw[Qe]at h3';cases hv:Qip c rs m ds row
 ·have e1:Qlw c rs m ds row=rs:=by unfold Qlw;rw[hv];rfl
  have e2:Qlv c rs m ds row=ds:=by unfold Qlv;rw[hv];rfl
  have e3:(!isM c rs m ds|| !QbS row c||decide ((rs.length:Int)≥40))=true:=by
   cases q:(!isM c rs m ds|| !QbS row c||decide ((rs.length:Int)≥40))with
   | true=>rfl
   | false=>
    simp only[Bool.or_eq_false_iff,Bool.not_eq_false',decide_eq_false_iff_not]at q
    unfold Qip at hv;rw[q.1.1,q.1.2,decide_eq_true (by omega)]at hv
    cases hv
  rw[e1,e2];clear e1 e2 hv;(repeat' first|refine gA fun _=>?_|apply fkI<;>intro hb<;>try simp only[ew,e3]at hb|simp only[go_sem,simprocAttr, *])
  all_goals first|rfl|skip
 ·have e1:Qlw c rs m ds row=rs++[row]:=by unfold Qlw;rw[hv];rfl
  have e2:Qlv c rs m ds row=Qjb c m row rs ds:=by unfold Qlv;rw[hv];rfl
  rw[e1,e2];clear e1 e2;unfold Qip at hv;rw[Bool.and_eq_true,Bool.and_eq_true,decide_eq_true_eq]at hv;obtain⟨⟨v1,v2⟩,v3⟩:=hv;obtain⟨t1,t2,t3⟩:=QaD v1;have e3:(!isM c rs m ds|| !QbS row c||decide ((rs.length:Int)≥40))=false:=by
   rw[v1,v2,decide_eq_false (by omega)];rfl
  have tZ:=Qqk t1 v2 v3
  obtain⟨c,rfl,c1,c5,h40,hlen⟩:=QL t1;have hrl:=QmJ v2
  have hrl':row.length=c:=by omega
  have q1:ds.length≤160:=by rw[t3];exact(@Qcq (c:Int) rs m).1
  have hsm:=fun i=>@Qgr (c:Int) m row (rs.take i) ds q1
  have e0:Qjb (c:Int) m row (rs.take 0) ds=ds:=rfl
  have hzl:(rs++[row]).length=rs.length+1:=by simp
  have hzi:∀i,i<rs.length→(rs++[row]).getD i []=rs.getD i []:=fun i h=>by simp[List.getD_eq_getElem?_getD,List.getElem?_append_left h]
  have hzn:(rs++[row]).getD rs.length []=row:=by simp[List.getD_eq_getElem?_getD]
  have hrm:row.length≤maxLen:=by rw[hrl'];exact Nat.le_trans c5 (by decide)
  have hzy:∀r∈rs++[row],r.length≤maxLen:=fun r h=>by
   rcases List.mem_append.1 h with h|h
   ·exact hy r h
   ·rw[List.mem_singleton]at h;rw[h];exact hrm
  have hzm:rs.length+1≤maxLen:=Nat.le_trans (show rs.length+1≤40 by omega) (by decide)
  generalize hZ:rs++[row]=Z at tZ hzl hzi hzn hzy ⊢;clear v1 v2 t1 t2 t3 hlen;(repeat' first|refine gA fun _=>?_|apply fkI<;>intro hb<;>try simp only[ew,e3,Qbb,Q4,hZ]at hb|simp only[go_sem,simprocAttr, *,Qbb,Q4])
  refine lpI {ι:=Nat,rs:=[(44,63)],mods:=[(8,fun i=> .one (.d (.v (.int .i64 i))))],boxes:=[(2,fun _=>[.d (.v (.int .i64 c)),.d (.sl 1 (sL rs)),.d (.v (.int .i64 m)),.d (.sl 2 (dL ds))]),(4,fun _=>[.d (.v (.int .i64 0)),.d (.v (.slice none 0 0)),.d (.v (.int .i64 0)),.d (.v (.slice none 0 0))]),(6,fun i=>[.d (.v (.int .i64 c)),.own 1 (sL Z) 1,.d (.v (.int .i64 m)),.own 2 (dL (Qjb c m row (rs.take i) ds)) 1])],arrs:=[],ok:=fun i=>i≤rs.length,mu:=fun i=>rs.length-i} rfl 0 (Nat.zero_le _) ?_ fun i hi=>?_
  ·clear hsm hzi
   (repeat' first|refine gA fun _=>?_|apply fkI<;>intro hb<;>try simp only[ew,e0,hZ]at hb|simp only[go_sem,simprocAttr, *])
   all_goals first|rfl|skip
  ·dsimp only at i hi
   have s1:=hsm i
   have s2:(Qjb (c:Int) m row (rs.take i) ds).length≤maxLen:=Nat.le_trans s1 (by decide)
   clear hsm
   by_cases h5:i<rs.length
   ·have eS:=Qmg (c:=(c:Int)) (m:=m) (row:=row) (q:=ds) h5
    have hzi:=hzi i h5
    rw[Int.toNat_natCast,Qov,Qx9]at eS;have eS':Qxc (c:Int) (agL m (rs.getD i []) row c) (Qjb (c:Int) m row (rs.take i) ds)=Qjb (c:Int) m row (rs.take (i+1)) ds:=eS.symm
    have hiZ:i<Z.length:=by omega
    have hnZ:rs.length<Z.length:=by omega
    clear eS hZ;generalize hP:Qjb (c:Int) m row (rs.take i) ds=P at s1 s2 eS';generalize hQ:Qjb (c:Int) m row (rs.take (i+1)) ds=Q at eS';(repeat' first|refine gA fun _=>?_|apply fkI<;>intro hb<;>try simp only[ew,hP,hzn]at hb|simp only[go_sem,simprocAttr, *])
    refine lpN (i+1) (by dsimp only;omega) (by dsimp only;omega) ?_
    (repeat' first|refine gA fun _=>?_|apply fkI<;>intro hb<;>try simp only[ew,hP,hQ,hzn,eS']at hb|simp only[go_sem,simprocAttr, *])
   ·have e5:i=rs.length:=by omega
    subst e5;have eT:rs.take rs.length=rs:=List.take_length
    rw[eT]at s1 s2;clear hzi;(repeat' first|refine gA fun _=>?_|apply fkI<;>intro hb<;>try simp only[ew,eT]at hb|simp only[go_sem,simprocAttr, *])
    all_goals first|rfl|skip
end Go.Own
namespace Go.Own
open Go Go.Proofs
attribute [local go_sem] Qnn Qf6 Qcz QdQ QrB QqE Tryz.results96 Qbf Tryz.results46
attribute [local go_sem] Qh Qe Qaa Qac Qab Qaf QaX QdJ Qu QaV
def QlB(c:Int)(rs:List (List Int))(m:Int)(ds:List (Int×Int))(a k v:Int):Bool:=isM c rs m ds&&inB a 0 ((rs.length:Int)-1)&&inB k 0 (c-1)&&inB v (-1) 40
def QdH(rs:List (List Int))(a k v:Int):List Int:=(rs.getD a.toNat []).set k.toNat v
def Qqq(c:Int)(rs:List (List Int))(m:Int)(ds:List (Int×Int))(a k v:Int):List (List Int):=if QlB c rs m ds a k v then Qlw c (Qeo c rs m ds a) m (Qfi c rs m ds a) (QdH rs a k v)else rs
def Qqo(c:Int)(rs:List (List Int))(m:Int)(ds:List (Int×Int))(a k v:Int):List (Int×Int):=if QlB c rs m ds a k v then Qlv c (Qeo c rs m ds a) m (Qfi c rs m ds a) (QdH rs a k v)else ds
def Qm1(c:Int)(rs:List (List Int))(m:Int)(ds:List (Int×Int))(a k v:Int):Bool:=QlB c rs m ds a k v&&Qip c (Qeo c rs m ds a) m (Qfi c rs m ds a) (QdH rs a k v)
def Qvy:Qb:=⟨[],false,fun
 | [.agg [.v (.int .i64 c),.sl 1 l,.v (.int .i64 m),.sl 2 q],.one (.v (.int .i64 a)),.one (.v (.int .i64 k)),.one (.v (.int .i64 v))]=>some (WfS l∧(l.length≤16777216∧∀r∈unS l,r.length≤16777216)∧WfD q∧q.length≤16777216∧ -9223372036854775808≤c∧c≤9223372036854775807,
   [⟨true,[.d (.v (.int .i64 c)),.own 1 (sL (Qqq c (unS l) m (unD q) a k v)) 1,.d (.v (.int .i64 m)),.own 2 (dL (Qqo c (unS l) m (unD q) a k v)) 1]⟩,⟨false,[.d (.v (.bool (Qm1 c (unS l) m (unD q) a k v)))]⟩],[])
 | _=>none⟩
attribute [local go_sem] Qvy
theorem QAI:Qa E0 96 Qvy:=by
 refine QE (E:=E0) (T:=mkT Tryz.prog [(101,Qnn),(147,Qf6),(100,Qcz),(145,QdQ),(56,QrB),(93,QqE)] false (fun _=>false) true (fun _=>false)) (Qd (E:=E0) (.cons QnR (.cons Qta (.cons Qh6 (.cons Qhj (.cons QsN (.cons Qtf .nil))))))) (fn:=Tryz.f96) Tryz.func96 (by kernel_rfl) rfl Qc (by kernel_rfl) rfl ?_
 intro args p rs ms hr;unfold Qvy at hr;dsimp only at hr;split at hr;rotate_left
 ·cases hr
 rename_i c l m q a k v;cases hr;refine⟨rfl,rfl,nLe rfl,?_⟩
 have hm:=mxE;rintro⟨h1,⟨h2,h2'⟩,h3,h3',hc1,hc2⟩ bs;obtain⟨rs,rfl,hx,hy⟩:=h1.ex;obtain⟨ds,rfl,hd⟩:=h3.ex;clear h1 h3;rw[Qz]at h2' ⊢;rw[Qh];rw[Qae]at h2;rw[Qe]at h3';cases hv:QlB c rs m ds a k v
 ·have e1:Qqq c rs m ds a k v=rs:=by unfold Qqq;rw[hv];rfl
  have e2:Qqo c rs m ds a k v=ds:=by unfold Qqo;rw[hv];rfl
  have e4:Qm1 c rs m ds a k v=false:=by unfold Qm1;rw[hv];rfl
  have e3:(!isM c rs m ds||decide (a<0)||decide (a≥(rs.length:Int))|| !(decide (k≥0)&&decide (k<c))||decide (v< -1)||decide (v>40))=true:=by
   cases q:(!isM c rs m ds||decide (a<0)||decide (a≥(rs.length:Int))|| !(decide (k≥0)&&decide (k<c))||decide (v< -1)||decide (v>40))with
   | true=>rfl
   | false=>
    simp only[Bool.or_eq_false_iff,Bool.not_eq_false',decide_eq_false_iff_not,Bool.and_eq_true,decide_eq_true_eq]at q
    unfold QlB at hv;have i1:inB a 0 ((rs.length:Int)-1)=true:=Qi.2 ⟨by omega,by omega⟩
    have i2:inB k 0 (c-1)=true:=Qi.2 ⟨by omega,by omega⟩
    have i3:inB v (-1) 40=true:=Qi.2 ⟨by omega,by omega⟩
    rw[q.1.1.1.1.1,i1,i2,i3]at hv;cases hv
  rw[e1,e2,e4];clear e1 e2 e4 hv;(repeat' first|refine gA fun _=>?_|apply fkI<;>intro hb<;>try simp only[ew,e3]at hb|simp only[go_sem,simprocAttr, *])
  all_goals first|rfl|skip
 ·have e1:Qqq c rs m ds a k v=Qlw c (Qeo c rs m ds a) m (Qfi c rs m ds a) (QdH rs a k v):=by unfold Qqq;rw[hv];rfl
  have e2:Qqo c rs m ds a k v=Qlv c (Qeo c rs m ds a) m (Qfi c rs m ds a) (QdH rs a k v):=by unfold Qqo;rw[hv];rfl
  have e4:Qm1 c rs m ds a k v=Qip c (Qeo c rs m ds a) m (Qfi c rs m ds a) (QdH rs a k v):=by unfold Qm1;rw[hv];rfl
  rw[e1,e2,e4];clear e1 e2 e4;unfold QlB at hv;rw[Bool.and_eq_true,Bool.and_eq_true,Bool.and_eq_true,Qi,Qi,Qi]at hv;obtain⟨⟨⟨v1,v2,v3⟩,v4,v5⟩,v6,v7⟩:=hv;have t1:=(QaD v1).1
  obtain⟨n,rfl⟩:=Int.eq_ofNat_of_zero_le v2;obtain⟨j,rfl⟩:=Int.eq_ofNat_of_zero_le v4;obtain⟨c,rfl,c1,c5,h40,hlen⟩:=QL t1;have hn:n<rs.length:=by omega
  have hln:=hlen n hn
  have hj:j<(rs.getD n []).length:=by omega
  have e3:(!isM (c:Int) rs m ds||decide ((n:Int)<0)||decide (rs.length≤n)|| !decide (j<c)||decide (v< -1)||decide (v>40))=false:=by
   rw[v1,decide_eq_false (show ¬(n:Int)<0 by omega),decide_eq_false (show ¬rs.length≤n by omega),decide_eq_true (show j<c by omega),decide_eq_false (show ¬v< -1 by omega),decide_eq_false (show ¬v>40 by omega)];rfl
  obtain⟨r1,r2,r3⟩:=@QjG (c:Int) rs m ds n h2 h2' h3';have k1:(Qeo (c:Int) rs m ds n).length≤maxLen:=Nat.le_trans r1 (by decide)
  have k2:∀r∈Qeo (c:Int) rs m ds n,r.length≤maxLen:=fun r hr=>Nat.le_trans (r2 r hr) (by decide)
  have k3:(Qfi (c:Int) rs m ds n).length≤maxLen:=Nat.le_trans r3 (by decide)
  have eU:QdH rs n j v=(rs.getD n []).set j v:=rfl
  have lU:(rs.getD n []).length≤16777216:=by omega
  have lU2:(rs.getD n []).length≤maxLen:=Nat.le_trans lU (by decide)
  generalize hR:Qeo (c:Int) rs m ds n=R at r1 r2 k1 k2 ⊢;generalize hD:Qfi (c:Int) rs m ds n=D0 at r3 k3 ⊢;clear v1 t1 hlen;(repeat' first|refine gA fun _=>?_|apply fkI<;>intro hb<;>try simp only[ew,e3,hR,hD,eU,Q4]at hb|simp only[go_sem,simprocAttr, *,Q4])
  all_goals first|rfl|skip
theorem QAJ:Qa E0 46 Qvy:=by
 refine QE (E:=E0) (T:=mkT Tryz.prog [(77,Qnn),(62,Qbf),(76,Qcz),(43,QrB),(40,QqE)] false (fun _=>false) true (fun _=>false)) (Qd (E:=E0) (.cons QnS (.cons Qcp (.cons Qh7 (.cons QsO (.cons Qtg .nil)))))) (fn:=Tryz.f46) Tryz.func46 (by kernel_rfl) rfl Qc (by kernel_rfl) rfl ?_
 intro args p rs ms hr;unfold Qvy at hr;dsimp only at hr;split at hr;rotate_left
 ·cases hr
 rename_i c l m q a k v;cases hr;refine⟨rfl,rfl,nLe rfl,?_⟩
 have hm:=mxE;rintro⟨h1,⟨h2,h2'⟩,h3,h3',hc1,hc2⟩ bs;obtain⟨rs,rfl,hx,hy⟩:=h1.ex;obtain⟨ds,rfl,hd⟩:=h3.ex;clear h1 h3;rw[Qz]at h2' ⊢;rw[Qh];rw[Qae]at h2;rw[Qe]at h3';have e3:(!isM c rs m ds|| !inB a 0 ((rs.length:Int)-1)|| !inB k 0 (c-1)|| !inB v (-1) 40)= !QlB c rs m ds a k v:=by
  unfold QlB;simp only[Bool.not_and]
 cases hv:QlB c rs m ds a k v
 ·have e1:Qqq c rs m ds a k v=rs:=by unfold Qqq;rw[hv];rfl
  have e2:Qqo c rs m ds a k v=ds:=by unfold Qqo;rw[hv];rfl
  have e4:Qm1 c rs m ds a k v=false:=by unfold Qm1;rw[hv];rfl
  rw[hv]at e3;rw[e1,e2,e4];have hcm:isM c rs m ds=true→1≤c:=fun h=>by
   obtain⟨c',rfl,q,_⟩:=QL (QaD h).1;omega
  clear e1 e2 e4 hv;cases hM:isM c rs m ds
  ·clear hcm e3
   (repeat' first|refine gA fun _=>?_|apply fkI<;>intro hb<;>try simp only[ew,hM]at hb|simp only[go_sem,simprocAttr, *,hM])
   all_goals first|rfl|skip
  ·have hc0:=hcm hM
   rw[hM,Bool.not_true,Bool.false_or,Bool.not_false]at e3;clear hcm;(repeat' first|refine gA fun _=>?_|apply fkI<;>intro hb<;>try simp only[ew,e3,hM]at hb|simp only[go_sem,simprocAttr, *,hM])
   all_goals first|rfl|skip
 ·have e1:Qqq c rs m ds a k v=Qlw c (Qeo c rs m ds a) m (Qfi c rs m ds a) (QdH rs a k v):=by unfold Qqq;rw[hv];rfl
  have e2:Qqo c rs m ds a k v=Qlv c (Qeo c rs m ds a) m (Qfi c rs m ds a) (QdH rs a k v):=by unfold Qqo;rw[hv];rfl
  have e4:Qm1 c rs m ds a k v=Qip c (Qeo c rs m ds a) m (Qfi c rs m ds a) (QdH rs a k v):=by unfold Qm1;rw[hv];rfl
  rw[hv]at e3;rw[e1,e2,e4];clear e1 e2 e4;unfold QlB at hv;rw[Bool.and_eq_true,Bool.and_eq_true,Bool.and_eq_true,Qi,Qi,Qi]at hv;obtain⟨⟨⟨v1,v2,v3⟩,v4,v5⟩,v6,v7⟩:=hv;have t1:=(QaD v1).1
  obtain⟨n,rfl⟩:=Int.eq_ofNat_of_zero_le v2;obtain⟨j,rfl⟩:=Int.eq_ofNat_of_zero_le v4;obtain⟨c,rfl,c1,c5,h40,hlen⟩:=QL t1;have hn:n<rs.length:=by omega
  have hln:=hlen n hn
  have hj:j<(rs.getD n []).length:=by omega
  obtain⟨r1,r2,r3⟩:=@QjG (c:Int) rs m ds n h2 h2' h3';have k1:(Qeo (c:Int) rs m ds n).length≤maxLen:=Nat.le_trans r1 (by decide)
  have k2:∀r∈Qeo (c:Int) rs m ds n,r.length≤maxLen:=fun r hr=>Nat.le_trans (r2 r hr) (by decide)
  have k3:(Qfi (c:Int) rs m ds n).length≤maxLen:=Nat.le_trans r3 (by decide)
  have eU:QdH rs n j v=(rs.getD n []).set j v:=rfl
  have lU:(rs.getD n []).length≤16777216:=by omega
  have lU2:(rs.getD n []).length≤maxLen:=Nat.le_trans lU (by decide)
  generalize hR:Qeo (c:Int) rs m ds n=R at r1 r2 k1 k2 ⊢;generalize hD:Qfi (c:Int) rs m ds n=D0 at r3 k3 ⊢;clear v1 t1 hlen;(repeat' first|refine gA fun _=>?_|apply fkI<;>intro hb<;>try simp only[ew,e3,hR,hD,eU,Q4]at hb|simp only[go_sem,simprocAttr, *,Q4])
  all_goals first|rfl|skip
end Go.Own
