/- Contracts. Conditions: as stated. -/
import Derived.Test.YtnmkpepdacbfaaaGreatDoorRp20
import Derived.Test.YtnmkpepdacbfaaaGreatDoorRp28
set_option linter.all false
set_option maxRecDepth 1000000
set_option maxHeartbeats 16000000
namespace Go.Own
open Go Go.Proofs
section
attribute [local go_sem] QA QcM Qd7 Qwn Tryz.results103 QdB QrO QsR Tryz.results81
theorem Qfe{m:Int}{a b:List Int}:∀{n:Nat},agL m a b n=agL m b a n
 | 0=>rfl
 | n+1=>by
  have e:eqc m (a.getD n 0) (b.getD n 0)=eqc m (b.getD n 0) (a.getD n 0):=by
   unfold eqc
   by_cases h:a.getD n 0=b.getD n 0
   ·rw[h]
   ·rw[KU.2 h,KU.2 (Ne.symm h)];simp
  rw[agL,agL,@Qfe m a b n,e]
def agP(m:Int)(c:Nat)(rs:List (List Int))(i:Nat)(k:Nat):List Int:=(rs.take k).map fun o=>agL m (rs.getD i []) o c
def agI(m:Int)(c:Nat)(rs:List (List Int)):Nat→List Int
 | 0=>[]
 | i+1=>agI m c rs i++agP m c rs i i
def agQ(m:Int)(c:Nat)(rs:List (List Int))(i:Nat)(k:Nat):List Int:=((rs.take k).drop (i+1)).map fun o=>agL m (rs.getD i []) o c
def agS(m:Int)(c:Nat)(rs:List (List Int)):Nat→List Int
 | 0=>[]
 | i+1=>agS m c rs i++agQ m c rs i rs.length
def Qii(c:Int)(rs:List (List Int))(m:Int):List Int:=if QP c rs&&QN m then Qa2 (agI m c.toNat rs rs.length)else []
theorem QwC{m:Int}{c:Nat}{rs:List (List Int)}{i k:Nat}(h:k<rs.length):agP m c rs i (k+1)=agP m c rs i k++[agL m (rs.getD i []) (rs.getD k []) c]:=by
 unfold agP;rw[Qf h [],Kv];rfl
theorem QwD{m:Int}{c:Nat}{rs:List (List Int)}{i k:Nat}(hi:i<k)(h:k<rs.length):agQ m c rs i (k+1)=agQ m c rs i k++[agL m (rs.getD i []) (rs.getD k []) c]:=by
 unfold agQ;rw[Qf h [],List.drop_append_of_le_length (by rw[KO];omega),Kv];rfl
theorem Qs7{m:Int}{c:Nat}{rs:List (List Int)}{i:Nat}:agQ m c rs i (i+1)=[]:=by
 unfold agQ;rw[List.drop_eq_nil_of_le (by rw[KO];omega)];rfl
theorem Qs5{m:Int}{c:Nat}{rs:List (List Int)}{i k:Nat}:(agP m c rs i k).length≤k:=by
 unfold agP;rw[KV,KO];omega
theorem Qoc{m:Int}{c:Nat}{rs:List (List Int)}(h:rs.length≤40):∀{i:Nat},i≤rs.length→(agI m c rs i).length≤i*40
 | 0,_=>KP _
 | i+1,hi=>by
  have h1:=@Qoc m c rs h i (by omega)
  have h2:=@Qs5 m c rs i i
  rw[agI,KN];omega
theorem Qs6{m:Int}{c:Nat}{rs:List (List Int)}{i k:Nat}:(agQ m c rs i k).length≤k:=by
 unfold agQ;rw[KV,Kk,KO];omega
theorem Qs8{m:Int}{c:Nat}{rs:List (List Int)}(h:rs.length≤40):∀{i:Nat},(agS m c rs i).length≤i*40
 | 0=>KP _
 | i+1=>by
  have h1:=@Qs8 m c rs h i
  have h2:=@Qs6 m c rs i rs.length
  rw[agS,KN];omega
theorem Qk2{m:Int}{c:Nat}{rs:List (List Int)}{x:Int}:∀{n:Nat},n≤rs.length→(x∈agI m c rs n↔∃i k,k<i∧i<n∧x=agL m (rs.getD i []) (rs.getD k []) c)
 | 0,_=>by simp[agI]
 | n+1,hn=>by
  rw[agI,KG,@Qk2 m c rs x n (by omega)]
  have hP:x∈agP m c rs n n↔∃k,k<n∧x=agL m (rs.getD n []) (rs.getD k []) c:=by
   unfold agP;rw[KQ];constructor
   ·rintro⟨o,ho,rfl⟩
    obtain⟨k,hk,e⟩:=YA ho;rw[KO]at hk;refine⟨k,by omega,?_⟩
    rw[List.getElem_take]at e;have:rs.getD k []=o:=by simp[KD,show k<rs.length by omega,e]
    rw[this]
   ·rintro⟨k,hk,rfl⟩
    refine⟨rs.getD k [],?_,rfl⟩
    have h1:k<(rs.take n).length:=by rw[KO];omega
    have h2:=YJ h1
    rw[List.getElem_take]at h2;have:rs.getD k []=rs[k]'(by omega):=by simp[KD,show k<rs.length by omega]
    rw[this];exact h2
  rw[hP];constructor
  ·rintro(⟨i,k,h1,h2,h3⟩|⟨k,h1,h2⟩)
   ·exact⟨i,k,h1,by omega,h3⟩
   ·exact⟨n,k,h1,by omega,h2⟩
  ·rintro⟨i,k,h1,h2,h3⟩
   by_cases e:i=n
   ·subst e;exact .inr ⟨k,h1,h3⟩
   ·exact .inl ⟨i,k,h1,by omega,h3⟩
theorem Qs9{m:Int}{c:Nat}{rs:List (List Int)}{x:Int}:∀{n:Nat},x∈agS m c rs n↔∃i k,i<k∧k<rs.length∧i<n∧x=agL m (rs.getD i []) (rs.getD k []) c
 | 0=>by simp[agS]
 | n+1=>by
  rw[agS,KG,@Qs9 m c rs x n];have hQ:x∈agQ m c rs n rs.length↔∃k,n<k∧k<rs.length∧x=agL m (rs.getD n []) (rs.getD k []) c:=by
   unfold agQ;rw[KR,KQ];constructor
   ·rintro⟨o,ho,rfl⟩
    obtain⟨k,hk,e⟩:=YA ho;rw[Kk]at hk;refine⟨n+1+k,by omega,by omega,?_⟩
    rw[List.getElem_drop]at e;have:rs.getD (n+1+k) []=o:=by simp[KD,show n+1+k<rs.length by omega,e]
    rw[this]
   ·rintro⟨k,hk,hk2,rfl⟩
    refine⟨rs.getD k [],?_,rfl⟩
    have h1:k-(n+1)<(rs.drop (n+1)).length:=by rw[Kk];omega
    have h2:=YJ h1
    rw[List.getElem_drop]at h2;have:rs.getD k []=rs[n+1+(k-(n+1))]'(by omega):=by
     have e:n+1+(k-(n+1))=k:=by omega
     simp[KD,hk2,e]
    rw[this];exact h2
  rw[hQ];constructor
  ·rintro(⟨i,k,h1,h2,h3,h4⟩|⟨k,h1,h2,h3⟩)
   ·exact⟨i,k,h1,h2,by omega,h4⟩
   ·exact⟨n,k,h1,h2,by omega,h3⟩
  ·rintro⟨i,k,h1,h2,h3,h4⟩
   by_cases e:i=n
   ·subst e;exact .inr ⟨k,h1,h2,h4⟩
   ·exact .inl ⟨i,k,h1,h2,by omega,h4⟩
theorem QC0{m:Int}{c:Nat}{rs:List (List Int)}:Qa2 (agS m c rs rs.length)=Qa2 (agI m c rs rs.length):=by
 refine QbY QaA QaA fun x=>?_
 rw[Qan,Qan,Qk2 (KP _),Qs9];constructor
 ·rintro⟨i,k,h1,h2,h3,h4⟩;exact⟨k,i,h1,h2,by rw[Qfe];exact h4⟩
 ·rintro⟨i,k,h1,h2,h3⟩;exact⟨k,i,h1,h2,by omega,by rw[Qfe];exact h3⟩
theorem Qd5{c:Int}{rs:List (List Int)}{m:Int}:(Qii c rs m).length≤1600∧∀x∈Qii c rs m,0≤x∧x≤31:=by
 unfold Qii;split
 ·rename_i h
  rw[KB]at h;obtain⟨n,rfl,n1,n5,h40,hlen⟩:=QQ h.1;rw[KE];have h1:=@Qoc m n rs h40 rs.length (KP _)
  have h2:=@QaL (agI m n rs rs.length)
  refine⟨by omega,fun x hx=>?_⟩
  rw[Qan,Qk2 (KP _)]at hx;obtain⟨i,k,_,_,rfl⟩:=hx;exact Qbq n5
 ·simp
theorem Qe0{rs:List (List Int)}{i:Nat}:(sL rs).take i=sL (rs.take i):=by simp[sL,List.map_take]
def QsO:Qb:=⟨[],false,fun
 | [.agg [.v (.int .i64 c),.sl 1 l],.one (.v (.int .i64 m))]=>some (WfS l∧ -9223372036854775808≤c∧c≤9223372036854775807,[⟨false,[.own 1 (iL (Qii c (unS l) m)) 1]⟩],[])
 | _=>none⟩
attribute [local go_sem] QsO
theorem Qta:Qa E0 103 QsO:=by
 refine QG (E:=E0) (T:=mkT Tryz.prog [(138,QA),(139,QcM),(144,Qd7),(158,Qwn)] false (fun _=>false) true (fun _=>false)) (Qd (E:=E0) (.cons Qbf (.cons Qci (.cons QhM (.cons Qp9 .nil))))) (fn:=Tryz.f103) Tryz.func103 kR rfl Qc kR rfl ?_
 intro args p rs ms hr;unfold QsO at hr;dsimp only at hr;split at hr;rotate_left
 ·cases hr
 rename_i c l m;cases hr;refine⟨rfl,rfl,nLe rfl,?_⟩
 have hm:=mxE;rintro⟨h1,hc1,hc2⟩ bs;obtain⟨rs,rfl,hx,hy⟩:=h1.ex;clear h1;rw[QB];cases hv:(QP c rs&&QN m)
 ·have e3:(!QP c rs|| !QN m)=true:=by rw[←YS,hv];rfl
  have e:Qii c rs m=[]:=by unfold Qii;rw[hv];rfl
  have e0:iL []=[]:=rfl
  rw[e];clear e hv;(repeat' first|refine gA fun _=>?_|apply fkI<;>intro hb<;>try simp only[ew,e3,e0]at hb|simp only[go_sem,simprocAttr, *])
  all_goals first|rfl|skip
 ·have e3:(!QP c rs|| !QN m)=false:=by rw[←YS,hv];rfl
  have e:Qii c rs m=Qa2 (agI m c.toNat rs rs.length):=by unfold Qii;rw[hv];rfl
  rw[e];clear e;rw[KB]at hv;obtain⟨n,rfl,n1,n5,h40,hlen⟩:=QQ hv.1;rw[KE];have hln:=fun i h=>@Qoc m n rs h40 i h
  have e0:agI m n rs 0=[]:=rfl
  have e1:iL []=[]:=rfl
  clear hv;(repeat' first|refine gA fun _=>?_|apply fkI<;>intro hb<;>try simp only[ew,e3,e1]at hb|simp only[go_sem,simprocAttr, *])
  refine lpI {ι:=Nat,rs:=[(6,8),(9,10),(24,46)],mods:=[(23,fun i=> .one (.d (.v (.int .i64 i)))),(5,fun i=> .one (.own 1 (iL (agI m n rs i)) 1))],boxes:=[(2,fun _=>[.d (.v (.int .i64 n)),.d (.sl 1 (sL rs))])],arrs:=[],ok:=fun i=>i≤rs.length,mu:=fun i=>rs.length-i} rfl 0 (KJ _) ?_ fun i hi=>?_
  ·clear hln hlen
   (repeat' first|refine gA fun _=>?_|apply fkI<;>intro hb<;>try simp only[ew,e0,e1]at hb|simp only[go_sem,simprocAttr, *])
   all_goals first|rfl|skip
  ·dsimp only at i hi
   have l1:=hln i hi
   have l2:(agI m n rs i).length≤1600:=by omega
   have l3:(agI m n rs i).length≤maxLen:=KF l2 (by decide)
   clear hln
   by_cases h5:i<rs.length
   ·have eS:agI m n rs (i+1)=agI m n rs i++agP m n rs i i:=rfl
    have hli:=hlen i h5
    generalize hP:agI m n rs i=P at l1 l2 l3 eS;have e2:P++agP m n rs i 0=P:=by simp[agP]
    have hpl:=fun k=>@Qs5 m n rs i k
    have ht:(rs.take i).length=i:=by rw[KO];omega
    (repeat' first|refine gA fun _=>?_|apply fkI<;>intro hb<;>try simp only[ew,hP,Qe0]at hb|simp only[go_sem,simprocAttr, *,Qe0])
    refine lpI {ι:=Nat,rs:=[(9,10),(34,45)],mods:=[(33,fun k=> .one (.d (.v (.int .i64 k)))),(5,fun k=> .one (.own 1 (iL (P++agP m n rs i k)) 1))],boxes:=[(2,fun _=>[.d (.v (.int .i64 n)),.d (.sl 1 (sL rs))])],arrs:=[],ok:=fun k=>k≤i,mu:=fun k=>i-k} rfl 0 (KJ _) ?_ fun k hk=>?_
    ·clear hpl hlen
     (repeat' first|refine gA fun _=>?_|apply fkI<;>intro hb<;>try simp only[ew,e2,Qe0]at hb|simp only[go_sem,simprocAttr, *,Qe0])
     all_goals first|rfl|skip
    ·dsimp only at k hk
     have q1:=hpl k
     have q2:(P++agP m n rs i k).length≤1640:=by rw[KN];omega
     have q3:(P++agP m n rs i k).length≤maxLen:=KF q2 (by decide)
     clear hpl q1
     by_cases h6:k<i
     ·have eK:=congrArg (fun z=>P++z) (QwC (m:=m) (c:=n) (i:=i) (show k<rs.length by omega))
      try dsimp only at eK
      rw[←Kn]at eK;have hlk:=hlen k (by omega)
      have hgk:(rs.take i).getD k []=rs.getD k []:=by simp[KD,Ky h6]
      have hab:(rs.getD i []).length=(rs.getD k []).length:=by rw[hli,hlk]
      have ha5:(rs.getD i []).length≤5:=by omega
      have hb5:(rs.getD k []).length≤5:=by omega
      have hkt:k<(rs.take i).length:=by omega
      have hmi:(rs.getD i []).length≤maxLen:=KF ha5 (by decide)
      have hmk:(rs.getD k []).length≤maxLen:=KF hb5 (by decide)
      have eL:agL m (rs.getD i []) (rs.getD k []) (rs.getD i []).length=agL m (rs.getD i []) (rs.getD k []) n:=by rw[hli]
      clear hlen;generalize hQ:P++agP m n rs i k=Q at q2 q3 eK;(repeat' first|refine gA fun _=>?_|apply fkI<;>intro hb<;>try simp only[ew,hQ,hgk,eL,Qo]at hb|simp only[go_sem,simprocAttr, *,Qo])
      refine lpQ (k+1) ?_
      (repeat' first|refine gA fun _=>?_|apply fkI<;>intro hb<;>try simp only[ew,hQ,eK,Qo]at hb|simp only[go_sem,simprocAttr, *,Qo])
     ·have e6:k=i:=by omega
      subst e6;clear hlen;(repeat' first|refine gA fun _=>?_|apply fkI<;>intro hb<;>try simp only[ew]at hb|simp only[go_sem,simprocAttr, *])
      refine lpQ (k+1) ?_
      (repeat' first|refine gA fun _=>?_|apply fkI<;>intro hb<;>try simp only[ew,eS]at hb|simp only[go_sem,simprocAttr, *])
   ·have e5:i=rs.length:=by omega
    subst e5;clear hlen;exact gQ
theorem Qtb:Qa E0 81 QsO:=by
 refine QG (E:=E0) (T:=mkT Tryz.prog [(27,QdB),(79,QrO),(69,QsR)] false (fun _=>false) true (fun _=>false)) (Qd (E:=E0) (.cons QdH (.cons Qnh (.cons Qny .nil)))) (fn:=Tryz.f81) Tryz.func81 kR rfl Qc kR rfl ?_
 intro args p rs ms hr;unfold QsO at hr;dsimp only at hr;split at hr;rotate_left
 ·cases hr
 rename_i c l m;cases hr;refine⟨rfl,rfl,nLe rfl,?_⟩
 have hm:=mxE;rintro⟨h1,hc1,hc2⟩ bs;obtain⟨rs,rfl,hx,hy⟩:=h1.ex;clear h1;rw[QB];have e1:iL []=[]:=rfl
 cases hv:(QP c rs&&QN m)
 ·have e:Qii c rs m=[]:=by unfold Qii;rw[hv];rfl
  rw[e];clear e;(repeat' first|refine gA fun _=>?_|apply fkI<;>intro hb<;>try simp only[ew,hv,e1]at hb|simp only[go_sem,simprocAttr, *,hv])
  refine lpI {ι:=Unit,rs:=[(7,8),(9,37)],mods:=[(6,fun _=> .one (.d (.v (.int .i64 0)))),(5,fun _=> .one (.own 1 [] 1))],boxes:=[(2,fun _=>[.d (.v (.int .i64 c)),.d (.sl 1 (sL rs))])],arrs:=[],ok:=fun _=>True,mu:=fun i=>0} rfl () trivial ?_ fun i hi=>?_
  ·(repeat' first|refine gA fun _=>?_|apply fkI<;>intro hb<;>try simp only[ew,e1]at hb|simp only[go_sem,simprocAttr, *])
   all_goals first|rfl|skip
  ·(repeat' first|refine gA fun _=>?_|apply fkI<;>intro hb<;>try simp only[ew,hv,e1]at hb|simp only[go_sem,simprocAttr, *,hv])
   all_goals first|rfl|skip
 ·have e:Qii c rs m=Qa2 (agI m c.toNat rs rs.length):=by unfold Qii;rw[hv];rfl
  rw[e,←QC0];clear e;have hv2:=hv
  rw[KB]at hv2;have ht:=hv2.1
  have hmo:=hv2.2;obtain⟨n,rfl,n1,n5,h40,hlen⟩:=QQ hv2.1;rw[KE];clear hv2 hlen;have hln:=fun i=>@Qs8 m n rs h40 i
  have hdl:=fun xs=>@QaL xs
  have e0:Qa2 (agS m n rs 0)=[]:=rfl
  (repeat' first|refine gA fun _=>?_|apply fkI<;>intro hb<;>try simp only[ew,e1]at hb|simp only[go_sem,simprocAttr, *])
  refine lpI {ι:=Nat,rs:=[(7,8),(9,37)],mods:=[(6,fun i=> .one (.d (.v (.int .i64 i)))),(5,fun i=> .one (.own 1 (iL (Qa2 (agS m n rs i))) 1))],boxes:=[(2,fun _=>[.d (.v (.int .i64 n)),.d (.sl 1 (sL rs))])],arrs:=[],ok:=fun i=>i≤rs.length,mu:=fun i=>rs.length-i} rfl 0 (KJ _) ?_ fun i hi=>?_
  ·clear hln hdl
   (repeat' first|refine gA fun _=>?_|apply fkI<;>intro hb<;>try simp only[ew,e0,e1]at hb|simp only[go_sem,simprocAttr, *])
   all_goals first|rfl|skip
  ·dsimp only at i hi
   have l1:=hln i
   have l2:=hdl (agS m n rs i)
   have l4:(Qa2 (agS m n rs i)).length≤1600:=by omega
   have l5:(Qa2 (agS m n rs i)).length≤maxLen:=KF l4 (by decide)
   by_cases h5:i<rs.length
   ·have eS:agS m n rs (i+1)=agS m n rs i++agQ m n rs i rs.length:=rfl
    generalize hP:agS m n rs i=P at l1 l2 l4 l5 eS;have e2:Qa2 (P++agQ m n rs i (i+1))=Qa2 P:=by rw[Qs7,KM]
    have hql:=fun k=>@Qs6 m n rs i k
    clear hln l2;(repeat' first|refine gA fun _=>?_|apply fkI<;>intro hb<;>try simp only[ew,hP,hv]at hb|simp only[go_sem,simprocAttr, *,hv])
    refine lpI {ι:=Nat,rs:=[(23,37)],mods:=[(7,fun k=> .one (.d (.v (.int .i64 k)))),(5,fun k=> .one (.own 1 (iL (Qa2 (P++agQ m n rs i k))) 1))],boxes:=[(2,fun _=>[.d (.v (.int .i64 n)),.d (.sl 1 (sL rs))])],arrs:=[],ok:=fun k=>i<k∧k≤rs.length,mu:=fun k=>rs.length-k} rfl (i+1) ⟨by omega,by omega⟩ ?_ fun k hk=>?_
    ·clear hql hdl
     (repeat' first|refine gA fun _=>?_|apply fkI<;>intro hb<;>try simp only[ew,e2]at hb|simp only[go_sem,simprocAttr, *])
     all_goals first|rfl|skip
    ·dsimp only at k hk
     obtain⟨hk1,hk⟩:=hk;have q1:=hql k
     have q0:=hdl (P++agQ m n rs i k)
     rw[KN]at q0;have q2:(Qa2 (P++agQ m n rs i k)).length≤1640:=by omega
     have q3:(Qa2 (P++agQ m n rs i k)).length≤maxLen:=KF q2 (by decide)
     clear hql q1 q0 hdl
     by_cases h6:k<rs.length
     ·have eK:=congrArg (fun z=>Qa2 (P++z)) (QwD (m:=m) (c:=n) hk1 h6)
      try dsimp only at eK
      rw[←Kn,Qef]at eK;generalize hQ:Qa2 (P++agQ m n rs i k)=Q at q2 q3 eK;have hpl:=@Qfz Q (agL m (rs.getD i []) (rs.getD k []) n)
      (repeat' first|refine gA fun _=>?_|apply fkI<;>intro hb<;>try simp only[ew,hQ,ht]at hb|simp only[go_sem,simprocAttr, *])
      refine lpN (k+1) ⟨by omega,by omega⟩ (by dsimp only;omega) ?_
      (repeat' first|refine gA fun _=>?_|apply fkI<;>intro hb<;>try simp only[ew,hQ,eK]at hb|simp only[go_sem,simprocAttr, *])
     ·have e6:k=rs.length:=by omega
      subst e6;(repeat' first|refine gA fun _=>?_|apply fkI<;>intro hb<;>try simp only[ew]at hb|simp only[go_sem,simprocAttr, *])
      refine lpQ (i+1) ?_
      (repeat' first|refine gA fun _=>?_|apply fkI<;>intro hb<;>try simp only[ew,eS]at hb|simp only[go_sem,simprocAttr, *])
   ·have e5:i=rs.length:=by omega
    subst e5;clear hln hdl;exact gQ
end
section
attribute [local go_sem] Qke QcL Qcf Tryz.results155 Qax Tryz.results156 Qak Qy7 Tryz.results102 Qh Qg Qae Qag Qaf Qaj Qa7 Qd1 Qv
def QAt(f:Nat)(c1:List D)(p:Int→Int→Bool)(n:Int):Qb:=⟨[],false,fun
 | [.one (.v (.int .i64 m)),.fnc g [d1]]=>some (m=n∧g=f∧d1=c1,[⟨false,[.own 2 (dL (Qa0 p n)) 1]⟩],[])
 | _=>none⟩
attribute [local go_sem] QAt
theorem QE5{f:Nat}{F:List Arg→Option (Prop×List RV×List Arg)}{c1:List D}{p:Int→Int→Bool}{pre:Int→Int→Prop}(hf:Qa E0 f ⟨[],false,F⟩)
  (hF:∀a b,F [.agg [.v (.int .i64 a),.v (.int .i64 b)],.ptr c1]=some (pre a b,[⟨false,[.d (.v (.bool (p a b)))]⟩],[])) (hpre:∀a b:Int,(0≤a∧a≤31)→(0≤b∧b≤4)→pre a b)
  (g1:(f=149)=False) (g2:(f=198)=False) (g3:(f=169)=False) {n:Int} (hn:0≤n∧n≤5):
  Qa E0 155 (QAt f c1 p n):=by
 refine QG (E:=E0) (T:=mkT Tryz.prog [(f,⟨[],false,F⟩),(169,Qke),(149,QcL),(198,Qcf)] false (fun _=>false) true (fun _=>false)) (Qd (E:=E0) (.cons hf (.cons Qo9 (.cons QcA (.cons QgR .nil))))) (fn:=Tryz.f155) Tryz.func155 kR rfl Qc kR rfl ?_
 intro args p rs ms hr;unfold QAt at hr;dsimp only at hr;split at hr;rotate_left
 ·cases hr
 rename_i m g d1;cases hr;refine⟨rfl,rfl,nLe rfl,?_⟩
 have hm:=mxE;rintro⟨rfl,rfl,rfl⟩ bs;obtain⟨n0,n5⟩:=hn;obtain⟨c,rfl⟩:=KL n0;unfold Qa0;rw[KE];obtain⟨P1,P2,P3⟩:=@QH c;have P1':(Q8 c).length≤maxLen:=KF P1 (by decide)
 (repeat' first|refine gA fun _=>?_|apply fkI<;>intro hb<;>try simp only[ew]at hb|simp only[go_sem,simprocAttr, *])
 refine lpI {ι:=Nat,rs:=[(7,8),(9,10),(11,52)],mods:=[(6,fun r=> .one (.d (.v (.int .i64 r)))),(5,fun r=> .one (.own 2 (dL (QbJ p c r)) 1))],boxes:=[],arrs:=[],ok:=fun r=>r≤c,mu:=fun r=>c-r} rfl 0 (KJ _) ?_ fun r hr=>?_
 ·exact gQ
 ·dsimp only at r hr
  by_cases h5:r<c
  ·have hr5:r<5:=by omega
   have l0:=@QaV p c r
   have l1:(QbJ p c r).length≤256:=by omega
   clear l0;(repeat' first|refine gA fun _=>?_|apply fkI<;>intro hb<;>try simp only[ew]at hb|simp only[go_sem,simprocAttr, *])
   refine lpI {ι:=Nat×List Int,rs:=[(9,10),(21,52)],mods:=[(20,fun i=> .one (.d (.v (.int .i64 i.1)))),(7,fun i=> .one (.own 1 (iL i.2) 1)),(5,fun i=> .one (.own 2 (dL (QbJ p c r++i.2.map fun x=>(x,(r:Int)))) 1))],boxes:=[],arrs:=[(18,fun _=>(1,iL (Q8 c),1))],ok:=fun i=>pdI p c r i.1 i.2,mu:=fun i=>(Q8 c).length-i.1} rfl (0,[]) Qgg ?_ ?_
   ·have e1:QbJ p c r++([]:List Int).map (fun x=>(x,(r:Int)))=QbJ p c r:=by simp
    (repeat' first|refine gA fun _=>?_|apply fkI<;>intro hb<;>try simp only[ew,e1]at hb|simp only[go_sem,simprocAttr, *])
    all_goals first|rfl|skip
   ·rintro⟨i,tk⟩ hi
    dsimp only at hi;have hi1:=hi.1
    obtain⟨a1,a2⟩:=QkZ hr5 hi;have a3:tk.length≤maxLen:=KF a2 (by decide)
    by_cases h6:i<(Q8 c).length
    ·obtain⟨x0,x31⟩:=P3 i h6
     have hsk:=Qh6 hi h6
     have htak:=Qh7 hi h6
     generalize hX:(Q8 c).getD i 0=x at x0 x31 hsk htak;have hpr:=hpre x (r:Nat) ⟨x0,x31⟩ ⟨by omega,by omega⟩
     have eT:=@QhK (QbJ p c r) tk x r
     clear hi;generalize hA:QbJ p c r++tk.map (fun x=>(x,(r:Int)))=acc at a1 eT
     cases hg:(!Qu x (r:Nat)&& !Qbc tk x&&p x (r:Nat))
     ·have hsk:=hsk hg
      clear htak eT;(repeat' first|refine gA fun _=>?_|apply fkI<;>intro hb<;>try simp only[ew,hX,hA,hg,hF]at hb|simp only[go_sem,simprocAttr, *,hg,hF])
      refine lpN (i+1,tk) hsk (by dsimp only;omega) ?_
      clear hsk;(repeat' first|refine gA fun _=>?_|apply fkI<;>intro hb<;>try simp only[ew,hA]at hb|simp only[go_sem,simprocAttr, *])
     ·have htak:=htak hg
      clear hsk;(repeat' first|refine gA fun _=>?_|apply fkI<;>intro hb<;>try simp only[ew,hX,hA,hg,hF,Qm,Qo]at hb|simp only[go_sem,simprocAttr, *,hg,hF,Qm,Qo])
      refine lpN (i+1,tk++[x]) htak (by dsimp only;omega) ?_
      clear htak;(repeat' first|refine gA fun _=>?_|apply fkI<;>intro hb<;>try simp only[ew,hX,hA,eT,Qm,Qo]at hb|simp only[go_sem,simprocAttr, *,Qm,Qo])
    ·have e5:i=(Q8 c).length:=by omega
     subst e5;have e2:=Qga hi
     clear hi;(repeat' first|refine gA fun _=>?_|apply fkI<;>intro hb<;>try simp only[ew]at hb|simp only[go_sem,simprocAttr, *])
     refine lpQ (r+1) ?_
     (repeat' first|refine gA fun _=>?_|apply fkI<;>intro hb<;>try simp only[ew,e2]at hb|simp only[go_sem,simprocAttr, *])
  ·have e5:r=c:=by omega
   subst e5;exact gQ
def Qr0(a b x:Int):Bool:= !(Qab a x&& !Qu x b)
def QjM(xs:List Int)(a b:Int):Bool:=xs.all (Qr0 a b)
def QnX(n:Int)(xs:List Int):List (Int×Int):=if inB n 1 5&&xs.all (Ql n)then Qa0 (QjM xs) n else []
def QAq:Qb:=⟨[],false,fun
 | [.agg [.v (.int .i64 a),.v (.int .i64 b)],.ptr [.sl 1 l]]=>some (WfI l∧0≤b∧b≤4,[⟨false,[.d (.v (.bool (QjM (unI l) a b)))]⟩],[])
 | _=>none⟩
attribute [local go_sem] QAq
theorem QAL:Qa E0 156 QAq:=by
 refine QG (E:=E0) (T:=mkT Tryz.prog [(157,Qax),(149,QcL)] false (fun _=>false) true (fun _=>false)) (Qd (E:=E0) (.cons Qbe (.cons QcA .nil))) (fn:=Tryz.f156) Tryz.func156 kR rfl Qc kR rfl ?_
 intro args p rs ms hr;unfold QAq at hr;dsimp only at hr;split at hr;rotate_left
 ·cases hr
 rename_i a b l;cases hr;refine⟨rfl,rfl,nLe rfl,?_⟩
 have hm:=mxE;rintro⟨h1,b0,b4⟩ bs;obtain⟨xs,rfl,hx⟩:=h1.ex;clear h1;rw[QaH];unfold QjM;(repeat' first|refine gA fun _=>?_|apply fkI<;>intro hb<;>try simp only[ew]at hb|simp only[go_sem,simprocAttr, *])
 refine lpI {ι:=Nat,rs:=[(3,4),(5,6),(9,24)],mods:=[(8,fun i=> .one (.d (.v (.int .i64 i))))],boxes:=[(2,fun _=>[.d (.v (.int .i64 a)),.d (.v (.int .i64 b))])],arrs:=[],ok:=fun i=>i≤xs.length∧(xs.drop i).all (Qr0 a b)=xs.all (Qr0 a b),mu:=fun i=>xs.length-i} rfl 0 ⟨KJ _,rfl⟩ ?_ fun i hi=>?_
 ·exact gQ
 ·dsimp only at i hi
  obtain⟨hi,ht⟩:=hi
  by_cases h5:i<xs.length
  ·rw[QaZ h5 0,List.all_cons]at ht
   have hd:Qr0 a b (xs.getD i 0)= !(Qab a (xs.getD i 0)&& !Qu (xs.getD i 0) b):=rfl
   rw[hd,Qbw]at ht;clear hd;cases hA:(QV .andNot .i64 a (xs.getD i 0)==0)
   ·rw[hA,KT,YU,KY]at ht
    (repeat' first|refine gA fun _=>?_|apply fkI<;>intro hb<;>try simp only[ew,hA]at hb|simp only[go_sem,simprocAttr, *,hA])
    refine lpN (i+1) ⟨by omega,ht⟩ (by dsimp only;omega) ?_
    clear ht;(repeat' first|refine gA fun _=>?_|apply fkI<;>intro hb<;>try simp only[ew,hA]at hb|simp only[go_sem,simprocAttr, *,hA])
   ·rw[hA,KY,Bool.not_not]at ht
    cases hB:Qu (xs.getD i 0) b
    ·rw[hB,KT]at ht
     rw[←ht];clear ht;(repeat' first|refine gA fun _=>?_|apply fkI<;>intro hb<;>try simp only[ew,hA,hB]at hb|simp only[go_sem,simprocAttr, *,hA,hB])
     all_goals first|rfl|skip
    ·rw[hB,KY]at ht
     (repeat' first|refine gA fun _=>?_|apply fkI<;>intro hb<;>try simp only[ew,hA,hB]at hb|simp only[go_sem,simprocAttr, *,hA,hB])
     refine lpN (i+1) ⟨by omega,ht⟩ (by dsimp only;omega) ?_
     clear ht;(repeat' first|refine gA fun _=>?_|apply fkI<;>intro hb<;>try simp only[ew,hA,hB]at hb|simp only[go_sem,simprocAttr, *,hA,hB])
  ·have e5:i=xs.length:=by omega
   subst e5;rw[K7,List.all_nil]at ht;rw[←ht];clear ht;exact gQ
def Qea:Qb:=⟨[],false,fun
 | [.one (.v (.int .i64 n)),.fnc f [[.sl 1 l]]]=>some (f=156∧WfI l∧0≤n∧n≤5,[⟨false,[.own 2 (dL (Qa0 (QjM (unI l)) n)) 1]⟩],[])
 | _=>none⟩
theorem Qym:Qa E0 155 Qea:=by
 refine⟨⟨Tryz.f155,Tryz.func155,by kernel_rfl,rfl⟩,?_⟩
 intro args p rs ms hr hp;unfold Qea at hr;dsimp only at hr;split at hr
 ·rename_i n f l
  cases hr;obtain⟨rfl,h1,h0,h5⟩:=hp;exact(QE5 (f:=156) (c1:=[.sl 1 l]) (p:=QjM (unI l)) QAL (fun a b=>rfl) (fun a b ha hb=>⟨h1,hb.1,hb.2⟩) (by simp) (by simp) (by simp) ⟨h0,h5⟩).2 _ _ _ _ rfl ⟨rfl,rfl,rfl⟩
 ·cases hr
def QwW:Qb:=⟨[],false,fun
 | [.one (.v (.int .i64 n)),.one (.sl 1 l)]=>some (WfI l∧ -9223372036854775808≤n∧n≤9223372036854775807,[⟨false,[.own 2 (dL (QnX n (unI l))) 1]⟩],[])
 | _=>none⟩
attribute [local go_sem] QwW
theorem QAM:Qa E0 102 QwW:=by
 refine QG (E:=E0) (T:=mkT Tryz.prog [(155,Qea),(154,Qak),(155,Qy7)] false (fun _=>false) true (fun _=>false)) (Qd (E:=E0) (.cons Qym (.cons QbW (.cons Qo1 .nil)))) (fn:=Tryz.f102) Tryz.func102 kR rfl Qc kR rfl ?_
 intro args p rs ms hr;unfold QwW at hr;dsimp only at hr;split at hr;rotate_left
 ·cases hr
 rename_i n l;cases hr;refine⟨rfl,rfl,nLe rfl,?_⟩
 have hm:=mxE;rintro⟨h1,hn1,hn2⟩ bs;obtain⟨xs,rfl,hx⟩:=h1.ex;clear h1;rw[QaH];have e0:dL []=[]:=rfl
 cases hn:inB n 1 5
 ·have e:QnX n xs=[]:=by unfold QnX;rw[hn];rfl
  have e3:(decide (n<1)||decide (n>5))=true:=by
   cases q:(decide (n<1)||decide (n>5))with
   | true=>rfl
   | false=>
    simp only[Kt,Kl]at q
    rw[←KS,Qj]at hn;omega
  rw[e];clear e hn;(repeat' first|refine gA fun _=>?_|apply fkI<;>intro hb<;>try simp only[ew,e3,e0,Qea]at hb|simp only[go_sem,simprocAttr, *,Qea])
  all_goals first|rfl|skip
 ·rw[Qj]at hn
  have e3:(decide (n<1)||decide (n>5))=false:=by rw[KW (by omega),KW (by omega)];rfl
  have e:QnX n xs=if xs.all (Ql n)then Qa0 (QjM xs) n else []:=by unfold QnX;rw[Qj.2 hn,KY]
  rw[e];clear e;obtain⟨n1,n5⟩:=hn;have n0:0≤n:=by omega
  (repeat' first|refine gA fun _=>?_|apply fkI<;>intro hb<;>try simp only[ew,e3,Qea]at hb|simp only[go_sem,simprocAttr, *,Qea])
  refine lpI {ι:=Nat,rs:=[(4,5),(6,7),(16,24)],mods:=[(15,fun i=> .one (.d (.v (.int .i64 i))))],boxes:=[(3,fun _=>[.d (.sl 1 (iL xs))])],arrs:=[],ok:=fun i=>i≤xs.length∧(xs.drop i).all (Ql n)=xs.all (Ql n),mu:=fun i=>xs.length-i} rfl 0 ⟨KJ _,rfl⟩ ?_ fun i hi=>?_
  ·(repeat' first|refine gA fun _=>?_|apply fkI<;>intro hb<;>try simp only[ew,Qea]at hb|simp only[go_sem,simprocAttr, *,Qea])
   all_goals first|rfl|skip
  ·dsimp only at i hi
   obtain⟨hi,ht⟩:=hi
   by_cases h5:i<xs.length
   ·rw[QaZ h5 0,List.all_cons]at ht
    cases hA:Ql n (xs.getD i 0)
    ·rw[hA,KT]at ht
     rw[←ht,if_neg (by decide)]
     clear ht;(repeat' first|refine gA fun _=>?_|apply fkI<;>intro hb<;>try simp only[ew,hA,e0,Qea]at hb|simp only[go_sem,simprocAttr, *,hA,Qea])
     all_goals first|rfl|skip
    ·rw[hA,KY]at ht
     (repeat' first|refine gA fun _=>?_|apply fkI<;>intro hb<;>try simp only[ew,hA,Qea]at hb|simp only[go_sem,simprocAttr, *,hA,Qea])
     refine lpN (i+1) ⟨by omega,ht⟩ (by dsimp only;omega) ?_
     clear ht;(repeat' first|refine gA fun _=>?_|apply fkI<;>intro hb<;>try simp only[ew,hA,Qea]at hb|simp only[go_sem,simprocAttr, *,hA,Qea])
   ·have e5:i=xs.length:=by omega
    subst e5;rw[K7,List.all_nil]at ht;rw[←ht,if_pos rfl];clear ht;(repeat' first|refine gA fun _=>?_|apply fkI<;>intro hb<;>try simp only[ew,Qea]at hb|simp only[go_sem,simprocAttr, *,Qea])
    all_goals first|rfl|skip
end
attribute [local go_sem] QwW Qbr Qak Qke Qy4 Tryz.results80 Qh Qg Qae Qag Qaf Qaj Qa7 Qd1 Qv
attribute [local go_sem ↓ 10000] Qpl
theorem QAN:Qa E0 80 QwW:=by
 refine QG (E:=E0) (T:=mkT Tryz.prog [(62,Qbr),(66,Qak),(28,Qke),(121,Qy4)] false (fun _=>false) true (fun _=>false)) (Qd (E:=E0) (.cons QcD (.cons Qcq (.cons QlW (.cons Qt5 .nil))))) (fn:=Tryz.f80) Tryz.func80 kR rfl Qc kR rfl ?_
 intro args p rs ms hr;unfold QwW at hr;dsimp only at hr;split at hr;rotate_left
 ·cases hr
 rename_i n l;cases hr;refine⟨rfl,rfl,nLe rfl,?_⟩
 have hm:=mxE;rintro⟨h1,hn1,hn2⟩ bs;obtain⟨xs,rfl,hx⟩:=h1.ex;clear h1;rw[QaH];have e0:dL []=[]:=rfl
 cases hn:inB n 1 5
 ·have e:QnX n xs=[]:=by unfold QnX;rw[hn];rfl
  rw[e];clear e;(repeat' (first|(refine gA fun _=>?_)|(refine Qbb ?_;intro Kx)|(refine fkI (fun hb=>?_) (fun hb=>?_)<;>(try simp only[ew,hn,e0]at hb))|(simp only[go_sem,simprocAttr, *,hn,e0])|(dsimp only[Kx];try clear Kx)))
  all_goals first|rfl|skip
 ·have e:QnX n xs=if xs.all (Ql n)then Qa0 (QjM xs) n else []:=by unfold QnX;rw[hn,KY]
  rw[e];clear e;have hnn:=hn
  rw[Qj]at hnn;obtain⟨n1,n5⟩:=hnn;obtain⟨c,rfl⟩:=KL (show 0≤n by omega)
  obtain⟨P1,P2,P3⟩:=@QH c;have P1':(Q8 c).length≤maxLen:=KF P1 (by decide)
  have hall:∀xs':List Int,xs'=xs→xs'.all (Ql c)=true→∀k,k<xs.length→0≤xs.getD k 0∧xs.getD k 0≤31:=fun xs' e h k hk=>by
   subst e;have:=Qq (Kg.1 h _ (QE hk 0))
   exact this.2.2
  (repeat' (first|(refine gA fun _=>?_)|(refine Qbb ?_;intro Kx)|(refine fkI (fun hb=>?_) (fun hb=>?_)<;>(try simp only[ew,hn,e0]at hb))|(simp only[go_sem,simprocAttr, *,hn,e0])|(dsimp only[Kx];try clear Kx)))
  refine lpI {ι:=Nat,rs:=[(4,5),(18,32)],mods:=[(6,fun i=> .one (.d (.v (.int .i64 i))))],boxes:=[],arrs:=[(5,fun _=>(2,dL [],1))],ok:=fun i=>i≤xs.length∧(xs.drop i).all (Ql c)=xs.all (Ql c),mu:=fun i=>xs.length-i} rfl 0 ⟨KJ _,rfl⟩ ?_ fun i hi=>?_
  ·clear hall P3
   (repeat' (first|(refine gA fun _=>?_)|(refine Qbb ?_;intro Kx)|(refine fkI (fun hb=>?_) (fun hb=>?_)<;>(try simp only[ew,e0]at hb))|(simp only[go_sem,simprocAttr, *,e0])|(dsimp only[Kx];try clear Kx)))
   all_goals first|rfl|skip
  ·dsimp only at i hi
   obtain⟨hi,ht⟩:=hi
   by_cases h5:i<xs.length
   ·rw[QaZ h5 0,List.all_cons]at ht
    cases hA:Ql c (xs.getD i 0)
    ·rw[hA,KT]at ht
     rw[←ht,if_neg (by decide)]
     clear ht hall P3;(repeat' (first|(refine gA fun _=>?_)|(refine Qbb ?_;intro Kx)|(refine fkI (fun hb=>?_) (fun hb=>?_)<;>(try simp only[ew,hA,e0]at hb))|(simp only[go_sem,simprocAttr, *,hA,e0])|(dsimp only[Kx];try clear Kx)))
     all_goals first|rfl|skip
    ·rw[hA,KY]at ht
     clear hall P3;(repeat' (first|(refine gA fun _=>?_)|(refine Qbb ?_;intro Kx)|(refine fkI (fun hb=>?_) (fun hb=>?_)<;>(try simp only[ew,hA,e0]at hb))|(simp only[go_sem,simprocAttr, *,hA,e0])|(dsimp only[Kx];try clear Kx)))
     refine lpN (i+1) ⟨by omega,ht⟩ (by dsimp only;omega) ?_
     clear ht;(repeat' (first|(refine gA fun _=>?_)|(refine Qbb ?_;intro Kx)|(refine fkI (fun hb=>?_) (fun hb=>?_)<;>(try simp only[ew,hA,e0]at hb))|(simp only[go_sem,simprocAttr, *,hA,e0])|(dsimp only[Kx];try clear Kx)))
   ·have e5:i=xs.length:=by omega
    subst e5;rw[K7,List.all_nil]at ht;have hR:=hall xs rfl ht.symm
    rw[←ht,if_pos rfl];clear ht hall;unfold Qa0;rw[KE];have e1:dL (QbJ (QjM xs) c 0)=[]:=rfl
    generalize hX:Q8 (c:Int)=X at P1 P1';(repeat' (first|(refine gA fun _=>?_)|(refine Qbb ?_;intro Kx)|(refine fkI (fun hb=>?_) (fun hb=>?_)<;>(try simp only[ew,hX,e0]at hb))|(simp only[go_sem,simprocAttr, *,hX,e0])|(dsimp only[Kx];try clear Kx)))
    refine lpI {ι:=Nat,rs:=[(9,13),(34,103)],mods:=[(8,fun r=> .one (.d (.v (.int .i64 r)))),(5,fun r=> .one (.own 2 (dL (QbJ (QjM xs) c r)) 1))],boxes:=[],arrs:=[(7,fun _=>(1,iL X,1))],ok:=fun r=>r≤c,mu:=fun r=>c-r} rfl 0 (KJ _) ?_ fun r hr=>?_
    ·clear hR P3
     (repeat' (first|(refine gA fun _=>?_)|(refine Qbb ?_;intro Kx)|(refine fkI (fun hb=>?_) (fun hb=>?_)<;>(try simp only[ew,hX,e0,e1]at hb))|(simp only[go_sem,simprocAttr, *,hX,e0,e1])|(dsimp only[Kx];try clear Kx)))
     all_goals first|rfl|skip
    ·dsimp only at r hr
     have l0:=@QaV (QjM xs) c r
     by_cases h6:r<c
     ·have hr5:r<5:=by omega
      have l1:(QbJ (QjM xs) c r).length≤256:=by omega
      have hp:=p5 (c:=r) hr5
      clear l0;(repeat' (first|(refine gA fun _=>?_)|(refine Qbb ?_;intro Kx)|(refine fkI (fun hb=>?_) (fun hb=>?_)<;>(try simp only[ew]at hb))|(simp only[go_sem,simprocAttr, *])|(dsimp only[Kx];try clear Kx)))
      refine lpI {ι:=Nat×List Int,rs:=[(10,13),(39,103)],mods:=[(9,fun i=> .one (.d (.v (.int .i64 i.1)))),(5,fun i=> .one (.own 2 (dL (QbJ (QjM xs) c r++i.2.map fun x=>(x,(r:Int)))) 1))],boxes:=[],arrs:=[(7,fun _=>(1,iL X,1))],ok:=fun i=>pdI (QjM xs) c r i.1 i.2,mu:=fun i=>X.length-i.1} rfl (0,[]) Qgg ?_ ?_
      ·have e2:QbJ (QjM xs) c r++([]:List Int).map (fun x=>(x,(r:Int)))=QbJ (QjM xs) c r:=by simp
       clear hR P3;(repeat' (first|(refine gA fun _=>?_)|(refine Qbb ?_;intro Kx)|(refine fkI (fun hb=>?_) (fun hb=>?_)<;>(try simp only[ew,e2]at hb))|(simp only[go_sem,simprocAttr, *,e2])|(dsimp only[Kx];try clear Kx)))
       all_goals first|rfl|skip
      ·as_aux_lemma=>
        rintro⟨i,tk⟩ hi;dsimp only at hi;have hi1:=hi.1
        have htk:=hi.2.1
        obtain⟨a1,a2⟩:=QkZ hr5 hi
        by_cases h7:i<(Q8 c).length
        ·obtain⟨x0,x31⟩:=P3 i h7
         have hcv:=@Qt4 (QbJ (QjM xs) c r) tk ((Q8 c).getD i 0) r (fun d hd=>(Qf9 hd).2.1.2) htk ⟨x0,x31⟩
         have hsk:=Qh6 hi h7
         have htak:=Qh7 hi h7
         rw[hX]at h7 hi1;generalize hx0:(Q8 c).getD i 0=x at x0 x31 hcv hsk htak;rw[hX]at hx0;have eh:=Qfq (x:=x) (r:=(r:Nat)) ⟨by omega,by omega⟩ ⟨x0,x31⟩
         rw[KE]at eh;have ep:QjM xs x (r:Nat)=xs.all (Qr0 x (r:Nat)):=rfl
         rw[ep]at hsk htak;have eT:=@QhK (QbJ (QjM xs) c r) tk x r
         have hit:=fun k (hk:k<xs.length)=>QeF hk 0 (Qr0 x (r:Nat))
         have hdt:∀k,k<xs.length→(QV .and .i64 (xs.getD k 0) x !=x||QV .and .i64 ((xs.getD k 0).fdiv (2^r)) 1==1)=Qr0 x (r:Nat) (xs.getD k 0):=fun k hk=>by
          obtain⟨y0,y31⟩:=hR k hk;have q1:=Qk3 (l:=x) (x:=xs.getD k 0) ⟨x0,x31⟩ ⟨y0,y31⟩
          have q2:(QV .and .i64 ((xs.getD k 0).fdiv (2^r)) 1==1)=Qu (xs.getD k 0) (r:Nat):=by unfold Qu;rw[KE]
          rw[q1,q2];unfold Qr0;cases Qab x (xs.getD k 0)<;>cases Qu (xs.getD k 0) (r:Nat)<;>rfl
         clear ep hi htk P3;generalize hA:QbJ (QjM xs) c r++tk.map (fun x=>(x,(r:Int)))=acc at a1 hcv eT
         obtain⟨F0,hF0⟩:∃F0:Bool,(!Qu x (r:Nat)&& !Qbc tk x)=F0:=⟨_,rfl⟩;rw[hF0]at hsk htak;(repeat' (first|(refine gA fun _=>?_)|(refine Qbb ?_;intro Kx)|(refine fkI (fun hb=>?_) (fun hb=>?_)<;>(try simp only[ew,Qi,hx0,hA,eh,hcv,hF0]at hb))|(simp only[go_sem,simprocAttr, *,Qi,hx0,hA,eh,hcv,hF0])|(dsimp only[Kx];try clear Kx)))
         refine lpI {ι:=Nat,rs:=[(65,98)],mods:=[(12,fun k=> .one (.d (.v (.int .i64 k)))),(11,fun k=> .one (.d (.v (.bool (F0&&(xs.take k).all (Qr0 x (r:Nat)))))))],boxes:=[(10,fun _=>[.d (.v (.int .i64 x)),.d (.v (.int .i64 r))])],arrs:=[(5,fun _=>(2,dL acc,1)),(7,fun _=>(1,iL X,1))],ok:=fun k=>k≤xs.length,mu:=fun k=>xs.length-k} rfl 0 (KJ _) ?_ fun k hk=>?_
         ·as_aux_lemma=>
           clear hit hdt hsk htak hR;(repeat' (first|(refine gA fun _=>?_)|(refine Qbb ?_;intro Kx)|(refine fkI (fun hb=>?_) (fun hb=>?_)<;>(try simp only[ew,hF0]at hb))|(simp only[go_sem,simprocAttr, *,hF0])|(dsimp only[Kx];try clear Kx)))
           all_goals first|rfl|(simp;done)|skip
         ·as_aux_lemma=>
           dsimp only at k hk;refine QvD ?_
           intro Qx sx;have s1:sx.sl 1= .one (.d (.sl 1 (iL xs))):=by simp only[sx,go_sem,simprocAttr]
           have s8:sx.sl 8= .one (.d (.v (.int .i64 (r:Nat)))):=by simp only[sx,go_sem,simprocAttr]
           have s9:sx.sl 9= .one (.d (.v (.int .i64 i))):=by simp only[sx,go_sem,simprocAttr]
           have s101:sx.sl 101= .any:=by simp only[sx,go_sem,simprocAttr]
           have s102:sx.sl 102= .any:=by simp only[sx,go_sem,simprocAttr]
           clear_value sx
           by_cases h8:k<xs.length
           ·have et:=congrArg (fun z=>F0&&z) (hit k h8)
            try dsimp only at et
            rw[←Bool.and_assoc,←hdt k h8]at et;clear hit hdt hsk htak hR;generalize hf:(F0&&(xs.take k).all (Qr0 x (r:Nat)))=b0 at et;generalize hy:xs.getD k 0=y at et;as_aux_lemma=>
            (repeat' (first|(refine gA fun _=>?_)|(refine Qbb ?_;intro Kx)|(refine fkI (fun hb=>?_) (fun hb=>?_)<;>(try simp only[ew,Qi,hf,hy,hx0]at hb))|(simp only[go_sem,simprocAttr, *,Qi,hf,hy,hx0])|(dsimp only[Kx];try clear Kx)))
            refine lpQ (k+1) ?_
            (repeat' (first|(refine gA fun _=>?_)|(refine Qbb ?_;intro Kx)|(refine fkI (fun hb=>?_) (fun hb=>?_)<;>(try simp only[ew,hf,et]at hb))|(simp only[go_sem,simprocAttr, *,hf,et])|(dsimp only[Kx];try clear Kx)))
           ·have e8:k=xs.length:=by omega
            subst e8;have eT2:xs.take xs.length=xs:=KR
            clear hit hdt hR;cases hg:(F0&&xs.all (Qr0 x (r:Nat)))
            ·have hsk:=hsk hg
             clear htak;as_aux_lemma=>
             (repeat' (first|(refine gA fun _=>?_)|(refine Qbb ?_;intro Kx)|(refine fkI (fun hb=>?_) (fun hb=>?_)<;>(try simp only[ew,eT2,hg]at hb))|(simp only[go_sem,simprocAttr, *,eT2,hg])|(dsimp only[Kx];try clear Kx)))
             dsimp only[Qx];clear Qx;(repeat' (first|(refine gA fun _=>?_)|(refine Qbb ?_;intro Kx)|(refine fkI (fun hb=>?_) (fun hb=>?_)<;>(try simp only[ew,eT2,hg]at hb))|(simp only[go_sem,simprocAttr, *,eT2,hg])|(dsimp only[Kx];try clear Kx)))
             refine lpN (i+1,tk) hsk (by dsimp only;omega) ?_
             clear hsk;as_aux_lemma=>
             (repeat' (first|(refine gA fun _=>?_)|(refine Qbb ?_;intro Kx)|(refine fkI (fun hb=>?_) (fun hb=>?_)<;>(try simp only[ew,hA]at hb))|(simp only[go_sem,simprocAttr, *,hA])|(dsimp only[Kx];try clear Kx)))
            ·have htak:=htak hg
             clear hsk;as_aux_lemma=>
             (repeat' (first|(refine gA fun _=>?_)|(refine Qbb ?_;intro Kx)|(refine fkI (fun hb=>?_) (fun hb=>?_)<;>(try simp only[ew,eT2,hg,Qm]at hb))|(simp only[go_sem,simprocAttr, *,eT2,hg,Qm])|(dsimp only[Kx];try clear Kx)))
             dsimp only[Qx];clear Qx;(repeat' (first|(refine gA fun _=>?_)|(refine Qbb ?_;intro Kx)|(refine fkI (fun hb=>?_) (fun hb=>?_)<;>(try simp only[ew,eT2,hg,Qm]at hb))|(simp only[go_sem,simprocAttr, *,eT2,hg,Qm])|(dsimp only[Kx];try clear Kx)))
             refine lpN (i+1,tk++[x]) htak (by dsimp only;omega) ?_
             clear htak;as_aux_lemma=>
             (repeat' (first|(refine gA fun _=>?_)|(refine Qbb ?_;intro Kx)|(refine fkI (fun hb=>?_) (fun hb=>?_)<;>(try simp only[ew,hA,eT,Qm]at hb))|(simp only[go_sem,simprocAttr, *,hA,eT,Qm])|(dsimp only[Kx];try clear Kx)))
        ·have e5:i=(Q8 c).length:=by omega
         subst e5;have e2:=Qga hi
         rw[hX]at hi1;clear hi hR P3;(repeat' (first|(refine gA fun _=>?_)|(refine Qbb ?_;intro Kx)|(refine fkI (fun hb=>?_) (fun hb=>?_)<;>(try simp only[ew]at hb))|(simp only[go_sem,simprocAttr, *])|(dsimp only[Kx];try clear Kx)))
         refine lpQ (r+1) ?_
         (repeat' (first|(refine gA fun _=>?_)|(refine Qbb ?_;intro Kx)|(refine fkI (fun hb=>?_) (fun hb=>?_)<;>(try simp only[ew,e2]at hb))|(simp only[go_sem,simprocAttr, *,e2])|(dsimp only[Kx];try clear Kx)))
         all_goals first|rfl|skip
     ·have e6:r=c:=by omega
      subst e6;clear hR P3;(repeat' (first|(refine gA fun _=>?_)|(refine Qbb ?_;intro Kx)|(refine fkI (fun hb=>?_) (fun hb=>?_)<;>(try simp only[ew]at hb))|(simp only[go_sem,simprocAttr, *])|(dsimp only[Kx];try clear Kx)))
      all_goals first|rfl|skip
end Go.Own
