/- Own contracts. Conditions: as each theorem states them. -/
import Derived.Test.YtnmkpepdacbfaaaGreatDoorRc21
import Derived.Test.YtnmkpepdacbfaaaGreatDoorRc29
set_option linter.unusedSimpArgs false
set_option linter.unusedVariables false
set_option maxRecDepth 1000000
set_option maxHeartbeats 16000000
namespace Go.Own
open Go Go.Proofs
attribute [local go_sem] Qy Qcw QdP QuR Tryz.results103 Qdh QqF QrC Tryz.results81
theorem QeU{m:Int}{a b:List Int}:∀{n:Nat},agL m a b n=agL m b a n
 | 0=>rfl
 | n+1=>by
  have e:eqc m (a.getD n 0) (b.getD n 0)=eqc m (b.getD n 0) (a.getD n 0):=by
   unfold eqc
   by_cases h:a.getD n 0=b.getD n 0
   ·rw[h]
   ·rw[beq_eq_false_iff_ne.2 h,beq_eq_false_iff_ne.2 (Ne.symm h)];simp
  rw[agL,agL,@QeU m a b n,e]
def agP(m:Int)(c:Nat)(rs:List (List Int))(i:Nat)(k:Nat):List Int:=(rs.take k).map fun o=>agL m (rs.getD i []) o c
def agI(m:Int)(c:Nat)(rs:List (List Int)):Nat→List Int
 | 0=>[]
 | i+1=>agI m c rs i++agP m c rs i i
def agQ(m:Int)(c:Nat)(rs:List (List Int))(i:Nat)(k:Nat):List Int:=((rs.take k).drop (i+1)).map fun o=>agL m (rs.getD i []) o c
def agS(m:Int)(c:Nat)(rs:List (List Int)):Nat→List Int
 | 0=>[]
 | i+1=>agS m c rs i++agQ m c rs i rs.length
def QhM(c:Int)(rs:List (List Int))(m:Int):List Int:=if QK c rs&&QH m then QaS (agI m c.toNat rs rs.length)else []
theorem Qu6{m:Int}{c:Nat}{rs:List (List Int)}{i k:Nat}(h:k<rs.length):agP m c rs i (k+1)=agP m c rs i k++[agL m (rs.getD i []) (rs.getD k []) c]:=by
 unfold agP;rw[Qf h [],List.map_append];rfl
theorem Qu7{m:Int}{c:Nat}{rs:List (List Int)}{i k:Nat}(hi:i<k)(h:k<rs.length):agQ m c rs i (k+1)=agQ m c rs i k++[agL m (rs.getD i []) (rs.getD k []) c]:=by
 unfold agQ;rw[Qf h [],List.drop_append_of_le_length (by rw[List.length_take];omega),List.map_append];rfl
theorem QrU{m:Int}{c:Nat}{rs:List (List Int)}{i:Nat}:agQ m c rs i (i+1)=[]:=by
 unfold agQ;rw[List.drop_eq_nil_of_le (by rw[List.length_take];omega)];rfl
theorem QrS{m:Int}{c:Nat}{rs:List (List Int)}{i k:Nat}:(agP m c rs i k).length≤k:=by
 unfold agP;rw[List.length_map,List.length_take];omega
theorem Qni{m:Int}{c:Nat}{rs:List (List Int)}(h:rs.length≤40):∀{i:Nat},i≤rs.length→(agI m c rs i).length≤i*40
 | 0,_=>Nat.le_refl _
 | i+1,hi=>by
  have h1:=@Qni m c rs h i (by omega)
  have h2:=@QrS m c rs i i
  rw[agI,List.length_append];omega
theorem QrT{m:Int}{c:Nat}{rs:List (List Int)}{i k:Nat}:(agQ m c rs i k).length≤k:=by
 unfold agQ;rw[List.length_map,List.length_drop,List.length_take];omega
theorem QrV{m:Int}{c:Nat}{rs:List (List Int)}(h:rs.length≤40):∀{i:Nat},(agS m c rs i).length≤i*40
 | 0=>Nat.le_refl _
 | i+1=>by
  have h1:=@QrV m c rs h i
  have h2:=@QrT m c rs i rs.length
  rw[agS,List.length_append];omega
theorem Qkj{m:Int}{c:Nat}{rs:List (List Int)}{x:Int}:∀{n:Nat},n≤rs.length→(x∈agI m c rs n↔∃i k,k<i∧i<n∧x=agL m (rs.getD i []) (rs.getD k []) c)
 | 0,_=>by simp[agI]
 | n+1,hn=>by
  rw[agI,List.mem_append,@Qkj m c rs x n (by omega)]
  have hP:x∈agP m c rs n n↔∃k,k<n∧x=agL m (rs.getD n []) (rs.getD k []) c:=by
   unfold agP;rw[List.mem_map];constructor
   ·rintro⟨o,ho,rfl⟩
    obtain⟨k,hk,e⟩:=List.getElem_of_mem ho;rw[List.length_take]at hk;refine⟨k,by omega,?_⟩
    rw[List.getElem_take]at e;have:rs.getD k []=o:=by simp[List.getD_eq_getElem?_getD,show k<rs.length by omega,e]
    rw[this]
   ·rintro⟨k,hk,rfl⟩
    refine⟨rs.getD k [],?_,rfl⟩
    have h1:k<(rs.take n).length:=by rw[List.length_take];omega
    have h2:=List.getElem_mem h1
    rw[List.getElem_take]at h2;have:rs.getD k []=rs[k]'(by omega):=by simp[List.getD_eq_getElem?_getD,show k<rs.length by omega]
    rw[this];exact h2
  rw[hP];constructor
  ·rintro(⟨i,k,h1,h2,h3⟩|⟨k,h1,h2⟩)
   ·exact⟨i,k,h1,by omega,h3⟩
   ·exact⟨n,k,h1,by omega,h2⟩
  ·rintro⟨i,k,h1,h2,h3⟩
   by_cases e:i=n
   ·subst e;exact .inr ⟨k,h1,h3⟩
   ·exact .inl ⟨i,k,h1,by omega,h3⟩
theorem QrW{m:Int}{c:Nat}{rs:List (List Int)}{x:Int}:∀{n:Nat},x∈agS m c rs n↔∃i k,i<k∧k<rs.length∧i<n∧x=agL m (rs.getD i []) (rs.getD k []) c
 | 0=>by simp[agS]
 | n+1=>by
  rw[agS,List.mem_append,@QrW m c rs x n];have hQ:x∈agQ m c rs n rs.length↔∃k,n<k∧k<rs.length∧x=agL m (rs.getD n []) (rs.getD k []) c:=by
   unfold agQ;rw[List.take_length,List.mem_map];constructor
   ·rintro⟨o,ho,rfl⟩
    obtain⟨k,hk,e⟩:=List.getElem_of_mem ho;rw[List.length_drop]at hk;refine⟨n+1+k,by omega,by omega,?_⟩
    rw[List.getElem_drop]at e;have:rs.getD (n+1+k) []=o:=by simp[List.getD_eq_getElem?_getD,show n+1+k<rs.length by omega,e]
    rw[this]
   ·rintro⟨k,hk,hk2,rfl⟩
    refine⟨rs.getD k [],?_,rfl⟩
    have h1:k-(n+1)<(rs.drop (n+1)).length:=by rw[List.length_drop];omega
    have h2:=List.getElem_mem h1
    rw[List.getElem_drop]at h2;have:rs.getD k []=rs[n+1+(k-(n+1))]'(by omega):=by
     have e:n+1+(k-(n+1))=k:=by omega
     simp[List.getD_eq_getElem?_getD,hk2,e]
    rw[this];exact h2
  rw[hQ];constructor
  ·rintro(⟨i,k,h1,h2,h3,h4⟩|⟨k,h1,h2,h3⟩)
   ·exact⟨i,k,h1,h2,by omega,h4⟩
   ·exact⟨n,k,h1,h2,by omega,h3⟩
  ·rintro⟨i,k,h1,h2,h3,h4⟩
   by_cases e:i=n
   ·subst e;exact .inr ⟨k,h1,h2,h4⟩
   ·exact .inl ⟨i,k,h1,h2,by omega,h4⟩
theorem QBb{m:Int}{c:Nat}{rs:List (List Int)}:QaS (agS m c rs rs.length)=QaS (agI m c rs rs.length):=by
 refine QbL Qat Qat fun x=>?_
 rw[Qai,Qai,Qkj (Nat.le_refl _),QrW];constructor
 ·rintro⟨i,k,h1,h2,h3,h4⟩;exact⟨k,i,h1,h2,by rw[QeU];exact h4⟩
 ·rintro⟨i,k,h1,h2,h3⟩;exact⟨k,i,h1,h2,by omega,by rw[QeU];exact h3⟩
theorem QdM{c:Int}{rs:List (List Int)}{m:Int}:(QhM c rs m).length≤1600∧∀x∈QhM c rs m,0≤x∧x≤31:=by
 unfold QhM;split
 ·rename_i h
  rw[Bool.and_eq_true]at h;obtain⟨n,rfl,n1,n5,h40,hlen⟩:=QL h.1;rw[Int.toNat_natCast];have h1:=@Qni m n rs h40 rs.length (Nat.le_refl _)
  have h2:=@QaE (agI m n rs rs.length)
  refine⟨by omega,fun x hx=>?_⟩
  rw[Qai,Qkj (Nat.le_refl _)]at hx;obtain⟨i,k,_,_,rfl⟩:=hx;exact Qbe n5
 ·simp
theorem QeD{rs:List (List Int)}{i:Nat}:(sL rs).take i=sL (rs.take i):=by simp[sL,List.map_take]
def Qrz:Qb:=⟨[],false,fun
 | [.agg [.v (.int .i64 c),.sl 1 l],.one (.v (.int .i64 m))]=>some (WfS l∧ -9223372036854775808≤c∧c≤9223372036854775807,[⟨false,[.own 1 (iL (QhM c (unS l) m)) 1]⟩],[])
 | _=>none⟩
attribute [local go_sem] Qrz
theorem QrX:Qa E0 103 Qrz:=by
 refine QE (E:=E0) (T:=mkT Tryz.prog [(138,Qy),(139,Qcw),(144,QdP),(158,QuR)] false (fun _=>false) true (fun _=>false)) (Qd (E:=E0) (.cons Qa5 (.cons Qb2 (.cons Qhe (.cons Qo6 .nil))))) (fn:=Tryz.f103) Tryz.func103 (by kernel_rfl) rfl Qc (by kernel_rfl) rfl ?_
 intro args p rs ms hr;unfold Qrz at hr;dsimp only at hr;split at hr;rotate_left
 ·cases hr
 rename_i c l m;cases hr;refine⟨rfl,rfl,nLe rfl,?_⟩
 have hm:=mxE;rintro⟨h1,hc1,hc2⟩ bs;obtain⟨rs,rfl,hx,hy⟩:=h1.ex;clear h1;rw[Qz];cases hv:(QK c rs&&QH m)
 ·have e3:(!QK c rs|| !QH m)=true:=by rw[←Bool.not_and,hv];rfl
  have e:QhM c rs m=[]:=by unfold QhM;rw[hv];rfl
  have e0:iL []=[]:=rfl
  rw[e];clear e hv;(repeat' first|refine gA fun _=>?_|apply fkI<;>intro hb<;>try simp only[ew,e3,e0]at hb|simp only[go_sem,simprocAttr, *])
  all_goals first|rfl|skip
 ·have e3:(!QK c rs|| !QH m)=false:=by rw[←Bool.not_and,hv];rfl
  have e:QhM c rs m=QaS (agI m c.toNat rs rs.length):=by unfold QhM;rw[hv];rfl
  rw[e];clear e;rw[Bool.and_eq_true]at hv;obtain⟨n,rfl,n1,n5,h40,hlen⟩:=QL hv.1;rw[Int.toNat_natCast];have hln:=fun i h=>@Qni m n rs h40 i h
  have e0:agI m n rs 0=[]:=rfl
  have e1:iL []=[]:=rfl
  clear hv;(repeat' first|refine gA fun _=>?_|apply fkI<;>intro hb<;>try simp only[ew,e3,e1]at hb|simp only[go_sem,simprocAttr, *])
  refine lpI {ι:=Nat,rs:=[(6,8),(9,10),(24,46)],mods:=[(23,fun i=> .one (.d (.v (.int .i64 i)))),(5,fun i=> .one (.own 1 (iL (agI m n rs i)) 1))],boxes:=[(2,fun _=>[.d (.v (.int .i64 n)),.d (.sl 1 (sL rs))])],arrs:=[],ok:=fun i=>i≤rs.length,mu:=fun i=>rs.length-i} rfl 0 (Nat.zero_le _) ?_ fun i hi=>?_
  ·clear hln hlen
   (repeat' first|refine gA fun _=>?_|apply fkI<;>intro hb<;>try simp only[ew,e0,e1]at hb|simp only[go_sem,simprocAttr, *])
   all_goals first|rfl|skip
  ·dsimp only at i hi
   have l1:=hln i hi
   have l2:(agI m n rs i).length≤1600:=by omega
   have l3:(agI m n rs i).length≤maxLen:=Nat.le_trans l2 (by decide)
   clear hln
   by_cases h5:i<rs.length
   ·have eS:agI m n rs (i+1)=agI m n rs i++agP m n rs i i:=rfl
    have hli:=hlen i h5
    generalize hP:agI m n rs i=P at l1 l2 l3 eS;have e2:P++agP m n rs i 0=P:=by simp[agP]
    have hpl:=fun k=>@QrS m n rs i k
    have ht:(rs.take i).length=i:=by rw[List.length_take];omega
    (repeat' first|refine gA fun _=>?_|apply fkI<;>intro hb<;>try simp only[ew,hP,QeD]at hb|simp only[go_sem,simprocAttr, *,QeD])
    refine lpI {ι:=Nat,rs:=[(9,10),(34,45)],mods:=[(33,fun k=> .one (.d (.v (.int .i64 k)))),(5,fun k=> .one (.own 1 (iL (P++agP m n rs i k)) 1))],boxes:=[(2,fun _=>[.d (.v (.int .i64 n)),.d (.sl 1 (sL rs))])],arrs:=[],ok:=fun k=>k≤i,mu:=fun k=>i-k} rfl 0 (Nat.zero_le _) ?_ fun k hk=>?_
    ·clear hpl hlen
     (repeat' first|refine gA fun _=>?_|apply fkI<;>intro hb<;>try simp only[ew,e2,QeD]at hb|simp only[go_sem,simprocAttr, *,QeD])
     all_goals first|rfl|skip
    ·dsimp only at k hk
     have q1:=hpl k
     have q2:(P++agP m n rs i k).length≤1640:=by rw[List.length_append];omega
     have q3:(P++agP m n rs i k).length≤maxLen:=Nat.le_trans q2 (by decide)
     clear hpl q1
     by_cases h6:k<i
     ·have eK:=congrArg (fun z=>P++z) (Qu6 (m:=m) (c:=n) (i:=i) (show k<rs.length by omega))
      try dsimp only at eK
      rw[←List.append_assoc]at eK;have hlk:=hlen k (by omega)
      have hgk:(rs.take i).getD k []=rs.getD k []:=by simp[List.getD_eq_getElem?_getD,List.getElem?_take_of_lt h6]
      have hab:(rs.getD i []).length=(rs.getD k []).length:=by rw[hli,hlk]
      have ha5:(rs.getD i []).length≤5:=by omega
      have hb5:(rs.getD k []).length≤5:=by omega
      have hkt:k<(rs.take i).length:=by omega
      have hmi:(rs.getD i []).length≤maxLen:=Nat.le_trans ha5 (by decide)
      have hmk:(rs.getD k []).length≤maxLen:=Nat.le_trans hb5 (by decide)
      have eL:agL m (rs.getD i []) (rs.getD k []) (rs.getD i []).length=agL m (rs.getD i []) (rs.getD k []) n:=by rw[hli]
      clear hlen;generalize hQ:P++agP m n rs i k=Q at q2 q3 eK;(repeat' first|refine gA fun _=>?_|apply fkI<;>intro hb<;>try simp only[ew,hQ,hgk,eL,Qo]at hb|simp only[go_sem,simprocAttr, *,Qo])
      refine lpN (k+1) (by dsimp only;omega) (by dsimp only;omega) ?_
      (repeat' first|refine gA fun _=>?_|apply fkI<;>intro hb<;>try simp only[ew,hQ,eK,Qo]at hb|simp only[go_sem,simprocAttr, *,Qo])
     ·have e6:k=i:=by omega
      subst e6;clear hlen;(repeat' first|refine gA fun _=>?_|apply fkI<;>intro hb<;>try simp only[ew]at hb|simp only[go_sem,simprocAttr, *])
      refine lpN (k+1) (by dsimp only;omega) (by dsimp only;omega) ?_
      (repeat' first|refine gA fun _=>?_|apply fkI<;>intro hb<;>try simp only[ew,eS]at hb|simp only[go_sem,simprocAttr, *])
   ·have e5:i=rs.length:=by omega
    subst e5;clear hlen;exact gQ
theorem QrY:Qa E0 81 Qrz:=by
 refine QE (E:=E0) (T:=mkT Tryz.prog [(27,Qdh),(79,QqF),(69,QrC)] false (fun _=>false) true (fun _=>false)) (Qd (E:=E0) (.cons Qdn (.cons Qmn (.cons QmF .nil)))) (fn:=Tryz.f81) Tryz.func81 (by kernel_rfl) rfl Qc (by kernel_rfl) rfl ?_
 intro args p rs ms hr;unfold Qrz at hr;dsimp only at hr;split at hr;rotate_left
 ·cases hr
 rename_i c l m;cases hr;refine⟨rfl,rfl,nLe rfl,?_⟩
 have hm:=mxE;rintro⟨h1,hc1,hc2⟩ bs;obtain⟨rs,rfl,hx,hy⟩:=h1.ex;clear h1;rw[Qz];have e1:iL []=[]:=rfl
 cases hv:(QK c rs&&QH m)
 ·have e:QhM c rs m=[]:=by unfold QhM;rw[hv];rfl
  rw[e];clear e;(repeat' first|refine gA fun _=>?_|apply fkI<;>intro hb<;>try simp only[ew,hv,e1]at hb|simp only[go_sem,simprocAttr, *,hv])
  refine lpI {ι:=Unit,rs:=[(7,8),(9,37)],mods:=[(6,fun _=> .one (.d (.v (.int .i64 0)))),(5,fun _=> .one (.own 1 [] 1))],boxes:=[(2,fun _=>[.d (.v (.int .i64 c)),.d (.sl 1 (sL rs))])],arrs:=[],ok:=fun _=>True,mu:=fun i=>0} rfl () trivial ?_ fun i hi=>?_
  ·(repeat' first|refine gA fun _=>?_|apply fkI<;>intro hb<;>try simp only[ew,e1]at hb|simp only[go_sem,simprocAttr, *])
   all_goals first|rfl|skip
  ·(repeat' first|refine gA fun _=>?_|apply fkI<;>intro hb<;>try simp only[ew,hv,e1]at hb|simp only[go_sem,simprocAttr, *,hv])
   all_goals first|rfl|skip
 ·have e:QhM c rs m=QaS (agI m c.toNat rs rs.length):=by unfold QhM;rw[hv];rfl
  rw[e,←QBb];clear e;have hv2:=hv
  rw[Bool.and_eq_true]at hv2;have ht:=hv2.1
  have hmo:=hv2.2;obtain⟨n,rfl,n1,n5,h40,hlen⟩:=QL hv2.1;rw[Int.toNat_natCast];clear hv2 hlen;have hln:=fun i=>@QrV m n rs h40 i
  have hdl:=fun xs=>@QaE xs
  have e0:QaS (agS m n rs 0)=[]:=rfl
  (repeat' first|refine gA fun _=>?_|apply fkI<;>intro hb<;>try simp only[ew,e1]at hb|simp only[go_sem,simprocAttr, *])
  refine lpI {ι:=Nat,rs:=[(7,8),(9,37)],mods:=[(6,fun i=> .one (.d (.v (.int .i64 i)))),(5,fun i=> .one (.own 1 (iL (QaS (agS m n rs i))) 1))],boxes:=[(2,fun _=>[.d (.v (.int .i64 n)),.d (.sl 1 (sL rs))])],arrs:=[],ok:=fun i=>i≤rs.length,mu:=fun i=>rs.length-i} rfl 0 (Nat.zero_le _) ?_ fun i hi=>?_
  ·clear hln hdl
   (repeat' first|refine gA fun _=>?_|apply fkI<;>intro hb<;>try simp only[ew,e0,e1]at hb|simp only[go_sem,simprocAttr, *])
   all_goals first|rfl|skip
  ·dsimp only at i hi
   have l1:=hln i
   have l2:=hdl (agS m n rs i)
   have l4:(QaS (agS m n rs i)).length≤1600:=by omega
   have l5:(QaS (agS m n rs i)).length≤maxLen:=Nat.le_trans l4 (by decide)
   by_cases h5:i<rs.length
   ·have eS:agS m n rs (i+1)=agS m n rs i++agQ m n rs i rs.length:=rfl
    generalize hP:agS m n rs i=P at l1 l2 l4 l5 eS;have e2:QaS (P++agQ m n rs i (i+1))=QaS P:=by rw[QrU,List.append_nil]
    have hql:=fun k=>@QrT m n rs i k
    clear hln l2;(repeat' first|refine gA fun _=>?_|apply fkI<;>intro hb<;>try simp only[ew,hP,hv]at hb|simp only[go_sem,simprocAttr, *,hv])
    refine lpI {ι:=Nat,rs:=[(23,37)],mods:=[(7,fun k=> .one (.d (.v (.int .i64 k)))),(5,fun k=> .one (.own 1 (iL (QaS (P++agQ m n rs i k))) 1))],boxes:=[(2,fun _=>[.d (.v (.int .i64 n)),.d (.sl 1 (sL rs))])],arrs:=[],ok:=fun k=>i<k∧k≤rs.length,mu:=fun k=>rs.length-k} rfl (i+1) ⟨by omega,by omega⟩ ?_ fun k hk=>?_
    ·clear hql hdl
     (repeat' first|refine gA fun _=>?_|apply fkI<;>intro hb<;>try simp only[ew,e2]at hb|simp only[go_sem,simprocAttr, *])
     all_goals first|rfl|skip
    ·dsimp only at k hk
     obtain⟨hk1,hk⟩:=hk;have q1:=hql k
     have q0:=hdl (P++agQ m n rs i k)
     rw[List.length_append]at q0;have q2:(QaS (P++agQ m n rs i k)).length≤1640:=by omega
     have q3:(QaS (P++agQ m n rs i k)).length≤maxLen:=Nat.le_trans q2 (by decide)
     clear hql q1 q0 hdl
     by_cases h6:k<rs.length
     ·have eK:=congrArg (fun z=>QaS (P++z)) (Qu7 (m:=m) (c:=n) hk1 h6)
      try dsimp only at eK
      rw[←List.append_assoc,QdX]at eK;generalize hQ:QaS (P++agQ m n rs i k)=Q at q2 q3 eK;have hpl:=@Qfe Q (agL m (rs.getD i []) (rs.getD k []) n)
      (repeat' first|refine gA fun _=>?_|apply fkI<;>intro hb<;>try simp only[ew,hQ,ht]at hb|simp only[go_sem,simprocAttr, *])
      refine lpN (k+1) ⟨by omega,by omega⟩ (by dsimp only;omega) ?_
      (repeat' first|refine gA fun _=>?_|apply fkI<;>intro hb<;>try simp only[ew,hQ,eK]at hb|simp only[go_sem,simprocAttr, *])
     ·have e6:k=rs.length:=by omega
      subst e6;(repeat' first|refine gA fun _=>?_|apply fkI<;>intro hb<;>try simp only[ew]at hb|simp only[go_sem,simprocAttr, *])
      refine lpN (i+1) (by dsimp only;omega) (by dsimp only;omega) ?_
      (repeat' first|refine gA fun _=>?_|apply fkI<;>intro hb<;>try simp only[ew,eS]at hb|simp only[go_sem,simprocAttr, *])
   ·have e5:i=rs.length:=by omega
    subst e5;clear hln hdl;exact gQ
end Go.Own
namespace Go.Own
open Go Go.Proofs
attribute [local go_sem] Qjy Qcv QbZ Tryz.results155 Qar Tryz.results156 Qag Qxw Tryz.results102
attribute [local go_sem] Qh Qe Qaa Qac Qab Qaf QaX QdJ Qu
def QyP(f:Nat)(c1:List D)(p:Int→Int→Bool)(n:Int):Qb:=⟨[],false,fun
 | [.one (.v (.int .i64 m)),.fnc g [d1]]=>some (m=n∧g=f∧d1=c1,[⟨false,[.own 2 (dL (QaR p n)) 1]⟩],[])
 | _=>none⟩
attribute [local go_sem] QyP
theorem QCW{f:Nat}{F:List Arg→Option (Prop×List RV×List Arg)}{c1:List D}{p:Int→Int→Bool}{pre:Int→Int→Prop}(hf:Qa E0 f ⟨[],false,F⟩)
  (hF:∀a b,F [.agg [.v (.int .i64 a),.v (.int .i64 b)],.ptr c1]=some (pre a b,[⟨false,[.d (.v (.bool (p a b)))]⟩],[])) (hpre:∀a b:Int,(0≤a∧a≤31)→(0≤b∧b≤4)→pre a b)
  (g1:(f=149)=False) (g2:(f=198)=False) (g3:(f=169)=False) {n:Int} (hn:0≤n∧n≤5):
  Qa E0 155 (QyP f c1 p n):=by
 refine QE (E:=E0) (T:=mkT Tryz.prog [(f,⟨[],false,F⟩),(169,Qjy),(149,Qcv),(198,QbZ)] false (fun _=>false) true (fun _=>false)) (Qd (E:=E0) (.cons hf (.cons Qn9 (.cons Qcm (.cons Qgq .nil))))) (fn:=Tryz.f155) Tryz.func155 (by kernel_rfl) rfl Qc (by kernel_rfl) rfl ?_
 intro args p rs ms hr;unfold QyP at hr;dsimp only at hr;split at hr;rotate_left
 ·cases hr
 rename_i m g d1;cases hr;refine⟨rfl,rfl,nLe rfl,?_⟩
 have hm:=mxE;rintro⟨rfl,rfl,rfl⟩ bs;obtain⟨n0,n5⟩:=hn;obtain⟨c,rfl⟩:=Int.eq_ofNat_of_zero_le n0;unfold QaR;rw[Int.toNat_natCast];obtain⟨P1,P2,P3⟩:=@QD c;have P1':(Q3 c).length≤maxLen:=Nat.le_trans P1 (by decide)
 (repeat' first|refine gA fun _=>?_|apply fkI<;>intro hb<;>try simp only[ew]at hb|simp only[go_sem,simprocAttr, *])
 refine lpI {ι:=Nat,rs:=[(7,8),(9,10),(11,52)],mods:=[(6,fun r=> .one (.d (.v (.int .i64 r)))),(5,fun r=> .one (.own 2 (dL (Qbx p c r)) 1))],boxes:=[],arrs:=[],ok:=fun r=>r≤c,mu:=fun r=>c-r} rfl 0 (Nat.zero_le _) ?_ fun r hr=>?_
 ·exact gQ
 ·dsimp only at r hr
  by_cases h5:r<c
  ·have hr5:r<5:=by omega
   have l0:=@QaM p c r
   have l1:(Qbx p c r).length≤256:=by omega
   clear l0;(repeat' first|refine gA fun _=>?_|apply fkI<;>intro hb<;>try simp only[ew]at hb|simp only[go_sem,simprocAttr, *])
   refine lpI {ι:=Nat×List Int,rs:=[(9,10),(21,52)],mods:=[(20,fun i=> .one (.d (.v (.int .i64 i.1)))),(7,fun i=> .one (.own 1 (iL i.2) 1)),(5,fun i=> .one (.own 2 (dL (Qbx p c r++i.2.map fun x=>(x,(r:Int)))) 1))],boxes:=[],arrs:=[(18,fun _=>(1,iL (Q3 c),1))],ok:=fun i=>pdI p c r i.1 i.2,mu:=fun i=>(Q3 c).length-i.1} rfl (0,[]) QfP ?_ ?_
   ·have e1:Qbx p c r++([]:List Int).map (fun x=>(x,(r:Int)))=Qbx p c r:=by simp
    (repeat' first|refine gA fun _=>?_|apply fkI<;>intro hb<;>try simp only[ew,e1]at hb|simp only[go_sem,simprocAttr, *])
    all_goals first|rfl|skip
   ·rintro⟨i,tk⟩ hi
    dsimp only at hi;have hi1:=hi.1
    obtain⟨a1,a2⟩:=Qkg hr5 hi;have a3:tk.length≤maxLen:=Nat.le_trans a2 (by decide)
    by_cases h6:i<(Q3 c).length
    ·obtain⟨x0,x31⟩:=P3 i h6
     have hsk:=QhA hi h6
     have htak:=QhB hi h6
     generalize hX:(Q3 c).getD i 0=x at x0 x31 hsk htak;have hpr:=hpre x (r:Nat) ⟨x0,x31⟩ ⟨by omega,by omega⟩
     have eT:=@Qhc (Qbx p c r) tk x r
     clear hi;generalize hA:Qbx p c r++tk.map (fun x=>(x,(r:Int)))=acc at a1 eT
     cases hg:(!Qt x (r:Nat)&& !Qa2 tk x&&p x (r:Nat))
     ·have hsk:=hsk hg
      clear htak eT;(repeat' first|refine gA fun _=>?_|apply fkI<;>intro hb<;>try simp only[ew,hX,hA,hg,hF]at hb|simp only[go_sem,simprocAttr, *,hg,hF])
      refine lpN (i+1,tk) hsk (by dsimp only;omega) ?_
      clear hsk;(repeat' first|refine gA fun _=>?_|apply fkI<;>intro hb<;>try simp only[ew,hA]at hb|simp only[go_sem,simprocAttr, *])
     ·have htak:=htak hg
      clear hsk;(repeat' first|refine gA fun _=>?_|apply fkI<;>intro hb<;>try simp only[ew,hX,hA,hg,hF,Qm,Qo]at hb|simp only[go_sem,simprocAttr, *,hg,hF,Qm,Qo])
      refine lpN (i+1,tk++[x]) htak (by dsimp only;omega) ?_
      clear htak;(repeat' first|refine gA fun _=>?_|apply fkI<;>intro hb<;>try simp only[ew,hX,hA,eT,Qm,Qo]at hb|simp only[go_sem,simprocAttr, *,Qm,Qo])
    ·have e5:i=(Q3 c).length:=by omega
     subst e5;have e2:=QfL hi
     clear hi;(repeat' first|refine gA fun _=>?_|apply fkI<;>intro hb<;>try simp only[ew]at hb|simp only[go_sem,simprocAttr, *])
     refine lpN (r+1) (by dsimp only;omega) (by dsimp only;omega) ?_
     (repeat' first|refine gA fun _=>?_|apply fkI<;>intro hb<;>try simp only[ew,e2]at hb|simp only[go_sem,simprocAttr, *])
  ·have e5:r=c:=by omega
   subst e5;exact gQ
def QqQ(a b x:Int):Bool:= !(Q7 a x&& !Qt x b)
def Qi9(xs:List Int)(a b:Int):Bool:=xs.all (QqQ a b)
def Qm5(n:Int)(xs:List Int):List (Int×Int):=if inB n 1 5&&xs.all (Ql n)then QaR (Qi9 xs) n else []
def QyM:Qb:=⟨[],false,fun
 | [.agg [.v (.int .i64 a),.v (.int .i64 b)],.ptr [.sl 1 l]]=>some (WfI l∧0≤b∧b≤4,[⟨false,[.d (.v (.bool (Qi9 (unI l) a b)))]⟩],[])
 | _=>none⟩
attribute [local go_sem] QyM
theorem Qy4:Qa E0 156 QyM:=by
 refine QE (E:=E0) (T:=mkT Tryz.prog [(157,Qar),(149,Qcv)] false (fun _=>false) true (fun _=>false)) (Qd (E:=E0) (.cons Qa4 (.cons Qcm .nil))) (fn:=Tryz.f156) Tryz.func156 (by kernel_rfl) rfl Qc (by kernel_rfl) rfl ?_
 intro args p rs ms hr;unfold QyM at hr;dsimp only at hr;split at hr;rotate_left
 ·cases hr
 rename_i a b l;cases hr;refine⟨rfl,rfl,nLe rfl,?_⟩
 have hm:=mxE;rintro⟨h1,b0,b4⟩ bs;obtain⟨xs,rfl,hx⟩:=h1.ex;clear h1;rw[QaC];unfold Qi9;(repeat' first|refine gA fun _=>?_|apply fkI<;>intro hb<;>try simp only[ew]at hb|simp only[go_sem,simprocAttr, *])
 refine lpI {ι:=Nat,rs:=[(3,4),(5,6),(9,24)],mods:=[(8,fun i=> .one (.d (.v (.int .i64 i))))],boxes:=[(2,fun _=>[.d (.v (.int .i64 a)),.d (.v (.int .i64 b))])],arrs:=[],ok:=fun i=>i≤xs.length∧(xs.drop i).all (QqQ a b)=xs.all (QqQ a b),mu:=fun i=>xs.length-i} rfl 0 ⟨Nat.zero_le _,rfl⟩ ?_ fun i hi=>?_
 ·exact gQ
 ·dsimp only at i hi
  obtain⟨hi,ht⟩:=hi
  by_cases h5:i<xs.length
  ·rw[QaQ h5 0,List.all_cons]at ht
   have hd:QqQ a b (xs.getD i 0)= !(Q7 a (xs.getD i 0)&& !Qt (xs.getD i 0) b):=rfl
   rw[hd,Qbo]at ht;clear hd;cases hA:(Q6 .andNot .i64 a (xs.getD i 0)==0)
   ·rw[hA,Bool.false_and,Bool.not_false,Bool.true_and]at ht
    (repeat' first|refine gA fun _=>?_|apply fkI<;>intro hb<;>try simp only[ew,hA]at hb|simp only[go_sem,simprocAttr, *,hA])
    refine lpN (i+1) ⟨by omega,ht⟩ (by dsimp only;omega) ?_
    clear ht;(repeat' first|refine gA fun _=>?_|apply fkI<;>intro hb<;>try simp only[ew,hA]at hb|simp only[go_sem,simprocAttr, *,hA])
   ·rw[hA,Bool.true_and,Bool.not_not]at ht
    cases hB:Qt (xs.getD i 0) b
    ·rw[hB,Bool.false_and]at ht
     rw[←ht];clear ht;(repeat' first|refine gA fun _=>?_|apply fkI<;>intro hb<;>try simp only[ew,hA,hB]at hb|simp only[go_sem,simprocAttr, *,hA,hB])
     all_goals first|rfl|skip
    ·rw[hB,Bool.true_and]at ht
     (repeat' first|refine gA fun _=>?_|apply fkI<;>intro hb<;>try simp only[ew,hA,hB]at hb|simp only[go_sem,simprocAttr, *,hA,hB])
     refine lpN (i+1) ⟨by omega,ht⟩ (by dsimp only;omega) ?_
     clear ht;(repeat' first|refine gA fun _=>?_|apply fkI<;>intro hb<;>try simp only[ew,hA,hB]at hb|simp only[go_sem,simprocAttr, *,hA,hB])
  ·have e5:i=xs.length:=by omega
   subst e5;rw[List.drop_length,List.all_nil]at ht;rw[←ht];clear ht;exact gQ
def QdS:Qb:=⟨[],false,fun
 | [.one (.v (.int .i64 n)),.fnc f [[.sl 1 l]]]=>some (f=156∧WfI l∧0≤n∧n≤5,[⟨false,[.own 2 (dL (QaR (Qi9 (unI l)) n)) 1]⟩],[])
 | _=>none⟩
theorem QwK:Qa E0 155 QdS:=by
 refine⟨⟨Tryz.f155,Tryz.func155,by kernel_rfl,rfl⟩,?_⟩
 intro args p rs ms hr hp;unfold QdS at hr;dsimp only at hr;split at hr
 ·rename_i n f l
  cases hr;obtain⟨rfl,h1,h0,h5⟩:=hp;exact(QCW (f:=156) (c1:=[.sl 1 l]) (p:=Qi9 (unI l)) Qy4 (fun a b=>rfl) (fun a b ha hb=>⟨h1,hb.1,hb.2⟩) (by simp) (by simp) (by simp) ⟨h0,h5⟩).2 _ _ _ _ rfl ⟨rfl,rfl,rfl⟩
 ·cases hr
def Qvo:Qb:=⟨[],false,fun
 | [.one (.v (.int .i64 n)),.one (.sl 1 l)]=>some (WfI l∧ -9223372036854775808≤n∧n≤9223372036854775807,[⟨false,[.own 2 (dL (Qm5 n (unI l))) 1]⟩],[])
 | _=>none⟩
attribute [local go_sem] Qvo
theorem Qy5:Qa E0 102 Qvo:=by
 refine QE (E:=E0) (T:=mkT Tryz.prog [(155,QdS),(154,Qag),(155,Qxw)] false (fun _=>false) true (fun _=>false)) (Qd (E:=E0) (.cons QwK (.cons QbI (.cons Qn3 .nil)))) (fn:=Tryz.f102) Tryz.func102 (by kernel_rfl) rfl Qc (by kernel_rfl) rfl ?_
 intro args p rs ms hr;unfold Qvo at hr;dsimp only at hr;split at hr;rotate_left
 ·cases hr
 rename_i n l;cases hr;refine⟨rfl,rfl,nLe rfl,?_⟩
 have hm:=mxE;rintro⟨h1,hn1,hn2⟩ bs;obtain⟨xs,rfl,hx⟩:=h1.ex;clear h1;rw[QaC];have e0:dL []=[]:=rfl
 cases hn:inB n 1 5
 ·have e:Qm5 n xs=[]:=by unfold Qm5;rw[hn];rfl
  have e3:(decide (n<1)||decide (n>5))=true:=by
   cases q:(decide (n<1)||decide (n>5))with
   | true=>rfl
   | false=>
    simp only[Bool.or_eq_false_iff,decide_eq_false_iff_not]at q
    rw[←Bool.not_eq_true,Qi]at hn;omega
  rw[e];clear e hn;(repeat' first|refine gA fun _=>?_|apply fkI<;>intro hb<;>try simp only[ew,e3,e0,QdS]at hb|simp only[go_sem,simprocAttr, *,QdS])
  all_goals first|rfl|skip
 ·rw[Qi]at hn
  have e3:(decide (n<1)||decide (n>5))=false:=by rw[decide_eq_false (by omega),decide_eq_false (by omega)];rfl
  have e:Qm5 n xs=if xs.all (Ql n)then QaR (Qi9 xs) n else []:=by unfold Qm5;rw[Qi.2 hn,Bool.true_and]
  rw[e];clear e;obtain⟨n1,n5⟩:=hn;have n0:0≤n:=by omega
  (repeat' first|refine gA fun _=>?_|apply fkI<;>intro hb<;>try simp only[ew,e3,QdS]at hb|simp only[go_sem,simprocAttr, *,QdS])
  refine lpI {ι:=Nat,rs:=[(4,5),(6,7),(16,24)],mods:=[(15,fun i=> .one (.d (.v (.int .i64 i))))],boxes:=[(3,fun _=>[.d (.sl 1 (iL xs))])],arrs:=[],ok:=fun i=>i≤xs.length∧(xs.drop i).all (Ql n)=xs.all (Ql n),mu:=fun i=>xs.length-i} rfl 0 ⟨Nat.zero_le _,rfl⟩ ?_ fun i hi=>?_
  ·(repeat' first|refine gA fun _=>?_|apply fkI<;>intro hb<;>try simp only[ew,QdS]at hb|simp only[go_sem,simprocAttr, *,QdS])
   all_goals first|rfl|skip
  ·dsimp only at i hi
   obtain⟨hi,ht⟩:=hi
   by_cases h5:i<xs.length
   ·rw[QaQ h5 0,List.all_cons]at ht
    cases hA:Ql n (xs.getD i 0)
    ·rw[hA,Bool.false_and]at ht
     rw[←ht,if_neg (by decide)]
     clear ht;(repeat' first|refine gA fun _=>?_|apply fkI<;>intro hb<;>try simp only[ew,hA,e0,QdS]at hb|simp only[go_sem,simprocAttr, *,hA,QdS])
     all_goals first|rfl|skip
    ·rw[hA,Bool.true_and]at ht
     (repeat' first|refine gA fun _=>?_|apply fkI<;>intro hb<;>try simp only[ew,hA,QdS]at hb|simp only[go_sem,simprocAttr, *,hA,QdS])
     refine lpN (i+1) ⟨by omega,ht⟩ (by dsimp only;omega) ?_
     clear ht;(repeat' first|refine gA fun _=>?_|apply fkI<;>intro hb<;>try simp only[ew,hA,QdS]at hb|simp only[go_sem,simprocAttr, *,hA,QdS])
   ·have e5:i=xs.length:=by omega
    subst e5;rw[List.drop_length,List.all_nil]at ht;rw[←ht,if_pos rfl];clear ht;(repeat' first|refine gA fun _=>?_|apply fkI<;>intro hb<;>try simp only[ew,QdS]at hb|simp only[go_sem,simprocAttr, *,QdS])
    all_goals first|rfl|skip
end Go.Own
namespace Go.Own
open Go Go.Proofs
attribute [local go_sem] Qvo Qbf Qag Qjy Qxt Tryz.results80
attribute [local go_sem] Qh Qe Qaa Qac Qab Qaf QaX QdJ Qu
attribute [local go_sem ↓ 10000] Qom
theorem Qy6:Qa E0 80 Qvo:=by
 refine QE (E:=E0) (T:=mkT Tryz.prog [(62,Qbf),(66,Qag),(28,Qjy),(121,Qxt)] false (fun _=>false) true (fun _=>false)) (Qd (E:=E0) (.cons Qcp (.cons Qb9 (.cons Qld (.cons QsI .nil))))) (fn:=Tryz.f80) Tryz.func80 (by kernel_rfl) rfl Qc (by kernel_rfl) rfl ?_
 intro args p rs ms hr;unfold Qvo at hr;dsimp only at hr;split at hr;rotate_left
 ·cases hr
 rename_i n l;cases hr;refine⟨rfl,rfl,nLe rfl,?_⟩
 have hm:=mxE;rintro⟨h1,hn1,hn2⟩ bs;obtain⟨xs,rfl,hx⟩:=h1.ex;clear h1;rw[QaC];have e0:dL []=[]:=rfl
 cases hn:inB n 1 5
 ·have e:Qm5 n xs=[]:=by unfold Qm5;rw[hn];rfl
  rw[e];clear e;(repeat' (first|(refine gA fun _=>?_)|(refine Qa0 ?_;intro Kx)|(refine fkI (fun hb=>?_) (fun hb=>?_)<;>(try simp only[ew,hn,e0]at hb))|(simp only[go_sem,simprocAttr, *,hn,e0])|(dsimp only[Kx];try clear Kx)))
  all_goals first|rfl|skip
 ·have e:Qm5 n xs=if xs.all (Ql n)then QaR (Qi9 xs) n else []:=by unfold Qm5;rw[hn,Bool.true_and]
  rw[e];clear e;have hnn:=hn
  rw[Qi]at hnn;obtain⟨n1,n5⟩:=hnn;obtain⟨c,rfl⟩:=Int.eq_ofNat_of_zero_le (show 0≤n by omega)
  obtain⟨P1,P2,P3⟩:=@QD c;have P1':(Q3 c).length≤maxLen:=Nat.le_trans P1 (by decide)
  have hall:∀xs':List Int,xs'=xs→xs'.all (Ql c)=true→∀k,k<xs.length→0≤xs.getD k 0∧xs.getD k 0≤31:=fun xs' e h k hk=>by
   subst e;have:=Qp (List.all_eq_true.1 h _ (QP hk 0))
   exact this.2.2
  (repeat' (first|(refine gA fun _=>?_)|(refine Qa0 ?_;intro Kx)|(refine fkI (fun hb=>?_) (fun hb=>?_)<;>(try simp only[ew,hn,e0]at hb))|(simp only[go_sem,simprocAttr, *,hn,e0])|(dsimp only[Kx];try clear Kx)))
  refine lpI {ι:=Nat,rs:=[(4,5),(18,32)],mods:=[(6,fun i=> .one (.d (.v (.int .i64 i))))],boxes:=[],arrs:=[(5,fun _=>(2,dL [],1))],ok:=fun i=>i≤xs.length∧(xs.drop i).all (Ql c)=xs.all (Ql c),mu:=fun i=>xs.length-i} rfl 0 ⟨Nat.zero_le _,rfl⟩ ?_ fun i hi=>?_
  ·clear hall P3
   (repeat' (first|(refine gA fun _=>?_)|(refine Qa0 ?_;intro Kx)|(refine fkI (fun hb=>?_) (fun hb=>?_)<;>(try simp only[ew,e0]at hb))|(simp only[go_sem,simprocAttr, *,e0])|(dsimp only[Kx];try clear Kx)))
   all_goals first|rfl|skip
  ·dsimp only at i hi
   obtain⟨hi,ht⟩:=hi
   by_cases h5:i<xs.length
   ·rw[QaQ h5 0,List.all_cons]at ht
    cases hA:Ql c (xs.getD i 0)
    ·rw[hA,Bool.false_and]at ht
     rw[←ht,if_neg (by decide)]
     clear ht hall P3;(repeat' (first|(refine gA fun _=>?_)|(refine Qa0 ?_;intro Kx)|(refine fkI (fun hb=>?_) (fun hb=>?_)<;>(try simp only[ew,hA,e0]at hb))|(simp only[go_sem,simprocAttr, *,hA,e0])|(dsimp only[Kx];try clear Kx)))
     all_goals first|rfl|skip
    ·rw[hA,Bool.true_and]at ht
     clear hall P3;(repeat' (first|(refine gA fun _=>?_)|(refine Qa0 ?_;intro Kx)|(refine fkI (fun hb=>?_) (fun hb=>?_)<;>(try simp only[ew,hA,e0]at hb))|(simp only[go_sem,simprocAttr, *,hA,e0])|(dsimp only[Kx];try clear Kx)))
     refine lpN (i+1) ⟨by omega,ht⟩ (by dsimp only;omega) ?_
     clear ht;(repeat' (first|(refine gA fun _=>?_)|(refine Qa0 ?_;intro Kx)|(refine fkI (fun hb=>?_) (fun hb=>?_)<;>(try simp only[ew,hA,e0]at hb))|(simp only[go_sem,simprocAttr, *,hA,e0])|(dsimp only[Kx];try clear Kx)))
   ·have e5:i=xs.length:=by omega
    subst e5;rw[List.drop_length,List.all_nil]at ht;have hR:=hall xs rfl ht.symm
    rw[←ht,if_pos rfl];clear ht hall;unfold QaR;rw[Int.toNat_natCast];have e1:dL (Qbx (Qi9 xs) c 0)=[]:=rfl
    generalize hX:Q3 (c:Int)=X at P1 P1';(repeat' (first|(refine gA fun _=>?_)|(refine Qa0 ?_;intro Kx)|(refine fkI (fun hb=>?_) (fun hb=>?_)<;>(try simp only[ew,hX,e0]at hb))|(simp only[go_sem,simprocAttr, *,hX,e0])|(dsimp only[Kx];try clear Kx)))
    refine lpI {ι:=Nat,rs:=[(9,13),(34,103)],mods:=[(8,fun r=> .one (.d (.v (.int .i64 r)))),(5,fun r=> .one (.own 2 (dL (Qbx (Qi9 xs) c r)) 1))],boxes:=[],arrs:=[(7,fun _=>(1,iL X,1))],ok:=fun r=>r≤c,mu:=fun r=>c-r} rfl 0 (Nat.zero_le _) ?_ fun r hr=>?_
    ·clear hR P3
     (repeat' (first|(refine gA fun _=>?_)|(refine Qa0 ?_;intro Kx)|(refine fkI (fun hb=>?_) (fun hb=>?_)<;>(try simp only[ew,hX,e0,e1]at hb))|(simp only[go_sem,simprocAttr, *,hX,e0,e1])|(dsimp only[Kx];try clear Kx)))
     all_goals first|rfl|skip
    ·dsimp only at r hr
     have l0:=@QaM (Qi9 xs) c r
     by_cases h6:r<c
     ·have hr5:r<5:=by omega
      have l1:(Qbx (Qi9 xs) c r).length≤256:=by omega
      have hp:=p5 (c:=r) hr5
      clear l0;(repeat' (first|(refine gA fun _=>?_)|(refine Qa0 ?_;intro Kx)|(refine fkI (fun hb=>?_) (fun hb=>?_)<;>(try simp only[ew]at hb))|(simp only[go_sem,simprocAttr, *])|(dsimp only[Kx];try clear Kx)))
      refine lpI {ι:=Nat×List Int,rs:=[(10,13),(39,103)],mods:=[(9,fun i=> .one (.d (.v (.int .i64 i.1)))),(5,fun i=> .one (.own 2 (dL (Qbx (Qi9 xs) c r++i.2.map fun x=>(x,(r:Int)))) 1))],boxes:=[],arrs:=[(7,fun _=>(1,iL X,1))],ok:=fun i=>pdI (Qi9 xs) c r i.1 i.2,mu:=fun i=>X.length-i.1} rfl (0,[]) QfP ?_ ?_
      ·have e2:Qbx (Qi9 xs) c r++([]:List Int).map (fun x=>(x,(r:Int)))=Qbx (Qi9 xs) c r:=by simp
       clear hR P3;(repeat' (first|(refine gA fun _=>?_)|(refine Qa0 ?_;intro Kx)|(refine fkI (fun hb=>?_) (fun hb=>?_)<;>(try simp only[ew,e2]at hb))|(simp only[go_sem,simprocAttr, *,e2])|(dsimp only[Kx];try clear Kx)))
       all_goals first|rfl|skip
      ·as_aux_lemma=>
        rintro⟨i,tk⟩ hi;dsimp only at hi;have hi1:=hi.1
        have htk:=hi.2.1
        obtain⟨a1,a2⟩:=Qkg hr5 hi
        by_cases h7:i<(Q3 c).length
        ·obtain⟨x0,x31⟩:=P3 i h7
         have hcv:=@QsH (Qbx (Qi9 xs) c r) tk ((Q3 c).getD i 0) r (fun d hd=>(QfK hd).2.1.2) htk ⟨x0,x31⟩
         have hsk:=QhA hi h7
         have htak:=QhB hi h7
         rw[hX]at h7 hi1;generalize hx0:(Q3 c).getD i 0=x at x0 x31 hcv hsk htak;rw[hX]at hx0;have eh:=Qe6 (x:=x) (r:=(r:Nat)) ⟨by omega,by omega⟩ ⟨x0,x31⟩
         rw[Int.toNat_natCast]at eh;have ep:Qi9 xs x (r:Nat)=xs.all (QqQ x (r:Nat)):=rfl
         rw[ep]at hsk htak;have eT:=@Qhc (Qbx (Qi9 xs) c r) tk x r
         have hit:=fun k (hk:k<xs.length)=>Qek hk 0 (QqQ x (r:Nat))
         have hdt:∀k,k<xs.length→(Q6 .and .i64 (xs.getD k 0) x !=x||Q6 .and .i64 ((xs.getD k 0).fdiv (2^r)) 1==1)=QqQ x (r:Nat) (xs.getD k 0):=fun k hk=>by
          obtain⟨y0,y31⟩:=hR k hk;have q1:=Qkk (l:=x) (x:=xs.getD k 0) ⟨x0,x31⟩ ⟨y0,y31⟩
          have q2:(Q6 .and .i64 ((xs.getD k 0).fdiv (2^r)) 1==1)=Qt (xs.getD k 0) (r:Nat):=by unfold Qt;rw[Int.toNat_natCast]
          rw[q1,q2];unfold QqQ;cases Q7 x (xs.getD k 0)<;>cases Qt (xs.getD k 0) (r:Nat)<;>rfl
         clear ep hi htk P3;generalize hA:Qbx (Qi9 xs) c r++tk.map (fun x=>(x,(r:Int)))=acc at a1 hcv eT
         obtain⟨F0,hF0⟩:∃F0:Bool,(!Qt x (r:Nat)&& !Qa2 tk x)=F0:=⟨_,rfl⟩;rw[hF0]at hsk htak;(repeat' (first|(refine gA fun _=>?_)|(refine Qa0 ?_;intro Kx)|(refine fkI (fun hb=>?_) (fun hb=>?_)<;>(try simp only[ew,Qj,hx0,hA,eh,hcv,hF0]at hb))|(simp only[go_sem,simprocAttr, *,Qj,hx0,hA,eh,hcv,hF0])|(dsimp only[Kx];try clear Kx)))
         refine lpI {ι:=Nat,rs:=[(65,98)],mods:=[(12,fun k=> .one (.d (.v (.int .i64 k)))),(11,fun k=> .one (.d (.v (.bool (F0&&(xs.take k).all (QqQ x (r:Nat)))))))],boxes:=[(10,fun _=>[.d (.v (.int .i64 x)),.d (.v (.int .i64 r))])],arrs:=[(5,fun _=>(2,dL acc,1)),(7,fun _=>(1,iL X,1))],ok:=fun k=>k≤xs.length,mu:=fun k=>xs.length-k} rfl 0 (Nat.zero_le _) ?_ fun k hk=>?_
         ·as_aux_lemma=>
           clear hit hdt hsk htak hR;(repeat' (first|(refine gA fun _=>?_)|(refine Qa0 ?_;intro Kx)|(refine fkI (fun hb=>?_) (fun hb=>?_)<;>(try simp only[ew,hF0]at hb))|(simp only[go_sem,simprocAttr, *,hF0])|(dsimp only[Kx];try clear Kx)))
           all_goals first|rfl|(simp;done)|skip
         ·as_aux_lemma=>
           dsimp only at k hk;refine Qua ?_
           intro Qx sx;have s1:sx.sl 1= .one (.d (.sl 1 (iL xs))):=by simp only[sx,go_sem,simprocAttr]
           have s8:sx.sl 8= .one (.d (.v (.int .i64 (r:Nat)))):=by simp only[sx,go_sem,simprocAttr]
           have s9:sx.sl 9= .one (.d (.v (.int .i64 i))):=by simp only[sx,go_sem,simprocAttr]
           have s101:sx.sl 101= .any:=by simp only[sx,go_sem,simprocAttr]
           have s102:sx.sl 102= .any:=by simp only[sx,go_sem,simprocAttr]
           clear_value sx
           by_cases h8:k<xs.length
           ·have et:=congrArg (fun z=>F0&&z) (hit k h8)
            try dsimp only at et
            rw[←Bool.and_assoc,←hdt k h8]at et;clear hit hdt hsk htak hR;generalize hf:(F0&&(xs.take k).all (QqQ x (r:Nat)))=b0 at et;generalize hy:xs.getD k 0=y at et;as_aux_lemma=>
            (repeat' (first|(refine gA fun _=>?_)|(refine Qa0 ?_;intro Kx)|(refine fkI (fun hb=>?_) (fun hb=>?_)<;>(try simp only[ew,Qj,hf,hy,hx0]at hb))|(simp only[go_sem,simprocAttr, *,Qj,hf,hy,hx0])|(dsimp only[Kx];try clear Kx)))
            refine lpN (k+1) (by dsimp only;omega) (by dsimp only;omega) ?_
            (repeat' (first|(refine gA fun _=>?_)|(refine Qa0 ?_;intro Kx)|(refine fkI (fun hb=>?_) (fun hb=>?_)<;>(try simp only[ew,hf,et]at hb))|(simp only[go_sem,simprocAttr, *,hf,et])|(dsimp only[Kx];try clear Kx)))
           ·have e8:k=xs.length:=by omega
            subst e8;have eT2:xs.take xs.length=xs:=List.take_length
            clear hit hdt hR;cases hg:(F0&&xs.all (QqQ x (r:Nat)))
            ·have hsk:=hsk hg
             clear htak;as_aux_lemma=>
             (repeat' (first|(refine gA fun _=>?_)|(refine Qa0 ?_;intro Kx)|(refine fkI (fun hb=>?_) (fun hb=>?_)<;>(try simp only[ew,eT2,hg]at hb))|(simp only[go_sem,simprocAttr, *,eT2,hg])|(dsimp only[Kx];try clear Kx)))
             dsimp only[Qx];clear Qx;(repeat' (first|(refine gA fun _=>?_)|(refine Qa0 ?_;intro Kx)|(refine fkI (fun hb=>?_) (fun hb=>?_)<;>(try simp only[ew,eT2,hg]at hb))|(simp only[go_sem,simprocAttr, *,eT2,hg])|(dsimp only[Kx];try clear Kx)))
             refine lpN (i+1,tk) hsk (by dsimp only;omega) ?_
             clear hsk;as_aux_lemma=>
             (repeat' (first|(refine gA fun _=>?_)|(refine Qa0 ?_;intro Kx)|(refine fkI (fun hb=>?_) (fun hb=>?_)<;>(try simp only[ew,hA]at hb))|(simp only[go_sem,simprocAttr, *,hA])|(dsimp only[Kx];try clear Kx)))
            ·have htak:=htak hg
             clear hsk;as_aux_lemma=>
             (repeat' (first|(refine gA fun _=>?_)|(refine Qa0 ?_;intro Kx)|(refine fkI (fun hb=>?_) (fun hb=>?_)<;>(try simp only[ew,eT2,hg,Qm]at hb))|(simp only[go_sem,simprocAttr, *,eT2,hg,Qm])|(dsimp only[Kx];try clear Kx)))
             dsimp only[Qx];clear Qx;(repeat' (first|(refine gA fun _=>?_)|(refine Qa0 ?_;intro Kx)|(refine fkI (fun hb=>?_) (fun hb=>?_)<;>(try simp only[ew,eT2,hg,Qm]at hb))|(simp only[go_sem,simprocAttr, *,eT2,hg,Qm])|(dsimp only[Kx];try clear Kx)))
             refine lpN (i+1,tk++[x]) htak (by dsimp only;omega) ?_
             clear htak;as_aux_lemma=>
             (repeat' (first|(refine gA fun _=>?_)|(refine Qa0 ?_;intro Kx)|(refine fkI (fun hb=>?_) (fun hb=>?_)<;>(try simp only[ew,hA,eT,Qm]at hb))|(simp only[go_sem,simprocAttr, *,hA,eT,Qm])|(dsimp only[Kx];try clear Kx)))
        ·have e5:i=(Q3 c).length:=by omega
         subst e5;have e2:=QfL hi
         rw[hX]at hi1;clear hi hR P3;(repeat' (first|(refine gA fun _=>?_)|(refine Qa0 ?_;intro Kx)|(refine fkI (fun hb=>?_) (fun hb=>?_)<;>(try simp only[ew]at hb))|(simp only[go_sem,simprocAttr, *])|(dsimp only[Kx];try clear Kx)))
         refine lpN (r+1) (by dsimp only;omega) (by dsimp only;omega) ?_
         (repeat' (first|(refine gA fun _=>?_)|(refine Qa0 ?_;intro Kx)|(refine fkI (fun hb=>?_) (fun hb=>?_)<;>(try simp only[ew,e2]at hb))|(simp only[go_sem,simprocAttr, *,e2])|(dsimp only[Kx];try clear Kx)))
         all_goals first|rfl|skip
     ·have e6:r=c:=by omega
      subst e6;clear hR P3;(repeat' (first|(refine gA fun _=>?_)|(refine Qa0 ?_;intro Kx)|(refine fkI (fun hb=>?_) (fun hb=>?_)<;>(try simp only[ew]at hb))|(simp only[go_sem,simprocAttr, *])|(dsimp only[Kx];try clear Kx)))
      all_goals first|rfl|skip
end Go.Own
