/- Contracts. Conditions: as stated. -/
import Derived.Test.YtnmkpepdacbfaaaGreatDoorRp29
set_option linter.all false
set_option maxRecDepth 20000
set_option maxHeartbeats 2000000
namespace Go.Own
open Go Go.Proofs
section
attribute [local go_sem] Qe9 QdS Tryz.results100 Tryz.results76 Qoi QaF Qd7 QDg Qd8 Tryz.results93 Qh Qg Qae Qag Qaf Qaj Qa7 Qd1 Qv Qa6
def QcR:Qb:=⟨[],false,fun
 | [.agg [.v (.int .i64 c),.sl 1 l,.v (.int .i64 m),.sl 2 q]]=>some (WfS l∧(l.length≤16777216∧∀r∈unS l,r.length≤16777216)∧WfD q∧q.length≤16777216,[⟨true,[.d (.v (.int .i64 c)),.own 1 l 1,.d (.v (.int .i64 m)),.own 2 q 1]⟩],[])
 | _=>none⟩
attribute [local go_sem] QcR
theorem QiH:Qa E0 100 QcR:=by
 refine QG (E:=E0) (T:=mkT Tryz.prog [(140,Qe9),(108,QdS)] false (fun _=>false) true (fun _=>false)) (Qd (E:=E0) (.cons QmP (.cons QfU .nil))) (fn:=Tryz.f100) Tryz.func100 kR rfl Qc kR rfl ?_
 intro args p rs ms hr;unfold QcR at hr;dsimp only at hr;split at hr;rotate_left
 ·cases hr
 rename_i c l m q;cases hr;refine⟨rfl,rfl,nLe rfl,?_⟩
 have hm:=mxE;rintro⟨h1,⟨h2,h2'⟩,h3,h3'⟩ bs;obtain⟨rs,rfl,hx,hy⟩:=h1.ex;obtain⟨ds,rfl,hd⟩:=h3.ex;clear h1 h3;rw[QB]at h2';rw[Qai]at h2;rw[Qg]at h3';exact gQ
theorem QiI:Qa E0 76 QcR:=by
 refine QG (E:=E0) (T:=mkT Tryz.prog [(75,Qe9)] false (fun _=>false) true (fun d=>d==3||d==6||d==9)) (Qd (E:=E0) (.cons QmQ .nil)) (fn:=Tryz.f76) Tryz.func76 kR rfl Qc kR rfl ?_
 intro args p rs ms hr;unfold QcR at hr;dsimp only at hr;split at hr;rotate_left
 ·cases hr
 rename_i c l m q;cases hr;refine⟨rfl,rfl,nLe rfl,?_⟩
 have hm:=mxE;rintro⟨h1,⟨h2,h2'⟩,h3,h3'⟩ bs;obtain⟨rs,rfl,hx,hy⟩:=h1.ex;obtain⟨ds,rfl,hd⟩:=h3.ex;clear h1 h3;rw[QB]at h2';rw[Qai]at h2;rw[Qg]at h3';exact gQ
theorem QxM{m a b:Int}:eqc m a b=eqc m b a:=by
 unfold eqc
 by_cases h:a=b
 ·subst h;rfl
 ·rw[KU.2 h,KU.2 (Ne.symm h)];simp
theorem Qpu{m:Int}{a b:List Int}:∀{n:Nat},agL m a b n=agL m b a n
 | 0=>rfl
 | n+1=>by rw[agL,agL,@Qpu m a b n,QxM]
def QjP(c m:Int)(row:List Int)(rs:List (List Int))(q:List (Int×Int)):List (Int×Int):=rs.foldl (fun q r=>QsS c (agL m row r c.toNat) q) q
theorem Qna{c m:Int}{row:List Int}{rs:List (List Int)}{q:List (Int×Int)}{i:Nat}(h:i<rs.length):QjP c m row (rs.take (i+1)) q=QsS c (agL m row (rs.getD i []) c.toNat) (QjP c m row (rs.take i) q):=by
 unfold QjP;rw[Qf h [],YW];rfl
theorem QsD{n ag:Int}{ds:List (Int×Int)}(h:ds.length≤160):(QsS n ag ds).length≤160:=by
 rw[QzL];unfold QyO;split
 ·rename_i hv
  unfold QsT at hv;rw[KB]at hv;have h5:=(Qq hv.2).2.1
  have:=@Qpd (Qnk (QjR n ag ds) (QjR n ag ds).length) (Q8 n) (@QH n).1 n.toNat
  omega
 ·exact h
theorem QgS{c m:Int}{row:List Int}:∀{rs:List (List Int)} {q:List (Int×Int)},q.length≤160→(QjP c m row rs q).length≤160
 | [],q,h=>h
 | r::rs,q,h=>@QgS c m row rs _ (QsD h)
def Qi2(c:Int)(rs:List (List Int))(m:Int)(ds:List (Int×Int))(row:List Int):Bool:=isM c rs m ds&&Qb7 row c&&decide (rs.length<40)
def Qmi(c:Int)(rs:List (List Int))(m:Int)(ds:List (Int×Int))(row:List Int):List (List Int):=if Qi2 c rs m ds row then rs++[row]else rs
def Qmh(c:Int)(rs:List (List Int))(m:Int)(ds:List (Int×Int))(row:List Int):List (Int×Int):=if Qi2 c rs m ds row then QjP c m row rs ds else ds
def QrN:Qb:=⟨[],false,fun
 | [.agg [.v (.int .i64 c),.sl 1 l,.v (.int .i64 m),.sl 2 q],.one (.sl 1 r)]=>some (WfS l∧(l.length≤16777216∧∀r∈unS l,r.length≤16777216)∧WfD q∧q.length≤16777216∧WfI r∧ -9223372036854775808≤c∧c≤9223372036854775807,
   [⟨true,[.d (.v (.int .i64 c)),.own 1 (sL (Qmi c (unS l) m (unD q) (unI r))) 1,.d (.v (.int .i64 m)),.own 2 (dL (Qmh c (unS l) m (unD q) (unI r))) 1]⟩,⟨false,[.d (.v (.bool (Qi2 c (unS l) m (unD q) (unI r))))]⟩],[])
 | _=>none⟩
attribute [local go_sem] QrN
theorem QaJ{c:Int}{rs:List (List Int)}{m:Int}{ds:List (Int×Int)}(h:isM c rs m ds=true):QP c rs=true∧QN m=true∧ds=mdL c rs m:=by
 unfold isM at h;simp only[KB,Kh]at h
 exact⟨h.1.1,h.1.2,h.2⟩
theorem Qrq{c:Int}{rs:List (List Int)}{row:List Int}(h:QP c rs=true)(hr:Qb7 row c=true)(hl:rs.length<40):QP c (rs++[row])=true:=by
 unfold QP at *;simp only[KB,KK,List.all_append,KN]at *
 refine⟨⟨h.1,by simp[hr]⟩,h.2.1,?_⟩
 simp only[List.length_singleton]
 omega
theorem QnD{row:List Int}{c:Int}(h:Qb7 row c=true):(row.length:Int)=c:=by
 unfold Qb7 at h;simp only[KB,KK]at h
 exact h.2
theorem QuB:Qa E0 93 QrN:=by
 refine QG (E:=E0) (T:=mkT Tryz.prog [(100,QcR),(101,Qoi),(142,QaF),(144,Qd7),(143,QDg),(145,Qd8)] false (fun _=>false) true (fun _=>false)) (Qd (E:=E0) (.cons QiH (.cons QoP (.cons Qqr (.cons QhM (.cons QCd (.cons QhQ .nil))))))) (fn:=Tryz.f93) Tryz.func93 kR rfl Qc kR rfl ?_
 intro args p rs ms hr;unfold QrN at hr;dsimp only at hr;split at hr;rotate_left
 ·cases hr
 rename_i c l m q r;cases hr;refine⟨rfl,rfl,nLe rfl,?_⟩
 have hm:=mxE;rintro⟨h1,⟨h2,h2'⟩,h3,h3',h4,hc1,hc2⟩ bs;obtain⟨rs,rfl,hx,hy⟩:=h1.ex;obtain⟨ds,rfl,hd⟩:=h3.ex;obtain⟨row,rfl,hr⟩:=h4.ex;clear h1 h3 h4;rw[QB]at h2' ⊢;rw[Qh,QaH];rw[Qai]at h2;rw[Qg]at h3';cases hv:Qi2 c rs m ds row
 ·have e1:Qmi c rs m ds row=rs:=by unfold Qmi;rw[hv];rfl
  have e2:Qmh c rs m ds row=ds:=by unfold Qmh;rw[hv];rfl
  have e3:(!isM c rs m ds|| !Qb7 row c||(rs.length:Int)==40)=true:=by
   cases q:(!isM c rs m ds|| !Qb7 row c||(rs.length:Int)==40)with
   | true=>rfl
   | false=>
    simp only[Kt,YL,KU]at q
    have:=(Qds (QaJ q.1.1).1).1
    unfold Qi2 at hv;rw[q.1.1,q.1.2,KZ (by omega)]at hv
    cases hv
  rw[e1,e2];clear e1 e2 hv;(repeat' first|refine gA fun _=>?_|apply fkI<;>intro hb<;>try simp only[ew,e3]at hb|simp only[go_sem,simprocAttr, *])
  all_goals first|rfl|skip
 ·have e1:Qmi c rs m ds row=rs++[row]:=by unfold Qmi;rw[hv];rfl
  have e2:Qmh c rs m ds row=QjP c m row rs ds:=by unfold Qmh;rw[hv];rfl
  rw[e1,e2];clear e1 e2;unfold Qi2 at hv;rw[KB,KB,KK]at hv;obtain⟨⟨v1,v2⟩,v3⟩:=hv;obtain⟨t1,t2,t3⟩:=QaJ v1;have e3:(!isM c rs m ds|| !Qb7 row c||(rs.length:Int)==40)=false:=by
   rw[v1,v2,KU.2 (by omega)];rfl
  obtain⟨c,rfl,c1,c5,h40,hlen⟩:=QQ t1;have hrl:=QnD v2
  have hrl':row.length=c:=by omega
  have q1:ds.length≤160:=by rw[t3];exact(@QcE (c:Int) rs m).1
  have hsm:=fun i=>@QgS (c:Int) m row (rs.take i) ds q1
  have e0:QjP (c:Int) m row (rs.take 0) ds=ds:=rfl
  clear v1 v2 t1 t2 t3;(repeat' first|refine gA fun _=>?_|apply fkI<;>intro hb<;>try simp only[ew,e3]at hb|simp only[go_sem,simprocAttr, *])
  refine lpI {ι:=Nat,rs:=[(8,9),(35,51)],mods:=[(34,fun i=> .one (.d (.v (.int .i64 i))))],boxes:=[(2,fun _=>[.d (.v (.int .i64 c)),.d (.sl 1 (sL rs)),.d (.v (.int .i64 m)),.d (.sl 2 (dL ds))]),(4,fun _=>[.d (.v (.int .i64 0)),.d (.v (.slice none 0 0)),.d (.v (.int .i64 0)),.d (.v (.slice none 0 0))]),(6,fun i=>[.d (.v (.int .i64 c)),.own 1 (sL rs) 1,.d (.v (.int .i64 m)),.own 2 (dL (QjP c m row (rs.take i) ds)) 1])],arrs:=[],ok:=fun i=>i≤rs.length,mu:=fun i=>rs.length-i} rfl 0 (KJ _) ?_ fun i hi=>?_
  ·clear hsm hlen
   (repeat' first|refine gA fun _=>?_|apply fkI<;>intro hb<;>try simp only[ew,e0]at hb|simp only[go_sem,simprocAttr, *])
   all_goals first|rfl|skip
  ·dsimp only at i hi
   have s1:=hsm i
   have s2:(QjP (c:Int) m row (rs.take i) ds).length≤maxLen:=KF s1 (by decide)
   clear hsm
   by_cases h5:i<rs.length
   ·have eS:=Qna (c:=(c:Int)) (m:=m) (row:=row) (q:=ds) h5
    have hli:=hlen i h5
    clear hlen;rw[KE]at eS;generalize hP:QjP (c:Int) m row (rs.take i) ds=P at s1 s2 eS;have hag:=Qbq (m:=m) (a:=row) (b:=rs.getD i []) c5
    clear hrl;(repeat' first|refine gA fun _=>?_|apply fkI<;>intro hb<;>try simp only[ew,hP]at hb|simp only[go_sem,simprocAttr, *])
    refine lpQ (i+1) ?_
    (repeat' first|refine gA fun _=>?_|apply fkI<;>intro hb<;>try simp only[ew,hP,eS]at hb|simp only[go_sem,simprocAttr, *])
   ·have e5:i=rs.length:=by omega
    subst e5;have eT:rs.take rs.length=rs:=KR
    rw[eT]at s1 s2;have hr5:row.length≤16777216:=by omega
    clear hlen;(repeat' first|refine gA fun _=>?_|apply fkI<;>intro hb<;>try simp only[ew,eT,Qbo,Q9]at hb|simp only[go_sem,simprocAttr, *,Qbo,Q9])
    all_goals first|rfl|skip
end
attribute [local go_sem] QcR Qoi QsO QwW Tryz.results56 Qbr Tryz.results43 Qh Qg Qae Qag Qaf Qaj Qa7 Qd1 Qv Qa6
def QgK(rs:List (List Int))(a:Nat):List (List Int):=rs.take a++rs.drop (a+1)
def QmT(rs:List (List Int))(a:Nat):Nat→List (List Int)
 | 0=>[]
 | i+1=>QmT rs a i++(if((i:Nat):Int)!=(a:Int)then [rs.getD i []]else [])
theorem QpY{rs:List (List Int)}{a:Nat}:∀{i:Nat},(QmT rs a i).length≤i
 | 0=>KP _
 | i+1=>by
  have:=@QpY rs a i
  rw[QmT,KN];split<;>simp<;>omega
theorem QpZ{rs:List (List Int)}{a:Nat}:∀{i:Nat},i≤a→i≤rs.length→QmT rs a i=rs.take i
 | 0,_,_=>by simp[QmT]
 | i+1,h,h2=>by
  have:(((i:Nat):Int)!=(a:Int))=true:=by rw[bne_iff_ne];omega
  rw[QmT,QpZ (by omega) (by omega),this,if_pos rfl,Qf (by omega) []]
theorem QmU{rs:List (List Int)}{a:Nat}(ha:a<rs.length):∀{k:Nat},a+1+k≤rs.length→QmT rs a (a+1+k)=rs.take a++(rs.drop (a+1)).take k
 | 0,h=>by
  have:(((a:Nat):Int)!=(a:Int))=false:=by simp
  rw[Nat.add_zero,QmT,QpZ (KP _) (by omega),this];simp
 | k+1,h=>by
  have e:a+1+(k+1)=(a+1+k)+1:=by omega
  have:(((a+1+k:Nat):Int)!=(a:Int))=true:=by rw[bne_iff_ne];omega
  rw[e,QmT,QmU ha (by omega),this,if_pos rfl,Kn]
  congr 1
  have h2:k<(rs.drop (a+1)).length:=by rw[Kk];omega
  rw[Qf h2 []];congr 2
  simp[KD]
theorem QxB{rs:List (List Int)}{a:Nat}(ha:a<rs.length):QmT rs a rs.length=QgK rs a:=by
 obtain⟨k,hk⟩:=Nat.le.dest (show a+1≤rs.length from ha)
 have h1:=@QmU rs a ha k (by omega)
 rw[hk]at h1;rw[h1];unfold QgK;rw[Kj (l:=rs.drop (a+1)) (i:=k) (by rw[Kk];omega)]
theorem Qrd{rs:List (List Int)}{i:Nat}:(sL rs).drop i=sL (rs.drop i):=by simp[sL,List.map_drop]
theorem QvL{xs ys:List (List Int)}:sL xs++sL ys=sL (xs++ys):=by simp[sL]
def QhG(c:Int)(rs:List (List Int))(m:Int)(ds:List (Int×Int))(a:Int):Bool:=isM c rs m ds&&inB a 0 ((rs.length:Int)-1)
def QeK(c:Int)(rs:List (List Int))(m:Int)(ds:List (Int×Int))(a:Int):List (List Int):=if QhG c rs m ds a then QgK rs a.toNat else rs
def QfE(c:Int)(rs:List (List Int))(m:Int)(ds:List (Int×Int))(a:Int):List (Int×Int):=if QhG c rs m ds a then QnX c (Qii c (QgK rs a.toNat) m)else ds
def QsQ:Qb:=⟨[],false,fun
 | [.agg [.v (.int .i64 c),.sl 1 l,.v (.int .i64 m),.sl 2 q],.one (.v (.int .i64 a))]=>some (WfS l∧(l.length≤16777216∧∀r∈unS l,r.length≤16777216)∧WfD q∧q.length≤16777216∧ -9223372036854775808≤c∧c≤9223372036854775807,
   [⟨true,[.d (.v (.int .i64 c)),.own 1 (sL (QeK c (unS l) m (unD q) a)) 1,.d (.v (.int .i64 m)),.own 2 (dL (QfE c (unS l) m (unD q) a)) 1]⟩,⟨false,[.d (.v (.bool (QhG c (unS l) m (unD q) a)))]⟩],[])
 | _=>none⟩
attribute [local go_sem] QsQ
theorem QgL{rs:List (List Int)}{a:Nat}{B:Nat}(h:∀r∈rs,r.length≤B):(QgK rs a).length≤rs.length∧∀r∈QgK rs a,r.length≤B:=by
 unfold QgK;refine⟨by rw[KN,KO,Kk];omega,fun r hr=>?_⟩
 rcases KG.1 hr with hr|hr
 ·exact h r (Ks hr)
 ·exact h r (YI hr)
theorem QrZ{n:Int}{xs:List Int}:(QnX n xs).length≤160:=by
 unfold QnX;split
 ·rename_i h
  rw[KB,Qj]at h;have:=@QaV (QjM xs) n n.toNat
  unfold Qa0;omega
 ·simp
theorem Qt9:Qa E0 56 QsQ:=by
 refine QG (E:=E0) (T:=mkT Tryz.prog [(100,QcR),(101,Qoi),(103,QsO),(102,QwW)] false (fun _=>false) true (fun _=>false)) (Qd (E:=E0) (.cons QiH (.cons QoP (.cons Qta (.cons QAM .nil))))) (fn:=Tryz.f56) Tryz.func56 kR rfl Qc kR rfl ?_
 intro args p rs ms hr;unfold QsQ at hr;dsimp only at hr;split at hr;rotate_left
 ·cases hr
 rename_i c l m q a;cases hr;refine⟨rfl,rfl,nLe rfl,?_⟩
 have hm:=mxE;rintro⟨h1,⟨h2,h2'⟩,h3,h3',hc1,hc2⟩ bs;obtain⟨rs,rfl,hx,hy⟩:=h1.ex;obtain⟨ds,rfl,hd⟩:=h3.ex;clear h1 h3;rw[QB]at h2' ⊢;rw[Qh];rw[Qai]at h2;rw[Qg]at h3';cases hv:QhG c rs m ds a
 ·have e1:QeK c rs m ds a=rs:=by unfold QeK;rw[hv];rfl
  have e2:QfE c rs m ds a=ds:=by unfold QfE;rw[hv];rfl
  have e3:(!isM c rs m ds||decide (a<0)||decide (a≥(rs.length:Int)))=true:=by
   cases q:(!isM c rs m ds||decide (a<0)||decide (a≥(rs.length:Int)))with
   | true=>rfl
   | false=>
    simp only[Kt,YL,Kl]at q
    unfold QhG at hv;rw[q.1.1,KY,←KS,Qj]at hv;omega
  rw[e1,e2];clear e1 e2 hv;(repeat' first|refine gA fun _=>?_|apply fkI<;>intro hb<;>try simp only[ew,e3]at hb|simp only[go_sem,simprocAttr, *])
  all_goals first|rfl|skip
 ·have e1:QeK c rs m ds a=QgK rs a.toNat:=by unfold QeK;rw[hv];rfl
  have e2:QfE c rs m ds a=QnX c (Qii c (QgK rs a.toNat) m):=by unfold QfE;rw[hv];rfl
  rw[e1,e2];clear e1 e2;unfold QhG at hv;rw[KB,Qj]at hv;obtain⟨v1,v2,v3⟩:=hv;have e3:(!isM c rs m ds||decide (a<0)||decide (a≥(rs.length:Int)))=false:=by
   rw[v1,KW (by omega),KW (by omega)];rfl
  obtain⟨n,rfl⟩:=KL v2;rw[KE];have hn:n<rs.length:=by omega
  have e3b:(!isM c rs m ds||decide ((n:Int)<0)||decide (rs.length≤n))=false:=by
   rw[v1,KW (by omega),KW (by omega)];rfl
  have hne:sL rs≠[]:=fun e=>by have:=congrArg List.length e;rw[Qai,Yb]at this;omega
  have h40:=(Qds (QaJ v1).1).1
  obtain⟨d1,d2⟩:=QgL (a:=n) hy;have d3:(QgK rs n).length≤maxLen:=by omega
  have eD:rs.take n++rs.drop (n+1)=QgK rs n:=rfl
  have d4:=(@Qd5 c (QgK rs n) m).1
  have d5:(Qii c (QgK rs n) m).length≤maxLen:=KF d4 (by decide)
  have et:((n:Int)+1).toNat=n+1:=by omega
  generalize hZ:QgK rs n=Z at d1 d2 d3 d4 d5 eD ⊢;clear v1;(repeat' first|refine gA fun _=>?_|apply fkI<;>intro hb<;>try simp only[ew,e3,e3b,hne,et,Qe0,Qrd,QvL,eD]at hb|simp only[go_sem,simprocAttr, *,Qe0,Qrd,QvL])
  all_goals first|rfl|skip
theorem Qua:Qa E0 43 QsQ:=by
 refine QG (E:=E0) (T:=mkT Tryz.prog [(76,QcR),(77,Qoi),(62,Qbr),(81,QsO),(80,QwW)] false (fun _=>false) true (fun _=>false)) (Qd (E:=E0) (.cons QiI (.cons QoQ (.cons QcD (.cons Qtb (.cons QAN .nil)))))) (fn:=Tryz.f43) Tryz.func43 kR rfl Qc kR rfl ?_
 intro args p rs ms hr;unfold QsQ at hr;dsimp only at hr;split at hr;rotate_left
 ·cases hr
 rename_i c l m q a;cases hr;refine⟨rfl,rfl,nLe rfl,?_⟩
 have hm:=mxE;rintro⟨h1,⟨h2,h2'⟩,h3,h3',hc1,hc2⟩ bs;obtain⟨rs,rfl,hx,hy⟩:=h1.ex;obtain⟨ds,rfl,hd⟩:=h3.ex;clear h1 h3;rw[QB]at h2' ⊢;rw[Qh];rw[Qai]at h2;rw[Qg]at h3';cases hv:QhG c rs m ds a
 ·have e1:QeK c rs m ds a=rs:=by unfold QeK;rw[hv];rfl
  have e2:QfE c rs m ds a=ds:=by unfold QfE;rw[hv];rfl
  have e3:(!isM c rs m ds|| !inB a 0 ((rs.length:Int)-1))=true:=by rw[←YS];unfold QhG at hv;rw[hv];rfl
  rw[e1,e2];clear e1 e2 hv;(repeat' first|refine gA fun _=>?_|apply fkI<;>intro hb<;>try simp only[ew,e3]at hb|simp only[go_sem,simprocAttr, *])
  all_goals first|rfl|skip
 ·have e1:QeK c rs m ds a=QgK rs a.toNat:=by unfold QeK;rw[hv];rfl
  have e2:QfE c rs m ds a=QnX c (Qii c (QgK rs a.toNat) m):=by unfold QfE;rw[hv];rfl
  rw[e1,e2];clear e1 e2;have e3:(!isM c rs m ds|| !inB a 0 ((rs.length:Int)-1))=false:=by rw[←YS];unfold QhG at hv;rw[hv];rfl
  unfold QhG at hv;rw[KB,Qj]at hv;obtain⟨v1,v2,v3⟩:=hv;obtain⟨n,rfl⟩:=KL v2;rw[KE];have hn:n<rs.length:=by omega
  have h40:=(Qds (QaJ v1).1).1
  have eN:=QxB hn
  obtain⟨d1,d2⟩:=QgL (a:=n) hy;have d3:(QgK rs n).length≤maxLen:=by omega
  have d4:=(@Qd5 c (QgK rs n) m).1
  have d5:(Qii c (QgK rs n) m).length≤maxLen:=KF d4 (by decide)
  generalize hZ:QgK rs n=Z at d1 d2 d3 d4 d5 eN ⊢;have hnl:=fun i=>@QpY rs n i
  have e0:sL (QmT rs n 0)=[]:=rfl
  clear v1;(repeat' first|refine gA fun _=>?_|apply fkI<;>intro hb<;>try simp only[ew,e3]at hb|simp only[go_sem,simprocAttr, *])
  refine lpI {ι:=Nat,rs:=[(26,48)],mods:=[(8,fun i=> .one (.d (.v (.int .i64 i)))),(7,fun i=> .one (.own 1 (sL (QmT rs n i)) 1))],boxes:=[(2,fun _=>[.d (.v (.int .i64 c)),.d (.sl 1 (sL rs)),.d (.v (.int .i64 m)),.d (.sl 2 (dL ds))]),(4,fun _=>[.d (.v (.int .i64 0)),.d (.v (.slice none 0 0)),.d (.v (.int .i64 0)),.d (.v (.slice none 0 0))]),(6,fun i=>[.d (.v (.int .i64 c)),.own 1 (sL rs) 1,.d (.v (.int .i64 m)),.own 2 (dL ds) 1])],arrs:=[],ok:=fun i=>i≤rs.length,mu:=fun i=>rs.length-i} rfl 0 (KJ _) ?_ fun i hi=>?_
  ·clear hnl
   (repeat' first|refine gA fun _=>?_|apply fkI<;>intro hb<;>try simp only[ew,e0]at hb|simp only[go_sem,simprocAttr, *])
   all_goals first|rfl|skip
  ·dsimp only at i hi
   have s1:=hnl i
   have s2:(QmT rs n i).length≤40:=by omega
   have s3:(QmT rs n i).length≤maxLen:=KF s2 (by decide)
   clear hnl
   by_cases h5:i<rs.length
   ·have eS:QmT rs n (i+1)=QmT rs n i++(if((i:Nat):Int)!=(n:Int)then [rs.getD i []]else []):=rfl
    have q1:=QbZ hy i
    have q2:=QbZ h2' i
    generalize hP:QmT rs n i=P at s1 s2 s3 eS;cases hq:(((i:Nat):Int)!=(n:Int))
    ·rw[hq,if_neg (by decide),KM]at eS
     (repeat' first|refine gA fun _=>?_|apply fkI<;>intro hb<;>try simp only[ew,hP,hq]at hb|simp only[go_sem,simprocAttr, *,hq])
     refine lpQ (i+1) ?_
     (repeat' first|refine gA fun _=>?_|apply fkI<;>intro hb<;>try simp only[ew,hP,eS,hq]at hb|simp only[go_sem,simprocAttr, *,hq])
    ·rw[hq,if_pos rfl]at eS
     (repeat' first|refine gA fun _=>?_|apply fkI<;>intro hb<;>try simp only[ew,hP,hq,Qbo,Q9]at hb|simp only[go_sem,simprocAttr, *,hq,Qbo,Q9])
     refine lpQ (i+1) ?_
     (repeat' first|refine gA fun _=>?_|apply fkI<;>intro hb<;>try simp only[ew,hP,eS,hq,Qbo,Q9]at hb|simp only[go_sem,simprocAttr, *,hq,Qbo,Q9])
   ·have e5:i=rs.length:=by omega
    subst e5;(repeat' first|refine gA fun _=>?_|apply fkI<;>intro hb<;>try simp only[ew,eN]at hb|simp only[go_sem,simprocAttr, *])
    all_goals first|rfl|skip
theorem Qkm{c:Int}{rs:List (List Int)}{m:Int}{ds:List (Int×Int)}{a:Int}(h1:rs.length≤16777216)(h2:∀r∈rs,r.length≤16777216)(h4:ds.length≤16777216):
  (QeK c rs m ds a).length≤16777216∧(∀r∈QeK c rs m ds a,r.length≤16777216)∧(QfE c rs m ds a).length≤16777216:=by
 unfold QeK QfE;cases hv:QhG c rs m ds a
 ·rw[if_neg (by decide),if_neg (by decide)]
  exact⟨h1,h2,h4⟩
 ·rw[if_pos rfl,if_pos rfl]
  obtain⟨k1,k2⟩:=QgL (a:=a.toNat) h2;have:=@QrZ c (Qii c (QgK rs a.toNat) m)
  exact⟨by omega,k2,by omega⟩
end Go.Own
