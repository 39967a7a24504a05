/- Own contracts. Conditions: as each theorem states them. -/
import Derived.Test.YtnmkpepdacbfaaaGreatDoorRc30
set_option linter.unusedSimpArgs false
set_option linter.unusedVariables false
set_option maxRecDepth 20000
set_option maxHeartbeats 2000000
namespace Go.Own
open Go Go.Proofs
attribute [local go_sem] QeN Qdz Tryz.results100 Tryz.results76 Qnn QaA QdP QBk QdQ Tryz.results93
attribute [local go_sem] Qh Qe Qaa Qac Qab Qaf QaX QdJ Qu QaV
def Qcz:Qb:=⟨[],false,fun
 | [.agg [.v (.int .i64 c),.sl 1 l,.v (.int .i64 m),.sl 2 q]]=>some (WfS l∧(l.length≤16777216∧∀r∈unS l,r.length≤16777216)∧WfD q∧q.length≤16777216,[⟨true,[.d (.v (.int .i64 c)),.own 1 l 1,.d (.v (.int .i64 m)),.own 2 q 1]⟩],[])
 | _=>none⟩
attribute [local go_sem] Qcz
theorem Qh6:Qa E0 100 Qcz:=by
 refine QE (E:=E0) (T:=mkT Tryz.prog [(140,QeN),(108,Qdz)] false (fun _=>false) true (fun _=>false)) (Qd (E:=E0) (.cons QlZ (.cons Qfw .nil))) (fn:=Tryz.f100) Tryz.func100 (by kernel_rfl) rfl Qc (by kernel_rfl) rfl ?_
 intro args p rs ms hr;unfold Qcz at hr;dsimp only at hr;split at hr;rotate_left
 ·cases hr
 rename_i c l m q;cases hr;refine⟨rfl,rfl,nLe rfl,?_⟩
 have hm:=mxE;rintro⟨h1,⟨h2,h2'⟩,h3,h3'⟩ bs;obtain⟨rs,rfl,hx,hy⟩:=h1.ex;obtain⟨ds,rfl,hd⟩:=h3.ex;clear h1 h3;rw[Qz]at h2';rw[Qae]at h2;rw[Qe]at h3';exact gQ
theorem Qh7:Qa E0 76 Qcz:=by
 refine QE (E:=E0) (T:=mkT Tryz.prog [(75,QeN)] false (fun _=>false) true (fun d=>d==3||d==6||d==9)) (Qd (E:=E0) (.cons Ql0 .nil)) (fn:=Tryz.f76) Tryz.func76 (by kernel_rfl) rfl Qc (by kernel_rfl) rfl ?_
 intro args p rs ms hr;unfold Qcz at hr;dsimp only at hr;split at hr;rotate_left
 ·cases hr
 rename_i c l m q;cases hr;refine⟨rfl,rfl,nLe rfl,?_⟩
 have hm:=mxE;rintro⟨h1,⟨h2,h2'⟩,h3,h3'⟩ bs;obtain⟨rs,rfl,hx,hy⟩:=h1.ex;obtain⟨ds,rfl,hd⟩:=h3.ex;clear h1 h3;rw[Qz]at h2';rw[Qae]at h2;rw[Qe]at h3';exact gQ
theorem Qwc{m a b:Int}:eqc m a b=eqc m b a:=by
 unfold eqc
 by_cases h:a=b
 ·subst h;rfl
 ·rw[beq_eq_false_iff_ne.2 h,beq_eq_false_iff_ne.2 (Ne.symm h)];simp
theorem Qov{m:Int}{a b:List Int}:∀{n:Nat},agL m a b n=agL m b a n
 | 0=>rfl
 | n+1=>by rw[agL,agL,@Qov m a b n,Qwc]
def Qjb(c m:Int)(row:List Int)(rs:List (List Int))(q:List (Int×Int)):List (Int×Int):=rs.foldl (fun q r=>QrE c (agL m row r c.toNat) q) q
theorem Qmg{c m:Int}{row:List Int}{rs:List (List Int)}{q:List (Int×Int)}{i:Nat}(h:i<rs.length):Qjb c m row (rs.take (i+1)) q=QrE c (agL m row (rs.getD i []) c.toNat) (Qjb c m row (rs.take i) q):=by
 unfold Qjb;rw[Qf h [],List.foldl_append];rfl
theorem Qro{n ag:Int}{ds:List (Int×Int)}(h:ds.length≤160):(QrE n ag ds).length≤160:=by
 rw[Qx9];unfold Qxc;split
 ·rename_i hv
  unfold QrF at hv;rw[Bool.and_eq_true]at hv;have h5:=(Qp hv.2).2.1
  have:=@Qoe (Qmq (Qjc n ag ds) (Qjc n ag ds).length) (Q3 n) (@QD n).1 n.toNat
  omega
 ·exact h
theorem Qgr{c m:Int}{row:List Int}:∀{rs:List (List Int)} {q:List (Int×Int)},q.length≤160→(Qjb c m row rs q).length≤160
 | [],q,h=>h
 | r::rs,q,h=>@Qgr c m row rs _ (Qro h)
def Qip(c:Int)(rs:List (List Int))(m:Int)(ds:List (Int×Int))(row:List Int):Bool:=isM c rs m ds&&QbS row c&&decide (rs.length<40)
def Qlw(c:Int)(rs:List (List Int))(m:Int)(ds:List (Int×Int))(row:List Int):List (List Int):=if Qip c rs m ds row then rs++[row]else rs
def Qlv(c:Int)(rs:List (List Int))(m:Int)(ds:List (Int×Int))(row:List Int):List (Int×Int):=if Qip c rs m ds row then Qjb c m row rs ds else ds
def QqE:Qb:=⟨[],false,fun
 | [.agg [.v (.int .i64 c),.sl 1 l,.v (.int .i64 m),.sl 2 q],.one (.sl 1 r)]=>some (WfS l∧(l.length≤16777216∧∀r∈unS l,r.length≤16777216)∧WfD q∧q.length≤16777216∧WfI r∧ -9223372036854775808≤c∧c≤9223372036854775807,
   [⟨true,[.d (.v (.int .i64 c)),.own 1 (sL (Qlw c (unS l) m (unD q) (unI r))) 1,.d (.v (.int .i64 m)),.own 2 (dL (Qlv c (unS l) m (unD q) (unI r))) 1]⟩,⟨false,[.d (.v (.bool (Qip c (unS l) m (unD q) (unI r))))]⟩],[])
 | _=>none⟩
attribute [local go_sem] QqE
theorem QaD{c:Int}{rs:List (List Int)}{m:Int}{ds:List (Int×Int)}(h:isM c rs m ds=true):QK c rs=true∧QH m=true∧ds=mdL c rs m:=by
 unfold isM at h;simp only[Bool.and_eq_true,beq_iff_eq]at h
 exact⟨h.1.1,h.1.2,h.2⟩
theorem Qqk{c:Int}{rs:List (List Int)}{row:List Int}(h:QK c rs=true)(hr:QbS row c=true)(hl:rs.length<40):QK c (rs++[row])=true:=by
 unfold QK at *;simp only[Bool.and_eq_true,decide_eq_true_eq,List.all_append,List.length_append]at *
 refine⟨⟨h.1,by simp[hr]⟩,h.2.1,?_⟩
 simp only[List.length_singleton]
 omega
theorem QmJ{row:List Int}{c:Int}(h:QbS row c=true):(row.length:Int)=c:=by
 unfold QbS at h;simp only[Bool.and_eq_true,decide_eq_true_eq]at h
 exact h.2
theorem Qtf:Qa E0 93 QqE:=by
 refine QE (E:=E0) (T:=mkT Tryz.prog [(100,Qcz),(101,Qnn),(142,QaA),(144,QdP),(143,QBk),(145,QdQ)] false (fun _=>false) true (fun _=>false)) (Qd (E:=E0) (.cons Qh6 (.cons QnR (.cons Qpm (.cons Qhe (.cons QAq (.cons Qhj .nil))))))) (fn:=Tryz.f93) Tryz.func93 (by kernel_rfl) rfl Qc (by kernel_rfl) rfl ?_
 intro args p rs ms hr;unfold QqE at hr;dsimp only at hr;split at hr;rotate_left
 ·cases hr
 rename_i c l m q r;cases hr;refine⟨rfl,rfl,nLe rfl,?_⟩
 have hm:=mxE;rintro⟨h1,⟨h2,h2'⟩,h3,h3',h4,hc1,hc2⟩ bs;obtain⟨rs,rfl,hx,hy⟩:=h1.ex;obtain⟨ds,rfl,hd⟩:=h3.ex;obtain⟨row,rfl,hr⟩:=h4.ex;clear h1 h3 h4;rw[Qz]at h2' ⊢;rw[Qh,QaC];rw[Qae]at h2;rw[Qe]at h3';cases hv:Qip c rs m ds row
 ·have e1:Qlw c rs m ds row=rs:=by unfold Qlw;rw[hv];rfl
  have e2:Qlv c rs m ds row=ds:=by unfold Qlv;rw[hv];rfl
  have e3:(!isM c rs m ds|| !QbS row c||(rs.length:Int)==40)=true:=by
   cases q:(!isM c rs m ds|| !QbS row c||(rs.length:Int)==40)with
   | true=>rfl
   | false=>
    simp only[Bool.or_eq_false_iff,Bool.not_eq_false',beq_eq_false_iff_ne]at q
    have:=(Qc9 (QaD q.1.1).1).1
    unfold Qip at hv;rw[q.1.1,q.1.2,decide_eq_true (by omega)]at hv
    cases hv
  rw[e1,e2];clear e1 e2 hv;(repeat' first|refine gA fun _=>?_|apply fkI<;>intro hb<;>try simp only[ew,e3]at hb|simp only[go_sem,simprocAttr, *])
  all_goals first|rfl|skip
 ·have e1:Qlw c rs m ds row=rs++[row]:=by unfold Qlw;rw[hv];rfl
  have e2:Qlv c rs m ds row=Qjb c m row rs ds:=by unfold Qlv;rw[hv];rfl
  rw[e1,e2];clear e1 e2;unfold Qip at hv;rw[Bool.and_eq_true,Bool.and_eq_true,decide_eq_true_eq]at hv;obtain⟨⟨v1,v2⟩,v3⟩:=hv;obtain⟨t1,t2,t3⟩:=QaD v1;have e3:(!isM c rs m ds|| !QbS row c||(rs.length:Int)==40)=false:=by
   rw[v1,v2,beq_eq_false_iff_ne.2 (by omega)];rfl
  obtain⟨c,rfl,c1,c5,h40,hlen⟩:=QL t1;have hrl:=QmJ v2
  have hrl':row.length=c:=by omega
  have q1:ds.length≤160:=by rw[t3];exact(@Qcq (c:Int) rs m).1
  have hsm:=fun i=>@Qgr (c:Int) m row (rs.take i) ds q1
  have e0:Qjb (c:Int) m row (rs.take 0) ds=ds:=rfl
  clear v1 v2 t1 t2 t3;(repeat' first|refine gA fun _=>?_|apply fkI<;>intro hb<;>try simp only[ew,e3]at hb|simp only[go_sem,simprocAttr, *])
  refine lpI {ι:=Nat,rs:=[(8,9),(35,51)],mods:=[(34,fun i=> .one (.d (.v (.int .i64 i))))],boxes:=[(2,fun _=>[.d (.v (.int .i64 c)),.d (.sl 1 (sL rs)),.d (.v (.int .i64 m)),.d (.sl 2 (dL ds))]),(4,fun _=>[.d (.v (.int .i64 0)),.d (.v (.slice none 0 0)),.d (.v (.int .i64 0)),.d (.v (.slice none 0 0))]),(6,fun i=>[.d (.v (.int .i64 c)),.own 1 (sL rs) 1,.d (.v (.int .i64 m)),.own 2 (dL (Qjb c m row (rs.take i) ds)) 1])],arrs:=[],ok:=fun i=>i≤rs.length,mu:=fun i=>rs.length-i} rfl 0 (Nat.zero_le _) ?_ fun i hi=>?_
  ·clear hsm hlen
   (repeat' first|refine gA fun _=>?_|apply fkI<;>intro hb<;>try simp only[ew,e0]at hb|simp only[go_sem,simprocAttr, *])
   all_goals first|rfl|skip
  ·dsimp only at i hi
   have s1:=hsm i
   have s2:(Qjb (c:Int) m row (rs.take i) ds).length≤maxLen:=Nat.le_trans s1 (by decide)
   clear hsm
   by_cases h5:i<rs.length
   ·have eS:=Qmg (c:=(c:Int)) (m:=m) (row:=row) (q:=ds) h5
    have hli:=hlen i h5
    clear hlen;rw[Int.toNat_natCast]at eS;generalize hP:Qjb (c:Int) m row (rs.take i) ds=P at s1 s2 eS;have hag:=Qbe (m:=m) (a:=row) (b:=rs.getD i []) c5
    clear hrl;(repeat' first|refine gA fun _=>?_|apply fkI<;>intro hb<;>try simp only[ew,hP]at hb|simp only[go_sem,simprocAttr, *])
    refine lpN (i+1) (by dsimp only;omega) (by dsimp only;omega) ?_
    (repeat' first|refine gA fun _=>?_|apply fkI<;>intro hb<;>try simp only[ew,hP,eS]at hb|simp only[go_sem,simprocAttr, *])
   ·have e5:i=rs.length:=by omega
    subst e5;have eT:rs.take rs.length=rs:=List.take_length
    rw[eT]at s1 s2;have hr5:row.length≤16777216:=by omega
    clear hlen;(repeat' first|refine gA fun _=>?_|apply fkI<;>intro hb<;>try simp only[ew,eT,Qbb,Q4]at hb|simp only[go_sem,simprocAttr, *,Qbb,Q4])
    all_goals first|rfl|skip
end Go.Own
namespace Go.Own
open Go Go.Proofs
attribute [local go_sem] Qcz Qnn Qrz Qvo Tryz.results56 Qbf Tryz.results43
attribute [local go_sem] Qh Qe Qaa Qac Qab Qaf QaX QdJ Qu QaV
def Qgj(rs:List (List Int))(a:Nat):List (List Int):=rs.take a++rs.drop (a+1)
def Ql3(rs:List (List Int))(a:Nat):Nat→List (List Int)
 | 0=>[]
 | i+1=>Ql3 rs a i++(if((i:Nat):Int)!=(a:Int)then [rs.getD i []]else [])
theorem QoW{rs:List (List Int)}{a:Nat}:∀{i:Nat},(Ql3 rs a i).length≤i
 | 0=>Nat.le_refl _
 | i+1=>by
  have:=@QoW rs a i
  rw[Ql3,List.length_append];split<;>simp<;>omega
theorem QoX{rs:List (List Int)}{a:Nat}:∀{i:Nat},i≤a→i≤rs.length→Ql3 rs a i=rs.take i
 | 0,_,_=>by simp[Ql3]
 | i+1,h,h2=>by
  have:(((i:Nat):Int)!=(a:Int))=true:=by rw[bne_iff_ne];omega
  rw[Ql3,QoX (by omega) (by omega),this,if_pos rfl,Qf (by omega) []]
theorem Ql4{rs:List (List Int)}{a:Nat}(ha:a<rs.length):∀{k:Nat},a+1+k≤rs.length→Ql3 rs a (a+1+k)=rs.take a++(rs.drop (a+1)).take k
 | 0,h=>by
  have:(((a:Nat):Int)!=(a:Int))=false:=by simp
  rw[Nat.add_zero,Ql3,QoX (Nat.le_refl _) (by omega),this];simp
 | k+1,h=>by
  have e:a+1+(k+1)=(a+1+k)+1:=by omega
  have:(((a+1+k:Nat):Int)!=(a:Int))=true:=by rw[bne_iff_ne];omega
  rw[e,Ql3,Ql4 ha (by omega),this,if_pos rfl,List.append_assoc]
  congr 1
  have h2:k<(rs.drop (a+1)).length:=by rw[List.length_drop];omega
  rw[Qf h2 []];congr 2
  simp[List.getD_eq_getElem?_getD]
theorem Qv2{rs:List (List Int)}{a:Nat}(ha:a<rs.length):Ql3 rs a rs.length=Qgj rs a:=by
 obtain⟨k,hk⟩:=Nat.le.dest (show a+1≤rs.length from ha)
 have h1:=@Ql4 rs a ha k (by omega)
 rw[hk]at h1;rw[h1];unfold Qgj;rw[List.take_of_length_le (l:=rs.drop (a+1)) (i:=k) (by rw[List.length_drop];omega)]
theorem Qp6{rs:List (List Int)}{i:Nat}:(sL rs).drop i=sL (rs.drop i):=by simp[sL,List.map_drop]
theorem Quh{xs ys:List (List Int)}:sL xs++sL ys=sL (xs++ys):=by simp[sL]
def Qg9(c:Int)(rs:List (List Int))(m:Int)(ds:List (Int×Int))(a:Int):Bool:=isM c rs m ds&&inB a 0 ((rs.length:Int)-1)
def Qeo(c:Int)(rs:List (List Int))(m:Int)(ds:List (Int×Int))(a:Int):List (List Int):=if Qg9 c rs m ds a then Qgj rs a.toNat else rs
def Qfi(c:Int)(rs:List (List Int))(m:Int)(ds:List (Int×Int))(a:Int):List (Int×Int):=if Qg9 c rs m ds a then Qm5 c (QhM c (Qgj rs a.toNat) m)else ds
def QrB:Qb:=⟨[],false,fun
 | [.agg [.v (.int .i64 c),.sl 1 l,.v (.int .i64 m),.sl 2 q],.one (.v (.int .i64 a))]=>some (WfS l∧(l.length≤16777216∧∀r∈unS l,r.length≤16777216)∧WfD q∧q.length≤16777216∧ -9223372036854775808≤c∧c≤9223372036854775807,
   [⟨true,[.d (.v (.int .i64 c)),.own 1 (sL (Qeo c (unS l) m (unD q) a)) 1,.d (.v (.int .i64 m)),.own 2 (dL (Qfi c (unS l) m (unD q) a)) 1]⟩,⟨false,[.d (.v (.bool (Qg9 c (unS l) m (unD q) a)))]⟩],[])
 | _=>none⟩
attribute [local go_sem] QrB
theorem Qgk{rs:List (List Int)}{a:Nat}{B:Nat}(h:∀r∈rs,r.length≤B):(Qgj rs a).length≤rs.length∧∀r∈Qgj rs a,r.length≤B:=by
 unfold Qgj;refine⟨by rw[List.length_append,List.length_take,List.length_drop];omega,fun r hr=>?_⟩
 rcases List.mem_append.1 hr with hr|hr
 ·exact h r (List.mem_of_mem_take hr)
 ·exact h r (List.mem_of_mem_drop hr)
theorem QqP{n:Int}{xs:List Int}:(Qm5 n xs).length≤160:=by
 unfold Qm5;split
 ·rename_i h
  rw[Bool.and_eq_true,Qi]at h;have:=@QaM (Qi9 xs) n n.toNat
  unfold QaR;omega
 ·simp
theorem QsN:Qa E0 56 QrB:=by
 refine QE (E:=E0) (T:=mkT Tryz.prog [(100,Qcz),(101,Qnn),(103,Qrz),(102,Qvo)] false (fun _=>false) true (fun _=>false)) (Qd (E:=E0) (.cons Qh6 (.cons QnR (.cons QrX (.cons Qy5 .nil))))) (fn:=Tryz.f56) Tryz.func56 (by kernel_rfl) rfl Qc (by kernel_rfl) rfl ?_
 intro args p rs ms hr;unfold QrB at hr;dsimp only at hr;split at hr;rotate_left
 ·cases hr
 rename_i c l m q a;cases hr;refine⟨rfl,rfl,nLe rfl,?_⟩
 have hm:=mxE;rintro⟨h1,⟨h2,h2'⟩,h3,h3',hc1,hc2⟩ bs;obtain⟨rs,rfl,hx,hy⟩:=h1.ex;obtain⟨ds,rfl,hd⟩:=h3.ex;clear h1 h3;rw[Qz]at h2' ⊢;rw[Qh];rw[Qae]at h2;rw[Qe]at h3';cases hv:Qg9 c rs m ds a
 ·have e1:Qeo c rs m ds a=rs:=by unfold Qeo;rw[hv];rfl
  have e2:Qfi c rs m ds a=ds:=by unfold Qfi;rw[hv];rfl
  have e3:(!isM c rs m ds||decide (a<0)||decide (a≥(rs.length:Int)))=true:=by
   cases q:(!isM c rs m ds||decide (a<0)||decide (a≥(rs.length:Int)))with
   | true=>rfl
   | false=>
    simp only[Bool.or_eq_false_iff,Bool.not_eq_false',decide_eq_false_iff_not]at q
    unfold Qg9 at hv;rw[q.1.1,Bool.true_and,←Bool.not_eq_true,Qi]at hv;omega
  rw[e1,e2];clear e1 e2 hv;(repeat' first|refine gA fun _=>?_|apply fkI<;>intro hb<;>try simp only[ew,e3]at hb|simp only[go_sem,simprocAttr, *])
  all_goals first|rfl|skip
 ·have e1:Qeo c rs m ds a=Qgj rs a.toNat:=by unfold Qeo;rw[hv];rfl
  have e2:Qfi c rs m ds a=Qm5 c (QhM c (Qgj rs a.toNat) m):=by unfold Qfi;rw[hv];rfl
  rw[e1,e2];clear e1 e2;unfold Qg9 at hv;rw[Bool.and_eq_true,Qi]at hv;obtain⟨v1,v2,v3⟩:=hv;have e3:(!isM c rs m ds||decide (a<0)||decide (a≥(rs.length:Int)))=false:=by
   rw[v1,decide_eq_false (by omega),decide_eq_false (by omega)];rfl
  obtain⟨n,rfl⟩:=Int.eq_ofNat_of_zero_le v2;rw[Int.toNat_natCast];have hn:n<rs.length:=by omega
  have e3b:(!isM c rs m ds||decide ((n:Int)<0)||decide (rs.length≤n))=false:=by
   rw[v1,decide_eq_false (by omega),decide_eq_false (by omega)];rfl
  have hne:sL rs≠[]:=fun e=>by have:=congrArg List.length e;rw[Qae,List.length_nil]at this;omega
  have h40:=(Qc9 (QaD v1).1).1
  obtain⟨d1,d2⟩:=Qgk (a:=n) hy;have d3:(Qgj rs n).length≤maxLen:=by omega
  have eD:rs.take n++rs.drop (n+1)=Qgj rs n:=rfl
  have d4:=(@QdM c (Qgj rs n) m).1
  have d5:(QhM c (Qgj rs n) m).length≤maxLen:=Nat.le_trans d4 (by decide)
  have et:((n:Int)+1).toNat=n+1:=by omega
  generalize hZ:Qgj rs n=Z at d1 d2 d3 d4 d5 eD ⊢;clear v1;(repeat' first|refine gA fun _=>?_|apply fkI<;>intro hb<;>try simp only[ew,e3,e3b,hne,et,QeD,Qp6,Quh,eD]at hb|simp only[go_sem,simprocAttr, *,QeD,Qp6,Quh])
  all_goals first|rfl|skip
theorem QsO:Qa E0 43 QrB:=by
 refine QE (E:=E0) (T:=mkT Tryz.prog [(76,Qcz),(77,Qnn),(62,Qbf),(81,Qrz),(80,Qvo)] false (fun _=>false) true (fun _=>false)) (Qd (E:=E0) (.cons Qh7 (.cons QnS (.cons Qcp (.cons QrY (.cons Qy6 .nil)))))) (fn:=Tryz.f43) Tryz.func43 (by kernel_rfl) rfl Qc (by kernel_rfl) rfl ?_
 intro args p rs ms hr;unfold QrB at hr;dsimp only at hr;split at hr;rotate_left
 ·cases hr
 rename_i c l m q a;cases hr;refine⟨rfl,rfl,nLe rfl,?_⟩
 have hm:=mxE;rintro⟨h1,⟨h2,h2'⟩,h3,h3',hc1,hc2⟩ bs;obtain⟨rs,rfl,hx,hy⟩:=h1.ex;obtain⟨ds,rfl,hd⟩:=h3.ex;clear h1 h3;rw[Qz]at h2' ⊢;rw[Qh];rw[Qae]at h2;rw[Qe]at h3';cases hv:Qg9 c rs m ds a
 ·have e1:Qeo c rs m ds a=rs:=by unfold Qeo;rw[hv];rfl
  have e2:Qfi c rs m ds a=ds:=by unfold Qfi;rw[hv];rfl
  have e3:(!isM c rs m ds|| !inB a 0 ((rs.length:Int)-1))=true:=by rw[←Bool.not_and];unfold Qg9 at hv;rw[hv];rfl
  rw[e1,e2];clear e1 e2 hv;(repeat' first|refine gA fun _=>?_|apply fkI<;>intro hb<;>try simp only[ew,e3]at hb|simp only[go_sem,simprocAttr, *])
  all_goals first|rfl|skip
 ·have e1:Qeo c rs m ds a=Qgj rs a.toNat:=by unfold Qeo;rw[hv];rfl
  have e2:Qfi c rs m ds a=Qm5 c (QhM c (Qgj rs a.toNat) m):=by unfold Qfi;rw[hv];rfl
  rw[e1,e2];clear e1 e2;have e3:(!isM c rs m ds|| !inB a 0 ((rs.length:Int)-1))=false:=by rw[←Bool.not_and];unfold Qg9 at hv;rw[hv];rfl
  unfold Qg9 at hv;rw[Bool.and_eq_true,Qi]at hv;obtain⟨v1,v2,v3⟩:=hv;obtain⟨n,rfl⟩:=Int.eq_ofNat_of_zero_le v2;rw[Int.toNat_natCast];have hn:n<rs.length:=by omega
  have h40:=(Qc9 (QaD v1).1).1
  have eN:=Qv2 hn
  obtain⟨d1,d2⟩:=Qgk (a:=n) hy;have d3:(Qgj rs n).length≤maxLen:=by omega
  have d4:=(@QdM c (Qgj rs n) m).1
  have d5:(QhM c (Qgj rs n) m).length≤maxLen:=Nat.le_trans d4 (by decide)
  generalize hZ:Qgj rs n=Z at d1 d2 d3 d4 d5 eN ⊢;have hnl:=fun i=>@QoW rs n i
  have e0:sL (Ql3 rs n 0)=[]:=rfl
  clear v1;(repeat' first|refine gA fun _=>?_|apply fkI<;>intro hb<;>try simp only[ew,e3]at hb|simp only[go_sem,simprocAttr, *])
  refine lpI {ι:=Nat,rs:=[(26,48)],mods:=[(8,fun i=> .one (.d (.v (.int .i64 i)))),(7,fun i=> .one (.own 1 (sL (Ql3 rs n i)) 1))],boxes:=[(2,fun _=>[.d (.v (.int .i64 c)),.d (.sl 1 (sL rs)),.d (.v (.int .i64 m)),.d (.sl 2 (dL ds))]),(4,fun _=>[.d (.v (.int .i64 0)),.d (.v (.slice none 0 0)),.d (.v (.int .i64 0)),.d (.v (.slice none 0 0))]),(6,fun i=>[.d (.v (.int .i64 c)),.own 1 (sL rs) 1,.d (.v (.int .i64 m)),.own 2 (dL ds) 1])],arrs:=[],ok:=fun i=>i≤rs.length,mu:=fun i=>rs.length-i} rfl 0 (Nat.zero_le _) ?_ fun i hi=>?_
  ·clear hnl
   (repeat' first|refine gA fun _=>?_|apply fkI<;>intro hb<;>try simp only[ew,e0]at hb|simp only[go_sem,simprocAttr, *])
   all_goals first|rfl|skip
  ·dsimp only at i hi
   have s1:=hnl i
   have s2:(Ql3 rs n i).length≤40:=by omega
   have s3:(Ql3 rs n i).length≤maxLen:=Nat.le_trans s2 (by decide)
   clear hnl
   by_cases h5:i<rs.length
   ·have eS:Ql3 rs n (i+1)=Ql3 rs n i++(if((i:Nat):Int)!=(n:Int)then [rs.getD i []]else []):=rfl
    have q1:=QbM hy i
    have q2:=QbM h2' i
    generalize hP:Ql3 rs n i=P at s1 s2 s3 eS;cases hq:(((i:Nat):Int)!=(n:Int))
    ·rw[hq,if_neg (by decide),List.append_nil]at eS
     (repeat' first|refine gA fun _=>?_|apply fkI<;>intro hb<;>try simp only[ew,hP,hq]at hb|simp only[go_sem,simprocAttr, *,hq])
     refine lpN (i+1) (by dsimp only;omega) (by dsimp only;omega) ?_
     (repeat' first|refine gA fun _=>?_|apply fkI<;>intro hb<;>try simp only[ew,hP,eS,hq]at hb|simp only[go_sem,simprocAttr, *,hq])
    ·rw[hq,if_pos rfl]at eS
     (repeat' first|refine gA fun _=>?_|apply fkI<;>intro hb<;>try simp only[ew,hP,hq,Qbb,Q4]at hb|simp only[go_sem,simprocAttr, *,hq,Qbb,Q4])
     refine lpN (i+1) (by dsimp only;omega) (by dsimp only;omega) ?_
     (repeat' first|refine gA fun _=>?_|apply fkI<;>intro hb<;>try simp only[ew,hP,eS,hq,Qbb,Q4]at hb|simp only[go_sem,simprocAttr, *,hq,Qbb,Q4])
   ·have e5:i=rs.length:=by omega
    subst e5;(repeat' first|refine gA fun _=>?_|apply fkI<;>intro hb<;>try simp only[ew,eN]at hb|simp only[go_sem,simprocAttr, *])
    all_goals first|rfl|skip
theorem QjG{c:Int}{rs:List (List Int)}{m:Int}{ds:List (Int×Int)}{a:Int}(h1:rs.length≤16777216)(h2:∀r∈rs,r.length≤16777216)(h4:ds.length≤16777216):
  (Qeo c rs m ds a).length≤16777216∧(∀r∈Qeo c rs m ds a,r.length≤16777216)∧(Qfi c rs m ds a).length≤16777216:=by
 unfold Qeo Qfi;cases hv:Qg9 c rs m ds a
 ·rw[if_neg (by decide),if_neg (by decide)]
  exact⟨h1,h2,h4⟩
 ·rw[if_pos rfl,if_pos rfl]
  obtain⟨k1,k2⟩:=Qgk (a:=a.toNat) h2;have:=@QqP c (QhM c (Qgj rs a.toNat) m)
  exact⟨by omega,k2,by omega⟩
end Go.Own
