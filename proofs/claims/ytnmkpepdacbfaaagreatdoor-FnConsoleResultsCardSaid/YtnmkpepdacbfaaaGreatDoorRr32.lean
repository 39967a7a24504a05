/- Own contracts. Conditions: as each theorem states them. -/
import Derived.Test.YtnmkpepdacbfaaaGreatDoorRr31
set_option linter.unusedSimpArgs false
set_option linter.unusedVariables false
set_option maxRecDepth 20000
set_option maxHeartbeats 2000000
namespace Go.Own
open Go Go.Proofs
attribute [local go_sem] Qif Qc1 Tryz.results100 Tryz.results76 Qs4 Qar Qdh QzN Qdi Tryz.results93
attribute [local go_sem] Qm Qc QZ Q1 Q0 Q3 QaH Qdb Qr QaG
def QeD:Qb:=⟨[],false,fun
 | [.agg [.v (.int .i64 c),.sl 1 l,.v (.int .i64 m),.sl 2 q]]=>some (WfS l∧(l.length≤16777216∧∀r∈unS l,r.length≤16777216)∧WfD q∧q.length≤16777216,[⟨true,[.d (.v (.int .i64 c)),.own 1 l 1,.d (.v (.int .i64 m)),.own 2 q 1]⟩],[])
 | _=>none⟩
attribute [local go_sem] QeD
theorem QgZ:Qa E0 100 QeD:=by
 refine QV (E:=E0) (T:=mkT Tryz.prog [(140,Qif),(108,Qc1)] false (fun _=>false) true (fun _=>false)) (Qf (E:=E0) (.cons Qkn (.cons QeH .nil))) (fn:=Tryz.f100) Tryz.func100 (by kernel_rfl) rfl Qe (by kernel_rfl) rfl ?_
 intro args p rs ms hr;unfold QeD at hr;dsimp only at hr;split at hr;rotate_left
 ·cases hr
 rename_i c l m q;cases hr;refine⟨rfl,rfl,nLe rfl,?_⟩
 have hm:=mxE;rintro⟨h1,⟨h2,h2'⟩,h3,h3'⟩ bs;obtain⟨rs,rfl,hx,hy⟩:=h1.ex;obtain⟨ds,rfl,hd⟩:=h3.ex;clear h1 h3;rw[QG]at h2';rw[Qas]at h2;rw[Qc]at h3';exact gQ
def Qo0(c m:Int)(row:List Int)(rs:List (List Int))(q:List (Int×Int)):List (Int×Int):=rs.foldl (fun q r=>QpD c (agL m row r c.toNat) q) q
theorem Qro{c m:Int}{row:List Int}{rs:List (List Int)}{q:List (Int×Int)}{i:Nat}(h:i<rs.length):Qo0 c m row (rs.take (i+1)) q=QpD c (agL m row (rs.getD i []) c.toNat) (Qo0 c m row (rs.take i) q):=by
 unfold Qo0;rw[Qk h [],List.foldl_append];rfl
theorem Qpp{n ag:Int}{ds:List (Int×Int)}(h:ds.length≤160):(QpD n ag ds).length≤160:=by
 rw[QAW];unfold QBG;split
 ·rename_i hv
  unfold Qvr at hv;rw[Bool.and_eq_true]at hv;have h5:=(Qt hv.2).2.1
  have:=@Qsr (QxZ (Ql4 n ag ds) (Ql4 n ag ds).length) (Q9 n) (@QM n).1 n.toNat
  omega
 ·exact h
theorem Qiy{c m:Int}{row:List Int}:∀{rs:List (List Int)} {q:List (Int×Int)},q.length≤160→(Qo0 c m row rs q).length≤160
 | [],q,h=>h
 | r::rs,q,h=>@Qiy c m row rs _ (Qpp h)
def Qiz(c:Int)(rs:List (List Int))(m:Int)(ds:List (Int×Int))(row:List Int):Bool:=isM c rs m ds&&Qbx row c&&decide (rs.length<40)
def QlZ(c:Int)(rs:List (List Int))(m:Int)(ds:List (Int×Int))(row:List Int):List (List Int):=if Qiz c rs m ds row then rs++[row]else rs
def Qo1(c:Int)(rs:List (List Int))(m:Int)(ds:List (Int×Int))(row:List Int):List (Int×Int):=if Qiz c rs m ds row then Qo0 c m row rs ds else ds
def QtH:Qb:=⟨[],false,fun
 | [.agg [.v (.int .i64 c),.sl 1 l,.v (.int .i64 m),.sl 2 q],.one (.sl 1 r)]=>some (WfS l∧(l.length≤16777216∧∀r∈unS l,r.length≤16777216)∧WfD q∧q.length≤16777216∧WfI r∧ -9223372036854775808≤c∧c≤9223372036854775807,
   [⟨true,[.d (.v (.int .i64 c)),.own 1 (sL (QlZ c (unS l) m (unD q) (unI r))) 1,.d (.v (.int .i64 m)),.own 2 (dL (Qo1 c (unS l) m (unD q) (unI r))) 1]⟩,⟨false,[.d (.v (.bool (Qiz c (unS l) m (unD q) (unI r))))]⟩],[])
 | _=>none⟩
attribute [local go_sem] QtH
theorem QaD{c:Int}{rs:List (List Int)}{m:Int}{ds:List (Int×Int)}(h:isM c rs m ds=true):QC c rs=true∧QJ m=true∧ds=mdL c rs m:=by
 unfold isM at h;simp only[Bool.and_eq_true,beq_iff_eq]at h
 exact⟨h.1.1,h.1.2,h.2⟩
theorem Qog{c:Int}{rs:List (List Int)}{row:List Int}(h:QC c rs=true)(hr:Qbx row c=true)(hl:rs.length<40):QC c (rs++[row])=true:=by
 unfold QC at *;simp only[Bool.and_eq_true,decide_eq_true_eq,List.all_append,List.length_append]at *
 refine⟨⟨h.1,by simp[hr]⟩,h.2.1,?_⟩
 simp only[List.length_singleton]
 omega
theorem Qsk{row:List Int}{c:Int}(h:Qbx row c=true):(row.length:Int)=c:=by
 unfold Qbx at h;simp only[Bool.and_eq_true,decide_eq_true_eq]at h
 exact h.2
theorem Qrp:Qa E0 93 QtH:=by
 refine QV (E:=E0) (T:=mkT Tryz.prog [(100,QeD),(101,Qs4),(142,Qar),(144,Qdh),(143,QzN),(145,Qdi)] false (fun _=>false) true (fun _=>false)) (Qf (E:=E0) (.cons QgZ (.cons Ql1 (.cons Qns (.cons Qgi (.cons QyJ (.cons Qgl .nil))))))) (fn:=Tryz.f93) Tryz.func93 (by kernel_rfl) rfl Qe (by kernel_rfl) rfl ?_
 intro args p rs ms hr;unfold QtH at hr;dsimp only at hr;split at hr;rotate_left
 ·cases hr
 rename_i c l m q r;cases hr;refine⟨rfl,rfl,nLe rfl,?_⟩
 have hm:=mxE;rintro⟨h1,⟨h2,h2'⟩,h3,h3',h4,hc1,hc2⟩ bs;obtain⟨rs,rfl,hx,hy⟩:=h1.ex;obtain⟨ds,rfl,hd⟩:=h3.ex;obtain⟨row,rfl,hr⟩:=h4.ex;clear h1 h3 h4;rw[QG]at h2' ⊢;rw[Qm,Qay];rw[Qas]at h2;rw[Qc]at h3';cases hv:Qiz c rs m ds row
 ·have e1:QlZ c rs m ds row=rs:=by unfold QlZ;rw[hv];rfl
  have e2:Qo1 c rs m ds row=ds:=by unfold Qo1;rw[hv];rfl
  have e3:(!isM c rs m ds|| !Qbx row c||(rs.length:Int)==40)=true:=by
   cases q:(!isM c rs m ds|| !Qbx row c||(rs.length:Int)==40)with
   | true=>rfl
   | false=>
    simp only[Bool.or_eq_false_iff,Bool.not_eq_false',beq_eq_false_iff_ne]at q
    have:=(Qcd (QaD q.1.1).1).1
    unfold Qiz at hv;rw[q.1.1,q.1.2,decide_eq_true (by omega)]at hv
    cases hv
  rw[e1,e2];clear e1 e2 hv;(repeat' first|refine gA fun _=>?_|apply fkI<;>intro hb<;>try simp only[ew,e3]at hb|simp only[go_sem,simprocAttr, *])
  all_goals first|rfl|skip
 ·have e1:QlZ c rs m ds row=rs++[row]:=by unfold QlZ;rw[hv];rfl
  have e2:Qo1 c rs m ds row=Qo0 c m row rs ds:=by unfold Qo1;rw[hv];rfl
  rw[e1,e2];clear e1 e2;unfold Qiz at hv;rw[Bool.and_eq_true,Bool.and_eq_true,decide_eq_true_eq]at hv;obtain⟨⟨v1,v2⟩,v3⟩:=hv;obtain⟨t1,t2,t3⟩:=QaD v1;have e3:(!isM c rs m ds|| !Qbx row c||(rs.length:Int)==40)=false:=by
   rw[v1,v2,beq_eq_false_iff_ne.2 (by omega)];rfl
  obtain⟨c,rfl,c1,c5,h40,hlen⟩:=QR t1;have hrl:=Qsk v2
  have hrl':row.length=c:=by omega
  have q1:ds.length≤160:=by rw[t3];exact(@Qca (c:Int) rs m).1
  have hsm:=fun i=>@Qiy (c:Int) m row (rs.take i) ds q1
  have e0:Qo0 (c:Int) m row (rs.take 0) ds=ds:=rfl
  clear v1 v2 t1 t2 t3;(repeat' first|refine gA fun _=>?_|apply fkI<;>intro hb<;>try simp only[ew,e3]at hb|simp only[go_sem,simprocAttr, *])
  refine lpI {ι:=Nat,rs:=[(8,9),(35,51)],mods:=[(34,fun i=> .one (.d (.v (.int .i64 i))))],boxes:=[(2,fun _=>[.d (.v (.int .i64 c)),.d (.sl 1 (sL rs)),.d (.v (.int .i64 m)),.d (.sl 2 (dL ds))]),(4,fun _=>[.d (.v (.int .i64 0)),.d (.v (.slice none 0 0)),.d (.v (.int .i64 0)),.d (.v (.slice none 0 0))]),(6,fun i=>[.d (.v (.int .i64 c)),.own 1 (sL rs) 1,.d (.v (.int .i64 m)),.own 2 (dL (Qo0 c m row (rs.take i) ds)) 1])],arrs:=[],ok:=fun i=>i≤rs.length,mu:=fun i=>rs.length-i} rfl 0 (Nat.zero_le _) ?_ fun i hi=>?_
  ·clear hsm hlen
   (repeat' first|refine gA fun _=>?_|apply fkI<;>intro hb<;>try simp only[ew,e0]at hb|simp only[go_sem,simprocAttr, *])
   all_goals first|rfl|skip
  ·dsimp only at i hi
   have s1:=hsm i
   have s2:(Qo0 (c:Int) m row (rs.take i) ds).length≤maxLen:=Nat.le_trans s1 (by decide)
   clear hsm
   by_cases h5:i<rs.length
   ·have eS:=Qro (c:=(c:Int)) (m:=m) (row:=row) (q:=ds) h5
    have hli:=hlen i h5
    clear hlen;rw[Int.toNat_natCast]at eS;generalize hP:Qo0 (c:Int) m row (rs.take i) ds=P at s1 s2 eS;have hag:=QaW (m:=m) (a:=row) (b:=rs.getD i []) c5
    clear hrl;(repeat' first|refine gA fun _=>?_|apply fkI<;>intro hb<;>try simp only[ew,hP]at hb|simp only[go_sem,simprocAttr, *])
    refine lpN (i+1) (by dsimp only;omega) (by dsimp only;omega) ?_
    (repeat' first|refine gA fun _=>?_|apply fkI<;>intro hb<;>try simp only[ew,hP,eS]at hb|simp only[go_sem,simprocAttr, *])
   ·have e5:i=rs.length:=by omega
    subst e5;have eT:rs.take rs.length=rs:=List.take_length
    rw[eT]at s1 s2;have hr5:row.length≤16777216:=by omega
    clear hlen;(repeat' first|refine gA fun _=>?_|apply fkI<;>intro hb<;>try simp only[ew,eT,QfO,Qb0]at hb|simp only[go_sem,simprocAttr, *,QfO,Qb0])
    all_goals first|rfl|skip
end Go.Own
namespace Go.Own
open Go Go.Proofs
attribute [local go_sem] QeD Qs4 Qw2 Qzf Tryz.results56 QbD Tryz.results43
attribute [local go_sem] Qm Qc QZ Q1 Q0 Q3 QaH Qdb Qr QaG
def Qi7(rs:List (List Int))(a:Nat):List (List Int):=rs.take a++rs.drop (a+1)
theorem Qgv{rs:List (List Int)}{i:Nat}:(sL rs).drop i=sL (rs.drop i):=by simp[sL,List.map_drop]
theorem QjO{xs ys:List (List Int)}:sL xs++sL ys=sL (xs++ys):=by simp[sL]
def QhP(c:Int)(rs:List (List Int))(m:Int)(ds:List (Int×Int))(a:Int):Bool:=isM c rs m ds&&inB a 0 ((rs.length:Int)-1)
def QfX(c:Int)(rs:List (List Int))(m:Int)(ds:List (Int×Int))(a:Int):List (List Int):=if QhP c rs m ds a then Qi7 rs a.toNat else rs
def QhU(c:Int)(rs:List (List Int))(m:Int)(ds:List (Int×Int))(a:Int):List (Int×Int):=if QhP c rs m ds a then QqM c (Qk8 c (Qi7 rs a.toNat) m)else ds
def QvJ:Qb:=⟨[],false,fun
 | [.agg [.v (.int .i64 c),.sl 1 l,.v (.int .i64 m),.sl 2 q],.one (.v (.int .i64 a))]=>some (WfS l∧(l.length≤16777216∧∀r∈unS l,r.length≤16777216)∧WfD q∧q.length≤16777216∧ -9223372036854775808≤c∧c≤9223372036854775807,
   [⟨true,[.d (.v (.int .i64 c)),.own 1 (sL (QfX c (unS l) m (unD q) a)) 1,.d (.v (.int .i64 m)),.own 2 (dL (QhU c (unS l) m (unD q) a)) 1]⟩,⟨false,[.d (.v (.bool (QhP c (unS l) m (unD q) a)))]⟩],[])
 | _=>none⟩
attribute [local go_sem] QvJ
theorem Qip{rs:List (List Int)}{a:Nat}{B:Nat}(h:∀r∈rs,r.length≤B):(Qi7 rs a).length≤rs.length∧∀r∈Qi7 rs a,r.length≤B:=by
 unfold Qi7;refine⟨by rw[List.length_append,List.length_take,List.length_drop];omega,fun r hr=>?_⟩
 rcases List.mem_append.1 hr with hr|hr
 ·exact h r (List.mem_of_mem_take hr)
 ·exact h r (List.mem_of_mem_drop hr)
theorem QoI{n:Int}{xs:List Int}:(QqM n xs).length≤160:=by
 unfold QqM;split
 ·rename_i h
  rw[Bool.and_eq_true,Qh]at h;have:=@Qa6 (QvZ xs) n n.toNat
  unfold QaJ;omega
 ·simp
theorem QqO:Qa E0 56 QvJ:=by
 refine QV (E:=E0) (T:=mkT Tryz.prog [(100,QeD),(101,Qs4),(103,Qw2),(102,Qzf)] false (fun _=>false) true (fun _=>false)) (Qf (E:=E0) (.cons QgZ (.cons Ql1 (.cons QpW (.cons Qxn .nil))))) (fn:=Tryz.f56) Tryz.func56 (by kernel_rfl) rfl Qe (by kernel_rfl) rfl ?_
 intro args p rs ms hr;unfold QvJ at hr;dsimp only at hr;split at hr;rotate_left
 ·cases hr
 rename_i c l m q a;cases hr;refine⟨rfl,rfl,nLe rfl,?_⟩
 have hm:=mxE;rintro⟨h1,⟨h2,h2'⟩,h3,h3',hc1,hc2⟩ bs;obtain⟨rs,rfl,hx,hy⟩:=h1.ex;obtain⟨ds,rfl,hd⟩:=h3.ex;clear h1 h3;rw[QG]at h2' ⊢;rw[Qm];rw[Qas]at h2;rw[Qc]at h3';cases hv:QhP c rs m ds a
 ·have e1:QfX c rs m ds a=rs:=by unfold QfX;rw[hv];rfl
  have e2:QhU c rs m ds a=ds:=by unfold QhU;rw[hv];rfl
  have e3:(!isM c rs m ds||decide (a<0)||decide (a≥(rs.length:Int)))=true:=by
   cases q:(!isM c rs m ds||decide (a<0)||decide (a≥(rs.length:Int)))with
   | true=>rfl
   | false=>
    simp only[Bool.or_eq_false_iff,Bool.not_eq_false',decide_eq_false_iff_not]at q
    unfold QhP at hv;rw[q.1.1,Bool.true_and,←Bool.not_eq_true,Qh]at hv;omega
  rw[e1,e2];clear e1 e2 hv;(repeat' first|refine gA fun _=>?_|apply fkI<;>intro hb<;>try simp only[ew,e3]at hb|simp only[go_sem,simprocAttr, *])
  all_goals first|rfl|skip
 ·have e1:QfX c rs m ds a=Qi7 rs a.toNat:=by unfold QfX;rw[hv];rfl
  have e2:QhU c rs m ds a=QqM c (Qk8 c (Qi7 rs a.toNat) m):=by unfold QhU;rw[hv];rfl
  rw[e1,e2];clear e1 e2;unfold QhP at hv;rw[Bool.and_eq_true,Qh]at hv;obtain⟨v1,v2,v3⟩:=hv;have e3:(!isM c rs m ds||decide (a<0)||decide (a≥(rs.length:Int)))=false:=by
   rw[v1,decide_eq_false (by omega),decide_eq_false (by omega)];rfl
  obtain⟨n,rfl⟩:=Int.eq_ofNat_of_zero_le v2;rw[Int.toNat_natCast];have hn:n<rs.length:=by omega
  have e3b:(!isM c rs m ds||decide ((n:Int)<0)||decide (rs.length≤n))=false:=by
   rw[v1,decide_eq_false (by omega),decide_eq_false (by omega)];rfl
  have hne:sL rs≠[]:=fun e=>by have:=congrArg List.length e;rw[Qas,List.length_nil]at this;omega
  have h40:=(Qcd (QaD v1).1).1
  obtain⟨d1,d2⟩:=Qip (a:=n) hy;have d3:(Qi7 rs n).length≤maxLen:=by omega
  have eD:rs.take n++rs.drop (n+1)=Qi7 rs n:=rfl
  have d4:=(@QgE c (Qi7 rs n) m).1
  have d5:(Qk8 c (Qi7 rs n) m).length≤maxLen:=Nat.le_trans d4 (by decide)
  have et:((n:Int)+1).toNat=n+1:=by omega
  generalize hZ:Qi7 rs n=Z at d1 d2 d3 d4 d5 eD ⊢;clear v1;(repeat' first|refine gA fun _=>?_|apply fkI<;>intro hb<;>try simp only[ew,e3,e3b,hne,et,Qcs,Qgv,QjO,eD]at hb|simp only[go_sem,simprocAttr, *,Qcs,Qgv,QjO])
  all_goals first|rfl|skip
theorem QoL{c:Int}{rs:List (List Int)}{m:Int}{ds:List (Int×Int)}{a:Int}(h1:rs.length≤16777216)(h2:∀r∈rs,r.length≤16777216)(h4:ds.length≤16777216):
  (QfX c rs m ds a).length≤16777216∧(∀r∈QfX c rs m ds a,r.length≤16777216)∧(QhU c rs m ds a).length≤16777216:=by
 unfold QfX QhU;cases hv:QhP c rs m ds a
 ·rw[if_neg (by decide),if_neg (by decide)]
  exact⟨h1,h2,h4⟩
 ·rw[if_pos rfl,if_pos rfl]
  obtain⟨k1,k2⟩:=Qip (a:=a.toNat) h2;have:=@QoI c (Qk8 c (Qi7 rs a.toNat) m)
  exact⟨by omega,k2,by omega⟩
end Go.Own
