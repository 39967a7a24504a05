/- Own contracts. Conditions: as each theorem states them. -/
import Derived.Test.YtnmkpepdacbfaaaGreatDoorRc33
set_option linter.unusedSimpArgs false
set_option linter.unusedVariables false
set_option maxRecDepth 20000
set_option maxHeartbeats 4000000
namespace Go.Own
open Go Go.Proofs
theorem Qyw:∀x:Fin 32,∀c:Fin 5,x.val<2^c.val→Q6 .or .i64 ((x.val:Nat):Int) (1*2^c.val)≤2^(c.val+1)-1:=by decide+kernel
theorem Qou{m:Int}{a b:List Int}:∀{n:Nat},n≤5→Ql (n:Nat) (agL m a b n)=true:=by
 have key:∀n:Nat,n≤5→0≤agL m a b n∧agL m a b n≤2^n-1:=by
  intro n;induction n with
  | zero=>intro _;simp[agL]
  | succ c ih=>
   intro h;have ih:=ih (by omega)
   have e2:((2^c:Nat):Int)=(2:Int)^c:=by simp
   have e3:(2:Int)^(c+1)=2^c*2:=Int.pow_succ _ _
   have hp:=p5 (c:=c) (by omega)
   have hr:=@Qbe m a b c (by omega)
   rw[agL];split
   ·have h1:=Qyw ⟨(agL m a b c).toNat,by omega⟩ ⟨c,by omega⟩ (by dsimp only;omega)
    have h2:=QtW ⟨(agL m a b c).toNat,by omega⟩ ⟨c,by omega⟩
    dsimp only at h1 h2;rw[show(((agL m a b c).toNat:Nat):Int)=agL m a b c by omega]at h1 h2
    exact⟨h2.1,h1⟩
   ·omega
 intro n h;simp only[Ql,Bool.and_eq_true,Qi,QcQ,Int.toNat_natCast]
 have:=key n h
 exact⟨by omega,by omega⟩
def QlI(p:Int→Int→Bool)(ags:List Int):Int→Int→Bool:=ags.foldl (fun p ag=>QeW ag p) p
theorem QlJ{x r:Int}:∀{ags:List Int} {p:Int→Int→Bool},QlI p ags x r=(p x r&&ags.all fun ag=> !Q7 x ag||Qt ag r)
 | [],p=>by simp[QlI]
 | ag::ags,p=>by
  have:=@QlJ x r ags (QeW ag p)
  unfold QlI at *;rw[List.foldl_cons,this,List.all_cons,QeW,Bool.and_assoc]
theorem Qpk{n:Nat}{m:Int}{row:List Int}(hn:1≤n∧n≤5):∀{rs:List (List Int)} {p:Int→Int→Bool},(∀r:Int,0≤r∧r≤4→Qgv p n r)→Qjb (n:Nat) m row rs (QaR p n)=QaR (QlI p (rs.map fun o=>agL m row o n)) n
 | [],p,_=>rfl
 | o::rs,p,mono=>by
  have hA:=@Qou m row o n hn.2
  have hA5:R5 (agL m row o n):=by have:=Qp hA;exact⟨this.2.2.1,this.2.2.2⟩
  have:=@Qpk n m row hn rs (QeW (agL m row o n) p) fun r hr=>Qjq hA5 (mono r hr)
  rw[List.map_cons];unfold QlI at *;rw[List.foldl_cons,←this];unfold Qjb;rw[List.foldl_cons,Int.toNat_natCast,QAs hn hA mono]
theorem Qr8{x l r:Int}(hx:R5 x)(hl:R5 l)(hr:0≤r∧r≤4):Qr6 x l r= !(!Q7 l x||Qt x r):=by
 rw[←QlM hx hl hr];unfold QAX;rw[←Qbo,Bool.not_or,Bool.not_not]
theorem Qwk{n:Nat}{rs:List (List Int)}{row:List Int}{m x r:Int}(hn:1≤n∧n≤5)(ht:QK (n:Nat) (rs++[row])=true)(ht0:QK (n:Nat) rs=true)(hx:R5 x)(hr:0≤r∧r<n):
  hdB (n:Nat) (rs++[row]) m x r=(hdB (n:Nat) rs m x r&&(rs.map fun o=>agL m row o n).all fun ag=> !Q7 x ag||Qt ag r):=by
 rw[Bool.eq_iff_iff,Bool.and_eq_true,QnN,QnN,List.all_eq_true];have hask:QaP (n:Nat) (rs++[row]) m x r=QaP (n:Nat) rs m x r:=by unfold QaP;rw[ht,ht0]
 rw[hask,Int.toNat_natCast];have g1:∀i,i<rs.length→(rs++[row]).getD i []=rs.getD i []:=fun i h=>by simp[List.getD_eq_getElem?_getD,List.getElem?_append_left h]
 have g2:(rs++[row]).getD rs.length []=row:=by simp[List.getD_eq_getElem?_getD]
 have bb:∀o,Qr6 (agL m row o n) x r= !(!Q7 x (agL m row o n)||Qt (agL m row o n) r):=fun o=>Qr8 (Qbe hn.2) hx ⟨by omega,by omega⟩
 constructor
 ·rintro⟨h1,h2⟩
  refine⟨⟨h1,fun i j hij hj=>?_⟩,fun ag hag=>?_⟩
  ·have:=h2 i j hij (by simp;omega)
   rwa [g1 i (by omega),g1 j hj]at this
  ·rw[List.mem_map]at hag
   obtain⟨o,ho,rfl⟩:=hag;obtain⟨i,hi,e⟩:=List.getElem_of_mem ho;have:=h2 i rs.length hi (by simp)
   rw[g1 i hi,g2,List.getD_eq_getElem?_getD,List.getElem?_eq_getElem hi,Option.getD_some,e,QeU,bb o]at this;rwa [Bool.not_eq_false']at this
 ·rintro⟨⟨h1,h2⟩,h3⟩
  refine⟨h1,fun i j hij hj=>?_⟩
  rw[List.length_append,List.length_singleton]at hj
  by_cases e:j=rs.length
  ·subst e
   rw[g1 i hij,g2,QeU,bb];have:=h3 (agL m row (rs.getD i []) n) (List.mem_map.2 ⟨_,QP hij [],rfl⟩)
   rw[this];rfl
  ·rw[g1 i (by omega),g1 j (by omega)]
   exact h2 i j hij (by omega)
theorem QtI{c:Nat}{rs:List (List Int)}{m:Int}(hc:c≤5):∀r:Int,0≤r∧r≤4→Qgv (hdB (c:Nat) rs m) c r:=fun r _=>Qph hc
theorem QBH{n:Nat}{rs:List (List Int)}{row:List Int}{m:Int}(hn:1≤n∧n≤5)(ht:QK (n:Nat) (rs++[row])=true)(ht0:QK (n:Nat) rs=true)(hm:QH m=true):Qjb (n:Nat) m row rs (mdL (n:Nat) rs m)=mdL (n:Nat) (rs++[row]) m:=by
 unfold mdL;rw[ht,ht0,hm,Bool.and_true,if_pos rfl,if_pos rfl,Qpk hn (QtI hn.2)];refine Qmr fun r hr x hx=>?_
 rw[QlJ,Qwk hn ht ht0 (Qc7 hx) hr]
theorem Qti{c:Int}{rs:List (List Int)}{m:Int}{ds:List (Int×Int)}{row:List Int}(h:Qip c rs m ds row=true):isM c (Qlw c rs m ds row) m (Qlv c rs m ds row)=true:=by
 unfold Qlw Qlv;rw[if_pos h,if_pos h];unfold Qip at h;rw[Bool.and_eq_true,Bool.and_eq_true,decide_eq_true_eq]at h;obtain⟨⟨h1,h2⟩,h3⟩:=h;obtain⟨t1,t2,t3⟩:=QaD h1;have t4:=Qqk t1 h2 h3
 obtain⟨n,rfl,n1,n5,_⟩:=QL t1;unfold isM;rw[t4,t2,t3,QBH ⟨n1,n5⟩ t4 t1 t2];simp
theorem QBp{c:Int}{rs:List (List Int)}{m:Int}(ht:QK c rs=true)(hm:QH m=true):Qm5 c (QhM c rs m)=mdL c rs m:=by
 obtain⟨n,rfl,n1,n5,h40,hlen⟩:=QL ht;unfold Qm5 mdL QhM;rw[ht,hm,Bool.and_true,if_pos rfl,if_pos rfl,Int.toNat_natCast];have hmem:∀x,x∈QaS (agI m n rs rs.length)↔∃i k,k<i∧i<rs.length∧x=agL m (rs.getD i []) (rs.getD k []) n:=fun x=>by rw[Qai,Qkj (Nat.le_refl _)]
 have hall:(QaS (agI m n rs rs.length)).all (Ql (n:Nat))=true:=by
  rw[List.all_eq_true];intro x hx;rw[hmem]at hx;obtain⟨i,k,_,_,rfl⟩:=hx;exact Qou n5
 rw[hall,Bool.and_true,if_pos (Qi.2 ⟨by omega,by omega⟩)]
 refine Qmr fun r hr x hx=>?_
 have hx5:=Qc7 hx
 rw[Bool.eq_iff_iff,QnN];unfold Qi9;rw[List.all_eq_true];have hbb:∀a b,Qr6 (agL m a b n) x r= !(QqQ x r (agL m a b n)):=fun a b=>by
  rw[Qr8 (Qbe n5) hx5 ⟨by omega,by omega⟩]
  unfold QqQ;cases Q7 x (agL m a b n)<;>cases Qt (agL m a b n) r<;>rfl
 constructor
 ·intro h
  refine⟨by unfold QaP;rw[ht,hm,Qhn ⟨n1,n5⟩ hx hr];rfl,fun i j hij hj=>?_⟩
  rw[Int.toNat_natCast,hbb,h _ ((hmem _).2 ⟨j,i,hij,hj,QeU⟩)];rfl
 ·rintro⟨_,h⟩ y hy
  rw[hmem]at hy;obtain⟨i,k,h1,h2,rfl⟩:=hy;have:=h k i h1 h2
  rw[Int.toNat_natCast,hbb,QeU]at this;simpa using this
theorem Qza{c:Int}{rs:List (List Int)}{a:Nat}(h:QK c rs=true):QK c (Qgj rs a)=true:=by
 have hm:∀r∈Qgj rs a,r∈rs:=fun r hr=>by
  unfold Qgj at hr;rcases List.mem_append.1 hr with hr|hr
  ·exact List.mem_of_mem_take hr
  ·exact List.mem_of_mem_drop hr
 have hl:(Qgj rs a).length≤rs.length:=by
  unfold Qgj;rw[List.length_append,List.length_take,List.length_drop];omega
 unfold QK at *;simp only[Bool.and_eq_true,decide_eq_true_eq,List.all_eq_true]at *
 exact⟨fun r hr=>h.1 r (hm r hr),h.2.1,by omega⟩
theorem QsP{c:Int}{rs:List (List Int)}{m:Int}{ds:List (Int×Int)}{a:Int}(h:Qg9 c rs m ds a=true):isM c (Qeo c rs m ds a) m (Qfi c rs m ds a)=true∧((Qeo c rs m ds a).length:Int)=rs.length-1:=by
 unfold Qeo Qfi;rw[if_pos h,if_pos h];unfold Qg9 at h;rw[Bool.and_eq_true,Qi]at h;obtain⟨t1,t2,t3⟩:=QaD h.1;have t4:=Qza (a:=a.toNat) t1
 refine⟨?_,?_⟩
 ·unfold isM
  rw[t4,t2,QBp t4 t2];simp
 ·unfold Qgj
  rw[List.length_append,List.length_take,List.length_drop];omega
theorem Qwu{c:Int}{rs:List (List Int)}{m:Int}{ds:List (Int×Int)}{row:List Int}(h:Qip c rs m ds row=false):Qlw c rs m ds row=rs∧Qlv c rs m ds row=ds:=by
 unfold Qlw Qlv;rw[h];exact⟨rfl,rfl⟩
end Go.Own

namespace Go.Own
open Go Go.Proofs
attribute [local go_sem] QuQ Qvz cFD Qnp Qvv Tryz.results107 Qdh Qhh Qnq Tryz.results124 Tryz.results83
theorem Qo5{rs:List (List Int)}{c:Nat}{m l r:Int}{i t:Nat}:∀{n k:Nat},dpK rs c m l r i k n=some t→t<k+n
 | 0,k,h=>nomatch h
 | n+1,k,h=>by
  rw[dpK]at h;split at h
  ·simp only[Option.some.injEq]at h
   omega
  ·have:=Qo5 h;omega
theorem QkG{rs:List (List Int)}{c:Nat}{m l r:Int}{t u:Nat}:∀{n i:Nat},i+n≤rs.length→dpI rs c m l r i n=some (t,u)→t<i+n∧u<rs.length
 | 0,i,_,h=>nomatch h
 | n+1,i,hn,h=>by
  rw[dpI]at h;split at h
  ·rename_i k hk
   simp only[Option.some.injEq,Prod.mk.injEq]at h
   obtain⟨rfl,rfl⟩:=h;have:=Qo5 hk
   omega
  ·have:=QkG (n:=n) (i:=i+1) (by omega) h;omega
def wlB(c:Int)(rs:List (List Int))(m l r:Int):ByteArray:=if QaP c rs m l r then match wtO c rs m l r with
 | some (i,k)=>((((((fd (l,r)++⟨#[32,102,97,105,108,115,32,102,111,114,32]⟩)++QiB (i:Nat))++⟨#[32,97,110,100,32]⟩)++QiB (k:Nat))++⟨#[44,32,114,101,109,111,118,101,32]⟩)++QiB (Qj5 c rs m l r))
 | none=>fd (l,r)++⟨#[32,104,111,108,100,115]⟩
 else⟨#[]⟩
theorem s6:ByteArray.size ⟨#[32,104,111,108,100,115]⟩=6:=rfl
theorem s11:ByteArray.size ⟨#[32,102,97,105,108,115,32,102,111,114,32]⟩=11:=rfl
theorem s5:ByteArray.size ⟨#[32,97,110,100,32]⟩=5:=rfl
theorem s9:ByteArray.size ⟨#[44,32,114,101,109,111,118,101,32]⟩=9:=rfl
def cWl:Qb:=⟨[],false,fun
 | [.agg [.v (.int .i64 c),.sl 1 t],.one (.v (.int .i64 m)),.agg [.v (.int .i64 l),.v (.int .i64 r)]]=>some (WfS t∧ -9223372036854775808≤c∧c≤9223372036854775807,[⟨false,[.d (.v (.string (wlB c (unS t) m l r)))]⟩],[])
 | _=>none⟩
attribute [local go_sem] cWl
theorem QCo:Qa E0 107 cWl:=by
 refine QE (E:=E0) (T:=mkT Tryz.prog [(160,QuQ),(161,Qvz),(106,cFD),(99,Qnp),(162,Qvv)] false (fun _=>false) true (fun _=>false)) (Qd (E:=E0) (.cons Qoz (.cons QuJ (.cons Qpb (.cons Qn6 (.cons QAe .nil)))))) (fn:=Tryz.f107) Tryz.func107 (by kernel_rfl) rfl Qc (by kernel_rfl) rfl ?_
 intro args p rs ms hr;unfold cWl at hr;dsimp only at hr;split at hr;rotate_left
 ·cases hr
 rename_i c t m l r;cases hr;refine⟨rfl,rfl,nLe rfl,?_⟩
 have hm:=mxE;rintro⟨h1,hc1,hc2⟩ bs;obtain⟨rs,rfl,hx,hy⟩:=h1.ex;clear h1;rw[Qz];cases hask:QaP c rs m l r
 ·have e:wlB c rs m l r=⟨#[]⟩:=by unfold wlB;rw[hask,if_neg (by decide)]
  rw[e];clear e;(repeat' first|refine gA fun _=>?_|apply fkI<;>intro hb<;>try simp only[ew,hask]at hb|simp only[go_sem,simprocAttr, *,hask])
  all_goals first|rfl|skip
 ·have hw:wtR c rs m l r=wtO c rs m l r:=by unfold wtR;rw[hask,if_pos rfl]
  have s3:=@Qpc (l,r)
  obtain⟨q1,q2⟩:=Qt8 hask;have h40:rs.length≤40:=by
   obtain⟨_,_,_,_,h,_⟩:=QL (QcV hask).1;exact h
  cases hwt:wtO c rs m l r with
  | none=>
   have e:wlB c rs m l r=fd (l,r)++⟨#[32,104,111,108,100,115]⟩:=by unfold wlB;rw[hask,if_pos rfl,hwt]
   have e1:(Option.isSome (none:Option (Nat×Nat)))=false:=rfl
   rw[e];rw[hwt]at hw;clear e hwt;(repeat' first|refine gA fun _=>?_|apply fkI<;>intro hb<;>try simp only[ew,hask,hw,e1,s6,Qg]at hb|simp only[go_sem,simprocAttr, *,hask,s6,Qg])
   all_goals first|rfl|skip
  | some p=>
   obtain⟨i,k⟩:=p;have e:wlB c rs m l r=((((((fd (l,r)++⟨#[32,102,97,105,108,115,32,102,111,114,32]⟩)++QiB (i:Nat))++⟨#[32,97,110,100,32]⟩)++QiB (k:Nat))++⟨#[44,32,114,101,109,111,118,101,32]⟩)++QiB (Qj5 c rs m l r)):=by unfold wlB;rw[hask,if_pos rfl,hwt]
   have hb:=QkG (by omega) hwt
   have p1:(prI (some (i,k))).1=(i:Nat):=rfl
   have p2:(prI (some (i,k))).2=(k:Nat):=rfl
   have e1:(Option.isSome (some (i,k)))=true:=rfl
   have n1:=@Qex (i:Nat)
   have n2:=@Qex (k:Nat)
   have n3:=@Qex (Qj5 c rs m l r)
   rw[e];rw[hwt]at hw;clear e hwt;generalize hR:Qj5 c rs m l r=R at q1 q2 n3 ⊢;(repeat' first|refine gA fun _=>?_|apply fkI<;>intro hb<;>try simp only[ew,hask,hw,p1,p2,e1,hR,s11,s5,s9,Qg]at hb|simp only[go_sem,simprocAttr, *,hask,s11,s5,s9,Qg])
   all_goals first|rfl|skip
theorem QAL:Qa E0 124 Qvz:=by
 refine QE (E:=E0) (T:=mkT Tryz.prog [(27,Qdh),(82,Qhh),(117,Qnq)] false (fun _=>false) true (fun _=>false)) (Qd (E:=E0) (.cons Qdn (.cons Qe2 (.cons Qt1 .nil)))) (fn:=Tryz.f124) Tryz.func124 (by kernel_rfl) rfl Qc (by kernel_rfl) rfl ?_
 intro args p rs ms hr;unfold Qvz at hr;dsimp only at hr;split at hr;rotate_left
 ·cases hr
 rename_i c t m l r;cases hr;refine⟨rfl,rfl,nLe rfl,?_⟩
 have hm:=mxE;rintro⟨h1,hc1,hc2⟩ bs;obtain⟨rs,rfl,hx,hy⟩:=h1.ex;clear h1;rw[Qz];cases hask:QaP c rs m l r
 ·have e:wtR c rs m l r=none:=by unfold wtR;rw[hask];rfl
  rw[e];clear e;have e0:(!(QK c rs&&QH m)|| !QJ c l r)=true:=by
   unfold QaP at hask;cases q1:(QK c rs&&QH m)<;>cases q2:QJ c l r<;>simp_all
  (repeat' first|refine gA fun _=>?_|apply fkI<;>intro hb<;>try simp only[ew,e0]at hb|simp only[go_sem,simprocAttr, *])
  all_goals first|exact⟨rfl,rfl,rfl⟩|exact⟨rfl,rfl⟩|rfl|skip
 ·have e:wtR c rs m l r=wtO c rs m l r:=by unfold wtR;rw[hask];rfl
  rw[e];clear e;have e0:(!(QK c rs&&QH m)|| !QJ c l r)=false:=by
   unfold QaP at hask;cases q1:(QK c rs&&QH m)<;>cases q2:QJ c l r<;>simp_all
  cases hwt:wtO c rs m l r with
  | none=>
   have p1:(prI (none:Option (Nat×Nat))).1= -1:=rfl
   have p2:(prI (none:Option (Nat×Nat))).2= -1:=rfl
   have e1:(Option.isSome (none:Option (Nat×Nat)))=false:=rfl
   (repeat' first|refine gA fun _=>?_|apply fkI<;>intro hb<;>try simp only[ew,e0,hwt,p1,p2,e1]at hb|simp only[go_sem,simprocAttr, *,hwt])
   all_goals first|exact⟨rfl,rfl,rfl⟩|exact⟨rfl,rfl⟩|rfl|skip
  | some p=>
   obtain⟨i,k⟩:=p;have p1:(prI (some (i,k))).1=(i:Nat):=rfl
   have p2:(prI (some (i,k))).2=(k:Nat):=rfl
   have e1:(Option.isSome (some (i,k)))=true:=rfl
   (repeat' first|refine gA fun _=>?_|apply fkI<;>intro hb<;>try simp only[ew,e0,hwt,p1,p2,e1]at hb|simp only[go_sem,simprocAttr, *,hwt])
   all_goals first|exact⟨rfl,rfl,rfl⟩|exact⟨rfl,rfl⟩|rfl|skip
theorem QCp:Qa E0 83 cWl:=by
 refine QE (E:=E0) (T:=mkT Tryz.prog [(27,Qdh),(82,Qhh),(124,Qvz),(26,cFD),(10,Qnp),(125,Qvv)] false (fun _=>false) true (fun _=>false)) (Qd (E:=E0) (.cons Qdn (.cons Qe2 (.cons QAL (.cons Qs0 (.cons QzO (.cons QAf .nil))))))) (fn:=Tryz.f83) Tryz.func83 (by kernel_rfl) rfl Qc (by kernel_rfl) rfl ?_
 intro args p rs ms hr;unfold cWl at hr;dsimp only at hr;split at hr;rotate_left
 ·cases hr
 rename_i c t m l r;cases hr;refine⟨rfl,rfl,nLe rfl,?_⟩
 have hm:=mxE;rintro⟨h1,hc1,hc2⟩ bs;obtain⟨rs,rfl,hx,hy⟩:=h1.ex;clear h1;rw[Qz];cases hask:QaP c rs m l r
 ·have e:wlB c rs m l r=⟨#[]⟩:=by unfold wlB;rw[hask,if_neg (by decide)]
  have e0:(!(QK c rs&&QH m)|| !QJ c l r)=true:=by
   unfold QaP at hask;rw[←Bool.not_and,hask];rfl
  rw[e];clear e hask;(repeat' first|refine gA fun _=>?_|apply fkI<;>intro hb<;>try simp only[ew,e0]at hb|simp only[go_sem,simprocAttr, *])
  all_goals first|rfl|skip
 ·have hw:wtR c rs m l r=wtO c rs m l r:=by unfold wtR;rw[hask,if_pos rfl]
  have s3:=@Qpc (l,r)
  obtain⟨q1,q2⟩:=Qt8 hask;have h40:rs.length≤40:=by
   obtain⟨_,_,_,_,h,_⟩:=QL (QcV hask).1;exact h
  have hask0:=hask
  unfold QaP at hask0;simp only[Bool.and_eq_true]at hask0
  obtain⟨⟨ht,hmo⟩,hd⟩:=hask0;cases hwt:wtO c rs m l r with
  | none=>
   have e:wlB c rs m l r=fd (l,r)++⟨#[32,104,111,108,100,115]⟩:=by unfold wlB;rw[hask,if_pos rfl,hwt]
   have e1:(Option.isSome (none:Option (Nat×Nat)))=false:=rfl
   rw[e];rw[hwt]at hw;clear e hwt;(repeat' first|refine gA fun _=>?_|apply fkI<;>intro hb<;>try simp only[ew,ht,hmo,hd,hw,e1,s6,Qg]at hb|simp only[go_sem,simprocAttr, *,s6,Qg])
   all_goals first|rfl|skip
  | some p=>
   obtain⟨i,k⟩:=p;have e:wlB c rs m l r=((((((fd (l,r)++⟨#[32,102,97,105,108,115,32,102,111,114,32]⟩)++QiB (i:Nat))++⟨#[32,97,110,100,32]⟩)++QiB (k:Nat))++⟨#[44,32,114,101,109,111,118,101,32]⟩)++QiB (Qj5 c rs m l r)):=by unfold wlB;rw[hask,if_pos rfl,hwt]
   have hb:=QkG (by omega) hwt
   have p1:(prI (some (i,k))).1=(i:Nat):=rfl
   have p2:(prI (some (i,k))).2=(k:Nat):=rfl
   have e1:(Option.isSome (some (i,k)))=true:=rfl
   have n1:=@Qex (i:Nat)
   have n2:=@Qex (k:Nat)
   have n3:=@Qex (Qj5 c rs m l r)
   rw[e];rw[hwt]at hw;clear e hwt;generalize hR:Qj5 c rs m l r=R at q1 q2 n3 ⊢;(repeat' first|refine gA fun _=>?_|apply fkI<;>intro hb<;>try simp only[ew,ht,hmo,hd,hw,p1,p2,e1,hR,s11,s5,s9,Qg]at hb|simp only[go_sem,simprocAttr, *,s11,s5,s9,Qg])
   all_goals first|rfl|skip
end Go.Own

namespace Go.Own
open Go Go.Proofs
attribute [local go_sem] Tryz.results173
attribute [local go_sem] Qh Qe Qaa Qac Qab Qaf QaX QdJ Qu QaV
def Qsg:Qb:=⟨[],false,fun
 | [.one (.sl 2 l),.agg [.v (.int .i64 a),.v (.int .i64 b)]]=>some (WfD l,[⟨false,[.d (.v (.bool ((unD l).any fun e=>e==(a,b))))]⟩],[])
 | _=>none⟩
attribute [local go_sem] Qsg
theorem Qzp:Qa E0 173 Qsg:=by
 refine QE (E:=E0) (T:=mkT Tryz.prog [] false (fun _=>false) true (fun _=>false)) (Qd (E:=E0) .nil) (fn:=Tryz.f173) Tryz.func173 (by kernel_rfl) rfl Qc (by kernel_rfl) rfl ?_
 intro args p rs ms hr;unfold Qsg at hr;dsimp only at hr;split at hr;rotate_left
 ·cases hr
 rename_i l a b;cases hr;refine⟨rfl,rfl,nLe rfl,?_⟩
 have hm:=mxE;intro h1 bs;obtain⟨ds,rfl,hx⟩:=h1.ex;clear h1;rw[Qh];(repeat' first|refine gA fun _=>?_|apply fkI<;>intro hb<;>try simp only[ew]at hb|simp only[go_sem,simprocAttr, *])
 refine lpI {ι:=Nat,rs:=[(4,5),(6,7),(10,17)],mods:=[(9,fun i=> .one (.d (.v (.int .i64 i))))],boxes:=[(3,fun _=>[.d (.v (.int .i64 a)),.d (.v (.int .i64 b))])],arrs:=[],ok:=fun i=>i≤ds.length∧(ds.drop i).any (fun e=>e==(a,b))=ds.any (fun e=>e==(a,b)),mu:=fun i=>ds.length-i} rfl 0 ⟨Nat.zero_le _,rfl⟩ ?_ fun i hi=>?_
 ·exact gQ
 ·dsimp only at i hi
  obtain⟨hi,ht⟩:=hi
  by_cases h5:i<ds.length
  ·rw[Qfm h5 (0,0)]at ht
   cases hq:(ds.getD i (0,0)==(a,b))
   ·rw[hq,Bool.false_or]at ht
    (repeat' first|refine gA fun _=>?_|apply fkI<;>intro hb<;>try simp only[ew,hq]at hb|simp only[go_sem,simprocAttr, *,hq])
    refine lpN (i+1) ⟨by omega,ht⟩ (by dsimp only;omega) ?_
    clear ht;(repeat' first|refine gA fun _=>?_|apply fkI<;>intro hb<;>try simp only[ew,hq]at hb|simp only[go_sem,simprocAttr, *,hq])
   ·rw[hq,Bool.true_or]at ht
    rw[←ht];clear ht;(repeat' first|refine gA fun _=>?_|apply fkI<;>intro hb<;>try simp only[ew,hq]at hb|simp only[go_sem,simprocAttr, *,hq])
  ·have e5:i=ds.length:=by omega
   subst e5;rw[List.drop_length,List.any_nil]at ht;rw[←ht];clear ht;exact gQ
end Go.Own
