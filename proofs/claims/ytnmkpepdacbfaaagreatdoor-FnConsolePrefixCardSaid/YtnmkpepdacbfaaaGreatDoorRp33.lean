/- Contracts. Conditions: as stated. -/
import Derived.Test.YtnmkpepdacbfaaaGreatDoorRp32
set_option linter.all false
set_option maxRecDepth 20000
set_option maxHeartbeats 4000000
namespace Go.Own
open Go Go.Proofs
theorem Qz7:∀x:Fin 32,∀c:Fin 5,x.val<2^c.val→QV .or .i64 ((x.val:Nat):Int) (1*2^c.val)≤2^(c.val+1)-1:=by decide+kernel
theorem Qpt{m:Int}{a b:List Int}:∀{n:Nat},n≤5→Ql (n:Nat) (agL m a b n)=true:=by
 have key:∀n:Nat,n≤5→0≤agL m a b n∧agL m a b n≤2^n-1:=by
  intro n;induction n with
  | zero=>intro _;simp[agL]
  | succ c ih=>
   intro h;have ih:=ih (by omega)
   have e2:((2^c:Nat):Int)=(2:Int)^c:=by simp
   have e3:(2:Int)^(c+1)=2^c*2:=Int.pow_succ _ _
   have hp:=p5 (c:=c) (by omega)
   have hr:=@Qbq m a b c (by omega)
   rw[agL];split
   ·have h1:=Qz7 ⟨(agL m a b c).toNat,by omega⟩ ⟨c,by omega⟩ (by dsimp only;omega)
    have h2:=Qvn ⟨(agL m a b c).toNat,by omega⟩ ⟨c,by omega⟩
    dsimp only at h1 h2;rw[show(((agL m a b c).toNat:Nat):Int)=agL m a b c by omega]at h1 h2
    exact⟨h2.1,h1⟩
   ·omega
 intro n h;simp only[Ql,KB,Qj,Qc7,KE]
 have:=key n h
 exact⟨by omega,by omega⟩
def Qmu(p:Int→Int→Bool)(ags:List Int):Int→Int→Bool:=ags.foldl (fun p ag=>Qfg ag p) p
theorem Qmv{x r:Int}:∀{ags:List Int} {p:Int→Int→Bool},Qmu p ags x r=(p x r&&ags.all fun ag=> !Qab x ag||Qu ag r)
 | [],p=>by simp[Qmu]
 | ag::ags,p=>by
  have:=@Qmv x r ags (Qfg ag p)
  unfold Qmu at *;rw[List.foldl_cons,this,List.all_cons,Qfg,Bool.and_assoc]
theorem Qqp{n:Nat}{m:Int}{row:List Int}(hn:1≤n∧n≤5):∀{rs:List (List Int)} {p:Int→Int→Bool},(∀r:Int,0≤r∧r≤4→Qg0 p n r)→QjP (n:Nat) m row rs (Qa0 p n)=Qa0 (Qmu p (rs.map fun o=>agL m row o n)) n
 | [],p,_=>rfl
 | o::rs,p,mono=>by
  have hA:=@Qpt m row o n hn.2
  have hA5:R5 (agL m row o n):=by have:=Qq hA;exact⟨this.2.2.1,this.2.2.2⟩
  have:=@Qqp n m row hn rs (Qfg (agL m row o n) p) fun r hr=>Qj6 hA5 (mono r hr)
  rw[List.map_cons];unfold Qmu at *;rw[List.foldl_cons,←this];unfold QjP;rw[List.foldl_cons,KE,QCf hn hA mono]
theorem Qto{x l r:Int}(hx:R5 x)(hl:R5 l)(hr:0≤r∧r≤4):Qtm x l r= !(!Qab l x||Qu x r):=by
 rw[←Qmz hx hl hr];unfold QCM;rw[←Qbw,Bool.not_or,Bool.not_not]
theorem QxW{n:Nat}{rs:List (List Int)}{row:List Int}{m x r:Int}(hn:1≤n∧n≤5)(ht:QP (n:Nat) (rs++[row])=true)(ht0:QP (n:Nat) rs=true)(hx:R5 x)(hr:0≤r∧r<n):
  hdB (n:Nat) (rs++[row]) m x r=(hdB (n:Nat) rs m x r&&(rs.map fun o=>agL m row o n).all fun ag=> !Qab x ag||Qu ag r):=by
 rw[Kp,KB,QoL,QoL,Kg];have hask:QaY (n:Nat) (rs++[row]) m x r=QaY (n:Nat) rs m x r:=by unfold QaY;rw[ht,ht0]
 rw[hask,KE];have g1:∀i,i<rs.length→(rs++[row]).getD i []=rs.getD i []:=fun i h=>by simp[KD,List.getElem?_append_left h]
 have g2:(rs++[row]).getD rs.length []=row:=by simp[KD]
 have bb:∀o,Qtm (agL m row o n) x r= !(!Qab x (agL m row o n)||Qu (agL m row o n) r):=fun o=>Qto (Qbq hn.2) hx ⟨by omega,by omega⟩
 constructor
 ·rintro⟨h1,h2⟩
  refine⟨⟨h1,fun i j hij hj=>?_⟩,fun ag hag=>?_⟩
  ·have:=h2 i j hij (by simp;omega)
   rwa [g1 i (by omega),g1 j hj]at this
  ·rw[KQ]at hag
   obtain⟨o,ho,rfl⟩:=hag;obtain⟨i,hi,e⟩:=YA ho;have:=h2 i rs.length hi (by simp)
   rw[g1 i hi,g2,KD,Kc hi,YF,e,Qfe,bb o]at this;rwa [YL]at this
 ·rintro⟨⟨h1,h2⟩,h3⟩
  refine⟨h1,fun i j hij hj=>?_⟩
  rw[KN,List.length_singleton]at hj
  by_cases e:j=rs.length
  ·subst e
   rw[g1 i hij,g2,Qfe,bb];have:=h3 (agL m row (rs.getD i []) n) (KQ.2 ⟨_,QE hij [],rfl⟩)
   rw[this];rfl
  ·rw[g1 i (by omega),g1 j (by omega)]
   exact h2 i j hij (by omega)
theorem Qu5{c:Nat}{rs:List (List Int)}{m:Int}(hc:c≤5):∀r:Int,0≤r∧r≤4→Qg0 (hdB (c:Nat) rs m) c r:=fun r _=>Qqm hc
theorem QDI{n:Nat}{rs:List (List Int)}{row:List Int}{m:Int}(hn:1≤n∧n≤5)(ht:QP (n:Nat) (rs++[row])=true)(ht0:QP (n:Nat) rs=true)(hm:QN m=true):QjP (n:Nat) m row rs (mdL (n:Nat) rs m)=mdL (n:Nat) (rs++[row]) m:=by
 unfold mdL;rw[ht,ht0,hm,Yd,if_pos rfl,if_pos rfl,Qqp hn (Qu5 hn.2)];refine Qnl fun r hr x hx=>?_
 rw[Qmv,QxW hn ht ht0 (Qdp hx) hr]
theorem QuE{c:Int}{rs:List (List Int)}{m:Int}{ds:List (Int×Int)}{row:List Int}(h:Qi2 c rs m ds row=true):isM c (Qmi c rs m ds row) m (Qmh c rs m ds row)=true:=by
 unfold Qmi Qmh;rw[if_pos h,if_pos h];unfold Qi2 at h;rw[KB,KB,KK]at h;obtain⟨⟨h1,h2⟩,h3⟩:=h;obtain⟨t1,t2,t3⟩:=QaJ h1;have t4:=Qrq t1 h2 h3
 obtain⟨n,rfl,n1,n5,_⟩:=QQ t1;unfold isM;rw[t4,t2,t3,QDI ⟨n1,n5⟩ t4 t1 t2];simp
theorem QDp{c:Int}{rs:List (List Int)}{m:Int}(ht:QP c rs=true)(hm:QN m=true):QnX c (Qii c rs m)=mdL c rs m:=by
 obtain⟨n,rfl,n1,n5,h40,hlen⟩:=QQ ht;unfold QnX mdL Qii;rw[ht,hm,Yd,if_pos rfl,if_pos rfl,KE];have hmem:∀x,x∈Qa2 (agI m n rs rs.length)↔∃i k,k<i∧i<rs.length∧x=agL m (rs.getD i []) (rs.getD k []) n:=fun x=>by rw[Qan,Qk2 (KP _)]
 have hall:(Qa2 (agI m n rs rs.length)).all (Ql (n:Nat))=true:=by
  rw[Kg];intro x hx;rw[hmem]at hx;obtain⟨i,k,_,_,rfl⟩:=hx;exact Qpt n5
 rw[hall,Yd,if_pos (Qj.2 ⟨by omega,by omega⟩)]
 refine Qnl fun r hr x hx=>?_
 have hx5:=Qdp hx
 rw[Kp,QoL];unfold QjM;rw[Kg];have hbb:∀a b,Qtm (agL m a b n) x r= !(Qr0 x r (agL m a b n)):=fun a b=>by
  rw[Qto (Qbq n5) hx5 ⟨by omega,by omega⟩]
  unfold Qr0;cases Qab x (agL m a b n)<;>cases Qu (agL m a b n) r<;>rfl
 constructor
 ·intro h
  refine⟨by unfold QaY;rw[ht,hm,QhT ⟨n1,n5⟩ hx hr];rfl,fun i j hij hj=>?_⟩
  rw[KE,hbb,h _ ((hmem _).2 ⟨j,i,hij,hj,Qfe⟩)];rfl
 ·rintro⟨_,h⟩ y hy
  rw[hmem]at hy;obtain⟨i,k,h1,h2,rfl⟩:=hy;have:=h k i h1 h2
  rw[KE,hbb,Qfe]at this;simpa using this
theorem QAR{c:Int}{rs:List (List Int)}{a:Nat}(h:QP c rs=true):QP c (QgK rs a)=true:=by
 have hm:∀r∈QgK rs a,r∈rs:=fun r hr=>by
  unfold QgK at hr;rcases KG.1 hr with hr|hr
  ·exact Ks hr
  ·exact YI hr
 have hl:(QgK rs a).length≤rs.length:=by
  unfold QgK;rw[KN,KO,Kk];omega
 unfold QP at *;simp only[KB,KK,Kg]at *
 exact⟨fun r hr=>h.1 r (hm r hr),h.2.1,by omega⟩
theorem Qub{c:Int}{rs:List (List Int)}{m:Int}{ds:List (Int×Int)}{a:Int}(h:QhG c rs m ds a=true):isM c (QeK c rs m ds a) m (QfE c rs m ds a)=true∧((QeK c rs m ds a).length:Int)=rs.length-1:=by
 unfold QeK QfE;rw[if_pos h,if_pos h];unfold QhG at h;rw[KB,Qj]at h;obtain⟨t1,t2,t3⟩:=QaJ h.1;have t4:=QAR (a:=a.toNat) t1
 refine⟨?_,?_⟩
 ·unfold isM
  rw[t4,t2,QDp t4 t2];simp
 ·unfold QgK
  rw[KN,KO,Kk];omega
theorem Qx6{c:Int}{rs:List (List Int)}{m:Int}{ds:List (Int×Int)}{row:List Int}(h:Qi2 c rs m ds row=false):Qmi c rs m ds row=rs∧Qmh c rs m ds row=ds:=by
 unfold Qmi Qmh;rw[h];exact⟨rfl,rfl⟩
section
attribute [local go_sem] Qwm Qw7 cFD Qok Qw3 Tryz.results107 QdB QhO Qom Tryz.results124 Tryz.results83
theorem Qp7{rs:List (List Int)}{c:Nat}{m l r:Int}{i t:Nat}:∀{n k:Nat},dpK rs c m l r i k n=some t→t<k+n
 | 0,k,h=>nomatch h
 | n+1,k,h=>by
  rw[dpK]at h;split at h
  ·simp only[KA]at h
   omega
  ·have:=Qp7 h;omega
theorem Qlo{rs:List (List Int)}{c:Nat}{m l r:Int}{t u:Nat}:∀{n i:Nat},i+n≤rs.length→dpI rs c m l r i n=some (t,u)→t<i+n∧u<rs.length
 | 0,i,_,h=>nomatch h
 | n+1,i,hn,h=>by
  rw[dpI]at h;split at h
  ·rename_i k hk
   simp only[KA,KC]at h
   obtain⟨rfl,rfl⟩:=h;have:=Qp7 hk
   omega
  ·have:=Qlo (n:=n) (i:=i+1) (by omega) h;omega
def wlB(c:Int)(rs:List (List Int))(m l r:Int):ByteArray:=if QaY c rs m l r then match wtO c rs m l r with
 | some (i,k)=>((((((fd (l,r)++⟨#[32,102,97,105,108,115,32,102,111,114,32]⟩)++Qg1 (i:Nat))++⟨#[32,97,110,100,32]⟩)++Qg1 (k:Nat))++⟨#[44,32,114,101,109,111,118,101,32]⟩)++Qg1 (QkM c rs m l r))
 | none=>fd (l,r)++⟨#[32,104,111,108,100,115]⟩
 else⟨#[]⟩
theorem s6:ByteArray.size ⟨#[32,104,111,108,100,115]⟩=6:=rfl
theorem s11:ByteArray.size ⟨#[32,102,97,105,108,115,32,102,111,114,32]⟩=11:=rfl
theorem s5:ByteArray.size ⟨#[32,97,110,100,32]⟩=5:=rfl
theorem s9:ByteArray.size ⟨#[44,32,114,101,109,111,118,101,32]⟩=9:=rfl
def cWl:Qb:=⟨[],false,fun
 | [.agg [.v (.int .i64 c),.sl 1 t],.one (.v (.int .i64 m)),.agg [.v (.int .i64 l),.v (.int .i64 r)]]=>some (WfS t∧ -9223372036854775808≤c∧c≤9223372036854775807,[⟨false,[.d (.v (.string (wlB c (unS t) m l r)))]⟩],[])
 | _=>none⟩
attribute [local go_sem] cWl
theorem QEu:Qa E0 107 cWl:=by
 refine QG (E:=E0) (T:=mkT Tryz.prog [(160,Qwm),(161,Qw7),(106,cFD),(99,Qok),(162,Qw3)] false (fun _=>false) true (fun _=>false)) (Qd (E:=E0) (.cons Qpy (.cons Qwf (.cons Qqe (.cons Qo4 (.cons QB0 .nil)))))) (fn:=Tryz.f107) Tryz.func107 kR rfl Qc kR rfl ?_
 intro args p rs ms hr;unfold cWl at hr;dsimp only at hr;split at hr;rotate_left
 ·cases hr
 rename_i c t m l r;cases hr;refine⟨rfl,rfl,nLe rfl,?_⟩
 have hm:=mxE;rintro⟨h1,hc1,hc2⟩ bs;obtain⟨rs,rfl,hx,hy⟩:=h1.ex;clear h1;rw[QB];cases hask:QaY c rs m l r
 ·have e:wlB c rs m l r=⟨#[]⟩:=by unfold wlB;rw[hask,if_neg (by decide)]
  rw[e];clear e;(repeat' first|refine gA fun _=>?_|apply fkI<;>intro hb<;>try simp only[ew,hask]at hb|simp only[go_sem,simprocAttr, *,hask])
  all_goals first|rfl|skip
 ·have hw:wtR c rs m l r=wtO c rs m l r:=by unfold wtR;rw[hask,if_pos rfl]
  have s3:=@Qqg (l,r)
  obtain⟨q1,q2⟩:=QvB hask;have h40:rs.length≤40:=by
   obtain⟨_,_,_,_,h,_⟩:=QQ (Qdc hask).1;exact h
  cases hwt:wtO c rs m l r with
  | none=>
   have e:wlB c rs m l r=fd (l,r)++⟨#[32,104,111,108,100,115]⟩:=by unfold wlB;rw[hask,if_pos rfl,hwt]
   have e1:(Option.isSome (none:Option (Nat×Nat)))=false:=rfl
   rw[e];rw[hwt]at hw;clear e hwt;(repeat' first|refine gA fun _=>?_|apply fkI<;>intro hb<;>try simp only[ew,hask,hw,e1,s6,Qe]at hb|simp only[go_sem,simprocAttr, *,hask,s6,Qe])
   all_goals first|rfl|skip
  | some p=>
   obtain⟨i,k⟩:=p;have e:wlB c rs m l r=((((((fd (l,r)++⟨#[32,102,97,105,108,115,32,102,111,114,32]⟩)++Qg1 (i:Nat))++⟨#[32,97,110,100,32]⟩)++Qg1 (k:Nat))++⟨#[44,32,114,101,109,111,118,101,32]⟩)++Qg1 (QkM c rs m l r)):=by unfold wlB;rw[hask,if_pos rfl,hwt]
   have hb:=Qlo (by omega) hwt
   have p1:(prI (some (i,k))).1=(i:Nat):=rfl
   have p2:(prI (some (i,k))).2=(k:Nat):=rfl
   have e1:(Option.isSome (some (i,k)))=true:=rfl
   have n1:=@QeT (i:Nat)
   have n2:=@QeT (k:Nat)
   have n3:=@QeT (QkM c rs m l r)
   rw[e];rw[hwt]at hw;clear e hwt;generalize hR:QkM c rs m l r=R at q1 q2 n3 ⊢;(repeat' first|refine gA fun _=>?_|apply fkI<;>intro hb<;>try simp only[ew,hask,hw,p1,p2,e1,hR,s11,s5,s9,Qe]at hb|simp only[go_sem,simprocAttr, *,hask,s11,s5,s9,Qe])
   all_goals first|rfl|skip
theorem QCy:Qa E0 124 Qw7:=by
 refine QG (E:=E0) (T:=mkT Tryz.prog [(27,QdB),(82,QhO),(117,Qom)] false (fun _=>false) true (fun _=>false)) (Qd (E:=E0) (.cons QdH (.cons Qfm (.cons Qvs .nil)))) (fn:=Tryz.f124) Tryz.func124 kR rfl Qc kR rfl ?_
 intro args p rs ms hr;unfold Qw7 at hr;dsimp only at hr;split at hr;rotate_left
 ·cases hr
 rename_i c t m l r;cases hr;refine⟨rfl,rfl,nLe rfl,?_⟩
 have hm:=mxE;rintro⟨h1,hc1,hc2⟩ bs;obtain⟨rs,rfl,hx,hy⟩:=h1.ex;clear h1;rw[QB];cases hask:QaY c rs m l r
 ·have e:wtR c rs m l r=none:=by unfold wtR;rw[hask];rfl
  rw[e];clear e;have e0:(!(QP c rs&&QN m)|| !QO c l r)=true:=by
   unfold QaY at hask;cases q1:(QP c rs&&QN m)<;>cases q2:QO c l r<;>simp_all
  (repeat' first|refine gA fun _=>?_|apply fkI<;>intro hb<;>try simp only[ew,e0]at hb|simp only[go_sem,simprocAttr, *])
  all_goals first|exact⟨rfl,rfl,rfl⟩|exact⟨rfl,rfl⟩|rfl|skip
 ·have e:wtR c rs m l r=wtO c rs m l r:=by unfold wtR;rw[hask];rfl
  rw[e];clear e;have e0:(!(QP c rs&&QN m)|| !QO c l r)=false:=by
   unfold QaY at hask;cases q1:(QP c rs&&QN m)<;>cases q2:QO c l r<;>simp_all
  cases hwt:wtO c rs m l r with
  | none=>
   have p1:(prI (none:Option (Nat×Nat))).1= -1:=rfl
   have p2:(prI (none:Option (Nat×Nat))).2= -1:=rfl
   have e1:(Option.isSome (none:Option (Nat×Nat)))=false:=rfl
   (repeat' first|refine gA fun _=>?_|apply fkI<;>intro hb<;>try simp only[ew,e0,hwt,p1,p2,e1]at hb|simp only[go_sem,simprocAttr, *,hwt])
   all_goals first|exact⟨rfl,rfl,rfl⟩|exact⟨rfl,rfl⟩|rfl|skip
  | some p=>
   obtain⟨i,k⟩:=p;have p1:(prI (some (i,k))).1=(i:Nat):=rfl
   have p2:(prI (some (i,k))).2=(k:Nat):=rfl
   have e1:(Option.isSome (some (i,k)))=true:=rfl
   (repeat' first|refine gA fun _=>?_|apply fkI<;>intro hb<;>try simp only[ew,e0,hwt,p1,p2,e1]at hb|simp only[go_sem,simprocAttr, *,hwt])
   all_goals first|exact⟨rfl,rfl,rfl⟩|exact⟨rfl,rfl⟩|rfl|skip
theorem QEv:Qa E0 83 cWl:=by
 refine QG (E:=E0) (T:=mkT Tryz.prog [(27,QdB),(82,QhO),(124,Qw7),(26,cFD),(10,Qok),(125,Qw3)] false (fun _=>false) true (fun _=>false)) (Qd (E:=E0) (.cons QdH (.cons Qfm (.cons QCy (.cons Qqf (.cons QBz (.cons QB1 .nil))))))) (fn:=Tryz.f83) Tryz.func83 kR rfl Qc kR rfl ?_
 intro args p rs ms hr;unfold cWl at hr;dsimp only at hr;split at hr;rotate_left
 ·cases hr
 rename_i c t m l r;cases hr;refine⟨rfl,rfl,nLe rfl,?_⟩
 have hm:=mxE;rintro⟨h1,hc1,hc2⟩ bs;obtain⟨rs,rfl,hx,hy⟩:=h1.ex;clear h1;rw[QB];cases hask:QaY c rs m l r
 ·have e:wlB c rs m l r=⟨#[]⟩:=by unfold wlB;rw[hask,if_neg (by decide)]
  have e0:(!(QP c rs&&QN m)|| !QO c l r)=true:=by
   unfold QaY at hask;rw[←YS,hask];rfl
  rw[e];clear e hask;(repeat' first|refine gA fun _=>?_|apply fkI<;>intro hb<;>try simp only[ew,e0]at hb|simp only[go_sem,simprocAttr, *])
  all_goals first|rfl|skip
 ·have hw:wtR c rs m l r=wtO c rs m l r:=by unfold wtR;rw[hask,if_pos rfl]
  have s3:=@Qqg (l,r)
  obtain⟨q1,q2⟩:=QvB hask;have h40:rs.length≤40:=by
   obtain⟨_,_,_,_,h,_⟩:=QQ (Qdc hask).1;exact h
  have hask0:=hask
  unfold QaY at hask0;simp only[KB]at hask0
  obtain⟨⟨ht,hmo⟩,hd⟩:=hask0;cases hwt:wtO c rs m l r with
  | none=>
   have e:wlB c rs m l r=fd (l,r)++⟨#[32,104,111,108,100,115]⟩:=by unfold wlB;rw[hask,if_pos rfl,hwt]
   have e1:(Option.isSome (none:Option (Nat×Nat)))=false:=rfl
   rw[e];rw[hwt]at hw;clear e hwt;(repeat' first|refine gA fun _=>?_|apply fkI<;>intro hb<;>try simp only[ew,ht,hmo,hd,hw,e1,s6,Qe]at hb|simp only[go_sem,simprocAttr, *,s6,Qe])
   all_goals first|rfl|skip
  | some p=>
   obtain⟨i,k⟩:=p;have e:wlB c rs m l r=((((((fd (l,r)++⟨#[32,102,97,105,108,115,32,102,111,114,32]⟩)++Qg1 (i:Nat))++⟨#[32,97,110,100,32]⟩)++Qg1 (k:Nat))++⟨#[44,32,114,101,109,111,118,101,32]⟩)++Qg1 (QkM c rs m l r)):=by unfold wlB;rw[hask,if_pos rfl,hwt]
   have hb:=Qlo (by omega) hwt
   have p1:(prI (some (i,k))).1=(i:Nat):=rfl
   have p2:(prI (some (i,k))).2=(k:Nat):=rfl
   have e1:(Option.isSome (some (i,k)))=true:=rfl
   have n1:=@QeT (i:Nat)
   have n2:=@QeT (k:Nat)
   have n3:=@QeT (QkM c rs m l r)
   rw[e];rw[hwt]at hw;clear e hwt;generalize hR:QkM c rs m l r=R at q1 q2 n3 ⊢;(repeat' first|refine gA fun _=>?_|apply fkI<;>intro hb<;>try simp only[ew,ht,hmo,hd,hw,p1,p2,e1,hR,s11,s5,s9,Qe]at hb|simp only[go_sem,simprocAttr, *,s11,s5,s9,Qe])
   all_goals first|rfl|skip
end
attribute [local go_sem] Tryz.results173 Qh Qg Qae Qag Qaf Qaj Qa7 Qd1 Qv Qa6
def QtA:Qb:=⟨[],false,fun
 | [.one (.sl 2 l),.agg [.v (.int .i64 a),.v (.int .i64 b)]]=>some (WfD l,[⟨false,[.d (.v (.bool ((unD l).any fun e=>e==(a,b))))]⟩],[])
 | _=>none⟩
attribute [local go_sem] QtA
theorem QA8:Qa E0 173 QtA:=by
 refine QG (E:=E0) (T:=mkT Tryz.prog [] false (fun _=>false) true (fun _=>false)) (Qd (E:=E0) .nil) (fn:=Tryz.f173) Tryz.func173 kR rfl Qc kR rfl ?_
 intro args p rs ms hr;unfold QtA at hr;dsimp only at hr;split at hr;rotate_left
 ·cases hr
 rename_i l a b;cases hr;refine⟨rfl,rfl,nLe rfl,?_⟩
 have hm:=mxE;intro h1 bs;obtain⟨ds,rfl,hx⟩:=h1.ex;clear h1;rw[Qh];(repeat' first|refine gA fun _=>?_|apply fkI<;>intro hb<;>try simp only[ew]at hb|simp only[go_sem,simprocAttr, *])
 refine lpI {ι:=Nat,rs:=[(4,5),(6,7),(10,17)],mods:=[(9,fun i=> .one (.d (.v (.int .i64 i))))],boxes:=[(3,fun _=>[.d (.v (.int .i64 a)),.d (.v (.int .i64 b))])],arrs:=[],ok:=fun i=>i≤ds.length∧(ds.drop i).any (fun e=>e==(a,b))=ds.any (fun e=>e==(a,b)),mu:=fun i=>ds.length-i} rfl 0 ⟨KJ _,rfl⟩ ?_ fun i hi=>?_
 ·exact gQ
 ·dsimp only at i hi
  obtain⟨hi,ht⟩:=hi
  by_cases h5:i<ds.length
  ·rw[QfI h5 (0,0)]at ht
   cases hq:(ds.getD i (0,0)==(a,b))
   ·rw[hq,K8]at ht
    (repeat' first|refine gA fun _=>?_|apply fkI<;>intro hb<;>try simp only[ew,hq]at hb|simp only[go_sem,simprocAttr, *,hq])
    refine lpN (i+1) ⟨by omega,ht⟩ (by dsimp only;omega) ?_
    clear ht;(repeat' first|refine gA fun _=>?_|apply fkI<;>intro hb<;>try simp only[ew,hq]at hb|simp only[go_sem,simprocAttr, *,hq])
   ·rw[hq,YC]at ht
    rw[←ht];clear ht;(repeat' first|refine gA fun _=>?_|apply fkI<;>intro hb<;>try simp only[ew,hq]at hb|simp only[go_sem,simprocAttr, *,hq])
  ·have e5:i=ds.length:=by omega
   subst e5;rw[K7,List.any_nil]at ht;rw[←ht];clear ht;exact gQ
end Go.Own
