/- Own contracts. Conditions: as each theorem states them. -/
import Derived.Test.YtnmkpepdacbfaaaGreatDoorRr32
import Derived.Test.YtnmkpepdacbfaaaGreatDoorRr16
set_option linter.unusedSimpArgs false
set_option linter.unusedVariables false
set_option maxRecDepth 20000
set_option maxHeartbeats 4000000
namespace Go.Own
open Go Go.Proofs
attribute [local go_sem] QbD Qak Qlw Tryz.results78
theorem QyV{a b:Int}:unD [[D.v (.int .i64 a),D.v (.int .i64 b)]]=[(a,b)]:=rfl
theorem QyZ{a b:Int}:WfD [[D.v (.int .i64 a),D.v (.int .i64 b)]]↔True:=by
 refine⟨fun _=>trivial,fun _=>⟨rfl,by show 1≤maxLen;decide⟩⟩
attribute [local go_sem] Qm Qc QZ Q1 Q0 Q3 QaH Qdb Qr QaG QyV QyZ
end Go.Own

namespace Go.Own
open Go Go.Proofs
attribute [local go_sem] QtH QeD Qs4 Qar Qs5 Tryz.results40
attribute [local go_sem] Qm Qc QZ Q1 Q0 Q3 QaH Qdb Qr QaG
end Go.Own
namespace Go.Own
open Go Go.Proofs
attribute [local go_sem] Qs4 Qfg QeD Qdi QvJ QtH Tryz.results96 QbD Tryz.results46
attribute [local go_sem] Qm Qc QZ Q1 Q0 Q3 QaH Qdb Qr QaG
def Qol(c:Int)(rs:List (List Int))(m:Int)(ds:List (Int×Int))(a k v:Int):Bool:=isM c rs m ds&&inB a 0 ((rs.length:Int)-1)&&inB k 0 (c-1)&&inB v (-1) 40
def Qf4(rs:List (List Int))(a k v:Int):List Int:=(rs.getD a.toNat []).set k.toNat v
def Qtb(c:Int)(rs:List (List Int))(m:Int)(ds:List (Int×Int))(a k v:Int):List (List Int):=if Qol c rs m ds a k v then QlZ c (QfX c rs m ds a) m (QhU c rs m ds a) (Qf4 rs a k v)else rs
def Qta(c:Int)(rs:List (List Int))(m:Int)(ds:List (Int×Int))(a k v:Int):List (Int×Int):=if Qol c rs m ds a k v then Qo1 c (QfX c rs m ds a) m (QhU c rs m ds a) (Qf4 rs a k v)else ds
def QpF(c:Int)(rs:List (List Int))(m:Int)(ds:List (Int×Int))(a k v:Int):Bool:=Qol c rs m ds a k v&&Qiz c (QfX c rs m ds a) m (QhU c rs m ds a) (Qf4 rs a k v)
def Qzh:Qb:=⟨[],false,fun
 | [.agg [.v (.int .i64 c),.sl 1 l,.v (.int .i64 m),.sl 2 q],.one (.v (.int .i64 a)),.one (.v (.int .i64 k)),.one (.v (.int .i64 v))]=>some (WfS l∧(l.length≤16777216∧∀r∈unS l,r.length≤16777216)∧WfD q∧q.length≤16777216∧ -9223372036854775808≤c∧c≤9223372036854775807,
   [⟨true,[.d (.v (.int .i64 c)),.own 1 (sL (Qtb c (unS l) m (unD q) a k v)) 1,.d (.v (.int .i64 m)),.own 2 (dL (Qta c (unS l) m (unD q) a k v)) 1]⟩,⟨false,[.d (.v (.bool (QpF c (unS l) m (unD q) a k v)))]⟩],[])
 | _=>none⟩
attribute [local go_sem] Qzh
theorem QyY:Qa E0 96 Qzh:=by
 refine QV (E:=E0) (T:=mkT Tryz.prog [(101,Qs4),(147,Qfg),(100,QeD),(145,Qdi),(56,QvJ),(93,QtH)] false (fun _=>false) true (fun _=>false)) (Qf (E:=E0) (.cons Ql1 (.cons Qrh (.cons QgZ (.cons Qgl (.cons QqO (.cons Qrp .nil))))))) (fn:=Tryz.f96) Tryz.func96 (by kernel_rfl) rfl Qe (by kernel_rfl) rfl ?_
 intro args p rs ms hr;unfold Qzh at hr;dsimp only at hr;split at hr;rotate_left
 ·cases hr
 rename_i c l m q a k v;cases hr;refine⟨rfl,rfl,nLe rfl,?_⟩
 have hm:=mxE;rintro⟨h1,⟨h2,h2'⟩,h3,h3',hc1,hc2⟩ bs;obtain⟨rs,rfl,hx,hy⟩:=h1.ex;obtain⟨ds,rfl,hd⟩:=h3.ex;clear h1 h3;rw[QG]at h2' ⊢;rw[Qm];rw[Qas]at h2;rw[Qc]at h3';cases hv:Qol c rs m ds a k v
 ·have e1:Qtb c rs m ds a k v=rs:=by unfold Qtb;rw[hv];rfl
  have e2:Qta c rs m ds a k v=ds:=by unfold Qta;rw[hv];rfl
  have e4:QpF c rs m ds a k v=false:=by unfold QpF;rw[hv];rfl
  have e3:(!isM c rs m ds||decide (a<0)||decide (a≥(rs.length:Int))|| !(decide (k≥0)&&decide (k<c))||decide (v< -1)||decide (v>40))=true:=by
   cases q:(!isM c rs m ds||decide (a<0)||decide (a≥(rs.length:Int))|| !(decide (k≥0)&&decide (k<c))||decide (v< -1)||decide (v>40))with
   | true=>rfl
   | false=>
    simp only[Bool.or_eq_false_iff,Bool.not_eq_false',decide_eq_false_iff_not,Bool.and_eq_true,decide_eq_true_eq]at q
    unfold Qol at hv;have i1:inB a 0 ((rs.length:Int)-1)=true:=Qh.2 ⟨by omega,by omega⟩
    have i2:inB k 0 (c-1)=true:=Qh.2 ⟨by omega,by omega⟩
    have i3:inB v (-1) 40=true:=Qh.2 ⟨by omega,by omega⟩
    rw[q.1.1.1.1.1,i1,i2,i3]at hv;cases hv
  rw[e1,e2,e4];clear e1 e2 e4 hv;(repeat' first|refine gA fun _=>?_|apply fkI<;>intro hb<;>try simp only[ew,e3]at hb|simp only[go_sem,simprocAttr, *])
  all_goals first|rfl|skip
 ·have e1:Qtb c rs m ds a k v=QlZ c (QfX c rs m ds a) m (QhU c rs m ds a) (Qf4 rs a k v):=by unfold Qtb;rw[hv];rfl
  have e2:Qta c rs m ds a k v=Qo1 c (QfX c rs m ds a) m (QhU c rs m ds a) (Qf4 rs a k v):=by unfold Qta;rw[hv];rfl
  have e4:QpF c rs m ds a k v=Qiz c (QfX c rs m ds a) m (QhU c rs m ds a) (Qf4 rs a k v):=by unfold QpF;rw[hv];rfl
  rw[e1,e2,e4];clear e1 e2 e4;unfold Qol at hv;rw[Bool.and_eq_true,Bool.and_eq_true,Bool.and_eq_true,Qh,Qh,Qh]at hv;obtain⟨⟨⟨v1,v2,v3⟩,v4,v5⟩,v6,v7⟩:=hv;have t1:=(QaD v1).1
  obtain⟨n,rfl⟩:=Int.eq_ofNat_of_zero_le v2;obtain⟨j,rfl⟩:=Int.eq_ofNat_of_zero_le v4;obtain⟨c,rfl,c1,c5,h40,hlen⟩:=QR t1;have hn:n<rs.length:=by omega
  have hln:=hlen n hn
  have hj:j<(rs.getD n []).length:=by omega
  have e3:(!isM (c:Int) rs m ds||decide ((n:Int)<0)||decide (rs.length≤n)|| !decide (j<c)||decide (v< -1)||decide (v>40))=false:=by
   rw[v1,decide_eq_false (show ¬(n:Int)<0 by omega),decide_eq_false (show ¬rs.length≤n by omega),decide_eq_true (show j<c by omega),decide_eq_false (show ¬v< -1 by omega),decide_eq_false (show ¬v>40 by omega)];rfl
  obtain⟨r1,r2,r3⟩:=@QoL (c:Int) rs m ds n h2 h2' h3';have k1:(QfX (c:Int) rs m ds n).length≤maxLen:=Nat.le_trans r1 (by decide)
  have k2:∀r∈QfX (c:Int) rs m ds n,r.length≤maxLen:=fun r hr=>Nat.le_trans (r2 r hr) (by decide)
  have k3:(QhU (c:Int) rs m ds n).length≤maxLen:=Nat.le_trans r3 (by decide)
  have eU:Qf4 rs n j v=(rs.getD n []).set j v:=rfl
  have lU:(rs.getD n []).length≤16777216:=by omega
  have lU2:(rs.getD n []).length≤maxLen:=Nat.le_trans lU (by decide)
  generalize hR:QfX (c:Int) rs m ds n=R at r1 r2 k1 k2 ⊢;generalize hD:QhU (c:Int) rs m ds n=D0 at r3 k3 ⊢;clear v1 t1 hlen;(repeat' first|refine gA fun _=>?_|apply fkI<;>intro hb<;>try simp only[ew,e3,hR,hD,eU,Qb0]at hb|simp only[go_sem,simprocAttr, *,Qb0])
  all_goals first|rfl|skip
end Go.Own

namespace Go.Own
open Go Go.Proofs
theorem QwL:∀x:Fin 32,∀c:Fin 5,x.val<2^c.val→Qax .or .i64 ((x.val:Nat):Int) (1*2^c.val)≤2^(c.val+1)-1:=by decide+kernel
theorem QmI{m:Int}{a b:List Int}:∀{n:Nat},n≤5→Qj (n:Nat) (agL m a b n)=true:=by
 have key:∀n:Nat,n≤5→0≤agL m a b n∧agL m a b n≤2^n-1:=by
  intro n;induction n with
  | zero=>intro _;simp[agL]
  | succ c ih=>
   intro h;have ih:=ih (by omega)
   have e2:((2^c:Nat):Int)=(2:Int)^c:=by simp
   have e3:(2:Int)^(c+1)=2^c*2:=Int.pow_succ _ _
   have hp:=p5 (c:=c) (by omega)
   have hr:=@QaW m a b c (by omega)
   rw[agL];split
   ·have h1:=QwL ⟨(agL m a b c).toNat,by omega⟩ ⟨c,by omega⟩ (by dsimp only;omega)
    have h2:=Qr4 ⟨(agL m a b c).toNat,by omega⟩ ⟨c,by omega⟩
    dsimp only at h1 h2;rw[show(((agL m a b c).toNat:Nat):Int)=agL m a b c by omega]at h1 h2
    exact⟨h2.1,h1⟩
   ·omega
 intro n h;simp only[Qj,Bool.and_eq_true,Qh,Qd5,Int.toNat_natCast]
 have:=key n h
 exact⟨by omega,by omega⟩
def Qka(p:Int→Int→Bool)(ags:List Int):Int→Int→Bool:=ags.foldl (fun p ag=>Qeg ag p) p
theorem Qkb{x r:Int}:∀{ags:List Int} {p:Int→Int→Bool},Qka p ags x r=(p x r&&ags.all fun ag=> !Qal x ag||Qy ag r)
 | [],p=>by simp[Qka]
 | ag::ags,p=>by
  have:=@Qkb x r ags (Qeg ag p)
  unfold Qka at *;rw[List.foldl_cons,this,List.all_cons,Qeg,Bool.and_assoc]
theorem Qno{n:Nat}{m:Int}{row:List Int}(hn:1≤n∧n≤5):∀{rs:List (List Int)} {p:Int→Int→Bool},(∀r:Int,0≤r∧r≤4→QfE p n r)→Qo0 (n:Nat) m row rs (QaJ p n)=QaJ (Qka p (rs.map fun o=>agL m row o n)) n
 | [],p,_=>rfl
 | o::rs,p,mono=>by
  have hA:=@QmI m row o n hn.2
  have hA5:R5 (agL m row o n):=by have:=Qt hA;exact⟨this.2.2.1,this.2.2.2⟩
  have:=@Qno n m row hn rs (Qeg (agL m row o n) p) fun r hr=>Qh7 hA5 (mono r hr)
  rw[List.map_cons];unfold Qka at *;rw[List.foldl_cons,←this];unfold Qo0;rw[List.foldl_cons,Int.toNat_natCast,QyK hn hA mono]
theorem Qp8{x l r:Int}(hx:R5 x)(hl:R5 l)(hr:0≤r∧r≤4):Qp6 x l r= !(!Qal l x||Qy x r):=by
 rw[←Qkd hx hl hr];unfold Qzd;rw[←Qa0,Bool.not_or,Bool.not_not]
theorem Quw{n:Nat}{rs:List (List Int)}{row:List Int}{m x r:Int}(hn:1≤n∧n≤5)(ht:QC (n:Nat) (rs++[row])=true)(ht0:QC (n:Nat) rs=true)(hx:R5 x)(hr:0≤r∧r<n):
  hdB (n:Nat) (rs++[row]) m x r=(hdB (n:Nat) rs m x r&&(rs.map fun o=>agL m row o n).all fun ag=> !Qal x ag||Qy ag r):=by
 rw[Bool.eq_iff_iff,Bool.and_eq_true,QlV,QlV,List.all_eq_true];have hask:Qbe (n:Nat) (rs++[row]) m x r=Qbe (n:Nat) rs m x r:=by unfold Qbe;rw[ht,ht0]
 rw[hask,Int.toNat_natCast];have g1:∀i,i<rs.length→(rs++[row]).getD i []=rs.getD i []:=fun i h=>by simp[List.getD_eq_getElem?_getD,List.getElem?_append_left h]
 have g2:(rs++[row]).getD rs.length []=row:=by simp[List.getD_eq_getElem?_getD]
 have bb:∀o,Qp6 (agL m row o n) x r= !(!Qal x (agL m row o n)||Qy (agL m row o n) r):=fun o=>Qp8 (QaW hn.2) hx ⟨by omega,by omega⟩
 constructor
 ·rintro⟨h1,h2⟩
  refine⟨⟨h1,fun i j hij hj=>?_⟩,fun ag hag=>?_⟩
  ·have:=h2 i j hij (by simp;omega)
   rwa [g1 i (by omega),g1 j hj]at this
  ·rw[List.mem_map]at hag
   obtain⟨o,ho,rfl⟩:=hag;obtain⟨i,hi,e⟩:=List.getElem_of_mem ho;have:=h2 i rs.length hi (by simp)
   rw[g1 i hi,g2,List.getD_eq_getElem?_getD,List.getElem?_eq_getElem hi,Option.getD_some,e,QgD,bb o]at this;rwa [Bool.not_eq_false']at this
 ·rintro⟨⟨h1,h2⟩,h3⟩
  refine⟨h1,fun i j hij hj=>?_⟩
  rw[List.length_append,List.length_singleton]at hj
  by_cases e:j=rs.length
  ·subst e
   rw[g1 i hij,g2,QgD,bb];have:=h3 (agL m row (rs.getD i []) n) (List.mem_map.2 ⟨_,QI hij [],rfl⟩)
   rw[this];rfl
  ·rw[g1 i (by omega),g1 j (by omega)]
   exact h2 i j hij (by omega)
theorem QrN{c:Nat}{rs:List (List Int)}{m:Int}(hc:c≤5):∀r:Int,0≤r∧r≤4→QfE (hdB (c:Nat) rs m) c r:=fun r _=>Qnk hc
theorem QAg{n:Nat}{rs:List (List Int)}{row:List Int}{m:Int}(hn:1≤n∧n≤5)(ht:QC (n:Nat) (rs++[row])=true)(ht0:QC (n:Nat) rs=true)(hm:QJ m=true):Qo0 (n:Nat) m row rs (mdL (n:Nat) rs m)=mdL (n:Nat) (rs++[row]) m:=by
 unfold mdL;rw[ht,ht0,hm,Bool.and_true,if_pos rfl,if_pos rfl,Qno hn (QrN hn.2)];refine QkG fun r hr x hx=>?_
 rw[Qkb,Quw hn ht ht0 (QcJ hx) hr]
theorem Ql0{c:Int}{rs:List (List Int)}{m:Int}{ds:List (Int×Int)}{row:List Int}(h:Qiz c rs m ds row=true):isM c (QlZ c rs m ds row) m (Qo1 c rs m ds row)=true:=by
 unfold QlZ Qo1;rw[if_pos h,if_pos h];unfold Qiz at h;rw[Bool.and_eq_true,Bool.and_eq_true,decide_eq_true_eq]at h;obtain⟨⟨h1,h2⟩,h3⟩:=h;obtain⟨t1,t2,t3⟩:=QaD h1;have t4:=Qog t1 h2 h3
 obtain⟨n,rfl,n1,n5,_⟩:=QR t1;unfold isM;rw[t4,t2,t3,QAg ⟨n1,n5⟩ t4 t1 t2];simp
theorem QzV{c:Int}{rs:List (List Int)}{m:Int}(ht:QC c rs=true)(hm:QJ m=true):QqM c (Qk8 c rs m)=mdL c rs m:=by
 obtain⟨n,rfl,n1,n5,h40,hlen⟩:=QR ht;unfold QqM mdL Qk8;rw[ht,hm,Bool.and_true,if_pos rfl,if_pos rfl,Int.toNat_natCast];have hmem:∀x,x∈Qdq (agI m n rs rs.length)↔∃i k,k<i∧i<rs.length∧x=agL m (rs.getD i []) (rs.getD k []) n:=fun x=>by rw[Qbh,Qln (Nat.le_refl _)]
 have hall:(Qdq (agI m n rs rs.length)).all (Qj (n:Nat))=true:=by
  rw[List.all_eq_true];intro x hx;rw[hmem]at hx;obtain⟨i,k,_,_,rfl⟩:=hx;exact QmI n5
 rw[hall,Bool.and_true,if_pos (Qh.2 ⟨by omega,by omega⟩)]
 refine QkG fun r hr x hx=>?_
 have hx5:=QcJ hx
 rw[Bool.eq_iff_iff,QlV];unfold QvZ;rw[List.all_eq_true];have hbb:∀a b,Qp6 (agL m a b n) x r= !(Qzl x r (agL m a b n)):=fun a b=>by
  rw[Qp8 (QaW n5) hx5 ⟨by omega,by omega⟩]
  unfold Qzl;cases Qal x (agL m a b n)<;>cases Qy (agL m a b n) r<;>rfl
 constructor
 ·intro h
  refine⟨by unfold Qbe;rw[ht,hm,Qgm ⟨n1,n5⟩ hx hr];rfl,fun i j hij hj=>?_⟩
  rw[Int.toNat_natCast,hbb,h _ ((hmem _).2 ⟨j,i,hij,hj,QgD⟩)];rfl
 ·rintro⟨_,h⟩ y hy
  rw[hmem]at hy;obtain⟨i,k,h1,h2,rfl⟩:=hy;have:=h k i h1 h2
  rw[Int.toNat_natCast,hbb,QgD]at this;simpa using this
theorem Qxq{c:Int}{rs:List (List Int)}{a:Nat}(h:QC c rs=true):QC c (Qi7 rs a)=true:=by
 have hm:∀r∈Qi7 rs a,r∈rs:=fun r hr=>by
  unfold Qi7 at hr;rcases List.mem_append.1 hr with hr|hr
  ·exact List.mem_of_mem_take hr
  ·exact List.mem_of_mem_drop hr
 have hl:(Qi7 rs a).length≤rs.length:=by
  unfold Qi7;rw[List.length_append,List.length_take,List.length_drop];omega
 unfold QC at *;simp only[Bool.and_eq_true,decide_eq_true_eq,List.all_eq_true]at *
 exact⟨fun r hr=>h.1 r (hm r hr),h.2.1,by omega⟩
theorem QlM{c:Int}{rs:List (List Int)}{m:Int}{ds:List (Int×Int)}{a:Int}(h:QhP c rs m ds a=true):isM c (QfX c rs m ds a) m (QhU c rs m ds a)=true∧((QfX c rs m ds a).length:Int)=rs.length-1:=by
 unfold QfX QhU;rw[if_pos h,if_pos h];unfold QhP at h;rw[Bool.and_eq_true,Qh]at h;obtain⟨t1,t2,t3⟩:=QaD h.1;have t4:=Qxq (a:=a.toNat) t1
 refine⟨?_,?_⟩
 ·unfold isM
  rw[t4,t2,QzV t4 t2];simp
 ·unfold Qi7
  rw[List.length_append,List.length_take,List.length_drop];omega
theorem QuG{c:Int}{rs:List (List Int)}{m:Int}{ds:List (Int×Int)}{row:List Int}(h:Qiz c rs m ds row=false):QlZ c rs m ds row=rs∧Qo1 c rs m ds row=ds:=by
 unfold QlZ Qo1;rw[h];exact⟨rfl,rfl⟩
end Go.Own

namespace Go.Own
open Go Go.Proofs
attribute [local go_sem] Qs1 Qzi cFD Qpy Qzg Tryz.results107 Qff Qlw Qoz Tryz.results124 Tryz.results83
theorem Qm8{rs:List (List Int)}{c:Nat}{m l r:Int}{i t:Nat}:∀{n k:Nat},dpK rs c m l r i k n=some t→t<k+n
 | 0,k,h=>nomatch h
 | n+1,k,h=>by
  rw[dpK]at h;split at h
  ·simp only[Option.some.injEq]at h
   omega
  ·have:=Qm8 h;omega
theorem Qm6{rs:List (List Int)}{c:Nat}{m l r:Int}{t u:Nat}:∀{n i:Nat},i+n≤rs.length→dpI rs c m l r i n=some (t,u)→t<i+n∧u<rs.length
 | 0,i,_,h=>nomatch h
 | n+1,i,hn,h=>by
  rw[dpI]at h;split at h
  ·rename_i k hk
   simp only[Option.some.injEq,Prod.mk.injEq]at h
   obtain⟨rfl,rfl⟩:=h;have:=Qm8 hk
   omega
  ·have:=Qm6 (n:=n) (i:=i+1) (by omega) h;omega
def wlB(c:Int)(rs:List (List Int))(m l r:Int):ByteArray:=if Qbe c rs m l r then match wtO c rs m l r with
 | some (i,k)=>((((((fd (l,r)++⟨#[32,102,97,105,108,115,32,102,111,114,32]⟩)++Qdc (i:Nat))++⟨#[32,97,110,100,32]⟩)++Qdc (k:Nat))++⟨#[44,32,114,101,109,111,118,101,32]⟩)++Qdc (Qpk c rs m l r))
 | none=>fd (l,r)++⟨#[32,104,111,108,100,115]⟩
 else⟨#[]⟩
theorem s6:ByteArray.size ⟨#[32,104,111,108,100,115]⟩=6:=rfl
theorem s11:ByteArray.size ⟨#[32,102,97,105,108,115,32,102,111,114,32]⟩=11:=rfl
theorem s5:ByteArray.size ⟨#[32,97,110,100,32]⟩=5:=rfl
theorem s9:ByteArray.size ⟨#[44,32,114,101,109,111,118,101,32]⟩=9:=rfl
def cWl:Qb:=⟨[],false,fun
 | [.agg [.v (.int .i64 c),.sl 1 t],.one (.v (.int .i64 m)),.agg [.v (.int .i64 l),.v (.int .i64 r)]]=>some (WfS t∧ -9223372036854775808≤c∧c≤9223372036854775807,[⟨false,[.d (.v (.string (wlB c (unS t) m l r)))]⟩],[])
 | _=>none⟩
attribute [local go_sem] cWl
theorem QA5:Qa E0 107 cWl:=by
 refine QV (E:=E0) (T:=mkT Tryz.prog [(160,Qs1),(161,Qzi),(106,cFD),(99,Qpy),(162,Qzg)] false (fun _=>false) true (fun _=>false)) (Qf (E:=E0) (.cons QmL (.cons QsV (.cons Qnd (.cons Qmg (.cons Qyu .nil)))))) (fn:=Tryz.f107) Tryz.func107 (by kernel_rfl) rfl Qe (by kernel_rfl) rfl ?_
 intro args p rs ms hr;unfold cWl at hr;dsimp only at hr;split at hr;rotate_left
 ·cases hr
 rename_i c t m l r;cases hr;refine⟨rfl,rfl,nLe rfl,?_⟩
 have hm:=mxE;rintro⟨h1,hc1,hc2⟩ bs;obtain⟨rs,rfl,hx,hy⟩:=h1.ex;clear h1;rw[QG];cases hask:Qbe c rs m l r
 ·have e:wlB c rs m l r=⟨#[]⟩:=by unfold wlB;rw[hask,if_neg (by decide)]
  rw[e];clear e;(repeat' first|refine gA fun _=>?_|apply fkI<;>intro hb<;>try simp only[ew,hask]at hb|simp only[go_sem,simprocAttr, *,hask])
  all_goals first|rfl|skip
 ·have hw:wtR c rs m l r=wtO c rs m l r:=by unfold wtR;rw[hask,if_pos rfl]
  have s3:=@Qum (l,r)
  obtain⟨q1,q2⟩:=Qyt hask;have h40:rs.length≤40:=by
   obtain⟨_,_,_,_,h,_⟩:=QR (Qdg hask).1;exact h
  cases hwt:wtO c rs m l r with
  | none=>
   have e:wlB c rs m l r=fd (l,r)++⟨#[32,104,111,108,100,115]⟩:=by unfold wlB;rw[hask,if_pos rfl,hwt]
   have e1:(Option.isSome (none:Option (Nat×Nat)))=false:=rfl
   rw[e];rw[hwt]at hw;clear e hwt;(repeat' first|refine gA fun _=>?_|apply fkI<;>intro hb<;>try simp only[ew,hask,hw,e1,s6,Qd]at hb|simp only[go_sem,simprocAttr, *,hask,s6,Qd])
   all_goals first|rfl|skip
  | some p=>
   obtain⟨i,k⟩:=p;have e:wlB c rs m l r=((((((fd (l,r)++⟨#[32,102,97,105,108,115,32,102,111,114,32]⟩)++Qdc (i:Nat))++⟨#[32,97,110,100,32]⟩)++Qdc (k:Nat))++⟨#[44,32,114,101,109,111,118,101,32]⟩)++Qdc (Qpk c rs m l r)):=by unfold wlB;rw[hask,if_pos rfl,hwt]
   have hb:=Qm6 (by omega) hwt
   have p1:(prI (some (i,k))).1=(i:Nat):=rfl
   have p2:(prI (some (i,k))).2=(k:Nat):=rfl
   have e1:(Option.isSome (some (i,k)))=true:=rfl
   have n1:=@QjG (i:Nat)
   have n2:=@QjG (k:Nat)
   have n3:=@QjG (Qpk c rs m l r)
   rw[e];rw[hwt]at hw;clear e hwt;generalize hR:Qpk c rs m l r=R at q1 q2 n3 ⊢;(repeat' first|refine gA fun _=>?_|apply fkI<;>intro hb<;>try simp only[ew,hask,hw,p1,p2,e1,hR,s11,s5,s9,Qd]at hb|simp only[go_sem,simprocAttr, *,hask,s11,s5,s9,Qd])
   all_goals first|rfl|skip
end Go.Own

namespace Go.Own
open Go Go.Proofs
attribute [local go_sem] Tryz.results173
attribute [local go_sem] Qm Qc QZ Q1 Q0 Q3 QaH Qdb Qr QaG
def Qqi:Qb:=⟨[],false,fun
 | [.one (.sl 2 l),.agg [.v (.int .i64 a),.v (.int .i64 b)]]=>some (WfD l,[⟨false,[.d (.v (.bool ((unD l).any fun e=>e==(a,b))))]⟩],[])
 | _=>none⟩
attribute [local go_sem] Qqi
theorem QxE:Qa E0 173 Qqi:=by
 refine QV (E:=E0) (T:=mkT Tryz.prog [] false (fun _=>false) true (fun _=>false)) (Qf (E:=E0) .nil) (fn:=Tryz.f173) Tryz.func173 (by kernel_rfl) rfl Qe (by kernel_rfl) rfl ?_
 intro args p rs ms hr;unfold Qqi at hr;dsimp only at hr;split at hr;rotate_left
 ·cases hr
 rename_i l a b;cases hr;refine⟨rfl,rfl,nLe rfl,?_⟩
 have hm:=mxE;intro h1 bs;obtain⟨ds,rfl,hx⟩:=h1.ex;clear h1;rw[Qm];(repeat' first|refine gA fun _=>?_|apply fkI<;>intro hb<;>try simp only[ew]at hb|simp only[go_sem,simprocAttr, *])
 refine lpI {ι:=Nat,rs:=[(4,5),(6,7),(10,17)],mods:=[(9,fun i=> .one (.d (.v (.int .i64 i))))],boxes:=[(3,fun _=>[.d (.v (.int .i64 a)),.d (.v (.int .i64 b))])],arrs:=[],ok:=fun i=>i≤ds.length∧(ds.drop i).any (fun e=>e==(a,b))=ds.any (fun e=>e==(a,b)),mu:=fun i=>ds.length-i} rfl 0 ⟨Nat.zero_le _,rfl⟩ ?_ fun i hi=>?_
 ·exact gQ
 ·dsimp only at i hi
  obtain⟨hi,ht⟩:=hi
  by_cases h5:i<ds.length
  ·rw[Qkc h5 (0,0)]at ht
   cases hq:(ds.getD i (0,0)==(a,b))
   ·rw[hq,Bool.false_or]at ht
    (repeat' first|refine gA fun _=>?_|apply fkI<;>intro hb<;>try simp only[ew,hq]at hb|simp only[go_sem,simprocAttr, *,hq])
    refine lpN (i+1) ⟨by omega,ht⟩ (by dsimp only;omega) ?_
    clear ht;(repeat' first|refine gA fun _=>?_|apply fkI<;>intro hb<;>try simp only[ew,hq]at hb|simp only[go_sem,simprocAttr, *,hq])
   ·rw[hq,Bool.true_or]at ht
    rw[←ht];clear ht;(repeat' first|refine gA fun _=>?_|apply fkI<;>intro hb<;>try simp only[ew,hq]at hb|simp only[go_sem,simprocAttr, *,hq])
  ·have e5:i=ds.length:=by omega
   subst e5;rw[List.drop_length,List.any_nil]at ht;rw[←ht];clear ht;exact gQ
end Go.Own
