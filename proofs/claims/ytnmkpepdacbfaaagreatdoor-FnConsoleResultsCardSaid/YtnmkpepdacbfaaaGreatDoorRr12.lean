/- Own contracts. Conditions: as each theorem states them. -/
import Derived.Test.YtnmkpepdacbfaaaGreatDoorRr11
set_option linter.unusedSimpArgs false
set_option linter.unusedVariables false
set_option maxRecDepth 20000
set_option maxHeartbeats 4000000
namespace Go.Own
open Go Go.Proofs
attribute [local go_sem] Qaj Qcf Tryz.results202 Tryz.results127 Tryz.results164 Qap Qlw Tryz.results109 Tryz.results84
attribute [local go_sem] Qm Qc QZ Q1 Q0 Q3 QaH Qdb Qr
def Qqf:Qb:=⟨[],false,fun
 | [.one (.sl 2 l),.one (.v (.int .i64 x))]=>some (WfD l∧(∀d∈unD l,Qbo d)∧0≤x∧x≤31,[⟨false,[.d (.v (.int .i64 (clo (unD l) x)))]⟩],[])
 | _=>none⟩
attribute [local go_sem] Qqf
theorem QqQ{ds:List (Int×Int)}{i:Nat}(hd:∀d∈ds,Qbo d)(h:i<ds.length):(0≤(ds.getD i (0,0)).1∧(ds.getD i (0,0)).1≤31)∧0≤(ds.getD i (0,0)).2∧(ds.getD i (0,0)).2≤4:=by
 have:=hd _ (QI h (0,0))
 exact⟨this.1,this.2⟩
theorem Qa0{l x:Int}:Qal l x=(Qax .andNot .i64 l x==0):=rfl
theorem QBk{r:Int}(h:0≤r∧r≤4):1≤(2:Int)^r.toNat∧(2:Int)^r.toNat≤16:=p5 (c:=r.toNat) (by omega)
theorem Qlp{ds:List (Int×Int)}{x:Int}(hn:∀j,j<ds.length→QjY x (ds.getD j (0,0))=false):Qdl ds x:=by
 intro d hdm hi;obtain⟨j,hj,e⟩:=List.getElem_of_mem hdm;have:=hn j hj
 simp only[List.getD_eq_getElem?_getD,hj,List.getElem?_eq_getElem,Option.getD_some,e,QjY,hi,Bool.true_and,Bool.not_eq_false']at this
 exact this
theorem QvI{x r:Int}(hx:R5 x)(hr:0≤r∧r≤4):0≤QbI x r∧QbI x r≤31:=Qdf hx hr
def Qzj(ds:List (Int×Int))(x0:Int)(i:Nat)(x:Int):Prop:=i≤ds.length∧R5 x∧leB x0 x∧leB x (clo ds x0)∧∀j,j<i→QjY x (ds.getD j (0,0))=false
theorem QtX{ds:List (Int×Int)}{x0 x:Int}{i:Nat}(hd:∀d∈ds,Qbo d)(h0:R5 x0)(h:Qzj ds x0 i x)(h5:i<ds.length)(ha:QjY x (ds.getD i (0,0))=true):Qzj ds x0 0 (QbI x (ds.getD i (0,0)).2):=by
 obtain⟨h1,h2,h3,h4,_⟩:=h;have hm:=hd _ (QI h5 (0,0));simp only[QjY,Bool.and_eq_true,Bool.not_eq_true']at ha
 refine⟨Nat.zero_le _,Qdf h2 hm.2,h3.trans (Ql7 h2 hm.2),Qjr h2 hm.2 h4 ?_,fun j hj=>absurd hj (Nat.not_lt_zero _)⟩
 exact QoD hd h0 _ (QI h5 (0,0)) ((Q8 hm.1 (Qxe hd h0)).2 (((Q8 hm.1 h2).1 ha.1).trans h4))
theorem Qqt{ds:List (Int×Int)}{x0 x:Int}{i:Nat}(h:Qzj ds x0 i x)(h5:i<ds.length)(ha:QjY x (ds.getD i (0,0))=false):Qzj ds x0 (i+1) x:=by
 obtain⟨h1,h2,h3,h4,h6⟩:=h;refine⟨h5,h2,h3,h4,fun j hj=>?_⟩
 by_cases e:j=i
 ·subst e;exact ha
 ·exact h6 j (by omega)
theorem QtY{ds:List (Int×Int)}{x0 x:Int}(hd:∀d∈ds,Qbo d)(h0:R5 x0)(h:Qzj ds x0 ds.length x):x=clo ds x0:=by
 obtain⟨h1,h2,h3,h4,h6⟩:=h;exact QvQ hd h0 h2 h3 h4 (Qlp h6)
def cmu(L:Nat)(i:Nat)(x:Int):Nat:=(5-QgX x)*(L+1)+(L-i)
theorem QmT{L i:Nat}{x:Int}(h:i<L):cmu L (i+1) x<cmu L i x:=by unfold cmu;omega
theorem Qqw{L i:Nat}{x y:Int}(h:QgX x<QgX y)(hi:i<L):cmu L 0 y<cmu L i x:=by
 unfold cmu;have:=QmW y
 have e:5-QgX x=(5-QgX y)+(QgX y-QgX x):=by omega
 rw[e,Nat.add_mul];have:(L+1)≤(QgX y-QgX x)*(L+1):=Nat.le_mul_of_pos_left _ (by omega)
 omega
theorem QdO:Qa E0 202 Qqf:=by
 refine QV (E:=E0) (T:=mkT Tryz.prog [(157,Qaj),(149,Qcf)] false (fun _=>false) true (fun _=>false)) (Qf (E:=E0) (.cons QaN (.cons Qb8 .nil))) (fn:=Tryz.f202) Tryz.func202 (by kernel_rfl) rfl Qe (by kernel_rfl) rfl ?_
 intro args p rs ms hr;unfold Qqf at hr;dsimp only at hr;split at hr;rotate_left
 ·cases hr
 rename_i l x;cases hr;refine⟨rfl,rfl,nLe rfl,?_⟩
 have hm:=mxE;rintro⟨h1,hd,hx1,hx2⟩ bs;obtain⟨ds,rfl,hx⟩:=h1.ex;clear h1;rw[Qm]at hd ⊢;(repeat' first|refine gA fun _=>?_|apply fkI<;>intro hb<;>try simp only[ew]at hb|simp only[go_sem,simprocAttr, *])
 refine lpI {ι:=Nat×Int,rs:=[(6,37)],mods:=[(5,fun i=> .one (.d (.v (.int .i64 i.1)))),(1,fun i=> .one (.d (.v (.int .i64 i.2))))],boxes:=[],arrs:=[],ok:=fun i=>Qzj ds x i.1 i.2,mu:=fun i=>cmu ds.length i.1 i.2} rfl (0,x) ⟨Nat.zero_le _,⟨hx1,hx2⟩,leB.refl _,QvR hd ⟨hx1,hx2⟩,fun j hj=>absurd hj (Nat.not_lt_zero _)⟩ ?_ ?_
 ·exact gQ
 ·rintro⟨i,y⟩ hi
  dsimp only at hi;have hi1:=hi.1
  obtain⟨y1,y2⟩:=hi.2.1
  by_cases h5:i<ds.length
  ·obtain⟨⟨d1,d2⟩,d3,d4⟩:=QqQ hd h5
   have hs:=QBk ⟨d3,d4⟩
   cases ha:QjY y (ds.getD i (0,0))
   ·have hn:=Qqt hi h5 ha
    have ha2:(Qal (ds.getD i (0,0)).1 y&& !Qy y (ds.getD i (0,0)).2)=false:=ha
    rw[Qa0]at ha2;clear hi ha hd hs;(repeat' first|refine gA fun _=>?_|apply fkI<;>intro hb<;>try simp only[ew,ha2]at hb|simp only[go_sem,simprocAttr, *])
    refine lpN (i+1,y) hn (QmT h5) ?_
    clear hn;(repeat' first|refine gA fun _=>?_|apply fkI<;>intro hb<;>try simp only[ew,ha2]at hb|simp only[go_sem,simprocAttr, *])
   ·have hn:=QtX hd ⟨hx1,hx2⟩ hi h5 ha
    have hc:=(QdL hd ⟨y1,y2⟩ h5 ha).1
    have hb:=QvI ⟨y1,y2⟩ ⟨d3,d4⟩
    have ha2:(Qal (ds.getD i (0,0)).1 y&& !Qy y (ds.getD i (0,0)).2)=true:=ha
    rw[Qa0]at ha2;have e:Qax .or .i64 y (1*2^(ds.getD i (0,0)).2.toNat)=QbI y (ds.getD i (0,0)).2:=rfl
    clear hi ha hd;(repeat' first|refine gA fun _=>?_|apply fkI<;>intro hb<;>try simp only[ew,ha2,e]at hb|simp only[go_sem,simprocAttr, *])
    refine lpN (0,QbI y (ds.getD i (0,0)).2) hn (Qqw hc h5) ?_
    clear hn hc;(repeat' first|refine gA fun _=>?_|apply fkI<;>intro hb<;>try simp only[ew,ha2,e]at hb|simp only[go_sem,simprocAttr, *])
    all_goals first|rfl|skip
  ·have e5:i=ds.length:=by omega
   subst e5;have e:=QtY hd ⟨hx1,hx2⟩ hi
   clear hi hd;(repeat' first|refine gA fun _=>?_|apply fkI<;>intro hb<;>try simp only[ew]at hb|simp only[go_sem,simprocAttr, *])
   all_goals first|exact e|skip
def Qpz(n:Int)(ds:List (Int×Int))(l r:Int):Bool:=Q5 n ds&&Q2 n l r&&Qy (clo ds l) r
def Qs3:Qb:=⟨[],false,fun
 | [.one (.v (.int .i64 n)),.one (.sl 2 l),.agg [.v (.int .i64 a),.v (.int .i64 b)]]=>some (WfD l∧ -9223372036854775808≤n∧n≤9223372036854775807,[⟨false,[.d (.v (.bool (Qpz n (unD l) a b)))]⟩],[])
 | _=>none⟩
attribute [local go_sem] Qs3
def QhS:Qb:=⟨[],false,fun
 | [.one (.sl 2 l),.agg [.v (.int .i64 a),.v (.int .i64 b)]]=>some (WfD l∧(∀d∈unD l,Qbo d)∧(0≤a∧a≤31)∧0≤b∧b≤4,[⟨false,[.d (.v (.bool (Qy (clo (unD l) a) b)))]⟩],[])
 | _=>none⟩
attribute [local go_sem] QhS
theorem Qji:Qa E0 164 QhS:=by
 refine QV (E:=E0) (T:=mkT Tryz.prog [(202,Qqf),(149,Qcf)] false (fun _=>false) true (fun _=>false)) (Qf (E:=E0) (.cons QdO (.cons Qb8 .nil))) (fn:=Tryz.f164) Tryz.func164 (by kernel_rfl) rfl Qe (by kernel_rfl) rfl ?_
 intro args p rs ms hr;unfold QhS at hr;dsimp only at hr;split at hr;rotate_left
 ·cases hr
 rename_i l a b;cases hr;refine⟨rfl,rfl,nLe rfl,?_⟩
 have hm:=mxE;rintro⟨h1,hd,⟨ha1,ha2⟩,hb1,hb2⟩ bs;obtain⟨ds,rfl,hx⟩:=h1.ex;clear h1;rw[Qm]at hd ⊢;exact gQ
theorem QaL{n l r:Int}(h:Q2 n l r=true):(0≤l∧l≤31)∧0≤r∧r≤4:=by
 simp only[Q2,Bool.and_eq_true,Qh]at h
 have:=Qt h.1.2
 omega
theorem Qbg{n:Int}{ds:List (Int×Int)}(h:Q5 n ds=true):∀d∈ds,Qbo d:=by
 simp only[Q5,Bool.and_eq_true]at h
 exact QzW h.1
theorem QlX:Qa E0 109 Qs3:=by
 refine QV (E:=E0) (T:=mkT Tryz.prog [(163,Qap),(105,Qlw),(164,QhS)] false (fun _=>false) true (fun _=>false)) (Qf (E:=E0) (.cons Qa2 (.cons Qg4 (.cons Qji .nil)))) (fn:=Tryz.f109) Tryz.func109 (by kernel_rfl) rfl Qe (by kernel_rfl) rfl ?_
 intro args p rs ms hr;unfold Qs3 at hr;dsimp only at hr;split at hr;rotate_left
 ·cases hr
 rename_i n l a b;cases hr;refine⟨rfl,rfl,nLe rfl,?_⟩
 have hm:=mxE;rintro⟨h1,hn1,hn2⟩ bs;obtain⟨ds,rfl,hx⟩:=h1.ex;clear h1;rw[Qm];unfold Qpz;cases hv:(Q5 n ds&&Q2 n a b)
 ·(repeat' first|refine gA fun _=>?_|apply fkI<;>intro hb<;>try simp only[ew,hv]at hb|simp only[go_sem,simprocAttr, *,hv])
 ·rw[Bool.and_eq_true]at hv
  have hd:=Qbg hv.1
  obtain⟨⟨a1,a2⟩,b1,b2⟩:=QaL hv.2;obtain⟨v1,v2⟩:=hv;exact gQ
end Go.Own

namespace Go.Own
open Go Go.Proofs
def sam(c:Nat)(rs:List (List Int))(m set:Int)(i j:Nat):Bool:=Qal set (agL m (rs.getD i []) (rs.getD j []) c)
theorem Qss{c:Nat}{rs:List (List Int)}{m set:Int}{i j:Nat}(hc:c≤5)(hs:R5 set):sam c rs m set i j=true↔∀b:Nat,b<5→Qy set (b:Nat)=true→b<c∧eqc m ((rs.getD i []).getD b 0) ((rs.getD j []).getD b 0)=true:=by
 unfold sam;obtain⟨h1,h2⟩:=@QpU m (rs.getD i []) (rs.getD j []) c hc;have hr:=QaW (m:=m) (a:=rs.getD i []) (b:=rs.getD j []) hc
 rw[Q8 hs hr];constructor
 ·intro h b hb hset
  have:=h ⟨b,hb⟩ hset
  dsimp only at this;rw[h2 b hb,Bool.and_eq_true,decide_eq_true_eq]at this;exact this
 ·intro h b hset
  rw[h2 b.val b.isLt,Bool.and_eq_true,decide_eq_true_eq];exact h b.val b.isLt hset
theorem Qxx{m a b c:Int}(h1:eqc m a b=true)(h2:eqc m a c=true):eqc m b c=true:=by
 unfold eqc at *;simp only[Bool.and_eq_true,beq_iff_eq]at *
 obtain⟨⟨h3,h4⟩,h5⟩:=h1;obtain⟨⟨h6,h7⟩,h8⟩:=h2;exact⟨⟨h3,by omega⟩,by rw[←h4];exact h5⟩
theorem Qz2{m a b:Int}(h1:eqc m a b=true):eqc m b a=true:=by
 unfold eqc at *;simp only[Bool.and_eq_true,beq_iff_eq]at *
 obtain⟨⟨h3,h4⟩,h5⟩:=h1;exact⟨⟨h3,by omega⟩,by rw[←h4];exact h5⟩
structure PEq(S:Nat→Nat→Bool):Prop where
  sy:∀i j,S i j=true→S j i=true
  tri:∀i j k,S i j=true→S i k=true→S j k=true
theorem Qms{c:Nat}{rs:List (List Int)}{m set:Int}(hc:c≤5)(hs:R5 set):PEq (sam c rs m set) where
 sy:=fun i j h=>by
  rw[Qss hc hs]at *;exact fun b hb hset=>⟨(h b hb hset).1,Qz2 (h b hb hset).2⟩
 tri:=fun i j k h1 h2=>by
  rw[Qss hc hs]at *;exact fun b hb hset=>⟨(h1 b hb hset).1,Qxx (h1 b hb hset).2 (h2 b hb hset).2⟩
def clK(S:Nat→Nat→Bool)(i:Nat):Nat→List Int
 | 0=>[((i:Nat):Int)]
 | t+1=>clK S i t++(if S i (i+1+t)then [((i+1+t:Nat):Int)]else [])
def cl(S:Nat→Nat→Bool)(N i:Nat):List Int:=clK S i (N-(i+1))
def ouK(S:Nat→Nat→Bool)(N:Nat):Nat→List (List Int)×List Int
 | 0=>([],[])
 | i+1=>if(ouK S N i).2.contains ((i:Nat):Int)then ouK S N i else if 1<(cl S N i).length then((ouK S N i).1++[cl S N i],(ouK S N i).2++cl S N i)else ouK S N i
theorem Qi3{S:Nat→Nat→Bool}{i:Nat}:∀{t:Nat},(clK S i t).length≤t+1
 | 0=>Nat.le_refl _
 | t+1=>by
  have:=@Qi3 S i t
  rw[clK,List.length_append];split<;>simp<;>omega
theorem QlF{S:Nat→Nat→Bool}{i:Nat}{x:Int}:∀{t:Nat},x∈clK S i t↔x=(i:Nat)∨∃k:Nat,i<k∧k<i+1+t∧S i k=true∧x=(k:Nat)
 | 0=>by
  rw[clK,List.mem_singleton];constructor
  ·exact .inl
  ·rintro(h|⟨k,h1,h2,_⟩)
   ·exact h
   ·omega
 | t+1=>by
  rw[clK,List.mem_append,@QlF S i x t];constructor
  ·rintro((h|⟨k,h1,h2,h3,h4⟩)|h)
   ·exact .inl h
   ·exact .inr ⟨k,h1,by omega,h3,h4⟩
   ·split at h
    ·rename_i hs
     rw[List.mem_singleton]at h;exact .inr ⟨i+1+t,by omega,by omega,hs,h⟩
    ·cases h
  ·rintro(h|⟨k,h1,h2,h3,h4⟩)
   ·exact .inl (.inl h)
   ·by_cases e:k=i+1+t
    ·subst e
     right;rw[if_pos h3,List.mem_singleton];exact h4
    ·exact .inl (.inr ⟨k,h1,by omega,h3,h4⟩)
theorem QgW{S:Nat→Nat→Bool}{i:Nat}:∀{t:Nat},(clK S i t).Nodup
 | 0=>by simp[clK]
 | t+1=>by
  rw[clK,List.nodup_append];refine⟨@QgW S i t,by split<;>simp,fun a ha b hb=>?_⟩
  split at hb
  ·rw[List.mem_singleton]at hb
   subst hb;rw[QlF]at ha;rcases ha with h|⟨k,h1,h2,h3,h4⟩
   ·omega
   ·omega
  ·cases hb
theorem Qr7{S:Nat→Nat→Bool}{N:Nat}{x:Int}:∀{n:Nat},x∈(ouK S N n).2→∃i,i<n∧1<(cl S N i).length∧x∈cl S N i
 | 0,h=>nomatch h
 | n+1,h=>by
  rw[ouK]at h;have ih:=@Qr7 S N x n
  split at h
  ·obtain⟨i,h1,h2⟩:=ih h;exact⟨i,by omega,h2⟩
  ·split at h
   ·rename_i hl
    rw[List.mem_append]at h;rcases h with h|h
    ·obtain⟨i,h1,h2⟩:=ih h;exact⟨i,by omega,h2⟩
    ·exact⟨n,by omega,hl,h⟩
   ·obtain⟨i,h1,h2⟩:=ih h;exact⟨i,by omega,h2⟩
theorem Qyb{S:Nat→Nat→Bool}{N n:Nat}{x:Int}(h:x∈(ouK S N n).2):x∈(ouK S N (n+1)).2:=by
 rw[ouK];split
 ·exact h
 ·split
  ·exact List.mem_append_left _ h
  ·exact h
theorem QnM{S:Nat→Nat→Bool}{N:Nat}{x:Int}{n:Nat}:∀{d:Nat},x∈(ouK S N n).2→x∈(ouK S N (n+d)).2
 | 0,h=>h
 | d+1,h=>Qyb (QnM (d:=d) h)
theorem Qya{S:Nat→Nat→Bool}{N i n:Nat}(hi:i<n)(hl:1<(cl S N i).length)(hd:((i:Nat):Int)∉(ouK S N i).2){x:Int}(hx:x∈cl S N i):x∈(ouK S N n).2:=by
 have h1:x∈(ouK S N (i+1)).2:=by
  rw[ouK,if_neg (by rw[List.contains_iff_mem];exact hd),if_pos hl]
  exact List.mem_append_right _ hx
 have:=@QnM S N x (i+1) (n-(i+1)) h1
 rwa [show i+1+(n-(i+1))=n by omega]at this
theorem QnL{S:Nat→Nat→Bool}{N:Nat}{x:Int}:∀{n:Nat},x∈(ouK S N n).2→∃i,i<n∧((i:Nat):Int)∉(ouK S N i).2∧1<(cl S N i).length∧x∈cl S N i
 | 0,h=>nomatch h
 | n+1,h=>by
  rw[ouK]at h;have ih:=@QnL S N x n
  split at h
  ·obtain⟨i,h1,h2⟩:=ih h;exact⟨i,by omega,h2⟩
  ·rename_i hc
   split at h
   ·rename_i hl
    rw[List.mem_append]at h;rcases h with h|h
    ·obtain⟨i,h1,h2⟩:=ih h;exact⟨i,by omega,h2⟩
    ·exact⟨n,by omega,by rwa [List.contains_iff_mem]at hc,hl,h⟩
   ·obtain⟨i,h1,h2⟩:=ih h;exact⟨i,by omega,h2⟩
theorem QfV{S:Nat→Nat→Bool}{N i:Nat}(hi:i<N){x:Int}:x∈cl S N i↔x=(i:Nat)∨∃k:Nat,i<k∧k<N∧S i k=true∧x=(k:Nat):=by
 unfold cl;rw[QlF];constructor
 ·rintro(h|⟨k,h1,h2,h3⟩)
  ·exact .inl h
  ·exact .inr ⟨k,h1,by omega,h3⟩
 ·rintro(h|⟨k,h1,h2,h3⟩)
  ·exact .inl h
  ·exact .inr ⟨k,h1,by omega,h3⟩
theorem Qr5{S:Nat→Nat→Bool}{N i k:Nat}(hS:PEq S)(hk:k<N)(hik:i<k)(hd:((i:Nat):Int)∉(ouK S N i).2)(hs:S i k=true):((k:Nat):Int)∉(ouK S N i).2:=by
 intro hm;obtain⟨j,h1,h2,h3,h4⟩:=QnL hm;rw[QfV (by omega)]at h4
 rcases h4 with h4|⟨k',h5,h6,h7,h8⟩
 ·omega
 ·have e:k'=k:=by omega
  subst e;have hji:S j i=true:=hS.sy _ _ (hS.tri k' i j (hS.sy _ _ hs) (hS.sy _ _ h7))
  exact hd (Qya h1 h3 h2 ((QfV (by omega)).2 (.inr ⟨i,h1,by omega,hji,rfl⟩)))
theorem QkN{S:Nat→Nat→Bool}{N:Nat}(hS:PEq S):∀{n:Nat},n≤N→(ouK S N n).2.Nodup
 | 0,_=>by simp[ouK]
 | n+1,hn=>by
  have ih:=@QkN S N hS n (by omega)
  rw[ouK];split
  ·exact ih
  ·rename_i hc
   rw[List.contains_iff_mem]at hc;split
   ·rw[List.nodup_append]
    refine⟨ih,QgW,fun a ha b hb e=>?_⟩
    subst e;rw[QfV (by omega)]at hb
    rcases hb with h|⟨k,h1,h2,h3,h4⟩
    ·rw[h]at ha;exact hc ha
    ·rw[h4]at ha;exact Qr5 hS h2 h1 hc h3 ha
   ·exact ih
theorem Qr6{S:Nat→Nat→Bool}{N n:Nat}(hS:PEq S)(hn:n≤N):(ouK S N n).2.length≤N:=by
 have h:=List.Nodup.length_le_of_subset (QkN hS hn) (l₂:=(List.range N).map fun k=>((k:Nat):Int)) fun x hx=>by
  obtain⟨i,h1,_,h3⟩:=Qr7 hx;rw[QfV (by omega)]at h3
  rw[List.mem_map];rcases h3 with h|⟨k,h4,h5,_,h6⟩
  ·exact⟨i,by rw[List.mem_range];omega,h.symm⟩
  ·exact⟨k,by rw[List.mem_range];omega,h6.symm⟩
 simpa using h
theorem Qr8{S:Nat→Nat→Bool}{N:Nat}{l:List Int}:∀{n:Nat},l∈(ouK S N n).1→∃i,i<n∧l=cl S N i
 | 0,h=>nomatch h
 | n+1,h=>by
  rw[ouK]at h;have ih:=@Qr8 S N l n
  split at h
  ·obtain⟨i,h1,h2⟩:=ih h;exact⟨i,by omega,h2⟩
  ·split at h
   ·rw[List.mem_append,List.mem_singleton]at h
    rcases h with h|h
    ·obtain⟨i,h1,h2⟩:=ih h;exact⟨i,by omega,h2⟩
    ·exact⟨n,by omega,h⟩
   ·obtain⟨i,h1,h2⟩:=ih h;exact⟨i,by omega,h2⟩
theorem QdY{S:Nat→Nat→Bool}{N:Nat}:∀{n:Nat},(ouK S N n).1.length≤n
 | 0=>Nat.le_refl _
 | n+1=>by
  have ih:=@QdY S N n
  rw[ouK];split
  ·omega
  ·split
   ·rw[List.length_append,List.length_singleton];omega
   ·omega
def Qk7:List (List Int)→Nat
 | []=>0
 | l::ls=>l.length+Qk7 ls
theorem QhL{l:List Int}:∀{ls:List (List Int)},Qk7 (ls++[l])=Qk7 ls+l.length
 | []=>by simp[Qk7]
 | x::ls=>by rw[List.cons_append,Qk7,@QhL l ls,Qk7];omega
theorem QnN{S:Nat→Nat→Bool}{N:Nat}:∀{n:Nat},Qk7 (ouK S N n).1=(ouK S N n).2.length
 | 0=>rfl
 | n+1=>by
  have ih:=@QnN S N n
  rw[ouK];split
  ·exact ih
  ·split
   ·rw[QhL,List.length_append,ih]
   ·exact ih
def QmU(E:Int→Int→Bool)(l:List Int)(p:Nat):Nat→Int
 | 0=>1
 | q+1=>QmU E l p q+(if(q !=p&&E (l.getD p 0) (l.getD q 0))then 1 else 0)
def Qge(E:Int→Int→Bool)(l:List Int):Nat→Int
 | 0=>0
 | p+1=>max (Qge E l p) (QmU E l p l.length)
def QpC(E:Int→Int→Bool)(ls:List (List Int)):Nat→Int
 | 0=>0
 | k+1=>QpC E ls k+((ls.getD k []).length-Qge E (ls.getD k []) (ls.getD k []).length)
theorem QlG{E:Int→Int→Bool}{l:List Int}{p:Nat}:∀{q:Nat},1≤QmU E l p q∧QmU E l p q≤q+1
 | 0=>⟨Int.le_refl _,Int.le_refl _⟩
 | q+1=>by
  have:=@QlG E l p q
  rw[QmU];split<;>omega
theorem QmV{E:Int→Int→Bool}{l:List Int}{p:Nat}:∀{q:Nat},QmU E l p q≤q+(if p<q then 0 else 1)
 | 0=>by simp[QmU]
 | q+1=>by
  have:=@QmV E l p q
  rw[QmU]
  by_cases e:q=p
  ·subst e
   rw[bne_self_eq_false,Bool.false_and,if_neg (by decide),if_pos (by omega)]
   rw[if_neg (by omega)]at this
   omega
  ·by_cases h:p<q
   ·have hc:p<q+1:=by omega
    rw[if_pos h]at this;rw[if_pos hc];split<;>omega
   ·have hc:¬p<q+1:=by omega
    rw[if_neg h]at this;rw[if_neg hc];split<;>omega
theorem QjC{E:Int→Int→Bool}{l:List Int}:∀{p:Nat},p≤l.length→0≤Qge E l p∧Qge E l p≤l.length
 | 0,_=>⟨Int.le_refl _,by simp[Qge]⟩
 | p+1,hp=>by
  have ih:=@QjC E l p (by omega)
  have h1:=@QmV E l p l.length
  have h2:=@QlG E l p l.length
  rw[if_pos (by omega)]at h1
  rw[Qge];omega
theorem QsN{ls:List (List Int)}{k:Nat}(h:k<ls.length):Qk7 (ls.take (k+1))=Qk7 (ls.take k)+(ls.getD k []).length:=by
 rw[Qk h [],QhL]
theorem Qmm{E:Int→Int→Bool}{ls:List (List Int)}:∀{k:Nat},k≤ls.length→0≤QpC E ls k∧QpC E ls k≤Qk7 (ls.take k)
 | 0,_=>⟨Int.le_refl _,by simp[QpC]⟩
 | k+1,hk=>by
  have ih:=@Qmm E ls k (by omega)
  have h1:=@QjC E (ls.getD k []) (ls.getD k []).length (Nat.le_refl _)
  rw[QpC,QsN (by omega)]
  omega
end Go.Own

namespace Go.Own
open Go Go.Proofs
attribute [local go_sem] Tryz.results32 Tryz.results70 Tryz.results33 Tryz.results36
abbrev Cu:=Nat×Int
def WfB(l:List (List D)):Prop:=l=bL (unB l)∧l.length≤maxLen
theorem WfB.ex{l:List (List D)}(h:WfB l):∃bs,l=bL bs∧bs.length≤maxLen:=⟨unB l,h.1,by have:=h.2;rw[h.1,Qab]at this;exact this⟩
theorem Qon{bs:List Int}:WfB (bL bs)↔bs.length≤maxLen:=by simp[WfB,QbP,Qab]
def cuO(l:List (List D))(s:Cu):List Arg:=[.box [.sl 1 l,.v (.int .i64 (s.1:Nat)),.v (.int .i64 s.2)]]
def rI(n:Int):List RV:=[⟨false,[.d (.v (.int .i64 n))]⟩]
def rB(b:Bool):List RV:=[⟨false,[.d (.v (.bool b))]⟩]
attribute [local go_sem] QbP Qab Qon
attribute [local go_sem] cuO rI rB
def cuP(bs:List Int)(s:Cu):List PC:=[.n (.sl 1 (bL bs)),.d (.v (.int .i64 (s.1:Nat))),.d (.v (.int .i64 s.2))]
theorem Qkw{xs:List Int}{n:Int}:iL xs++[[D.v (.int .i64 n)]]=iL (xs++[n]):=by simp[iL]
end Go.Own

namespace Go.Own
open Go Go.Proofs
attribute [local go_sem] Tryz.results71
attribute [local go_sem] cuO rI rB cuP QbP Qab Qon
theorem QkX{rs:List (List Int)}{r:List Int}:sL rs++[[D.sl 1 (iL r)]]=sL (rs++[r]):=by simp[sL]
theorem QjP{rs:List (List Int)}{r:List Int}{d:List D}:(sL (rs++[r])).getD rs.length d=[D.sl 1 (iL r)]:=by simp[sL,List.getD_eq_getElem?_getD]
theorem Qz7{xs:List Int}:∀e∈iL xs,∀x∈e,Qau x:=by
 intro e he x hx;obtain⟨n,_,rfl⟩:=List.mem_map.1 he;rw[List.mem_singleton]at hx;rw[hx];trivial
theorem Qjh{xs:List Int}:(∀e∈iL xs,∀x∈e,Qau x)↔True:=⟨fun _=>trivial,fun _=>Qz7⟩
end Go.Own
