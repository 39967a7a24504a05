/- Own contracts. Conditions: as each theorem states them. -/
import Derived.Test.YtnmkpepdacbfaaaGreatDoorRc07
set_option linter.unusedSimpArgs false
set_option linter.unusedVariables false
set_option maxRecDepth 20000
set_option maxHeartbeats 2000000
namespace Go.Own
open Go Go.Proofs
attribute [local go_sem] Tryz.results139 Tryz.results64 Tryz.results191 Tryz.results123 Tryz.results144 Tryz.results79 Qbf Qag Tryz.results82 Tryz.results105 Qy Tryz.results160 Tryz.results27
def QH(m:Int):Bool:=m==0||m==1
def eqc(m a b:Int):Bool:=QH m&&a==b&&(m==0||a != -1)
def agL(m:Int)(a b:List Int):Nat→Int
 | 0=>0
 | c+1=>if eqc m (a.getD c 0) (b.getD c 0)then Q6 .or .i64 (agL m a b c) (1*2^c)else agL m a b c
theorem QtW:∀x:Fin 32,∀c:Fin 5,0≤Q6 .or .i64 ((x.val:Nat):Int) (1*2^c.val)∧Q6 .or .i64 ((x.val:Nat):Int) (1*2^c.val)≤31:=by decide+kernel
theorem Qbe{m:Int}{a b:List Int}:∀{n:Nat},n≤5→0≤agL m a b n∧agL m a b n≤31
 | 0,_=>by simp[agL]
 | c+1,h=>by
  have ih:=@Qbe m a b c (by omega)
  simp only[agL]
  split
  ·have:=QtW ⟨(agL m a b c).toNat,by omega⟩ ⟨c,by omega⟩
   rwa [show(((agL m a b c).toNat:Nat):Int)=agL m a b c by omega]at this
  ·exact ih
def QJ(n l r:Int):Bool:=inB n 1 5&&Ql n l&&inB r 0 (n-1)
def Qr6(x l r:Int):Bool:=(Q6 .and .i64 x l==l)&&(Q6 .and .i64 (x.fdiv (2^r.toNat)) 1==0)
def QAX(x l r:Int):Bool:=(Q6 .andNot .i64 l x==0)&& !Qt x r
theorem QyE:∀x l:Fin 32,∀r:Fin 5,QAX ((x.val:Nat):Int) ((l.val:Nat):Int) ((r.val:Nat):Int)=Qr6 ((x.val:Nat):Int) ((l.val:Nat):Int) ((r.val:Nat):Int):=by decide+kernel
theorem QlM{x l r:Int}(hx:0≤x∧x≤31)(hl:0≤l∧l≤31)(hr:0≤r∧r≤4):QAX x l r=Qr6 x l r:=by
 have:=QyE ⟨x.toNat,by omega⟩ ⟨l.toNat,by omega⟩ ⟨r.toNat,by omega⟩
 rwa [show((x.toNat:Nat):Int)=x by omega,show((l.toNat:Nat):Int)=l by omega,show((r.toNat:Nat):Int)=r by omega]at this
def dpC(rs:List (List Int))(c:Nat)(m l r:Int)(i k:Nat):Bool:=Qr6 (agL m (rs.getD i []) (rs.getD k []) c) l r
def dpK(rs:List (List Int))(c:Nat)(m l r:Int)(i:Nat):Nat→Nat→Option Nat
 | _,0=>none
 | k,n+1=>if dpC rs c m l r i k then some k else dpK rs c m l r i (k+1) n
def dpI(rs:List (List Int))(c:Nat)(m l r:Int):Nat→Nat→Option (Nat×Nat)
 | _,0=>none
 | i,n+1=>match dpK rs c m l r i (i+1) (rs.length-(i+1))with
  | some k=>some (i,k)
  | none=>dpI rs c m l r (i+1) n
def QaP(c:Int)(rs:List (List Int))(m l r:Int):Bool:=QK c rs&&QH m&&QJ c l r
def wtO(c:Int)(rs:List (List Int))(m l r:Int):Option (Nat×Nat):=dpI rs c.toNat m l r 0 rs.length
def hdB(c:Int)(rs:List (List Int))(m l r:Int):Bool:=QaP c rs m l r&&(wtO c rs m l r).isNone
def prI:Option (Nat×Nat)→Int×Int
 | some (i,k)=>((i:Int),(k:Int))
 | none=>(-1,-1)
def wtR(c:Int)(rs:List (List Int))(m l r:Int):Option (Nat×Nat):=if QaP c rs m l r then wtO c rs m l r else none
theorem p5{c:Nat}(h:c<5):1≤(2:Int)^c∧(2:Int)^c≤16:=by
 have:c=0∨c=1∨c=2∨c=3∨c=4:=by omega
 rcases this with rfl|rfl|rfl|rfl|rfl<;>decide
def Qcw:Qb:=⟨[],false,fun
 | [.one (.v (.int .i64 m))]=>some (True,[⟨false,[.d (.v (.bool (QH m)))]⟩],[])
 | _=>none⟩
attribute [local go_sem] Qcw
theorem Qb2:Qa E0 139 Qcw:=by
 refine QE (E:=E0) (T:=mkT Tryz.prog [] false (fun _=>false) true (fun _=>false)) (Qd (E:=E0) .nil) (fn:=Tryz.f139) Tryz.func139 (by kernel_rfl) rfl Qc (by kernel_rfl) rfl ?_
 intro args p rs ms hr;unfold Qcw at hr;dsimp only at hr;split at hr;rotate_left
 ·cases hr
 rename_i m;cases hr;refine⟨rfl,rfl,nLe rfl,?_⟩
 have hm:=mxE;intro _ bs;unfold QH;exact gQ
theorem QpI:Qa E0 64 Qcw:=by
 refine QE (E:=E0) (T:=mkT Tryz.prog [] false (fun _=>false) true (fun _=>false)) (Qd (E:=E0) .nil) (fn:=Tryz.f64) Tryz.func64 (by kernel_rfl) rfl Qc (by kernel_rfl) rfl ?_
 intro args p rs ms hr;unfold Qcw at hr;dsimp only at hr;split at hr;rotate_left
 ·cases hr
 rename_i m;cases hr;refine⟨rfl,rfl,nLe rfl,?_⟩
 have hm:=mxE;intro _ bs;unfold QH;exact gQ
def Qvr:Qb:=⟨[],false,fun
 | [.one (.v (.int .i64 m)),.one (.v (.int .i64 a)),.one (.v (.int .i64 b))]=>some (True,[⟨false,[.d (.v (.bool (eqc m a b)))]⟩],[])
 | _=>none⟩
attribute [local go_sem] Qvr
theorem QsY:Qa E0 191 Qvr:=by
 refine QE (E:=E0) (T:=mkT Tryz.prog [(139,Qcw)] false (fun _=>false) true (fun _=>false)) (Qd (E:=E0) (.cons Qb2 .nil)) (fn:=Tryz.f191) Tryz.func191 (by kernel_rfl) rfl Qc (by kernel_rfl) rfl ?_
 intro args p rs ms hr;unfold Qvr at hr;dsimp only at hr;split at hr;rotate_left
 ·cases hr
 rename_i m a b;cases hr;refine⟨rfl,rfl,nLe rfl,?_⟩
 have hm:=mxE;intro _ bs;unfold eqc;exact gQ
theorem Qzi:Qa E0 123 Qvr:=by
 refine QE (E:=E0) (T:=mkT Tryz.prog [(64,Qcw)] false (fun _=>false) true (fun _=>false)) (Qd (E:=E0) (.cons QpI .nil)) (fn:=Tryz.f123) Tryz.func123 (by kernel_rfl) rfl Qc (by kernel_rfl) rfl ?_
 intro args p rs ms hr;unfold Qvr at hr;dsimp only at hr;split at hr;rotate_left
 ·cases hr
 rename_i m a b;cases hr;refine⟨rfl,rfl,nLe rfl,?_⟩
 have hm:=mxE;intro _ bs;unfold eqc;exact gQ
def QdP:Qb:=⟨[],false,fun
 | [.one (.v (.int .i64 m)),.one (.sl 1 a),.one (.sl 1 b)]=>some (WfI a∧WfI b∧a.length=b.length∧a.length≤5,[⟨false,[.d (.v (.int .i64 (agL m (unI a) (unI b) a.length)))]⟩],[])
 | _=>none⟩
attribute [local go_sem] QdP
theorem Qhe:Qa E0 144 QdP:=by
 refine QE (E:=E0) (T:=mkT Tryz.prog [(191,Qvr)] false (fun _=>false) true (fun _=>false)) (Qd (E:=E0) (.cons QsY .nil)) (fn:=Tryz.f144) Tryz.func144 (by kernel_rfl) rfl Qc (by kernel_rfl) rfl ?_
 intro args p rs ms hr;unfold QdP at hr;dsimp only at hr;split at hr;rotate_left
 ·cases hr
 rename_i m a b;cases hr;refine⟨rfl,rfl,nLe rfl,?_⟩
 have hm:=mxE;rintro⟨h1,h2,h3,h4⟩ bs;obtain⟨xs,rfl,hx⟩:=h1.ex;obtain⟨ys,rfl,hy⟩:=h2.ex;clear h1 h2;rw[Qr,Qr]at h3;rw[Qr]at h4;rw[QaC,QaC,Qr];(repeat' first|refine gA fun _=>?_|apply fkI<;>intro hb<;>try simp only[ew]at hb|simp only[go_sem,simprocAttr, *])
 refine lpI {ι:=Nat,rs:=[(8,9),(12,29)],mods:=[(11,fun i=> .one (.d (.v (.int .i64 i)))),(7,fun i=> .one (.d (.v (.int .i64 (agL m xs ys i)))))],boxes:=[],arrs:=[],ok:=fun i=>i≤xs.length,mu:=fun i=>xs.length-i} rfl 0 (Nat.zero_le _) ?_ fun i hi=>?_
 ·exact gQ
 ·dsimp only at i hi
  have hp:=fun h=>@p5 i h
  by_cases h5:i<xs.length
  ·have hp:=hp (by omega)
   have h5':i<ys.length:=by omega
   (repeat' first|refine gA fun _=>?_|apply fkI<;>intro hb<;>try simp only[ew,Qj]at hb|simp only[go_sem,simprocAttr, *,Qj])
   ·have hh:=‹eqc m (xs.getD i 0) (ys.getD i 0)=true›
    have e:agL m xs ys (i+1)=Q6 .or .i64 (agL m xs ys i) (1*2^i):=by rw[agL,if_pos hh]
    refine lpN (i+1) (by dsimp only;omega) (by dsimp only;omega) ?_
    clear hh;(repeat' first|refine gA fun _=>?_|apply fkI<;>intro hb<;>try simp only[ew,e]at hb|simp only[go_sem,simprocAttr, *])
   ·have hh:=‹eqc m (xs.getD i 0) (ys.getD i 0)=false›
    have e:agL m xs ys (i+1)=agL m xs ys i:=by rw[agL,if_neg (by rw[hh];decide)]
    refine lpN (i+1) (by dsimp only;omega) (by dsimp only;omega) ?_
    clear hh;(repeat' first|refine gA fun _=>?_|apply fkI<;>intro hb<;>try simp only[ew,e]at hb|simp only[go_sem,simprocAttr, *])
  ·have h5':¬i<ys.length:=by omega
   have e5:i=xs.length:=by omega
   subst e5;exact gQ
def QqF:Qb:=⟨[],false,fun
 | [.agg [.v (.int .i64 c),.sl 1 l],.one (.v (.int .i64 m)),.one (.v (.int .i64 i)),.one (.v (.int .i64 k))]=>some (WfS l∧QK c (unS l)=true∧(0≤i∧i<l.length)∧0≤k∧k<l.length,
   [⟨false,[.d (.v (.int .i64 (agL m ((unS l).getD i.toNat []) ((unS l).getD k.toNat []) c.toNat)))]⟩],[])
 | _=>none⟩
attribute [local go_sem] QqF
theorem QL{c:Int}{rs:List (List Int)}(h:QK c rs=true):∃c':Nat,c=c'∧1≤c'∧c'≤5∧rs.length≤40∧∀i,i<rs.length→(rs.getD i []).length=c':=by
 have h1:=QAC h
 have h2:inB 0 0 (c-1)=true:=Qi.2 ⟨by omega,by omega⟩
 obtain⟨a',c',_,h3,_,h4,h5⟩:=Qsz h h2;exact⟨c',h3,by omega,by omega,h4,h5⟩
theorem Qmn:Qa E0 79 QqF:=by
 refine QE (E:=E0) (T:=mkT Tryz.prog [(123,Qvr)] false (fun _=>false) true (fun _=>false)) (Qd (E:=E0) (.cons Qzi .nil)) (fn:=Tryz.f79) Tryz.func79 (by kernel_rfl) rfl Qc (by kernel_rfl) rfl ?_
 intro args p rs ms hr;unfold QqF at hr;dsimp only at hr;split at hr;rotate_left
 ·cases hr
 rename_i c l m a b;cases hr;refine⟨rfl,rfl,nLe rfl,?_⟩
 have hm:=mxE;rintro⟨h1,ht,⟨ha1,ha2⟩,hb1,hb2⟩ bs;obtain⟨rs,rfl,hx,hy⟩:=h1.ex;clear h1;rw[Qz]at ht ⊢;rw[Qae]at ha2 hb2;obtain⟨c,rfl,c1,c5,h40,hlen⟩:=QL ht;obtain⟨a,rfl⟩:=Int.eq_ofNat_of_zero_le ha1;obtain⟨b,rfl⟩:=Int.eq_ofNat_of_zero_le hb1;have la:=hlen a (by omega)
 have lb:=hlen b (by omega)
 simp only[Int.toNat_natCast]
 have ha3:a<rs.length:=by omega
 have hb3:b<rs.length:=by omega
 (repeat' first|refine gA fun _=>?_|apply fkI<;>intro hb<;>try simp only[ew]at hb|simp only[go_sem,simprocAttr, *])
 refine lpI {ι:=Nat,rs:=[(11,39)],mods:=[(10,fun i=> .one (.d (.v (.int .i64 i)))),(9,fun i=> .one (.d (.v (.int .i64 (agL m (rs.getD a []) (rs.getD b []) i)))))],boxes:=[(4,fun _=>[.d (.v (.int .i64 c)),.d (.sl 1 (sL rs))])],arrs:=[],ok:=fun i=>i≤c,mu:=fun i=>c-i} rfl 0 (Nat.zero_le _) ?_ fun i hi=>?_
 ·exact gQ
 ·dsimp only at i hi
  have hp:=fun h=>@p5 i h
  by_cases h5:i<c
  ·have hp:=hp (by omega)
   (repeat' first|refine gA fun _=>?_|apply fkI<;>intro hb<;>try simp only[ew,Qj]at hb|simp only[go_sem,simprocAttr, *,Qj])
   ·have hh:=‹eqc m ((rs.getD a []).getD i 0) ((rs.getD b []).getD i 0)=true›
    have e:agL m (rs.getD a []) (rs.getD b []) (i+1)=Q6 .or .i64 (agL m (rs.getD a []) (rs.getD b []) i) (1*2^i):=by rw[agL,if_pos hh]
    refine lpN (i+1) (by dsimp only;omega) (by dsimp only;omega) ?_
    clear hh;(repeat' first|refine gA fun _=>?_|apply fkI<;>intro hb<;>try simp only[ew,e]at hb|simp only[go_sem,simprocAttr, *])
   ·have hh:=‹eqc m ((rs.getD a []).getD i 0) ((rs.getD b []).getD i 0)=false›
    have e:agL m (rs.getD a []) (rs.getD b []) (i+1)=agL m (rs.getD a []) (rs.getD b []) i:=by rw[agL,if_neg (by rw[hh];decide)]
    refine lpN (i+1) (by dsimp only;omega) (by dsimp only;omega) ?_
    clear hh;(repeat' first|refine gA fun _=>?_|apply fkI<;>intro hb<;>try simp only[ew,e]at hb|simp only[go_sem,simprocAttr, *])
  ·have e5:i=c:=by omega
   subst e5;exact gQ
def Qhh:Qb:=⟨[],false,fun
 | [.one (.v (.int .i64 n)),.agg [.v (.int .i64 l),.v (.int .i64 r)]]=>some (-9223372036854775808≤n∧n≤9223372036854775807,[⟨false,[.d (.v (.bool (QJ n l r)))]⟩],[])
 | _=>none⟩
attribute [local go_sem] Qhh
theorem Qe2:Qa E0 82 Qhh:=by
 refine QE (E:=E0) (T:=mkT Tryz.prog [(62,Qbf),(66,Qag)] false (fun _=>false) true (fun _=>false)) (Qd (E:=E0) (.cons Qcp (.cons Qb9 .nil))) (fn:=Tryz.f82) Tryz.func82 (by kernel_rfl) rfl Qc (by kernel_rfl) rfl ?_
 intro args p rs ms hr;unfold Qhh at hr;dsimp only at hr;split at hr;rotate_left
 ·cases hr
 rename_i n l r;cases hr;refine⟨rfl,rfl,nLe rfl,?_⟩
 have hm:=mxE;rintro⟨h1,h2⟩ bs;unfold QJ;(repeat' (first|(refine Qep (by first|omega|(intro h;simp only[Qi,Bool.and_eq_true]at h;omega)|((repeat' (first|apply And.intro|assumption|omega|intro _));done)|(simp only[maxLen];omega)|simp_all|(simp_all[maxLen];omega)) fun _=>?_)|(refine fkI (fun hb=>?_) (fun hb=>?_)<;>(try simp only[ew]at hb))|(simp only[go_sem,simprocAttr, *])))
theorem Qic:Qa E0 105 Qhh:=by
 refine QE (E:=E0) (T:=mkT Tryz.prog [(154,Qag)] false (fun _=>false) true (fun _=>false)) (Qd (E:=E0) (.cons QbI .nil)) (fn:=Tryz.f105) Tryz.func105 (by kernel_rfl) rfl Qc (by kernel_rfl) rfl ?_
 intro args p rs ms hr;unfold Qhh at hr;dsimp only at hr;split at hr;rotate_left
 ·cases hr
 rename_i n l r;cases hr;refine⟨rfl,rfl,nLe rfl,?_⟩
 have hm:=mxE;rintro⟨h1,h2⟩ bs;have e:QJ n l r=(decide (n≥1)&&Ql n l&&decide (r≥0)&&decide (r<n)):=by
  rw[Bool.eq_iff_iff];unfold QJ;simp only[Bool.and_eq_true,Qi,decide_eq_true_eq]
  constructor
  ·rintro⟨⟨⟨q1,q2⟩,q3⟩,q4,q5⟩;exact⟨⟨⟨q1,q3⟩,q4⟩,by omega⟩
  ·rintro⟨⟨⟨q1,q3⟩,q4⟩,q5⟩
   have:=Qp q3
   exact⟨⟨⟨q1,by omega⟩,q3⟩,q4,by omega⟩
 rw[e];clear e;exact gQ
def QuQ:Qb:=⟨[],false,fun
 | [.agg [.v (.int .i64 c),.sl 1 t],.one (.v (.int .i64 m)),.agg [.v (.int .i64 l),.v (.int .i64 r)]]=>some (WfS t∧ -9223372036854775808≤c∧c≤9223372036854775807,[⟨false,[.d (.v (.bool (QaP c (unS t) m l r)))]⟩],[])
 | _=>none⟩
attribute [local go_sem] QuQ
theorem Qoz:Qa E0 160 QuQ:=by
 refine QE (E:=E0) (T:=mkT Tryz.prog [(138,Qy),(139,Qcw),(105,Qhh)] false (fun _=>false) true (fun _=>false)) (Qd (E:=E0) (.cons Qa5 (.cons Qb2 (.cons Qic .nil)))) (fn:=Tryz.f160) Tryz.func160 (by kernel_rfl) rfl Qc (by kernel_rfl) rfl ?_
 intro args p rs ms hr;unfold QuQ at hr;dsimp only at hr;split at hr;rotate_left
 ·cases hr
 rename_i c t m l r;cases hr;refine⟨rfl,rfl,nLe rfl,?_⟩
 have hm:=mxE;rintro⟨h1,hc1,hc2⟩ bs;obtain⟨rs,rfl,hx,hy⟩:=h1.ex;clear h1;rw[Qz];unfold QaP;exact gQ
def Qdh:Qb:=⟨[],false,fun
 | [.agg [.v (.int .i64 c),.sl 1 t],.one (.v (.int .i64 m))]=>some (WfS t∧ -9223372036854775808≤c∧c≤9223372036854775807,[⟨false,[.d (.v (.bool (QK c (unS t)&&QH m)))]⟩],[])
 | _=>none⟩
attribute [local go_sem] Qdh
theorem Qdn:Qa E0 27 Qdh:=by
 refine QE (E:=E0) (T:=mkT Tryz.prog [(22,Qy),(64,Qcw)] false (fun _=>false) true (fun _=>false)) (Qd (E:=E0) (.cons QnU (.cons QpI .nil))) (fn:=Tryz.f27) Tryz.func27 (by kernel_rfl) rfl Qc (by kernel_rfl) rfl ?_
 intro args p rs ms hr;unfold Qdh at hr;dsimp only at hr;split at hr;rotate_left
 ·cases hr
 rename_i c t m;cases hr;refine⟨rfl,rfl,nLe rfl,?_⟩
 have hm:=mxE;rintro⟨h1,hc1,hc2⟩ bs;obtain⟨rs,rfl,hx,hy⟩:=h1.ex;clear h1;rw[Qz];exact gQ
end Go.Own

namespace Go.Own
open Go Go.Proofs
def paN(s:ByteArray):Nat→Nat→Int×Bool
 | 0,_=>(0,false)
 | k+1,x=>if((fa ((x:Nat):Int)).toList==s.toList)=true then(((x:Nat):Int),true)else paN s k (x+1)
def paF(s:ByteArray):Int×Bool:=paN s 32 0
theorem QbO{a b:ByteArray}:(a.toList==b.toList)=true↔a=b:=by
 rw[beq_iff_eq,ByteArray.toList_eq,ByteArray.toList_eq];exact⟨Qcg,fun h=>by rw[h]⟩
theorem QmB{s:ByteArray}:∀{k x:Nat},(paN s k x=(0,false)∧∀y,x≤y→y<x+k→fa ((y:Nat):Int)≠s)∨∃y:Nat,x≤y∧y<x+k∧paN s k x=(((y:Nat):Int),true)∧fa ((y:Nat):Int)=s
 | 0,x=> .inl ⟨rfl,fun y h1 h2=>by omega⟩
 | k+1,x=>by
  rw[paN];split
  ·rename_i h
   exact .inr ⟨x,by omega,by omega,rfl,QbO.1 h⟩
  ·rename_i h
   rcases @QmB s k (x+1)with⟨h1,h2⟩|⟨y,h1,h2,h3,h4⟩
   ·refine .inl ⟨h1,fun y y1 y2=>?_⟩
    by_cases hy:y=x
    ·subst hy;intro e;exact h (QbO.2 e)
    ·exact h2 y (by omega) (by omega)
   ·exact .inr ⟨y,by omega,by omega,h3,h4⟩
theorem QiF{s:ByteArray}:(paF s=(0,false)∧∀y:Nat,y<32→fa ((y:Nat):Int)≠s)∨∃y:Nat,y<32∧paF s=(((y:Nat):Int),true)∧fa ((y:Nat):Int)=s:=by
 rcases @QmB s 32 0 with⟨h1,h2⟩|⟨y,_,h2,h3,h4⟩
 ·exact .inl ⟨h1,fun y hy=>h2 y (by omega) (by omega)⟩
 ·exact .inr ⟨y,by omega,h3,h4⟩
def Qcx(n:Int)(x y:Int×Bool):(Int×Int)×Bool:=
 if x.2&&y.2&&decide (((mem y.1).length:Int)=1)&&QJ n x.1 ((mem y.1).getD 0 0)then((x.1,(mem y.1).getD 0 0),true)else((0,0),false)
def pdF(n:Int)(s:ByteArray):(Int×Int)×Bool:=
 if(Qbm 62 s).length=2 then Qcx n (paF ((Qbm 62 s).getD 0 ⟨#[]⟩)) (paF ((Qbm 62 s).getD 1 ⟨#[]⟩))else((0,0),false)
theorem Qzn:∀x:Fin 32,(62:UInt8)∉(fa ((x.val:Nat):Int)).data.toList∧(fa ((x.val:Nat):Int)).data.toList≠[]:=by decide+kernel
theorem QzS:∀y:Fin 32,(mem ((y.val:Nat):Int)).length=1→1*2^((mem ((y.val:Nat):Int)).getD 0 0).toNat=((y.val:Nat):Int):=by decide+kernel
theorem Qz0{n:Int}{s:ByteArray}{l r:ByteArray}{f:Bool}(h:Lib.cut s.data.toList [62]=(l.data.toList,r.data.toList,f)):
  pdF n s=if(Qcx n (paF l) (paF r)).2&&((fd (Qcx n (paF l) (paF r)).1).toList==s.toList)then Qcx n (paF l) (paF r)else((0,0),false):=by
 have hno:∀{x:ByteArray} {y:Int×Bool},(Qcx n y (paF x)).2=true→(62:UInt8)∉x.data.toList∧x.data.toList≠[]:=fun {x y} hx=>by
  rcases @QiF x with⟨hp,_⟩|⟨z,hz,hp,he⟩
  ·unfold Qcx at hx
   rw[hp]at hx;simp at hx
  ·rw[←he];exact Qzn ⟨z,hz⟩
 have hp0:∀{x y:Int×Bool},(Qcx n x y).2=false→Qcx n x y=((0,0),false):=fun {x y} hx=>by
  unfold Qcx at hx ⊢;split
  ·rename_i hc;rw[if_pos hc]at hx;cases hx
  ·rfl
 rcases @Qia 62 s.data.toList with⟨a,b,h1,h2,h3,h4⟩|⟨h1,h2,h3⟩
 ·rw[h]at h4
  simp only[Prod.mk.injEq]at h4
  obtain⟨rfl,rfl,_⟩:=h4
  by_cases hb:(62:UInt8)∈r.data.toList
  ·have e1:(Qcx n (paF l) (paF r)).2=false:=by
    cases hq:(Qcx n (paF l) (paF r)).2
    ·rfl
    ·exact absurd hb (hno hq).1
   rw[e1,Bool.false_and,if_neg (by decide)]
   unfold pdF;rw[if_neg];intro hl;unfold Qbm at hl;rw[List.length_map,h3]at hl;rcases @Qia 62 r.data.toList with⟨a',b',_,_,h3',_⟩|⟨h1',_⟩
   ·rw[h3']at hl
    have:=@Qdm 62 b'
    cases hc:QeI 62 b' with
    | nil=>exact this hc
    | cons=>rw[hc]at hl;simp at hl
   ·exact h1' hb
  ·have hc:Qbm 62 s=[l,r]:=by
    unfold Qbm;rw[h3,Qhl hb];rfl
   have e:pdF n s=Qcx n (paF l) (paF r):=by unfold pdF;rw[hc];rfl
   rw[e];cases hq:(Qcx n (paF l) (paF r)).2
   ·rw[Bool.false_and,if_neg (by decide),hp0 hq]
   ·have hfd:((fd (Qcx n (paF l) (paF r)).1).toList==s.toList)=true:=by
     rw[QbO];unfold Qcx at hq ⊢;split
     ·rename_i hcc
      simp only[Bool.and_eq_true,decide_eq_true_eq]at hcc
      obtain⟨⟨⟨c1,c2⟩,c3⟩,c4⟩:=hcc;rcases @QiF l with⟨hp,_⟩|⟨x,hx,hpx,hex⟩
      ·rw[hp]at c1;cases c1
      ·rcases @QiF r with⟨hp,_⟩|⟨y,hy,hpy,hey⟩
       ·rw[hp]at c2;cases c2
       ·rw[hpx]at c4 ⊢
        rw[hpy]at c3 c4 ⊢;dsimp only at c3 c4 ⊢;have hone:=QzS ⟨y,hy⟩ (by exact_mod_cast c3)
        dsimp only at hone;have hok:QxN (((x:Nat):Int),(mem ((y:Nat):Int)).getD 0 0)=true:=by
         simp only[QJ,Bool.and_eq_true,Qi]at c4
         have:=Qp c4.1.2
         have a31:QcQ 5=31:=by decide
         have c5:=c4.2
         have c6:=c4.1.1
         unfold QxN Ql;rw[a31];simp only[Bool.and_eq_true,Qi]
         omega
        unfold fd;rw[if_pos hok];dsimp only;rw[hone,hex,hey];apply Qcg
        rw[QdO,QdO,h2];simp
     ·rename_i hcc;rw[if_neg hcc]at hq;cases hq
    rw[hfd,Bool.and_self,if_pos rfl]
 ·rw[h]at h3
  simp only[Prod.mk.injEq]at h3
  obtain⟨_,h3,_⟩:=h3;have e1:(Qcx n (paF l) (paF r)).2=false:=by
   cases hq:(Qcx n (paF l) (paF r)).2
   ·rfl
   ·exact absurd h3 (hno hq).2
  rw[e1,Bool.false_and,if_neg (by decide)]
  unfold pdF;rw[if_neg];intro hl;unfold Qbm at hl;rw[List.length_map,h2]at hl;cases hl
end Go.Own

namespace Go.Own
open Go Go.Proofs
def sOk:ByteArray:=⟨#[111,107]⟩
def sNo:ByteArray:=⟨#[110,111]⟩
def QmM:ByteArray:=⟨#[119,104,97,116]⟩
def QCc:ByteArray:=⟨#[116,114,105,118,105,97,108]⟩
def Qx6:ByteArray:=⟨#[110,111,32,116,97,98,108,101]⟩
def isW(s k:ByteArray):Bool:=s.toList==k.toList
def QkU:ByteArray:=⟨#[110,117,108,108]⟩
def Qmk:ByteArray:=⟨#[101,113,117,97,108]⟩
def Qpp:ByteArray:=⟨#[97,112,97,114,116]⟩
def Qht:ByteArray:=⟨#[99,111,108,117,109,110,115]⟩
def QAZ:ByteArray:=⟨#[114,111,119]⟩
def QwB:ByteArray:=⟨#[99,101,108,108]⟩
def QwC:ByteArray:=⟨#[100,114,111,112]⟩
def QxT:ByteArray:=⟨#[99,104,101,99,107]⟩
def QxU:ByteArray:=⟨#[103,105,118,101,110]⟩
def Qpr:ByteArray:=⟨#[105,109,112,108,105,101,100]⟩
def QzF:ByteArray:=⟨#[100,101,112,115]⟩
def QzG:ByteArray:=⟨#[107,101,121,115]⟩
def Qto:ByteArray:=⟨#[97,103,114,101,101]⟩
def QzH:ByteArray:=⟨#[115,105,122,101]⟩
def QwD:ByteArray:=⟨#[116,97,107,101]⟩
def Qpq:ByteArray:=⟨#[99,108,101,97,114]⟩
def QjU:ByteArray:=⟨#[99,111,118,101,114]⟩
def Qgs:ByteArray:=⟨#[115,99,104,101,109,97]⟩
def l3V(s:ByteArray):Int:=if isW s QkU then -1 else if(!(spF s.data.toList).2||decide ((spF s.data.toList).1<0))=true then -100000 else(spF s.data.toList).1
def pvF(s:ByteArray):Int×Bool:=if isW s QkU then(-1,true)else if(!(spF s.data.toList).2||decide ((spF s.data.toList).1<0)||decide ((spF s.data.toList).1>40))=true then(0,false)else((spF s.data.toList).1,true)
theorem Qtn{v:Int}{c:UInt8}{l:List UInt8}(h:Lib.itoa v=c::l):c=45∨Qmj c=true:=by
 unfold Lib.itoa at h;split at h
 ·simp only[List.cons.injEq]at h;exact .inl h.1.symm
 ·exact .inr (Qen c (by rw[h];simp))
theorem Qxa{s:ByteArray}(h:isW s QkU=true):spF s.data.toList=(0,false):=by
 have e:s=QkU:=QbO.1 h
 rw[e];rcases @QiR QkU.data.toList with h|⟨v,h⟩
 ·exact h
 ·exfalso
  have:=(QhE.1 h).1
  rcases Qtn (show Lib.itoa v=110::[117,108,108]from this)with h|h
  ·exact absurd h (by decide)
  ·exact absurd h (by decide)
theorem Qe8{s:ByteArray}(h:0≤l3V s):(spF s.data.toList).2=true∧(spF s.data.toList).1=l3V s:=by
 unfold l3V at h ⊢;split at h
 ·omega
 ·rename_i hn
  rw[if_neg hn];split at h
  ·omega
  ·rename_i hb
   rw[if_neg hb];simp only[Bool.or_eq_true,Bool.not_eq_true',decide_eq_true_eq,not_or,Bool.not_eq_false]at hb
   exact⟨hb.1,rfl⟩
theorem Qtr{s:ByteArray}(h:(spF s.data.toList).2=true)(h0:0≤(spF s.data.toList).1):l3V s=(spF s.data.toList).1:=by
 unfold l3V;rw[if_neg,if_neg]
 ·simp only[Bool.or_eq_true,Bool.not_eq_true',decide_eq_true_eq,not_or,Bool.not_eq_false]
  exact⟨h,by omega⟩
 ·intro hn
  rw[Qxa hn]at h;cases h
theorem Qt7{s:ByteArray}:(pvF s).2=inB (l3V s) (-1) 40∧((pvF s).2=true→(pvF s).1=l3V s):=by
 unfold pvF l3V
 by_cases hn:isW s QkU=true
 ·rw[if_pos hn,if_pos hn];exact⟨by decide,fun _=>rfl⟩
 ·rw[if_neg hn,if_neg hn]
  cases h2:(spF s.data.toList).2
  ·simp only[Bool.not_false,Bool.true_or,if_true]
   exact⟨by decide,fun h=>by cases h⟩
  ·simp only[Bool.not_true,Bool.false_or]
   by_cases hl:(spF s.data.toList).1<0
   ·have e1:decide ((spF s.data.toList).1<0)=true:=decide_eq_true hl
    simp only[e1,Bool.true_or,if_true]
    exact⟨by decide,fun h=>by cases h⟩
   ·have e1:decide ((spF s.data.toList).1<0)=false:=decide_eq_false hl
    simp only[e1,Bool.false_or,Bool.false_eq_true,if_false]
    by_cases hg:(spF s.data.toList).1>40
    ·have e2:decide ((spF s.data.toList).1>40)=true:=decide_eq_true hg
     simp only[e2,if_true]
     refine⟨?_,fun h=>by cases h⟩
     cases hb:inB (spF s.data.toList).1 (-1) 40
     ·rfl
     ·rw[Qi]at hb;omega
    ·have e2:decide ((spF s.data.toList).1>40)=false:=decide_eq_false hg
     simp only[e2,Bool.false_eq_true,if_false]
     refine⟨?_,fun _=>by trivial⟩
     exact(Qi.2 ⟨by omega,by omega⟩).symm
theorem Qtl{a b:ByteArray}:isW a b=decide (a.data.toList=b.data.toList):=by
 unfold isW;rw[Bool.eq_iff_iff,QbO,decide_eq_true_eq];exact⟨fun h=>by rw[h],Qcg⟩
def cPI:Qb:=⟨[],false,fun
 | [.one (.v (.string s))]=>some (s.size≤1073741824,[⟨false,[.d (.v (.int .i64 (spF s.data.toList).1))]⟩,⟨false,[.d (.v (.bool (spF s.data.toList).2))]⟩],[])
 | _=>none⟩
theorem QpN{v:Int}{s:ByteArray}:((QzP v).toList==s.toList)=decide (Lib.itoa v=s.data.toList):=by
 rw[Bool.eq_iff_iff,QbO,decide_eq_true_eq];exact⟨fun h=>by rw[←h];rfl,fun h=>Qcg (by rw[←h];rfl)⟩
theorem Qut{l:List UInt8}: -999999999≤(spF l).1∧(spF l).1≤999999999:=by
 rcases @QiR l with h|⟨v,h⟩
 ·rw[h];decide
 ·rw[h];exact(QhE.1 h).2
end Go.Own

namespace Go.Own
open Go Go.Proofs
attribute [local go_sem] Qh Qe Qaa Qac Qab Qaf QaX QdJ Qu
theorem Qm{xs:List (Int×Int)}{a b:Int}:dL xs++[[D.v (.int .i64 a),D.v (.int .i64 b)]]=dL (xs++[(a,b)]):=by simp[dL]
end Go.Own

namespace Go.Own
open Go Go.Proofs
def mvO(xs ys:List Int):Nat→Nat→Option Int
 | _,0=>none
 | v,n+1=>if xs.contains (v:Int)&& !ys.contains (v:Int)then some v else mvO xs ys (v+1) n
def mvR:Option Int→Int×Bool
 | some v=>(v,true)
 | none=>(0,false)
def mv(c:Int)(rs:List (List Int))(a b:Int):Int×Bool:=if QoO c rs a b then mvR (mvO (QDE rs a.toNat) (QDE rs b.toNat) 0 41)else(0,false)
end Go.Own
