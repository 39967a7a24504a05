/- Contracts. Conditions: as stated. -/
import Derived.Test.YtnmkpepdacbfaaaGreatDoorRp07
set_option linter.all false
set_option maxRecDepth 20000
set_option maxHeartbeats 2000000
namespace Go.Own
open Go Go.Proofs
section
attribute [local go_sem] Tryz.results139 Tryz.results64 Tryz.results191 Tryz.results123 Tryz.results144 Tryz.results79 Qbr Qak Tryz.results82 Tryz.results105 QA Tryz.results160 Tryz.results27
def QN(m:Int):Bool:=m==0||m==1
def eqc(m a b:Int):Bool:=QN m&&a==b&&(m==0||a != -1)
def agL(m:Int)(a b:List Int):Nat→Int
 | 0=>0
 | c+1=>if eqc m (a.getD c 0) (b.getD c 0)then QV .or .i64 (agL m a b c) (1*2^c)else agL m a b c
theorem Qvn:∀x:Fin 32,∀c:Fin 5,0≤QV .or .i64 ((x.val:Nat):Int) (1*2^c.val)∧QV .or .i64 ((x.val:Nat):Int) (1*2^c.val)≤31:=by decide+kernel
theorem Qbq{m:Int}{a b:List Int}:∀{n:Nat},n≤5→0≤agL m a b n∧agL m a b n≤31
 | 0,_=>by simp[agL]
 | c+1,h=>by
  have ih:=@Qbq m a b c (by omega)
  simp only[agL]
  split
  ·have:=Qvn ⟨(agL m a b c).toNat,by omega⟩ ⟨c,by omega⟩
   rwa [show(((agL m a b c).toNat:Nat):Int)=agL m a b c by omega]at this
  ·exact ih
def QO(n l r:Int):Bool:=inB n 1 5&&Ql n l&&inB r 0 (n-1)
def Qtm(x l r:Int):Bool:=(QV .and .i64 x l==l)&&(QV .and .i64 (x.fdiv (2^r.toNat)) 1==0)
def QCM(x l r:Int):Bool:=(QV .andNot .i64 l x==0)&& !Qu x r
theorem QAg:∀x l:Fin 32,∀r:Fin 5,QCM ((x.val:Nat):Int) ((l.val:Nat):Int) ((r.val:Nat):Int)=Qtm ((x.val:Nat):Int) ((l.val:Nat):Int) ((r.val:Nat):Int):=by decide+kernel
theorem Qmz{x l r:Int}(hx:0≤x∧x≤31)(hl:0≤l∧l≤31)(hr:0≤r∧r≤4):QCM x l r=Qtm x l r:=by
 have:=QAg ⟨x.toNat,by omega⟩ ⟨l.toNat,by omega⟩ ⟨r.toNat,by omega⟩
 rwa [show((x.toNat:Nat):Int)=x by omega,show((l.toNat:Nat):Int)=l by omega,show((r.toNat:Nat):Int)=r by omega]at this
def dpC(rs:List (List Int))(c:Nat)(m l r:Int)(i k:Nat):Bool:=Qtm (agL m (rs.getD i []) (rs.getD k []) c) l r
def dpK(rs:List (List Int))(c:Nat)(m l r:Int)(i:Nat):Nat→Nat→Option Nat
 | _,0=>none
 | k,n+1=>if dpC rs c m l r i k then some k else dpK rs c m l r i (k+1) n
def dpI(rs:List (List Int))(c:Nat)(m l r:Int):Nat→Nat→Option (Nat×Nat)
 | _,0=>none
 | i,n+1=>match dpK rs c m l r i (i+1) (rs.length-(i+1))with
  | some k=>some (i,k)
  | none=>dpI rs c m l r (i+1) n
def QaY(c:Int)(rs:List (List Int))(m l r:Int):Bool:=QP c rs&&QN m&&QO c l r
def wtO(c:Int)(rs:List (List Int))(m l r:Int):Option (Nat×Nat):=dpI rs c.toNat m l r 0 rs.length
def hdB(c:Int)(rs:List (List Int))(m l r:Int):Bool:=QaY c rs m l r&&(wtO c rs m l r).isNone
def prI:Option (Nat×Nat)→Int×Int
 | some (i,k)=>((i:Int),(k:Int))
 | none=>(-1,-1)
def wtR(c:Int)(rs:List (List Int))(m l r:Int):Option (Nat×Nat):=if QaY c rs m l r then wtO c rs m l r else none
theorem p5{c:Nat}(h:c<5):1≤(2:Int)^c∧(2:Int)^c≤16:=by
 have:c=0∨c=1∨c=2∨c=3∨c=4:=by omega
 rcases this with rfl|rfl|rfl|rfl|rfl<;>decide
def QcM:Qb:=⟨[],false,fun
 | [.one (.v (.int .i64 m))]=>some (True,[⟨false,[.d (.v (.bool (QN m)))]⟩],[])
 | _=>none⟩
attribute [local go_sem] QcM
theorem Qci:Qa E0 139 QcM:=by
 refine QG (E:=E0) (T:=mkT Tryz.prog [] false (fun _=>false) true (fun _=>false)) (Qd (E:=E0) .nil) (fn:=Tryz.f139) Tryz.func139 kR rfl Qc kR rfl ?_
 intro args p rs ms hr;unfold QcM at hr;dsimp only at hr;split at hr;rotate_left
 ·cases hr
 rename_i m;cases hr;refine⟨rfl,rfl,nLe rfl,?_⟩
 have hm:=mxE;intro _ bs;unfold QN;exact gQ
theorem QqN:Qa E0 64 QcM:=by
 refine QG (E:=E0) (T:=mkT Tryz.prog [] false (fun _=>false) true (fun _=>false)) (Qd (E:=E0) .nil) (fn:=Tryz.f64) Tryz.func64 kR rfl Qc kR rfl ?_
 intro args p rs ms hr;unfold QcM at hr;dsimp only at hr;split at hr;rotate_left
 ·cases hr
 rename_i m;cases hr;refine⟨rfl,rfl,nLe rfl,?_⟩
 have hm:=mxE;intro _ bs;unfold QN;exact gQ
def QwZ:Qb:=⟨[],false,fun
 | [.one (.v (.int .i64 m)),.one (.v (.int .i64 a)),.one (.v (.int .i64 b))]=>some (True,[⟨false,[.d (.v (.bool (eqc m a b)))]⟩],[])
 | _=>none⟩
attribute [local go_sem] QwZ
theorem Qum:Qa E0 191 QwZ:=by
 refine QG (E:=E0) (T:=mkT Tryz.prog [(139,QcM)] false (fun _=>false) true (fun _=>false)) (Qd (E:=E0) (.cons Qci .nil)) (fn:=Tryz.f191) Tryz.func191 kR rfl Qc kR rfl ?_
 intro args p rs ms hr;unfold QwZ at hr;dsimp only at hr;split at hr;rotate_left
 ·cases hr
 rename_i m a b;cases hr;refine⟨rfl,rfl,nLe rfl,?_⟩
 have hm:=mxE;intro _ bs;unfold eqc;exact gQ
theorem QA1:Qa E0 123 QwZ:=by
 refine QG (E:=E0) (T:=mkT Tryz.prog [(64,QcM)] false (fun _=>false) true (fun _=>false)) (Qd (E:=E0) (.cons QqN .nil)) (fn:=Tryz.f123) Tryz.func123 kR rfl Qc kR rfl ?_
 intro args p rs ms hr;unfold QwZ at hr;dsimp only at hr;split at hr;rotate_left
 ·cases hr
 rename_i m a b;cases hr;refine⟨rfl,rfl,nLe rfl,?_⟩
 have hm:=mxE;intro _ bs;unfold eqc;exact gQ
def Qd7:Qb:=⟨[],false,fun
 | [.one (.v (.int .i64 m)),.one (.sl 1 a),.one (.sl 1 b)]=>some (WfI a∧WfI b∧a.length=b.length∧a.length≤5,[⟨false,[.d (.v (.int .i64 (agL m (unI a) (unI b) a.length)))]⟩],[])
 | _=>none⟩
attribute [local go_sem] Qd7
theorem QhM:Qa E0 144 Qd7:=by
 refine QG (E:=E0) (T:=mkT Tryz.prog [(191,QwZ)] false (fun _=>false) true (fun _=>false)) (Qd (E:=E0) (.cons Qum .nil)) (fn:=Tryz.f144) Tryz.func144 kR rfl Qc kR rfl ?_
 intro args p rs ms hr;unfold Qd7 at hr;dsimp only at hr;split at hr;rotate_left
 ·cases hr
 rename_i m a b;cases hr;refine⟨rfl,rfl,nLe rfl,?_⟩
 have hm:=mxE;rintro⟨h1,h2,h3,h4⟩ bs;obtain⟨xs,rfl,hx⟩:=h1.ex;obtain⟨ys,rfl,hy⟩:=h2.ex;clear h1 h2;rw[Qs,Qs]at h3;rw[Qs]at h4;rw[QaH,QaH,Qs];refine gR ?_
 refine lpI {ι:=Nat,rs:=[(8,9),(12,29)],mods:=[(11,fun i=> .one (.d (.v (.int .i64 i)))),(7,fun i=> .one (.d (.v (.int .i64 (agL m xs ys i)))))],boxes:=[],arrs:=[],ok:=fun i=>i≤xs.length,mu:=fun i=>xs.length-i} rfl 0 (KJ _) ?_ fun i hi=>?_
 ·exact gQ
 ·dsimp only at i hi
  have hp:=fun h=>@p5 i h
  by_cases h5:i<xs.length
  ·have hp:=hp (by omega)
   have h5':i<ys.length:=by omega
   (repeat' first|refine gA fun _=>?_|apply fkI<;>intro hb<;>try simp only[ew,Qi]at hb|simp only[go_sem,simprocAttr, *,Qi])
   ·have hh:=‹eqc m (xs.getD i 0) (ys.getD i 0)=true›
    have e:agL m xs ys (i+1)=QV .or .i64 (agL m xs ys i) (1*2^i):=by rw[agL,if_pos hh]
    refine lpQ (i+1) ?_
    clear hh;exact gP
   ·have hh:=‹eqc m (xs.getD i 0) (ys.getD i 0)=false›
    have e:agL m xs ys (i+1)=agL m xs ys i:=by rw[agL,if_neg (by rw[hh];decide)]
    refine lpQ (i+1) ?_
    clear hh;exact gP
  ·have h5':¬i<ys.length:=by omega
   have e5:i=xs.length:=by omega
   subst e5;exact gQ
def QrO:Qb:=⟨[],false,fun
 | [.agg [.v (.int .i64 c),.sl 1 l],.one (.v (.int .i64 m)),.one (.v (.int .i64 i)),.one (.v (.int .i64 k))]=>some (WfS l∧QP c (unS l)=true∧(0≤i∧i<l.length)∧0≤k∧k<l.length,
   [⟨false,[.d (.v (.int .i64 (agL m ((unS l).getD i.toNat []) ((unS l).getD k.toNat []) c.toNat)))]⟩],[])
 | _=>none⟩
attribute [local go_sem] QrO
theorem QQ{c:Int}{rs:List (List Int)}(h:QP c rs=true):∃c':Nat,c=c'∧1≤c'∧c'≤5∧rs.length≤40∧∀i,i<rs.length→(rs.getD i []).length=c':=by
 have h1:=QCp h
 have h2:inB 0 0 (c-1)=true:=Qj.2 ⟨by omega,by omega⟩
 obtain⟨a',c',_,h3,_,h4,h5⟩:=QtW h h2;exact⟨c',h3,by omega,by omega,h4,h5⟩
theorem Qnh:Qa E0 79 QrO:=by
 refine QG (E:=E0) (T:=mkT Tryz.prog [(123,QwZ)] false (fun _=>false) true (fun _=>false)) (Qd (E:=E0) (.cons QA1 .nil)) (fn:=Tryz.f79) Tryz.func79 kR rfl Qc kR rfl ?_
 intro args p rs ms hr;unfold QrO at hr;dsimp only at hr;split at hr;rotate_left
 ·cases hr
 rename_i c l m a b;cases hr;refine⟨rfl,rfl,nLe rfl,?_⟩
 have hm:=mxE;rintro⟨h1,ht,⟨ha1,ha2⟩,hb1,hb2⟩ bs;obtain⟨rs,rfl,hx,hy⟩:=h1.ex;clear h1;rw[QB]at ht ⊢;rw[Qai]at ha2 hb2;obtain⟨c,rfl,c1,c5,h40,hlen⟩:=QQ ht;obtain⟨a,rfl⟩:=KL ha1;obtain⟨b,rfl⟩:=KL hb1;have la:=hlen a (by omega)
 have lb:=hlen b (by omega)
 simp only[KE]
 have ha3:a<rs.length:=by omega
 have hb3:b<rs.length:=by omega
 refine gR ?_
 refine lpI {ι:=Nat,rs:=[(11,39)],mods:=[(10,fun i=> .one (.d (.v (.int .i64 i)))),(9,fun i=> .one (.d (.v (.int .i64 (agL m (rs.getD a []) (rs.getD b []) i)))))],boxes:=[(4,fun _=>[.d (.v (.int .i64 c)),.d (.sl 1 (sL rs))])],arrs:=[],ok:=fun i=>i≤c,mu:=fun i=>c-i} rfl 0 (KJ _) ?_ fun i hi=>?_
 ·exact gQ
 ·dsimp only at i hi
  have hp:=fun h=>@p5 i h
  by_cases h5:i<c
  ·have hp:=hp (by omega)
   (repeat' first|refine gA fun _=>?_|apply fkI<;>intro hb<;>try simp only[ew,Qi]at hb|simp only[go_sem,simprocAttr, *,Qi])
   ·have hh:=‹eqc m ((rs.getD a []).getD i 0) ((rs.getD b []).getD i 0)=true›
    have e:agL m (rs.getD a []) (rs.getD b []) (i+1)=QV .or .i64 (agL m (rs.getD a []) (rs.getD b []) i) (1*2^i):=by rw[agL,if_pos hh]
    refine lpQ (i+1) ?_
    clear hh;exact gP
   ·have hh:=‹eqc m ((rs.getD a []).getD i 0) ((rs.getD b []).getD i 0)=false›
    have e:agL m (rs.getD a []) (rs.getD b []) (i+1)=agL m (rs.getD a []) (rs.getD b []) i:=by rw[agL,if_neg (by rw[hh];decide)]
    refine lpQ (i+1) ?_
    clear hh;exact gP
  ·have e5:i=c:=by omega
   subst e5;exact gQ
def QhO:Qb:=⟨[],false,fun
 | [.one (.v (.int .i64 n)),.agg [.v (.int .i64 l),.v (.int .i64 r)]]=>some (-9223372036854775808≤n∧n≤9223372036854775807,[⟨false,[.d (.v (.bool (QO n l r)))]⟩],[])
 | _=>none⟩
attribute [local go_sem] QhO
theorem Qfm:Qa E0 82 QhO:=by
 refine QG (E:=E0) (T:=mkT Tryz.prog [(62,Qbr),(66,Qak)] false (fun _=>false) true (fun _=>false)) (Qd (E:=E0) (.cons QcD (.cons Qcq .nil))) (fn:=Tryz.f82) Tryz.func82 kR rfl Qc kR rfl ?_
 intro args p rs ms hr;unfold QhO at hr;dsimp only at hr;split at hr;rotate_left
 ·cases hr
 rename_i n l r;cases hr;refine⟨rfl,rfl,nLe rfl,?_⟩
 have hm:=mxE;rintro⟨h1,h2⟩ bs;unfold QO;(repeat' (first|(refine QeM (by first|omega|(intro h;simp only[Qj,KB]at h;omega)|((repeat' (first|apply And.intro|assumption|omega|intro _));done)|(simp only[maxLen];omega)|simp_all|(simp_all[maxLen];omega)) fun _=>?_)|(refine fkI (fun hb=>?_) (fun hb=>?_)<;>(try simp only[ew]at hb))|(simp only[go_sem,simprocAttr, *])))
theorem QiN:Qa E0 105 QhO:=by
 refine QG (E:=E0) (T:=mkT Tryz.prog [(154,Qak)] false (fun _=>false) true (fun _=>false)) (Qd (E:=E0) (.cons QbW .nil)) (fn:=Tryz.f105) Tryz.func105 kR rfl Qc kR rfl ?_
 intro args p rs ms hr;unfold QhO at hr;dsimp only at hr;split at hr;rotate_left
 ·cases hr
 rename_i n l r;cases hr;refine⟨rfl,rfl,nLe rfl,?_⟩
 have hm:=mxE;rintro⟨h1,h2⟩ bs;have e:QO n l r=(decide (n≥1)&&Ql n l&&decide (r≥0)&&decide (r<n)):=by
  rw[Kp];unfold QO;simp only[KB,Qj,KK]
  constructor
  ·rintro⟨⟨⟨q1,q2⟩,q3⟩,q4,q5⟩;exact⟨⟨⟨q1,q3⟩,q4⟩,by omega⟩
  ·rintro⟨⟨⟨q1,q3⟩,q4⟩,q5⟩
   have:=Qq q3
   exact⟨⟨⟨q1,by omega⟩,q3⟩,q4,by omega⟩
 rw[e];clear e;exact gQ
def Qwm:Qb:=⟨[],false,fun
 | [.agg [.v (.int .i64 c),.sl 1 t],.one (.v (.int .i64 m)),.agg [.v (.int .i64 l),.v (.int .i64 r)]]=>some (WfS t∧ -9223372036854775808≤c∧c≤9223372036854775807,[⟨false,[.d (.v (.bool (QaY c (unS t) m l r)))]⟩],[])
 | _=>none⟩
attribute [local go_sem] Qwm
theorem Qpy:Qa E0 160 Qwm:=by
 refine QG (E:=E0) (T:=mkT Tryz.prog [(138,QA),(139,QcM),(105,QhO)] false (fun _=>false) true (fun _=>false)) (Qd (E:=E0) (.cons Qbf (.cons Qci (.cons QiN .nil)))) (fn:=Tryz.f160) Tryz.func160 kR rfl Qc kR rfl ?_
 intro args p rs ms hr;unfold Qwm at hr;dsimp only at hr;split at hr;rotate_left
 ·cases hr
 rename_i c t m l r;cases hr;refine⟨rfl,rfl,nLe rfl,?_⟩
 have hm:=mxE;rintro⟨h1,hc1,hc2⟩ bs;obtain⟨rs,rfl,hx,hy⟩:=h1.ex;clear h1;rw[QB];unfold QaY;exact gQ
def QdB:Qb:=⟨[],false,fun
 | [.agg [.v (.int .i64 c),.sl 1 t],.one (.v (.int .i64 m))]=>some (WfS t∧ -9223372036854775808≤c∧c≤9223372036854775807,[⟨false,[.d (.v (.bool (QP c (unS t)&&QN m)))]⟩],[])
 | _=>none⟩
attribute [local go_sem] QdB
theorem QdH:Qa E0 27 QdB:=by
 refine QG (E:=E0) (T:=mkT Tryz.prog [(22,QA),(64,QcM)] false (fun _=>false) true (fun _=>false)) (Qd (E:=E0) (.cons QoS (.cons QqN .nil))) (fn:=Tryz.f27) Tryz.func27 kR rfl Qc kR rfl ?_
 intro args p rs ms hr;unfold QdB at hr;dsimp only at hr;split at hr;rotate_left
 ·cases hr
 rename_i c t m;cases hr;refine⟨rfl,rfl,nLe rfl,?_⟩
 have hm:=mxE;rintro⟨h1,hc1,hc2⟩ bs;obtain⟨rs,rfl,hx,hy⟩:=h1.ex;clear h1;rw[QB];exact gQ
end
def paN(s:ByteArray):Nat→Nat→Int×Bool
 | 0,_=>(0,false)
 | k+1,x=>if((fa ((x:Nat):Int)).toList==s.toList)=true then(((x:Nat):Int),true)else paN s k (x+1)
def paF(s:ByteArray):Int×Bool:=paN s 32 0
theorem Qb3{a b:ByteArray}:(a.toList==b.toList)=true↔a=b:=by
 rw[Kh,ByteArray.toList_eq,ByteArray.toList_eq];exact⟨QbG,fun h=>by rw[h]⟩
theorem Qnv{s:ByteArray}:∀{k x:Nat},(paN s k x=(0,false)∧∀y,x≤y→y<x+k→fa ((y:Nat):Int)≠s)∨∃y:Nat,x≤y∧y<x+k∧paN s k x=(((y:Nat):Int),true)∧fa ((y:Nat):Int)=s
 | 0,x=> .inl ⟨rfl,fun y h1 h2=>by omega⟩
 | k+1,x=>by
  rw[paN];split
  ·rename_i h
   exact .inr ⟨x,by omega,by omega,rfl,Qb3.1 h⟩
  ·rename_i h
   rcases @Qnv s k (x+1)with⟨h1,h2⟩|⟨y,h1,h2,h3,h4⟩
   ·refine .inl ⟨h1,fun y y1 y2=>?_⟩
    by_cases hy:y=x
    ·subst hy;intro e;exact h (Qb3.2 e)
    ·exact h2 y (by omega) (by omega)
   ·exact .inr ⟨y,by omega,by omega,h3,h4⟩
theorem Qjh{s:ByteArray}:(paF s=(0,false)∧∀y:Nat,y<32→fa ((y:Nat):Int)≠s)∨∃y:Nat,y<32∧paF s=(((y:Nat):Int),true)∧fa ((y:Nat):Int)=s:=by
 rcases @Qnv s 32 0 with⟨h1,h2⟩|⟨y,_,h2,h3,h4⟩
 ·exact .inl ⟨h1,fun y hy=>h2 y (by omega) (by omega)⟩
 ·exact .inr ⟨y,by omega,h3,h4⟩
def QcO(n:Int)(x y:Int×Bool):(Int×Int)×Bool:=
 if x.2&&y.2&&decide (((mem y.1).length:Int)=1)&&QO n x.1 ((mem y.1).getD 0 0)then((x.1,(mem y.1).getD 0 0),true)else((0,0),false)
def pdF(n:Int)(s:ByteArray):(Int×Int)×Bool:=
 if(Qa9 62 s).length=2 then QcO n (paF ((Qa9 62 s).getD 0 ⟨#[]⟩)) (paF ((Qa9 62 s).getD 1 ⟨#[]⟩))else((0,0),false)
theorem QA6:∀x:Fin 32,(62:UInt8)∉(fa ((x.val:Nat):Int)).data.toList∧(fa ((x.val:Nat):Int)).data.toList≠[]:=by decide+kernel
theorem QBC:∀y:Fin 32,(mem ((y.val:Nat):Int)).length=1→1*2^((mem ((y.val:Nat):Int)).getD 0 0).toNat=((y.val:Nat):Int):=by decide+kernel
theorem QBK{n:Int}{s:ByteArray}{l r:ByteArray}{f:Bool}(h:Lib.cut s.data.toList [62]=(l.data.toList,r.data.toList,f)):
  pdF n s=if(QcO n (paF l) (paF r)).2&&((fd (QcO n (paF l) (paF r)).1).toList==s.toList)then QcO n (paF l) (paF r)else((0,0),false):=by
 have hno:∀{x:ByteArray} {y:Int×Bool},(QcO n y (paF x)).2=true→(62:UInt8)∉x.data.toList∧x.data.toList≠[]:=fun {x y} hx=>by
  rcases @Qjh x with⟨hp,_⟩|⟨z,hz,hp,he⟩
  ·unfold QcO at hx
   rw[hp]at hx;simp at hx
  ·rw[←he];exact QA6 ⟨z,hz⟩
 have hp0:∀{x y:Int×Bool},(QcO n x y).2=false→QcO n x y=((0,0),false):=fun {x y} hx=>by
  unfold QcO at hx ⊢;split
  ·rename_i hc;rw[if_pos hc]at hx;cases hx
  ·rfl
 rcases @QiL 62 s.data.toList with⟨a,b,h1,h2,h3,h4⟩|⟨h1,h2,h3⟩
 ·rw[h]at h4
  simp only[KC]at h4
  obtain⟨rfl,rfl,_⟩:=h4
  by_cases hb:(62:UInt8)∈r.data.toList
  ·have e1:(QcO n (paF l) (paF r)).2=false:=by
    cases hq:(QcO n (paF l) (paF r)).2
    ·rfl
    ·exact absurd hb (hno hq).1
   rw[e1,KT,if_neg (by decide)]
   unfold pdF;rw[if_neg];intro hl;unfold Qa9 at hl;rw[KV,h3]at hl;rcases @QiL 62 r.data.toList with⟨a',b',_,_,h3',_⟩|⟨h1',_⟩
   ·rw[h3']at hl
    have:=@QdG 62 b'
    cases hc:QeI 62 b' with
    | nil=>exact this hc
    | cons=>rw[hc]at hl;simp at hl
   ·exact h1' hb
  ·have hc:Qa9 62 s=[l,r]:=by
    unfold Qa9;rw[h3,QfX hb];rfl
   have e:pdF n s=QcO n (paF l) (paF r):=by unfold pdF;rw[hc];rfl
   rw[e];cases hq:(QcO n (paF l) (paF r)).2
   ·rw[KT,if_neg (by decide),hp0 hq]
   ·have hfd:((fd (QcO n (paF l) (paF r)).1).toList==s.toList)=true:=by
     rw[Qb3];unfold QcO at hq ⊢;split
     ·rename_i hcc
      simp only[KB,KK]at hcc
      obtain⟨⟨⟨c1,c2⟩,c3⟩,c4⟩:=hcc;rcases @Qjh l with⟨hp,_⟩|⟨x,hx,hpx,hex⟩
      ·rw[hp]at c1;cases c1
      ·rcases @Qjh r with⟨hp,_⟩|⟨y,hy,hpy,hey⟩
       ·rw[hp]at c2;cases c2
       ·rw[hpx]at c4 ⊢
        rw[hpy]at c3 c4 ⊢;dsimp only at c3 c4 ⊢;have hone:=QBC ⟨y,hy⟩ (by exact_mod_cast c3)
        dsimp only at hone;have hok:Qzo (((x:Nat):Int),(mem ((y:Nat):Int)).getD 0 0)=true:=by
         simp only[QO,KB,Qj]at c4
         have:=Qq c4.1.2
         have a31:Qc7 5=31:=by decide
         have c5:=c4.2
         have c6:=c4.1.1
         unfold Qzo Ql;rw[a31];simp only[KB,Qj]
         omega
        unfold fd;rw[if_pos hok];dsimp only;rw[hone,hex,hey];apply QbG
        rw[Qb2,Qb2,h2];simp
     ·rename_i hcc;rw[if_neg hcc]at hq;cases hq
    rw[hfd,Bool.and_self,if_pos rfl]
 ·rw[h]at h3
  simp only[KC]at h3
  obtain⟨_,h3,_⟩:=h3;have e1:(QcO n (paF l) (paF r)).2=false:=by
   cases hq:(QcO n (paF l) (paF r)).2
   ·rfl
   ·exact absurd h3 (hno hq).2
  rw[e1,KT,if_neg (by decide)]
  unfold pdF;rw[if_neg];intro hl;unfold Qa9 at hl;rw[KV,h2]at hl;cases hl
def sOk:ByteArray:=⟨#[111,107]⟩
def sNo:ByteArray:=⟨#[110,111]⟩
def Ql5:ByteArray:=⟨#[119,104,97,116]⟩
def QB7:ByteArray:=⟨#[116,114,105,118,105,97,108]⟩
def QvM:ByteArray:=⟨#[110,111,32,116,97,98,108,101]⟩
def isW(s k:ByteArray):Bool:=s.toList==k.toList
def QjQ:ByteArray:=⟨#[110,117,108,108]⟩
def Qne:ByteArray:=⟨#[101,113,117,97,108]⟩
def Qqu:ByteArray:=⟨#[97,112,97,114,116]⟩
def QhZ:ByteArray:=⟨#[99,111,108,117,109,110,115]⟩
def QCO:ByteArray:=⟨#[114,111,119]⟩
def Qyd:ByteArray:=⟨#[99,101,108,108]⟩
def Qye:ByteArray:=⟨#[100,114,111,112]⟩
def Qzu:ByteArray:=⟨#[99,104,101,99,107]⟩
def Qzv:ByteArray:=⟨#[103,105,118,101,110]⟩
def Qqw:ByteArray:=⟨#[105,109,112,108,105,101,100]⟩
def QBo:ByteArray:=⟨#[100,101,112,115]⟩
def QBp:ByteArray:=⟨#[107,101,121,115]⟩
def QuK:ByteArray:=⟨#[97,103,114,101,101]⟩
def QBq:ByteArray:=⟨#[115,105,122,101]⟩
def Qyf:ByteArray:=⟨#[116,97,107,101]⟩
def Qqv:ByteArray:=⟨#[99,108,101,97,114]⟩
def QkB:ByteArray:=⟨#[99,111,118,101,114]⟩
def QgT:ByteArray:=⟨#[115,99,104,101,109,97]⟩
def l3V(s:ByteArray):Int:=if isW s QjQ then -1 else if(!(spF s.data.toList).2||decide ((spF s.data.toList).1<0))=true then -100000 else(spF s.data.toList).1
def pvF(s:ByteArray):Int×Bool:=if isW s QjQ then(-1,true)else if(!(spF s.data.toList).2||decide ((spF s.data.toList).1<0)||decide ((spF s.data.toList).1>40))=true then(0,false)else((spF s.data.toList).1,true)
theorem QuJ{v:Int}{c:UInt8}{l:List UInt8}(h:Lib.itoa v=c::l):c=45∨Qnd c=true:=by
 unfold Lib.itoa at h;split at h
 ·simp only[YO]at h;exact .inl h.1.symm
 ·exact .inr (QeJ c (by rw[h];simp))
theorem QyM{s:ByteArray}(h:isW s QjQ=true):spF s.data.toList=(0,false):=by
 have e:s=QjQ:=Qb3.1 h
 rw[e];rcases @Qju QjQ.data.toList with h|⟨v,h⟩
 ·exact h
 ·exfalso
  have:=(Qib.1 h).1
  rcases QuJ (show Lib.itoa v=110::[117,108,108]from this)with h|h
  ·exact absurd h (by decide)
  ·exact absurd h (by decide)
theorem Qfs{s:ByteArray}(h:0≤l3V s):(spF s.data.toList).2=true∧(spF s.data.toList).1=l3V s:=by
 unfold l3V at h ⊢;split at h
 ·omega
 ·rename_i hn
  rw[if_neg hn];split at h
  ·omega
  ·rename_i hb
   rw[if_neg hb];simp only[Kq,Ko,KK,not_or,Bool.not_eq_false]at hb
   exact⟨hb.1,rfl⟩
theorem QuN{s:ByteArray}(h:(spF s.data.toList).2=true)(h0:0≤(spF s.data.toList).1):l3V s=(spF s.data.toList).1:=by
 unfold l3V;rw[if_neg,if_neg]
 ·simp only[Kq,Ko,KK,not_or,Bool.not_eq_false]
  exact⟨h,by omega⟩
 ·intro hn
  rw[QyM hn]at h;cases h
theorem QvA{s:ByteArray}:(pvF s).2=inB (l3V s) (-1) 40∧((pvF s).2=true→(pvF s).1=l3V s):=by
 unfold pvF l3V
 by_cases hn:isW s QjQ=true
 ·rw[if_pos hn,if_pos hn];exact⟨by decide,fun _=>rfl⟩
 ·rw[if_neg hn,if_neg hn]
  cases h2:(spF s.data.toList).2
  ·simp only[YU,YC,if_true]
   exact⟨by decide,fun h=>by cases h⟩
  ·simp only[YV,K8]
   by_cases hl:(spF s.data.toList).1<0
   ·have e1:decide ((spF s.data.toList).1<0)=true:=KZ hl
    simp only[e1,YC,if_true]
    exact⟨by decide,fun h=>by cases h⟩
   ·have e1:decide ((spF s.data.toList).1<0)=false:=KW hl
    simp only[e1,K8,KX,if_false]
    by_cases hg:(spF s.data.toList).1>40
    ·have e2:decide ((spF s.data.toList).1>40)=true:=KZ hg
     simp only[e2,if_true]
     refine⟨?_,fun h=>by cases h⟩
     cases hb:inB (spF s.data.toList).1 (-1) 40
     ·rfl
     ·rw[Qj]at hb;omega
    ·have e2:decide ((spF s.data.toList).1>40)=false:=KW hg
     simp only[e2,KX,if_false]
     refine⟨?_,fun _=>by trivial⟩
     exact(Qj.2 ⟨by omega,by omega⟩).symm
theorem QoT{a b:ByteArray}:isW a b=decide (a.data.toList=b.data.toList):=by
 unfold isW;rw[Kp,Qb3,KK];exact⟨fun h=>by rw[h],QbG⟩
def cPI:Qb:=⟨[],false,fun
 | [.one (.v (.string s))]=>some (s.size≤1073741824,[⟨false,[.d (.v (.int .i64 (spF s.data.toList).1))]⟩,⟨false,[.d (.v (.bool (spF s.data.toList).2))]⟩],[])
 | _=>none⟩
theorem QqS{v:Int}{s:ByteArray}:((Qst v).toList==s.toList)=decide (Lib.itoa v=s.data.toList):=by
 rw[Kp,Qb3,KK];exact⟨fun h=>by rw[←h];rfl,fun h=>QbG (by rw[←h];rfl)⟩
theorem QvY{l:List UInt8}: -999999999≤(spF l).1∧(spF l).1≤999999999:=by
 rcases @Qju l with h|⟨v,h⟩
 ·rw[h];decide
 ·rw[h];exact(Qib.1 h).2
section
attribute [local go_sem] Qh Qg Qae Qag Qaf Qaj Qa7 Qd1 Qv
theorem Qm{xs:List (Int×Int)}{a b:Int}:dL xs++[[D.v (.int .i64 a),D.v (.int .i64 b)]]=dL (xs++[(a,b)]):=by simp[dL]
end
def mvO(xs ys:List Int):Nat→Nat→Option Int
 | _,0=>none
 | v,n+1=>if xs.contains (v:Int)&& !ys.contains (v:Int)then some v else mvO xs ys (v+1) n
def mvR:Option Int→Int×Bool
 | some v=>(v,true)
 | none=>(0,false)
def mv(c:Int)(rs:List (List Int))(a b:Int):Int×Bool:=if QpR c rs a b then mvR (mvO (QFN rs a.toNat) (QFN rs b.toNat) 0 41)else(0,false)
end Go.Own
