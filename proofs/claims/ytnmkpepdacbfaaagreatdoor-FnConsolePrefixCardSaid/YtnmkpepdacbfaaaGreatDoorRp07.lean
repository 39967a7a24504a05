/- Contracts. Conditions: as stated. -/
import Derived.Test.YtnmkpepdacbfaaaGreatDoorRp06
import Derived.Lib.SplitLaws
import Derived.Lib.Join
import Derived.Lib.AtoiAll
import Derived.Lib.ItoaNum
set_option linter.all false
set_option maxRecDepth 20000
set_option maxHeartbeats 2000000
namespace Go.Own
open Go Go.Proofs
def QeI(c:UInt8):List UInt8→List (List UInt8)
 | []=>[[]]
 | b::r=>if b=c then []::QeI c r else match QeI c r with
  | p::q=>(b::p)::q
  | []=>[[b]]
theorem QdG{c:UInt8}:∀{l:List UInt8},QeI c l≠[]
 | []=>by simp[QeI]
 | b::r=>by
  unfold QeI;split
  ·simp
  ·split<;>simp
def QsN(p:List UInt8):List (List UInt8)→List (List UInt8)
 | q::r=>(p++q)::r
 | []=>[p]
theorem Qed{c:UInt8}{r:List UInt8}:QeI c (c::r)=[]::QeI c r:=by rw[QeI,if_pos rfl]
theorem Qdh{c b:UInt8}{r:List UInt8}(h:b≠c):QeI c (b::r)=QsN [b] (QeI c r):=by
 rw[QeI,if_neg h];cases hc:QeI c r with
 | nil=>exact absurd hc QdG
 | cons p q=>rfl
theorem QwQ{p q:List UInt8}:∀{l:List (List UInt8)},l≠[]→QsN p (QsN q l)=QsN (p++q) l
 | [],h=>absurd rfl h
 | x::r,_=>by simp[QsN]
theorem Qpz:∀{l:List (List UInt8)},l≠[]→QsN [] l=l
 | [],h=>absurd rfl h
 | x::r,_=>rfl
theorem QuA{c:UInt8}{l:List UInt8}:Lib.index (c::l) [c]=0:=by
 rw[Lib.index];simp[List.isPrefixOf]
theorem QoO{c b:UInt8}{l:List UInt8}(h:b≠c):Lib.index (b::l) [c]=if Lib.index l [c]== -1 then -1 else Lib.index l [c]+1:=by
 have hp:([c]:List UInt8).isPrefixOf (b::l)=false:=by simp[List.isPrefixOf,Ne.symm h]
 rw[Lib.index,hp];simp
theorem QkT{c:UInt8}:∀{l:List UInt8},Lib.splitK [c] 0 (Lib.count l [c]) l=QeI c l
 | []=>by rw[Lib.count_miss (by rfl)];rfl
 | b::r=>by
  have ih:=@QkT c r
  by_cases h:b=c
  ·subst h
   rw[Lib.count_cons_eq,Qed,←ih,Nat.add_comm,Lib.splitK,QuA];rfl
  ·rw[Lib.count_cons_ne _ _ _ h,Qdh h]
   by_cases hm:Lib.index r [c]= -1
   ·rw[Lib.count_miss hm]at ih ⊢
    rw[←ih];rfl
   ·have hge:=Lib.index_ge r [c]
    obtain⟨j,hj⟩:∃j:Nat,Lib.index r [c]=j:=⟨(Lib.index r [c]).toNat,by omega⟩
    rw[Lib.count_hit (by simp) hj,Nat.add_comm]at ih ⊢
    have e1:(Lib.index r [c]== -1)=false:=KU.2 hm
    have e2:Lib.index (b::r) [c]=((j+1:Nat):Int):=by rw[QoO h,e1,hj];simp
    have e3:(((j+1:Nat):Int)== -1)=false:=KU.2 (by omega)
    rw[Lib.splitK,e1]at ih;rw[Lib.splitK,e2,e3,←ih,hj];simp[QsN]
def Qa9(c:UInt8)(s:ByteArray):List ByteArray:=(QeI c s.data.toList).map fun l=>⟨l.toArray⟩
theorem QsF{c:UInt8}{s:ByteArray}:Lib.splitB ⟨#[c]⟩ 0 (Lib.countB s ⟨#[c]⟩) s=Qa9 c s:=by
 have h:=Lib.splitB_data ⟨#[c]⟩ 0 (Lib.countB s ⟨#[c]⟩) s
 have h2:Lib.splitK [c] 0 (Lib.countB s ⟨#[c]⟩) s.data.toList=QeI c s.data.toList:=QkT
 have e:((⟨#[c]⟩:ByteArray).data.toList)=[c]:=rfl
 rw[e,h2]at h;unfold Qa9;rw[←h,List.map_map];refine(List.map_id _).symm.trans (List.map_congr_left fun x _=>?_)
 exact QbG (by simp)
theorem QfW{c:UInt8}:∀{l:List UInt8},(QeI c l).length≤l.length+1
 | []=>by simp[QeI]
 | b::r=>by
  have ih:=@QfW c r
  by_cases h:b=c
  ·subst h;rw[Qed];simp;omega
  ·rw[Qdh h]
   cases hc:QeI c r with
   | nil=>exact absurd hc QdG
   | cons p q=>rw[hc]at ih;simp[QsN]at ih ⊢;omega
theorem QiK{c:UInt8}:∀{l:List UInt8},∀p∈QeI c l,p.length≤l.length
 | [],p,hp=>by simp[QeI]at hp;simp[hp]
 | b::r,p,hp=>by
  have ih:=@QiK c r
  by_cases h:b=c
  ·subst h
   rw[Qed]at hp;rcases KI.1 hp with rfl|hp
   ·simp
   ·have:=ih p hp;simp;omega
  ·rw[Qdh h]at hp
   cases hc:QeI c r with
   | nil=>exact absurd hc QdG
   | cons x q=>
    rw[hc]at hp ih;simp only[QsN,KI]at hp
    rcases hp with rfl|hp
    ·have:=ih x (by simp);simp;omega
    ·have:=ih p (by simp[hp]);simp;omega
theorem QfX{c:UInt8}:∀{l:List UInt8},c∉l→QeI c l=[l]
 | [],_=>rfl
 | b::r,h=>by
  simp only[KI,not_or]at h
  rw[Qdh (fun e=>h.1 e.symm),QfX h.2];rfl
theorem Qld{c:UInt8}:∀{l m:List UInt8},c∉l→QeI c (l++c::m)=l::QeI c m
 | [],m,_=>by rw[List.nil_append,Qed]
 | b::r,m,h=>by
  simp only[KI,not_or]at h
  rw[List.cons_append,Qdh (fun e=>h.1 e.symm),Qld h.2];rfl
theorem Qm7{c:UInt8}:∀{a b:List UInt8},c∉a→Lib.index (a++c::b) [c]=a.length
 | [],b,_=>QuA
 | x::a,b,h=>by
  simp only[KI,not_or]at h
  rw[List.cons_append,QoO (fun e=>h.1 e.symm),Qm7 h.2]
  have:(((a.length:Nat):Int)== -1)=false:=KU.2 (by omega)
  rw[this];simp
theorem QAJ{c:UInt8}{a b:List UInt8}(h:c∉a):Lib.cut (a++c::b) [c]=(a,b,true):=by
 unfold Lib.cut;rw[Qm7 h,if_pos (by omega)]
 simp
theorem Qqo{c:UInt8}:∀{l:List UInt8},c∉l→Lib.index l [c]= -1
 | [],_=>rfl
 | x::a,h=>by
  simp only[KI,not_or]at h
  rw[QoO (fun e=>h.1 e.symm),Qqo h.2];rfl
theorem QiL{c:UInt8}{l:List UInt8}:(∃a b,c∉a∧l=a++c::b∧QeI c l=a::QeI c b∧Lib.cut l [c]=(a,b,true))∨(c∉l∧QeI c l=[l]∧Lib.cut l [c]=(l,[],false)):=by
 by_cases h:c∈l
 ·left
  have key:∀{l:List UInt8},c∈l→∃a b,l=a++c::b∧c∉a:=by
   intro l;induction l with
   | nil=>intro h;cases h
   | cons x l ih=>
    intro h
    by_cases hx:x=c
    ·exact⟨[],l,by rw[hx];rfl,by simp⟩
    ·obtain⟨a,b,e,ha⟩:=ih (by simpa [Ne.symm hx]using h)
     exact⟨x::a,b,by rw[e];rfl,by simp only[KI,not_or];exact⟨fun e=>hx e.symm,ha⟩⟩
  obtain⟨a,b,rfl,ha⟩:=key h;exact⟨a,b,ha,rfl,Qld ha,QAJ ha⟩
 ·right
  refine⟨h,QfX h,?_⟩
  unfold Lib.cut;rw[Qqo h,if_neg (by omega)]
theorem bsz{s:ByteArray}:s.data.toList.length=s.size:=YN
def Qnd(c:UInt8):Bool:=decide (48≤c.toNat)&&decide (c.toNat≤57)
def dgV:List UInt8→Nat×Nat→Nat×Nat
 | [],z=>z
 | c::r,z=>dgV r (if Qnd c then(z.1*10+(c.toNat-48),z.2+1)else z)
theorem QoG:∀{l m:List UInt8} {z:Nat×Nat},dgV (l++m) z=dgV m (dgV l z)
 | [],m,z=>rfl
 | c::r,m,z=>QoG (l:=r)
theorem Qp3:∀{l:List UInt8} {z:Nat×Nat},z.1<10^z.2→(dgV l z).1<10^(dgV l z).2
 | [],z,h=>h
 | c::r,z,h=>by
  refine Qp3 (l:=r) ?_
  split
  ·rename_i hc
   simp only[Qnd,KB,KK]at hc
   dsimp only;rw[Nat.pow_succ];omega
  ·exact h
theorem Qug:∀{l:List UInt8} {z:Nat×Nat},z.2≤(dgV l z).2∧(dgV l z).2≤z.2+l.length
 | [],z=>⟨KP _,KP _⟩
 | c::r,z=>by
  obtain⟨h1,h2⟩:=@Qug r (if Qnd c then(z.1*10+(c.toNat-48),z.2+1)else z);show z.2≤(dgV r _).2∧(dgV r _).2≤_
  split at h1<;>rename_i hc<;>simp only[hc,if_true,KX,if_false,List.length_cons]at h1 h2 ⊢<;>omega
theorem QhV{d:Nat}(h:d<10):(UInt8.ofNat (48+d)).toNat=48+d∧Qnd (UInt8.ofNat (48+d))=true:=by
 have:∀d:Fin 10,(UInt8.ofNat (48+d.val)).toNat=48+d.val∧Qnd (UInt8.ofNat (48+d.val))=true:=by decide
 exact this ⟨d,h⟩
theorem QeJ:∀{u:Nat},∀c∈Lib.decDigits u,Qnd c=true:=by
 intro u;induction u using Nat.strongRecOn with
 | ind u ih=>
  intro c hc;rw[Lib.decDigits]at hc;split at hc
  ·rename_i h
   rw[KH]at hc;rw[hc];exact(QhV h).2
  ·rcases KG.1 hc with hc|hc
   ·exact ih (u/10) (by omega) c hc
   ·rw[KH]at hc
    rw[hc];exact(QhV (by omega)).2
theorem Qlk:∀{u:Nat},dgV (Lib.decDigits u) (0,0)=(u,(Lib.decDigits u).length):=by
 intro u;induction u using Nat.strongRecOn with
 | ind u ih=>
  rw[Lib.decDigits];split
  ·rename_i h
   obtain⟨h1,h2⟩:=QhV h;show dgV [] (if Qnd (UInt8.ofNat (48+u))then(0*10+((UInt8.ofNat (48+u)).toNat-48),0+1)else(0,0))=_
   rw[h2,if_pos rfl,h1];simp[dgV]
  ·obtain⟨h1,h2⟩:=@QhV (u%10) (by omega)
   rw[QoG,ih (u/10) (by omega)]
   generalize hx:UInt8.ofNat (48+u%10)=x at h1 h2;show dgV [] (if Qnd x then(u/10*10+(x.toNat-48),_+1)else _)=_
   rw[h2,if_pos rfl,h1];simp only[dgV,KN,List.length_cons,Yb,KC]
   exact⟨by omega,trivial⟩
theorem QoB:∀{k u:Nat},u<10^(k+1)→(Lib.decDigits u).length≤k+1
 | 0,u,h=>by rw[Lib.decDigits_one (by simpa using h)];simp
 | k+1,u,h=>by
  by_cases hu:u<10
  ·rw[Lib.decDigits_one hu];simp
  ·rw[Lib.decDigits,dif_neg hu]
   have:=@QoB k (u/10) (by rw[Nat.pow_succ]at h;omega)
   simp;omega
theorem Qzj{u:Nat}:Lib.decDigits u≠[]:=by
 rw[Lib.decDigits];split<;>simp
theorem QqX:∀{l:List UInt8} {a:Nat},(∀c∈l,Qnd c=true)→∀k,(dgV l (a,k)).1<18446744073709551616→Lib.parseUint10 a l= .ok (dgV l (a,k)).1
 | [],a,_,k,_=>rfl
 | c::r,a,h,k,hl=>by
  have hc:=h c (by simp)
  have hc2:=hc
  simp only[Qnd,KB,KK]at hc2
  have hr:∀c∈r,Qnd c=true:=fun x hx=>h x (by simp[hx])
  have mono:∀{l:List UInt8} {z:Nat×Nat},(∀c∈l,Qnd c=true)→z.1≤(dgV l z).1:=by
   intro l;induction l with
   | nil=>intro z _;exact KP _
   | cons x l ih=>
    intro z hx;have h1:=hx x (by simp)
    simp only[dgV,h1,if_true]
    have:=@ih (z.1*10+(x.toNat-48),z.2+1) fun c hc=>hx c (by simp[hc])
    dsimp only at this;omega
  simp only[dgV,hc,if_true]at hl ⊢
  have hm:=@mono r (a*10+(c.toNat-48),k+1) hr;dsimp only at hm;rw[Lib.parseUint10,if_pos hc2,if_neg (by omega),if_neg (by omega)]
  exact QqX hr (k+1) hl
theorem Qtj{v:Int}(h1: -999999999≤v)(h2:v≤999999999):Lib.atoiAll (Lib.itoa v)= .ok v:=by
 have key:∀u:Nat,u≤999999999→Lib.parseMag (Lib.decDigits u)= .ok u:=fun u hu=>by
  unfold Lib.parseMag;rw[if_neg Qzj];have:=QqX (l:=Lib.decDigits u) (a:=0) QeJ 0 (by rw[Qlk];dsimp only;omega)
  rw[Qlk]at this;exact this
 unfold Lib.itoa;split
 ·rename_i hneg
  have e:(45:UInt8).toNat=45:=rfl
  simp only[Lib.atoiAll,e,key v.natAbs (by omega),or_true,if_true]
  rw[if_neg (by simp),if_neg (by simp;omega)]
  simp;omega
 ·rename_i hpos
  obtain⟨u,rfl⟩:=KL (show 0≤v by omega)
  rw[KE];have hd:=@QeJ u
  have hk:=key u (by omega)
  cases hc:Lib.decDigits u with
  | nil=>exact absurd hc Qzj
  | cons c r=>
   have hdc:=hd c (by rw[hc];simp)
   simp only[Qnd,KB,KK]at hdc
   rw[hc]at hk;have n1:¬(c.toNat=43∨c.toNat=45):=by omega
   have n2:¬c.toNat=45:=by omega
   simp only[Lib.atoiAll,if_neg n1]
   rw[hk];dsimp only;rw[if_neg (by omega),if_neg (by omega),if_neg n2]
def Qst(n:Int):ByteArray:=⟨(Lib.itoa n).toArray⟩
def spN(l:List UInt8):Int:=if l.head? =some 45 then -((dgV (l.take 11) (0,0)).1:Int)else(dgV (l.take 11) (0,0)).1
def spF(l:List UInt8):Int×Bool:=
 if 9<(dgV (l.take 11) (0,0)).2∨10<l.length∨Lib.itoa (spN l)≠l then(0,false)else(spN l,true)
theorem Qib{l:List UInt8}{v:Int}:spF l=(v,true)↔(Lib.itoa v=l∧ -999999999≤v∧v≤999999999):=by
 constructor
 ·intro h
  unfold spF at h;split at h
  ·cases h
  ·rename_i hn
   simp only[not_or,Nat.not_lt,Decidable.not_not]at hn
   obtain⟨h1,h2,h3⟩:=hn;simp only[KC,and_true]at h
   have hlt:=@Qp3 (l.take 11) (0,0) (by decide)
   have h9:(10:Nat)^(dgV (l.take 11) (0,0)).2≤10^9:=K2 (by decide) h1
   have h9':(10:Nat)^9=1000000000:=by decide
   rw[←h];refine⟨h3,?_⟩
   unfold spN;split<;>omega
 ·rintro⟨rfl,h1,h2⟩
  have hu:v.natAbs<10^(8+1):=by
    have:(10:Nat)^(8+1)=1000000000:=by decide
    omega
  have hl:=QoB hu
  unfold spF
  by_cases hneg:v<0
  ·have e:Lib.itoa v=45::Lib.decDigits v.natAbs:=by unfold Lib.itoa;rw[if_pos hneg]
   have e1:(Lib.itoa v).take 11=45::Lib.decDigits v.natAbs:=by rw[e];exact Kj (by simp;omega)
   have e2:dgV ((Lib.itoa v).take 11) (0,0)=(v.natAbs,(Lib.decDigits v.natAbs).length):=by
    rw[e1];have:Qnd 45=false:=by decide
    rw[dgV,this];exact Qlk
   have e3:(Lib.itoa v).head? =some 45:=by rw[e];rfl
   have e4: -((v.natAbs:Nat):Int)=v:=by omega
   have e5:spN (Lib.itoa v)=v:=by unfold spN;rw[e2,if_pos e3];exact e4
   rw[e2,e5,if_neg];have:(Lib.itoa v).length≤10:=by rw[e];simp;omega
   simp only[not_or,Nat.not_lt,Decidable.not_not]
   exact⟨by omega,this,trivial⟩
  ·have e:Lib.itoa v=Lib.decDigits v.natAbs:=by unfold Lib.itoa;rw[if_neg hneg];congr 1;omega
   have e1:(Lib.itoa v).take 11=Lib.decDigits v.natAbs:=by rw[e];exact Kj (by omega)
   have e2:dgV ((Lib.itoa v).take 11) (0,0)=(v.natAbs,(Lib.decDigits v.natAbs).length):=by rw[e1];exact Qlk
   have e3:(Lib.itoa v).head? ≠some 45:=by
    rw[e];cases hc:Lib.decDigits v.natAbs with
    | nil=>simp
    | cons c r=>
     have:=@QeJ v.natAbs c (by rw[hc];simp)
     intro h;simp only[List.head?_cons,KA]at h
     subst h;exact absurd this (by decide)
   have e4:((v.natAbs:Nat):Int)=v:=by omega
   have e5:spN (Lib.itoa v)=v:=by unfold spN;rw[e2,if_neg e3];exact e4
   rw[e2,e5,if_neg];simp only[not_or,Nat.not_lt,Decidable.not_not]
   exact⟨by omega,by rw[e];omega,trivial⟩
theorem Qju{l:List UInt8}:spF l=(0,false)∨∃v,spF l=(v,true):=by
 unfold spF;split
 ·exact .inl rfl
 ·exact .inr ⟨_,rfl⟩
theorem QyL{l:List UInt8}:spF l=match Lib.atoiAll l with
  | .ok v=>if(Lib.itoa v=l∧ -999999999≤v∧v≤999999999)then(v,true)else(0,false)
  | _=>(0,false):=by
 rcases @Qju l with h|⟨v,h⟩
 ·rw[h]
  split
  ·rename_i v ha
   split
   ·rename_i hv
    rw[Qib.2 hv]at h;cases h
   ·rfl
  ·rfl
 ·have hv:=Qib.1 h
  have ha:=Qtj hv.2.1 hv.2.2
  rw[hv.1]at ha;rw[h,ha];dsimp only;rw[if_pos hv]
section
attribute [local go_sem] Tryz.results118
def QAr:Qb:=⟨[],false,fun
 | [.one (.sl 1 l),.one (.v (.int .i64 n))]=>some (WfI l,[⟨false,[.d (.v (.bool ((unI l).contains n)))]⟩],[])
 | _=>none⟩
attribute [local go_sem] QAr
theorem QfT{xs:List Int}{i:Nat}(h:i<xs.length)(n:Int):(xs.drop i).contains n=(n==xs.getD i 0||(xs.drop (i+1)).contains n):=by
 rw[QaZ h 0];rfl
theorem Qux:Qa E0 118 QAr:=by
 refine QG (E:=E0) (T:=mkT Tryz.prog [] false (fun _=>false) true (fun _=>false)) (Qd (E:=E0) .nil) (fn:=Tryz.f118) Tryz.func118 kR rfl Qc kR rfl ?_
 intro args p rs ms hr;unfold QAr at hr;dsimp only at hr;split at hr;rotate_left
 ·cases hr
 rename_i l n;cases hr;refine⟨rfl,rfl,nLe rfl,?_⟩
 have hm:=mxE;intro h1 bs;obtain⟨xs,rfl,hx⟩:=h1.ex;clear h1;rw[QaH];refine gR ?_
 refine lpI {ι:=Nat,rs:=[(4,5),(6,18)],mods:=[(5,fun i=> .one (.d (.v (.int .i64 i))))],boxes:=[],arrs:=[],ok:=fun i=>i≤xs.length∧(xs.drop i).contains n=xs.contains n,mu:=fun i=>xs.length-i} rfl 0 ⟨KJ _,rfl⟩ ?_ fun i hi=>?_
 ·exact gQ
 ·dsimp only at i hi
  obtain⟨hi,ht⟩:=hi;(repeat' first|refine gA fun _=>?_|apply fkI<;>intro hb<;>try simp only[ew]at hb|simp only[go_sem,simprocAttr, *])
  ·have e:=‹xs.getD i 0=n›
   rw[←ht,QfT (by omega),e];simp
  ·have e:=‹¬xs.getD i 0=n›
   refine lpN (i+1) ⟨by omega,?_⟩ (by dsimp only;omega) ?_
   ·rw[←ht,QfT (i:=i) (by omega),beq_false_of_ne (fun h=>e h.symm)];rfl
   ·exact gQ
  ·rw[←ht,YB (by omega)];rfl
def QFN(rs:List (List Int))(a:Nat):List Int:=rs.map fun r=>r.getD a 0
theorem QtW{c:Int}{rs:List (List Int)}{a:Int}(ht:QP c rs=true)(hi:inB a 0 (c-1)=true):∃a' c':Nat,a=a'∧c=c'∧a'<c'∧rs.length≤40∧∀i,i<rs.length→(rs.getD i []).length=c':=by
 obtain⟨a',b',c',h1,h2,h3,h4,h5,h6,h7⟩:=QrX (c:=c) (rs:=rs) (a:=a) (b:=a) (by rw[QpR,ht,hi];rfl)
 exact⟨a',c',h1,h3,h4,h6,h7⟩
end
attribute [local go_sem] Tryz.results145
theorem Q9{xs:List Int}:(∀e∈iL xs,∀x∈e,QaO x)↔True:=by
 refine⟨fun _=>trivial,fun _ e he x hx=>?_⟩
 obtain⟨n,_,rfl⟩:=KQ.1 he;simp at hx
 subst hx;trivial
def Qd8:Qb:=⟨[],false,fun
 | [.one (.sl 1 l)]=>some (WfI l∧l.length≤16777216,[⟨false,[.own 1 l 1]⟩],[])
 | _=>none⟩
attribute [local go_sem] Qd8
theorem QhQ:Qa E0 145 Qd8:=by
 refine QG (E:=E0) (T:=mkT Tryz.prog [] false (fun _=>false) true (fun _=>false)) (Qd (E:=E0) .nil) (fn:=Tryz.f145) Tryz.func145 kR rfl Qc kR rfl ?_
 intro args p rs ms hr;unfold Qd8 at hr;dsimp only at hr;split at hr;rotate_left
 ·cases hr
 rename_i l;cases hr;refine⟨rfl,rfl,nLe rfl,?_⟩
 have hm:=mxE;rintro⟨h1,h2⟩ bs;obtain⟨xs,rfl,hx⟩:=h1.ex;clear h1;rw[Qs]at h2;have q0:=@Q9;exact gP
theorem Qbo{rs:List (List Int)}{r:List Int}:sL rs++[[D.sl 1 (iL r)]]=sL (rs++[r]):=by simp[sL]
end Go.Own
