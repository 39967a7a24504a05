/- Own contracts. Conditions: as each theorem states them. -/
import Derived.Test.YtnmkpepdacbfaaaGreatDoorRr06
import Derived.Lib.SplitLaws
import Derived.Lib.Join
import Derived.Lib.AtoiAll
import Derived.Lib.ItoaNum
set_option linter.unusedSimpArgs false
set_option linter.unusedVariables false
set_option maxRecDepth 20000
set_option maxHeartbeats 2000000
namespace Go.Own
open Go Go.Proofs
def Qex(c:UInt8):List UInt8→List (List UInt8)
 | []=>[[]]
 | b::r=>if b=c then []::Qex c r else match Qex c r with
  | p::q=>(b::p)::q
  | []=>[[b]]
theorem Qg1{c:UInt8}:∀{l:List UInt8},Qex c l≠[]
 | []=>by simp[Qex]
 | b::r=>by
  unfold Qex;split
  ·simp
  ·split<;>simp
def QBc(p:List UInt8):List (List UInt8)→List (List UInt8)
 | q::r=>(p++q)::r
 | []=>[p]
theorem QeI{c:UInt8}{r:List UInt8}:Qex c (c::r)=[]::Qex c r:=by rw[Qex,if_pos rfl]
theorem Qdn{c b:UInt8}{r:List UInt8}(h:b≠c):Qex c (b::r)=QBc [b] (Qex c r):=by
 rw[Qex,if_neg h];cases hc:Qex c r with
 | nil=>exact absurd hc Qg1
 | cons p q=>rfl
theorem Qrn{c:UInt8}{l:List UInt8}:Lib.index (c::l) [c]=0:=by
 rw[Lib.index];simp[List.isPrefixOf]
theorem QlY{c b:UInt8}{l:List UInt8}(h:b≠c):Lib.index (b::l) [c]=if Lib.index l [c]== -1 then -1 else Lib.index l [c]+1:=by
 have hp:([c]:List UInt8).isPrefixOf (b::l)=false:=by simp[List.isPrefixOf,Ne.symm h]
 rw[Lib.index,hp];simp
theorem QiR{c:UInt8}:∀{l:List UInt8},Lib.splitK [c] 0 (Lib.count l [c]) l=Qex c l
 | []=>by rw[Lib.count_miss (by rfl)];rfl
 | b::r=>by
  have ih:=@QiR c r
  by_cases h:b=c
  ·subst h
   rw[Lib.count_cons_eq,QeI,←ih,Nat.add_comm,Lib.splitK,Qrn];rfl
  ·rw[Lib.count_cons_ne _ _ _ h,Qdn h]
   by_cases hm:Lib.index r [c]= -1
   ·rw[Lib.count_miss hm]at ih ⊢
    rw[←ih];rfl
   ·have hge:=Lib.index_ge r [c]
    obtain⟨j,hj⟩:∃j:Nat,Lib.index r [c]=j:=⟨(Lib.index r [c]).toNat,by omega⟩
    rw[Lib.count_hit (by simp) hj,Nat.add_comm]at ih ⊢
    have e1:(Lib.index r [c]== -1)=false:=beq_eq_false_iff_ne.2 hm
    have e2:Lib.index (b::r) [c]=((j+1:Nat):Int):=by rw[QlY h,e1,hj];simp
    have e3:(((j+1:Nat):Int)== -1)=false:=beq_eq_false_iff_ne.2 (by omega)
    rw[Lib.splitK,e1]at ih;rw[Lib.splitK,e2,e3,←ih,hj];simp[QBc]
def QbO(c:UInt8)(s:ByteArray):List ByteArray:=(Qex c s.data.toList).map fun l=>⟨l.toArray⟩
theorem Qpr{c:UInt8}{s:ByteArray}:Lib.splitB ⟨#[c]⟩ 0 (Lib.countB s ⟨#[c]⟩) s=QbO c s:=by
 have h:=Lib.splitB_data ⟨#[c]⟩ 0 (Lib.countB s ⟨#[c]⟩) s
 have h2:Lib.splitK [c] 0 (Lib.countB s ⟨#[c]⟩) s.data.toList=Qex c s.data.toList:=QiR
 have e:((⟨#[c]⟩:ByteArray).data.toList)=[c]:=rfl
 rw[e,h2]at h;unfold QbO;rw[←h,List.map_map];refine(List.map_id _).symm.trans (List.map_congr_left fun x _=>?_)
 exact Qa8 (by simp)
theorem Qi5{c:UInt8}:∀{l:List UInt8},(Qex c l).length≤l.length+1
 | []=>by simp[Qex]
 | b::r=>by
  have ih:=@Qi5 c r
  by_cases h:b=c
  ·subst h;rw[QeI];simp;omega
  ·rw[Qdn h]
   cases hc:Qex c r with
   | nil=>exact absurd hc Qg1
   | cons p q=>rw[hc]at ih;simp[QBc]at ih ⊢;omega
theorem Qkr{c:UInt8}:∀{l:List UInt8},∀p∈Qex c l,p.length≤l.length
 | [],p,hp=>by simp[Qex]at hp;simp[hp]
 | b::r,p,hp=>by
  have ih:=@Qkr c r
  by_cases h:b=c
  ·subst h
   rw[QeI]at hp;rcases List.mem_cons.1 hp with rfl|hp
   ·simp
   ·have:=ih p hp;simp;omega
  ·rw[Qdn h]at hp
   cases hc:Qex c r with
   | nil=>exact absurd hc Qg1
   | cons x q=>
    rw[hc]at hp ih;simp only[QBc,List.mem_cons]at hp
    rcases hp with rfl|hp
    ·have:=ih x (by simp);simp;omega
    ·have:=ih p (by simp[hp]);simp;omega
theorem QbT{c:UInt8}:∀{l:List UInt8},c∉l→Qex c l=[l]
 | [],_=>rfl
 | b::r,h=>by
  simp only[List.mem_cons,not_or]at h
  rw[Qdn (fun e=>h.1 e.symm),QbT h.2];rfl
theorem QbS{c:UInt8}:∀{l m:List UInt8},c∉l→Qex c (l++c::m)=l::Qex c m
 | [],m,_=>by rw[List.nil_append,QeI]
 | b::r,m,h=>by
  simp only[List.mem_cons,not_or]at h
  rw[List.cons_append,Qdn (fun e=>h.1 e.symm),QbS h.2];rfl
theorem Qky{c:UInt8}:∀{a b:List UInt8},c∉a→Lib.index (a++c::b) [c]=a.length
 | [],b,_=>Qrn
 | x::a,b,h=>by
  simp only[List.mem_cons,not_or]at h
  rw[List.cons_append,QlY (fun e=>h.1 e.symm),Qky h.2]
  have:(((a.length:Nat):Int)== -1)=false:=beq_eq_false_iff_ne.2 (by omega)
  rw[this];simp
theorem Qxl{c:UInt8}{a b:List UInt8}(h:c∉a):Lib.cut (a++c::b) [c]=(a,b,true):=by
 unfold Lib.cut;rw[Qky h,if_pos (by omega)]
 simp
theorem Qnn{c:UInt8}:∀{l:List UInt8},c∉l→Lib.index l [c]= -1
 | [],_=>rfl
 | x::a,h=>by
  simp only[List.mem_cons,not_or]at h
  rw[QlY (fun e=>h.1 e.symm),Qnn h.2];rfl
theorem Qks{c:UInt8}{l:List UInt8}:(∃a b,c∉a∧l=a++c::b∧Qex c l=a::Qex c b∧Lib.cut l [c]=(a,b,true))∨(c∉l∧Qex c l=[l]∧Lib.cut l [c]=(l,[],false)):=by
 by_cases h:c∈l
 ·left
  have key:∀{l:List UInt8},c∈l→∃a b,l=a++c::b∧c∉a:=by
   intro l;induction l with
   | nil=>intro h;cases h
   | cons x l ih=>
    intro h
    by_cases hx:x=c
    ·exact⟨[],l,by rw[hx];rfl,by simp⟩
    ·obtain⟨a,b,e,ha⟩:=ih (by simpa [Ne.symm hx]using h)
     exact⟨x::a,b,by rw[e];rfl,by simp only[List.mem_cons,not_or];exact⟨fun e=>hx e.symm,ha⟩⟩
  obtain⟨a,b,rfl,ha⟩:=key h;exact⟨a,b,ha,rfl,QbS ha,Qxl ha⟩
 ·right
  refine⟨h,QbT h,?_⟩
  unfold Lib.cut;rw[Qnn h,if_neg (by omega)]
theorem bsz{s:ByteArray}:s.data.toList.length=s.size:=Array.length_toList
end Go.Own

namespace Go.Own
open Go Go.Proofs
def Qnq(c:UInt8):Bool:=decide (48≤c.toNat)&&decide (c.toNat≤57)
def dgV:List UInt8→Nat×Nat→Nat×Nat
 | [],z=>z
 | c::r,z=>dgV r (if Qnq c then(z.1*10+(c.toNat-48),z.2+1)else z)
theorem QqU:∀{l m:List UInt8} {z:Nat×Nat},dgV (l++m) z=dgV m (dgV l z)
 | [],m,z=>rfl
 | c::r,m,z=>QqU (l:=r)
theorem Qv2:∀{l:List UInt8} {z:Nat×Nat},z.1<10^z.2→(dgV l z).1<10^(dgV l z).2
 | [],z,h=>h
 | c::r,z,h=>by
  refine Qv2 (l:=r) ?_
  split
  ·rename_i hc
   simp only[Qnq,Bool.and_eq_true,decide_eq_true_eq]at hc
   dsimp only;rw[Nat.pow_succ];omega
  ·exact h
theorem Qgn{d:Nat}(h:d<10):(UInt8.ofNat (48+d)).toNat=48+d∧Qnq (UInt8.ofNat (48+d))=true:=by
 have:∀d:Fin 10,(UInt8.ofNat (48+d.val)).toNat=48+d.val∧Qnq (UInt8.ofNat (48+d.val))=true:=by decide
 exact this ⟨d,h⟩
theorem QcG:∀{u:Nat},∀c∈Lib.decDigits u,Qnq c=true:=by
 intro u;induction u using Nat.strongRecOn with
 | ind u ih=>
  intro c hc;rw[Lib.decDigits]at hc;split at hc
  ·rename_i h
   rw[List.mem_singleton]at hc;rw[hc];exact(Qgn h).2
  ·rcases List.mem_append.1 hc with hc|hc
   ·exact ih (u/10) (by omega) c hc
   ·rw[List.mem_singleton]at hc
    rw[hc];exact(Qgn (by omega)).2
theorem Qi6:∀{u:Nat},dgV (Lib.decDigits u) (0,0)=(u,(Lib.decDigits u).length):=by
 intro u;induction u using Nat.strongRecOn with
 | ind u ih=>
  rw[Lib.decDigits];split
  ·rename_i h
   obtain⟨h1,h2⟩:=Qgn h;show dgV [] (if Qnq (UInt8.ofNat (48+u))then(0*10+((UInt8.ofNat (48+u)).toNat-48),0+1)else(0,0))=_
   rw[h2,if_pos rfl,h1];simp[dgV]
  ·obtain⟨h1,h2⟩:=@Qgn (u%10) (by omega)
   rw[QqU,ih (u/10) (by omega)]
   generalize hx:UInt8.ofNat (48+u%10)=x at h1 h2;show dgV [] (if Qnq x then(u/10*10+(x.toNat-48),_+1)else _)=_
   rw[h2,if_pos rfl,h1];simp only[dgV,List.length_append,List.length_cons,List.length_nil,Prod.mk.injEq]
   exact⟨by omega,trivial⟩
theorem QlK:∀{k u:Nat},u<10^(k+1)→(Lib.decDigits u).length≤k+1
 | 0,u,h=>by rw[Lib.decDigits_one (by simpa using h)];simp
 | k+1,u,h=>by
  by_cases hu:u<10
  ·rw[Lib.decDigits_one hu];simp
  ·rw[Lib.decDigits,dif_neg hu]
   have:=@QlK k (u/10) (by rw[Nat.pow_succ]at h;omega)
   simp;omega
theorem Qv0{u:Nat}:Lib.decDigits u≠[]:=by
 rw[Lib.decDigits];split<;>simp
theorem QnP:∀{l:List UInt8} {a:Nat},(∀c∈l,Qnq c=true)→∀k,(dgV l (a,k)).1<18446744073709551616→Lib.parseUint10 a l= .ok (dgV l (a,k)).1
 | [],a,_,k,_=>rfl
 | c::r,a,h,k,hl=>by
  have hc:=h c (by simp)
  have hc2:=hc
  simp only[Qnq,Bool.and_eq_true,decide_eq_true_eq]at hc2
  have hr:∀c∈r,Qnq c=true:=fun x hx=>h x (by simp[hx])
  have mono:∀{l:List UInt8} {z:Nat×Nat},(∀c∈l,Qnq c=true)→z.1≤(dgV l z).1:=by
   intro l;induction l with
   | nil=>intro z _;exact Nat.le_refl _
   | cons x l ih=>
    intro z hx;have h1:=hx x (by simp)
    simp only[dgV,h1,if_true]
    have:=@ih (z.1*10+(x.toNat-48),z.2+1) fun c hc=>hx c (by simp[hc])
    dsimp only at this;omega
  simp only[dgV,hc,if_true]at hl ⊢
  have hm:=@mono r (a*10+(c.toNat-48),k+1) hr;dsimp only at hm;rw[Lib.parseUint10,if_pos hc2,if_neg (by omega),if_neg (by omega)]
  exact QnP hr (k+1) hl
theorem Qp4{v:Int}(h1: -999999999≤v)(h2:v≤999999999):Lib.atoiAll (Lib.itoa v)= .ok v:=by
 have key:∀u:Nat,u≤999999999→Lib.parseMag (Lib.decDigits u)= .ok u:=fun u hu=>by
  unfold Lib.parseMag;rw[if_neg Qv0];have:=QnP (l:=Lib.decDigits u) (a:=0) QcG 0 (by rw[Qi6];dsimp only;omega)
  rw[Qi6]at this;exact this
 unfold Lib.itoa;split
 ·rename_i hneg
  have e:(45:UInt8).toNat=45:=rfl
  simp only[Lib.atoiAll,e,key v.natAbs (by omega),or_true,if_true]
  rw[if_neg (by simp),if_neg (by simp;omega)]
  simp;omega
 ·rename_i hpos
  obtain⟨u,rfl⟩:=Int.eq_ofNat_of_zero_le (show 0≤v by omega)
  rw[Int.toNat_natCast];have hd:=@QcG u
  have hk:=key u (by omega)
  cases hc:Lib.decDigits u with
  | nil=>exact absurd hc Qv0
  | cons c r=>
   have hdc:=hd c (by rw[hc];simp)
   simp only[Qnq,Bool.and_eq_true,decide_eq_true_eq]at hdc
   rw[hc]at hk;have n1:¬(c.toNat=43∨c.toNat=45):=by omega
   have n2:¬c.toNat=45:=by omega
   simp only[Lib.atoiAll,if_neg n1]
   rw[hk];dsimp only;rw[if_neg (by omega),if_neg (by omega),if_neg n2]
def QuY(n:Int):ByteArray:=⟨(Lib.itoa n).toArray⟩
def spN(l:List UInt8):Int:=if l.head? =some 45 then -((dgV (l.take 11) (0,0)).1:Int)else(dgV (l.take 11) (0,0)).1
def spF(l:List UInt8):Int×Bool:=
 if 9<(dgV (l.take 11) (0,0)).2∨10<l.length∨Lib.itoa (spN l)≠l then(0,false)else(spN l,true)
theorem Qe6{l:List UInt8}{v:Int}:spF l=(v,true)↔(Lib.itoa v=l∧ -999999999≤v∧v≤999999999):=by
 constructor
 ·intro h
  unfold spF at h;split at h
  ·cases h
  ·rename_i hn
   simp only[not_or,Nat.not_lt,Decidable.not_not]at hn
   obtain⟨h1,h2,h3⟩:=hn;simp only[Prod.mk.injEq,and_true]at h
   have hlt:=@Qv2 (l.take 11) (0,0) (by decide)
   have h9:(10:Nat)^(dgV (l.take 11) (0,0)).2≤10^9:=Nat.pow_le_pow_right (by decide) h1
   have h9':(10:Nat)^9=1000000000:=by decide
   rw[←h];refine⟨h3,?_⟩
   unfold spN;split<;>omega
 ·rintro⟨rfl,h1,h2⟩
  have hu:v.natAbs<10^(8+1):=by
    have:(10:Nat)^(8+1)=1000000000:=by decide
    omega
  have hl:=QlK hu
  unfold spF
  by_cases hneg:v<0
  ·have e:Lib.itoa v=45::Lib.decDigits v.natAbs:=by unfold Lib.itoa;rw[if_pos hneg]
   have e1:(Lib.itoa v).take 11=45::Lib.decDigits v.natAbs:=by rw[e];exact List.take_of_length_le (by simp;omega)
   have e2:dgV ((Lib.itoa v).take 11) (0,0)=(v.natAbs,(Lib.decDigits v.natAbs).length):=by
    rw[e1];have:Qnq 45=false:=by decide
    rw[dgV,this];exact Qi6
   have e3:(Lib.itoa v).head? =some 45:=by rw[e];rfl
   have e4: -((v.natAbs:Nat):Int)=v:=by omega
   have e5:spN (Lib.itoa v)=v:=by unfold spN;rw[e2,if_pos e3];exact e4
   rw[e2,e5,if_neg];have:(Lib.itoa v).length≤10:=by rw[e];simp;omega
   simp only[not_or,Nat.not_lt,Decidable.not_not]
   exact⟨by omega,this,trivial⟩
  ·have e:Lib.itoa v=Lib.decDigits v.natAbs:=by unfold Lib.itoa;rw[if_neg hneg];congr 1;omega
   have e1:(Lib.itoa v).take 11=Lib.decDigits v.natAbs:=by rw[e];exact List.take_of_length_le (by omega)
   have e2:dgV ((Lib.itoa v).take 11) (0,0)=(v.natAbs,(Lib.decDigits v.natAbs).length):=by rw[e1];exact Qi6
   have e3:(Lib.itoa v).head? ≠some 45:=by
    rw[e];cases hc:Lib.decDigits v.natAbs with
    | nil=>simp
    | cons c r=>
     have:=@QcG v.natAbs c (by rw[hc];simp)
     intro h;simp only[List.head?_cons,Option.some.injEq]at h
     subst h;exact absurd this (by decide)
   have e4:((v.natAbs:Nat):Int)=v:=by omega
   have e5:spN (Lib.itoa v)=v:=by unfold spN;rw[e2,if_neg e3];exact e4
   rw[e2,e5,if_neg];simp only[not_or,Nat.not_lt,Decidable.not_not]
   exact⟨by omega,by rw[e];omega,trivial⟩
theorem QhF{l:List UInt8}:spF l=(0,false)∨∃v,spF l=(v,true):=by
 unfold spF;split
 ·exact .inl rfl
 ·exact .inr ⟨_,rfl⟩
theorem Qvo{l:List UInt8}:spF l=match Lib.atoiAll l with
  | .ok v=>if(Lib.itoa v=l∧ -999999999≤v∧v≤999999999)then(v,true)else(0,false)
  | _=>(0,false):=by
 rcases @QhF l with h|⟨v,h⟩
 ·rw[h]
  split
  ·rename_i v ha
   split
   ·rename_i hv
    rw[Qe6.2 hv]at h;cases h
   ·rfl
  ·rfl
 ·have hv:=Qe6.1 h
  have ha:=Qp4 hv.2.1 hv.2.2
  rw[hv.1]at ha;rw[h,ha];dsimp only;rw[if_pos hv]
end Go.Own

namespace Go.Own
open Go Go.Proofs
attribute [local go_sem] Tryz.results118
def Qw5:Qb:=⟨[],false,fun
 | [.one (.sl 1 l),.one (.v (.int .i64 n))]=>some (WfI l,[⟨false,[.d (.v (.bool ((unI l).contains n)))]⟩],[])
 | _=>none⟩
attribute [local go_sem] Qw5
theorem QeG{xs:List Int}{i:Nat}(h:i<xs.length)(n:Int):(xs.drop i).contains n=(n==xs.getD i 0||(xs.drop (i+1)).contains n):=by
 rw[QaX h 0];rfl
theorem Qri:Qa E0 118 Qw5:=by
 refine QV (E:=E0) (T:=mkT Tryz.prog [] false (fun _=>false) true (fun _=>false)) (Qf (E:=E0) .nil) (fn:=Tryz.f118) Tryz.func118 (by kernel_rfl) rfl Qe (by kernel_rfl) rfl ?_
 intro args p rs ms hr;unfold Qw5 at hr;dsimp only at hr;split at hr;rotate_left
 ·cases hr
 rename_i l n;cases hr;refine⟨rfl,rfl,nLe rfl,?_⟩
 have hm:=mxE;intro h1 bs;obtain⟨xs,rfl,hx⟩:=h1.ex;clear h1;rw[Qay];(repeat' first|refine gA fun _=>?_|apply fkI<;>intro hb<;>try simp only[ew]at hb|simp only[go_sem,simprocAttr, *])
 refine lpI {ι:=Nat,rs:=[(4,5),(6,18)],mods:=[(5,fun i=> .one (.d (.v (.int .i64 i))))],boxes:=[],arrs:=[],ok:=fun i=>i≤xs.length∧(xs.drop i).contains n=xs.contains n,mu:=fun i=>xs.length-i} rfl 0 ⟨Nat.zero_le _,rfl⟩ ?_ fun i hi=>?_
 ·exact gQ
 ·dsimp only at i hi
  obtain⟨hi,ht⟩:=hi;(repeat' first|refine gA fun _=>?_|apply fkI<;>intro hb<;>try simp only[ew]at hb|simp only[go_sem,simprocAttr, *])
  ·have e:=‹xs.getD i 0=n›
   rw[←ht,QeG (by omega),e];simp
  ·have e:=‹¬xs.getD i 0=n›
   refine lpN (i+1) ⟨by omega,?_⟩ (by dsimp only;omega) ?_
   ·rw[←ht,QeG (i:=i) (by omega),beq_false_of_ne (fun h=>e h.symm)];rfl
   ·exact gQ
  ·rw[←ht,List.drop_of_length_le (by omega)];rfl
def QCl(rs:List (List Int))(a:Nat):List Int:=rs.map fun r=>r.getD a 0
theorem Qqz{c:Int}{rs:List (List Int)}{a:Int}(ht:QC c rs=true)(hi:inB a 0 (c-1)=true):∃a' c':Nat,a=a'∧c=c'∧a'<c'∧rs.length≤40∧∀i,i<rs.length→(rs.getD i []).length=c':=by
 obtain⟨a',b',c',h1,h2,h3,h4,h5,h6,h7⟩:=QoG (c:=c) (rs:=rs) (a:=a) (b:=a) (by rw[QmX,ht,hi];rfl)
 exact⟨a',c',h1,h3,h4,h6,h7⟩
end Go.Own

namespace Go.Own
open Go Go.Proofs
attribute [local go_sem] Tryz.results145
theorem Qb0{xs:List Int}:(∀e∈iL xs,∀x∈e,Qau x)↔True:=by
 refine⟨fun _=>trivial,fun _ e he x hx=>?_⟩
 obtain⟨n,_,rfl⟩:=List.mem_map.1 he;simp at hx
 subst hx;trivial
def Qdi:Qb:=⟨[],false,fun
 | [.one (.sl 1 l)]=>some (WfI l∧l.length≤16777216,[⟨false,[.own 1 l 1]⟩],[])
 | _=>none⟩
attribute [local go_sem] Qdi
theorem Qgl:Qa E0 145 Qdi:=by
 refine QV (E:=E0) (T:=mkT Tryz.prog [] false (fun _=>false) true (fun _=>false)) (Qf (E:=E0) .nil) (fn:=Tryz.f145) Tryz.func145 (by kernel_rfl) rfl Qe (by kernel_rfl) rfl ?_
 intro args p rs ms hr;unfold Qdi at hr;dsimp only at hr;split at hr;rotate_left
 ·cases hr
 rename_i l;cases hr;refine⟨rfl,rfl,nLe rfl,?_⟩
 have hm:=mxE;rintro⟨h1,h2⟩ bs;obtain⟨xs,rfl,hx⟩:=h1.ex;clear h1;rw[Qo]at h2;(repeat' first|refine gA fun _=>?_|apply fkI<;>intro hb<;>try simp only[ew,Qb0]at hb|simp only[go_sem,simprocAttr, *,Qb0])
theorem QfO{rs:List (List Int)}{r:List Int}:sL rs++[[D.sl 1 (iL r)]]=sL (rs++[r]):=by simp[sL]
end Go.Own
