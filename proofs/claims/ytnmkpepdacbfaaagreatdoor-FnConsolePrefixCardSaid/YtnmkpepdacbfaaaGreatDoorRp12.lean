/- Contracts. Conditions: as stated. -/
import Derived.Test.YtnmkpepdacbfaaaGreatDoorRp11
set_option linter.all false
set_option maxRecDepth 20000
set_option maxHeartbeats 4000000
namespace Go.Own
open Go Go.Proofs
section
attribute [local go_sem] QcQ Qol Tryz.results71 cuO rI rB cuP QaK QZ QjD
def QmH(wide:Int):Dr Int:=fun bs s=>(if(QjV 12 bs (Qp wide bs s).2).1 then -1 else(Qp wide bs s).1,(QjV 12 bs (Qp wide bs s).2).2)
def Qgk(wide:Int):Nat→Dr (List Int)
 | 0=>fun _ s=>([],s)
 | n+1=>fun bs s=>((Qgk wide n bs s).1++[(QmH wide bs (Qgk wide n bs s).2).1],(QmH wide bs (Qgk wide n bs s).2).2)
theorem Qia{wide:Int}{bs:List Int}{s:Cu}:∀{n:Nat},(Qgk wide n bs s).1.length=n
 | 0=>rfl
 | n+1=>by simp[Qgk,@Qia wide bs s n]
theorem Qos{wide:Int}{bs:List Int}{s:Cu}(h:0<wide): -1≤(QmH wide bs s).1∧(QmH wide bs s).1<wide:=by
 have:=@Q2 wide bs s h
 unfold QmH;dsimp only;split<;>omega
theorem Qg9{wide:Int}{bs:List Int}{s:Cu}(h:0<wide):∀{n:Nat},∀v∈(Qgk wide n bs s).1,-1≤v∧v<wide
 | 0,v,hv=>nomatch hv
 | n+1,v,hv=>by
  rw[Qgk]at hv;rcases KG.1 hv with hv|hv
  ·exact Qg9 h v hv
  ·rw[KH]at hv;rw[hv];exact Qos h
def QDe:Qb:=⟨[true],false,fun
 | [.box [.sl 1 l,.v (.int .i64 i),.v (.int .i64 h)],.one (.v (.int .i64 n)),.one (.v (.int .i64 w))]=>some (WfB l∧0≤i∧n≤1000,[⟨false,[.own 1 (iL (Qgk w n.toNat (unB l) (i.toNat,h)).1) 1]⟩],cuO l (Qgk w n.toNat (unB l) (i.toNat,h)).2)
 | _=>none⟩
attribute [local go_sem] QDe
theorem QEc:Qa E0 71 QDe:=by
 refine Qaa (E:=E0) (T:=mkT Tryz.prog [(33,QcQ),(36,Qol)] false (fun _=>false) false (fun _=>false)) (Qd (E:=E0) (.cons QdA (.cons Qvf .nil))) rfl (fn:=Tryz.f71) Tryz.func71 kR rfl Qc kR rfl rfl (nLe rfl) ?_
 intro args p rs ms hr;unfold QDe at hr;dsimp only at hr;split at hr;rotate_left
 ·cases hr
 rename_i l i h n w;cases hr;refine⟨_,_,_,rfl,rfl,rfl,rfl,nLe rfl,?_⟩
 have hm:=mxE;rintro⟨h1,h2,h3⟩ bs0;obtain⟨bs,rfl,hx⟩:=h1.ex;clear h1;rw[QaK];obtain⟨i,rfl⟩:=KL h2;rw[KE];have e0:iL []=[]:=rfl
 have hl:=fun k=>@Qia w bs (i,h) k
 (repeat' first|refine gA fun _=>?_|apply fkI<;>intro hb<;>try simp only[ew,e0]at hb|simp only[go_sem,simprocAttr, *])
 refine lpI {ι:=Nat,rs:=[(9,10),(11,25)],mods:=[(8,fun k=> .one (.d (.v (.int .i64 k)))),(7,fun k=> .one (.own 1 (iL (Qgk w k bs (i,h)).1) 1))],boxes:=[(0,fun k=>cuP bs (Qgk w k bs (i,h)).2)],arrs:=[],ok:=fun k=>k≤n.toNat,mu:=fun k=>n.toNat-k} rfl 0 (KJ _) ?_ fun k hk=>?_
 ·have e1:Qgk w 0 bs (i,h)=([],(i,h)):=rfl
  clear hl;(repeat' first|refine gA fun _=>?_|apply fkI<;>intro hb<;>try simp only[ew,e0,e1]at hb|simp only[go_sem,simprocAttr, *])
  all_goals first|rfl|skip
 ·dsimp only at k hk
  have hk1:=hl k
  clear hl;have eS:Qgk w (k+1) bs (i,h)=((Qgk w k bs (i,h)).1++[(QmH w bs (Qgk w k bs (i,h)).2).1],(QmH w bs (Qgk w k bs (i,h)).2).2):=rfl
  have eC:QmH w bs (Qgk w k bs (i,h)).2=(if(QjV 12 bs (Qp w bs (Qgk w k bs (i,h)).2).2).1 then -1 else(Qp w bs (Qgk w k bs (i,h)).2).1,(QjV 12 bs (Qp w bs (Qgk w k bs (i,h)).2).2).2):=rfl
  by_cases h5:((k:Nat):Int)<n
  ·generalize hR:Qgk w k bs (i,h)=R at hk1 eS eC
   generalize hB:Qp w bs R.2=B at eC;generalize hO:QjV 12 bs B.2=O at eC;have hm1:R.1.length≤maxLen:=by rw[hk1];exact KF (show k≤1000 by omega) (by decide)
   cases ho:O.1
   ·rw[ho,if_neg (by decide)]at eC
    rw[eC]at eS;clear eC;(repeat' first|refine gA fun _=>?_|apply fkI<;>intro hb<;>try simp only[ew,hR,hB,hO,ho,Qe5]at hb|simp only[go_sem,simprocAttr, *,ho,Qe5])
    refine lpQ (k+1) ?_
    (repeat' first|refine gA fun _=>?_|apply fkI<;>intro hb<;>try simp only[ew,eS,Qe5]at hb|simp only[go_sem,simprocAttr, *,Qe5])
    all_goals first|rfl|skip
   ·rw[ho,if_pos rfl]at eC
    rw[eC]at eS;clear eC;(repeat' first|refine gA fun _=>?_|apply fkI<;>intro hb<;>try simp only[ew,hR,hB,hO,ho,Qe5]at hb|simp only[go_sem,simprocAttr, *,ho,Qe5])
    refine lpQ (k+1) ?_
    (repeat' first|refine gA fun _=>?_|apply fkI<;>intro hb<;>try simp only[ew,eS,Qe5]at hb|simp only[go_sem,simprocAttr, *,Qe5])
    all_goals first|rfl|skip
  ·have e5:n.toNat=k:=by omega
   rw[e5];clear eS eC;generalize hR:Qgk w k bs (i,h)=R at hk1;(repeat' first|refine gA fun _=>?_|apply fkI<;>intro hb<;>try simp only[ew,hR]at hb|simp only[go_sem,simprocAttr, *])
   all_goals first|rfl|skip
theorem QnF{rs:List (List Int)}{r:List Int}:sL rs++[[D.sl 1 (iL r)]]=sL (rs++[r]):=by simp[sL]
theorem Ql4{rs:List (List Int)}{r:List Int}{d:List D}:(sL (rs++[r])).getD rs.length d=[D.sl 1 (iL r)]:=by simp[sL,KD]
theorem QDD{xs:List Int}:∀e∈iL xs,∀x∈e,QaO x:=by
 intro e he x hx;obtain⟨n,_,rfl⟩:=KQ.1 he;rw[KH]at hx;rw[hx];trivial
theorem Qlu{xs:List Int}:(∀e∈iL xs,∀x∈e,QaO x)↔True:=⟨fun _=>trivial,fun _=>QDD⟩
end
section
attribute [local go_sem] QAr QrO Tryz.results67
theorem QwJ:∀l x:Fin 32,(QV .and .i64 ((x.val:Nat):Int) ((l.val:Nat):Int)==((l.val:Nat):Int))=Qab ((l.val:Nat):Int) ((x.val:Nat):Int):=by decide+kernel
theorem QwI{l x:Int}(hl:R5 l)(hx:R5 x):(QV .and .i64 x l==l)=Qab l x:=by
 obtain⟨l,rfl⟩:=hl.fin;obtain⟨x,rfl⟩:=hx.fin;exact QwJ l x
theorem Qlt{xs ys:List Int}:iL xs++iL ys=iL (xs++ys):=by simp[iL]
def QAp:Qb:=⟨[],false,fun
 | [.agg [.v (.int .i64 c),.sl 1 t],.one (.v (.int .i64 m)),.one (.v (.int .i64 set))]=>some (WfS t∧QP c (unS t)=true∧QN m=true∧Ql c set=true,[⟨false,[.own 1 (sL (ouK (sam c.toNat (unS t) m set) (unS t).length (unS t).length).1) 1]⟩],[])
 | _=>none⟩
attribute [local go_sem] QAp
theorem QtR:Qa E0 67 QAp:=by
 refine QG (E:=E0) (T:=mkT Tryz.prog [(118,QAr),(79,QrO)] false (fun d=>d==54) true (fun _=>false)) (Qd (E:=E0) (.cons Qux (.cons Qnh .nil))) (fn:=Tryz.f67) Tryz.func67 kR rfl Qc kR rfl ?_
 intro args p rs ms hr;unfold QAp at hr;dsimp only at hr;split at hr;rotate_left
 ·cases hr
 rename_i c t m set;cases hr;refine⟨rfl,rfl,nLe rfl,?_⟩
 have hm:=mxE;rintro⟨h1,ht,hmo,hat⟩ bs;obtain⟨rs,rfl,hx,hy⟩:=h1.ex;clear h1;rw[QB]at ht ⊢;have hs5:R5 set:=by have:=Qq hat;exact⟨this.2.2.1,this.2.2.2⟩
 have ht0:=ht
 obtain⟨C,rfl,c1,c5,h40,hlen⟩:=QQ ht;rw[KE];have hS:=@Qpf C rs m set c5 hs5
 have hsam:∀i j,(QV .and .i64 (agL m (rs.getD i []) (rs.getD j []) C) set==set)=sam C rs m set i j:=fun i j=>QwI hs5 (Qbq c5)
 generalize hSS:sam C rs m set=S at hS hsam ⊢;have e0:sL []=[]:=rfl
 have e1:iL []=[]:=rfl
 have hol:=fun n=>@QeV S rs.length n
 have hdl:=fun n (hn:n≤rs.length)=>Qvp hS hn
 clear ht hlen;refine gR ?_
 refine lpI {ι:=Nat,rs:=[(10,12),(14,58)],mods:=[(9,fun i=> .one (.d (.v (.int .i64 i)))),(7,fun i=> .one (.own 1 (sL (ouK S rs.length i).1) 1)),(8,fun i=> .one (.own 1 (iL (ouK S rs.length i).2) 1))],boxes:=[(3,fun _=>[.d (.v (.int .i64 C)),.d (.sl 1 (sL rs))])],arrs:=[],ok:=fun i=>i≤rs.length,mu:=fun i=>rs.length-i} rfl 0 (KJ _) ?_ fun i hi=>?_
 ·have e2:ouK S rs.length 0=([],[]):=rfl
  clear hol hdl hsam;exact gP
 ·dsimp only at i hi
  have o1:=hol i
  have o2:=hdl i hi
  have o3:(ouK S rs.length i).1.length≤maxLen:=KF (show _≤40 by omega) (by decide)
  have o4:(ouK S rs.length i).2.length≤maxLen:=KF (show _≤40 by omega) (by decide)
  clear hol hdl
  by_cases h5:i<rs.length
  ·have eS:ouK S rs.length (i+1)=if(ouK S rs.length i).2.contains ((i:Nat):Int)then ouK S rs.length i else if 1<(cl S rs.length i).length then((ouK S rs.length i).1++[cl S rs.length i],(ouK S rs.length i).2++cl S rs.length i)else ouK S rs.length i:=rfl
   generalize hP:ouK S rs.length i=P at o1 o2 o3 o4 eS;cases hc:P.2.contains ((i:Nat):Int)
   ·rw[hc,if_neg (by decide)]at eS
    have hkl:=fun t=>@Qla S i t
    refine gR ?_;intros
    refine lpI {ι:=Nat,rs:=[(28,48)],mods:=[(11,fun t=> .one (.d (.v (.int .i64 ((i+1+t:Nat):Int))))),(10,fun t=> .one (.own 1 (iL (clK S i t)) 1))],boxes:=[(3,fun _=>[.d (.v (.int .i64 C)),.d (.sl 1 (sL rs))])],arrs:=[(7,fun _=>(1,sL P.1,1)),(8,fun _=>(1,iL P.2,1))],ok:=fun t=>i+1+t≤rs.length,mu:=fun t=>rs.length-t} rfl 0 (by omega) ?_ fun t htt=>?_
    ·have e3:iL (clK S i 0)=[[D.v (.int .i64 i)]]:=rfl
     clear hkl hsam;exact gP
    ·dsimp only at t htt
     have k1:=hkl t
     clear hkl
     by_cases h6:i+1+t<rs.length
     ·have eK:clK S i (t+1)=clK S i t++(if S i (i+1+t)then [((i+1+t:Nat):Int)]else []):=rfl
      have hsk:=hsam i (i+1+t)
      clear hsam;have k2:(clK S i t).length≤41:=by omega
      have k3:(clK S i t).length≤maxLen:=KF k2 (by decide)
      generalize hQ:clK S i t=Q at k1 k2 k3 eK;generalize hK:i+1+t=K at h6 htt hsk eK;have eK1:((i+1+(t+1):Nat):Int)=((K:Nat):Int)+1:=by omega
      cases hb:S i K
      ·rw[hb,if_neg (by decide),KM]at eK
       refine gR ?_;intros
       refine lpQ (t+1) ?_
       exact gP
      ·rw[hb,if_pos rfl]at eK
       have q0:=@Qe5;refine gR ?_;clear q0;intros
       refine lpQ (t+1) ?_
       have q0:=@Qe5;exact gP
     ·have e6:i+1+t=rs.length:=by omega
      have ecl:clK S i t=cl S rs.length i:=by unfold cl;congr 1;omega
      rw[ecl]at k1;have k3:(cl S rs.length i).length≤41:=by omega
      have k4:(cl S rs.length i).length≤maxLen:=KF k3 (by decide)
      clear hsam;generalize hQ:cl S rs.length i=Q at k1 k3 k4 eS ecl
      by_cases h7:1<Q.length
      ·have d7:decide ((Q.length:Int)>1)=true:=KZ (by omega)
       rw[if_pos h7]at eS;have eS1:=congrArg Prod.fst eS
       have eS2:=congrArg Prod.snd eS
       dsimp only at eS1 eS2;clear eS;have q0:=@QnF;have q1:=@Qlu;have q2:=@Ql4;have q3:=@Qlt;refine gR ?_;clear q0 q1 q2 q3;intros
       refine lpQ (i+1) ?_
       have q0:=@QnF;have q1:=@Qlu;have q2:=@Ql4;have q3:=@Qlt;exact gP
      ·have d7:decide ((Q.length:Int)>1)=false:=KW (by omega)
       rw[if_neg h7]at eS;refine gR ?_
       refine lpQ (i+1) ?_
       exact gP
   ·rw[hc,if_pos rfl]at eS
    clear hsam;refine gR ?_;intros
    refine lpQ (i+1) ?_
    exact gP
  ·have e5:i=rs.length:=by omega
   subst e5;clear hsam;exact gQ
end
attribute [local go_sem] QdB QhO QAp QrO Tryz.results125
def Qws(rs:List (List Int))(m r:Int)(x y:Int):Bool:=eqc m ((rs.getD x.toNat []).getD r.toNat 0) ((rs.getD y.toNat []).getD r.toNat 0)
def QhC(c:Int)(rs:List (List Int))(m l:Int):List (List Int):=(ouK (sam c.toNat rs m l) rs.length rs.length).1
def QkM(c:Int)(rs:List (List Int))(m l r:Int):Int:=if QaY c rs m l r then QlY (Qws rs m r) (QhC c rs m l) (QhC c rs m l).length else -1
def QFY(N:Nat)(xs:List Int):Prop:=xs.length≤N∧xs.Nodup∧∀k,k<xs.length→0≤xs.getD k 0∧xs.getD k 0<N
theorem QiE{c:Int}{rs:List (List Int)}{m l:Int}(hc:c.toNat≤5)(hl:R5 l):(QhC c rs m l).length≤rs.length∧Qjz (QhC c rs m l)≤rs.length∧∀i,i<(QhC c rs m l).length→QFY rs.length ((QhC c rs m l).getD i []):=by
 have hS:=@Qpf c.toNat rs m l hc hl
 unfold QhC;refine⟨QeV,by rw[QqV];exact Qvp hS (KP _),fun i hi=>?_⟩
 obtain⟨j,hj,e⟩:=Qvr (QE hi []);rw[e];have hk:(cl (sam c.toNat rs m l) rs.length j).length≤rs.length:=by
  unfold cl;have:=@Qla (sam c.toNat rs m l) j (rs.length-(j+1))
  omega
 refine⟨hk,QiC,fun k hk=>?_⟩
 have:=QE hk 0
 rw[Qhi hj]at this;rcases this with h|⟨q,h1,h2,_,h4⟩
 ·omega
 ·omega
theorem QvB{c:Int}{rs:List (List Int)}{m l r:Int}(h:QaY c rs m l r=true):0≤QkM c rs m l r∧QkM c rs m l r≤40:=by
 unfold QkM;rw[h,if_pos rfl];unfold QaY at h;simp only[KB]at h
 have ht:=h.1.1
 have hd:=h.2
 unfold QO at hd;simp only[KB]at hd
 have hl5:=Qq hd.1.2
 obtain⟨n,rfl,n1,n5,h40,_⟩:=QQ ht;obtain⟨f1,f2,f3⟩:=@QiE (n:Nat) rs m l (by rw[KE];exact n5) ⟨hl5.2.2.1,hl5.2.2.2⟩
 have:=@QlZ (Qws rs m r) (QhC (n:Nat) rs m l) (QhC (n:Nat) rs m l).length (KP _)
 rw[KR]at this;omega
def Qw3:Qb:=⟨[],false,fun
 | [.agg [.v (.int .i64 c),.sl 1 t],.one (.v (.int .i64 m)),.agg [.v (.int .i64 l),.v (.int .i64 r)]]=>some (WfS t∧ -9223372036854775808≤c∧c≤9223372036854775807,[⟨false,[.d (.v (.int .i64 (QkM c (unS t) m l r)))]⟩],[])
 | _=>none⟩
attribute [local go_sem] Qw3
theorem QB1:Qa E0 125 Qw3:=by
 refine QG (E:=E0) (T:=mkT Tryz.prog [(27,QdB),(82,QhO),(67,QAp),(79,QrO)] false (fun _=>false) true (fun _=>false)) (Qd (E:=E0) (.cons QdH (.cons Qfm (.cons QtR (.cons Qnh .nil))))) (fn:=Tryz.f125) Tryz.func125 kR rfl Qc kR rfl ?_
 intro args p rs ms hr;unfold Qw3 at hr;dsimp only at hr;split at hr;rotate_left
 ·cases hr
 rename_i c t m l r;cases hr;refine⟨rfl,rfl,nLe rfl,?_⟩
 have hm:=mxE;rintro⟨h1,hc1,hc2⟩ bs;obtain⟨rs,rfl,hx,hy⟩:=h1.ex;clear h1;rw[QB];cases hask:QaY c rs m l r
 ·have e:QkM c rs m l r= -1:=by unfold QkM;rw[hask,if_neg (by decide)]
  have e0:(!(QP c rs&&QN m)|| !QO c l r)=true:=by
   unfold QaY at hask;rw[←YS,hask];rfl
  rw[e];clear e hask;exact gP
 ·have e:QkM c rs m l r=QlY (Qws rs m r) (QhC c rs m l) (QhC c rs m l).length:=by unfold QkM;rw[hask,if_pos rfl]
  rw[e];clear e;have hask0:=hask
  unfold QaY at hask0;simp only[KB]at hask0
  obtain⟨⟨ht,hmo⟩,hd⟩:=hask0;have hd0:=hd
  unfold QO at hd;simp only[KB,Qj]at hd
  obtain⟨⟨hn,hat⟩,r0,r1⟩:=hd;have hl5:=Qq hat
  have e0:(!(QP c rs&&QN m)|| !QO c l r)=false:=by rw[ht,hmo,hd0];rfl
  have ht0:=ht
  obtain⟨C,rfl,c1,c5,h40,hlen⟩:=QQ ht;obtain⟨f1,f2,f3⟩:=@QiE (C:Nat) rs m l (by rw[KE];exact c5) ⟨hl5.2.2.1,hl5.2.2.2⟩
  obtain⟨r,rfl⟩:=KL r0;have hE:∀x y:Int,(QV .and .i64 ((agL m (rs.getD x.toNat []) (rs.getD y.toNat []) C).fdiv (2^r)) 1==1)=Qws rs m (r:Nat) x y:=fun x y=>by
   have h:=(@Qod m (rs.getD x.toNat []) (rs.getD y.toNat []) C c5).2 r (by omega)
   rw[KZ (show r<C by omega),KY]at h
   unfold Qws;rw[KE,←h];unfold Qu;rw[KE]
  have ecl:(ouK (sam C rs m l) rs.length rs.length).1=QhC (C:Int) rs m l:=by unfold QhC;rw[KE]
  generalize hCS:QhC (C:Int) rs m l=cs at f1 f2 f3 ecl ⊢;generalize hEE:Qws rs m (r:Nat)=E at hE ⊢;have hrl:=fun k (hk:k≤cs.length)=>@QlZ E cs k hk
  have htt:∀k,Qjz (cs.take k)≤40:=fun k=>by
   have:Qjz (cs.take k)≤Qjz cs:=by
    clear hrl f1 f2 f3 ecl hCS;induction cs generalizing k with
    | nil=>simp
    | cons x xs ih=>cases k with
     | zero=>simp[Qjz]
     | succ k=>rw[List.take_succ_cons,Qjz,Qjz];have:=ih k;omega
   omega
  have c40:cs.length≤maxLen:=KF (show cs.length≤40 by omega) (by decide)
  have crl:∀q∈cs,q.length≤maxLen:=fun q hq=>by
   obtain⟨i,hi,rfl⟩:=YA hq;have:=(f3 i hi).1
   simp only[KD,Kc hi,YF]at this
   exact KF (show _≤40 by omega) (by decide)
  clear hlen ht hn;refine gR ?_;intros
  refine lpI {ι:=Nat,rs:=[(10,14),(30,95)],mods:=[(9,fun i=> .one (.d (.v (.int .i64 i)))),(7,fun i=> .one (.d (.v (.int .i64 (QlY E cs i)))))],boxes:=[(3,fun _=>[.d (.v (.int .i64 C)),.d (.sl 1 (sL rs))]),(5,fun _=>[.d (.v (.int .i64 l)),.d (.v (.int .i64 (r:Nat)))])],arrs:=[(8,fun _=>(1,sL cs,2))],ok:=fun i=>i≤cs.length,mu:=fun i=>cs.length-i} rfl 0 (KJ _) ?_ fun i hi=>?_
  ·have e1:QlY E cs 0=0:=rfl
   clear hE f3 hrl htt;exact gP
  ·dsimp only at i hi
   have r2:=hrl i hi
   have r3:=htt i
   clear hrl htt
   by_cases h5:i<cs.length
   ·obtain⟨g1,g2,g3⟩:=f3 i h5
    clear f3;have eS:∀z:Int,QlY E cs i+((cs.getD i []).length:Int)-Qd0 E (cs.getD i []) (cs.getD i []).length=QlY E cs (i+1):=fun _=>by rw[QlY];omega
    have eS:=eS 0
    have hml:=fun p (hp:p≤(cs.getD i []).length)=>@Qh3 E (cs.getD i []) p hp
    have hcl:=fun p q=>@Qlb E (cs.getD i []) p q
    generalize hN:QlY E cs i=n0 at r2 eS;generalize hQ:cs.getD i []=Q at g1 g2 g3 eS hml hcl;have q40:Q.length≤40:=by omega
    have qml:Q.length≤maxLen:=KF q40 (by decide)
    refine gR ?_
    refine lpI {ι:=Nat,rs:=[(12,14),(36,86)],mods:=[(11,fun k=> .one (.d (.v (.int .i64 k)))),(10,fun k=> .one (.d (.v (.int .i64 (Qd0 E Q k)))))],boxes:=[(3,fun _=>[.d (.v (.int .i64 C)),.d (.sl 1 (sL rs))]),(5,fun _=>[.d (.v (.int .i64 l)),.d (.v (.int .i64 (r:Nat)))])],arrs:=[(8,fun _=>(1,sL cs,2))],ok:=fun k=>k≤Q.length,mu:=fun k=>Q.length-k} rfl 0 (KJ _) ?_ fun k hk=>?_
    ·have e1:Qd0 E Q 0=0:=rfl
     clear hE hml hcl;exact gP
    ·dsimp only at k hk
     have m2:=hml k hk
     clear hml
     by_cases h6:k<Q.length
     ·have eM:Qd0 E Q (k+1)=max (Qd0 E Q k) (Qki E Q k Q.length):=rfl
      have g4:=g3 k h6
      have hclk:=fun q=>hcl k q
      clear hcl;generalize hM:Qd0 E Q k=m0 at m2 eM;refine gR ?_
      refine lpI {ι:=Nat,rs:=[(45,83)],mods:=[(13,fun j=> .one (.d (.v (.int .i64 j)))),(12,fun j=> .one (.d (.v (.int .i64 (Qki E Q k j)))))],boxes:=[(3,fun _=>[.d (.v (.int .i64 C)),.d (.sl 1 (sL rs))]),(5,fun _=>[.d (.v (.int .i64 l)),.d (.v (.int .i64 (r:Nat)))])],arrs:=[(8,fun _=>(1,sL cs,2))],ok:=fun j=>j≤Q.length,mu:=fun j=>Q.length-j} rfl 0 (KJ _) ?_ fun j hj=>?_
      ·have e1:Qki E Q k 0=1:=rfl
       clear hE hclk;exact gP
      ·dsimp only at j hj
       have m3:=hclk j
       clear hclk
       by_cases h7:j<Q.length
       ·have g5:=g3 j h7
        have eC:Qki E Q k (j+1)=Qki E Q k j+(if(j !=k&&E (Q.getD k 0) (Q.getD j 0))then 1 else 0):=rfl
        have hEk:=hE (Q.getD k 0) (Q.getD j 0)
        clear hE;generalize hc0:Qki E Q k j=n1 at m3 eC
        by_cases e:j=k
        ·have e1:(((j:Nat):Int)!=((k:Nat):Int))=false:=by rw[e];simp
         have e2:(j !=k)=false:=by rw[e];simp
         rw[e2,KT,if_neg (by decide),Int.add_zero]at eC
         clear e2 e;generalize hx0:Q.getD k 0=x at g4 g5 hEk;generalize hy0:Q.getD j 0=y at g5 hEk;have q0:=@Qi;refine gR ?_;clear q0;intros
         all_goals (try (refine lpQ (j+1) ?_))
         all_goals
          exact gP
         all_goals first|rfl|skip
        ·have e1:(((j:Nat):Int)!=((k:Nat):Int))=true:=by rw[bne_iff_ne];omega
         have e2:(j !=k)=true:=by rw[bne_iff_ne];exact e
         rw[e2,KY]at eC;clear e2 e;generalize hx0:Q.getD k 0=x at g4 hEk eC;generalize hy0:Q.getD j 0=y at g5 hEk eC;cases hb:E x y
         ·rw[hb,if_neg (by decide),Int.add_zero]at eC
          rw[hb]at hEk;have q0:=@Qi;refine gR ?_;clear q0;intros
          refine lpQ (j+1) ?_
          exact gP
         ·rw[hb,if_pos rfl]at eC
          rw[hb]at hEk;have q0:=@Qi;refine gR ?_;clear q0;intros
          refine lpQ (j+1) ?_
          exact gP
       ·have e7:j=Q.length:=by omega
        subst e7;clear hE g3;refine gR ?_;intros
        refine lpQ (k+1) ?_
        exact gP
     ·have e6:k=Q.length:=by omega
      subst e6;clear hE hcl g3;refine gR ?_;intros
      refine lpQ (i+1) ?_
      exact gP
   ·have e5:i=cs.length:=by omega
    subst e5;clear hE f3;exact gQ
end Go.Own
