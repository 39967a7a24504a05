/- Contracts. Conditions: as stated. -/
import Derived.Test.YtnmkpepdacbfaaaGreatDoorRp39
set_option linter.all false
set_option maxRecDepth 20000
set_option maxHeartbeats 4000000
namespace Go.Own
open Go Go.Proofs
def cln(s:ByteArray):Prop:=∀b∈s.data.toList,b≠10
theorem Qa4{a b:ByteArray}(h:cln a)(g:cln b):cln (a++b):=by
 unfold cln;rw[Qb2];intro x hx;rcases KG.1 hx with hx|hx
 ·exact h x hx
 ·exact g x hx
theorem Qay{s:ByteArray}(h:(s.data.toList.all fun b=>b !=10)=true):cln s:=fun b hb=>by
 have:=Kg.1 h b hb
 simpa using this
theorem QpL{l:List Int}(h:∀n∈l,11≤n∧n≤255):cln (Qca l):=by
 unfold cln;rw[Qd6];intro b hb;obtain⟨n,hn,rfl⟩:=KQ.1 hb;intro e;have h1:=h n hn
 have h2:=congrArg UInt8.toNat e
 rw[UInt8.toNat_ofNat']at h2;have h3:(10:UInt8).toNat=10:=rfl
 rw[h3,Nat.mod_eq_of_lt (by omega)]at h2
 omega
theorem QmK{x:Int}:cln (fa x):=QpL fun n hn=>by
 unfold faL at hn;split at hn
 ·split at hn
  ·simp only[KI,YK,or_false]at hn
   omega
  ·obtain⟨m,hm,rfl⟩:=KQ.1 hn
   have:=Qdm m hm
   (try dsimp only)
   omega
 ·cases hn
theorem QpM{q:Int×Int}:cln (fd q):=by
 unfold fd;split
 ·exact Qa4 (Qa4 QmK (Qay (by decide))) QmK
 ·exact Qay (by decide)
theorem QtO{sep:ByteArray}{ss:List ByteArray}(hs:cln sep)(h:∀s∈ss,cln s):cln (jb sep ss):=by
 unfold cln;rw[QlB];cases ss with
 | nil=>intro b hb;cases hb
 | cons x r=>
  rw[List.map_cons,Lib.join_cons];intro b hb;rcases KG.1 hb with hb|hb
  ·exact h x (by simp) b hb
  ·unfold Lib.joinTail at hb
   rw[Kf]at hb;obtain⟨l,hl,hb⟩:=hb;obtain⟨y,hy,rfl⟩:=KQ.1 hl;obtain⟨s,hs2,rfl⟩:=KQ.1 hy;rcases KG.1 hb with hb|hb
   ·exact hs b hb
   ·exact h s (by simp[hs2]) b hb
theorem QDl{ds:List (Int×Int)}:cln (dlL ds):=by
 unfold dlL;split
 ·exact Qay (by decide)
 ·exact QtO (Qay (by decide)) fun s hs=>by
   obtain⟨q,_,rfl⟩:=KQ.1 hs;exact QpM
theorem QpN{xs:List Int}:cln (slL xs):=by
 unfold slL;split
 ·exact Qay (by decide)
 ·exact QtO (Qay (by decide)) fun s hs=>by
   obtain⟨q,_,rfl⟩:=KQ.1 hs;exact QmK
theorem Quf:∀{k:Nat} {m:Int} {acc:List Int},(∀x∈acc,11≤x∧x≤255)→∀x∈dgF k m acc,11≤x∧x≤255
 | 0,m,acc,h=>by rw[dgF];exact h
 | k+1,m,acc,h=>by
  rw[dgF];split
  ·exact h
  ·refine Quf fun x hx=>?_
   rcases KI.1 hx with rfl|hx
   ·omega
   ·exact h x hx
theorem QiD{n:Int}:cln (Qg1 n):=QpL fun x hx=>by
 unfold QBy at hx;split at hx
 ·simp only[KI,YK,or_false]at hx
  omega
 ·exact Quf (fun x hx=>by cases hx) x hx
theorem Qev{n:Int}:(Qg1 n).size≤20:=by
 unfold Qg1 QBy;rw[QL];split
 ·decide
 ·have:=@QoF 20 n []
  simpa using this
theorem QDn{c:Int}{rs:List (List Int)}{m l r:Int}:cln (wlB c rs m l r):=by
 unfold wlB;split
 ·split
  ·exact Qa4 (Qa4 (Qa4 (Qa4 (Qa4 (Qa4 QpM (Qay (by decide))) QiD) (Qay (by decide))) QiD) (Qay (by decide))) QiD
  ·exact Qa4 QpM (Qay (by decide))
 ·exact Qay (by decide)
theorem QAD{n:Int}{ds:List (Int×Int)}:cln (QzI n ds):=by
 unfold QzI;split
 ·exact Qa4 (Qa4 (Qa4 (Qa4 (Qa4 (Qay (by decide)) QpN) (Qay (by decide))) QpN) (Qay (by decide))) QpN
 ·exact Qay (by decide)
theorem QDm{ds:List (Int×Int)}{s:Int×Int×Int}:cln (lnB ds s):=by
 unfold lnB;exact Qa4 (Qa4 (Qa4 (Qa4 QmK (Qay (by decide))) QpM) (Qay (by decide))) QmK
theorem QAB{n:Int}{ds:List (Int×Int)}{a b:Int}:∀s∈QnY n ds a b,cln s:=fun s hs=>by
 obtain⟨q,_,rfl⟩:=KQ.1 hs;exact QDm
theorem QAC{σ:Con}{ws:List ByteArray}:cln (Qgr σ ws).2:=by
 have hok:cln sOk:=Qay (by decide)
 have hno:cln sNo:=Qay (by decide)
 have hwh:cln Ql5:=Qay (by decide)
 unfold Qgr;split
 ·unfold QwS;split<;>assumption
 split
 ·exact(Qay (by decide):cln QvM)
 split
 ·unfold QvE;split<;>assumption
 split
 ·unfold QrT
  split
  ·split<;>assumption
  ·assumption
 split
 ·unfold QxJ;split<;>assumption
 split
 ·split
  ·unfold Qmy
   split
   ·exact QDn
   split
   ·split
    ·exact hno
    ·exact QiD
   split
   ·split
    ·split
     ·exact(Qay (by decide):cln QB7)
     ·exact QtO (Qay (by decide)) QAB
    ·exact hno
   ·exact hwh
  ·exact hwh
 split
 ·unfold Qmb
  repeat' split
  all_goals first|assumption|exact QDl|exact QpN|exact QiD|exact QAD
 ·exact hwh
theorem Quh{ds:List (Int×Int)}{B:Nat}(h:ds.length≤B):(dlL ds).size≤B*12+4:=by
 unfold dlL;split
 ·show 4≤_;omega
 ·have:=Qi3 (sep:=⟨#[32]⟩) (B:=11) (ss:=ds.map fd) (fun s hs=>by obtain⟨x,_,rfl⟩:=KQ.1 hs;exact Quo)
  rw[KV]at this;have e:(⟨#[32]⟩:ByteArray).size=1:=rfl
  rw[e]at this;omega
theorem QvW{xs:List Int}{B:Nat}(h:xs.length≤B):(slL xs).size≤B*6+7:=by
 unfold slL;split
 ·show 7≤_;omega
 ·have:=@QhY xs
  omega
theorem QuS{ds:List (Int×Int)}{s:Int×Int×Int}:(lnB ds s).size≤32:=by
 unfold lnB;have h1:=@QaP s.2.1
 have h2:=@QaP s.2.2
 have h3:=@Quo (ds.getD s.1.toNat (0,0))
 rw[Qe,Qe,Qe,Qe,Qgx,Qdk];omega
theorem Qp4{n:Int}{ds:List (Int×Int)}{a b:Int}:(jb ⟨#[59,32]⟩ (QnY n ds a b)).size≤204:=by
 have:=Qi3 (sep:=⟨#[59,32]⟩) (B:=32) (ss:=QnY n ds a b) (fun s hs=>by obtain⟨x,_,rfl⟩:=KQ.1 hs;exact QuS)
 have e:(⟨#[59,32]⟩:ByteArray).size=2:=rfl
 have h6:=@QoH n ds a b
 rw[e]at this;omega
theorem QCz{c:Int}{rs:List (List Int)}{m l r:Int}:(wlB c rs m l r).size≤100:=by
 have h1:=@Quo (l,r)
 unfold wlB;split
 ·split
  ·rename_i i k _
   have n1:=@Qev (i:Nat)
   have n2:=@Qev (k:Nat)
   have n3:=@Qev (QkM c rs m l r)
   rw[Qe,Qe,Qe,Qe,Qe,Qe,s11,s5,s9];omega
  ·rw[Qe,s6];omega
 ·exact KJ _
theorem QoW{c:Int}{rs:List (List Int)}{m:Int}:(Qqz c rs m).length≤100:=by
 unfold Qqz;split
 ·exact QdQ
 ·exact KJ _
theorem QvQ{n:Int}{ds:List (Int×Int)}:(QzI n ds).size≤2000:=by
 unfold QzI;split
 ·have k3:=(Qcl (@QcC n ds).1).2.2
  have s3:=(Qcl (@Qma n ds)).2.2
  have d3:=(Qcl (@Qlj n ds)).2.2
  rw[Qe,Qe,Qe,Qe,Qe,Qeo,Qdt,Qde];omega
 ·exact KJ _
theorem Qzg{σ:Con}(h:Qdf σ):σ.ds.length≤160:=by
 rcases h.1 with h|h
 ·rw[h.2.2.2.1];exact KJ _
 ·obtain⟨_,_,e⟩:=QaJ h
  rw[e];exact QcE.1
theorem Ql2{σ:Con}{ws:List ByteArray}(h:Qdf σ):(Qgr σ ws).2.size≤10000:=by
 have hok:sOk.size≤10000:=by decide
 have hno:sNo.size≤10000:=by decide
 have hwh:Ql5.size≤10000:=by decide
 unfold Qgr;split
 ·unfold QwS;split<;>assumption
 split
 ·exact(by decide:QvM.size≤10000)
 split
 ·unfold QvE;split<;>assumption
 split
 ·unfold QrT
  split
  ·split<;>assumption
  ·assumption
 split
 ·unfold QxJ;split<;>assumption
 split
 ·split
  ·unfold Qmy
   split
   ·exact KF QCz (by decide)
   split
   ·split
    ·exact hno
    ·exact KF Qev (by decide)
   split
   ·split
    ·split
     ·exact(by decide:QB7.size≤10000)
     ·exact KF Qp4 (by decide)
    ·exact hno
   ·exact hwh
  ·exact hwh
 split
 ·unfold Qmb
  have h1:=Quh (Qzg h)
  have h2:=QvW (@QoW σ.c σ.rs σ.m)
  have h3:=QvW (@Qd5 σ.c σ.rs σ.m).1
  have h4:=Quh (@Qdg σ.c σ.gv).2
  have h5:=@QvQ σ.c σ.gv
  have h6:=@Qev (σ.rs.length:Nat)
  repeat' split
  all_goals (try dsimp only)<;>first|assumption|omega
 ·exact hwh
section
attribute [local go_sem] Tryz.results18
def toS(l:List UInt8):ByteArray:=⟨l.toArray⟩
theorem Qmc{l:List UInt8}:(toS l).data.toList=l:=rfl
theorem Qmd{l:List UInt8}:(toS l).size=l.length:=rfl
theorem QoA{c:UInt8}{s:ByteArray}:Qa9 c s=(QeI c s.data.toList).map toS:=rfl
def QhR(c:UInt8)(l:List UInt8):List (List UInt8)×List UInt8:=l.foldl (fun s b=>if b=c then(s.1++[s.2],[])else(s.1,s.2++[b])) ([],[])
theorem Qt6{c b:UInt8}{l:List UInt8}:QhR c (l++[b])=if b=c then((QhR c l).1++[(QhR c l).2],[])else((QhR c l).1,(QhR c l).2++[b]):=by
 unfold QhR;rw[YW];rfl
theorem Qoz{c:UInt8}:∀{l:List UInt8} {acc:List (List UInt8)} {p:List UInt8},(l.foldl (fun(s:List (List UInt8)×List UInt8) b=>if b=c then(s.1++[s.2],[])else(s.1,s.2++[b])) (acc,p)).1++[(l.foldl (fun(s:List (List UInt8)×List UInt8) b=>if b=c then(s.1++[s.2],[])else(s.1,s.2++[b])) (acc,p)).2]=acc++QsN p (QeI c l)
 | [],acc,p=>by simp[QeI,QsN]
 | b::r,acc,p=>by
  rw[List.foldl_cons]
  by_cases h:b=c
  ·subst h
   rw[if_pos rfl,Qoz,Qed,Qpz QdG];simp[QsN]
  ·rw[if_neg h,Qoz,Qdh h,QwQ QdG]
theorem Qoy{c:UInt8}{l:List UInt8}:QeI c l=(QhR c l).1++[(QhR c l).2]:=by
 have:=@Qoz c l [] []
 rw[Qpz QdG]at this;simpa [QhR]using this.symm
theorem Qxy{c:UInt8}{l:List UInt8}:(QhR c l).1.length≤l.length∧(QhR c l).2.length≤l.length:=by
 have h1:=@QfW c l
 rw[Qoy,KN,List.length_singleton]at h1;refine⟨by omega,?_⟩
 exact QiK (c:=c) (l:=l) _ (by rw[Qoy];simp)
theorem QAI{c:UInt8}{s:ByteArray}{i:Nat}(h:i<s.size):QhR c (s.data.toList.take (i+1))=if s.data.toList.getD i 0=c then((QhR c (s.data.toList.take i)).1++[(QhR c (s.data.toList.take i)).2],[])else((QhR c (s.data.toList.take i)).1,(QhR c (s.data.toList.take i)).2++[s.data.toList.getD i 0]):=by
 rw[Qf (by rw[bsz];exact h) 0,Qt6]
def QmB:Qb:=⟨[],false,fun
 | [.one (.v (.string s)),.one (.v (.int .u8 b))]=>some (s.size≤1073741824∧0≤b∧b≤255,[⟨false,[.own 1 (tL (Qa9 (UInt8.ofNat b.toNat) s)) 1]⟩],[])
 | _=>none⟩
attribute [local go_sem] QmB
theorem QCq{a b:List UInt8}:toS a++toS b=toS (a++b):=QbG (by rw[Qb2];rfl)
theorem QoJ{s:ByteArray}{i:Nat}(h:i<s.size):s.extract i (i+1)=toS [s.data.toList.getD i 0]:=by
 refine QbG ?_
 have hi:i<s.data.size:=h
 simp[toS,ByteArray.data_extract,KD,hi,List.take_add_one,List.drop_take]
 rw[K4 hi];rfl
theorem QyV{s:ByteArray}{i:Nat}{b:Int}(h0:0≤b)(h1:b≤255):(Qdr s i==b)=(s.data.toList.getD i 0==UInt8.ofNat b.toNat):=by
 unfold Qdr;rw[KD];generalize (s.data.toList[i]?).getD 0=x;have hx:=x.toNat_lt
 have hb:(UInt8.ofNat b.toNat).toNat=b.toNat:=by rw[UInt8.toNat_ofNat'];omega
 rw[Kp,Kh,Kh,←UInt8.toNat_inj,hb];omega
attribute [local go_sem] Qa1 Qz QbD QbT
theorem QuM:Qa E0 18 QmB:=by
 refine QG (E:=E0) (T:=mkT Tryz.prog [] false (fun _=>false) true (fun _=>false)) (Qd (E:=E0) .nil) (fn:=Tryz.f18) Tryz.func18 kR rfl Qc kR rfl ?_
 intro args p rs ms hr;unfold QmB at hr;dsimp only at hr;split at hr;rotate_left
 ·cases hr
 rename_i s b;cases hr;refine⟨rfl,rfl,nLe rfl,?_⟩
 have hm:=mxE;rintro⟨h1,hb0,hb1⟩ bs;have hbc:=fun i=>@QyV s i b hb0 hb1
 generalize hc:UInt8.ofNat b.toNat=c at hbc ⊢;have e0:tL []=[]:=rfl
 have hl:=fun i=>@Qxy c (s.data.toList.take i)
 have hZ:Qa9 c s=(QhR c (s.data.toList.take s.size)).1.map toS++[toS (QhR c (s.data.toList.take s.size)).2]:=by
  rw[QoA,Kj (by rw[bsz];exact KP _),Qoy];simp
 (repeat' first|refine gA fun _=>?_|apply fkI<;>intro hb<;>try simp only[ew,e0]at hb|simp only[go_sem,simprocAttr, *,e0])
 refine lpI {ι:=Nat,rs:=[(9,31)],mods:=[(7,fun i=> .one (.d (.v (.int .i64 i)))),(5,fun i=> .one (.own 1 (tL ((QhR c (s.data.toList.take i)).1.map toS)) 1)),(6,fun i=> .one (.d (.v (.string (toS (QhR c (s.data.toList.take i)).2)))))],boxes:=[],arrs:=[],ok:=fun i=>i≤s.size,mu:=fun i=>s.size-i} rfl 0 (KJ _) ?_ fun i hi=>?_
 ·have e1:toS (QhR c (s.data.toList.take 0)).2=⟨#[]⟩:=rfl
  have e3:QhR c []=([],[]):=rfl
  have e4:toS []=⟨#[]⟩:=rfl
  clear hZ hl hbc;(repeat' first|refine gA fun _=>?_|apply fkI<;>intro hb<;>try simp only[ew,e1,e3,e4,e0,Kw,List.map_nil]at hb|simp only[go_sem,simprocAttr, *,e1,e3,e4,e0,Kw,List.map_nil])
  all_goals first|rfl|skip
 ·dsimp only at i hi
  obtain⟨l1,l2⟩:=hl i;rw[KO]at l1 l2;have hst:=@QAI c s i
  clear hl
  by_cases h5:i<s.size
  ·have hst:=hst h5
   have hq:=hbc i
   have hx:=QoJ h5
   clear hbc hZ;generalize hI:QhR c (s.data.toList.take i)=I at l1 l2 hst ⊢;generalize hB:s.data.toList.getD i 0=B at hst hq hx;have m1:I.1.length≤maxLen:=KF (show _≤1073741824 by omega) (by decide)
   have z1:(toS I.2).size≤1073741824:=by rw[Qmd];omega
   have z2:(toS [B]).size=1:=rfl
   clear hB;have ei:(((i:Nat):Int)+1).toNat=i+1:=by omega
   cases hbb:(B==c)
   ·have hne:¬B=c:=by simpa using hbb
    rw[if_neg hne]at hst;rw[hbb]at hq;have ea:=@QCq I.2 [B]
    (repeat' first|refine gA fun _=>?_|apply fkI<;>intro hb<;>try simp only[ew,hI,hq,ei,hx,ea,Qe,z2]at hb|simp only[go_sem,simprocAttr, *,hI,hq,ei,hx,ea,Qe,z2])
    refine lpN (i+1) (by omega) (by dsimp only;omega) ?_
    (repeat' first|refine gA fun _=>?_|apply fkI<;>intro hb<;>try simp only[ew,hI,ei,hx,hst,ea]at hb|simp only[go_sem,simprocAttr, *,hI,ei,hx,hst,ea])
   ·have hne:B=c:=by simpa using hbb
    rw[if_pos hne]at hst;rw[hbb]at hq;have es:tL (I.1.map toS)++[[D.v (.string (toS I.2))]]=tL ((I.1++[I.2]).map toS):=by simp[tL]
    have em:(I.1.map toS).length=I.1.length:=by simp
    have e1:toS []=⟨#[]⟩:=rfl
    (repeat' first|refine gA fun _=>?_|apply fkI<;>intro hb<;>try simp only[ew,hI,hq,es,em]at hb|simp only[go_sem,simprocAttr, *,hI,hq,es,em])
    refine lpN (i+1) (by omega) (by dsimp only;omega) ?_
    (repeat' first|refine gA fun _=>?_|apply fkI<;>intro hb<;>try simp only[ew,hI,hst,es,e1]at hb|simp only[go_sem,simprocAttr, *,hI,hst,es,e1])
  ·have e5:i=s.size:=by omega
   subst e5;clear hbc hst;generalize hI:QhR c (s.data.toList.take s.size)=I at l1 l2 hZ;have m1:I.1.length≤maxLen:=KF (show _≤1073741824 by omega) (by decide)
   have es:tL (I.1.map toS)++[[D.v (.string (toS I.2))]]=tL (I.1.map toS++[toS I.2]):=by simp[tL]
   have em:(I.1.map toS).length=I.1.length:=by simp
   (repeat' first|refine gA fun _=>?_|apply fkI<;>intro hb<;>try simp only[ew,hI,hZ,es,em]at hb|simp only[go_sem,simprocAttr, *,hI,hZ,es,em])
   all_goals first|rfl|skip
end
attribute [local go_sem] Tryz.results10 QaK QZ Qdz
theorem Qgd{n:Int}(h0:0≤n)(h1:n≤9223372036854775807):Qst n=Qg1 n:=(Qgc h0 h1).symm
theorem Qys{n:Int}(h0:n<0)(h1: -9223372036854775807≤n):Qst n=⟨#[45]⟩++Qca (dgF 20 (-n) []):=by
 rw[←QlT (by omega),Qgc (by omega) (by omega)]
 refine QbG ?_
 rw[Qb2];show Lib.itoa n=[45]++Lib.itoa (-n)
 unfold Lib.itoa;rw[if_pos h0,if_neg (by omega)]
 have:(-n).toNat=n.natAbs:=by omega
 rw[this];rfl
def QfP:Qb:=⟨[],false,fun
 | [.one (.v (.int .i64 n))]=>some (-1000000000000≤n∧n≤1000000000000,[⟨false,[.d (.v (.string (Qst n)))]⟩],[])
 | _=>none⟩
attribute [local go_sem] QfP
theorem QeL:Qa E0 10 QfP:=by
 refine QG (E:=E0) (T:=mkT Tryz.prog [] false (fun _=>false) true (fun _=>false)) (Qd (E:=E0) .nil) (fn:=Tryz.f10) Tryz.func10 kR rfl Qc kR rfl ?_
 intro args p rs ms hr;unfold QfP at hr;dsimp only at hr;split at hr;rotate_left
 ·cases hr
 rename_i k;cases hr;refine⟨rfl,rfl,nLe rfl,?_⟩
 have hm:=mxE;rintro⟨h1,h2⟩ bs
 by_cases hk:k=0
 ·subst hk
  have eb:(⟨#[48]⟩:ByteArray)=Qca [48]:=rfl
  have ew0:Qst 0=Qca [48]:=(Qgd (by omega) (by omega)).trans Qno
  rw[ew0];(repeat' first|refine gA fun _=>?_|apply fkI<;>intro hb<;>try simp only[ew,eb]at hb|simp only[go_sem,simprocAttr, *,eb])
  all_goals first|rfl|skip
 by_cases hp:0<k
 ·rw[Qgd (by omega) (by omega),QlT hk]
  have hk2:(k==0)=false:=KU.2 hk
  have hk3:decide (k<0)=false:=KW (by omega)
  have e0:(⟨#[]⟩:ByteArray)=Qca []:=rfl
  generalize hF:dgF 20 k []=F;(repeat' first|refine gA fun _=>?_|apply fkI<;>intro hb<;>try simp only[ew,hk2,hk3,e0]at hb|simp only[go_sem,simprocAttr, *,hk2,hk3,e0])
  refine lpI {ι:=Nat×Int×List Int,rs:=[(5,6),(10,27)],mods:=[(0,fun i=> .one (.d (.v (.int .i64 i.2.1)))),(3,fun i=> .one (.d (.v (.string (Qca i.2.2)))))],boxes:=[],arrs:=[],ok:=fun i=>((0≤i.2.1∧i.2.1≤1125899906842625)∧i.2.1<10^i.1)∧(i.1≤20∧i.2.2.length+i.1≤20)∧dgF i.1 i.2.1 i.2.2=F,mu:=fun i=>i.1} rfl (20,k,[]) ⟨⟨⟨by dsimp only;omega,by dsimp only;omega⟩,by dsimp only;omega⟩,⟨by dsimp only;omega,by simp⟩,hF⟩ ?_ ?_
  ·(repeat' first|refine gA fun _=>?_|apply fkI<;>intro hb<;>try simp only[ew,e0]at hb|simp only[go_sem,simprocAttr, *,e0])
   all_goals first|rfl|skip
  ·rintro⟨j,m,acc⟩ hi
   dsimp only at hi;obtain⟨⟨⟨m0,mK⟩,mj⟩,⟨j20,ja⟩,ht⟩:=hi;clear hF hk2 hk3
   by_cases h5:m>0
   ·have h5':(m !=0)=true:=by rw[bne_iff_ne];omega
    cases j with
    | zero=>exfalso;simp at mj;omega
    | succ j=>
     rw[Qp2 (by omega)]at ht
     rw[QE7]at mj;have mj2:m/10<10^j:=by
      generalize (10:Int)^j=p at mj;omega
     have e1:m.tmod 10=m%10:=Int.tmod_eq_emod_of_nonneg m0
     have e2:m.tdiv 10=m/10:=Int.tdiv_eq_ediv_of_nonneg m0
     have r0:0≤m%10:=by omega
     have r10:m%10<10:=by omega
     have r1:decide (m%10<0)=false:=KW (by omega)
     have ew:=Qwj r0 r10
     have eb:Qca [48+m%10]++Qca acc=Qca ((48+m%10)::acc):=by rw[Qcu];rfl
     (repeat' first|refine gA fun _=>?_|apply fkI<;>intro hb<;>try simp only[ew,e1,e2,r1,ew,eb,QL,h5']at hb|simp only[go_sem,simprocAttr, *,e1,e2,r1,ew,eb,QL,h5'])
     refine lpN (j,m/10,(48+m%10)::acc) ⟨⟨⟨by dsimp only;omega,by dsimp only;omega⟩,mj2⟩,⟨by dsimp only;omega,by dsimp only[List.length_cons];omega⟩,ht⟩ (by dsimp only;omega) ?_
     clear ht;(repeat' first|refine gA fun _=>?_|apply fkI<;>intro hb<;>try simp only[ew,e1,e2,ew,eb]at hb|simp only[go_sem,simprocAttr, *,e1,e2,ew,eb])
   ·have h5':(m !=0)=false:=by rw[bne_eq_false_iff_eq];omega
    have em:m=0:=by omega
    subst em;rw[QhU]at ht;subst ht;(repeat' first|refine gA fun _=>?_|apply fkI<;>intro hb<;>try simp only[ew,h5',QL]at hb|simp only[go_sem,simprocAttr, *,h5',QL])
    all_goals first|rfl|skip
 ·rw[Qys (by omega) (by omega)]
  have hk2:(k==0)=false:=KU.2 hk
  have hk3:decide (k<0)=true:=KZ (by omega)
  have e0:(⟨#[]⟩:ByteArray)=Qca []:=rfl
  have s45:ByteArray.size ⟨#[45]⟩=1:=rfl
  generalize hF:dgF 20 (-k) []=F;(repeat' first|refine gA fun _=>?_|apply fkI<;>intro hb<;>try simp only[ew,hk2,hk3,e0]at hb|simp only[go_sem,simprocAttr, *,hk2,hk3,e0])
  refine lpI {ι:=Nat×Int×List Int,rs:=[(5,6),(10,27)],mods:=[(0,fun i=> .one (.d (.v (.int .i64 (-i.2.1))))),(3,fun i=> .one (.d (.v (.string (Qca i.2.2)))))],boxes:=[],arrs:=[],ok:=fun i=>((0≤i.2.1∧i.2.1≤1125899906842625)∧i.2.1<10^i.1)∧(i.1≤20∧i.2.2.length+i.1≤20)∧dgF i.1 i.2.1 i.2.2=F,mu:=fun i=>i.1} rfl (20,-k,[]) ⟨⟨⟨by dsimp only;omega,by dsimp only;omega⟩,by dsimp only;omega⟩,⟨by dsimp only;omega,by simp⟩,hF⟩ ?_ ?_
  ·have ek: -(-k)=k:=by omega
   (repeat' first|refine gA fun _=>?_|apply fkI<;>intro hb<;>try simp only[ew,e0,ek]at hb|simp only[go_sem,simprocAttr, *,e0,ek])
   all_goals first|rfl|skip
  ·rintro⟨j,m,acc⟩ hi
   dsimp only at hi;obtain⟨⟨⟨m0,mK⟩,mj⟩,⟨j20,ja⟩,ht⟩:=hi;clear hF hk2 hk3
   by_cases h5:m>0
   ·have h5':(-m !=0)=true:=by rw[bne_iff_ne];omega
    cases j with
    | zero=>exfalso;simp at mj;omega
    | succ j=>
     rw[Qp2 (by omega)]at ht
     rw[QE7]at mj;have mj2:m/10<10^j:=by
      generalize (10:Int)^j=p at mj;omega
     have e1:(-m).tmod 10= -(m%10):=by rw[Int.neg_tmod,Int.tmod_eq_emod_of_nonneg m0]
     have e2:(-m).tdiv 10= -(m/10):=by rw[Int.neg_tdiv,Int.tdiv_eq_ediv_of_nonneg m0]
     have r0:0≤m%10:=by omega
     have r10:m%10<10:=by omega
     have ew:=Qwj r0 r10
     have eb:Qca [48+m%10]++Qca acc=Qca ((48+m%10)::acc):=by rw[Qcu];rfl
     by_cases hz:m%10=0
     ·have r1:decide (-(m%10)<0)=false:=KW (by omega)
      have z1:IntKind.wrap .u8 48=48:=rfl
      have eb0:Qca [48]++Qca acc=Qca (48::acc):=by rw[Qcu];rfl
      clear ew eb;(repeat' first|refine gA fun _=>?_|apply fkI<;>intro hb<;>try simp only[ew,e1,e2,r1,z1,eb0,QL,h5']at hb|simp only[go_sem,simprocAttr, *,e1,e2,r1,z1,eb0,QL,h5'])
      refine lpN (j,m/10,(48+m%10)::acc) ⟨⟨⟨by dsimp only;omega,by dsimp only;omega⟩,mj2⟩,⟨by dsimp only;omega,by dsimp only[List.length_cons];omega⟩,ht⟩ (by dsimp only;omega) ?_
      clear ht;(repeat' first|refine gA fun _=>?_|apply fkI<;>intro hb<;>try simp only[ew,e1,e2,z1,eb0]at hb|simp only[go_sem,simprocAttr, *,e1,e2,z1,eb0])
     ·have r1:decide (-(m%10)<0)=true:=KZ (by omega)
      have r2:0- -(m%10)=m%10:=by omega
      (repeat' first|refine gA fun _=>?_|apply fkI<;>intro hb<;>try simp only[ew,e1,e2,r1,ew,eb,QL,h5',r2]at hb|simp only[go_sem,simprocAttr, *,e1,e2,r1,ew,eb,QL,h5',r2])
      refine lpN (j,m/10,(48+m%10)::acc) ⟨⟨⟨by dsimp only;omega,by dsimp only;omega⟩,mj2⟩,⟨by dsimp only;omega,by dsimp only[List.length_cons];omega⟩,ht⟩ (by dsimp only;omega) ?_
      clear ht;(repeat' first|refine gA fun _=>?_|apply fkI<;>intro hb<;>try simp only[ew,e1,e2,ew,eb,r2]at hb|simp only[go_sem,simprocAttr, *,e1,e2,ew,eb,r2])
   ·have h5':(-m !=0)=false:=by rw[bne_eq_false_iff_eq];omega
    have em:m=0:=by omega
    subst em;rw[QhU]at ht;subst ht;(repeat' first|refine gA fun _=>?_|apply fkI<;>intro hb<;>try simp only[ew,h5',QL,Qe,s45]at hb|simp only[go_sem,simprocAttr, *,h5',QL,Qe,s45])
    all_goals first|rfl|skip
end Go.Own
