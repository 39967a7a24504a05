/- Own contracts. Conditions: as each theorem states them. -/
import Derived.Test.YtnmkpepdacbfaaaGreatDoorRr08
set_option linter.unusedSimpArgs false
set_option linter.unusedVariables false
set_option maxRecDepth 20000
set_option maxHeartbeats 2000000
namespace Go.Own
open Go Go.Proofs
def paN(s:ByteArray):Nat→Nat→Int×Bool
 | 0,_=>(0,false)
 | k+1,x=>if((fa ((x:Nat):Int)).toList==s.toList)=true then(((x:Nat):Int),true)else paN s k (x+1)
def paF(s:ByteArray):Int×Bool:=paN s 32 0
theorem QbC{a b:ByteArray}:(a.toList==b.toList)=true↔a=b:=by
 rw[beq_iff_eq,ByteArray.toList_eq,ByteArray.toList_eq];exact⟨Qa8,fun h=>by rw[h]⟩
theorem QkP{s:ByteArray}:∀{k x:Nat},(paN s k x=(0,false)∧∀y,x≤y→y<x+k→fa ((y:Nat):Int)≠s)∨∃y:Nat,x≤y∧y<x+k∧paN s k x=(((y:Nat):Int),true)∧fa ((y:Nat):Int)=s
 | 0,x=> .inl ⟨rfl,fun y h1 h2=>by omega⟩
 | k+1,x=>by
  rw[paN];split
  ·rename_i h
   exact .inr ⟨x,by omega,by omega,rfl,QbC.1 h⟩
  ·rename_i h
   rcases @QkP s k (x+1)with⟨h1,h2⟩|⟨y,h1,h2,h3,h4⟩
   ·refine .inl ⟨h1,fun y y1 y2=>?_⟩
    by_cases hy:y=x
    ·subst hy;intro e;exact h (QbC.2 e)
    ·exact h2 y (by omega) (by omega)
   ·exact .inr ⟨y,by omega,by omega,h3,h4⟩
theorem Qhu{s:ByteArray}:(paF s=(0,false)∧∀y:Nat,y<32→fa ((y:Nat):Int)≠s)∨∃y:Nat,y<32∧paF s=(((y:Nat):Int),true)∧fa ((y:Nat):Int)=s:=by
 rcases @QkP s 32 0 with⟨h1,h2⟩|⟨y,_,h2,h3,h4⟩
 ·exact .inl ⟨h1,fun y hy=>h2 y (by omega) (by omega)⟩
 ·exact .inr ⟨y,by omega,h3,h4⟩
def Qch(n:Int)(x y:Int×Bool):(Int×Int)×Bool:=
 if x.2&&y.2&&decide (((mem y.1).length:Int)=1)&&Q2 n x.1 ((mem y.1).getD 0 0)then((x.1,(mem y.1).getD 0 0),true)else((0,0),false)
def pdF(n:Int)(s:ByteArray):(Int×Int)×Bool:=
 if(QbO 62 s).length=2 then Qch n (paF ((QbO 62 s).getD 0 ⟨#[]⟩)) (paF ((QbO 62 s).getD 1 ⟨#[]⟩))else((0,0),false)
theorem QxC:∀x:Fin 32,(62:UInt8)∉(fa ((x.val:Nat):Int)).data.toList∧(fa ((x.val:Nat):Int)).data.toList≠[]:=by decide+kernel
theorem Qx6:∀y:Fin 32,(mem ((y.val:Nat):Int)).length=1→1*2^((mem ((y.val:Nat):Int)).getD 0 0).toNat=((y.val:Nat):Int):=by decide+kernel
theorem Qyg{n:Int}{s:ByteArray}{l r:ByteArray}{f:Bool}(h:Lib.cut s.data.toList [62]=(l.data.toList,r.data.toList,f)):
  pdF n s=if(Qch n (paF l) (paF r)).2&&((fd (Qch n (paF l) (paF r)).1).toList==s.toList)then Qch n (paF l) (paF r)else((0,0),false):=by
 have hno:∀{x:ByteArray} {y:Int×Bool},(Qch n y (paF x)).2=true→(62:UInt8)∉x.data.toList∧x.data.toList≠[]:=fun {x y} hx=>by
  rcases @Qhu x with⟨hp,_⟩|⟨z,hz,hp,he⟩
  ·unfold Qch at hx
   rw[hp]at hx;simp at hx
  ·rw[←he];exact QxC ⟨z,hz⟩
 have hp0:∀{x y:Int×Bool},(Qch n x y).2=false→Qch n x y=((0,0),false):=fun {x y} hx=>by
  unfold Qch at hx ⊢;split
  ·rename_i hc;rw[if_pos hc]at hx;cases hx
  ·rfl
 rcases @Qks 62 s.data.toList with⟨a,b,h1,h2,h3,h4⟩|⟨h1,h2,h3⟩
 ·rw[h]at h4
  simp only[Prod.mk.injEq]at h4
  obtain⟨rfl,rfl,_⟩:=h4
  by_cases hb:(62:UInt8)∈r.data.toList
  ·have e1:(Qch n (paF l) (paF r)).2=false:=by
    cases hq:(Qch n (paF l) (paF r)).2
    ·rfl
    ·exact absurd hb (hno hq).1
   rw[e1,Bool.false_and,if_neg (by decide)]
   unfold pdF;rw[if_neg];intro hl;unfold QbO at hl;rw[List.length_map,h3]at hl;rcases @Qks 62 r.data.toList with⟨a',b',_,_,h3',_⟩|⟨h1',_⟩
   ·rw[h3']at hl
    have:=@Qg1 62 b'
    cases hc:Qex 62 b' with
    | nil=>exact this hc
    | cons=>rw[hc]at hl;simp at hl
   ·exact h1' hb
  ·have hc:QbO 62 s=[l,r]:=by
    unfold QbO;rw[h3,QbT hb];rfl
   have e:pdF n s=Qch n (paF l) (paF r):=by unfold pdF;rw[hc];rfl
   rw[e];cases hq:(Qch n (paF l) (paF r)).2
   ·rw[Bool.false_and,if_neg (by decide),hp0 hq]
   ·have hfd:((fd (Qch n (paF l) (paF r)).1).toList==s.toList)=true:=by
     rw[QbC];unfold Qch at hq ⊢;split
     ·rename_i hcc
      simp only[Bool.and_eq_true,decide_eq_true_eq]at hcc
      obtain⟨⟨⟨c1,c2⟩,c3⟩,c4⟩:=hcc;rcases @Qhu l with⟨hp,_⟩|⟨x,hx,hpx,hex⟩
      ·rw[hp]at c1;cases c1
      ·rcases @Qhu r with⟨hp,_⟩|⟨y,hy,hpy,hey⟩
       ·rw[hp]at c2;cases c2
       ·rw[hpx]at c4 ⊢
        rw[hpy]at c3 c4 ⊢;dsimp only at c3 c4 ⊢;have hone:=Qx6 ⟨y,hy⟩ (by exact_mod_cast c3)
        dsimp only at hone;have hok:Qv5 (((x:Nat):Int),(mem ((y:Nat):Int)).getD 0 0)=true:=by
         simp only[Q2,Bool.and_eq_true,Qh]at c4
         have:=Qt c4.1.2
         have a31:Qd5 5=31:=by decide
         have c5:=c4.2
         have c6:=c4.1.1
         unfold Qv5 Qj;rw[a31];simp only[Bool.and_eq_true,Qh]
         omega
        unfold fd;rw[if_pos hok];dsimp only;rw[hone,hex,hey];apply Qa8
        rw[Qav,Qav,h2];simp
     ·rename_i hcc;rw[if_neg hcc]at hq;cases hq
    rw[hfd,Bool.and_self,if_pos rfl]
 ·rw[h]at h3
  simp only[Prod.mk.injEq]at h3
  obtain⟨_,h3,_⟩:=h3;have e1:(Qch n (paF l) (paF r)).2=false:=by
   cases hq:(Qch n (paF l) (paF r)).2
   ·rfl
   ·exact absurd h3 (hno hq).2
  rw[e1,Bool.false_and,if_neg (by decide)]
  unfold pdF;rw[if_neg];intro hl;unfold QbO at hl;rw[List.length_map,h2]at hl;cases hl
end Go.Own

namespace Go.Own
open Go Go.Proofs
def sOk:ByteArray:=⟨#[111,107]⟩
def sNo:ByteArray:=⟨#[110,111]⟩
def Qmr:ByteArray:=⟨#[119,104,97,116]⟩
def QAP:ByteArray:=⟨#[116,114,105,118,105,97,108]⟩
def Qwp:ByteArray:=⟨#[110,111,32,116,97,98,108,101]⟩
def isW(s k:ByteArray):Bool:=s.toList==k.toList
def Qjo:ByteArray:=⟨#[110,117,108,108]⟩
def Qeb:ByteArray:=⟨#[101,113,117,97,108]⟩
def Qea:ByteArray:=⟨#[97,112,97,114,116]⟩
def Qbz:ByteArray:=⟨#[99,111,108,117,109,110,115]⟩
def Qla:ByteArray:=⟨#[114,111,119]⟩
def Qry:ByteArray:=⟨#[99,101,108,108]⟩
def QeQ:ByteArray:=⟨#[100,114,111,112]⟩
def Qwc:ByteArray:=⟨#[99,104,101,99,107]⟩
def Qwf:ByteArray:=⟨#[103,105,118,101,110]⟩
def Qnt:ByteArray:=⟨#[105,109,112,108,105,101,100]⟩
def Qhe:ByteArray:=⟨#[100,101,112,115]⟩
def Qhf:ByteArray:=⟨#[107,101,121,115]⟩
def Qwb:ByteArray:=⟨#[97,103,114,101,101]⟩
def QAj:ByteArray:=⟨#[115,105,122,101]⟩
def QAk:ByteArray:=⟨#[116,97,107,101]⟩
def Qwd:ByteArray:=⟨#[99,108,101,97,114]⟩
def Qwe:ByteArray:=⟨#[99,111,118,101,114]⟩
def Qrz:ByteArray:=⟨#[115,99,104,101,109,97]⟩
def l3V(s:ByteArray):Int:=if isW s Qjo then -1 else if(!(spF s.data.toList).2||decide ((spF s.data.toList).1<0))=true then -100000 else(spF s.data.toList).1
def pvF(s:ByteArray):Int×Bool:=if isW s Qjo then(-1,true)else if(!(spF s.data.toList).2||decide ((spF s.data.toList).1<0)||decide ((spF s.data.toList).1>40))=true then(0,false)else((spF s.data.toList).1,true)
theorem Qrv{v:Int}{c:UInt8}{l:List UInt8}(h:Lib.itoa v=c::l):c=45∨Qnq c=true:=by
 unfold Lib.itoa at h;split at h
 ·simp only[List.cons.injEq]at h;exact .inl h.1.symm
 ·exact .inr (QcG c (by rw[h];simp))
theorem Qvp{s:ByteArray}(h:isW s Qjo=true):spF s.data.toList=(0,false):=by
 have e:s=Qjo:=QbC.1 h
 rw[e];rcases @QhF Qjo.data.toList with h|⟨v,h⟩
 ·exact h
 ·exfalso
  have:=(Qe6.1 h).1
  rcases Qrv (show Lib.itoa v=110::[117,108,108]from this)with h|h
  ·exact absurd h (by decide)
  ·exact absurd h (by decide)
theorem Qer{s:ByteArray}(h:0≤l3V s):(spF s.data.toList).2=true∧(spF s.data.toList).1=l3V s:=by
 unfold l3V at h ⊢;split at h
 ·omega
 ·rename_i hn
  rw[if_neg hn];split at h
  ·omega
  ·rename_i hb
   rw[if_neg hb];simp only[Bool.or_eq_true,Bool.not_eq_true',decide_eq_true_eq,not_or,Bool.not_eq_false]at hb
   exact⟨hb.1,rfl⟩
theorem Qny{s:ByteArray}(h:(spF s.data.toList).2=true)(h0:0≤(spF s.data.toList).1):l3V s=(spF s.data.toList).1:=by
 unfold l3V;rw[if_neg,if_neg]
 ·simp only[Bool.or_eq_true,Bool.not_eq_true',decide_eq_true_eq,not_or,Bool.not_eq_false]
  exact⟨h,by omega⟩
 ·intro hn
  rw[Qvp hn]at h;cases h
theorem Qse{s:ByteArray}:(pvF s).2=inB (l3V s) (-1) 40∧((pvF s).2=true→(pvF s).1=l3V s):=by
 unfold pvF l3V
 by_cases hn:isW s Qjo=true
 ·rw[if_pos hn,if_pos hn];exact⟨by decide,fun _=>rfl⟩
 ·rw[if_neg hn,if_neg hn]
  cases h2:(spF s.data.toList).2
  ·simp only[Bool.not_false,Bool.true_or,if_true]
   exact⟨by decide,fun h=>by cases h⟩
  ·simp only[Bool.not_true,Bool.false_or]
   by_cases hl:(spF s.data.toList).1<0
   ·have e1:decide ((spF s.data.toList).1<0)=true:=decide_eq_true hl
    simp only[e1,Bool.true_or,if_true]
    exact⟨by decide,fun h=>by cases h⟩
   ·have e1:decide ((spF s.data.toList).1<0)=false:=decide_eq_false hl
    simp only[e1,Bool.false_or,Bool.false_eq_true,if_false]
    by_cases hg:(spF s.data.toList).1>40
    ·have e2:decide ((spF s.data.toList).1>40)=true:=decide_eq_true hg
     simp only[e2,if_true]
     refine⟨?_,fun h=>by cases h⟩
     cases hb:inB (spF s.data.toList).1 (-1) 40
     ·rfl
     ·rw[Qh]at hb;omega
    ·have e2:decide ((spF s.data.toList).1>40)=false:=decide_eq_false hg
     simp only[e2,Bool.false_eq_true,if_false]
     refine⟨?_,fun _=>by trivial⟩
     exact(Qh.2 ⟨by omega,by omega⟩).symm
theorem QaP{a b:ByteArray}:isW a b=decide (a.data.toList=b.data.toList):=by
 unfold isW;rw[Bool.eq_iff_iff,QbC,decide_eq_true_eq];exact⟨fun h=>by rw[h],Qa8⟩
def cPI:Qb:=⟨[],false,fun
 | [.one (.v (.string s))]=>some (s.size≤1073741824,[⟨false,[.d (.v (.int .i64 (spF s.data.toList).1))]⟩,⟨false,[.d (.v (.bool (spF s.data.toList).2))]⟩],[])
 | _=>none⟩
theorem Qu0{v:Int}{s:ByteArray}:((QuY v).toList==s.toList)=decide (Lib.itoa v=s.data.toList):=by
 rw[Bool.eq_iff_iff,QbC,decide_eq_true_eq];exact⟨fun h=>by rw[←h];rfl,fun h=>Qa8 (by rw[←h];rfl)⟩
theorem QyI{l:List UInt8}: -999999999≤(spF l).1∧(spF l).1≤999999999:=by
 rcases @QhF l with h|⟨v,h⟩
 ·rw[h];decide
 ·rw[h];exact(Qe6.1 h).2
end Go.Own

namespace Go.Own
open Go Go.Proofs
attribute [local go_sem] Qm Qc QZ Q1 Q0 Q3 QaH Qdb Qr
theorem QW{xs:List (Int×Int)}{a b:Int}:dL xs++[[D.v (.int .i64 a),D.v (.int .i64 b)]]=dL (xs++[(a,b)]):=by simp[dL]
end Go.Own

namespace Go.Own
open Go Go.Proofs
def mvO(xs ys:List Int):Nat→Nat→Option Int
 | _,0=>none
 | v,n+1=>if xs.contains (v:Int)&& !ys.contains (v:Int)then some v else mvO xs ys (v+1) n
def mvR:Option Int→Int×Bool
 | some v=>(v,true)
 | none=>(0,false)
def mv(c:Int)(rs:List (List Int))(a b:Int):Int×Bool:=if QmX c rs a b then mvR (mvO (QCl rs a.toNat) (QCl rs b.toNat) 0 41)else(0,false)
end Go.Own
