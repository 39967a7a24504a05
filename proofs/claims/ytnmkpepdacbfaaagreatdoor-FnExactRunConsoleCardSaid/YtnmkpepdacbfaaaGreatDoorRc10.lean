/- Own contracts. Conditions: as each theorem states them. -/
import Derived.Test.YtnmkpepdacbfaaaGreatDoorRc09
set_option linter.unusedSimpArgs false
set_option linter.unusedVariables false
set_option maxRecDepth 20000
set_option maxHeartbeats 2000000
namespace Go.Own
open Go Go.Proofs
theorem QnK{rs:List (List Int)}{c:Nat}{m l r:Int}{i:Nat}:∀{n k:Nat},dpK rs c m l r i k n=none↔∀j,k≤j→j<k+n→dpC rs c m l r i j=false
 | 0,k=>⟨fun _ j h1 h2=>absurd h1 (by omega),fun _=>rfl⟩
 | n+1,k=>by
  rw[dpK];split
  ·rename_i h
   refine⟨fun h=>(nomatch h),fun q=>?_⟩
   rw[q k (Nat.le_refl _) (by omega)]at h;cases h
  ·rename_i h
   rw[@QnK rs c m l r i n (k+1)];constructor
   ·intro q j h1 h2
    by_cases e:j=k
    ·subst e;simpa using h
    ·exact q j (by omega) (by omega)
   ·intro q j h1 h2;exact q j (by omega) (by omega)
theorem QsV{rs:List (List Int)}{c:Nat}{m l r:Int}:∀{n i:Nat},i+n≤rs.length→(dpI rs c m l r i n=none↔∀k,i≤k→k<i+n→∀j,k<j→j<rs.length→dpC rs c m l r k j=false)
 | 0,i,_=>⟨fun _ j h1 h2=>absurd h1 (by omega),fun _=>rfl⟩
 | n+1,i,hn=>by
  rw[dpI];cases hk:dpK rs c m l r i (i+1) (rs.length-(i+1))with
  | some k=>
   dsimp only;refine⟨fun h=>(nomatch h),fun q=>?_⟩
   have:=QnK.2 fun j (h1:i+1≤j) (h2:j<i+1+(rs.length-(i+1)))=>q i (Nat.le_refl _) (by omega) j (by omega) (by omega)
   rw[this]at hk;cases hk
  | none=>
   dsimp only;rw[@QsV rs c m l r n (i+1) (by omega)]
   rw[QnK]at hk;constructor
   ·intro q k h1 h2 j hj hj2
    by_cases e:k=i
    ·subst e;exact hk j (by omega) (by omega)
    ·exact q k (by omega) (by omega) j hj hj2
   ·intro q k h1 h2;exact q k (by omega) (by omega)
theorem QnN{c:Int}{rs:List (List Int)}{m l r:Int}:hdB c rs m l r=true↔QaP c rs m l r=true∧∀i j,i<j→j<rs.length→Qr6 (agL m (rs.getD i []) (rs.getD j []) c.toNat) l r=false:=by
 unfold hdB;rw[Bool.and_eq_true];refine and_congr_right fun _=>?_
 unfold wtO;rw[Option.isNone_iff_eq_none,QsV (by omega)]
 constructor
 ·intro h i j h1 h2;exact h i (by omega) (by omega) j h1 h2
 ·intro h k h1 h2 j h3 h4;exact h k j h3 h4
end Go.Own

namespace Go.Own
open Go Go.Proofs
theorem QBA:∀x:Fin 32,∀c:Fin 5,x.val<2^c.val→Qt ((x.val:Nat):Int) ((c.val:Nat):Int)=false∧Q6 .or .i64 ((x.val:Nat):Int) (1*2^c.val)≤2^(c.val+1)-1∧∀r:Fin 5,Qt (Q6 .or .i64 ((x.val:Nat):Int) (1*2^c.val)) ((r.val:Nat):Int)=(Qt ((x.val:Nat):Int) ((r.val:Nat):Int)||r.val==c.val):=by decide+kernel
theorem Qzq:∀r:Fin 5,Qt 0 ((r.val:Nat):Int)=false:=by decide+kernel
theorem Qnj{m:Int}{a b:List Int}:∀{n:Nat},n≤5→(0≤agL m a b n∧agL m a b n≤2^n-1)∧∀r:Nat,r<5→Qt (agL m a b n) (r:Nat)=(decide (r<n)&&eqc m (a.getD r 0) (b.getD r 0))
 | 0,_=>⟨by simp[agL],fun r hr=>by
   rw[agL,decide_eq_false (by omega),Bool.false_and]
   exact Qzq ⟨r,hr⟩⟩
 | c+1,h=>by
  obtain⟨ih1,ih2⟩:=@Qnj m a b c (by omega)
  have e2:((2^c:Nat):Int)=(2:Int)^c:=by simp
  have e3:(2:Int)^(c+1)=2^c*2:=Int.pow_succ _ _
  have hp:=p5 (c:=c) (by omega)
  have hx:=QBA ⟨(agL m a b c).toNat,by omega⟩ ⟨c,by omega⟩ (by dsimp only;omega)
  have hor:=QtW ⟨(agL m a b c).toNat,by omega⟩ ⟨c,by omega⟩
  dsimp only at hx hor;rw[show(((agL m a b c).toNat:Nat):Int)=agL m a b c by omega]at hx hor
  obtain⟨x1,x2,x3⟩:=hx;rw[agL];cases he:eqc m (a.getD c 0) (b.getD c 0)
  ·rw[if_neg (by decide)]
   refine⟨by omega,fun r hr=>?_⟩
   by_cases e:r=c
   ·subst e
    rw[x1,he,Bool.and_false]
   ·rw[ih2 r hr]
    congr 1
    rw[Bool.eq_iff_iff,decide_eq_true_eq,decide_eq_true_eq];omega
  ·rw[if_pos rfl]
   refine⟨⟨hor.1,x2⟩,fun r hr=>?_⟩
   rw[x3 ⟨r,hr⟩,ih2 r hr];dsimp only
   by_cases e:r=c
   ·subst e
    have hlt:decide (r<r+1)=true:=decide_eq_true (by omega)
    rw[hlt,Bool.true_and,beq_self_eq_true,Bool.or_true];exact he.symm
   ·rw[beq_eq_false_iff_ne.2 e,Bool.or_false]
    congr 1
    rw[Bool.eq_iff_iff,decide_eq_true_eq,decide_eq_true_eq];omega
end Go.Own

namespace Go.Own
open Go Go.Proofs
def R5(x:Int):Prop:=0≤x∧x≤31
def Q7(l x:Int):Bool:=Q6 .andNot .i64 l x==0
def Qbd(x r:Int):Int:=Q6 .or .i64 x (1*2^r.toNat)
def leB(x y:Int):Prop:=∀c:Fin 5,Qt x (c.val:Nat)=true→Qt y (c.val:Nat)=true
theorem QrR:∀x:Fin 32,∀r:Fin 5,(0≤Qbd ((x.val:Nat):Int) ((r.val:Nat):Int)∧Qbd ((x.val:Nat):Int) ((r.val:Nat):Int)≤31)∧∀c:Fin 5,Qt (Qbd ((x.val:Nat):Int) ((r.val:Nat):Int)) ((c.val:Nat):Int)=(Qt ((x.val:Nat):Int) ((c.val:Nat):Int)||c==r):=by decide+kernel
theorem R5.fin{x:Int}(h:R5 x):∃q:Fin 32,x=((q.val:Nat):Int):=by
 have h1:0≤x:=h.1
 have h2:x≤31:=h.2
 exact⟨⟨x.toNat,by omega⟩,by show x=((x.toNat:Nat):Int);omega⟩
theorem c5{r:Int}(h:0≤r∧r≤4):∃q:Fin 5,r=((q.val:Nat):Int):=⟨⟨r.toNat,by omega⟩,by show r=((r.toNat:Nat):Int);omega⟩
theorem QdL{x r:Int}(hx:R5 x)(hr:0≤r∧r≤4):R5 (Qbd x r):=by
 obtain⟨x,rfl⟩:=hx.fin;obtain⟨r,rfl⟩:=c5 hr;exact(QrR x r).1
theorem Qkh{x:Int}{r:Fin 5}(hx:R5 x)(c:Fin 5):Qt (Qbd x (r.val:Nat)) (c.val:Nat)=(Qt x (c.val:Nat)||c==r):=by
 obtain⟨x,rfl⟩:=hx.fin;exact(QrR x r).2 c
theorem Qzz:∀l x:Fin 32,Q7 ((l.val:Nat):Int) ((x.val:Nat):Int)=decide (∀c:Fin 5,Qt ((l.val:Nat):Int) (c.val:Nat)=true→Qt ((x.val:Nat):Int) (c.val:Nat)=true):=by decide+kernel
theorem Qak{l x:Int}(hl:R5 l)(hx:R5 x):Q7 l x=true↔leB l x:=by
 obtain⟨l,rfl⟩:=hl.fin;obtain⟨x,rfl⟩:=hx.fin;rw[Qzz,decide_eq_true_eq];rfl
theorem Qzk:∀x y:Fin 32,(∀c:Fin 5,Qt ((x.val:Nat):Int) (c.val:Nat)=Qt ((y.val:Nat):Int) (c.val:Nat))→x=y:=by decide+kernel
theorem QcD{x y:Int}(hx:R5 x)(hy:R5 y)(h1:leB x y)(h2:leB y x):x=y:=by
 obtain⟨x,rfl⟩:=hx.fin;obtain⟨y,rfl⟩:=hy.fin;rw[Qzk x y fun c=>by
  cases e:Qt ((x.val:Nat):Int) (c.val:Nat)with
  | true=>rw[h1 c e]
  | false=>cases e2:Qt ((y.val:Nat):Int) (c.val:Nat)with
   | true=>rw[h2 c e2]at e;cases e
   | false=>rfl]
theorem leB.refl(x:Int):leB x x:=fun _ h=>h
theorem leB.trans{x y z:Int}(h1:leB x y)(h2:leB y z):leB x z:=fun c h=>h2 c (h1 c h)
theorem QkX{x r:Int}(hx:R5 x)(hr:0≤r∧r≤4):leB x (Qbd x r):=fun c h=>by
 obtain⟨r,rfl⟩:=c5 hr;rw[Qkh hx,h];rfl
theorem QkY{x r z:Int}(hx:R5 x)(hr:0≤r∧r≤4)(h1:leB x z)(h2:Qt z r=true):leB (Qbd x r) z:=fun c h=>by
 obtain⟨r,rfl⟩:=c5 hr;rw[Qkh hx]at h;rcases Bool.or_eq_true_iff.1 h with h|h
 ·exact h1 c h
 ·rw[eq_of_beq h];exact h2
theorem QBz{x z r:Int}(hr:0≤r∧r≤4)(h:leB x z)(h2:Qt x r=true):Qt z r=true:=by
 obtain⟨r,rfl⟩:=c5 hr;exact h r h2
def QgL(x:Int):Nat:=(List.range 5).countP fun c=>Qt x (c:Nat)
theorem Qsy{x r:Int}(hx:R5 x)(hr:0≤r∧r≤4)(hn:Qt x r=false):QgL x<QgL (Qbd x r):=by
 obtain⟨r,rfl⟩:=c5 hr;obtain⟨x,rfl⟩:=hx.fin;have:∀x:Fin 32,∀r:Fin 5,Qt ((x.val:Nat):Int) (r.val:Nat)=false→QgL ((x.val:Nat):Int)<QgL (Qbd ((x.val:Nat):Int) ((r.val:Nat):Int)):=by decide+kernel
 exact this x r hn
theorem QlX(x:Int):QgL x≤5:=by
 have:=List.countP_le_length (p:=fun c:Nat=>Qt x (c:Nat)) (l:=List.range 5)
 rwa [List.length_range]at this
theorem Qu4{x r:Int}(hx:R5 x)(hr:0≤r∧r≤4)(h:Qt x r=true):Qbd x r=x:=QcD (QdL hx hr) hx (QkY hx hr (leB.refl _) h) (QkX hx hr)
theorem Qyy:∀l x:Fin 32,(Q6 .and .i64 ((l.val:Nat):Int) ((x.val:Nat):Int)==((l.val:Nat):Int))=Q7 ((l.val:Nat):Int) ((x.val:Nat):Int):=by decide+kernel
theorem Qde{l x:Int}(hl:R5 l)(hx:R5 x):(Q6 .and .i64 l x==l)=Q7 l x:=by
 obtain⟨l,rfl⟩:=hl.fin;obtain⟨x,rfl⟩:=hx.fin;exact Qyy l x
def Qbn(d:Int×Int):Prop:=R5 d.1∧0≤d.2∧d.2≤4
def Qed(x:Int)(d:Int×Int):Int:=if Q7 d.1 x then Qbd x d.2 else x
def Qfc(ds:List (Int×Int))(x:Int):Int:=ds.foldl Qed x
def Qha(ds:List (Int×Int)):Nat→Int→Int
 | 0,x=>x
 | n+1,x=>Qha ds n (Qfc ds x)
def clo(ds:List (Int×Int))(x:Int):Int:=Qha ds 6 x
def QdU(ds:List (Int×Int))(y:Int):Prop:=∀d∈ds,Q7 d.1 y=true→Qt y d.2=true
theorem QiU{x:Int}{d:Int×Int}(hx:R5 x)(hd:Qbn d):R5 (Qed x d):=by
 unfold Qed;split
 ·exact QdL hx hd.2
 ·exact hx
theorem Qxh{x:Int}{d:Int×Int}(hx:R5 x)(hd:Qbn d):leB x (Qed x d):=by
 unfold Qed;split
 ·exact QkX hx hd.2
 ·exact leB.refl _
theorem Qoj{x z:Int}{d:Int×Int}(hx:R5 x)(hz:R5 z)(hd:Qbn d)(h:leB x z)(hc:Q7 d.1 z=true→Qt z d.2=true):leB (Qed x d) z:=by
 unfold Qed;split
 ·rename_i h1
  exact QkY hx hd.2 h (hc ((Qak hd.1 hz).2 (((Qak hd.1 hx).1 h1).trans h)))
 ·exact h
theorem Qgy:∀{ds:List (Int×Int)} {x:Int},(∀d∈ds,Qbn d)→R5 x→R5 (Qfc ds x)
 | [],x,_,h=>h
 | d::ds,x,hd,h=>Qgy (ds:=ds) (fun d h=>hd d (List.mem_cons_of_mem _ h)) (QiU h (hd d (by simp)))
theorem QpU:∀{ds:List (Int×Int)} {x:Int},(∀d∈ds,Qbn d)→R5 x→leB x (Qfc ds x)
 | [],x,_,h=>leB.refl _
 | d::ds,x,hd,h=>(Qxh h (hd d (by simp))).trans (QpU (ds:=ds) (fun d h=>hd d (List.mem_cons_of_mem _ h)) (QiU h (hd d (by simp))))
theorem QiG:∀{ds:List (Int×Int)} {x z:Int},(∀d∈ds,Qbn d)→R5 x→R5 z→leB x z→QdU ds z→leB (Qfc ds x) z
 | [],x,z,_,_,_,h,_=>h
 | d::ds,x,z,hd,hx,hz,h,hc=>QiG (ds:=ds) (fun d h=>hd d (List.mem_cons_of_mem _ h)) (QiU hx (hd d (by simp))) hz (Qoj hx hz (hd d (by simp)) h (hc d (by simp))) fun d h=>hc d (List.mem_cons_of_mem _ h)
theorem QmC:∀{ds:List (Int×Int)} {x:Int},(∀d∈ds,Qbn d)→R5 x→(Qfc ds x=x→QdU ds x)∧(Qfc ds x≠x→QgL x<QgL (Qfc ds x))∧QgL x≤QgL (Qfc ds x)
 | [],x,_,h=>⟨(fun _ d h=>nomatch h),fun h=>absurd rfl h,Nat.le_refl _⟩
 | d::ds,x,hd,hx=>by
  have hd0:=hd d (by simp)
  have hds:∀d∈ds,Qbn d:=fun d h=>hd d (List.mem_cons_of_mem _ h)
  have ih:=QmC hds (QiU hx hd0)
  have e:Qfc (d::ds) x=Qfc ds (Qed x d):=rfl
  rw[e]
  by_cases hs:Q7 d.1 x=true∧Qt x d.2=false
  ·have h1:Qed x d=Qbd x d.2:=by unfold Qed;rw[if_pos hs.1]
   have h2:=Qsy hx hd0.2 hs.2
   rw[h1]at ih ⊢;refine⟨fun h=>?_,fun _=>by omega,by omega⟩
   rw[h]at ih;omega
  ·have h1:Qed x d=x:=by
    unfold Qed;split
    ·rename_i hi
     refine Qu4 hx hd0.2 ?_
     cases q:Qt x d.2 with
     | true=>rfl
     | false=>exact absurd ⟨hi,q⟩ hs
    ·rfl
   rw[h1]at ih ⊢;refine⟨fun h d' hd' hi=>?_,ih.2⟩
   rcases List.mem_cons.1 hd' with rfl|hd'
   ·cases q:Qt x d'.2 with
    | true=>rfl
    | false=>exact absurd ⟨hi,q⟩ hs
   ·exact ih.1 h d' hd' hi
theorem Qj2{ds:List (Int×Int)}{x:Int}(h:Qfc ds x=x):∀n,Qha ds n x=x
 | 0=>rfl
 | n+1=>by rw[Qha,h,Qj2 h n]
theorem Qt3{ds:List (Int×Int)}(hd:∀d∈ds,Qbn d):∀{n:Nat} {x:Int},R5 x→R5 (Qha ds n x)
 | 0,x,h=>h
 | n+1,x,h=>Qt3 hd (n:=n) (Qgy hd h)
theorem QpV{ds:List (Int×Int)}(hd:∀d∈ds,Qbn d):∀{n:Nat} {x:Int},R5 x→leB x (Qha ds n x)
 | 0,x,h=>leB.refl _
 | n+1,x,h=>(QpU hd h).trans (QpV hd (n:=n) (Qgy hd h))
theorem QiH{ds:List (Int×Int)}(hd:∀d∈ds,Qbn d){z:Int}(hz:R5 z)(hc:QdU ds z):∀{n:Nat} {x:Int},R5 x→leB x z→leB (Qha ds n x) z
 | 0,x,_,h=>h
 | n+1,x,hx,h=>QiH hd hz hc (n:=n) (Qgy hd hx) (QiG hd hx hz h hc)
theorem QgT{ds:List (Int×Int)}(hd:∀d∈ds,Qbn d):∀{n:Nat} {x:Int},R5 x→5<QgL x+n→QdU ds (Qha ds n x)
 | 0,x,_,h=>by have:=QlX x;omega
 | n+1,x,hx,h=>by
  have hf:=QmC hd hx
  by_cases e:Qfc ds x=x
  ·rw[Qha,e,Qj2 e]
   exact hf.1 e
  ·have:=hf.2.1 e
   exact QgT hd (n:=n) (Qgy hd hx) (by omega)
theorem Qnx{ds:List (Int×Int)}{x:Int}(hd:∀d∈ds,Qbn d)(hx:R5 x):R5 (clo ds x):=Qt3 hd hx
theorem QqK{ds:List (Int×Int)}{x:Int}(hd:∀d∈ds,Qbn d)(hx:R5 x):QdU ds (clo ds x):=QgT hd hx (by omega)
theorem QxD{ds:List (Int×Int)}{x:Int}(hd:∀d∈ds,Qbn d)(hx:R5 x):leB x (clo ds x):=QpV hd hx
theorem QlW{ds:List (Int×Int)}{x z:Int}(hd:∀d∈ds,Qbn d)(hx:R5 x)(hz:R5 z)(h:leB x z)(hc:QdU ds z):leB (clo ds x) z:=QiH hd hz hc hx h
theorem QxC{ds:List (Int×Int)}{x y:Int}(hd:∀d∈ds,Qbn d)(hx:R5 x)(hy:R5 y)(h1:leB x y)(h2:leB y (clo ds x))(hc:QdU ds y):y=clo ds x:=
 QcD hy (Qnx hd hx) h2 (QlW hd hx hy h1 hc)
theorem QBr{n:Int}{ds:List (Int×Int)}(h:ds.all (fun d=>QJ n d.1 d.2)=true):∀d∈ds,Qbn d:=by
 intro d hd;have:=List.all_eq_true.1 h d hd
 simp only[QJ,Bool.and_eq_true,Qi]at this
 have h2:=Qp this.1.2
 exact⟨⟨h2.2.2.1,h2.2.2.2⟩,by omega,by omega⟩
end Go.Own
namespace Go.Own
open Go Go.Proofs
def Qi4(x:Int)(d:Int×Int):Bool:=Q7 d.1 x&& !Qt x d.2
def Qs5(ds:List (Int×Int))(x:Int):Option Nat:=ds.findIdx? (Qi4 x)
def QqT(ds:List (Int×Int))(r:Int):Nat→Int→List (Int×Int×Int)
 | 0,_=>[]
 | k+1,x=>if Qt x r then []else match Qs5 ds x with
  | none=>[]
  | some i=>((i:Int),x,Qbd x (ds.getD i (0,0)).2)::QqT ds r k (Qbd x (ds.getD i (0,0)).2)
def der(ds:List (Int×Int))(r x:Int):List (Int×Int×Int):=QqT ds r 6 x
theorem Qs7{ds:List (Int×Int)}{x:Int}{i:Nat}(h:i<ds.length)(ha:Qi4 x (ds.getD i (0,0))=true)(hn:∀j,j<i→Qi4 x (ds.getD j (0,0))=false):Qs5 ds x=some i:=by
 unfold Qs5;rw[List.findIdx?_eq_some_iff_getElem];refine⟨h,?_,fun j hj=>?_⟩
 ·simpa [List.getD_eq_getElem?_getD,h]using ha
 ·have:=hn j hj
  have hj2:j<ds.length:=by omega
  simpa [List.getD_eq_getElem?_getD,hj2]using this
theorem Qs6{ds:List (Int×Int)}{x:Int}(hn:∀j,j<ds.length→Qi4 x (ds.getD j (0,0))=false):Qs5 ds x=none:=by
 unfold Qs5;rw[List.findIdx?_eq_none_iff];intro d hd;obtain⟨j,hj,e⟩:=List.getElem_of_mem hd;have:=hn j hj
 simp only[List.getD_eq_getElem?_getD,hj,List.getElem?_eq_getElem,Option.getD_some,e]at this
 exact this
theorem Qik{ds:List (Int×Int)}{x:Int}{i:Nat}(h:Qs5 ds x=some i):i<ds.length∧Qi4 x (ds.getD i (0,0))=true:=by
 unfold Qs5 at h;rw[List.findIdx?_eq_some_iff_getElem]at h;obtain⟨h1,h2,_⟩:=h;exact⟨h1,by simpa [List.getD_eq_getElem?_getD,h1]using h2⟩
theorem Qdf{ds:List (Int×Int)}{x:Int}{i:Nat}(hd:∀d∈ds,Qbn d)(hx:R5 x)(hi:i<ds.length)(h:Qi4 x (ds.getD i (0,0))=true):QgL x<QgL (Qbd x (ds.getD i (0,0)).2)∧R5 (Qbd x (ds.getD i (0,0)).2):=by
 have hm:=hd _ (QP hi (0,0));simp only[Qi4,Bool.and_eq_true,Bool.not_eq_true']at h
 exact⟨Qsy hx hm.2 h.2,QdL hx hm.2⟩
theorem QoY{ds:List (Int×Int)}{r:Int}(hd:∀d∈ds,Qbn d):∀{k k':Nat} {x:Int},R5 x→5<QgL x+k→5<QgL x+k'→QqT ds r k x=QqT ds r k' x
 | 0,_,x,_,h,_=>by have:=QlX x;omega
 | _+1,0,x,_,_,h=>by have:=QlX x;omega
 | k+1,k'+1,x,hx,h,h'=>by
  rw[QqT,QqT];split
  ·rfl
  ·cases e:Qs5 ds x with
   | none=>rfl
   | some i=>
    obtain⟨h1,h2⟩:=Qik e;obtain⟨h3,h4⟩:=Qdf hd hx h1 h2;dsimp only;rw[QoY hd (k:=k) (k':=k') h4 (by omega) (by omega)]
theorem QsR{ds:List (Int×Int)}{r x:Int}(h:Qt x r=true):der ds r x=[]:=by
 unfold der;rw[QqT,if_pos h]
theorem Qv6{ds:List (Int×Int)}{r x:Int}(h:Qs5 ds x=none):der ds r x=[]:=by
 unfold der;rw[QqT,h];split<;>rfl
theorem Qv7{ds:List (Int×Int)}{r x:Int}{i:Nat}(hd:∀d∈ds,Qbn d)(hx:R5 x)(h0:Qt x r=false)(h:Qs5 ds x=some i):
  der ds r x=((i:Int),x,Qbd x (ds.getD i (0,0)).2)::der ds r (Qbd x (ds.getD i (0,0)).2):=by
 obtain⟨h1,h2⟩:=Qik h;obtain⟨h3,h4⟩:=Qdf hd hx h1 h2;unfold der;rw[QqT,if_neg (by rw[h0];decide),h]
 dsimp only;rw[QoY hd (k:=5) (k':=6) h4 (by omega) (by omega)]
theorem QBc{ds:List (Int×Int)}{x0 x r:Int}(hd:∀d∈ds,Qbn d)(h0:R5 x0)(hx:R5 x)(hr:0≤r∧r≤4)(hl:leB x0 x)(hc:Qt (clo ds x0) r=true)(hn:∀j,j<ds.length→Qi4 x (ds.getD j (0,0))=false):Qt x r=true:=by
 refine QBz hr (QlW hd h0 hx hl fun d hdm hi=>?_) hc
 obtain⟨j,hj,e⟩:=List.getElem_of_mem hdm;have:=hn j hj
 simp only[List.getD_eq_getElem?_getD,hj,List.getElem?_eq_getElem,Option.getD_some,e,Qi4,hi,Bool.true_and,Bool.not_eq_false']at this
 exact this
theorem QkF{ds:List (Int×Int)}{r:Int}(hd:∀d∈ds,Qbn d):∀{k:Nat} {x:Int},R5 x→(QqT ds r k x).length≤k∧∀s∈QqT ds r k x,(0≤s.1∧s.1<ds.length)∧R5 s.2.1∧R5 s.2.2
 | 0,x,_=>by simp[QqT]
 | k+1,x,hx=>by
  rw[QqT];split
  ·simp
  ·cases e:Qs5 ds x with
   | none=>simp
   | some i=>
    obtain⟨h1,h2⟩:=Qik e;obtain⟨h3,h4⟩:=Qdf hd hx h1 h2;obtain⟨i1,i2⟩:=QkF hd (k:=k) (r:=r) h4;dsimp only;refine⟨by simpa using i1,fun s hs=>?_⟩
    rcases List.mem_cons.1 hs with rfl|hs
    ·exact⟨⟨by dsimp only;omega,by dsimp only;omega⟩,hx,h4⟩
    ·exact i2 s hs
def d3L(xs:List (Int×Int×Int)):List (List D):=xs.map fun q=>[D.v (.int .i64 q.1),D.v (.int .i64 q.2.1),D.v (.int .i64 q.2.2)]
def un3(l:List (List D)):List (Int×Int×Int):=l.map fun
 | [.v (.int .i64 a),.v (.int .i64 b),.v (.int .i64 c)]=>(a,b,c)
 | _=>(0,0,0)
theorem QuC(xs:List (Int×Int×Int)):un3 (d3L xs)=xs:=by simp[un3,d3L,Function.comp_def]
theorem QjF(xs:List (Int×Int×Int)):(d3L xs).length=xs.length:=by simp[d3L]
theorem QsK{xs:List (Int×Int×Int)}{i:Nat}(h:i<xs.length):(d3L xs).getD i []=[D.v (.int .i64 (xs.getD i (0,0,0)).1),D.v (.int .i64 (xs.getD i (0,0,0)).2.1),D.v (.int .i64 (xs.getD i (0,0,0)).2.2)]:=by
 simp[d3L,List.getD_eq_getElem?_getD,h]
theorem QoS{xs:List (Int×Int×Int)}{a b c:Int}:d3L xs++[[D.v (.int .i64 a),D.v (.int .i64 b),D.v (.int .i64 c)]]=d3L (xs++[(a,b,c)]):=by simp[d3L]
theorem QCd{a b c:Value}:(∀x∈[D.v a,D.v b,D.v c],QaH x)↔True:=by
 refine⟨fun _=>trivial,fun _ x hx=>?_⟩
 simp only[List.mem_cons,List.not_mem_nil,or_false]at hx
 rcases hx with rfl|rfl|rfl<;>trivial
end Go.Own
