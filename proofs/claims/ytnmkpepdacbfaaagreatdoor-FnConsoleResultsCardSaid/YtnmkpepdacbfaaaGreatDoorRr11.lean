/- Own contracts. Conditions: as each theorem states them. -/
import Derived.Test.YtnmkpepdacbfaaaGreatDoorRr09
import Derived.Test.YtnmkpepdacbfaaaGreatDoorRr10
set_option linter.unusedSimpArgs false
set_option linter.unusedVariables false
set_option maxRecDepth 20000
set_option maxHeartbeats 2000000
namespace Go.Own
open Go Go.Proofs
theorem QlP{rs:List (List Int)}{c:Nat}{m l r:Int}{i:Nat}:∀{n k:Nat},dpK rs c m l r i k n=none↔∀j,k≤j→j<k+n→dpC rs c m l r i j=false
 | 0,k=>⟨fun _ j h1 h2=>absurd h1 (by omega),fun _=>rfl⟩
 | n+1,k=>by
  rw[dpK];split
  ·rename_i h
   refine⟨fun h=>(nomatch h),fun q=>?_⟩
   rw[q k (Nat.le_refl _) (by omega)]at h;cases h
  ·rename_i h
   rw[@QlP rs c m l r i n (k+1)];constructor
   ·intro q j h1 h2
    by_cases e:j=k
    ·subst e;simpa using h
    ·exact q j (by omega) (by omega)
   ·intro q j h1 h2;exact q j (by omega) (by omega)
theorem QqX{rs:List (List Int)}{c:Nat}{m l r:Int}:∀{n i:Nat},i+n≤rs.length→(dpI rs c m l r i n=none↔∀k,i≤k→k<i+n→∀j,k<j→j<rs.length→dpC rs c m l r k j=false)
 | 0,i,_=>⟨fun _ j h1 h2=>absurd h1 (by omega),fun _=>rfl⟩
 | n+1,i,hn=>by
  rw[dpI];cases hk:dpK rs c m l r i (i+1) (rs.length-(i+1))with
  | some k=>
   dsimp only;refine⟨fun h=>(nomatch h),fun q=>?_⟩
   have:=QlP.2 fun j (h1:i+1≤j) (h2:j<i+1+(rs.length-(i+1)))=>q i (Nat.le_refl _) (by omega) j (by omega) (by omega)
   rw[this]at hk;cases hk
  | none=>
   dsimp only;rw[@QqX rs c m l r n (i+1) (by omega)]
   rw[QlP]at hk;constructor
   ·intro q k h1 h2 j hj hj2
    by_cases e:k=i
    ·subst e;exact hk j (by omega) (by omega)
    ·exact q k (by omega) (by omega) j hj hj2
   ·intro q k h1 h2;exact q k (by omega) (by omega)
theorem QlV{c:Int}{rs:List (List Int)}{m l r:Int}:hdB c rs m l r=true↔Qbe c rs m l r=true∧∀i j,i<j→j<rs.length→Qp6 (agL m (rs.getD i []) (rs.getD j []) c.toNat) l r=false:=by
 unfold hdB;rw[Bool.and_eq_true];refine and_congr_right fun _=>?_
 unfold wtO;rw[Option.isNone_iff_eq_none,QqX (by omega)]
 constructor
 ·intro h i j h1 h2;exact h i (by omega) (by omega) j h1 h2
 ·intro h k h1 h2 j h3 h4;exact h k j h3 h4
end Go.Own

namespace Go.Own
open Go Go.Proofs
theorem Qz6:∀x:Fin 32,∀c:Fin 5,x.val<2^c.val→Qy ((x.val:Nat):Int) ((c.val:Nat):Int)=false∧Qax .or .i64 ((x.val:Nat):Int) (1*2^c.val)≤2^(c.val+1)-1∧∀r:Fin 5,Qy (Qax .or .i64 ((x.val:Nat):Int) (1*2^c.val)) ((r.val:Nat):Int)=(Qy ((x.val:Nat):Int) ((r.val:Nat):Int)||r.val==c.val):=by decide+kernel
theorem QxF:∀r:Fin 5,Qy 0 ((r.val:Nat):Int)=false:=by decide+kernel
theorem QpU{m:Int}{a b:List Int}:∀{n:Nat},n≤5→(0≤agL m a b n∧agL m a b n≤2^n-1)∧∀r:Nat,r<5→Qy (agL m a b n) (r:Nat)=(decide (r<n)&&eqc m (a.getD r 0) (b.getD r 0))
 | 0,_=>⟨by simp[agL],fun r hr=>by
   rw[agL,decide_eq_false (by omega),Bool.false_and]
   exact QxF ⟨r,hr⟩⟩
 | c+1,h=>by
  obtain⟨ih1,ih2⟩:=@QpU m a b c (by omega)
  have e2:((2^c:Nat):Int)=(2:Int)^c:=by simp
  have e3:(2:Int)^(c+1)=2^c*2:=Int.pow_succ _ _
  have hp:=p5 (c:=c) (by omega)
  have hx:=Qz6 ⟨(agL m a b c).toNat,by omega⟩ ⟨c,by omega⟩ (by dsimp only;omega)
  have hor:=Qr4 ⟨(agL m a b c).toNat,by omega⟩ ⟨c,by omega⟩
  dsimp only at hx hor;rw[show(((agL m a b c).toNat:Nat):Int)=agL m a b c by omega]at hx hor
  obtain⟨x1,x2,x3⟩:=hx;rw[agL];cases he:eqc m (a.getD c 0) (b.getD c 0)
  ·rw[if_neg (by decide)]
   refine⟨by omega,fun r hr=>?_⟩
   by_cases e:r=c
   ·subst e
    rw[x1,he,Bool.and_false]
   ·rw[ih2 r hr]
    congr 1
    rw[Bool.eq_iff_iff,decide_eq_true_eq,decide_eq_true_eq];omega
  ·rw[if_pos rfl]
   refine⟨⟨hor.1,x2⟩,fun r hr=>?_⟩
   rw[x3 ⟨r,hr⟩,ih2 r hr];dsimp only
   by_cases e:r=c
   ·subst e
    have hlt:decide (r<r+1)=true:=decide_eq_true (by omega)
    rw[hlt,Bool.true_and,beq_self_eq_true,Bool.or_true];exact he.symm
   ·rw[beq_eq_false_iff_ne.2 e,Bool.or_false]
    congr 1
    rw[Bool.eq_iff_iff,decide_eq_true_eq,decide_eq_true_eq];omega
end Go.Own

namespace Go.Own
open Go Go.Proofs
def R5(x:Int):Prop:=0≤x∧x≤31
def Qal(l x:Int):Bool:=Qax .andNot .i64 l x==0
def QbI(x r:Int):Int:=Qax .or .i64 x (1*2^r.toNat)
def leB(x y:Int):Prop:=∀c:Fin 5,Qy x (c.val:Nat)=true→Qy y (c.val:Nat)=true
theorem QpT:∀x:Fin 32,∀r:Fin 5,(0≤QbI ((x.val:Nat):Int) ((r.val:Nat):Int)∧QbI ((x.val:Nat):Int) ((r.val:Nat):Int)≤31)∧∀c:Fin 5,Qy (QbI ((x.val:Nat):Int) ((r.val:Nat):Int)) ((c.val:Nat):Int)=(Qy ((x.val:Nat):Int) ((c.val:Nat):Int)||c==r):=by decide+kernel
theorem R5.fin{x:Int}(h:R5 x):∃q:Fin 32,x=((q.val:Nat):Int):=by
 have h1:0≤x:=h.1
 have h2:x≤31:=h.2
 exact⟨⟨x.toNat,by omega⟩,by show x=((x.toNat:Nat):Int);omega⟩
theorem c5{r:Int}(h:0≤r∧r≤4):∃q:Fin 5,r=((q.val:Nat):Int):=⟨⟨r.toNat,by omega⟩,by show r=((r.toNat:Nat):Int);omega⟩
theorem Qdf{x r:Int}(hx:R5 x)(hr:0≤r∧r≤4):R5 (QbI x r):=by
 obtain⟨x,rfl⟩:=hx.fin;obtain⟨r,rfl⟩:=c5 hr;exact(QpT x r).1
theorem QiV{x:Int}{r:Fin 5}(hx:R5 x)(c:Fin 5):Qy (QbI x (r.val:Nat)) (c.val:Nat)=(Qy x (c.val:Nat)||c==r):=by
 obtain⟨x,rfl⟩:=hx.fin;exact(QpT x r).2 c
theorem QxO:∀l x:Fin 32,Qal ((l.val:Nat):Int) ((x.val:Nat):Int)=decide (∀c:Fin 5,Qy ((l.val:Nat):Int) (c.val:Nat)=true→Qy ((x.val:Nat):Int) (c.val:Nat)=true):=by decide+kernel
theorem Q8{l x:Int}(hl:R5 l)(hx:R5 x):Qal l x=true↔leB l x:=by
 obtain⟨l,rfl⟩:=hl.fin;obtain⟨x,rfl⟩:=hx.fin;rw[QxO,decide_eq_true_eq];rfl
theorem Qxy:∀x y:Fin 32,(∀c:Fin 5,Qy ((x.val:Nat):Int) (c.val:Nat)=Qy ((y.val:Nat):Int) (c.val:Nat))→x=y:=by decide+kernel
theorem Qcm{x y:Int}(hx:R5 x)(hy:R5 y)(h1:leB x y)(h2:leB y x):x=y:=by
 obtain⟨x,rfl⟩:=hx.fin;obtain⟨y,rfl⟩:=hy.fin;rw[Qxy x y fun c=>by
  cases e:Qy ((x.val:Nat):Int) (c.val:Nat)with
  | true=>rw[h1 c e]
  | false=>cases e2:Qy ((y.val:Nat):Int) (c.val:Nat)with
   | true=>rw[h2 c e2]at e;cases e
   | false=>rfl]
theorem leB.refl(x:Int):leB x x:=fun _ h=>h
theorem leB.trans{x y z:Int}(h1:leB x y)(h2:leB y z):leB x z:=fun c h=>h2 c (h1 c h)
theorem Ql7{x r:Int}(hx:R5 x)(hr:0≤r∧r≤4):leB x (QbI x r):=fun c h=>by
 obtain⟨r,rfl⟩:=c5 hr;rw[QiV hx,h];rfl
theorem Qjr{x r z:Int}(hx:R5 x)(hr:0≤r∧r≤4)(h1:leB x z)(h2:Qy z r=true):leB (QbI x r) z:=fun c h=>by
 obtain⟨r,rfl⟩:=c5 hr;rw[QiV hx]at h;rcases Bool.or_eq_true_iff.1 h with h|h
 ·exact h1 c h
 ·rw[eq_of_beq h];exact h2
def QgX(x:Int):Nat:=(List.range 5).countP fun c=>Qy x (c:Nat)
theorem Qqy{x r:Int}(hx:R5 x)(hr:0≤r∧r≤4)(hn:Qy x r=false):QgX x<QgX (QbI x r):=by
 obtain⟨r,rfl⟩:=c5 hr;obtain⟨x,rfl⟩:=hx.fin;have:∀x:Fin 32,∀r:Fin 5,Qy ((x.val:Nat):Int) (r.val:Nat)=false→QgX ((x.val:Nat):Int)<QgX (QbI ((x.val:Nat):Int) ((r.val:Nat):Int)):=by decide+kernel
 exact this x r hn
theorem QmW(x:Int):QgX x≤5:=by
 have:=List.countP_le_length (p:=fun c:Nat=>Qy x (c:Nat)) (l:=List.range 5)
 rwa [List.length_range]at this
theorem Qti{x r:Int}(hx:R5 x)(hr:0≤r∧r≤4)(h:Qy x r=true):QbI x r=x:=Qcm (Qdf hx hr) hx (Qjr hx hr (leB.refl _) h) (Ql7 hx hr)
theorem QwN:∀l x:Fin 32,(Qax .and .i64 ((l.val:Nat):Int) ((x.val:Nat):Int)==((l.val:Nat):Int))=Qal ((l.val:Nat):Int) ((x.val:Nat):Int):=by decide+kernel
theorem Qlo{l x:Int}(hl:R5 l)(hx:R5 x):(Qax .and .i64 l x==l)=Qal l x:=by
 obtain⟨l,rfl⟩:=hl.fin;obtain⟨x,rfl⟩:=hx.fin;exact QwN l x
def Qbo(d:Int×Int):Prop:=R5 d.1∧0≤d.2∧d.2≤4
def Qgh(x:Int)(d:Int×Int):Int:=if Qal d.1 x then QbI x d.2 else x
def Qgf(ds:List (Int×Int))(x:Int):Int:=ds.foldl Qgh x
def QjJ(ds:List (Int×Int)):Nat→Int→Int
 | 0,x=>x
 | n+1,x=>QjJ ds n (Qgf ds x)
def clo(ds:List (Int×Int))(x:Int):Int:=QjJ ds 6 x
def Qdl(ds:List (Int×Int))(y:Int):Prop:=∀d∈ds,Qal d.1 y=true→Qy y d.2=true
theorem QjT{x:Int}{d:Int×Int}(hx:R5 x)(hd:Qbo d):R5 (Qgh x d):=by
 unfold Qgh;split
 ·exact Qdf hx hd.2
 ·exact hx
theorem Qvx{x:Int}{d:Int×Int}(hx:R5 x)(hd:Qbo d):leB x (Qgh x d):=by
 unfold Qgh;split
 ·exact Ql7 hx hd.2
 ·exact leB.refl _
theorem Qmv{x z:Int}{d:Int×Int}(hx:R5 x)(hz:R5 z)(hd:Qbo d)(h:leB x z)(hc:Qal d.1 z=true→Qy z d.2=true):leB (Qgh x d) z:=by
 unfold Qgh;split
 ·rename_i h1
  exact Qjr hx hd.2 h (hc ((Q8 hd.1 hz).2 (((Q8 hd.1 hx).1 h1).trans h)))
 ·exact h
theorem Qhv:∀{ds:List (Int×Int)} {x:Int},(∀d∈ds,Qbo d)→R5 x→R5 (Qgf ds x)
 | [],x,_,h=>h
 | d::ds,x,hd,h=>Qhv (ds:=ds) (fun d h=>hd d (List.mem_cons_of_mem _ h)) (QjT h (hd d (by simp)))
theorem QnR:∀{ds:List (Int×Int)} {x:Int},(∀d∈ds,Qbo d)→R5 x→leB x (Qgf ds x)
 | [],x,_,h=>leB.refl _
 | d::ds,x,hd,h=>(Qvx h (hd d (by simp))).trans (QnR (ds:=ds) (fun d h=>hd d (List.mem_cons_of_mem _ h)) (QjT h (hd d (by simp))))
theorem Qhw:∀{ds:List (Int×Int)} {x z:Int},(∀d∈ds,Qbo d)→R5 x→R5 z→leB x z→Qdl ds z→leB (Qgf ds x) z
 | [],x,z,_,_,_,h,_=>h
 | d::ds,x,z,hd,hx,hz,h,hc=>Qhw (ds:=ds) (fun d h=>hd d (List.mem_cons_of_mem _ h)) (QjT hx (hd d (by simp))) hz (Qmv hx hz (hd d (by simp)) h (hc d (by simp))) fun d h=>hc d (List.mem_cons_of_mem _ h)
theorem QkQ:∀{ds:List (Int×Int)} {x:Int},(∀d∈ds,Qbo d)→R5 x→(Qgf ds x=x→Qdl ds x)∧(Qgf ds x≠x→QgX x<QgX (Qgf ds x))∧QgX x≤QgX (Qgf ds x)
 | [],x,_,h=>⟨(fun _ d h=>nomatch h),fun h=>absurd rfl h,Nat.le_refl _⟩
 | d::ds,x,hd,hx=>by
  have hd0:=hd d (by simp)
  have hds:∀d∈ds,Qbo d:=fun d h=>hd d (List.mem_cons_of_mem _ h)
  have ih:=QkQ hds (QjT hx hd0)
  have e:Qgf (d::ds) x=Qgf ds (Qgh x d):=rfl
  rw[e]
  by_cases hs:Qal d.1 x=true∧Qy x d.2=false
  ·have h1:Qgh x d=QbI x d.2:=by unfold Qgh;rw[if_pos hs.1]
   have h2:=Qqy hx hd0.2 hs.2
   rw[h1]at ih ⊢;refine⟨fun h=>?_,fun _=>by omega,by omega⟩
   rw[h]at ih;omega
  ·have h1:Qgh x d=x:=by
    unfold Qgh;split
    ·rename_i hi
     refine Qti hx hd0.2 ?_
     cases q:Qy x d.2 with
     | true=>rfl
     | false=>exact absurd ⟨hi,q⟩ hs
    ·rfl
   rw[h1]at ih ⊢;refine⟨fun h d' hd' hi=>?_,ih.2⟩
   rcases List.mem_cons.1 hd' with rfl|hd'
   ·cases q:Qy x d'.2 with
    | true=>rfl
    | false=>exact absurd ⟨hi,q⟩ hs
   ·exact ih.1 h d' hd' hi
theorem QiK{ds:List (Int×Int)}{x:Int}(h:Qgf ds x=x):∀n,QjJ ds n x=x
 | 0=>rfl
 | n+1=>by rw[QjJ,h,QiK h n]
theorem Qsa{ds:List (Int×Int)}(hd:∀d∈ds,Qbo d):∀{n:Nat} {x:Int},R5 x→R5 (QjJ ds n x)
 | 0,x,h=>h
 | n+1,x,h=>Qsa hd (n:=n) (Qhv hd h)
theorem QnS{ds:List (Int×Int)}(hd:∀d∈ds,Qbo d):∀{n:Nat} {x:Int},R5 x→leB x (QjJ ds n x)
 | 0,x,h=>leB.refl _
 | n+1,x,h=>(QnR hd h).trans (QnS hd (n:=n) (Qhv hd h))
theorem Qhx{ds:List (Int×Int)}(hd:∀d∈ds,Qbo d){z:Int}(hz:R5 z)(hc:Qdl ds z):∀{n:Nat} {x:Int},R5 x→leB x z→leB (QjJ ds n x) z
 | 0,x,_,h=>h
 | n+1,x,hx,h=>Qhx hd hz hc (n:=n) (Qhv hd hx) (Qhw hd hx hz h hc)
theorem Qf1{ds:List (Int×Int)}(hd:∀d∈ds,Qbo d):∀{n:Nat} {x:Int},R5 x→5<QgX x+n→Qdl ds (QjJ ds n x)
 | 0,x,_,h=>by have:=QmW x;omega
 | n+1,x,hx,h=>by
  have hf:=QkQ hd hx
  by_cases e:Qgf ds x=x
  ·rw[QjJ,e,QiK e]
   exact hf.1 e
  ·have:=hf.2.1 e
   exact Qf1 hd (n:=n) (Qhv hd hx) (by omega)
theorem Qxe{ds:List (Int×Int)}{x:Int}(hd:∀d∈ds,Qbo d)(hx:R5 x):R5 (clo ds x):=Qsa hd hx
theorem QoD{ds:List (Int×Int)}{x:Int}(hd:∀d∈ds,Qbo d)(hx:R5 x):Qdl ds (clo ds x):=Qf1 hd hx (by omega)
theorem QvR{ds:List (Int×Int)}{x:Int}(hd:∀d∈ds,Qbo d)(hx:R5 x):leB x (clo ds x):=QnS hd hx
theorem Qqu{ds:List (Int×Int)}{x z:Int}(hd:∀d∈ds,Qbo d)(hx:R5 x)(hz:R5 z)(h:leB x z)(hc:Qdl ds z):leB (clo ds x) z:=Qhx hd hz hc hx h
theorem QvQ{ds:List (Int×Int)}{x y:Int}(hd:∀d∈ds,Qbo d)(hx:R5 x)(hy:R5 y)(h1:leB x y)(h2:leB y (clo ds x))(hc:Qdl ds y):y=clo ds x:=
 Qcm hy (Qxe hd hx) h2 (Qqu hd hx hy h1 hc)
theorem QzW{n:Int}{ds:List (Int×Int)}(h:ds.all (fun d=>Q2 n d.1 d.2)=true):∀d∈ds,Qbo d:=by
 intro d hd;have:=List.all_eq_true.1 h d hd
 simp only[Q2,Bool.and_eq_true,Qh]at this
 have h2:=Qt this.1.2
 exact⟨⟨h2.2.2.1,h2.2.2.2⟩,by omega,by omega⟩
end Go.Own
namespace Go.Own
open Go Go.Proofs
def QjY(x:Int)(d:Int×Int):Bool:=Qal d.1 x&& !Qy x d.2
def Qrd(ds:List (Int×Int))(x:Int):Option Nat:=ds.findIdx? (QjY x)
def QoM(ds:List (Int×Int))(r:Int):Nat→Int→List (Int×Int×Int)
 | 0,_=>[]
 | k+1,x=>if Qy x r then []else match Qrd ds x with
  | none=>[]
  | some i=>((i:Int),x,QbI x (ds.getD i (0,0)).2)::QoM ds r k (QbI x (ds.getD i (0,0)).2)
def der(ds:List (Int×Int))(r x:Int):List (Int×Int×Int):=QoM ds r 6 x
theorem Qrf{ds:List (Int×Int)}{x:Int}{i:Nat}(h:i<ds.length)(ha:QjY x (ds.getD i (0,0))=true)(hn:∀j,j<i→QjY x (ds.getD j (0,0))=false):Qrd ds x=some i:=by
 unfold Qrd;rw[List.findIdx?_eq_some_iff_getElem];refine⟨h,?_,fun j hj=>?_⟩
 ·simpa [List.getD_eq_getElem?_getD,h]using ha
 ·have:=hn j hj
  have hj2:j<ds.length:=by omega
  simpa [List.getD_eq_getElem?_getD,hj2]using this
theorem Qre{ds:List (Int×Int)}{x:Int}(hn:∀j,j<ds.length→QjY x (ds.getD j (0,0))=false):Qrd ds x=none:=by
 unfold Qrd;rw[List.findIdx?_eq_none_iff];intro d hd;obtain⟨j,hj,e⟩:=List.getElem_of_mem hd;have:=hn j hj
 simp only[List.getD_eq_getElem?_getD,hj,List.getElem?_eq_getElem,Option.getD_some,e]at this
 exact this
theorem Qg9{ds:List (Int×Int)}{x:Int}{i:Nat}(h:Qrd ds x=some i):i<ds.length∧QjY x (ds.getD i (0,0))=true:=by
 unfold Qrd at h;rw[List.findIdx?_eq_some_iff_getElem]at h;obtain⟨h1,h2,_⟩:=h;exact⟨h1,by simpa [List.getD_eq_getElem?_getD,h1]using h2⟩
theorem QdL{ds:List (Int×Int)}{x:Int}{i:Nat}(hd:∀d∈ds,Qbo d)(hx:R5 x)(hi:i<ds.length)(h:QjY x (ds.getD i (0,0))=true):QgX x<QgX (QbI x (ds.getD i (0,0)).2)∧R5 (QbI x (ds.getD i (0,0)).2):=by
 have hm:=hd _ (QI hi (0,0));simp only[QjY,Bool.and_eq_true,Bool.not_eq_true']at h
 exact⟨Qqy hx hm.2 h.2,Qdf hx hm.2⟩
theorem Qm3{ds:List (Int×Int)}{r:Int}(hd:∀d∈ds,Qbo d):∀{k k':Nat} {x:Int},R5 x→5<QgX x+k→5<QgX x+k'→QoM ds r k x=QoM ds r k' x
 | 0,_,x,_,h,_=>by have:=QmW x;omega
 | _+1,0,x,_,_,h=>by have:=QmW x;omega
 | k+1,k'+1,x,hx,h,h'=>by
  rw[QoM,QoM];split
  ·rfl
  ·cases e:Qrd ds x with
   | none=>rfl
   | some i=>
    obtain⟨h1,h2⟩:=Qg9 e;obtain⟨h3,h4⟩:=QdL hd hx h1 h2;dsimp only;rw[Qm3 hd (k:=k) (k':=k') h4 (by omega) (by omega)]
theorem Qxr{ds:List (Int×Int)}{r x:Int}(h:Qy x r=true):der ds r x=[]:=by
 unfold der;rw[QoM,if_pos h]
theorem Qug{ds:List (Int×Int)}{r x:Int}(h:Qrd ds x=none):der ds r x=[]:=by
 unfold der;rw[QoM,h];split<;>rfl
theorem Quh{ds:List (Int×Int)}{r x:Int}{i:Nat}(hd:∀d∈ds,Qbo d)(hx:R5 x)(h0:Qy x r=false)(h:Qrd ds x=some i):
  der ds r x=((i:Int),x,QbI x (ds.getD i (0,0)).2)::der ds r (QbI x (ds.getD i (0,0)).2):=by
 obtain⟨h1,h2⟩:=Qg9 h;obtain⟨h3,h4⟩:=QdL hd hx h1 h2;unfold der;rw[QoM,if_neg (by rw[h0];decide),h]
 dsimp only;rw[Qm3 hd (k:=5) (k':=6) h4 (by omega) (by omega)]
theorem Qi9{ds:List (Int×Int)}{r:Int}(hd:∀d∈ds,Qbo d):∀{k:Nat} {x:Int},R5 x→(QoM ds r k x).length≤k∧∀s∈QoM ds r k x,(0≤s.1∧s.1<ds.length)∧R5 s.2.1∧R5 s.2.2
 | 0,x,_=>by simp[QoM]
 | k+1,x,hx=>by
  rw[QoM];split
  ·simp
  ·cases e:Qrd ds x with
   | none=>simp
   | some i=>
    obtain⟨h1,h2⟩:=Qg9 e;obtain⟨h3,h4⟩:=QdL hd hx h1 h2;obtain⟨i1,i2⟩:=Qi9 hd (k:=k) (r:=r) h4;dsimp only;refine⟨by simpa using i1,fun s hs=>?_⟩
    rcases List.mem_cons.1 hs with rfl|hs
    ·exact⟨⟨by dsimp only;omega,by dsimp only;omega⟩,hx,h4⟩
    ·exact i2 s hs
def d3L(xs:List (Int×Int×Int)):List (List D):=xs.map fun q=>[D.v (.int .i64 q.1),D.v (.int .i64 q.2.1),D.v (.int .i64 q.2.2)]
def un3(l:List (List D)):List (Int×Int×Int):=l.map fun
 | [.v (.int .i64 a),.v (.int .i64 b),.v (.int .i64 c)]=>(a,b,c)
 | _=>(0,0,0)
theorem QsO(xs:List (Int×Int×Int)):un3 (d3L xs)=xs:=by simp[un3,d3L,Function.comp_def]
theorem Qio(xs:List (Int×Int×Int)):(d3L xs).length=xs.length:=by simp[d3L]
theorem QqJ{xs:List (Int×Int×Int)}{i:Nat}(h:i<xs.length):(d3L xs).getD i []=[D.v (.int .i64 (xs.getD i (0,0,0)).1),D.v (.int .i64 (xs.getD i (0,0,0)).2.1),D.v (.int .i64 (xs.getD i (0,0,0)).2.2)]:=by
 simp[d3L,List.getD_eq_getElem?_getD,h]
theorem Qm1{xs:List (Int×Int×Int)}{a b c:Int}:d3L xs++[[D.v (.int .i64 a),D.v (.int .i64 b),D.v (.int .i64 c)]]=d3L (xs++[(a,b,c)]):=by simp[d3L]
theorem QAQ{a b c:Value}:(∀x∈[D.v a,D.v b,D.v c],Qau x)↔True:=by
 refine⟨fun _=>trivial,fun _ x hx=>?_⟩
 simp only[List.mem_cons,List.not_mem_nil,or_false]at hx
 rcases hx with rfl|rfl|rfl<;>trivial
end Go.Own
