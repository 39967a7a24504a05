/- Contracts. Conditions: as stated. -/
import Derived.Test.YtnmkpepdacbfaaaGreatDoorRp09
set_option linter.all false
set_option maxRecDepth 20000
set_option maxHeartbeats 2000000
namespace Go.Own
open Go Go.Proofs
theorem QoI{rs:List (List Int)}{c:Nat}{m l r:Int}{i:Nat}:∀{n k:Nat},dpK rs c m l r i k n=none↔∀j,k≤j→j<k+n→dpC rs c m l r i j=false
 | 0,k=>⟨fun _ j h1 h2=>absurd h1 (by omega),fun _=>rfl⟩
 | n+1,k=>by
  rw[dpK];split
  ·rename_i h
   refine⟨fun h=>(nomatch h),fun q=>?_⟩
   rw[q k (KP _) (by omega)]at h;cases h
  ·rename_i h
   rw[@QoI rs c m l r i n (k+1)];constructor
   ·intro q j h1 h2
    by_cases e:j=k
    ·subst e;simpa using h
    ·exact q j (by omega) (by omega)
   ·intro q j h1 h2;exact q j (by omega) (by omega)
theorem Qui{rs:List (List Int)}{c:Nat}{m l r:Int}:∀{n i:Nat},i+n≤rs.length→(dpI rs c m l r i n=none↔∀k,i≤k→k<i+n→∀j,k<j→j<rs.length→dpC rs c m l r k j=false)
 | 0,i,_=>⟨fun _ j h1 h2=>absurd h1 (by omega),fun _=>rfl⟩
 | n+1,i,hn=>by
  rw[dpI];cases hk:dpK rs c m l r i (i+1) (rs.length-(i+1))with
  | some k=>
   dsimp only;refine⟨fun h=>(nomatch h),fun q=>?_⟩
   have:=QoI.2 fun j (h1:i+1≤j) (h2:j<i+1+(rs.length-(i+1)))=>q i (KP _) (by omega) j (by omega) (by omega)
   rw[this]at hk;cases hk
  | none=>
   dsimp only;rw[@Qui rs c m l r n (i+1) (by omega)]
   rw[QoI]at hk;constructor
   ·intro q k h1 h2 j hj hj2
    by_cases e:k=i
    ·subst e;exact hk j (by omega) (by omega)
    ·exact q k (by omega) (by omega) j hj hj2
   ·intro q k h1 h2;exact q k (by omega) (by omega)
theorem QoL{c:Int}{rs:List (List Int)}{m l r:Int}:hdB c rs m l r=true↔QaY c rs m l r=true∧∀i j,i<j→j<rs.length→Qtm (agL m (rs.getD i []) (rs.getD j []) c.toNat) l r=false:=by
 unfold hdB;rw[KB];refine and_congr_right fun _=>?_
 unfold wtO;rw[Option.isNone_iff_eq_none,Qui (by omega)]
 constructor
 ·intro h i j h1 h2;exact h i (by omega) (by omega) j h1 h2
 ·intro h k h1 h2 j h3 h4;exact h k j h3 h4
theorem QDC:∀x:Fin 32,∀c:Fin 5,x.val<2^c.val→Qu ((x.val:Nat):Int) ((c.val:Nat):Int)=false∧QV .or .i64 ((x.val:Nat):Int) (1*2^c.val)≤2^(c.val+1)-1∧∀r:Fin 5,Qu (QV .or .i64 ((x.val:Nat):Int) (1*2^c.val)) ((r.val:Nat):Int)=(Qu ((x.val:Nat):Int) ((r.val:Nat):Int)||r.val==c.val):=by decide+kernel
theorem QA9:∀r:Fin 5,Qu 0 ((r.val:Nat):Int)=false:=by decide+kernel
theorem Qod{m:Int}{a b:List Int}:∀{n:Nat},n≤5→(0≤agL m a b n∧agL m a b n≤2^n-1)∧∀r:Nat,r<5→Qu (agL m a b n) (r:Nat)=(decide (r<n)&&eqc m (a.getD r 0) (b.getD r 0))
 | 0,_=>⟨by simp[agL],fun r hr=>by
   rw[agL,KW (by omega),KT]
   exact QA9 ⟨r,hr⟩⟩
 | c+1,h=>by
  obtain⟨ih1,ih2⟩:=@Qod m a b c (by omega)
  have e2:((2^c:Nat):Int)=(2:Int)^c:=by simp
  have e3:(2:Int)^(c+1)=2^c*2:=Int.pow_succ _ _
  have hp:=p5 (c:=c) (by omega)
  have hx:=QDC ⟨(agL m a b c).toNat,by omega⟩ ⟨c,by omega⟩ (by dsimp only;omega)
  have hor:=Qvn ⟨(agL m a b c).toNat,by omega⟩ ⟨c,by omega⟩
  dsimp only at hx hor;rw[show(((agL m a b c).toNat:Nat):Int)=agL m a b c by omega]at hx hor
  obtain⟨x1,x2,x3⟩:=hx;rw[agL];cases he:eqc m (a.getD c 0) (b.getD c 0)
  ·rw[if_neg (by decide)]
   refine⟨by omega,fun r hr=>?_⟩
   by_cases e:r=c
   ·subst e
    rw[x1,he,YM]
   ·rw[ih2 r hr]
    congr 1
    rw[Kp,KK,KK];omega
  ·rw[if_pos rfl]
   refine⟨⟨hor.1,x2⟩,fun r hr=>?_⟩
   rw[x3 ⟨r,hr⟩,ih2 r hr];dsimp only
   by_cases e:r=c
   ·subst e
    have hlt:decide (r<r+1)=true:=KZ (by omega)
    rw[hlt,KY,beq_self_eq_true,Bool.or_true];exact he.symm
   ·rw[KU.2 e,Bool.or_false]
    congr 1
    rw[Kp,KK,KK];omega
def R5(x:Int):Prop:=0≤x∧x≤31
def Qab(l x:Int):Bool:=QV .andNot .i64 l x==0
def Qbp(x r:Int):Int:=QV .or .i64 x (1*2^r.toNat)
def leB(x y:Int):Prop:=∀c:Fin 5,Qu x (c.val:Nat)=true→Qu y (c.val:Nat)=true
theorem Qs4:∀x:Fin 32,∀r:Fin 5,(0≤Qbp ((x.val:Nat):Int) ((r.val:Nat):Int)∧Qbp ((x.val:Nat):Int) ((r.val:Nat):Int)≤31)∧∀c:Fin 5,Qu (Qbp ((x.val:Nat):Int) ((r.val:Nat):Int)) ((c.val:Nat):Int)=(Qu ((x.val:Nat):Int) ((c.val:Nat):Int)||c==r):=by decide+kernel
theorem R5.fin{x:Int}(h:R5 x):∃q:Fin 32,x=((q.val:Nat):Int):=by
 have h1:0≤x:=h.1
 have h2:x≤31:=h.2
 exact⟨⟨x.toNat,by omega⟩,by show x=((x.toNat:Nat):Int);omega⟩
theorem c5{r:Int}(h:0≤r∧r≤4):∃q:Fin 5,r=((q.val:Nat):Int):=⟨⟨r.toNat,by omega⟩,by show r=((r.toNat:Nat):Int);omega⟩
theorem Qd4{x r:Int}(hx:R5 x)(hr:0≤r∧r≤4):R5 (Qbp x r):=by
 obtain⟨x,rfl⟩:=hx.fin;obtain⟨r,rfl⟩:=c5 hr;exact(Qs4 x r).1
theorem Qk0{x:Int}{r:Fin 5}(hx:R5 x)(c:Fin 5):Qu (Qbp x (r.val:Nat)) (c.val:Nat)=(Qu x (c.val:Nat)||c==r):=by
 obtain⟨x,rfl⟩:=hx.fin;exact(Qs4 x r).2 c
theorem QBi:∀l x:Fin 32,Qab ((l.val:Nat):Int) ((x.val:Nat):Int)=decide (∀c:Fin 5,Qu ((l.val:Nat):Int) (c.val:Nat)=true→Qu ((x.val:Nat):Int) (c.val:Nat)=true):=by decide+kernel
theorem Qaq{l x:Int}(hl:R5 l)(hx:R5 x):Qab l x=true↔leB l x:=by
 obtain⟨l,rfl⟩:=hl.fin;obtain⟨x,rfl⟩:=hx.fin;rw[QBi,KK];rfl
theorem QA3:∀x y:Fin 32,(∀c:Fin 5,Qu ((x.val:Nat):Int) (c.val:Nat)=Qu ((y.val:Nat):Int) (c.val:Nat))→x=y:=by decide+kernel
theorem QcU{x y:Int}(hx:R5 x)(hy:R5 y)(h1:leB x y)(h2:leB y x):x=y:=by
 obtain⟨x,rfl⟩:=hx.fin;obtain⟨y,rfl⟩:=hy.fin;rw[QA3 x y fun c=>by
  cases e:Qu ((x.val:Nat):Int) (c.val:Nat)with
  | true=>rw[h1 c e]
  | false=>cases e2:Qu ((y.val:Nat):Int) (c.val:Nat)with
   | true=>rw[h2 c e2]at e;cases e
   | false=>rfl]
theorem leB.refl(x:Int):leB x x:=fun _ h=>h
theorem leB.trans{x y z:Int}(h1:leB x y)(h2:leB y z):leB x z:=fun c h=>h2 c (h1 c h)
theorem QlF{x r:Int}(hx:R5 x)(hr:0≤r∧r≤4):leB x (Qbp x r):=fun c h=>by
 obtain⟨r,rfl⟩:=c5 hr;rw[Qk0 hx,h];rfl
theorem QlG{x r z:Int}(hx:R5 x)(hr:0≤r∧r≤4)(h1:leB x z)(h2:Qu z r=true):leB (Qbp x r) z:=fun c h=>by
 obtain⟨r,rfl⟩:=c5 hr;rw[Qk0 hx]at h;rcases Bool.or_eq_true_iff.1 h with h|h
 ·exact h1 c h
 ·rw[eq_of_beq h];exact h2
theorem QDA{x z r:Int}(hr:0≤r∧r≤4)(h:leB x z)(h2:Qu x r=true):Qu z r=true:=by
 obtain⟨r,rfl⟩:=c5 hr;exact h r h2
def Qhj(x:Int):Nat:=(List.range 5).countP fun c=>Qu x (c:Nat)
theorem QtU{x r:Int}(hx:R5 x)(hr:0≤r∧r≤4)(hn:Qu x r=false):Qhj x<Qhj (Qbp x r):=by
 obtain⟨r,rfl⟩:=c5 hr;obtain⟨x,rfl⟩:=hx.fin;have:∀x:Fin 32,∀r:Fin 5,Qu ((x.val:Nat):Int) (r.val:Nat)=false→Qhj ((x.val:Nat):Int)<Qhj (Qbp ((x.val:Nat):Int) ((r.val:Nat):Int)):=by decide+kernel
 exact this x r hn
theorem QmN(x:Int):Qhj x≤5:=by
 have:=List.countP_le_length (p:=fun c:Nat=>Qu x (c:Nat)) (l:=List.range 5)
 rwa [List.length_range]at this
theorem QwA{x r:Int}(hx:R5 x)(hr:0≤r∧r≤4)(h:Qu x r=true):Qbp x r=x:=QcU (Qd4 hx hr) hx (QlG hx hr (leB.refl _) h) (QlF hx hr)
theorem Qz9:∀l x:Fin 32,(QV .and .i64 ((l.val:Nat):Int) ((x.val:Nat):Int)==((l.val:Nat):Int))=Qab ((l.val:Nat):Int) ((x.val:Nat):Int):=by decide+kernel
theorem Qdx{l x:Int}(hl:R5 l)(hx:R5 x):(QV .and .i64 l x==l)=Qab l x:=by
 obtain⟨l,rfl⟩:=hl.fin;obtain⟨x,rfl⟩:=hx.fin;exact Qz9 l x
def Qbv(d:Int×Int):Prop:=R5 d.1∧0≤d.2∧d.2≤4
def Qey(x:Int)(d:Int×Int):Int:=if Qab d.1 x then Qbp x d.2 else x
def Qfw(ds:List (Int×Int))(x:Int):Int:=ds.foldl Qey x
def QhH(ds:List (Int×Int)):Nat→Int→Int
 | 0,x=>x
 | n+1,x=>QhH ds n (Qfw ds x)
def clo(ds:List (Int×Int))(x:Int):Int:=QhH ds 6 x
def Qec(ds:List (Int×Int))(y:Int):Prop:=∀d∈ds,Qab d.1 y=true→Qu y d.2=true
theorem Qjx{x:Int}{d:Int×Int}(hx:R5 x)(hd:Qbv d):R5 (Qey x d):=by
 unfold Qey;split
 ·exact Qd4 hx hd.2
 ·exact hx
theorem QyU{x:Int}{d:Int×Int}(hx:R5 x)(hd:Qbv d):leB x (Qey x d):=by
 unfold Qey;split
 ·exact QlF hx hd.2
 ·exact leB.refl _
theorem Qpi{x z:Int}{d:Int×Int}(hx:R5 x)(hz:R5 z)(hd:Qbv d)(h:leB x z)(hc:Qab d.1 z=true→Qu z d.2=true):leB (Qey x d) z:=by
 unfold Qey;split
 ·rename_i h1
  exact QlG hx hd.2 h (hc ((Qaq hd.1 hz).2 (((Qaq hd.1 hx).1 h1).trans h)))
 ·exact h
theorem Qg5:∀{ds:List (Int×Int)} {x:Int},(∀d∈ds,Qbv d)→R5 x→R5 (Qfw ds x)
 | [],x,_,h=>h
 | d::ds,x,hd,h=>Qg5 (ds:=ds) (fun d h=>hd d (YP _ h)) (Qjx h (hd d (by simp)))
theorem QqZ:∀{ds:List (Int×Int)} {x:Int},(∀d∈ds,Qbv d)→R5 x→leB x (Qfw ds x)
 | [],x,_,h=>leB.refl _
 | d::ds,x,hd,h=>(QyU h (hd d (by simp))).trans (QqZ (ds:=ds) (fun d h=>hd d (YP _ h)) (Qjx h (hd d (by simp))))
theorem Qji:∀{ds:List (Int×Int)} {x z:Int},(∀d∈ds,Qbv d)→R5 x→R5 z→leB x z→Qec ds z→leB (Qfw ds x) z
 | [],x,z,_,_,_,h,_=>h
 | d::ds,x,z,hd,hx,hz,h,hc=>Qji (ds:=ds) (fun d h=>hd d (YP _ h)) (Qjx hx (hd d (by simp))) hz (Qpi hx hz (hd d (by simp)) h (hc d (by simp))) fun d h=>hc d (YP _ h)
theorem Qnw:∀{ds:List (Int×Int)} {x:Int},(∀d∈ds,Qbv d)→R5 x→(Qfw ds x=x→Qec ds x)∧(Qfw ds x≠x→Qhj x<Qhj (Qfw ds x))∧Qhj x≤Qhj (Qfw ds x)
 | [],x,_,h=>⟨(fun _ d h=>nomatch h),fun h=>absurd rfl h,KP _⟩
 | d::ds,x,hd,hx=>by
  have hd0:=hd d (by simp)
  have hds:∀d∈ds,Qbv d:=fun d h=>hd d (YP _ h)
  have ih:=Qnw hds (Qjx hx hd0)
  have e:Qfw (d::ds) x=Qfw ds (Qey x d):=rfl
  rw[e]
  by_cases hs:Qab d.1 x=true∧Qu x d.2=false
  ·have h1:Qey x d=Qbp x d.2:=by unfold Qey;rw[if_pos hs.1]
   have h2:=QtU hx hd0.2 hs.2
   rw[h1]at ih ⊢;refine⟨fun h=>?_,fun _=>by omega,by omega⟩
   rw[h]at ih;omega
  ·have h1:Qey x d=x:=by
    unfold Qey;split
    ·rename_i hi
     refine QwA hx hd0.2 ?_
     cases q:Qu x d.2 with
     | true=>rfl
     | false=>exact absurd ⟨hi,q⟩ hs
    ·rfl
   rw[h1]at ih ⊢;refine⟨fun h d' hd' hi=>?_,ih.2⟩
   rcases KI.1 hd' with rfl|hd'
   ·cases q:Qu x d'.2 with
    | true=>rfl
    | false=>exact absurd ⟨hi,q⟩ hs
   ·exact ih.1 h d' hd' hi
theorem QkJ{ds:List (Int×Int)}{x:Int}(h:Qfw ds x=x):∀n,QhH ds n x=x
 | 0=>rfl
 | n+1=>by rw[QhH,h,QkJ h n]
theorem Qvu{ds:List (Int×Int)}(hd:∀d∈ds,Qbv d):∀{n:Nat} {x:Int},R5 x→R5 (QhH ds n x)
 | 0,x,h=>h
 | n+1,x,h=>Qvu hd (n:=n) (Qg5 hd h)
theorem Qq0{ds:List (Int×Int)}(hd:∀d∈ds,Qbv d):∀{n:Nat} {x:Int},R5 x→leB x (QhH ds n x)
 | 0,x,h=>leB.refl _
 | n+1,x,h=>(QqZ hd h).trans (Qq0 hd (n:=n) (Qg5 hd h))
theorem Qjj{ds:List (Int×Int)}(hd:∀d∈ds,Qbv d){z:Int}(hz:R5 z)(hc:Qec ds z):∀{n:Nat} {x:Int},R5 x→leB x z→leB (QhH ds n x) z
 | 0,x,_,h=>h
 | n+1,x,hx,h=>Qjj hd hz hc (n:=n) (Qg5 hd hx) (Qji hd hx hz h hc)
theorem Qhr{ds:List (Int×Int)}(hd:∀d∈ds,Qbv d):∀{n:Nat} {x:Int},R5 x→5<Qhj x+n→Qec ds (QhH ds n x)
 | 0,x,_,h=>by have:=QmN x;omega
 | n+1,x,hx,h=>by
  have hf:=Qnw hd hx
  by_cases e:Qfw ds x=x
  ·rw[QhH,e,QkJ e]
   exact hf.1 e
  ·have:=hf.2.1 e
   exact Qhr hd (n:=n) (Qg5 hd hx) (by omega)
theorem Qou{ds:List (Int×Int)}{x:Int}(hd:∀d∈ds,Qbv d)(hx:R5 x):R5 (clo ds x):=Qvu hd hx
theorem QrU{ds:List (Int×Int)}{x:Int}(hd:∀d∈ds,Qbv d)(hx:R5 x):Qec ds (clo ds x):=Qhr hd hx (by omega)
theorem Qze{ds:List (Int×Int)}{x:Int}(hd:∀d∈ds,Qbv d)(hx:R5 x):leB x (clo ds x):=Qq0 hd hx
theorem QmL{ds:List (Int×Int)}{x z:Int}(hd:∀d∈ds,Qbv d)(hx:R5 x)(hz:R5 z)(h:leB x z)(hc:Qec ds z):leB (clo ds x) z:=Qjj hd hz hc hx h
theorem Qzd{ds:List (Int×Int)}{x y:Int}(hd:∀d∈ds,Qbv d)(hx:R5 x)(hy:R5 y)(h1:leB x y)(h2:leB y (clo ds x))(hc:Qec ds y):y=clo ds x:=
 QcU hy (Qou hd hx) h2 (QmL hd hx hy h1 hc)
theorem QDr{n:Int}{ds:List (Int×Int)}(h:ds.all (fun d=>QO n d.1 d.2)=true):∀d∈ds,Qbv d:=by
 intro d hd;have:=Kg.1 h d hd
 simp only[QO,KB,Qj]at this
 have h2:=Qq this.1.2
 exact⟨⟨h2.2.2.1,h2.2.2.2⟩,by omega,by omega⟩
def QjI(x:Int)(d:Int×Int):Bool:=Qab d.1 x&& !Qu x d.2
def Qur(ds:List (Int×Int))(x:Int):Option Nat:=ds.findIdx? (QjI x)
def Qr3(ds:List (Int×Int))(r:Int):Nat→Int→List (Int×Int×Int)
 | 0,_=>[]
 | k+1,x=>if Qu x r then []else match Qur ds x with
  | none=>[]
  | some i=>((i:Int),x,Qbp x (ds.getD i (0,0)).2)::Qr3 ds r k (Qbp x (ds.getD i (0,0)).2)
def der(ds:List (Int×Int))(r x:Int):List (Int×Int×Int):=Qr3 ds r 6 x
theorem Qut{ds:List (Int×Int)}{x:Int}{i:Nat}(h:i<ds.length)(ha:QjI x (ds.getD i (0,0))=true)(hn:∀j,j<i→QjI x (ds.getD j (0,0))=false):Qur ds x=some i:=by
 unfold Qur;rw[List.findIdx?_eq_some_iff_getElem];refine⟨h,?_,fun j hj=>?_⟩
 ·simpa [KD,h]using ha
 ·have:=hn j hj
  have hj2:j<ds.length:=by omega
  simpa [KD,hj2]using this
theorem Qus{ds:List (Int×Int)}{x:Int}(hn:∀j,j<ds.length→QjI x (ds.getD j (0,0))=false):Qur ds x=none:=by
 unfold Qur;rw[List.findIdx?_eq_none_iff];intro d hd;obtain⟨j,hj,e⟩:=YA hd;have:=hn j hj
 simp only[KD,hj,Kc,YF,e]at this
 exact this
theorem QiW{ds:List (Int×Int)}{x:Int}{i:Nat}(h:Qur ds x=some i):i<ds.length∧QjI x (ds.getD i (0,0))=true:=by
 unfold Qur at h;rw[List.findIdx?_eq_some_iff_getElem]at h;obtain⟨h1,h2,_⟩:=h;exact⟨h1,by simpa [KD,h1]using h2⟩
theorem Qdy{ds:List (Int×Int)}{x:Int}{i:Nat}(hd:∀d∈ds,Qbv d)(hx:R5 x)(hi:i<ds.length)(h:QjI x (ds.getD i (0,0))=true):Qhj x<Qhj (Qbp x (ds.getD i (0,0)).2)∧R5 (Qbp x (ds.getD i (0,0)).2):=by
 have hm:=hd _ (QE hi (0,0));simp only[QjI,KB,Ko]at h
 exact⟨QtU hx hm.2 h.2,Qd4 hx hm.2⟩
theorem Qp0{ds:List (Int×Int)}{r:Int}(hd:∀d∈ds,Qbv d):∀{k k':Nat} {x:Int},R5 x→5<Qhj x+k→5<Qhj x+k'→Qr3 ds r k x=Qr3 ds r k' x
 | 0,_,x,_,h,_=>by have:=QmN x;omega
 | _+1,0,x,_,_,h=>by have:=QmN x;omega
 | k+1,k'+1,x,hx,h,h'=>by
  rw[Qr3,Qr3];split
  ·rfl
  ·cases e:Qur ds x with
   | none=>rfl
   | some i=>
    obtain⟨h1,h2⟩:=QiW e;obtain⟨h3,h4⟩:=Qdy hd hx h1 h2;dsimp only;rw[Qp0 hd (k:=k) (k':=k') h4 (by omega) (by omega)]
theorem Qud{ds:List (Int×Int)}{r x:Int}(h:Qu x r=true):der ds r x=[]:=by
 unfold der;rw[Qr3,if_pos h]
theorem QxF{ds:List (Int×Int)}{r x:Int}(h:Qur ds x=none):der ds r x=[]:=by
 unfold der;rw[Qr3,h];split<;>rfl
theorem QxG{ds:List (Int×Int)}{r x:Int}{i:Nat}(hd:∀d∈ds,Qbv d)(hx:R5 x)(h0:Qu x r=false)(h:Qur ds x=some i):
  der ds r x=((i:Int),x,Qbp x (ds.getD i (0,0)).2)::der ds r (Qbp x (ds.getD i (0,0)).2):=by
 obtain⟨h1,h2⟩:=QiW h;obtain⟨h3,h4⟩:=Qdy hd hx h1 h2;unfold der;rw[Qr3,if_neg (by rw[h0];decide),h]
 dsimp only;rw[Qp0 hd (k:=5) (k':=6) h4 (by omega) (by omega)]
theorem QC2{ds:List (Int×Int)}{x0 x r:Int}(hd:∀d∈ds,Qbv d)(h0:R5 x0)(hx:R5 x)(hr:0≤r∧r≤4)(hl:leB x0 x)(hc:Qu (clo ds x0) r=true)(hn:∀j,j<ds.length→QjI x (ds.getD j (0,0))=false):Qu x r=true:=by
 refine QDA hr (QmL hd h0 hx hl fun d hdm hi=>?_) hc
 obtain⟨j,hj,e⟩:=YA hdm;have:=hn j hj
 simp only[KD,hj,Kc,YF,e,QjI,hi,KY,YL]at this
 exact this
theorem Qln{ds:List (Int×Int)}{r:Int}(hd:∀d∈ds,Qbv d):∀{k:Nat} {x:Int},R5 x→(Qr3 ds r k x).length≤k∧∀s∈Qr3 ds r k x,(0≤s.1∧s.1<ds.length)∧R5 s.2.1∧R5 s.2.2
 | 0,x,_=>by simp[Qr3]
 | k+1,x,hx=>by
  rw[Qr3];split
  ·simp
  ·cases e:Qur ds x with
   | none=>simp
   | some i=>
    obtain⟨h1,h2⟩:=QiW e;obtain⟨h3,h4⟩:=Qdy hd hx h1 h2;obtain⟨i1,i2⟩:=Qln hd (k:=k) (r:=r) h4;dsimp only;refine⟨by simpa using i1,fun s hs=>?_⟩
    rcases KI.1 hs with rfl|hs
    ·exact⟨⟨by dsimp only;omega,by dsimp only;omega⟩,hx,h4⟩
    ·exact i2 s hs
def d3L(xs:List (Int×Int×Int)):List (List D):=xs.map fun q=>[D.v (.int .i64 q.1),D.v (.int .i64 q.2.1),D.v (.int .i64 q.2.2)]
def un3(l:List (List D)):List (Int×Int×Int):=l.map fun
 | [.v (.int .i64 a),.v (.int .i64 b),.v (.int .i64 c)]=>(a,b,c)
 | _=>(0,0,0)
theorem Qv8(xs:List (Int×Int×Int)):un3 (d3L xs)=xs:=by simp[un3,d3L,Function.comp_def]
theorem Qkl(xs:List (Int×Int×Int)):(d3L xs).length=xs.length:=by simp[d3L]
theorem Qt7{xs:List (Int×Int×Int)}{i:Nat}(h:i<xs.length):(d3L xs).getD i []=[D.v (.int .i64 (xs.getD i (0,0,0)).1),D.v (.int .i64 (xs.getD i (0,0,0)).2.1),D.v (.int .i64 (xs.getD i (0,0,0)).2.2)]:=by
 simp[d3L,KD,h]
theorem QpU{xs:List (Int×Int×Int)}{a b c:Int}:d3L xs++[[D.v (.int .i64 a),D.v (.int .i64 b),D.v (.int .i64 c)]]=d3L (xs++[(a,b,c)]):=by simp[d3L]
theorem QEh{a b c:Value}:(∀x∈[D.v a,D.v b,D.v c],QaO x)↔True:=by
 refine⟨fun _=>trivial,fun _ x hx=>?_⟩
 simp only[KI,YK,or_false]at hx
 rcases hx with rfl|rfl|rfl<;>trivial
attribute [local go_sem] Qax QcL Tryz.results202 Tryz.results127 Tryz.results164 QT QhO Tryz.results109 Tryz.results84 Qh Qg Qae Qag Qaf Qaj Qa7 Qd1 Qv
def Qk7:Qb:=⟨[],false,fun
 | [.one (.sl 2 l),.one (.v (.int .i64 x))]=>some (WfD l∧(∀d∈unD l,Qbv d)∧0≤x∧x≤31,[⟨false,[.d (.v (.int .i64 (clo (unD l) x)))]⟩],[])
 | _=>none⟩
attribute [local go_sem] Qk7
theorem Qlm{ds:List (Int×Int)}{i:Nat}(hd:∀d∈ds,Qbv d)(h:i<ds.length):(0≤(ds.getD i (0,0)).1∧(ds.getD i (0,0)).1≤31)∧0≤(ds.getD i (0,0)).2∧(ds.getD i (0,0)).2≤4:=by
 have:=hd _ (QE h (0,0))
 exact⟨this.1,this.2⟩
theorem Qbw{l x:Int}:Qab l x=(QV .andNot .i64 l x==0):=rfl
theorem QCc{r:Int}(h:0≤r∧r≤4):1≤(2:Int)^r.toNat∧(2:Int)^r.toNat≤16:=p5 (c:=r.toNat) (by omega)
theorem Qoe{ds:List (Int×Int)}{x:Int}(hn:∀j,j<ds.length→QjI x (ds.getD j (0,0))=false):Qec ds x:=by
 intro d hdm hi;obtain⟨j,hj,e⟩:=YA hdm;have:=hn j hj
 simp only[KD,hj,Kc,YF,e,QjI,hi,KY,YL]at this
 exact this
theorem QpA{x r:Int}(hx:R5 x)(hr:0≤r∧r≤4):0≤Qbp x r∧Qbp x r≤31:=Qd4 hx hr
def QCN(ds:List (Int×Int))(x0:Int)(i:Nat)(x:Int):Prop:=i≤ds.length∧R5 x∧leB x0 x∧leB x (clo ds x0)∧∀j,j<i→QjI x (ds.getD j (0,0))=false
theorem Qxl{ds:List (Int×Int)}{x0 x:Int}{i:Nat}(hd:∀d∈ds,Qbv d)(h0:R5 x0)(h:QCN ds x0 i x)(h5:i<ds.length)(ha:QjI x (ds.getD i (0,0))=true):QCN ds x0 0 (Qbp x (ds.getD i (0,0)).2):=by
 obtain⟨h1,h2,h3,h4,_⟩:=h;have hm:=hd _ (QE h5 (0,0));simp only[QjI,KB,Ko]at ha
 refine⟨KJ _,Qd4 h2 hm.2,h3.trans (QlF h2 hm.2),QlG h2 hm.2 h4 ?_,fun j hj=>absurd hj (Nat.not_lt_zero _)⟩
 exact QrU hd h0 _ (QE h5 (0,0)) ((Qaq hm.1 (Qou hd h0)).2 (((Qaq hm.1 h2).1 ha.1).trans h4))
theorem QtP{ds:List (Int×Int)}{x0 x:Int}{i:Nat}(h:QCN ds x0 i x)(h5:i<ds.length)(ha:QjI x (ds.getD i (0,0))=false):QCN ds x0 (i+1) x:=by
 obtain⟨h1,h2,h3,h4,h6⟩:=h;refine⟨h5,h2,h3,h4,fun j hj=>?_⟩
 by_cases e:j=i
 ·subst e;exact ha
 ·exact h6 j (by omega)
theorem Qxm{ds:List (Int×Int)}{x0 x:Int}(hd:∀d∈ds,Qbv d)(h0:R5 x0)(h:QCN ds x0 ds.length x):x=clo ds x0:=by
 obtain⟨h1,h2,h3,h4,h6⟩:=h;exact Qzd hd h0 h2 h3 h4 (Qoe h6)
def cmu(L:Nat)(i:Nat)(x:Int):Nat:=(5-Qhj x)*(L+1)+(L-i)
theorem QpP{L i:Nat}{x:Int}(h:i<L):cmu L (i+1) x<cmu L i x:=by unfold cmu;omega
theorem QtS{L i:Nat}{x y:Int}(h:Qhj x<Qhj y)(hi:i<L):cmu L 0 y<cmu L i x:=by
 unfold cmu;have:=QmN y
 have e:5-Qhj x=(5-Qhj y)+(Qhj y-Qhj x):=by omega
 rw[e,YD];have:(L+1)≤(Qhj y-Qhj x)*(L+1):=Nat.le_mul_of_pos_left _ (by omega)
 omega
theorem QeH:Qa E0 202 Qk7:=by
 refine QG (E:=E0) (T:=mkT Tryz.prog [(157,Qax),(149,QcL)] false (fun _=>false) true (fun _=>false)) (Qd (E:=E0) (.cons Qbe (.cons QcA .nil))) (fn:=Tryz.f202) Tryz.func202 kR rfl Qc kR rfl ?_
 intro args p rs ms hr;unfold Qk7 at hr;dsimp only at hr;split at hr;rotate_left
 ·cases hr
 rename_i l x;cases hr;refine⟨rfl,rfl,nLe rfl,?_⟩
 have hm:=mxE;rintro⟨h1,hd,hx1,hx2⟩ bs;obtain⟨ds,rfl,hx⟩:=h1.ex;clear h1;rw[Qh]at hd ⊢;refine gR ?_
 refine lpI {ι:=Nat×Int,rs:=[(6,37)],mods:=[(5,fun i=> .one (.d (.v (.int .i64 i.1)))),(1,fun i=> .one (.d (.v (.int .i64 i.2))))],boxes:=[],arrs:=[],ok:=fun i=>QCN ds x i.1 i.2,mu:=fun i=>cmu ds.length i.1 i.2} rfl (0,x) ⟨KJ _,⟨hx1,hx2⟩,leB.refl _,Qze hd ⟨hx1,hx2⟩,fun j hj=>absurd hj (Nat.not_lt_zero _)⟩ ?_ ?_
 ·exact gQ
 ·rintro⟨i,y⟩ hi
  dsimp only at hi;have hi1:=hi.1
  obtain⟨y1,y2⟩:=hi.2.1
  by_cases h5:i<ds.length
  ·obtain⟨⟨d1,d2⟩,d3,d4⟩:=Qlm hd h5
   have hs:=QCc ⟨d3,d4⟩
   cases ha:QjI y (ds.getD i (0,0))
   ·have hn:=QtP hi h5 ha
    have ha2:(Qab (ds.getD i (0,0)).1 y&& !Qu y (ds.getD i (0,0)).2)=false:=ha
    rw[Qbw]at ha2;clear hi ha hd hs;refine gR ?_;intros
    refine lpN (i+1,y) hn (QpP h5) ?_
    clear hn;exact gP
   ·have hn:=Qxl hd ⟨hx1,hx2⟩ hi h5 ha
    have hc:=(Qdy hd ⟨y1,y2⟩ h5 ha).1
    have hb:=QpA ⟨y1,y2⟩ ⟨d3,d4⟩
    have ha2:(Qab (ds.getD i (0,0)).1 y&& !Qu y (ds.getD i (0,0)).2)=true:=ha
    rw[Qbw]at ha2;have e:QV .or .i64 y (1*2^(ds.getD i (0,0)).2.toNat)=Qbp y (ds.getD i (0,0)).2:=rfl
    clear hi ha hd;refine gR ?_;intros
    refine lpN (0,Qbp y (ds.getD i (0,0)).2) hn (QtS hc h5) ?_
    clear hn hc;exact gP
  ·have e5:i=ds.length:=by omega
   subst e5;have e:=Qxm hd ⟨hx1,hx2⟩ hi
   clear hi hd;(repeat' first|refine gA fun _=>?_|apply fkI<;>intro hb<;>try simp only[ew]at hb|simp only[go_sem,simprocAttr, *])
   all_goals first|exact e|skip
theorem Qco:Qa E0 127 Qk7:=by
 refine QG (E:=E0) (T:=mkT Tryz.prog [] false (fun _=>false) true (fun _=>false)) (Qd (E:=E0) .nil) (fn:=Tryz.f127) Tryz.func127 kR rfl Qc kR rfl ?_
 intro args p rs ms hr;unfold Qk7 at hr;dsimp only at hr;split at hr;rotate_left
 ·cases hr
 rename_i l x;cases hr;refine⟨rfl,rfl,nLe rfl,?_⟩
 have hm:=mxE;rintro⟨h1,hd,hx1,hx2⟩ bs;obtain⟨ds,rfl,hx⟩:=h1.ex;clear h1;rw[Qh]at hd ⊢;unfold clo;generalize hF:QhH ds 6 x=F;refine gR ?_
 refine lpI {ι:=Nat×Int,rs:=[(6,38)],mods:=[(5,fun i=> .one (.d (.v (.int .i64 i.1)))),(1,fun i=> .one (.d (.v (.int .i64 i.2))))],boxes:=[],arrs:=[],ok:=fun i=>i.1≤6∧R5 i.2∧QhH ds (6-i.1) i.2=F,mu:=fun i=>6-i.1} rfl (0,x) ⟨by omega,⟨hx1,hx2⟩,hF⟩ ?_ ?_
 ·exact gQ
 ·rintro⟨k,y⟩ hi
  dsimp only at hi;obtain⟨hk,hy,ht⟩:=hi;obtain⟨y1,y2⟩:=hy;clear hF
  by_cases h6:k<6
  ·have h6':(k:Int)≤5:=by omega
   rw[show 6-k=6-(k+1)+1 by omega,QhH]at ht
   generalize hP:Qfw ds y=P at ht;have hPR:R5 P:=hP▸Qg5 hd ⟨y1,y2⟩
   refine gR ?_
   refine lpI {ι:=Nat×Int,rs:=[(11,38)],mods:=[(6,fun i=> .one (.d (.v (.int .i64 i.1)))),(1,fun i=> .one (.d (.v (.int .i64 i.2))))],boxes:=[],arrs:=[],ok:=fun i=>i.1≤ds.length∧R5 i.2∧Qfw (ds.drop i.1) i.2=P,mu:=fun i=>ds.length-i.1} rfl (0,y) ⟨KJ _,⟨y1,y2⟩,hP⟩ ?_ ?_
   ·clear ht
    exact gQ
   ·rintro⟨i,z⟩ hi
    dsimp only at hi;obtain⟨hi1,hz,hq⟩:=hi;obtain⟨z1,z2⟩:=hz;clear hP
    by_cases h5:i<ds.length
    ·obtain⟨⟨d1,d2⟩,d3,d4⟩:=Qlm hd h5
     have hs:=QCc ⟨d3,d4⟩
     rw[QaZ h5 (0,0)]at hq;have hq':Qfw (ds.drop (i+1)) (Qey z (ds.getD i (0,0)))=P:=hq
     have hR:=Qjx (d:=ds.getD i (0,0)) (x:=z) ⟨z1,z2⟩ ⟨⟨d1,d2⟩,d3,d4⟩
     have ea:=Qdx (l:=(ds.getD i (0,0)).1) (x:=z) ⟨d1,d2⟩ ⟨z1,z2⟩
     cases ha:Qab (ds.getD i (0,0)).1 z
     ·have e1:Qey z (ds.getD i (0,0))=z:=by unfold Qey;rw[ha];rfl
      rw[ha]at ea;rw[e1]at hq' hR;clear ha hd hs hq ht hPR e1;refine gR ?_;intros
      refine lpN (i+1,z) ⟨h5,hR,hq'⟩ (by dsimp only;omega) ?_
      clear hq';exact gP
     ·have e1:Qey z (ds.getD i (0,0))=Qbp z (ds.getD i (0,0)).2:=by unfold Qey;rw[ha];rfl
      rw[ha]at ea;rw[e1]at hq' hR;have hb:=QpA ⟨z1,z2⟩ ⟨d3,d4⟩
      have e:QV .or .i64 z (1*2^(ds.getD i (0,0)).2.toNat)=Qbp z (ds.getD i (0,0)).2:=rfl
      clear ha hd hq ht hPR e1;refine gR ?_;intros
      refine lpN (i+1,Qbp z (ds.getD i (0,0)).2) ⟨h5,hR,hq'⟩ (by dsimp only;omega) ?_
      clear hq';exact gP
    ·have e5:i=ds.length:=by omega
     subst e5;rw[K7]at hq;have e:z=P:=hq
     subst e;refine gR ?_;intros
     refine lpN (k+1,z) ⟨by dsimp only;omega,hPR,ht⟩ (by dsimp only;omega) ?_
     clear ht hq hPR;exact gQ
  ·have e6:k=6:=by omega
   subst e6;have e:y=F:=ht
   clear ht;(repeat' first|refine gA fun _=>?_|apply fkI<;>intro hb<;>try simp only[ew]at hb|simp only[go_sem,simprocAttr, *])
   all_goals first|exact e|skip
def Qkz(n:Int)(ds:List (Int×Int))(l r:Int):Bool:=QJ n ds&&QO n l r&&Qu (clo ds l) r
def QmD:Qb:=⟨[],false,fun
 | [.one (.v (.int .i64 n)),.one (.sl 2 l),.agg [.v (.int .i64 a),.v (.int .i64 b)]]=>some (WfD l∧ -9223372036854775808≤n∧n≤9223372036854775807,[⟨false,[.d (.v (.bool (Qkz n (unD l) a b)))]⟩],[])
 | _=>none⟩
attribute [local go_sem] QmD
def QjJ:Qb:=⟨[],false,fun
 | [.one (.sl 2 l),.agg [.v (.int .i64 a),.v (.int .i64 b)]]=>some (WfD l∧(∀d∈unD l,Qbv d)∧(0≤a∧a≤31)∧0≤b∧b≤4,[⟨false,[.d (.v (.bool (Qu (clo (unD l) a) b)))]⟩],[])
 | _=>none⟩
attribute [local go_sem] QjJ
theorem Qlw:Qa E0 164 QjJ:=by
 refine QG (E:=E0) (T:=mkT Tryz.prog [(202,Qk7),(149,QcL)] false (fun _=>false) true (fun _=>false)) (Qd (E:=E0) (.cons QeH (.cons QcA .nil))) (fn:=Tryz.f164) Tryz.func164 kR rfl Qc kR rfl ?_
 intro args p rs ms hr;unfold QjJ at hr;dsimp only at hr;split at hr;rotate_left
 ·cases hr
 rename_i l a b;cases hr;refine⟨rfl,rfl,nLe rfl,?_⟩
 have hm:=mxE;rintro⟨h1,hd,⟨ha1,ha2⟩,hb1,hb2⟩ bs;obtain⟨ds,rfl,hx⟩:=h1.ex;clear h1;rw[Qh]at hd ⊢;exact gQ
theorem Qaz{n l r:Int}(h:QO n l r=true):(0≤l∧l≤31)∧0≤r∧r≤4:=by
 simp only[QO,KB,Qj]at h
 have:=Qq h.1.2
 omega
theorem QaE{n:Int}{ds:List (Int×Int)}(h:QJ n ds=true):∀d∈ds,Qbv d:=by
 simp only[QJ,KB]at h
 exact QDr h.1
theorem QoN:Qa E0 109 QmD:=by
 refine QG (E:=E0) (T:=mkT Tryz.prog [(163,QT),(105,QhO),(164,QjJ)] false (fun _=>false) true (fun _=>false)) (Qd (E:=E0) (.cons Qby (.cons QiN (.cons Qlw .nil)))) (fn:=Tryz.f109) Tryz.func109 kR rfl Qc kR rfl ?_
 intro args p rs ms hr;unfold QmD at hr;dsimp only at hr;split at hr;rotate_left
 ·cases hr
 rename_i n l a b;cases hr;refine⟨rfl,rfl,nLe rfl,?_⟩
 have hm:=mxE;rintro⟨h1,hn1,hn2⟩ bs;obtain⟨ds,rfl,hx⟩:=h1.ex;clear h1;rw[Qh];unfold Qkz;cases hv:(QJ n ds&&QO n a b)
 ·exact gP
 ·rw[KB]at hv
  have hd:=QaE hv.1
  obtain⟨⟨a1,a2⟩,b1,b2⟩:=Qaz hv.2;obtain⟨v1,v2⟩:=hv;exact gQ
theorem Qlx:Qa E0 84 QmD:=by
 refine QG (E:=E0) (T:=mkT Tryz.prog [(126,QT),(82,QhO),(127,Qk7)] false (fun _=>false) true (fun _=>false)) (Qd (E:=E0) (.cons Qbz (.cons Qfm (.cons Qco .nil)))) (fn:=Tryz.f84) Tryz.func84 kR rfl Qc kR rfl ?_
 intro args p rs ms hr;unfold QmD at hr;dsimp only at hr;split at hr;rotate_left
 ·cases hr
 rename_i n l a b;cases hr;refine⟨rfl,rfl,nLe rfl,?_⟩
 have hm:=mxE;rintro⟨h1,hn1,hn2⟩ bs;obtain⟨ds,rfl,hx⟩:=h1.ex;clear h1;rw[Qh];unfold Qkz;cases hv:(QJ n ds&&QO n a b)
 ·exact gP
 ·rw[KB]at hv
  have hd:=QaE hv.1
  obtain⟨⟨a1,a2⟩,b1,b2⟩:=Qaz hv.2;obtain⟨v1,v2⟩:=hv;unfold Qu;exact gQ
end Go.Own
