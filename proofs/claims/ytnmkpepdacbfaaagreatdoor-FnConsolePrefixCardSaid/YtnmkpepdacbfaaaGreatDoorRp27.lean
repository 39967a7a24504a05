/- Contracts. Conditions: as stated. -/
import Derived.Test.YtnmkpepdacbfaaaGreatDoorRp26
set_option linter.all false
set_option maxRecDepth 20000
set_option maxHeartbeats 2000000
namespace Go.Own
open Go Go.Proofs
def Qgw(n ag:Int)(d:Int×Int):Bool:=QO n d.1 d.2&&(QV .and .i64 ag d.1==d.1)&&(QV .and .i64 (ag.fdiv (2^d.2.toNat)) 1==0)
def QhL(ag:Int)(d:Int×Int)(K:List (Int×Int)):Nat→List (Int×Int)
 | 0=>K
 | k+1=>QhL ag d K k++(if(QV .and .i64 (ag.fdiv (2^k)) 1==0)&&((k:Nat):Int)!=d.2&& !cov (QhL ag d K k) (Qbp d.1 (k:Nat),d.2)then [(Qbp d.1 (k:Nat),d.2)]else [])
def Qmf(m:Nat)(ag:Int)(K B:List (Int×Int)):List (Int×Int):=B.foldl (fun K d=>QhL ag d K m) K
def Qr8(K:List (Int×Int))(i k:Nat):Bool:=((k:Int)==(i:Int))|| !cov [K.getD k (0,0)] (K.getD i (0,0))||(K.getD k (0,0)==K.getD i (0,0)&&decide ((k:Int)>(i:Int)))
def QgN(K:List (Int×Int))(i:Nat):Nat→Bool
 | 0=>true
 | k+1=>QgN K i k&&Qr8 K i k
def Qnk(K:List (Int×Int)):Nat→List (Int×Int)
 | 0=>[]
 | i+1=>Qnk K i++(if QgN K i K.length then [K.getD i (0,0)]else [])
def QjR(n ag:Int)(ds:List (Int×Int)):List (Int×Int):=Qmf n.toNat ag (ds.filter fun d=> !Qgw n ag d) (ds.filter (Qgw n ag))
def QyO(n ag:Int)(ds:List (Int×Int)):List (Int×Int):=if QsT n ag then s17 (Qnk (QjR n ag ds) (QjR n ag ds).length) (Q8 n) n.toNat else ds
theorem QAa{e y:Int}(hy:R5 y):R5 (QV .and .i64 e y):=by
 have hw:∀m:Fin 32,IntKind.i64.wrap ((m.val:Nat):Int)=((m.val:Nat):Int):=by decide+kernel
 have h1:(BitVec.ofInt IntKind.i64.bits e&&& BitVec.ofInt IntKind.i64.bits y).toNat≤31:=by
  rw[BitVec.toNat_and];refine KF Nat.and_le_right ?_
  obtain⟨q,rfl⟩:=hy.fin;have:∀q:Fin 32,(BitVec.ofInt IntKind.i64.bits ((q.val:Nat):Int)).toNat≤31:=by decide+kernel
  exact this q
 have h2:=hw ⟨_,Nat.lt_succ_of_le h1⟩
 dsimp only at h2;unfold QV;dsimp only;rw[h2];exact⟨by omega,by omega⟩
theorem QBj:∀l x:Fin 32,Qab ((l.val:Nat):Int) ((x.val:Nat):Int)=true→l.val≤x.val:=by decide+kernel
theorem QBh{l x:Int}(hl:R5 l)(hx:R5 x)(h:Qab l x=true):l≤x:=by
 obtain⟨l,rfl⟩:=hl.fin;obtain⟨x,rfl⟩:=hx.fin;have:=QBj l x h
 omega
theorem QbV{d e:Int×Int}(hd:R5 d.1)(h:QhF d e=true):e.2=d.2∧R5 e.1∧Qab e.1 d.1=true:=by
 unfold QhF at h;rw[KB,Kh,Kh]at h;have h5:R5 e.1:=by rw[←h.2];exact QAa hd
 refine⟨h.1,h5,?_⟩
 rw[←Qdx h5 hd,h.2,beq_self_eq_true]
theorem Qow{d e:Int×Int}(hd:R5 d.1)(he:R5 e.1)(h1:e.2=d.2)(h2:Qab e.1 d.1=true):QhF d e=true:=by
 unfold QhF;rw[Qdx he hd,h2,h1];simp
theorem Qsj{n x y:Int}(hy:Ql n y=true)(hx:R5 x)(h:Qab x y=true):Ql n x=true:=by
 have h1:=Qq hy
 have h2:=QBh hx ⟨h1.2.2.1,h1.2.2.2⟩ h
 simp only[Ql,KB,Qj]at hy ⊢
 have:=hx.1
 omega
theorem Qkk{n:Int}{d e:Int×Int}(hd:QO n d.1 d.2=true)(h:QhF d e=true):QO n e.1 e.2=true:=by
 obtain⟨h1,h2,h3⟩:=QbV (Qaz hd).1 h;unfold QO at *;rw[KB,KB]at *;rw[h1];exact⟨⟨hd.1.1,Qsj hd.1.2 h2 h3⟩,hd.2⟩
theorem QrY{d e f:Int×Int}(hd:R5 d.1)(h1:QhF d e=true)(h2:QhF e f=true):QhF d f=true:=by
 obtain⟨a1,a2,a3⟩:=QbV hd h1;obtain⟨b1,b2,b3⟩:=QbV a2 h2;exact Qow hd b2 (b1.trans a1) (Qcp b2 a2 hd b3 a3)
theorem QmR{d:Int×Int}(hd:R5 d.1):QhF d d=true:=Qow hd hd rfl (Qi0 hd)
theorem Qt0{d e:Int×Int}(hd:R5 d.1)(h1:QhF d e=true)(h2:QhF e d=true):e=d:=by
 obtain⟨a1,a2,a3⟩:=QbV hd h1;obtain⟨b1,b2,b3⟩:=QbV a2 h2;exact Prod.ext (QcU a2 hd ((Qaq a2 hd).1 a3) ((Qaq hd a2).1 b3)) a1
theorem QgJ{K:List (Int×Int)}{d:Int×Int}:cov K d=true↔∃e∈K,QhF d e=true:=by unfold cov;rw[List.any_eq_true]
def Qzm(m:Nat)(ag:Int)(d x:Int×Int):Prop:=∃k:Nat,k<m∧Qu ag (k:Nat)=false∧((k:Nat):Int)≠d.2∧x=(Qbp d.1 (k:Nat),d.2)
theorem QxU{ag:Int}(hg:R5 ag){k:Nat}(hk:k≤4):(QV .and .i64 (ag.fdiv (2^k)) 1==0)= !Qu ag (k:Nat):=by
 have:=Qfq (x:=ag) (r:=(k:Nat)) ⟨by omega,by omega⟩ hg
 rwa [KE]at this
theorem Qj4{ag:Int}(hg:R5 ag){d:Int×Int}(hd:Qbv d):∀{m:Nat},m≤5→∀{K:List (Int×Int)},(∀x∈QhL ag d K m,x∈K∨Qzm m ag d x)∧(∀x∈K,x∈QhL ag d K m)∧(∀x,Qzm m ag d x→cov (QhL ag d K m) x=true)
 | 0,_,K=>⟨fun x hx=> .inl hx,fun x hx=>hx,fun x ⟨k,h,_⟩=>by omega⟩
 | m+1,hm,K=>by
  obtain⟨h1,h2,h3⟩:=@Qj4 ag hg d hd m (by omega) K
  have hz:=QxU hg (k:=m) (by omega)
  have hx5:R5 (Qbp d.1 (m:Nat)):=Qd4 hd.1 ⟨by omega,by omega⟩
  rw[QhL,hz];refine⟨fun x hx=>?_,fun x hx=>YH _ (h2 x hx),fun x hx=>?_⟩
  ·rcases KG.1 hx with hx|hx
   ·rcases h1 x hx with h|⟨k,k1,k2⟩
    ·exact .inl h
    ·exact .inr ⟨k,by omega,k2⟩
   ·split at hx
    ·rename_i hc
     rw[KB,KB,Ko,bne_iff_ne]at hc;rw[KH]at hx;exact .inr ⟨m,by omega,hc.1.1,hc.1.2,hx⟩
    ·cases hx
  ·have up:∀{L:List (Int×Int)} {y:Int×Int},cov (QhL ag d K m) y=true→cov (QhL ag d K m++L) y=true:=fun {L y} h=>by
    obtain⟨e,e1,e2⟩:=QgJ.1 h;exact QgJ.2 ⟨e,YH _ e1,e2⟩
   obtain⟨k,k1,k2,k3,rfl⟩:=hx
   by_cases e:k=m
   ·subst e
    rw[k2,bne_iff_ne.2 k3];cases hc:cov (QhL ag d K k) (Qbp d.1 (k:Nat),d.2)
    ·exact QgJ.2 ⟨_,List.mem_append_right _ (by simp),QmR hx5⟩
    ·exact up hc
   ·exact up (h3 _ ⟨k,by omega,k2,k3,rfl⟩)
theorem Qj5{ag:Int}(hg:R5 ag){m:Nat}(hm:m≤5):∀{B K:List (Int×Int)},(∀d∈B,Qbv d)→(∀x∈Qmf m ag K B,x∈K∨∃d∈B,Qzm m ag d x)∧(∀x∈K,x∈Qmf m ag K B)∧(∀x,(∃d∈B,Qzm m ag d x)→cov (Qmf m ag K B) x=true)
 | [],K,_=>⟨fun x hx=> .inl hx,fun x hx=>hx,fun x ⟨d,h,_⟩=>by cases h⟩
 | b::B,K,hB=>by
  obtain⟨a1,a2,a3⟩:=Qj4 hg (hB b (by simp)) hm (K:=K)
  obtain⟨b1,b2,b3⟩:=Qj5 hg hm (B:=B) (K:=QhL ag b K m) (fun d hd=>hB d (by simp[hd]))
  refine⟨fun x hx=>?_,fun x hx=>b2 x (a2 x hx),fun x ⟨d,hd,hx⟩=>?_⟩
  ·rcases b1 x hx with h|⟨d,h1,h2⟩
   ·rcases a1 x h with h|h
    ·exact .inl h
    ·exact .inr ⟨b,by simp,h⟩
   ·exact .inr ⟨d,by simp[h1],h2⟩
  ·rcases KI.1 hd with rfl|hd
   ·obtain⟨e,e1,e2⟩:=QgJ.1 (a3 x hx)
    exact QgJ.2 ⟨e,b2 e e1,e2⟩
   ·exact b3 x ⟨d,hd,hx⟩
theorem QiS{K:List (Int×Int)}{i:Nat}:∀{k:Nat},QgN K i k=true↔∀j,j<k→Qr8 K i j=true
 | 0=>by simp[QgN]
 | k+1=>by
  rw[QgN,KB,@QiS K i k];constructor
  ·rintro⟨h1,h2⟩ j hj
   by_cases e:j=k
   ·subst e;exact h2
   ·exact h1 j (by omega)
  ·exact fun h=>⟨fun j hj=>h j (by omega),h k (by omega)⟩
theorem QqF{K:List (Int×Int)}{x:Int×Int}:∀{i:Nat},x∈Qnk K i↔∃j,j<i∧QgN K j K.length=true∧K.getD j (0,0)=x
 | 0=>by simp[Qnk]
 | i+1=>by
  rw[Qnk,KG,@QqF K x i];constructor
  ·rintro(⟨j,h1,h2⟩|h)
   ·exact⟨j,by omega,h2⟩
   ·split at h
    ·rename_i hf
     rw[KH]at h;exact⟨i,by omega,hf,h.symm⟩
    ·cases h
  ·rintro⟨j,h1,h2,h3⟩
   by_cases e:j=i
   ·subst e
    right
    rw[if_pos h2,h3];simp
   ·exact .inl ⟨j,by omega,h2,h3⟩
theorem QuV{K:List (Int×Int)}{x:Int×Int}(hx:R5 x.1):x∈Qnk K K.length↔x∈K∧∀e∈K,QhF x e=true→e=x:=by
 rw[QqF];constructor
 ·rintro⟨j,h1,h2,h3⟩
  refine⟨by rw[←h3];exact QE h1 _,fun e he hc=>?_⟩
  obtain⟨k,hk,rfl⟩:=YA he;have:=QiS.1 h2 k hk
  unfold Qr8 at this;have e1:K.getD k (0,0)=K[k]:=by simp[KD,hk]
  rw[h3,e1]at this;simp only[Kq,KB,Kh,Ko,cov,List.any_cons,List.any_nil,Bool.or_false,hc]at this
  rcases this with(h|h)|h
  ·have h:k=j:=by omega
   subst h;rw[←h3,e1]
  ·cases h
  ·exact h.1
 ·rintro⟨h1,h2⟩
  have hex:∃j,j<K.length∧K.getD j (0,0)=x:=by
   obtain⟨k,hk,e⟩:=YA h1;exact⟨k,hk,by simpa [KD,hk]using e⟩
  have hmin:∃j,(j<K.length∧K.getD j (0,0)=x)∧∀i,i<j→¬(i<K.length∧K.getD i (0,0)=x):=by
   obtain⟨j,hj⟩:=hex;induction j using Nat.strongRecOn with
   | _ j ih=>
    by_cases q:∃i,i<j∧(i<K.length∧K.getD i (0,0)=x)
    ·obtain⟨i,q1,q2⟩:=q
     exact ih i q1 q2
    ·exact⟨j,hj,fun i hi hq=>q ⟨i,hi,hq⟩⟩
  obtain⟨j,⟨j1,j2⟩,j3⟩:=hmin;refine⟨j,j1,QiS.2 fun k hk=>?_,j2⟩
  unfold Qr8;rw[j2];simp only[Kq,KB,Kh,Ko,cov,List.any_cons,List.any_nil,Bool.or_false,KK]
  cases hc:QhF x (K.getD k (0,0))
  ·exact .inl (.inr rfl)
  ·have:=h2 _ (QE hk _) hc
   by_cases q:k=j
   ·exact .inl (.inl (by rw[q]))
   ·refine .inr ⟨this,?_⟩
    have:¬k<j:=fun h=>j3 k h ⟨hk,this⟩
    omega
theorem Qcj{n x:Int}(hn:1≤n∧n≤5):x∈Q8 n↔Ql n x=true:=by
 have key:∀n:Fin 6,(∀x:Fin 32,(((x.val:Nat):Int)∈pbs n.val↔Ql ((n.val:Nat):Int) ((x.val:Nat):Int)=true)):=by decide+kernel
 obtain⟨m,rfl⟩:=KL (show 0≤n by omega)
 rw[QaW (by omega)]
 constructor
 ·intro h
  have h1:=(@QH (m:Nat)).2.1 x (by rw[QaW (by omega)];exact h)
  have:=key ⟨m,by omega⟩ ⟨x.toNat,by omega⟩
  dsimp only at this;rw[show((x.toNat:Nat):Int)=x by omega]at this
  exact this.1 h
 ·intro h
  have h1:=Qq h
  have:=key ⟨m,by omega⟩ ⟨x.toNat,by omega⟩
  dsimp only at this;rw[show((x.toNat:Nat):Int)=x by omega]at this
  exact this.2 h
theorem Qpe{L:List (Int×Int)}{X:List Int}{d:Int×Int}:∀{r:Nat},d∈s17 L X r↔(0≤d.2∧d.2<r)∧d.1∈X∧d∈L
 | 0=>by simp only[s17,YK,false_iff];rintro⟨h,_⟩;omega
 | r+1=>by
  rw[s17,KG,@Qpe L X d r];have hC:d∈Qmk L (r:Nat) X↔d.2=(r:Nat)∧d.1∈X∧d∈L:=by
   unfold Qmk;simp only[KQ,Ku,List.any_eq_true,Kh]
   constructor
   ·rintro⟨x,⟨h1,e,h2,rfl⟩,rfl⟩
    exact⟨rfl,h1,h2⟩
   ·rintro⟨h1,h2,h3⟩
    have e:(d.1,(r:Int))=d:=Prod.ext rfl h1.symm
    exact⟨d.1,⟨h2,d,h3,e.symm⟩,e⟩
  rw[hC];constructor
  ·rintro(⟨h1,h2⟩|⟨h1,h2⟩)
   ·exact⟨⟨h1.1,by omega⟩,h2⟩
   ·exact⟨⟨by omega,by omega⟩,h2⟩
  ·rintro⟨h1,h2⟩
   by_cases e:d.2=(r:Nat)
   ·exact .inr ⟨e,h2⟩
   ·exact .inl ⟨⟨h1.1,by omega⟩,h2⟩
def QjS(d:Int×Int):Nat:=Qzw (toQ d)
theorem Qyg{d e:Int×Int}(hd:Qbv d)(he:Qbv e)(h:QjS d=QjS e):d=e:=by
 have:=QqA h
 rw[←Qnp hd,this,Qnp he]
theorem Qen{x r:Int}(hr:0≤r∧r≤4):QjS (x,r)=r.toNat*1000+QkC (toF x):=by
 unfold QjS Qzw toQ;dsimp only;rw[Nat.mod_eq_of_lt (by omega)]
theorem QkK{n:Int}(hn:1≤n∧n≤5):(Q8 n).Pairwise fun x y=>QkC (toF x)<QkC (toF y):=by
 obtain⟨m,rfl⟩:=KL (show 0≤n by omega)
 rw[QaW (by omega)]
 have:=(Qq1 ⟨m,by omega⟩).2.1
 dsimp only at this;rwa [List.pairwise_map]at this
theorem QkQ{L:List (Int×Int)}{X:List Int}(hX:X.Pairwise fun x y=>QkC (toF x)<QkC (toF y)):∀{r:Nat},r≤5→(s17 L X r).Pairwise fun d e=>QjS d<QjS e
 | 0,_=> .nil
 | r+1,h=>by
  have ih:=@QkQ L X hX r (by omega)
  rw[s17,List.pairwise_append];refine⟨ih,?_,fun d hd e he=>?_⟩
  ·unfold Qmk
   rw[List.pairwise_map];refine(List.Pairwise.filter _ hX).imp fun {x y} h=>?_
   rw[Qen ⟨by omega,by omega⟩,Qen ⟨by omega,by omega⟩]
   omega
  ·have h1:=(Qpe.1 hd).1
   unfold Qmk at he;obtain⟨x,_,rfl⟩:=KQ.1 he;obtain⟨y,s⟩:=d;dsimp only at h1;rw[Qen ⟨by omega,by omega⟩,Qen ⟨by omega,by omega⟩]
   have:=Qfr (toF y)
   have:=Qfr (toF x)
   omega
theorem Qi4{α:Type}{key:α→Nat}:∀{l m:List α},l.Pairwise (fun a b=>key a<key b)→m.Pairwise (fun a b=>key a<key b)→(∀x,x∈l↔x∈m)→l=m
 | [],[],_,_,_=>rfl
 | [],y::m,_,_,h=>by have:=(h y).2 (by simp);cases this
 | x::l,[],_,_,h=>by have:=(h x).1 (by simp);cases this
 | x::l,y::m,hl,hm,h=>by
  rw[YZ]at hl hm;have e:x=y:=by
   rcases KI.1 ((h x).1 (by simp))with e|h1
   ·exact e
   ·rcases KI.1 ((h y).2 (by simp))with e|h2
    ·exact e.symm
    ·have:=hm.1 x h1
     have:=hl.1 y h2
     omega
  subst e;rw[Qi4 hl.2 hm.2 fun z=>?_]
  constructor
  ·intro hz
   rcases KI.1 ((h z).1 (by simp[hz]))with e|h1
   ·subst e;have:=hl.1 z hz;omega
   ·exact h1
  ·intro hz
   rcases KI.1 ((h z).2 (by simp[hz]))with e|h1
   ·subst e;have:=hm.1 z hz;omega
   ·exact h1
theorem QtX{α:Type} [Inhabited α] [DecidableEq α] {key:α→Nat}{d:Array α}(hs:∀i j,i≤j→j<d.size→key d[i]! ≤key d[j]!)(hi:∀i j,i<d.size→j<d.size→key d[i]! =key d[j]! →d[i]! =d[j]!):∀{m:Nat},m≤d.size→
  (Lib.compactUpTo d m).Pairwise (fun a b=>key a<key b)∧(∀y,y∈Lib.compactUpTo d m↔∃j,j<m∧d[j]! =y)
 | 0,_=>by simp[Lib.compactUpTo]
 | m+1,h=>by
  obtain⟨h1,h2⟩:=QtX hs hi (m:=m) (by omega)
  rw[Lib.compactUpTo_succ];cases hk:Lib.keeps d m
  ·simp only[KX,if_false,KM]
   refine⟨h1,fun y=>?_⟩
   rw[h2];simp only[Lib.keeps,Kl,not_or,ne_eq,Decidable.not_not]at hk
   constructor
   ·rintro⟨j,hj,e⟩;exact⟨j,by omega,e⟩
   ·rintro⟨j,hj,e⟩
    by_cases hm:j=m
    ·subst hm
     exact⟨j-1,by omega,by rw[←e];exact hk.2.symm⟩
    ·exact⟨j,by omega,e⟩
  ·simp only[if_true]
   simp only[Lib.keeps,KK]at hk
   refine⟨List.pairwise_append.2 ⟨h1,by simp,fun a ha b hb=>?_⟩,fun y=>?_⟩
   ·rw[KH]at hb
    subst hb;obtain⟨j,hj,rfl⟩:=(h2 a).1 ha;have q1:=hs j (m-1) (by omega) (by omega)
    have q2:=hs (m-1) m (by omega) (by omega)
    have q3:d[m]! ≠d[m-1]! :=by
     rcases hk with hk|hk
     ·omega
     ·exact hk
    have q4:key d[m-1]! ≠key d[m]! :=fun e=>q3 (hi (m-1) m (by omega) (by omega) e).symm
    omega
   ·rw[KG,KH,h2]
    constructor
    ·rintro(⟨j,hj,e⟩|rfl)
     ·exact⟨j,by omega,e⟩
     ·exact⟨m,by omega,rfl⟩
    ·rintro⟨j,hj,e⟩
     by_cases hm:j=m
     ·subst hm;exact .inr e.symm
     ·exact .inl ⟨j,by omega,e⟩
theorem QmO{ys:List (Int×Int)}(hy:∀d∈ys,Qbv d):(Lib.compact (Qe1 ys)).Pairwise (fun a b=>QjS a<QjS b)∧∀x,x∈Lib.compact (Qe1 ys)↔x∈ys:=by
 have hR:∀d∈Qe1 ys,Qbv d:=fun d hd=>hy d ((Qrj hy).1 hd)
 have h1:(Qe1 ys).Pairwise fun x y=>QjS x≤QjS y:=by
  have:(QCi (ys.map toQ)).Pairwise fun x y=>(!(ltOf cfQ) y x)=true:=by
   apply List.pairwise_mergeSort
   ·intro a b c h1 h2
    rw[ltQ]at *;simp at *
    omega
   ·intro a b
    rw[ltQ,ltQ];simp
    omega
  unfold Qe1;rw[List.pairwise_map];refine this.imp_of_mem fun {a b} _ _ h=>?_
  rw[ltQ]at h;simp at h
  have tq:∀q:Fin 32×Fin 5,toQ (ofQ q)=q:=by
   rintro⟨a,b⟩;unfold toQ ofQ toF;dsimp only;refine Prod.ext (Fin.ext ?_) (Fin.ext ?_)
   ·dsimp only;omega
   ·dsimp only;omega
  unfold QjS;rw[tq,tq];exact h
 have hs:∀i j,i≤j→j<(Qe1 ys).toArray.size→QjS (Qe1 ys).toArray[i]! ≤QjS (Qe1 ys).toArray[j]! :=by
  intro i j hij hj
  by_cases e:i=j
  ·subst e;exact KP _
  ·have hj':j<(Qe1 ys).length:=by simpa using hj
   have:=(List.pairwise_iff_getElem.1 h1) i j (by omega) hj' (by omega)
   rw[getElem!_pos _ i (by omega),getElem!_pos _ j hj]
   simpa using this
 have hi:∀i j,i<(Qe1 ys).toArray.size→j<(Qe1 ys).toArray.size→QjS (Qe1 ys).toArray[i]! =QjS (Qe1 ys).toArray[j]! →(Qe1 ys).toArray[i]! =(Qe1 ys).toArray[j]! :=by
  intro i j h1 h2 h;rw[getElem!_pos _ i h1,getElem!_pos _ j h2]at *;exact Qyg (hR _ (by simp)) (hR _ (by simp)) h
 obtain⟨c1,c2⟩:=QtX hs hi (KP _);have e:Lib.compact (Qe1 ys)=Lib.compactUpTo (Qe1 ys).toArray (Qe1 ys).toArray.size:=by unfold Lib.compact;simp
 rw[e];refine⟨c1,fun z=>?_⟩
 rw[c2,←Qrj hy];constructor
 ·rintro⟨j,hj,rfl⟩
  rw[getElem!_pos _ j hj];simp
 ·intro hz
  obtain⟨j,hj,e⟩:=YA hz;refine⟨j,by simpa using hj,?_⟩
  rw[getElem!_pos _ j (by simpa using hj)]
  simpa using e
theorem Qf0{ag:Int}{d x:Int×Int}:∀{m:Nat},x∈QmX ag d m↔Qzm m ag d x
 | 0=>by simp only[QmX,YK,false_iff];rintro⟨k,h,_⟩;omega
 | m+1=>by
  rw[QmX,KG,@Qf0 ag d x m];constructor
  ·rintro(⟨k,h1,h2⟩|h)
   ·exact⟨k,by omega,h2⟩
   ·split at h
    ·rename_i hc
     rw[KB,Ko,bne_iff_ne]at hc;rw[KH]at h;exact⟨m,by omega,hc.1,hc.2,h⟩
    ·cases h
  ·rintro⟨k,h1,h2,h3,h4⟩
   by_cases e:k=m
   ·subst e
    right
    rw[h2,bne_iff_ne.2 h3,if_pos (show(!false&&true)=true from rfl),h4];simp
   ·exact .inl ⟨k,by omega,h2,h3,h4⟩
theorem QwF:∀n:Fin 6,∀k:Fin 5,∀x:Fin 32,k.val<n.val→Ql ((n.val:Nat):Int) ((x.val:Nat):Int)=true→Ql ((n.val:Nat):Int) (Qbp ((x.val:Nat):Int) ((k.val:Nat):Int))=true:=by decide+kernel
theorem Qun{m:Nat}(hm:m≤5){ag:Int}{d x:Int×Int}(hd:QO (m:Nat) d.1 d.2=true)(h:Qzm m ag d x):QO (m:Nat) x.1 x.2=true:=by
 obtain⟨k,h1,_,_,rfl⟩:=h;have hR:=Qaz hd
 unfold QO at *;rw[KB,KB]at *;refine⟨⟨hd.1.1,?_⟩,hd.2⟩
 dsimp only;have:=QwF ⟨m,by omega⟩ ⟨k,by omega⟩ ⟨d.1.toNat,by omega⟩ h1
 dsimp only at this;rw[show((d.1.toNat:Nat):Int)=d.1 by omega]at this
 exact this hd.1.2
theorem QpB{n ag:Int}(hg:R5 ag){d:Int×Int}(hd:QO n d.1 d.2=true):Qgw n ag d=(Qab d.1 ag&& !Qu ag d.2):=by
 have hR:=Qaz hd
 unfold Qgw;have e:QV .and .i64 ag d.1=QV .and .i64 d.1 ag:=by
  obtain⟨q,hq⟩:=(show R5 d.1 from hR.1).fin
  obtain⟨a,rfl⟩:=hg.fin;rw[hq];have key:∀x y:Fin 32,QV .and .i64 ((x.val:Nat):Int) ((y.val:Nat):Int)=QV .and .i64 ((y.val:Nat):Int) ((x.val:Nat):Int):=by decide+kernel
  exact key a q
 rw[hd,KY,e,Qdx hR.1 hg,Qfq hR.2 hg]
theorem QfN{n ag:Int}{d:Int×Int}(h:Qgw n ag d=true):QO n d.1 d.2=true:=by
 unfold Qgw at h;rw[KB,KB]at h;exact h.1.1
theorem QyN{m:Nat}{ag:Int}(hg:R5 ag){ds:List (Int×Int)}{x:Int×Int}:x∈QfF (m:Nat) ag ds↔(x∈ds∧QO (m:Nat) x.1 x.2=true∧Qgw (m:Nat) ag x=false)∨∃d∈ds,Qgw (m:Nat) ag d=true∧Qzm m ag d x:=by
 unfold QfF;rw[List.mem_flatMap];constructor
 ·rintro⟨d,hd,hx⟩
  unfold Qv0 at hx;split at hx
  ·rename_i hv
   split at hx
   ·rename_i hc
    rw[KH]at hx;subst hx;refine .inl ⟨hd,hv,?_⟩
    rw[QpB hg hv];cases h1:Qab x.1 ag
    ·rfl
    ·rw[h1]at hc
     simp only[YV,K8]at hc
     rw[hc];rfl
   ·rename_i hc
    refine .inr ⟨d,hd,?_,?_⟩
    ·rw[QpB hg hv]
     cases h1:Qab d.1 ag
     ·rw[h1]at hc;exact absurd rfl hc
     ·rw[h1]at hc
      cases h2:Qu ag d.2
      ·rfl
      ·rw[h2]at hc;exact absurd rfl hc
    ·rw[KE]at hx
     exact Qf0.1 hx
  ·cases hx
 ·rintro(⟨h1,h2,h3⟩|⟨d,h1,h2,h3⟩)
  ·refine⟨x,h1,?_⟩
   rw[QpB hg h2]at h3;unfold Qv0;rw[if_pos h2,if_pos]
   ·simp
   ·cases q1:Qab x.1 ag
    ·rfl
    ·rw[q1]at h3
     simpa using h3
  ·have hv:=QfN h2
   refine⟨d,h1,?_⟩
   rw[QpB hg hv,KB]at h2;unfold Qv0;rw[if_pos hv,if_neg,KE]
   ·exact Qf0.2 h3
   ·rw[h2.1]
    have:=h2.2
    rw[Ko]at this;rw[this];decide
theorem QzL{n ag:Int}{ds:List (Int×Int)}:QsS n ag ds=QyO n ag ds:=by
 unfold QsS QyO;cases hv:QsT n ag
 ·rfl
 ·rw[if_pos rfl,if_pos rfl]
  unfold QsT at hv;rw[KB,KK]at hv;obtain⟨n1,ha⟩:=hv;obtain⟨_,n5,g0,g31⟩:=Qq ha;obtain⟨m,rfl⟩:=KL (show 0≤n by omega)
  have hg:R5 ag:=⟨g0,g31⟩
  have hB:∀d∈ds.filter (Qgw (m:Nat) ag),Qbv d:=fun d hd=>Qaz (QfN (Ku.1 hd).2)
  obtain⟨k1,k2,k3⟩:=Qj5 hg (m:=m) (by omega) (B:=ds.filter (Qgw (m:Nat) ag)) (K:=ds.filter fun d=> !Qgw (m:Nat) ag d) hB
  have hK:QjR (m:Nat) ag ds=Qmf m ag (ds.filter fun d=> !Qgw (m:Nat) ag d) (ds.filter (Qgw (m:Nat) ag)):=by unfold QjR;rw[KE]
  rw[←hK]at k1 k2 k3;rw[KE];generalize hKK:QjR (m:Nat) ag ds=K at k1 k2 k3 ⊢;have hS:∀{x:Int×Int},x∈QfF (m:Nat) ag ds↔(x∈ds∧QO (m:Nat) x.1 x.2=true∧Qgw (m:Nat) ag x=false)∨∃d∈ds,Qgw (m:Nat) ag d=true∧Qzm m ag d x:=fun {x}=>QyN hg
  have hval:∀x∈QfF (m:Nat) ag ds,QO (m:Nat) x.1 x.2=true:=fun x hx=>by
   rcases hS.1 hx with⟨_,h,_⟩|⟨d,h1,h2,h3⟩
   ·exact h
   ·exact Qun (by omega) (QfN h2) h3
  have hKS:∀x∈K,QO (m:Nat) x.1 x.2=true→x∈QfF (m:Nat) ag ds:=fun x hx hv=>by
   rcases k1 x hx with h|⟨d,h1,h2⟩
   ·obtain⟨h1,h2⟩:=Ku.1 h
    exact hS.2 (.inl ⟨h1,hv,by simpa using h2⟩)
   ·obtain⟨h3,h4⟩:=Ku.1 h1
    exact hS.2 (.inr ⟨d,h3,h4,h2⟩)
  have hSK:∀x∈QfF (m:Nat) ag ds,∃e∈K,QhF x e=true:=fun x hx=>by
   have hv:=hval x hx
   rcases hS.1 hx with⟨h1,_,h3⟩|⟨d,h1,h2,h3⟩
   ·exact⟨x,k2 x (Ku.2 ⟨h1,by rw[h3];rfl⟩),QmR (Qaz hv).1⟩
   ·exact QgJ.1 (k3 x ⟨d,Ku.2 ⟨h1,h2⟩,h3⟩)
  have hRS:∀d∈QfF (m:Nat) ag ds,Qbv d:=fun d hd=>Qaz (hval d hd)
  obtain⟨c1,c2⟩:=QmO hRS;have hX:=QkK (n:=(m:Nat)) ⟨n1,n5⟩
  unfold QEl;refine Qi4 (key:=QjS) (List.Pairwise.filter _ c1) (QkQ hX (by omega)) fun x=>?_
  rw[Qpe,Ku,c2,Qcj ⟨n1,n5⟩];have hlow:(Lib.compact (Qe1 (QfF (m:Nat) ag ds))).all (Qmj x)=true↔∀e∈QfF (m:Nat) ag ds,Qmj x e=true:=by
   rw[Kg];exact⟨fun h e he=>h e ((c2 e).2 he),fun h e he=>h e ((c2 e).1 he)⟩
  rw[hlow];have hlt:∀{x:Int×Int},Qbv x→∀{e},Qbv e→(Qmj x e=true↔(QhF x e=true→e=x)):=fun {x} hx {e} he=>by
   unfold Qmj;rw[Kq,Kq,Kh,bne_iff_ne,Ko];constructor
   ·rintro((h|h)|h) hc
    ·exact h
    ·exact absurd (QbV hx.1 hc).1 h
    ·rw[(QbV hx.1 hc).2.2]at h;cases h
   ·intro h
    by_cases q:e=x
    ·exact .inl (.inl q)
    ·by_cases q2:e.2=x.2
     ·right
      rw[←KS];intro q3;exact q (h (Qow hx.1 he.1 q2 q3))
     ·exact .inl (.inr q2)
  constructor
  ·rintro⟨h1,h2⟩
   have hv:=hval x h1
   have hR:=Qaz hv
   have hxK:x∈K:=by
    obtain⟨e,e1,e2⟩:=hSK x h1;have he:=hKS e e1 (Qkk hv e2)
    have:=(hlt hR (hRS e he)).1 (h2 e he) e2
    rw[←this];exact e1
   have hd:=hv
   unfold QO at hd;rw[KB,KB,Qj,Qj]at hd;refine⟨⟨hd.2.1,by omega⟩,hd.1.2,(QuV hR.1).2 ⟨hxK,fun e he hc=>?_⟩⟩
   have he':=hKS e he (Qkk hv hc)
   exact(hlt hR (hRS e he')).1 (h2 e he') hc
  ·rintro⟨⟨r0,rn⟩,hat,hl⟩
   have hv:QO (m:Nat) x.1 x.2=true:=by
    unfold QO;rw[KB,KB,Qj,Qj];exact⟨⟨⟨n1,n5⟩,hat⟩,r0,by omega⟩
   have hR:=Qaz hv
   obtain⟨l1,l2⟩:=(QuV hR.1).1 hl;refine⟨hKS x l1 hv,fun e he=>(hlt hR (hRS e he)).2 fun hc=>?_⟩
   obtain⟨f,f1,f2⟩:=hSK e he;have hf:f=x:=l2 f f1 (QrY hR.1 hc f2)
   rw[hf]at f2;exact Qt0 hR.1 hc f2
end Go.Own
