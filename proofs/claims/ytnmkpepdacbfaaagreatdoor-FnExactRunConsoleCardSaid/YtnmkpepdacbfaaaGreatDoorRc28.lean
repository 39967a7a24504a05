/- Own contracts. Conditions: as each theorem states them. -/
import Derived.Test.YtnmkpepdacbfaaaGreatDoorRc27
set_option linter.unusedSimpArgs false
set_option linter.unusedVariables false
set_option maxRecDepth 20000
set_option maxHeartbeats 2000000
namespace Go.Own
open Go Go.Proofs
def Qf4(n ag:Int)(d:Int×Int):Bool:=QJ n d.1 d.2&&(Q6 .and .i64 ag d.1==d.1)&&(Q6 .and .i64 (ag.fdiv (2^d.2.toNat)) 1==0)
def Qhd(ag:Int)(d:Int×Int)(K:List (Int×Int)):Nat→List (Int×Int)
 | 0=>K
 | k+1=>Qhd ag d K k++(if(Q6 .and .i64 (ag.fdiv (2^k)) 1==0)&&((k:Nat):Int)!=d.2&& !cov (Qhd ag d K k) (Qbd d.1 (k:Nat),d.2)then [(Qbd d.1 (k:Nat),d.2)]else [])
def Qlt(m:Nat)(ag:Int)(K B:List (Int×Int)):List (Int×Int):=B.foldl (fun K d=>Qhd ag d K m) K
def QqW(K:List (Int×Int))(i k:Nat):Bool:=((k:Int)==(i:Int))|| !cov [K.getD k (0,0)] (K.getD i (0,0))||(K.getD k (0,0)==K.getD i (0,0)&&decide ((k:Int)>(i:Int)))
def Qgm(K:List (Int×Int))(i:Nat):Nat→Bool
 | 0=>true
 | k+1=>Qgm K i k&&QqW K i k
def Qmq(K:List (Int×Int)):Nat→List (Int×Int)
 | 0=>[]
 | i+1=>Qmq K i++(if Qgm K i K.length then [K.getD i (0,0)]else [])
def Qjc(n ag:Int)(ds:List (Int×Int)):List (Int×Int):=Qlt n.toNat ag (ds.filter fun d=> !Qf4 n ag d) (ds.filter (Qf4 n ag))
def Qxc(n ag:Int)(ds:List (Int×Int)):List (Int×Int):=if QrF n ag then s17 (Qmq (Qjc n ag ds) (Qjc n ag ds).length) (Q3 n) n.toNat else ds
theorem Qyz{e y:Int}(hy:R5 y):R5 (Q6 .and .i64 e y):=by
 have hw:∀m:Fin 32,IntKind.i64.wrap ((m.val:Nat):Int)=((m.val:Nat):Int):=by decide+kernel
 have h1:(BitVec.ofInt IntKind.i64.bits e&&& BitVec.ofInt IntKind.i64.bits y).toNat≤31:=by
  rw[BitVec.toNat_and];refine Nat.le_trans Nat.and_le_right ?_
  obtain⟨q,rfl⟩:=hy.fin;have:∀q:Fin 32,(BitVec.ofInt IntKind.i64.bits ((q.val:Nat):Int)).toNat≤31:=by decide+kernel
  exact this q
 have h2:=hw ⟨_,Nat.lt_succ_of_le h1⟩
 dsimp only at h2;unfold Q6;dsimp only;rw[h2];exact⟨by omega,by omega⟩
theorem QzA:∀l x:Fin 32,Q7 ((l.val:Nat):Int) ((x.val:Nat):Int)=true→l.val≤x.val:=by decide+kernel
theorem Qzy{l x:Int}(hl:R5 l)(hx:R5 x)(h:Q7 l x=true):l≤x:=by
 obtain⟨l,rfl⟩:=hl.fin;obtain⟨x,rfl⟩:=hx.fin;have:=QzA l x h
 omega
theorem QbG{d e:Int×Int}(hd:R5 d.1)(h:Qg8 d e=true):e.2=d.2∧R5 e.1∧Q7 e.1 d.1=true:=by
 unfold Qg8 at h;rw[Bool.and_eq_true,beq_iff_eq,beq_iff_eq]at h;have h5:R5 e.1:=by rw[←h.2];exact Qyz hd
 refine⟨h.1,h5,?_⟩
 rw[←Qde h5 hd,h.2,beq_self_eq_true]
theorem Qnz{d e:Int×Int}(hd:R5 d.1)(he:R5 e.1)(h1:e.2=d.2)(h2:Q7 e.1 d.1=true):Qg8 d e=true:=by
 unfold Qg8;rw[Qde he hd,h2,h1];simp
theorem Qq4{n x y:Int}(hy:Ql n y=true)(hx:R5 x)(h:Q7 x y=true):Ql n x=true:=by
 have h1:=Qp hy
 have h2:=Qzy hx ⟨h1.2.2.1,h1.2.2.2⟩ h
 simp only[Ql,Bool.and_eq_true,Qi]at hy ⊢
 have:=hx.1
 omega
theorem QjE{n:Int}{d e:Int×Int}(hd:QJ n d.1 d.2=true)(h:Qg8 d e=true):QJ n e.1 e.2=true:=by
 obtain⟨h1,h2,h3⟩:=QbG (Qas hd).1 h;unfold QJ at *;rw[Bool.and_eq_true,Bool.and_eq_true]at *;rw[h1];exact⟨⟨hd.1.1,Qq4 hd.1.2 h2 h3⟩,hd.2⟩
theorem QqO{d e f:Int×Int}(hd:R5 d.1)(h1:Qg8 d e=true)(h2:Qg8 e f=true):Qg8 d f=true:=by
 obtain⟨a1,a2,a3⟩:=QbG hd h1;obtain⟨b1,b2,b3⟩:=QbG a2 h2;exact Qnz hd b2 (b1.trans a1) (Qb8 b2 a2 hd b3 a3)
theorem Ql1{d:Int×Int}(hd:R5 d.1):Qg8 d d=true:=Qnz hd hd rfl (Qin hd)
theorem QsD{d e:Int×Int}(hd:R5 d.1)(h1:Qg8 d e=true)(h2:Qg8 e d=true):e=d:=by
 obtain⟨a1,a2,a3⟩:=QbG hd h1;obtain⟨b1,b2,b3⟩:=QbG a2 h2;exact Prod.ext (QcD a2 hd ((Qak a2 hd).1 a3) ((Qak hd a2).1 b3)) a1
theorem Qgi{K:List (Int×Int)}{d:Int×Int}:cov K d=true↔∃e∈K,Qg8 d e=true:=by unfold cov;rw[List.any_eq_true]
def QxL(m:Nat)(ag:Int)(d x:Int×Int):Prop:=∃k:Nat,k<m∧Qt ag (k:Nat)=false∧((k:Nat):Int)≠d.2∧x=(Qbd d.1 (k:Nat),d.2)
theorem Qwi{ag:Int}(hg:R5 ag){k:Nat}(hk:k≤4):(Q6 .and .i64 (ag.fdiv (2^k)) 1==0)= !Qt ag (k:Nat):=by
 have:=Qe6 (x:=ag) (r:=(k:Nat)) ⟨by omega,by omega⟩ hg
 rwa [Int.toNat_natCast]at this
theorem Qjo{ag:Int}(hg:R5 ag){d:Int×Int}(hd:Qbn d):∀{m:Nat},m≤5→∀{K:List (Int×Int)},(∀x∈Qhd ag d K m,x∈K∨QxL m ag d x)∧(∀x∈K,x∈Qhd ag d K m)∧(∀x,QxL m ag d x→cov (Qhd ag d K m) x=true)
 | 0,_,K=>⟨fun x hx=> .inl hx,fun x hx=>hx,fun x ⟨k,h,_⟩=>by omega⟩
 | m+1,hm,K=>by
  obtain⟨h1,h2,h3⟩:=@Qjo ag hg d hd m (by omega) K
  have hz:=Qwi hg (k:=m) (by omega)
  have hx5:R5 (Qbd d.1 (m:Nat)):=QdL hd.1 ⟨by omega,by omega⟩
  rw[Qhd,hz];refine⟨fun x hx=>?_,fun x hx=>List.mem_append_left _ (h2 x hx),fun x hx=>?_⟩
  ·rcases List.mem_append.1 hx with hx|hx
   ·rcases h1 x hx with h|⟨k,k1,k2⟩
    ·exact .inl h
    ·exact .inr ⟨k,by omega,k2⟩
   ·split at hx
    ·rename_i hc
     rw[Bool.and_eq_true,Bool.and_eq_true,Bool.not_eq_true',bne_iff_ne]at hc;rw[List.mem_singleton]at hx;exact .inr ⟨m,by omega,hc.1.1,hc.1.2,hx⟩
    ·cases hx
  ·have up:∀{L:List (Int×Int)} {y:Int×Int},cov (Qhd ag d K m) y=true→cov (Qhd ag d K m++L) y=true:=fun {L y} h=>by
    obtain⟨e,e1,e2⟩:=Qgi.1 h;exact Qgi.2 ⟨e,List.mem_append_left _ e1,e2⟩
   obtain⟨k,k1,k2,k3,rfl⟩:=hx
   by_cases e:k=m
   ·subst e
    rw[k2,bne_iff_ne.2 k3];cases hc:cov (Qhd ag d K k) (Qbd d.1 (k:Nat),d.2)
    ·exact Qgi.2 ⟨_,List.mem_append_right _ (by simp),Ql1 hx5⟩
    ·exact up hc
   ·exact up (h3 _ ⟨k,by omega,k2,k3,rfl⟩)
theorem Qjp{ag:Int}(hg:R5 ag){m:Nat}(hm:m≤5):∀{B K:List (Int×Int)},(∀d∈B,Qbn d)→(∀x∈Qlt m ag K B,x∈K∨∃d∈B,QxL m ag d x)∧(∀x∈K,x∈Qlt m ag K B)∧(∀x,(∃d∈B,QxL m ag d x)→cov (Qlt m ag K B) x=true)
 | [],K,_=>⟨fun x hx=> .inl hx,fun x hx=>hx,fun x ⟨d,h,_⟩=>by cases h⟩
 | b::B,K,hB=>by
  obtain⟨a1,a2,a3⟩:=Qjo hg (hB b (by simp)) hm (K:=K)
  obtain⟨b1,b2,b3⟩:=Qjp hg hm (B:=B) (K:=Qhd ag b K m) (fun d hd=>hB d (by simp[hd]))
  refine⟨fun x hx=>?_,fun x hx=>b2 x (a2 x hx),fun x ⟨d,hd,hx⟩=>?_⟩
  ·rcases b1 x hx with h|⟨d,h1,h2⟩
   ·rcases a1 x h with h|h
    ·exact .inl h
    ·exact .inr ⟨b,by simp,h⟩
   ·exact .inr ⟨d,by simp[h1],h2⟩
  ·rcases List.mem_cons.1 hd with rfl|hd
   ·obtain⟨e,e1,e2⟩:=Qgi.1 (a3 x hx)
    exact Qgi.2 ⟨e,b2 e e1,e2⟩
   ·exact b3 x ⟨d,hd,hx⟩
theorem Qih{K:List (Int×Int)}{i:Nat}:∀{k:Nat},Qgm K i k=true↔∀j,j<k→QqW K i j=true
 | 0=>by simp[Qgm]
 | k+1=>by
  rw[Qgm,Bool.and_eq_true,@Qih K i k];constructor
  ·rintro⟨h1,h2⟩ j hj
   by_cases e:j=k
   ·subst e;exact h2
   ·exact h1 j (by omega)
  ·exact fun h=>⟨fun j hj=>h j (by omega),h k (by omega)⟩
theorem QpA{K:List (Int×Int)}{x:Int×Int}:∀{i:Nat},x∈Qmq K i↔∃j,j<i∧Qgm K j K.length=true∧K.getD j (0,0)=x
 | 0=>by simp[Qmq]
 | i+1=>by
  rw[Qmq,List.mem_append,@QpA K x i];constructor
  ·rintro(⟨j,h1,h2⟩|h)
   ·exact⟨j,by omega,h2⟩
   ·split at h
    ·rename_i hf
     rw[List.mem_singleton]at h;exact⟨i,by omega,hf,h.symm⟩
    ·cases h
  ·rintro⟨j,h1,h2,h3⟩
   by_cases e:j=i
   ·subst e
    right
    rw[if_pos h2,h3];simp
   ·exact .inl ⟨j,by omega,h2,h3⟩
theorem Qty{K:List (Int×Int)}{x:Int×Int}(hx:R5 x.1):x∈Qmq K K.length↔x∈K∧∀e∈K,Qg8 x e=true→e=x:=by
 rw[QpA];constructor
 ·rintro⟨j,h1,h2,h3⟩
  refine⟨by rw[←h3];exact QP h1 _,fun e he hc=>?_⟩
  obtain⟨k,hk,rfl⟩:=List.getElem_of_mem he;have:=Qih.1 h2 k hk
  unfold QqW at this;have e1:K.getD k (0,0)=K[k]:=by simp[List.getD_eq_getElem?_getD,hk]
  rw[h3,e1]at this;simp only[Bool.or_eq_true,Bool.and_eq_true,beq_iff_eq,Bool.not_eq_true',cov,List.any_cons,List.any_nil,Bool.or_false,hc]at this
  rcases this with(h|h)|h
  ·have h:k=j:=by omega
   subst h;rw[←h3,e1]
  ·cases h
  ·exact h.1
 ·rintro⟨h1,h2⟩
  have hex:∃j,j<K.length∧K.getD j (0,0)=x:=by
   obtain⟨k,hk,e⟩:=List.getElem_of_mem h1;exact⟨k,hk,by simpa [List.getD_eq_getElem?_getD,hk]using e⟩
  have hmin:∃j,(j<K.length∧K.getD j (0,0)=x)∧∀i,i<j→¬(i<K.length∧K.getD i (0,0)=x):=by
   obtain⟨j,hj⟩:=hex;induction j using Nat.strongRecOn with
   | _ j ih=>
    by_cases q:∃i,i<j∧(i<K.length∧K.getD i (0,0)=x)
    ·obtain⟨i,q1,q2⟩:=q
     exact ih i q1 q2
    ·exact⟨j,hj,fun i hi hq=>q ⟨i,hi,hq⟩⟩
  obtain⟨j,⟨j1,j2⟩,j3⟩:=hmin;refine⟨j,j1,Qih.2 fun k hk=>?_,j2⟩
  unfold QqW;rw[j2];simp only[Bool.or_eq_true,Bool.and_eq_true,beq_iff_eq,Bool.not_eq_true',cov,List.any_cons,List.any_nil,Bool.or_false,decide_eq_true_eq]
  cases hc:Qg8 x (K.getD k (0,0))
  ·exact .inl (.inr rfl)
  ·have:=h2 _ (QP hk _) hc
   by_cases q:k=j
   ·exact .inl (.inl (by rw[q]))
   ·refine .inr ⟨this,?_⟩
    have:¬k<j:=fun h=>j3 k h ⟨hk,this⟩
    omega
theorem Qb3{n x:Int}(hn:1≤n∧n≤5):x∈Q3 n↔Ql n x=true:=by
 have key:∀n:Fin 6,(∀x:Fin 32,(((x.val:Nat):Int)∈pbs n.val↔Ql ((n.val:Nat):Int) ((x.val:Nat):Int)=true)):=by decide+kernel
 obtain⟨m,rfl⟩:=Int.eq_ofNat_of_zero_le (show 0≤n by omega)
 rw[QaN (by omega)]
 constructor
 ·intro h
  have h1:=(@QD (m:Nat)).2.1 x (by rw[QaN (by omega)];exact h)
  have:=key ⟨m,by omega⟩ ⟨x.toNat,by omega⟩
  dsimp only at this;rw[show((x.toNat:Nat):Int)=x by omega]at this
  exact this.1 h
 ·intro h
  have h1:=Qp h
  have:=key ⟨m,by omega⟩ ⟨x.toNat,by omega⟩
  dsimp only at this;rw[show((x.toNat:Nat):Int)=x by omega]at this
  exact this.2 h
theorem Qof{L:List (Int×Int)}{X:List Int}{d:Int×Int}:∀{r:Nat},d∈s17 L X r↔(0≤d.2∧d.2<r)∧d.1∈X∧d∈L
 | 0=>by simp only[s17,List.not_mem_nil,false_iff];rintro⟨h,_⟩;omega
 | r+1=>by
  rw[s17,List.mem_append,@Qof L X d r];have hC:d∈Qly L (r:Nat) X↔d.2=(r:Nat)∧d.1∈X∧d∈L:=by
   unfold Qly;simp only[List.mem_map,List.mem_filter,List.any_eq_true,beq_iff_eq]
   constructor
   ·rintro⟨x,⟨h1,e,h2,rfl⟩,rfl⟩
    exact⟨rfl,h1,h2⟩
   ·rintro⟨h1,h2,h3⟩
    have e:(d.1,(r:Int))=d:=Prod.ext rfl h1.symm
    exact⟨d.1,⟨h2,d,h3,e.symm⟩,e⟩
  rw[hC];constructor
  ·rintro(⟨h1,h2⟩|⟨h1,h2⟩)
   ·exact⟨⟨h1.1,by omega⟩,h2⟩
   ·exact⟨⟨by omega,by omega⟩,h2⟩
  ·rintro⟨h1,h2⟩
   by_cases e:d.2=(r:Nat)
   ·exact .inr ⟨e,h2⟩
   ·exact .inl ⟨⟨h1.1,by omega⟩,h2⟩
def Qjd(d:Int×Int):Nat:=QxV (toQ d)
theorem QwE{d e:Int×Int}(hd:Qbn d)(he:Qbn e)(h:Qjd d=Qjd e):d=e:=by
 have:=Qpv h
 rw[←Qmv hd,this,Qmv he]
theorem Qd4{x r:Int}(hr:0≤r∧r≤4):Qjd (x,r)=r.toNat*1000+QjV (toF x):=by
 unfold Qjd QxV toQ;dsimp only;rw[Nat.mod_eq_of_lt (by omega)]
theorem Qj3{n:Int}(hn:1≤n∧n≤5):(Q3 n).Pairwise fun x y=>QjV (toF x)<QjV (toF y):=by
 obtain⟨m,rfl⟩:=Int.eq_ofNat_of_zero_le (show 0≤n by omega)
 rw[QaN (by omega)]
 have:=(QpW ⟨m,by omega⟩).2.1
 dsimp only at this;rwa [List.pairwise_map]at this
theorem Qj8{L:List (Int×Int)}{X:List Int}(hX:X.Pairwise fun x y=>QjV (toF x)<QjV (toF y)):∀{r:Nat},r≤5→(s17 L X r).Pairwise fun d e=>Qjd d<Qjd e
 | 0,_=> .nil
 | r+1,h=>by
  have ih:=@Qj8 L X hX r (by omega)
  rw[s17,List.pairwise_append];refine⟨ih,?_,fun d hd e he=>?_⟩
  ·unfold Qly
   rw[List.pairwise_map];refine(List.Pairwise.filter _ hX).imp fun {x y} h=>?_
   rw[Qd4 ⟨by omega,by omega⟩,Qd4 ⟨by omega,by omega⟩]
   omega
  ·have h1:=(Qof.1 hd).1
   unfold Qly at he;obtain⟨x,_,rfl⟩:=List.mem_map.1 he;obtain⟨y,s⟩:=d;dsimp only at h1;rw[Qd4 ⟨by omega,by omega⟩,Qd4 ⟨by omega,by omega⟩]
   have:=Qe7 (toF y)
   have:=Qe7 (toF x)
   omega
theorem Qir{α:Type}{key:α→Nat}:∀{l m:List α},l.Pairwise (fun a b=>key a<key b)→m.Pairwise (fun a b=>key a<key b)→(∀x,x∈l↔x∈m)→l=m
 | [],[],_,_,_=>rfl
 | [],y::m,_,_,h=>by have:=(h y).2 (by simp);cases this
 | x::l,[],_,_,h=>by have:=(h x).1 (by simp);cases this
 | x::l,y::m,hl,hm,h=>by
  rw[List.pairwise_cons]at hl hm;have e:x=y:=by
   rcases List.mem_cons.1 ((h x).1 (by simp))with e|h1
   ·exact e
   ·rcases List.mem_cons.1 ((h y).2 (by simp))with e|h2
    ·exact e.symm
    ·have:=hm.1 x h1
     have:=hl.1 y h2
     omega
  subst e;rw[Qir hl.2 hm.2 fun z=>?_]
  constructor
  ·intro hz
   rcases List.mem_cons.1 ((h z).1 (by simp[hz]))with e|h1
   ·subst e;have:=hl.1 z hz;omega
   ·exact h1
  ·intro hz
   rcases List.mem_cons.1 ((h z).2 (by simp[hz]))with e|h1
   ·subst e;have:=hm.1 z hz;omega
   ·exact h1
theorem QsA{α:Type} [Inhabited α] [DecidableEq α] {key:α→Nat}{d:Array α}(hs:∀i j,i≤j→j<d.size→key d[i]! ≤key d[j]!)(hi:∀i j,i<d.size→j<d.size→key d[i]! =key d[j]! →d[i]! =d[j]!):∀{m:Nat},m≤d.size→
  (Lib.compactUpTo d m).Pairwise (fun a b=>key a<key b)∧(∀y,y∈Lib.compactUpTo d m↔∃j,j<m∧d[j]! =y)
 | 0,_=>by simp[Lib.compactUpTo]
 | m+1,h=>by
  obtain⟨h1,h2⟩:=QsA hs hi (m:=m) (by omega)
  rw[Lib.compactUpTo_succ];cases hk:Lib.keeps d m
  ·simp only[Bool.false_eq_true,if_false,List.append_nil]
   refine⟨h1,fun y=>?_⟩
   rw[h2];simp only[Lib.keeps,decide_eq_false_iff_not,not_or,ne_eq,Decidable.not_not]at hk
   constructor
   ·rintro⟨j,hj,e⟩;exact⟨j,by omega,e⟩
   ·rintro⟨j,hj,e⟩
    by_cases hm:j=m
    ·subst hm
     exact⟨j-1,by omega,by rw[←e];exact hk.2.symm⟩
    ·exact⟨j,by omega,e⟩
  ·simp only[if_true]
   simp only[Lib.keeps,decide_eq_true_eq]at hk
   refine⟨List.pairwise_append.2 ⟨h1,by simp,fun a ha b hb=>?_⟩,fun y=>?_⟩
   ·rw[List.mem_singleton]at hb
    subst hb;obtain⟨j,hj,rfl⟩:=(h2 a).1 ha;have q1:=hs j (m-1) (by omega) (by omega)
    have q2:=hs (m-1) m (by omega) (by omega)
    have q3:d[m]! ≠d[m-1]! :=by
     rcases hk with hk|hk
     ·omega
     ·exact hk
    have q4:key d[m-1]! ≠key d[m]! :=fun e=>q3 (hi (m-1) m (by omega) (by omega) e).symm
    omega
   ·rw[List.mem_append,List.mem_singleton,h2]
    constructor
    ·rintro(⟨j,hj,e⟩|rfl)
     ·exact⟨j,by omega,e⟩
     ·exact⟨m,by omega,rfl⟩
    ·rintro⟨j,hj,e⟩
     by_cases hm:j=m
     ·subst hm;exact .inr e.symm
     ·exact .inl ⟨j,by omega,e⟩
theorem QlY{ys:List (Int×Int)}(hy:∀d∈ys,Qbn d):(Lib.compact (QeE ys)).Pairwise (fun a b=>Qjd a<Qjd b)∧∀x,x∈Lib.compact (QeE ys)↔x∈ys:=by
 have hR:∀d∈QeE ys,Qbn d:=fun d hd=>hy d ((Qqd hy).1 hd)
 have h1:(QeE ys).Pairwise fun x y=>Qjd x≤Qjd y:=by
  have:(QAv (ys.map toQ)).Pairwise fun x y=>(!(ltOf cfQ) y x)=true:=by
   apply List.pairwise_mergeSort
   ·intro a b c h1 h2
    rw[ltQ]at *;simp at *
    omega
   ·intro a b
    rw[ltQ,ltQ];simp
    omega
  unfold QeE;rw[List.pairwise_map];refine this.imp_of_mem fun {a b} _ _ h=>?_
  rw[ltQ]at h;simp at h
  have tq:∀q:Fin 32×Fin 5,toQ (ofQ q)=q:=by
   rintro⟨a,b⟩;unfold toQ ofQ toF;dsimp only;refine Prod.ext (Fin.ext ?_) (Fin.ext ?_)
   ·dsimp only;omega
   ·dsimp only;omega
  unfold Qjd;rw[tq,tq];exact h
 have hs:∀i j,i≤j→j<(QeE ys).toArray.size→Qjd (QeE ys).toArray[i]! ≤Qjd (QeE ys).toArray[j]! :=by
  intro i j hij hj
  by_cases e:i=j
  ·subst e;exact Nat.le_refl _
  ·have hj':j<(QeE ys).length:=by simpa using hj
   have:=(List.pairwise_iff_getElem.1 h1) i j (by omega) hj' (by omega)
   rw[getElem!_pos _ i (by omega),getElem!_pos _ j hj]
   simpa using this
 have hi:∀i j,i<(QeE ys).toArray.size→j<(QeE ys).toArray.size→Qjd (QeE ys).toArray[i]! =Qjd (QeE ys).toArray[j]! →(QeE ys).toArray[i]! =(QeE ys).toArray[j]! :=by
  intro i j h1 h2 h;rw[getElem!_pos _ i h1,getElem!_pos _ j h2]at *;exact QwE (hR _ (by simp)) (hR _ (by simp)) h
 obtain⟨c1,c2⟩:=QsA hs hi (Nat.le_refl _);have e:Lib.compact (QeE ys)=Lib.compactUpTo (QeE ys).toArray (QeE ys).toArray.size:=by unfold Lib.compact;simp
 rw[e];refine⟨c1,fun z=>?_⟩
 rw[c2,←Qqd hy];constructor
 ·rintro⟨j,hj,rfl⟩
  rw[getElem!_pos _ j hj];simp
 ·intro hz
  obtain⟨j,hj,e⟩:=List.getElem_of_mem hz;refine⟨j,by simpa using hj,?_⟩
  rw[getElem!_pos _ j (by simpa using hj)]
  simpa using e
theorem QfB{ag:Int}{d x:Int×Int}:∀{m:Nat},x∈Ql6 ag d m↔QxL m ag d x
 | 0=>by simp only[Ql6,List.not_mem_nil,false_iff];rintro⟨k,h,_⟩;omega
 | m+1=>by
  rw[Ql6,List.mem_append,@QfB ag d x m];constructor
  ·rintro(⟨k,h1,h2⟩|h)
   ·exact⟨k,by omega,h2⟩
   ·split at h
    ·rename_i hc
     rw[Bool.and_eq_true,Bool.not_eq_true',bne_iff_ne]at hc;rw[List.mem_singleton]at h;exact⟨m,by omega,hc.1,hc.2,h⟩
    ·cases h
  ·rintro⟨k,h1,h2,h3,h4⟩
   by_cases e:k=m
   ·subst e
    right
    rw[h2,bne_iff_ne.2 h3,if_pos (show(!false&&true)=true from rfl),h4];simp
   ·exact .inl ⟨k,by omega,h2,h3,h4⟩
theorem Qu9:∀n:Fin 6,∀k:Fin 5,∀x:Fin 32,k.val<n.val→Ql ((n.val:Nat):Int) ((x.val:Nat):Int)=true→Ql ((n.val:Nat):Int) (Qbd ((x.val:Nat):Int) ((k.val:Nat):Int))=true:=by decide+kernel
theorem QsZ{m:Nat}(hm:m≤5){ag:Int}{d x:Int×Int}(hd:QJ (m:Nat) d.1 d.2=true)(h:QxL m ag d x):QJ (m:Nat) x.1 x.2=true:=by
 obtain⟨k,h1,_,_,rfl⟩:=h;have hR:=Qas hd
 unfold QJ at *;rw[Bool.and_eq_true,Bool.and_eq_true]at *;refine⟨⟨hd.1.1,?_⟩,hd.2⟩
 dsimp only;have:=Qu9 ⟨m,by omega⟩ ⟨k,by omega⟩ ⟨d.1.toNat,by omega⟩ h1
 dsimp only at this;rw[show((d.1.toNat:Nat):Int)=d.1 by omega]at this
 exact this hd.1.2
theorem QoC{n ag:Int}(hg:R5 ag){d:Int×Int}(hd:QJ n d.1 d.2=true):Qf4 n ag d=(Q7 d.1 ag&& !Qt ag d.2):=by
 have hR:=Qas hd
 unfold Qf4;have e:Q6 .and .i64 ag d.1=Q6 .and .i64 d.1 ag:=by
  obtain⟨q,hq⟩:=(show R5 d.1 from hR.1).fin
  obtain⟨a,rfl⟩:=hg.fin;rw[hq];have key:∀x y:Fin 32,Q6 .and .i64 ((x.val:Nat):Int) ((y.val:Nat):Int)=Q6 .and .i64 ((y.val:Nat):Int) ((x.val:Nat):Int):=by decide+kernel
  exact key a q
 rw[hd,Bool.true_and,e,Qde hR.1 hg,Qe6 hR.2 hg]
theorem Qfr{n ag:Int}{d:Int×Int}(h:Qf4 n ag d=true):QJ n d.1 d.2=true:=by
 unfold Qf4 at h;rw[Bool.and_eq_true,Bool.and_eq_true]at h;exact h.1.1
theorem Qxb{m:Nat}{ag:Int}(hg:R5 ag){ds:List (Int×Int)}{x:Int×Int}:x∈Qfj (m:Nat) ag ds↔(x∈ds∧QJ (m:Nat) x.1 x.2=true∧Qf4 (m:Nat) ag x=false)∨∃d∈ds,Qf4 (m:Nat) ag d=true∧QxL m ag d x:=by
 unfold Qfj;rw[List.mem_flatMap];constructor
 ·rintro⟨d,hd,hx⟩
  unfold Quv at hx;split at hx
  ·rename_i hv
   split at hx
   ·rename_i hc
    rw[List.mem_singleton]at hx;subst hx;refine .inl ⟨hd,hv,?_⟩
    rw[QoC hg hv];cases h1:Q7 x.1 ag
    ·rfl
    ·rw[h1]at hc
     simp only[Bool.not_true,Bool.false_or]at hc
     rw[hc];rfl
   ·rename_i hc
    refine .inr ⟨d,hd,?_,?_⟩
    ·rw[QoC hg hv]
     cases h1:Q7 d.1 ag
     ·rw[h1]at hc;exact absurd rfl hc
     ·rw[h1]at hc
      cases h2:Qt ag d.2
      ·rfl
      ·rw[h2]at hc;exact absurd rfl hc
    ·rw[Int.toNat_natCast]at hx
     exact QfB.1 hx
  ·cases hx
 ·rintro(⟨h1,h2,h3⟩|⟨d,h1,h2,h3⟩)
  ·refine⟨x,h1,?_⟩
   rw[QoC hg h2]at h3;unfold Quv;rw[if_pos h2,if_pos]
   ·simp
   ·cases q1:Q7 x.1 ag
    ·rfl
    ·rw[q1]at h3
     simpa using h3
  ·have hv:=Qfr h2
   refine⟨d,h1,?_⟩
   rw[QoC hg hv,Bool.and_eq_true]at h2;unfold Quv;rw[if_pos hv,if_neg,Int.toNat_natCast]
   ·exact QfB.2 h3
   ·rw[h2.1]
    have:=h2.2
    rw[Bool.not_eq_true']at this;rw[this];decide
theorem Qx9{n ag:Int}{ds:List (Int×Int)}:QrE n ag ds=Qxc n ag ds:=by
 unfold QrE Qxc;cases hv:QrF n ag
 ·rfl
 ·rw[if_pos rfl,if_pos rfl]
  unfold QrF at hv;rw[Bool.and_eq_true,decide_eq_true_eq]at hv;obtain⟨n1,ha⟩:=hv;obtain⟨_,n5,g0,g31⟩:=Qp ha;obtain⟨m,rfl⟩:=Int.eq_ofNat_of_zero_le (show 0≤n by omega)
  have hg:R5 ag:=⟨g0,g31⟩
  have hB:∀d∈ds.filter (Qf4 (m:Nat) ag),Qbn d:=fun d hd=>Qas (Qfr (List.mem_filter.1 hd).2)
  obtain⟨k1,k2,k3⟩:=Qjp hg (m:=m) (by omega) (B:=ds.filter (Qf4 (m:Nat) ag)) (K:=ds.filter fun d=> !Qf4 (m:Nat) ag d) hB
  have hK:Qjc (m:Nat) ag ds=Qlt m ag (ds.filter fun d=> !Qf4 (m:Nat) ag d) (ds.filter (Qf4 (m:Nat) ag)):=by unfold Qjc;rw[Int.toNat_natCast]
  rw[←hK]at k1 k2 k3;rw[Int.toNat_natCast];generalize hKK:Qjc (m:Nat) ag ds=K at k1 k2 k3 ⊢;have hS:∀{x:Int×Int},x∈Qfj (m:Nat) ag ds↔(x∈ds∧QJ (m:Nat) x.1 x.2=true∧Qf4 (m:Nat) ag x=false)∨∃d∈ds,Qf4 (m:Nat) ag d=true∧QxL m ag d x:=fun {x}=>Qxb hg
  have hval:∀x∈Qfj (m:Nat) ag ds,QJ (m:Nat) x.1 x.2=true:=fun x hx=>by
   rcases hS.1 hx with⟨_,h,_⟩|⟨d,h1,h2,h3⟩
   ·exact h
   ·exact QsZ (by omega) (Qfr h2) h3
  have hKS:∀x∈K,QJ (m:Nat) x.1 x.2=true→x∈Qfj (m:Nat) ag ds:=fun x hx hv=>by
   rcases k1 x hx with h|⟨d,h1,h2⟩
   ·obtain⟨h1,h2⟩:=List.mem_filter.1 h
    exact hS.2 (.inl ⟨h1,hv,by simpa using h2⟩)
   ·obtain⟨h3,h4⟩:=List.mem_filter.1 h1
    exact hS.2 (.inr ⟨d,h3,h4,h2⟩)
  have hSK:∀x∈Qfj (m:Nat) ag ds,∃e∈K,Qg8 x e=true:=fun x hx=>by
   have hv:=hval x hx
   rcases hS.1 hx with⟨h1,_,h3⟩|⟨d,h1,h2,h3⟩
   ·exact⟨x,k2 x (List.mem_filter.2 ⟨h1,by rw[h3];rfl⟩),Ql1 (Qas hv).1⟩
   ·exact Qgi.1 (k3 x ⟨d,List.mem_filter.2 ⟨h1,h2⟩,h3⟩)
  have hRS:∀d∈Qfj (m:Nat) ag ds,Qbn d:=fun d hd=>Qas (hval d hd)
  obtain⟨c1,c2⟩:=QlY hRS;have hX:=Qj3 (n:=(m:Nat)) ⟨n1,n5⟩
  unfold QCg;refine Qir (key:=Qjd) (List.Pairwise.filter _ c1) (Qj8 hX (by omega)) fun x=>?_
  rw[Qof,List.mem_filter,c2,Qb3 ⟨n1,n5⟩];have hlow:(Lib.compact (QeE (Qfj (m:Nat) ag ds))).all (Qlx x)=true↔∀e∈Qfj (m:Nat) ag ds,Qlx x e=true:=by
   rw[List.all_eq_true];exact⟨fun h e he=>h e ((c2 e).2 he),fun h e he=>h e ((c2 e).1 he)⟩
  rw[hlow];have hlt:∀{x:Int×Int},Qbn x→∀{e},Qbn e→(Qlx x e=true↔(Qg8 x e=true→e=x)):=fun {x} hx {e} he=>by
   unfold Qlx;rw[Bool.or_eq_true,Bool.or_eq_true,beq_iff_eq,bne_iff_ne,Bool.not_eq_true'];constructor
   ·rintro((h|h)|h) hc
    ·exact h
    ·exact absurd (QbG hx.1 hc).1 h
    ·rw[(QbG hx.1 hc).2.2]at h;cases h
   ·intro h
    by_cases q:e=x
    ·exact .inl (.inl q)
    ·by_cases q2:e.2=x.2
     ·right
      rw[←Bool.not_eq_true];intro q3;exact q (h (Qnz hx.1 he.1 q2 q3))
     ·exact .inl (.inr q2)
  constructor
  ·rintro⟨h1,h2⟩
   have hv:=hval x h1
   have hR:=Qas hv
   have hxK:x∈K:=by
    obtain⟨e,e1,e2⟩:=hSK x h1;have he:=hKS e e1 (QjE hv e2)
    have:=(hlt hR (hRS e he)).1 (h2 e he) e2
    rw[←this];exact e1
   have hd:=hv
   unfold QJ at hd;rw[Bool.and_eq_true,Bool.and_eq_true,Qi,Qi]at hd;refine⟨⟨hd.2.1,by omega⟩,hd.1.2,(Qty hR.1).2 ⟨hxK,fun e he hc=>?_⟩⟩
   have he':=hKS e he (QjE hv hc)
   exact(hlt hR (hRS e he')).1 (h2 e he') hc
  ·rintro⟨⟨r0,rn⟩,hat,hl⟩
   have hv:QJ (m:Nat) x.1 x.2=true:=by
    unfold QJ;rw[Bool.and_eq_true,Bool.and_eq_true,Qi,Qi];exact⟨⟨⟨n1,n5⟩,hat⟩,r0,by omega⟩
   have hR:=Qas hv
   obtain⟨l1,l2⟩:=(Qty hR.1).1 hl;refine⟨hKS x l1 hv,fun e he=>(hlt hR (hRS e he)).2 fun hc=>?_⟩
   obtain⟨f,f1,f2⟩:=hSK e he;have hf:f=x:=l2 f f1 (QqO hR.1 hc f2)
   rw[hf]at f2;exact QsD hR.1 hc f2
end Go.Own
