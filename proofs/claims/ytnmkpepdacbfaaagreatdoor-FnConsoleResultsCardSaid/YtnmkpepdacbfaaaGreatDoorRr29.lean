/- Own contracts. Conditions: as each theorem states them. -/
import Derived.Test.YtnmkpepdacbfaaaGreatDoorRr28
set_option linter.unusedSimpArgs false
set_option linter.unusedVariables false
set_option maxRecDepth 20000
set_option maxHeartbeats 2000000
namespace Go.Own
open Go Go.Proofs
attribute [local go_sem] Qkh Tryz.results122
attribute [local go_sem] Qm Qc QZ Q1 Q0 Q3 QaH Qdb Qr QaG
def QpG(K:St→Prop):St→Prop:=K
theorem QpG.mk{T:QH}{ops:Array Oper}{K:St→Prop}{l:List Oper}{s:St}(h:TL T ops (QpG K) l s):TL T ops K l s:=h
theorem QpG.out{K:St→Prop}{s:St}(h:K s):QpG K s:=h
attribute [irreducible] QpG
def QyB(L:List (Int×Int))(r:Int)(xs:List Int):List (Int×Int):=(xs.filter fun x=>L.any fun e=>e==(x,r)).map fun x=>(x,r)
def s17(L:List (Int×Int))(xs:List Int):Nat→List (Int×Int)
 | 0=>[]
 | r+1=>s17 L xs r++QyB L (r:Nat) xs
theorem Qvg{L:List (Int×Int)}{r:Int}{xs:List Int}:(QyB L r xs).length≤xs.length:=by
 unfold QyB;rw[List.length_map];exact List.length_filter_le _ _
theorem Qsr{L:List (Int×Int)}{xs:List Int}(h:xs.length≤32):∀{r:Nat},(s17 L xs r).length≤r*32
 | 0=>Nat.le_refl _
 | r+1=>by
  have h1:=@Qsr L xs h r
  have h2:=@Qvg L (r:Nat) xs
  rw[s17,List.length_append];omega
end Go.Own

namespace Go.Own
open Go Go.Proofs
def Qlu(n ag:Int)(d:Int×Int):Bool:=Q2 n d.1 d.2&&(Qax .and .i64 ag d.1==d.1)&&(Qax .and .i64 (ag.fdiv (2^d.2.toNat)) 1==0)
def QpS(ag:Int)(d:Int×Int)(K:List (Int×Int)):Nat→List (Int×Int)
 | 0=>K
 | k+1=>QpS ag d K k++(if(Qax .and .i64 (ag.fdiv (2^k)) 1==0)&&((k:Nat):Int)!=d.2&& !cov (QpS ag d K k) (QbI d.1 (k:Nat),d.2)then [(QbI d.1 (k:Nat),d.2)]else [])
def Qzz(m:Nat)(ag:Int)(K B:List (Int×Int)):List (Int×Int):=B.foldl (fun K d=>QpS ag d K m) K
def Quo(K:List (Int×Int))(i k:Nat):Bool:=((k:Int)==(i:Int))|| !cov [K.getD k (0,0)] (K.getD i (0,0))||(K.getD k (0,0)==K.getD i (0,0)&&decide ((k:Int)>(i:Int)))
def QoO(K:List (Int×Int))(i:Nat):Nat→Bool
 | 0=>true
 | k+1=>QoO K i k&&Quo K i k
def QxZ(K:List (Int×Int)):Nat→List (Int×Int)
 | 0=>[]
 | i+1=>QxZ K i++(if QoO K i K.length then [K.getD i (0,0)]else [])
def Ql4(n ag:Int)(ds:List (Int×Int)):List (Int×Int):=Qzz n.toNat ag (ds.filter fun d=> !Qlu n ag d) (ds.filter (Qlu n ag))
def QBG(n ag:Int)(ds:List (Int×Int)):List (Int×Int):=if Qvr n ag then s17 (QxZ (Ql4 n ag ds) (Ql4 n ag ds).length) (Q9 n) n.toNat else ds
theorem QwO{e y:Int}(hy:R5 y):R5 (Qax .and .i64 e y):=by
 have hw:∀m:Fin 32,IntKind.i64.wrap ((m.val:Nat):Int)=((m.val:Nat):Int):=by decide+kernel
 have h1:(BitVec.ofInt IntKind.i64.bits e&&& BitVec.ofInt IntKind.i64.bits y).toNat≤31:=by
  rw[BitVec.toNat_and];refine Nat.le_trans Nat.and_le_right ?_
  obtain⟨q,rfl⟩:=hy.fin;have:∀q:Fin 32,(BitVec.ofInt IntKind.i64.bits ((q.val:Nat):Int)).toNat≤31:=by decide+kernel
  exact this q
 have h2:=hw ⟨_,Nat.lt_succ_of_le h1⟩
 dsimp only at h2;unfold Qax;dsimp only;rw[h2];exact⟨by omega,by omega⟩
theorem QxP:∀l x:Fin 32,Qal ((l.val:Nat):Int) ((x.val:Nat):Int)=true→l.val≤x.val:=by decide+kernel
theorem QxN{l x:Int}(hl:R5 l)(hx:R5 x)(h:Qal l x=true):l≤x:=by
 obtain⟨l,rfl⟩:=hl.fin;obtain⟨x,rfl⟩:=hx.fin;have:=QxP l x h
 omega
theorem Qbt{d e:Int×Int}(hd:R5 d.1)(h:Qkp d e=true):e.2=d.2∧R5 e.1∧Qal e.1 d.1=true:=by
 unfold Qkp at h;rw[Bool.and_eq_true,beq_iff_eq,beq_iff_eq]at h;have h5:R5 e.1:=by rw[←h.2];exact QwO hd
 refine⟨h.1,h5,?_⟩
 rw[←Qlo h5 hd,h.2,beq_self_eq_true]
theorem QlH{d e:Int×Int}(hd:R5 d.1)(he:R5 e.1)(h1:e.2=d.2)(h2:Qal e.1 d.1=true):Qkp d e=true:=by
 unfold Qkp;rw[Qlo he hd,h2,h1];simp
theorem Qo4{n x y:Int}(hy:Qj n y=true)(hx:R5 x)(h:Qal x y=true):Qj n x=true:=by
 have h1:=Qt hy
 have h2:=QxN hx ⟨h1.2.2.1,h1.2.2.2⟩ h
 simp only[Qj,Bool.and_eq_true,Qh]at hy ⊢
 have:=hx.1
 omega
theorem Qim{n:Int}{d e:Int×Int}(hd:Q2 n d.1 d.2=true)(h:Qkp d e=true):Q2 n e.1 e.2=true:=by
 obtain⟨h1,h2,h3⟩:=Qbt (QaL hd).1 h;unfold Q2 at *;rw[Bool.and_eq_true,Bool.and_eq_true]at *;rw[h1];exact⟨⟨hd.1.1,Qo4 hd.1.2 h2 h3⟩,hd.2⟩
theorem QoH{d e f:Int×Int}(hd:R5 d.1)(h1:Qkp d e=true)(h2:Qkp e f=true):Qkp d f=true:=by
 obtain⟨a1,a2,a3⟩:=Qbt hd h1;obtain⟨b1,b2,b3⟩:=Qbt a2 h2;exact QlH hd b2 (b1.trans a1) (Qb1 b2 a2 hd b3 a3)
theorem Qkq{d:Int×Int}(hd:R5 d.1):Qkp d d=true:=QlH hd hd rfl (Qhb hd)
theorem QqE{d e:Int×Int}(hd:R5 d.1)(h1:Qkp d e=true)(h2:Qkp e d=true):e=d:=by
 obtain⟨a1,a2,a3⟩:=Qbt hd h1;obtain⟨b1,b2,b3⟩:=Qbt a2 h2;exact Prod.ext (Qcm a2 hd ((Q8 a2 hd).1 a3) ((Q8 hd a2).1 b3)) a1
theorem Qfq{K:List (Int×Int)}{d:Int×Int}:cov K d=true↔∃e∈K,Qkp d e=true:=by unfold cov;rw[List.any_eq_true]
def Qv3(m:Nat)(ag:Int)(d x:Int×Int):Prop:=∃k:Nat,k<m∧Qy ag (k:Nat)=false∧((k:Nat):Int)≠d.2∧x=(QbI d.1 (k:Nat),d.2)
theorem Quu{ag:Int}(hg:R5 ag){k:Nat}(hk:k≤4):(Qax .and .i64 (ag.fdiv (2^k)) 1==0)= !Qy ag (k:Nat):=by
 have:=Qrj (x:=ag) (r:=(k:Nat)) ⟨by omega,by omega⟩ hg
 rwa [Int.toNat_natCast]at this
theorem Qh5{ag:Int}(hg:R5 ag){d:Int×Int}(hd:Qbo d):∀{m:Nat},m≤5→∀{K:List (Int×Int)},(∀x∈QpS ag d K m,x∈K∨Qv3 m ag d x)∧(∀x∈K,x∈QpS ag d K m)∧(∀x,Qv3 m ag d x→cov (QpS ag d K m) x=true)
 | 0,_,K=>⟨fun x hx=> .inl hx,fun x hx=>hx,fun x ⟨k,h,_⟩=>by omega⟩
 | m+1,hm,K=>by
  obtain⟨h1,h2,h3⟩:=@Qh5 ag hg d hd m (by omega) K
  have hz:=Quu hg (k:=m) (by omega)
  have hx5:R5 (QbI d.1 (m:Nat)):=Qdf hd.1 ⟨by omega,by omega⟩
  rw[QpS,hz];refine⟨fun x hx=>?_,fun x hx=>List.mem_append_left _ (h2 x hx),fun x hx=>?_⟩
  ·rcases List.mem_append.1 hx with hx|hx
   ·rcases h1 x hx with h|⟨k,k1,k2⟩
    ·exact .inl h
    ·exact .inr ⟨k,by omega,k2⟩
   ·split at hx
    ·rename_i hc
     rw[Bool.and_eq_true,Bool.and_eq_true,Bool.not_eq_true',bne_iff_ne]at hc;rw[List.mem_singleton]at hx;exact .inr ⟨m,by omega,hc.1.1,hc.1.2,hx⟩
    ·cases hx
  ·have up:∀{L:List (Int×Int)} {y:Int×Int},cov (QpS ag d K m) y=true→cov (QpS ag d K m++L) y=true:=fun {L y} h=>by
    obtain⟨e,e1,e2⟩:=Qfq.1 h;exact Qfq.2 ⟨e,List.mem_append_left _ e1,e2⟩
   obtain⟨k,k1,k2,k3,rfl⟩:=hx
   by_cases e:k=m
   ·subst e
    rw[k2,bne_iff_ne.2 k3];cases hc:cov (QpS ag d K k) (QbI d.1 (k:Nat),d.2)
    ·exact Qfq.2 ⟨_,List.mem_append_right _ (by simp),Qkq hx5⟩
    ·exact up hc
   ·exact up (h3 _ ⟨k,by omega,k2,k3,rfl⟩)
theorem Qh6{ag:Int}(hg:R5 ag){m:Nat}(hm:m≤5):∀{B K:List (Int×Int)},(∀d∈B,Qbo d)→(∀x∈Qzz m ag K B,x∈K∨∃d∈B,Qv3 m ag d x)∧(∀x∈K,x∈Qzz m ag K B)∧(∀x,(∃d∈B,Qv3 m ag d x)→cov (Qzz m ag K B) x=true)
 | [],K,_=>⟨fun x hx=> .inl hx,fun x hx=>hx,fun x ⟨d,h,_⟩=>by cases h⟩
 | b::B,K,hB=>by
  obtain⟨a1,a2,a3⟩:=Qh5 hg (hB b (by simp)) hm (K:=K)
  obtain⟨b1,b2,b3⟩:=Qh6 hg hm (B:=B) (K:=QpS ag b K m) (fun d hd=>hB d (by simp[hd]))
  refine⟨fun x hx=>?_,fun x hx=>b2 x (a2 x hx),fun x ⟨d,hd,hx⟩=>?_⟩
  ·rcases b1 x hx with h|⟨d,h1,h2⟩
   ·rcases a1 x h with h|h
    ·exact .inl h
    ·exact .inr ⟨b,by simp,h⟩
   ·exact .inr ⟨d,by simp[h1],h2⟩
  ·rcases List.mem_cons.1 hd with rfl|hd
   ·obtain⟨e,e1,e2⟩:=Qfq.1 (a3 x hx)
    exact Qfq.2 ⟨e,b2 e e1,e2⟩
   ·exact b3 x ⟨d,hd,hx⟩
theorem Qg7{K:List (Int×Int)}{i:Nat}:∀{k:Nat},QoO K i k=true↔∀j,j<k→Quo K i j=true
 | 0=>by simp[QoO]
 | k+1=>by
  rw[QoO,Bool.and_eq_true,@Qg7 K i k];constructor
  ·rintro⟨h1,h2⟩ j hj
   by_cases e:j=k
   ·subst e;exact h2
   ·exact h1 j (by omega)
  ·exact fun h=>⟨fun j hj=>h j (by omega),h k (by omega)⟩
theorem Qnz{K:List (Int×Int)}{x:Int×Int}:∀{i:Nat},x∈QxZ K i↔∃j,j<i∧QoO K j K.length=true∧K.getD j (0,0)=x
 | 0=>by simp[QxZ]
 | i+1=>by
  rw[QxZ,List.mem_append,@Qnz K x i];constructor
  ·rintro(⟨j,h1,h2⟩|h)
   ·exact⟨j,by omega,h2⟩
   ·split at h
    ·rename_i hf
     rw[List.mem_singleton]at h;exact⟨i,by omega,hf,h.symm⟩
    ·cases h
  ·rintro⟨j,h1,h2,h3⟩
   by_cases e:j=i
   ·subst e
    right
    rw[if_pos h2,h3];simp
   ·exact .inl ⟨j,by omega,h2,h3⟩
theorem QrF{K:List (Int×Int)}{x:Int×Int}(hx:R5 x.1):x∈QxZ K K.length↔x∈K∧∀e∈K,Qkp x e=true→e=x:=by
 rw[Qnz];constructor
 ·rintro⟨j,h1,h2,h3⟩
  refine⟨by rw[←h3];exact QI h1 _,fun e he hc=>?_⟩
  obtain⟨k,hk,rfl⟩:=List.getElem_of_mem he;have:=Qg7.1 h2 k hk
  unfold Quo at this;have e1:K.getD k (0,0)=K[k]:=by simp[List.getD_eq_getElem?_getD,hk]
  rw[h3,e1]at this;simp only[Bool.or_eq_true,Bool.and_eq_true,beq_iff_eq,Bool.not_eq_true',cov,List.any_cons,List.any_nil,Bool.or_false,hc]at this
  rcases this with(h|h)|h
  ·have h:k=j:=by omega
   subst h;rw[←h3,e1]
  ·cases h
  ·exact h.1
 ·rintro⟨h1,h2⟩
  have hex:∃j,j<K.length∧K.getD j (0,0)=x:=by
   obtain⟨k,hk,e⟩:=List.getElem_of_mem h1;exact⟨k,hk,by simpa [List.getD_eq_getElem?_getD,hk]using e⟩
  have hmin:∃j,(j<K.length∧K.getD j (0,0)=x)∧∀i,i<j→¬(i<K.length∧K.getD i (0,0)=x):=by
   obtain⟨j,hj⟩:=hex;induction j using Nat.strongRecOn with
   | _ j ih=>
    by_cases q:∃i,i<j∧(i<K.length∧K.getD i (0,0)=x)
    ·obtain⟨i,q1,q2⟩:=q
     exact ih i q1 q2
    ·exact⟨j,hj,fun i hi hq=>q ⟨i,hi,hq⟩⟩
  obtain⟨j,⟨j1,j2⟩,j3⟩:=hmin;refine⟨j,j1,Qg7.2 fun k hk=>?_,j2⟩
  unfold Quo;rw[j2];simp only[Bool.or_eq_true,Bool.and_eq_true,beq_iff_eq,Bool.not_eq_true',cov,List.any_cons,List.any_nil,Bool.or_false,decide_eq_true_eq]
  cases hc:Qkp x (K.getD k (0,0))
  ·exact .inl (.inr rfl)
  ·have:=h2 _ (QI hk _) hc
   by_cases q:k=j
   ·exact .inl (.inl (by rw[q]))
   ·refine .inr ⟨this,?_⟩
    have:¬k<j:=fun h=>j3 k h ⟨hk,this⟩
    omega
theorem QbW{n x:Int}(hn:1≤n∧n≤5):x∈Q9 n↔Qj n x=true:=by
 have key:∀n:Fin 6,(∀x:Fin 32,(((x.val:Nat):Int)∈pbs n.val↔Qj ((n.val:Nat):Int) ((x.val:Nat):Int)=true)):=by decide+kernel
 obtain⟨m,rfl⟩:=Int.eq_ofNat_of_zero_le (show 0≤n by omega)
 rw[QaB (by omega)]
 constructor
 ·intro h
  have h1:=(@QM (m:Nat)).2.1 x (by rw[QaB (by omega)];exact h)
  have:=key ⟨m,by omega⟩ ⟨x.toNat,by omega⟩
  dsimp only at this;rw[show((x.toNat:Nat):Int)=x by omega]at this
  exact this.1 h
 ·intro h
  have h1:=Qt h
  have:=key ⟨m,by omega⟩ ⟨x.toNat,by omega⟩
  dsimp only at this;rw[show((x.toNat:Nat):Int)=x by omega]at this
  exact this.2 h
theorem Qmq{L:List (Int×Int)}{X:List Int}{d:Int×Int}:∀{r:Nat},d∈s17 L X r↔(0≤d.2∧d.2<r)∧d.1∈X∧d∈L
 | 0=>by simp only[s17,List.not_mem_nil,false_iff];rintro⟨h,_⟩;omega
 | r+1=>by
  rw[s17,List.mem_append,@Qmq L X d r];have hC:d∈QyB L (r:Nat) X↔d.2=(r:Nat)∧d.1∈X∧d∈L:=by
   unfold QyB;simp only[List.mem_map,List.mem_filter,List.any_eq_true,beq_iff_eq]
   constructor
   ·rintro⟨x,⟨h1,e,h2,rfl⟩,rfl⟩
    exact⟨rfl,h1,h2⟩
   ·rintro⟨h1,h2,h3⟩
    have e:(d.1,(r:Int))=d:=Prod.ext rfl h1.symm
    exact⟨d.1,⟨h2,d,h3,e.symm⟩,e⟩
  rw[hC];constructor
  ·rintro(⟨h1,h2⟩|⟨h1,h2⟩)
   ·exact⟨⟨h1.1,by omega⟩,h2⟩
   ·exact⟨⟨by omega,by omega⟩,h2⟩
  ·rintro⟨h1,h2⟩
   by_cases e:d.2=(r:Nat)
   ·exact .inr ⟨e,h2⟩
   ·exact .inl ⟨⟨h1.1,by omega⟩,h2⟩
def QhW(d:Int×Int):Nat:=Qwg (toQ d)
theorem QuK{d e:Int×Int}(hd:Qbo d)(he:Qbo e)(h:QhW d=QhW e):d=e:=by
 have:=Qnw h
 rw[←QkJ hd,this,QkJ he]
theorem Qdt{x r:Int}(hr:0≤r∧r≤4):QhW (x,r)=r.toNat*1000+QiC (toF x):=by
 unfold QhW Qwg toQ;dsimp only;rw[Nat.mod_eq_of_lt (by omega)]
theorem QiL{n:Int}(hn:1≤n∧n≤5):(Q9 n).Pairwise fun x y=>QiC (toF x)<QiC (toF y):=by
 obtain⟨m,rfl⟩:=Int.eq_ofNat_of_zero_le (show 0≤n by omega)
 rw[QaB (by omega)]
 have:=(QnT ⟨m,by omega⟩).2.1
 dsimp only at this;rwa [List.pairwise_map]at this
theorem QiP{L:List (Int×Int)}{X:List Int}(hX:X.Pairwise fun x y=>QiC (toF x)<QiC (toF y)):∀{r:Nat},r≤5→(s17 L X r).Pairwise fun d e=>QhW d<QhW e
 | 0,_=> .nil
 | r+1,h=>by
  have ih:=@QiP L X hX r (by omega)
  rw[s17,List.pairwise_append];refine⟨ih,?_,fun d hd e he=>?_⟩
  ·unfold QyB
   rw[List.pairwise_map];refine(List.Pairwise.filter _ hX).imp fun {x y} h=>?_
   rw[Qdt ⟨by omega,by omega⟩,Qdt ⟨by omega,by omega⟩]
   omega
  ·have h1:=(Qmq.1 hd).1
   unfold QyB at he;obtain⟨x,_,rfl⟩:=List.mem_map.1 he;obtain⟨y,s⟩:=d;dsimp only at h1;rw[Qdt ⟨by omega,by omega⟩,Qdt ⟨by omega,by omega⟩]
   have:=Qep (toF y)
   have:=Qep (toF x)
   omega
theorem Qhh{α:Type}{key:α→Nat}:∀{l m:List α},l.Pairwise (fun a b=>key a<key b)→m.Pairwise (fun a b=>key a<key b)→(∀x,x∈l↔x∈m)→l=m
 | [],[],_,_,_=>rfl
 | [],y::m,_,_,h=>by have:=(h y).2 (by simp);cases this
 | x::l,[],_,_,h=>by have:=(h x).1 (by simp);cases this
 | x::l,y::m,hl,hm,h=>by
  rw[List.pairwise_cons]at hl hm;have e:x=y:=by
   rcases List.mem_cons.1 ((h x).1 (by simp))with e|h1
   ·exact e
   ·rcases List.mem_cons.1 ((h y).2 (by simp))with e|h2
    ·exact e.symm
    ·have:=hm.1 x h1
     have:=hl.1 y h2
     omega
  subst e;rw[Qhh hl.2 hm.2 fun z=>?_]
  constructor
  ·intro hz
   rcases List.mem_cons.1 ((h z).1 (by simp[hz]))with e|h1
   ·subst e;have:=hl.1 z hz;omega
   ·exact h1
  ·intro hz
   rcases List.mem_cons.1 ((h z).2 (by simp[hz]))with e|h1
   ·subst e;have:=hm.1 z hz;omega
   ·exact h1
theorem QqA{α:Type} [Inhabited α] [DecidableEq α] {key:α→Nat}{d:Array α}(hs:∀i j,i≤j→j<d.size→key d[i]! ≤key d[j]!)(hi:∀i j,i<d.size→j<d.size→key d[i]! =key d[j]! →d[i]! =d[j]!):∀{m:Nat},m≤d.size→
  (Lib.compactUpTo d m).Pairwise (fun a b=>key a<key b)∧(∀y,y∈Lib.compactUpTo d m↔∃j,j<m∧d[j]! =y)
 | 0,_=>by simp[Lib.compactUpTo]
 | m+1,h=>by
  obtain⟨h1,h2⟩:=QqA hs hi (m:=m) (by omega)
  rw[Lib.compactUpTo_succ];cases hk:Lib.keeps d m
  ·simp only[Bool.false_eq_true,if_false,List.append_nil]
   refine⟨h1,fun y=>?_⟩
   rw[h2];simp only[Lib.keeps,decide_eq_false_iff_not,not_or,ne_eq,Decidable.not_not]at hk
   constructor
   ·rintro⟨j,hj,e⟩;exact⟨j,by omega,e⟩
   ·rintro⟨j,hj,e⟩
    by_cases hm:j=m
    ·subst hm
     exact⟨j-1,by omega,by rw[←e];exact hk.2.symm⟩
    ·exact⟨j,by omega,e⟩
  ·simp only[if_true]
   simp only[Lib.keeps,decide_eq_true_eq]at hk
   refine⟨List.pairwise_append.2 ⟨h1,by simp,fun a ha b hb=>?_⟩,fun y=>?_⟩
   ·rw[List.mem_singleton]at hb
    subst hb;obtain⟨j,hj,rfl⟩:=(h2 a).1 ha;have q1:=hs j (m-1) (by omega) (by omega)
    have q2:=hs (m-1) m (by omega) (by omega)
    have q3:d[m]! ≠d[m-1]! :=by
     rcases hk with hk|hk
     ·omega
     ·exact hk
    have q4:key d[m-1]! ≠key d[m]! :=fun e=>q3 (hi (m-1) m (by omega) (by omega) e).symm
    omega
   ·rw[List.mem_append,List.mem_singleton,h2]
    constructor
    ·rintro(⟨j,hj,e⟩|rfl)
     ·exact⟨j,by omega,e⟩
     ·exact⟨m,by omega,rfl⟩
    ·rintro⟨j,hj,e⟩
     by_cases hm:j=m
     ·subst hm;exact .inr e.symm
     ·exact .inl ⟨j,by omega,e⟩
theorem Qkl{ys:List (Int×Int)}(hy:∀d∈ys,Qbo d):(Lib.compact (Qd1 ys)).Pairwise (fun a b=>QhW a<QhW b)∧∀x,x∈Lib.compact (Qd1 ys)↔x∈ys:=by
 have hR:∀d∈Qd1 ys,Qbo d:=fun d hd=>hy d ((Qn9 hy).1 hd)
 have h1:(Qd1 ys).Pairwise fun x y=>QhW x≤QhW y:=by
  have:(QyN (ys.map toQ)).Pairwise fun x y=>(!(ltOf cfQ) y x)=true:=by
   apply List.pairwise_mergeSort
   ·intro a b c h1 h2
    rw[ltQ]at *;simp at *
    omega
   ·intro a b
    rw[ltQ,ltQ];simp
    omega
  unfold Qd1;rw[List.pairwise_map];refine this.imp_of_mem fun {a b} _ _ h=>?_
  rw[ltQ]at h;simp at h
  have tq:∀q:Fin 32×Fin 5,toQ (ofQ q)=q:=by
   rintro⟨a,b⟩;unfold toQ ofQ toF;dsimp only;refine Prod.ext (Fin.ext ?_) (Fin.ext ?_)
   ·dsimp only;omega
   ·dsimp only;omega
  unfold QhW;rw[tq,tq];exact h
 have hs:∀i j,i≤j→j<(Qd1 ys).toArray.size→QhW (Qd1 ys).toArray[i]! ≤QhW (Qd1 ys).toArray[j]! :=by
  intro i j hij hj
  by_cases e:i=j
  ·subst e;exact Nat.le_refl _
  ·have hj':j<(Qd1 ys).length:=by simpa using hj
   have:=(List.pairwise_iff_getElem.1 h1) i j (by omega) hj' (by omega)
   rw[getElem!_pos _ i (by omega),getElem!_pos _ j hj]
   simpa using this
 have hi:∀i j,i<(Qd1 ys).toArray.size→j<(Qd1 ys).toArray.size→QhW (Qd1 ys).toArray[i]! =QhW (Qd1 ys).toArray[j]! →(Qd1 ys).toArray[i]! =(Qd1 ys).toArray[j]! :=by
  intro i j h1 h2 h;rw[getElem!_pos _ i h1,getElem!_pos _ j h2]at *;exact QuK (hR _ (by simp)) (hR _ (by simp)) h
 obtain⟨c1,c2⟩:=QqA hs hi (Nat.le_refl _);have e:Lib.compact (Qd1 ys)=Lib.compactUpTo (Qd1 ys).toArray (Qd1 ys).toArray.size:=by unfold Lib.compact;simp
 rw[e];refine⟨c1,fun z=>?_⟩
 rw[c2,←Qn9 hy];constructor
 ·rintro⟨j,hj,rfl⟩
  rw[getElem!_pos _ j hj];simp
 ·intro hz
  obtain⟨j,hj,e⟩:=List.getElem_of_mem hz;refine⟨j,by simpa using hj,?_⟩
  rw[getElem!_pos _ j (by simpa using hj)]
  simpa using e
theorem QeK{ag:Int}{d x:Int×Int}:∀{m:Nat},x∈Qku ag d m↔Qv3 m ag d x
 | 0=>by simp only[Qku,List.not_mem_nil,false_iff];rintro⟨k,h,_⟩;omega
 | m+1=>by
  rw[Qku,List.mem_append,@QeK ag d x m];constructor
  ·rintro(⟨k,h1,h2⟩|h)
   ·exact⟨k,by omega,h2⟩
   ·split at h
    ·rename_i hc
     rw[Bool.and_eq_true,Bool.not_eq_true',bne_iff_ne]at hc;rw[List.mem_singleton]at h;exact⟨m,by omega,hc.1,hc.2,h⟩
    ·cases h
  ·rintro⟨k,h1,h2,h3,h4⟩
   by_cases e:k=m
   ·subst e
    right
    rw[h2,bne_iff_ne.2 h3,if_pos (show(!false&&true)=true from rfl),h4];simp
   ·exact .inl ⟨k,by omega,h2,h3,h4⟩
theorem Qtm:∀n:Fin 6,∀k:Fin 5,∀x:Fin 32,k.val<n.val→Qj ((n.val:Nat):Int) ((x.val:Nat):Int)=true→Qj ((n.val:Nat):Int) (QbI ((x.val:Nat):Int) ((k.val:Nat):Int))=true:=by decide+kernel
theorem Qq2{m:Nat}(hm:m≤5){ag:Int}{d x:Int×Int}(hd:Q2 (m:Nat) d.1 d.2=true)(h:Qv3 m ag d x):Q2 (m:Nat) x.1 x.2=true:=by
 obtain⟨k,h1,_,_,rfl⟩:=h;have hR:=QaL hd
 unfold Q2 at *;rw[Bool.and_eq_true,Bool.and_eq_true]at *;refine⟨⟨hd.1.1,?_⟩,hd.2⟩
 dsimp only;have:=Qtm ⟨m,by omega⟩ ⟨k,by omega⟩ ⟨d.1.toNat,by omega⟩ h1
 dsimp only at this;rw[show((d.1.toNat:Nat):Int)=d.1 by omega]at this
 exact this hd.1.2
theorem QmM{n ag:Int}(hg:R5 ag){d:Int×Int}(hd:Q2 n d.1 d.2=true):Qlu n ag d=(Qal d.1 ag&& !Qy ag d.2):=by
 have hR:=QaL hd
 unfold Qlu;have e:Qax .and .i64 ag d.1=Qax .and .i64 d.1 ag:=by
  obtain⟨q,hq⟩:=(show R5 d.1 from hR.1).fin
  obtain⟨a,rfl⟩:=hg.fin;rw[hq];have key:∀x y:Fin 32,Qax .and .i64 ((x.val:Nat):Int) ((y.val:Nat):Int)=Qax .and .i64 ((y.val:Nat):Int) ((x.val:Nat):Int):=by decide+kernel
  exact key a q
 rw[hd,Bool.true_and,e,Qlo hR.1 hg,Qrj hR.2 hg]
theorem QgO{n ag:Int}{d:Int×Int}(h:Qlu n ag d=true):Q2 n d.1 d.2=true:=by
 unfold Qlu at h;rw[Bool.and_eq_true,Bool.and_eq_true]at h;exact h.1.1
theorem Qvq{m:Nat}{ag:Int}(hg:R5 ag){ds:List (Int×Int)}{x:Int×Int}:x∈Qey (m:Nat) ag ds↔(x∈ds∧Q2 (m:Nat) x.1 x.2=true∧Qlu (m:Nat) ag x=false)∨∃d∈ds,Qlu (m:Nat) ag d=true∧Qv3 m ag d x:=by
 unfold Qey;rw[List.mem_flatMap];constructor
 ·rintro⟨d,hd,hx⟩
  unfold QsD at hx;split at hx
  ·rename_i hv
   split at hx
   ·rename_i hc
    rw[List.mem_singleton]at hx;subst hx;refine .inl ⟨hd,hv,?_⟩
    rw[QmM hg hv];cases h1:Qal x.1 ag
    ·rfl
    ·rw[h1]at hc
     simp only[Bool.not_true,Bool.false_or]at hc
     rw[hc];rfl
   ·rename_i hc
    refine .inr ⟨d,hd,?_,?_⟩
    ·rw[QmM hg hv]
     cases h1:Qal d.1 ag
     ·rw[h1]at hc;exact absurd rfl hc
     ·rw[h1]at hc
      cases h2:Qy ag d.2
      ·rfl
      ·rw[h2]at hc;exact absurd rfl hc
    ·rw[Int.toNat_natCast]at hx
     exact QeK.1 hx
  ·cases hx
 ·rintro(⟨h1,h2,h3⟩|⟨d,h1,h2,h3⟩)
  ·refine⟨x,h1,?_⟩
   rw[QmM hg h2]at h3;unfold QsD;rw[if_pos h2,if_pos]
   ·simp
   ·cases q1:Qal x.1 ag
    ·rfl
    ·rw[q1]at h3
     simpa using h3
  ·have hv:=QgO h2
   refine⟨d,h1,?_⟩
   rw[QmM hg hv,Bool.and_eq_true]at h2;unfold QsD;rw[if_pos hv,if_neg,Int.toNat_natCast]
   ·exact QeK.2 h3
   ·rw[h2.1]
    have:=h2.2
    rw[Bool.not_eq_true']at this;rw[this];decide
theorem QAW{n ag:Int}{ds:List (Int×Int)}:QpD n ag ds=QBG n ag ds:=by
 unfold QpD QBG;cases hv:Qvr n ag
 ·rfl
 ·rw[if_pos rfl,if_pos rfl]
  unfold Qvr at hv;rw[Bool.and_eq_true,decide_eq_true_eq]at hv;obtain⟨n1,ha⟩:=hv;obtain⟨_,n5,g0,g31⟩:=Qt ha;obtain⟨m,rfl⟩:=Int.eq_ofNat_of_zero_le (show 0≤n by omega)
  have hg:R5 ag:=⟨g0,g31⟩
  have hB:∀d∈ds.filter (Qlu (m:Nat) ag),Qbo d:=fun d hd=>QaL (QgO (List.mem_filter.1 hd).2)
  obtain⟨k1,k2,k3⟩:=Qh6 hg (m:=m) (by omega) (B:=ds.filter (Qlu (m:Nat) ag)) (K:=ds.filter fun d=> !Qlu (m:Nat) ag d) hB
  have hK:Ql4 (m:Nat) ag ds=Qzz m ag (ds.filter fun d=> !Qlu (m:Nat) ag d) (ds.filter (Qlu (m:Nat) ag)):=by unfold Ql4;rw[Int.toNat_natCast]
  rw[←hK]at k1 k2 k3;rw[Int.toNat_natCast];generalize hKK:Ql4 (m:Nat) ag ds=K at k1 k2 k3 ⊢;have hS:∀{x:Int×Int},x∈Qey (m:Nat) ag ds↔(x∈ds∧Q2 (m:Nat) x.1 x.2=true∧Qlu (m:Nat) ag x=false)∨∃d∈ds,Qlu (m:Nat) ag d=true∧Qv3 m ag d x:=fun {x}=>Qvq hg
  have hval:∀x∈Qey (m:Nat) ag ds,Q2 (m:Nat) x.1 x.2=true:=fun x hx=>by
   rcases hS.1 hx with⟨_,h,_⟩|⟨d,h1,h2,h3⟩
   ·exact h
   ·exact Qq2 (by omega) (QgO h2) h3
  have hKS:∀x∈K,Q2 (m:Nat) x.1 x.2=true→x∈Qey (m:Nat) ag ds:=fun x hx hv=>by
   rcases k1 x hx with h|⟨d,h1,h2⟩
   ·obtain⟨h1,h2⟩:=List.mem_filter.1 h
    exact hS.2 (.inl ⟨h1,hv,by simpa using h2⟩)
   ·obtain⟨h3,h4⟩:=List.mem_filter.1 h1
    exact hS.2 (.inr ⟨d,h3,h4,h2⟩)
  have hSK:∀x∈Qey (m:Nat) ag ds,∃e∈K,Qkp x e=true:=fun x hx=>by
   have hv:=hval x hx
   rcases hS.1 hx with⟨h1,_,h3⟩|⟨d,h1,h2,h3⟩
   ·exact⟨x,k2 x (List.mem_filter.2 ⟨h1,by rw[h3];rfl⟩),Qkq (QaL hv).1⟩
   ·exact Qfq.1 (k3 x ⟨d,List.mem_filter.2 ⟨h1,h2⟩,h3⟩)
  have hRS:∀d∈Qey (m:Nat) ag ds,Qbo d:=fun d hd=>QaL (hval d hd)
  obtain⟨c1,c2⟩:=Qkl hRS;have hX:=QiL (n:=(m:Nat)) ⟨n1,n5⟩
  unfold QAV;refine Qhh (key:=QhW) (List.Pairwise.filter _ c1) (QiP hX (by omega)) fun x=>?_
  rw[Qmq,List.mem_filter,c2,QbW ⟨n1,n5⟩];have hlow:(Lib.compact (Qd1 (Qey (m:Nat) ag ds))).all (Qj1 x)=true↔∀e∈Qey (m:Nat) ag ds,Qj1 x e=true:=by
   rw[List.all_eq_true];exact⟨fun h e he=>h e ((c2 e).2 he),fun h e he=>h e ((c2 e).1 he)⟩
  rw[hlow];have hlt:∀{x:Int×Int},Qbo x→∀{e},Qbo e→(Qj1 x e=true↔(Qkp x e=true→e=x)):=fun {x} hx {e} he=>by
   unfold Qj1;rw[Bool.or_eq_true,Bool.or_eq_true,beq_iff_eq,bne_iff_ne,Bool.not_eq_true'];constructor
   ·rintro((h|h)|h) hc
    ·exact h
    ·exact absurd (Qbt hx.1 hc).1 h
    ·rw[(Qbt hx.1 hc).2.2]at h;cases h
   ·intro h
    by_cases q:e=x
    ·exact .inl (.inl q)
    ·by_cases q2:e.2=x.2
     ·right
      rw[←Bool.not_eq_true];intro q3;exact q (h (QlH hx.1 he.1 q2 q3))
     ·exact .inl (.inr q2)
  constructor
  ·rintro⟨h1,h2⟩
   have hv:=hval x h1
   have hR:=QaL hv
   have hxK:x∈K:=by
    obtain⟨e,e1,e2⟩:=hSK x h1;have he:=hKS e e1 (Qim hv e2)
    have:=(hlt hR (hRS e he)).1 (h2 e he) e2
    rw[←this];exact e1
   have hd:=hv
   unfold Q2 at hd;rw[Bool.and_eq_true,Bool.and_eq_true,Qh,Qh]at hd;refine⟨⟨hd.2.1,by omega⟩,hd.1.2,(QrF hR.1).2 ⟨hxK,fun e he hc=>?_⟩⟩
   have he':=hKS e he (Qim hv hc)
   exact(hlt hR (hRS e he')).1 (h2 e he') hc
  ·rintro⟨⟨r0,rn⟩,hat,hl⟩
   have hv:Q2 (m:Nat) x.1 x.2=true:=by
    unfold Q2;rw[Bool.and_eq_true,Bool.and_eq_true,Qh,Qh];exact⟨⟨⟨n1,n5⟩,hat⟩,r0,by omega⟩
   have hR:=QaL hv
   obtain⟨l1,l2⟩:=(QrF hR.1).1 hl;refine⟨hKS x l1 hv,fun e he=>(hlt hR (hRS e he)).2 fun hc=>?_⟩
   obtain⟨f,f1,f2⟩:=hSK e he;have hf:f=x:=l2 f f1 (QoH hR.1 hc f2)
   rw[hf]at f2;exact QqE hR.1 hc f2
end Go.Own
