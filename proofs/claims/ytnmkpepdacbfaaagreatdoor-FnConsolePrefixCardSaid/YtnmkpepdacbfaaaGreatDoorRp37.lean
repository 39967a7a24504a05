/- Contracts. Conditions: as stated. -/
import Derived.Test.YtnmkpepdacbfaaaGreatDoorRp36
set_option linter.all false
set_option maxRecDepth 20000
set_option maxHeartbeats 2000000
namespace Go.Own
open Go Go.Proofs
attribute [local go_sem] QT QsP Qiu Qcf Qiv Tryz.results176 QsR Tryz.results132 Qh Qg Qae Qag Qaf Qaj Qa7 Qd1 Qv Qa6
theorem QxP:∀k:Fin 5,∀r:Fin 5,r.val≤k.val→Qu (((2^(k.val+1):Nat):Int)-1) ((r.val:Nat):Int)=true:=by decide+kernel
theorem QiQ:∀{l:List Int},l≠[]→∃m∈l,∀y∈l,m≤y
 | [],h=>absurd rfl h
 | [x],_=>⟨x,by simp,by simp⟩
 | x::y::l,_=>by
  obtain⟨m,h1,h2⟩:=@QiQ (y::l) (by simp)
  by_cases h:x≤m
  ·exact⟨x,by simp,fun z hz=>by
    rcases KI.1 hz with rfl|hz
    ·exact Int.le_refl _
    ·exact Int.le_trans h (h2 z hz)⟩
  ·exact⟨m,by simp[h1],fun z hz=>by
    rcases KI.1 hz with rfl|hz
    ·omega
    ·exact h2 z hz⟩
theorem QBr{n:Int}{ds:List (Int×Int)}(hv:QJ n ds=true):(2^n.toNat-1:Nat)<2^n.toNat∧(((2^n.toNat:Nat):Int)-1)∈QuL (2^n.toNat) ds:=by
 obtain⟨n1,n5,_⟩:=QfY hv;have hd:=QaE hv
 obtain⟨c,rfl⟩:=KL (show 0≤n by omega)
 rw[KE];have hM2:2^c≤32:=KF (K2 (by omega) (show c≤5 by omega)) (by decide)
 have hM3:1≤2^c:=Nat.one_le_two_pow
 have hx:R5 (((2^c:Nat):Int)-1):=⟨by omega,by omega⟩
 refine⟨by omega,?_⟩
 unfold QuL;rw[Ku];constructor
 ·have:((2^c:Nat):Int)-1=((2^c-1:Nat):Int):=by omega
  rw[this];unfold rng;exact KQ.2 ⟨2^c-1,List.mem_range.2 (by omega),rfl⟩
 ·unfold kqB
  rw[Kh];refine(Qzd hd hx hx (leB.refl _) (Qze hd hx) ?_).symm
  intro d hdm _;have hv2:=hv
  simp only[QJ,KB,Kg]at hv2
  have h:=hv2.1 d hdm
  simp only[QO,KB,Qj]at h
  have:=QxP ⟨c-1,by omega⟩ ⟨d.2.toNat,by omega⟩ (by dsimp only;omega)
  dsimp only at this;rw[show c-1+1=c by omega,show((d.2.toNat:Nat):Int)=d.2 by omega]at this
  exact this
theorem Qyh{M:Nat}{ds:List (Int×Int)}{x:Int}(h:x∈QuL M ds):0≤x∧x<M:=by
 unfold QuL at h;rw[Ku]at h;unfold rng at h;obtain⟨i,hi,rfl⟩:=KQ.1 h.1;rw[List.mem_range]at hi;exact⟨by omega,by omega⟩
theorem QcC{n:Int}{ds:List (Int×Int)}:(Qc1 n ds).length≤100∧(∀x∈Qc1 n ds,R5 x)∧(QJ n ds=true→0<(Qc1 n ds).length):=by
 unfold Qc1;split
 ·rename_i hv
  refine⟨QdQ,fun x hx=>?_,fun _=>?_⟩
  ·have:=(QyE hx).2
   exact(Qq this).2.2
  ·obtain⟨_,hm⟩:=QBr hv
   obtain⟨n1,n5,_⟩:=QfY hv;have hM2:2^n.toNat≤32:=KF (K2 (by omega) (show n.toNat≤5 by omega)) (by decide)
   have hlen:(QuL (2^n.toNat) ds).length≤2^n.toNat:=Qbs
   have hmem:=fun x h=>@Qyh (2^n.toNat) ds x h
   generalize QuL (2^n.toNat) ds=L at hm hlen hmem;have hs:QaG L=true:=by
    simp only[QaG,KB,Kg,KK,Ql,Qj,Qc7]
    refine⟨fun x hx=>⟨by decide,?_,?_⟩,by omega⟩
    ·exact(hmem x hx).1
    ·have:=(hmem x hx).2
     show x≤31
     omega
   obtain⟨m,m1,m2⟩:=QiQ (l:=L) (by intro e;rw[e]at hm;cases hm)
   have hin:m∈Qcs QaM L:=by
    unfold Qcs;rw[hs,if_pos rfl,Qan,Ku];refine⟨m1,Kg.2 fun y hy=>?_⟩
    unfold QaM;cases hq:Qab y m
    ·simp
    ·have r1:=hmem y hy
     have r2:=hmem m m1
     have:=QuF (x:=y) (s:=m) ⟨by omega,by omega⟩ ⟨by omega,by omega⟩ hq
     have:=m2 y hy
     have e:m=y:=by omega
     simp[e]
   exact List.length_pos_of_mem hin
 ·rename_i hv
  exact⟨by simp,by simp,fun h=>absurd h hv⟩
def QCn(a:Int)(x:Int)(e:Int×Int):Int:=if e.1==a then Qbp x e.2 else x
def QsJ(C:List (Int×Int))(a:Int):Int:=C.foldl (QCn a) a
def QjZ(C l:List (Int×Int)):List Int:=l.map fun d=>QsJ C d.1
def QsI(K S:List Int):List Int:=S++(if S.any (Qbc K)then []else [K.getD 0 0])
def Qrk(n:Int)(ds:List (Int×Int)):List Int:=if QJ n ds then Qcs QaU (QsI (Qc1 n ds) (QjZ (QgG n ds) (QgG n ds)))else []
theorem QEq{a x:Int}{e:Int×Int}(hx:R5 x)(he:0≤e.2∧e.2≤4):R5 (QCn a x e):=by
 unfold QCn;split
 ·exact Qd4 hx he
 ·exact hx
theorem Qv4{a:Int}(ha:R5 a):∀{C:List (Int×Int)},(∀d∈C,Qbv d)→R5 (QsJ C a):=by
 intro C h;unfold QsJ;suffices H:∀(C:List (Int×Int)) (x:Int),R5 x→(∀d∈C,Qbv d)→R5 (C.foldl (QCn a) x)from H C a ha h
 intro C;induction C with
 | nil=>intro x hx _;exact hx
 | cons d C ih=>intro x hx h;exact ih _ (QEq hx (h d (by simp)).2) fun e he=>h e (by simp[he])
theorem QnT{C:List (Int×Int)}{a:Int}{k:Nat}(h:k<C.length):QsJ (C.take (k+1)) a=QCn a (QsJ (C.take k) a) (C.getD k (0,0)):=by
 unfold QsJ;rw[Qf h (0,0),YW];rfl
theorem QnS{C l:List (Int×Int)}{i:Nat}(h:i<l.length):QjZ C (l.take (i+1))=QjZ C (l.take i)++[QsJ C (l.getD i (0,0)).1]:=by
 unfold QjZ;rw[Qf h (0,0),Kv];rfl
theorem QfB{C l:List (Int×Int)}:(QjZ C l).length=l.length:=by simp[QjZ]
theorem QEp{C l:List (Int×Int)}(hC:∀d∈C,Qbv d)(hl:∀d∈l,Qbv d):∀x∈QjZ C l,R5 x:=by
 intro x hx;obtain⟨d,hd,rfl⟩:=KQ.1 hx;exact Qv4 (hl d hd).1 hC
theorem Qsz{l:List Int}(h:l.length≤100):QaG (Qa2 l)=QaG l:=by
 unfold QaG;have h2:=@QaL l
 rw[KZ (show((Qa2 l).length:Int)≤100 by omega),KZ (show(l.length:Int)≤100 by omega),Yd,Yd,Kp,Kg,Kg]
 exact⟨fun h x hx=>h x (Qan.2 hx),fun h x hx=>h x (Qan.1 hx)⟩
theorem QyD{t:Int→Int→Bool}{l:List Int}(h:l.length≤100):Qcs t (Qa2 l)=Qcs t l:=by
 unfold Qcs;rw[Qsz h];have e:∀x,(Qa2 l).all (t x)=l.all (t x):=fun x=>by
  rw[Kp,Kg,Kg];exact⟨fun h y hy=>h y (Qan.2 hy),fun h y hy=>h y (Qan.1 hy)⟩
 simp only[e]
 split
 ·rw[QgM]
  refine QbY QaA QaA fun z=>?_
  simp only[Qan]
 ·rfl
theorem QAb{l:List Int}{p:Int→Bool}:(Qa2 l).any p=l.any p:=by
 rw[Kp,List.any_eq_true,List.any_eq_true];constructor
 ·rintro⟨x,h1,h2⟩;exact⟨x,Qan.1 h1,h2⟩
 ·rintro⟨x,h1,h2⟩;exact⟨x,Qan.2 h1,h2⟩
def Qy9:Qb:=⟨[],false,fun
 | [.one (.v (.int .i64 n)),.one (.sl 2 l)]=>some (WfD l∧ -9223372036854775808≤n∧n≤9223372036854775807,[⟨false,[.own 1 (iL (Qrk n (unD l))) 1]⟩],[])
 | _=>none⟩
attribute [local go_sem] Qy9
theorem QCm:Qa E0 176 Qy9:=by
 refine QG (E:=E0) (T:=mkT Tryz.prog [(163,QT),(115,QsP),(175,Qiu),(198,Qcf),(208,Qiv)] false (fun _=>false) true (fun _=>false)) (Qd (E:=E0) (.cons Qby (.cons Qt1 (.cons QqB (.cons QgR (.cons QqI .nil)))))) (fn:=Tryz.f176) Tryz.func176 kR rfl Qc kR rfl ?_
 intro args p rs ms hr;unfold Qy9 at hr;dsimp only at hr;split at hr;rotate_left
 ·cases hr
 rename_i n l;cases hr;refine⟨rfl,rfl,nLe rfl,?_⟩
 have hm:=mxE;rintro⟨h1,hn1,hn2⟩ bs;obtain⟨ds,rfl,hx⟩:=h1.ex;clear h1;rw[Qh];cases hv:QJ n ds
 ·have e:Qrk n ds=[]:=by unfold Qrk;rw[hv];rfl
  rw[e];clear e;(repeat' first|refine gA fun _=>?_|apply fkI<;>intro hb<;>try simp only[ew,hv]at hb|simp only[go_sem,simprocAttr, *,hv])
  all_goals first|rfl|skip
 ·have e:Qrk n ds=Qcs QaU (QsI (Qc1 n ds) (QjZ (QgG n ds) (QgG n ds))):=by unfold Qrk;rw[hv];rfl
  rw[e];clear e;obtain⟨k1,k2,k3⟩:=@QcC n ds;have k3:=k3 hv
  obtain⟨c1,c2⟩:=@Qdg n ds;have cR:∀d∈QgG n ds,Qbv d:=fun d hd=>Qaz (c1 d hd)
  clear c1;have c3:(QgG n ds).length≤maxLen:=KF c2 (by decide)
  (repeat' first|refine gA fun _=>?_|apply fkI<;>intro hb<;>try simp only[ew,hv]at hb|simp only[go_sem,simprocAttr, *,hv])
  generalize hC:QgG n ds=C at c2 c3 cR;generalize hK:Qc1 n ds=K at k1 k2 k3;have kmx:K.length≤maxLen:=KF k1 (by decide)
  have hSL:=fun i=>@QfB C (C.take i)
  refine lpI {ι:=Nat,rs:=[(8,10),(11,12),(27,54)],mods:=[(26,fun i=> .one (.d (.v (.int .i64 i)))),(6,fun i=> .one (.own 1 (iL (QjZ C (C.take i))) 1))],boxes:=[],arrs:=[(5,fun _=>(2,dL C,1))],alis:=[(24,5)],ok:=fun i=>i≤C.length,mu:=fun i=>C.length-i} rfl 0 (KJ _) ?_ fun i hi=>?_
  ·clear cR k2
   (repeat' first|refine gA fun _=>?_|apply fkI<;>intro hb<;>try simp only[ew,hC]at hb|simp only[go_sem,simprocAttr, *])
   all_goals first|rfl|skip
  ·dsimp only at i hi
   have s1:=hSL i
   rw[KO]at s1;have s2:(QjZ C (C.take i)).length≤20:=by omega
   clear s1;have s3:(QjZ C (C.take i)).length≤maxLen:=KF s2 (by decide)
   by_cases h5:i<C.length
   ·have eS:=QnS (C:=C) h5
    obtain⟨⟨a1,a2⟩,b1,b2⟩:=cR _ (QE h5 (0,0));generalize hZ:QjZ C (C.take i)=Z at s2 s3 eS;generalize hg:C.getD i (0,0)=g at eS a1 a2 b1 b2;obtain⟨a,b⟩:=g;dsimp only at eS a1 a2 b1 b2;clear k2;have e0:QsJ (C.take 0) a=a:=rfl
    (repeat' first|refine gA fun _=>?_|apply fkI<;>intro hb<;>try simp only[ew,hZ,hg]at hb|simp only[go_sem,simprocAttr, *])
    refine lpI {ι:=Nat,rs:=[(11,12),(35,49)],mods:=[(34,fun k=> .one (.d (.v (.int .i64 k)))),(9,fun k=> .one (.d (.v (.int .i64 (QsJ (C.take k) a)))))],boxes:=[(8,fun _=>[.d (.v (.int .i64 a)),.d (.v (.int .i64 b))])],arrs:=[(5,fun _=>(2,dL C,1)),(6,fun _=>(1,iL Z,1))],alis:=[(24,5),(32,5)],ok:=fun k=>k≤C.length,mu:=fun k=>C.length-k} rfl 0 (KJ _) ?_ fun k hk=>?_
    ·clear cR
     (repeat' first|refine gA fun _=>?_|apply fkI<;>intro hb<;>try simp only[ew,hZ,hg,e0]at hb|simp only[go_sem,simprocAttr, *])
     all_goals first|rfl|skip
    ·dsimp only at k hk
     have hX:=@Qv4 a ⟨a1,a2⟩ (C.take k) fun d hd=>cR d (Ks hd)
     by_cases h6:k<C.length
     ·have eX:=QnT (a:=a) h6
      obtain⟨_,d1,d2⟩:=cR _ (QE h6 (0,0));generalize hx:QsJ (C.take k) a=x at hX eX;generalize hh:C.getD k (0,0)=h at eX d1 d2;obtain⟨u,v⟩:=h;dsimp only at eX d1 d2;obtain⟨x0,x31⟩:=hX;have hp:=QCc ⟨d1,d2⟩
      have eo:QV .or .i64 x (1*2^v.toNat)=Qbp x v:=rfl
      unfold QCn at eX;dsimp only at eX;cases hq:(u==a)
      ·rw[hq,if_neg (by decide)]at eX
       clear cR;(repeat' first|refine gA fun _=>?_|apply fkI<;>intro hb<;>try simp only[ew,hx,hh,hq]at hb|simp only[go_sem,simprocAttr, *,hq])
       refine lpQ (k+1) ?_
       (repeat' first|refine gA fun _=>?_|apply fkI<;>intro hb<;>try simp only[ew,hx,eX,hh,hq]at hb|simp only[go_sem,simprocAttr, *,hq])
      ·rw[hq,if_pos rfl]at eX
       clear cR;(repeat' first|refine gA fun _=>?_|apply fkI<;>intro hb<;>try simp only[ew,Qi,hx,hh,hq,eo]at hb|simp only[go_sem,simprocAttr, *,Qi,hq])
       refine lpQ (k+1) ?_
       (repeat' first|refine gA fun _=>?_|apply fkI<;>intro hb<;>try simp only[ew,hx,eX,hh,hq,eo]at hb|simp only[go_sem,simprocAttr, *,hq])
     ·have e6:k=C.length:=by omega
      subst e6;have eT:C.take C.length=C:=KR
      clear cR;(repeat' first|refine gA fun _=>?_|apply fkI<;>intro hb<;>try simp only[ew,eT,Qo]at hb|simp only[go_sem,simprocAttr, *,Qo])
      refine lpQ (i+1) ?_
      (repeat' first|refine gA fun _=>?_|apply fkI<;>intro hb<;>try simp only[ew,hZ,eS,eT,Qo]at hb|simp only[go_sem,simprocAttr, *,Qo])
   ·have e5:i=C.length:=by omega
    subst e5;have eP:C.take C.length=C:=KR
    rw[eP]at s2 s3;generalize hZ:QjZ C C=Z at s2 s3;clear cR k2 hSL;(repeat' first|refine gA fun _=>?_|apply fkI<;>intro hb<;>try simp only[ew,eP,hZ,hK]at hb|simp only[go_sem,simprocAttr, *])
    refine lpI {ι:=Nat,rs:=[(15,16),(60,70)],mods:=[(59,fun k=> .one (.d (.v (.int .i64 k)))),(13,fun k=> .one (.d (.v (.bool ((Z.take k).any (Qbc K))))))],boxes:=[],arrs:=[(6,fun _=>(1,iL Z,1)),(12,fun _=>(1,iL K,1))],alis:=[(57,6)],ok:=fun k=>k≤Z.length,mu:=fun k=>Z.length-k} rfl 0 (KJ _) ?_ fun k hk=>?_
    ·(repeat' first|refine gA fun _=>?_|apply fkI<;>intro hb<;>try simp only[ew,eP,hZ,hK]at hb|simp only[go_sem,simprocAttr, *])
     all_goals first|rfl|skip
    ·dsimp only at k hk
     by_cases h6:k<Z.length
     ·have eA:=QhN h6 0 (Qbc K)
      generalize hf:(Z.take k).any (Qbc K)=b0 at eA;generalize hg:Qbc K (Z.getD k 0)=b1 at eA;cases b0
      ·rw[K8]at eA
       (repeat' first|refine gA fun _=>?_|apply fkI<;>intro hb<;>try simp only[ew,hf,hg]at hb|simp only[go_sem,simprocAttr, *])
       refine lpQ (k+1) ?_
       (repeat' first|refine gA fun _=>?_|apply fkI<;>intro hb<;>try simp only[ew,hf,hg,eA]at hb|simp only[go_sem,simprocAttr, *])
      ·rw[YC]at eA
       (repeat' first|refine gA fun _=>?_|apply fkI<;>intro hb<;>try simp only[ew,hf,hg]at hb|simp only[go_sem,simprocAttr, *])
       refine lpQ (k+1) ?_
       (repeat' first|refine gA fun _=>?_|apply fkI<;>intro hb<;>try simp only[ew,hf,hg,eA]at hb|simp only[go_sem,simprocAttr, *])
     ·have e6:k=Z.length:=by omega
      subst e6;have eT:Z.take Z.length=Z:=KR
      cases hq:Z.any (Qbc K)
      ·have eA:QsI K Z=Z++[K.getD 0 0]:=by unfold QsI;rw[hq];rfl
       rw[eA];clear eA;(repeat' first|refine gA fun _=>?_|apply fkI<;>intro hb<;>try simp only[ew,eT,hq,Qo]at hb|simp only[go_sem,simprocAttr, *,hq,Qo])
      ·have eA:QsI K Z=Z:=by unfold QsI;rw[hq,if_pos rfl,KM]
       rw[eA];clear eA;(repeat' first|refine gA fun _=>?_|apply fkI<;>intro hb<;>try simp only[ew,eT,hq]at hb|simp only[go_sem,simprocAttr, *,hq])
theorem QCo:Qa E0 132 Qy9:=by
 refine QG (E:=E0) (T:=mkT Tryz.prog [(126,QT),(86,QsP),(69,QsR),(131,Qiu),(178,Qiv)] false (fun _=>false) true (fun _=>false)) (Qd (E:=E0) (.cons Qbz (.cons Qt3 (.cons Qny (.cons QqC (.cons QuZ .nil)))))) (fn:=Tryz.f132) Tryz.func132 kR rfl Qc kR rfl ?_
 intro args p rs ms hr;unfold Qy9 at hr;dsimp only at hr;split at hr;rotate_left
 ·cases hr
 rename_i n l;cases hr;refine⟨rfl,rfl,nLe rfl,?_⟩
 have hm:=mxE;rintro⟨h1,hn1,hn2⟩ bs;obtain⟨ds,rfl,hx⟩:=h1.ex;clear h1;rw[Qh];cases hv:QJ n ds
 ·have e:Qrk n ds=[]:=by unfold Qrk;rw[hv];rfl
  rw[e];clear e;(repeat' first|refine gA fun _=>?_|apply fkI<;>intro hb<;>try simp only[ew,hv]at hb|simp only[go_sem,simprocAttr, *,hv])
  all_goals first|rfl|skip
 ·have e:Qrk n ds=Qcs QaU (QsI (Qc1 n ds) (QjZ (QgG n ds) (QgG n ds))):=by unfold Qrk;rw[hv];rfl
  rw[e];clear e;obtain⟨k1,k2,k3⟩:=@QcC n ds;have k3:=k3 hv
  obtain⟨c1,c2⟩:=@Qdg n ds;have cR:∀d∈QgG n ds,Qbv d:=fun d hd=>Qaz (c1 d hd)
  clear c1;have c3:(QgG n ds).length≤maxLen:=KF c2 (by decide)
  (repeat' first|refine gA fun _=>?_|apply fkI<;>intro hb<;>try simp only[ew,hv]at hb|simp only[go_sem,simprocAttr, *,hv])
  generalize hC:QgG n ds=C at c2 c3 cR;generalize hK:Qc1 n ds=K at k1 k2 k3;have kmx:K.length≤maxLen:=KF k1 (by decide)
  have hSL:=fun i=>@QfB C (C.take i)
  refine lpI {ι:=Nat,rs:=[(8,10),(23,62)],mods:=[(7,fun i=> .one (.d (.v (.int .i64 i)))),(5,fun i=> .one (.own 1 (iL (Qa2 (QjZ C (C.take i)))) 1))],boxes:=[],arrs:=[(6,fun _=>(2,dL C,1))],ok:=fun i=>i≤C.length,mu:=fun i=>C.length-i} rfl 0 (KJ _) ?_ fun i hi=>?_
  ·clear cR k2
   (repeat' first|refine gA fun _=>?_|apply fkI<;>intro hb<;>try simp only[ew,hC]at hb|simp only[go_sem,simprocAttr, *])
   all_goals first|rfl|skip
  ·dsimp only at i hi
   have s0:=@QaL (QjZ C (C.take i))
   have s1:=hSL i
   rw[KO]at s1;have s2:(Qa2 (QjZ C (C.take i))).length≤20:=by omega
   clear s1 s0;have s3:(Qa2 (QjZ C (C.take i))).length≤maxLen:=KF s2 (by decide)
   by_cases h5:i<C.length
   ·have eS:=congrArg Qa2 (QnS (C:=C) h5)
    rw[Qef]at eS;obtain⟨⟨a1,a2⟩,b1,b2⟩:=cR _ (QE h5 (0,0));generalize hZ:Qa2 (QjZ C (C.take i))=Z at s2 s3 eS;generalize hg:C.getD i (0,0)=g at eS a1 a2 b1 b2;obtain⟨a,b⟩:=g;dsimp only at eS a1 a2 b1 b2;clear k2;have e0:QsJ (C.take 0) a=a:=rfl
    (repeat' first|refine gA fun _=>?_|apply fkI<;>intro hb<;>try simp only[ew,hZ,hg]at hb|simp only[go_sem,simprocAttr, *])
    refine lpI {ι:=Nat,rs:=[(34,59)],mods:=[(9,fun k=> .one (.d (.v (.int .i64 k)))),(8,fun k=> .one (.d (.v (.int .i64 (QsJ (C.take k) a)))))],boxes:=[],arrs:=[(6,fun _=>(2,dL C,1)),(5,fun _=>(1,iL Z,1))],ok:=fun k=>k≤C.length,mu:=fun k=>C.length-k} rfl 0 (KJ _) ?_ fun k hk=>?_
    ·clear cR
     (repeat' first|refine gA fun _=>?_|apply fkI<;>intro hb<;>try simp only[ew,hZ,hg,e0]at hb|simp only[go_sem,simprocAttr, *])
     all_goals first|rfl|skip
    ·dsimp only at k hk
     have hX:=@Qv4 a ⟨a1,a2⟩ (C.take k) fun d hd=>cR d (Ks hd)
     by_cases h6:k<C.length
     ·have eX:=QnT (a:=a) h6
      obtain⟨_,d1,d2⟩:=cR _ (QE h6 (0,0));generalize hx:QsJ (C.take k) a=x at hX eX;generalize hh:C.getD k (0,0)=h at eX d1 d2;obtain⟨u,v⟩:=h;dsimp only at eX d1 d2;obtain⟨x0,x31⟩:=hX;have hp:=QCc ⟨d1,d2⟩
      have eo:QV .or .i64 x (1*2^v.toNat)=Qbp x v:=rfl
      unfold QCn at eX;dsimp only at eX;cases hq:(u==a)
      ·rw[hq,if_neg (by decide)]at eX
       clear cR;(repeat' first|refine gA fun _=>?_|apply fkI<;>intro hb<;>try simp only[ew,hx,hh,hg,hq]at hb|simp only[go_sem,simprocAttr, *,hq])
       refine lpQ (k+1) ?_
       (repeat' first|refine gA fun _=>?_|apply fkI<;>intro hb<;>try simp only[ew,hx,eX,hh,hq]at hb|simp only[go_sem,simprocAttr, *,hq])
      ·rw[hq,if_pos rfl]at eX
       clear cR;(repeat' first|refine gA fun _=>?_|apply fkI<;>intro hb<;>try simp only[ew,Qi,hx,hh,hg,hq,eo]at hb|simp only[go_sem,simprocAttr, *,Qi,hq])
       refine lpQ (k+1) ?_
       (repeat' first|refine gA fun _=>?_|apply fkI<;>intro hb<;>try simp only[ew,hx,eX,hh,hq,eo]at hb|simp only[go_sem,simprocAttr, *,hq])
     ·have e6:k=C.length:=by omega
      subst e6;have eT:C.take C.length=C:=KR
      clear cR;(repeat' first|refine gA fun _=>?_|apply fkI<;>intro hb<;>try simp only[ew,eT]at hb|simp only[go_sem,simprocAttr, *])
      refine lpQ (i+1) ?_
      (repeat' first|refine gA fun _=>?_|apply fkI<;>intro hb<;>try simp only[ew,hZ,eS,eT]at hb|simp only[go_sem,simprocAttr, *])
   ·have e5:i=C.length:=by omega
    subst e5;have eP:C.take C.length=C:=KR
    rw[eP]at s2 s3;have sl:=@QfB C C
    have sR:∀x∈QjZ C C,R5 x:=QEp cR cR
    generalize hY:QjZ C C=Y at s2 s3 sl sR;have y100:(QsI K Y).length≤100:=by
     unfold QsI;rw[KN];split<;>simp<;>omega
    have hsel:Qcs QaU (Qa2 (QsI K Y))=Qcs QaU (QsI K Y):=QyD y100
    have zR:∀x∈Qa2 Y,R5 x:=fun x hx=>sR x (Qan.1 hx)
    have hany:=@QAb Y (Qbc K)
    have hput:=@Qef Y (K.getD 0 0)
    clear cR hSL sR y100;rw[←hsel];have hA:Qa2 (QsI K Y)=if(Qa2 Y).any (Qbc K)then Qa2 Y else Qgq (Qa2 Y) (K.getD 0 0):=by
     unfold QsI;rw[hany];split
     ·rw[KM]
     ·rw[hput]
    rw[hA];clear hA hsel hany hput;generalize hZ:Qa2 Y=Z at s2 s3 zR;(repeat' first|refine gA fun _=>?_|apply fkI<;>intro hb<;>try simp only[ew,eP,hY,hZ,hK]at hb|simp only[go_sem,simprocAttr, *])
    refine lpI {ι:=Nat,rs:=[(13,14),(65,94)],mods:=[(12,fun k=> .one (.d (.v (.int .i64 k)))),(11,fun k=> .one (.d (.v (.bool ((Z.take k).any (Qbc K))))))],boxes:=[],arrs:=[(5,fun _=>(1,iL Z,1)),(10,fun _=>(1,iL K,1))],ok:=fun k=>k≤Z.length,mu:=fun k=>Z.length-k} rfl 0 (KJ _) ?_ fun k hk=>?_
    ·clear k2 zR
     (repeat' first|refine gA fun _=>?_|apply fkI<;>intro hb<;>try simp only[ew,eP,hY,hZ,hK]at hb|simp only[go_sem,simprocAttr, *])
     all_goals first|rfl|skip
    ·dsimp only at k hk
     by_cases h6:k<Z.length
     ·have eA:=QhN h6 0 (Qbc K)
      have zr:=zR _ (QE h6 0)
      clear zR;generalize hf:(Z.take k).any (Qbc K)=b0 at eA;generalize hg:Z.getD k 0=z at eA zr;have e0:(b0||(K.take 0).any fun y=>Qab y z)=b0:=by simp
      have eE:(b0||(K.take K.length).any fun y=>Qab y z)=(b0||Qbc K z):=by rw[KR];rfl
      have hkr:=fun j h=>k2 _ (QE (l:=K) (i:=j) h 0)
      clear k2;(repeat' first|refine gA fun _=>?_|apply fkI<;>intro hb<;>try simp only[ew,hf,hg]at hb|simp only[go_sem,simprocAttr, *])
      refine lpI {ι:=Nat,rs:=[(71,94)],mods:=[(13,fun j=> .one (.d (.v (.int .i64 j)))),(11,fun j=> .one (.d (.v (.bool (b0||(K.take j).any fun y=>Qab y z)))))],boxes:=[],arrs:=[(5,fun _=>(1,iL Z,1)),(10,fun _=>(1,iL K,1))],ok:=fun j=>j≤K.length,mu:=fun j=>K.length-j} rfl 0 (KJ _) ?_ fun j hj=>?_
      ·clear hkr
       (repeat' first|refine gA fun _=>?_|apply fkI<;>intro hb<;>try simp only[ew,hf,hg,e0]at hb|simp only[go_sem,simprocAttr, *])
       all_goals first|rfl|skip
      ·dsimp only at j hj
       by_cases h7:j<K.length
       ·have eB:=QhN h7 0 fun y=>Qab y z
        have ei:=Qdx (hkr j h7) zr
        clear hkr;generalize hq:((K.take j).any fun y=>Qab y z)=b1 at eB
        generalize hw:K.getD j 0=w at eB ei;generalize hi3:Qab w z=b2 at eB ei;generalize hb3:(b0||b1)=b3;have eC:(b0||(K.take (j+1)).any fun y=>Qab y z)=(b3||b2):=by rw[eB,←hb3,Bool.or_assoc]
        clear eB;cases b3
        ·rw[K8]at eC
         (repeat' first|refine gA fun _=>?_|apply fkI<;>intro hb<;>try simp only[ew,hq,hw,hg,ei,hb3]at hb|simp only[go_sem,simprocAttr, *])
         refine lpQ (j+1) ?_
         (repeat' first|refine gA fun _=>?_|apply fkI<;>intro hb<;>try simp only[ew,hq,hw,hg,ei,hb3,eC]at hb|simp only[go_sem,simprocAttr, *])
        ·rw[YC]at eC
         (repeat' first|refine gA fun _=>?_|apply fkI<;>intro hb<;>try simp only[ew,hq,hw,hg,ei,hb3]at hb|simp only[go_sem,simprocAttr, *])
         refine lpQ (j+1) ?_
         (repeat' first|refine gA fun _=>?_|apply fkI<;>intro hb<;>try simp only[ew,hq,hw,hg,ei,hb3,eC]at hb|simp only[go_sem,simprocAttr, *])
       ·have e7:j=K.length:=by omega
        subst e7;clear hkr;(repeat' first|refine gA fun _=>?_|apply fkI<;>intro hb<;>try simp only[ew]at hb|simp only[go_sem,simprocAttr, *])
        refine lpQ (k+1) ?_
        (repeat' first|refine gA fun _=>?_|apply fkI<;>intro hb<;>try simp only[ew,eA,eE]at hb|simp only[go_sem,simprocAttr, *])
     ·have e6:k=Z.length:=by omega
      subst e6;have eT:Z.take Z.length=Z:=KR
      clear zR k2;cases hq:Z.any (Qbc K)
      ·rw[if_neg (by decide)]
       obtain⟨k0,hk0⟩:∃k0,K[0]'k3=k0:=⟨_,rfl⟩;have hpl:=@Qfz Z k0
       have hpm:(Qgq Z k0).length≤maxLen:=KF hpl (KF (Nat.succ_le_succ s2) (by decide))
       (repeat' first|refine gA fun _=>?_|apply fkI<;>intro hb<;>try simp only[ew,eT,hq,hk0]at hb|simp only[go_sem,simprocAttr, *,hk0])
      ·rw[if_pos rfl]
       (repeat' first|refine gA fun _=>?_|apply fkI<;>intro hb<;>try simp only[ew,eT,hq]at hb|simp only[go_sem,simprocAttr, *])
theorem Qma{n:Int}{ds:List (Int×Int)}:(Qrk n ds).length≤100:=by
 unfold Qrk;split
 ·exact QdQ
 ·simp
end Go.Own
