/- Own contracts. Conditions: as each theorem states them. -/
import Derived.Test.YtnmkpepdacbfaaaGreatDoorRr36
set_option linter.unusedSimpArgs false
set_option linter.unusedVariables false
set_option maxRecDepth 20000
set_option maxHeartbeats 2000000
namespace Go.Own
open Go Go.Proofs
attribute [local go_sem] Qap Qw3 Qlx QbQ Qly Tryz.results176 QvL Tryz.results132
attribute [local go_sem] Qm Qc QZ Q1 Q0 Q3 QaH Qdb Qr QaG
theorem Quq:∀k:Fin 5,∀r:Fin 5,r.val≤k.val→Qy (((2^(k.val+1):Nat):Int)-1) ((r.val:Nat):Int)=true:=by decide+kernel
theorem Qg5:∀{l:List Int},l≠[]→∃m∈l,∀y∈l,m≤y
 | [],h=>absurd rfl h
 | [x],_=>⟨x,by simp,by simp⟩
 | x::y::l,_=>by
  obtain⟨m,h1,h2⟩:=@Qg5 (y::l) (by simp)
  by_cases h:x≤m
  ·exact⟨x,by simp,fun z hz=>by
    rcases List.mem_cons.1 hz with rfl|hz
    ·exact Int.le_refl _
    ·exact Int.le_trans h (h2 z hz)⟩
  ·exact⟨m,by simp[h1],fun z hz=>by
    rcases List.mem_cons.1 hz with rfl|hz
    ·omega
    ·exact h2 z hz⟩
theorem QxV{n:Int}{ds:List (Int×Int)}(hv:Q5 n ds=true):(2^n.toNat-1:Nat)<2^n.toNat∧(((2^n.toNat:Nat):Int)-1)∈QuL (2^n.toNat) ds:=by
 obtain⟨n1,n5,_⟩:=Qiq hv;have hd:=Qbg hv
 obtain⟨c,rfl⟩:=Int.eq_ofNat_of_zero_le (show 0≤n by omega)
 rw[Int.toNat_natCast];have hM2:2^c≤32:=Nat.le_trans (Nat.pow_le_pow_right (by omega) (show c≤5 by omega)) (by decide)
 have hM3:1≤2^c:=Nat.one_le_two_pow
 have hx:R5 (((2^c:Nat):Int)-1):=⟨by omega,by omega⟩
 refine⟨by omega,?_⟩
 unfold QuL;rw[List.mem_filter];constructor
 ·have:((2^c:Nat):Int)-1=((2^c-1:Nat):Int):=by omega
  rw[this];unfold rng;exact List.mem_map.2 ⟨2^c-1,List.mem_range.2 (by omega),rfl⟩
 ·unfold kqB
  rw[beq_iff_eq];refine(QvQ hd hx hx (leB.refl _) (QvR hd hx) ?_).symm
  intro d hdm _;have hv2:=hv
  simp only[Q5,Bool.and_eq_true,List.all_eq_true]at hv2
  have h:=hv2.1 d hdm
  simp only[Q2,Bool.and_eq_true,Qh]at h
  have:=Quq ⟨c-1,by omega⟩ ⟨d.2.toNat,by omega⟩ (by dsimp only;omega)
  dsimp only at this;rw[show c-1+1=c by omega,show((d.2.toNat:Nat):Int)=d.2 by omega]at this
  exact this
theorem QuM{M:Nat}{ds:List (Int×Int)}{x:Int}(h:x∈QuL M ds):0≤x∧x<M:=by
 unfold QuL at h;rw[List.mem_filter]at h;unfold rng at h;obtain⟨i,hi,rfl⟩:=List.mem_map.1 h.1;rw[List.mem_range]at hi;exact⟨by omega,by omega⟩
theorem Qeq{n:Int}{ds:List (Int×Int)}:(QeS n ds).length≤100∧(∀x∈QeS n ds,R5 x)∧(Q5 n ds=true→0<(QeS n ds).length):=by
 unfold QeS;split
 ·rename_i hv
  refine⟨Qc0,fun x hx=>?_,fun _=>?_⟩
  ·have:=(Qvh hx).2
   exact(Qt this).2.2
  ·obtain⟨_,hm⟩:=QxV hv
   obtain⟨n1,n5,_⟩:=Qiq hv;have hM2:2^n.toNat≤32:=Nat.le_trans (Nat.pow_le_pow_right (by omega) (show n.toNat≤5 by omega)) (by decide)
   have hlen:(QuL (2^n.toNat) ds).length≤2^n.toNat:=QbA
   have hmem:=fun x h=>@QuM (2^n.toNat) ds x h
   generalize QuL (2^n.toNat) ds=L at hm hlen hmem;have hs:QaE L=true:=by
    simp only[QaE,Bool.and_eq_true,List.all_eq_true,decide_eq_true_eq,Qj,Qh,Qd5]
    refine⟨fun x hx=>⟨by decide,?_,?_⟩,by omega⟩
    ·exact(hmem x hx).1
    ·have:=(hmem x hx).2
     show x≤31
     omega
   obtain⟨m,m1,m2⟩:=Qg5 (l:=L) (by intro e;rw[e]at hm;cases hm)
   have hin:m∈QdG Qaw L:=by
    unfold QdG;rw[hs,if_pos rfl,Qbh,List.mem_filter];refine⟨m1,List.all_eq_true.2 fun y hy=>?_⟩
    unfold Qaw;cases hq:Qal y m
    ·simp
    ·have r1:=hmem y hy
     have r2:=hmem m m1
     have:=Qrr (x:=y) (s:=m) ⟨by omega,by omega⟩ ⟨by omega,by omega⟩ hq
     have:=m2 y hy
     have e:m=y:=by omega
     simp[e]
   exact List.length_pos_of_mem hin
 ·rename_i hv
  exact⟨by simp,by simp,fun h=>absurd h hv⟩
def Qzq(a:Int)(x:Int)(e:Int×Int):Int:=if e.1==a then QbI x e.2 else x
def Qs9(C:List (Int×Int))(a:Int):Int:=C.foldl (Qzq a) a
def QpE(C l:List (Int×Int)):List Int:=l.map fun d=>Qs9 C d.1
def Qzp(K S:List Int):List Int:=S++(if S.any (Qcz K)then []else [K.getD 0 0])
def Qvz(n:Int)(ds:List (Int×Int)):List Int:=if Q5 n ds then QdG Qc9 (Qzp (QeS n ds) (QpE (QjZ n ds) (QjZ n ds)))else []
theorem QAZ{a x:Int}{e:Int×Int}(hx:R5 x)(he:0≤e.2∧e.2≤4):R5 (Qzq a x e):=by
 unfold Qzq;split
 ·exact Qdf hx he
 ·exact hx
theorem QA0{a:Int}(ha:R5 a):∀{C:List (Int×Int)},(∀d∈C,Qbo d)→R5 (Qs9 C a):=by
 intro C h;unfold Qs9;suffices H:∀(C:List (Int×Int)) (x:Int),R5 x→(∀d∈C,Qbo d)→R5 (C.foldl (Qzq a) x)from H C a ha h
 intro C;induction C with
 | nil=>intro x hx _;exact hx
 | cons d C ih=>intro x hx h;exact ih _ (QAZ hx (h d (by simp)).2) fun e he=>h e (by simp[he])
theorem QsK{C:List (Int×Int)}{a:Int}{k:Nat}(h:k<C.length):Qs9 (C.take (k+1)) a=Qzq a (Qs9 (C.take k) a) (C.getD k (0,0)):=by
 unfold Qs9;rw[Qk h (0,0),List.foldl_append];rfl
theorem QsJ{C l:List (Int×Int)}{i:Nat}(h:i<l.length):QpE C (l.take (i+1))=QpE C (l.take i)++[Qs9 C (l.getD i (0,0)).1]:=by
 unfold QpE;rw[Qk h (0,0),List.map_append];rfl
theorem Qmw{C l:List (Int×Int)}:(QpE C l).length=l.length:=by simp[QpE]
def QzO:Qb:=⟨[],false,fun
 | [.one (.v (.int .i64 n)),.one (.sl 2 l)]=>some (WfD l∧ -9223372036854775808≤n∧n≤9223372036854775807,[⟨false,[.own 1 (iL (Qvz n (unD l))) 1]⟩],[])
 | _=>none⟩
attribute [local go_sem] QzO
theorem QyR:Qa E0 176 QzO:=by
 refine QV (E:=E0) (T:=mkT Tryz.prog [(163,Qap),(115,Qw3),(175,Qlx),(198,QbQ),(208,Qly)] false (fun _=>false) true (fun _=>false)) (Qf (E:=E0) (.cons Qa2 (.cons QqF (.cons Qnx (.cons Qfy (.cons QnC .nil)))))) (fn:=Tryz.f176) Tryz.func176 (by kernel_rfl) rfl Qe (by kernel_rfl) rfl ?_
 intro args p rs ms hr;unfold QzO at hr;dsimp only at hr;split at hr;rotate_left
 ·cases hr
 rename_i n l;cases hr;refine⟨rfl,rfl,nLe rfl,?_⟩
 have hm:=mxE;rintro⟨h1,hn1,hn2⟩ bs;obtain⟨ds,rfl,hx⟩:=h1.ex;clear h1;rw[Qm];cases hv:Q5 n ds
 ·have e:Qvz n ds=[]:=by unfold Qvz;rw[hv];rfl
  rw[e];clear e;(repeat' first|refine gA fun _=>?_|apply fkI<;>intro hb<;>try simp only[ew,hv]at hb|simp only[go_sem,simprocAttr, *,hv])
  all_goals first|rfl|skip
 ·have e:Qvz n ds=QdG Qc9 (Qzp (QeS n ds) (QpE (QjZ n ds) (QjZ n ds))):=by unfold Qvz;rw[hv];rfl
  rw[e];clear e;obtain⟨k1,k2,k3⟩:=@Qeq n ds;have k3:=k3 hv
  obtain⟨c1,c2⟩:=@Qfo n ds;have cR:∀d∈QjZ n ds,Qbo d:=fun d hd=>QaL (c1 d hd)
  clear c1;have c3:(QjZ n ds).length≤maxLen:=Nat.le_trans c2 (by decide)
  (repeat' first|refine gA fun _=>?_|apply fkI<;>intro hb<;>try simp only[ew,hv]at hb|simp only[go_sem,simprocAttr, *,hv])
  generalize hC:QjZ n ds=C at c2 c3 cR;generalize hK:QeS n ds=K at k1 k2 k3;have kmx:K.length≤maxLen:=Nat.le_trans k1 (by decide)
  have hSL:=fun i=>@Qmw C (C.take i)
  refine lpI {ι:=Nat,rs:=[(8,10),(11,12),(27,54)],mods:=[(26,fun i=> .one (.d (.v (.int .i64 i)))),(6,fun i=> .one (.own 1 (iL (QpE C (C.take i))) 1))],boxes:=[],arrs:=[(5,fun _=>(2,dL C,1))],alis:=[(24,5)],ok:=fun i=>i≤C.length,mu:=fun i=>C.length-i} rfl 0 (Nat.zero_le _) ?_ fun i hi=>?_
  ·clear cR k2
   (repeat' first|refine gA fun _=>?_|apply fkI<;>intro hb<;>try simp only[ew,hC]at hb|simp only[go_sem,simprocAttr, *])
   all_goals first|rfl|skip
  ·dsimp only at i hi
   have s1:=hSL i
   rw[List.length_take]at s1;have s2:(QpE C (C.take i)).length≤20:=by omega
   clear s1;have s3:(QpE C (C.take i)).length≤maxLen:=Nat.le_trans s2 (by decide)
   by_cases h5:i<C.length
   ·have eS:=QsJ (C:=C) h5
    obtain⟨⟨a1,a2⟩,b1,b2⟩:=cR _ (QI h5 (0,0));generalize hZ:QpE C (C.take i)=Z at s2 s3 eS;generalize hg:C.getD i (0,0)=g at eS a1 a2 b1 b2;obtain⟨a,b⟩:=g;dsimp only at eS a1 a2 b1 b2;clear k2;have e0:Qs9 (C.take 0) a=a:=rfl
    (repeat' first|refine gA fun _=>?_|apply fkI<;>intro hb<;>try simp only[ew,hZ,hg]at hb|simp only[go_sem,simprocAttr, *])
    refine lpI {ι:=Nat,rs:=[(11,12),(35,49)],mods:=[(34,fun k=> .one (.d (.v (.int .i64 k)))),(9,fun k=> .one (.d (.v (.int .i64 (Qs9 (C.take k) a)))))],boxes:=[(8,fun _=>[.d (.v (.int .i64 a)),.d (.v (.int .i64 b))])],arrs:=[(5,fun _=>(2,dL C,1)),(6,fun _=>(1,iL Z,1))],alis:=[(24,5),(32,5)],ok:=fun k=>k≤C.length,mu:=fun k=>C.length-k} rfl 0 (Nat.zero_le _) ?_ fun k hk=>?_
    ·clear cR
     (repeat' first|refine gA fun _=>?_|apply fkI<;>intro hb<;>try simp only[ew,hZ,hg,e0]at hb|simp only[go_sem,simprocAttr, *])
     all_goals first|rfl|skip
    ·dsimp only at k hk
     have hX:=@QA0 a ⟨a1,a2⟩ (C.take k) fun d hd=>cR d (List.mem_of_mem_take hd)
     by_cases h6:k<C.length
     ·have eX:=QsK (a:=a) h6
      obtain⟨_,d1,d2⟩:=cR _ (QI h6 (0,0));generalize hx:Qs9 (C.take k) a=x at hX eX;generalize hh:C.getD k (0,0)=h at eX d1 d2;obtain⟨u,v⟩:=h;dsimp only at eX d1 d2;obtain⟨x0,x31⟩:=hX;have hp:=QBk ⟨d1,d2⟩
      have eo:Qax .or .i64 x (1*2^v.toNat)=QbI x v:=rfl
      unfold Qzq at eX;dsimp only at eX;cases hq:(u==a)
      ·rw[hq,if_neg (by decide)]at eX
       clear cR;(repeat' first|refine gA fun _=>?_|apply fkI<;>intro hb<;>try simp only[ew,hx,hh,hq]at hb|simp only[go_sem,simprocAttr, *,hq])
       refine lpN (k+1) (by dsimp only;omega) (by dsimp only;omega) ?_
       (repeat' first|refine gA fun _=>?_|apply fkI<;>intro hb<;>try simp only[ew,hx,eX,hh,hq]at hb|simp only[go_sem,simprocAttr, *,hq])
      ·rw[hq,if_pos rfl]at eX
       clear cR;(repeat' first|refine gA fun _=>?_|apply fkI<;>intro hb<;>try simp only[ew,Qq,hx,hh,hq,eo]at hb|simp only[go_sem,simprocAttr, *,Qq,hq])
       refine lpN (k+1) (by dsimp only;omega) (by dsimp only;omega) ?_
       (repeat' first|refine gA fun _=>?_|apply fkI<;>intro hb<;>try simp only[ew,hx,eX,hh,hq,eo]at hb|simp only[go_sem,simprocAttr, *,hq])
     ·have e6:k=C.length:=by omega
      subst e6;have eT:C.take C.length=C:=List.take_length
      clear cR;(repeat' first|refine gA fun _=>?_|apply fkI<;>intro hb<;>try simp only[ew,eT,Ql]at hb|simp only[go_sem,simprocAttr, *,Ql])
      refine lpN (i+1) (by dsimp only;omega) (by dsimp only;omega) ?_
      (repeat' first|refine gA fun _=>?_|apply fkI<;>intro hb<;>try simp only[ew,hZ,eS,eT,Ql]at hb|simp only[go_sem,simprocAttr, *,Ql])
   ·have e5:i=C.length:=by omega
    subst e5;have eP:C.take C.length=C:=List.take_length
    rw[eP]at s2 s3;generalize hZ:QpE C C=Z at s2 s3;clear cR k2 hSL;(repeat' first|refine gA fun _=>?_|apply fkI<;>intro hb<;>try simp only[ew,eP,hZ,hK]at hb|simp only[go_sem,simprocAttr, *])
    refine lpI {ι:=Nat,rs:=[(15,16),(60,70)],mods:=[(59,fun k=> .one (.d (.v (.int .i64 k)))),(13,fun k=> .one (.d (.v (.bool ((Z.take k).any (Qcz K))))))],boxes:=[],arrs:=[(6,fun _=>(1,iL Z,1)),(12,fun _=>(1,iL K,1))],alis:=[(57,6)],ok:=fun k=>k≤Z.length,mu:=fun k=>Z.length-k} rfl 0 (Nat.zero_le _) ?_ fun k hk=>?_
    ·(repeat' first|refine gA fun _=>?_|apply fkI<;>intro hb<;>try simp only[ew,eP,hZ,hK]at hb|simp only[go_sem,simprocAttr, *])
     all_goals first|rfl|skip
    ·dsimp only at k hk
     by_cases h6:k<Z.length
     ·have eA:=Qtu h6 0 (Qcz K)
      generalize hf:(Z.take k).any (Qcz K)=b0 at eA;generalize hg:Qcz K (Z.getD k 0)=b1 at eA;cases b0
      ·rw[Bool.false_or]at eA
       (repeat' first|refine gA fun _=>?_|apply fkI<;>intro hb<;>try simp only[ew,hf,hg]at hb|simp only[go_sem,simprocAttr, *])
       refine lpN (k+1) (by dsimp only;omega) (by dsimp only;omega) ?_
       (repeat' first|refine gA fun _=>?_|apply fkI<;>intro hb<;>try simp only[ew,hf,hg,eA]at hb|simp only[go_sem,simprocAttr, *])
      ·rw[Bool.true_or]at eA
       (repeat' first|refine gA fun _=>?_|apply fkI<;>intro hb<;>try simp only[ew,hf,hg]at hb|simp only[go_sem,simprocAttr, *])
       refine lpN (k+1) (by dsimp only;omega) (by dsimp only;omega) ?_
       (repeat' first|refine gA fun _=>?_|apply fkI<;>intro hb<;>try simp only[ew,hf,hg,eA]at hb|simp only[go_sem,simprocAttr, *])
     ·have e6:k=Z.length:=by omega
      subst e6;have eT:Z.take Z.length=Z:=List.take_length
      cases hq:Z.any (Qcz K)
      ·have eA:Qzp K Z=Z++[K.getD 0 0]:=by unfold Qzp;rw[hq];rfl
       rw[eA];clear eA;(repeat' first|refine gA fun _=>?_|apply fkI<;>intro hb<;>try simp only[ew,eT,hq,Ql]at hb|simp only[go_sem,simprocAttr, *,hq,Ql])
      ·have eA:Qzp K Z=Z:=by unfold Qzp;rw[hq,if_pos rfl,List.append_nil]
       rw[eA];clear eA;(repeat' first|refine gA fun _=>?_|apply fkI<;>intro hb<;>try simp only[ew,eT,hq]at hb|simp only[go_sem,simprocAttr, *,hq])
theorem Qoa{n:Int}{ds:List (Int×Int)}:(Qvz n ds).length≤100:=by
 unfold Qvz;split
 ·exact Qc0
 ·simp
end Go.Own
