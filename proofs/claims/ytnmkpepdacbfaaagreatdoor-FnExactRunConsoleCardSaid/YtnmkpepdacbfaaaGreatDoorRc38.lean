/- Own contracts. Conditions: as each theorem states them. -/
import Derived.Test.YtnmkpepdacbfaaaGreatDoorRc37
set_option linter.unusedSimpArgs false
set_option linter.unusedVariables false
set_option maxRecDepth 20000
set_option maxHeartbeats 2000000
namespace Go.Own
open Go Go.Proofs
attribute [local go_sem] QO QrA QhW QbZ QhX Tryz.results176 QrC Tryz.results132
attribute [local go_sem] Qh Qe Qaa Qac Qab Qaf QaX QdJ Qu QaV
theorem Qwe:∀k:Fin 5,∀r:Fin 5,r.val≤k.val→Qt (((2^(k.val+1):Nat):Int)-1) ((r.val:Nat):Int)=true:=by decide+kernel
theorem Qif:∀{l:List Int},l≠[]→∃m∈l,∀y∈l,m≤y
 | [],h=>absurd rfl h
 | [x],_=>⟨x,by simp,by simp⟩
 | x::y::l,_=>by
  obtain⟨m,h1,h2⟩:=@Qif (y::l) (by simp)
  by_cases h:x≤m
  ·exact⟨x,by simp,fun z hz=>by
    rcases List.mem_cons.1 hz with rfl|hz
    ·exact Int.le_refl _
    ·exact Int.le_trans h (h2 z hz)⟩
  ·exact⟨m,by simp[h1],fun z hz=>by
    rcases List.mem_cons.1 hz with rfl|hz
    ·omega
    ·exact h2 z hz⟩
theorem QzI{n:Int}{ds:List (Int×Int)}(hv:QF n ds=true):(2^n.toNat-1:Nat)<2^n.toNat∧(((2^n.toNat:Nat):Int)-1)∈Qtp (2^n.toNat) ds:=by
 obtain⟨n1,n5,_⟩:=Qfz hv;have hd:=Qax hv
 obtain⟨c,rfl⟩:=Int.eq_ofNat_of_zero_le (show 0≤n by omega)
 rw[Int.toNat_natCast];have hM2:2^c≤32:=Nat.le_trans (Nat.pow_le_pow_right (by omega) (show c≤5 by omega)) (by decide)
 have hM3:1≤2^c:=Nat.one_le_two_pow
 have hx:R5 (((2^c:Nat):Int)-1):=⟨by omega,by omega⟩
 refine⟨by omega,?_⟩
 unfold Qtp;rw[List.mem_filter];constructor
 ·have:((2^c:Nat):Int)-1=((2^c-1:Nat):Int):=by omega
  rw[this];unfold rng;exact List.mem_map.2 ⟨2^c-1,List.mem_range.2 (by omega),rfl⟩
 ·unfold kqB
  rw[beq_iff_eq];refine(QxC hd hx hx (leB.refl _) (QxD hd hx) ?_).symm
  intro d hdm _;have hv2:=hv
  simp only[QF,Bool.and_eq_true,List.all_eq_true]at hv2
  have h:=hv2.1 d hdm
  simp only[QJ,Bool.and_eq_true,Qi]at h
  have:=Qwe ⟨c-1,by omega⟩ ⟨d.2.toNat,by omega⟩ (by dsimp only;omega)
  dsimp only at this;rw[show c-1+1=c by omega,show((d.2.toNat:Nat):Int)=d.2 by omega]at this
  exact this
theorem QwF{M:Nat}{ds:List (Int×Int)}{x:Int}(h:x∈Qtp M ds):0≤x∧x<M:=by
 unfold Qtp at h;rw[List.mem_filter]at h;unfold rng at h;obtain⟨i,hi,rfl⟩:=List.mem_map.1 h.1;rw[List.mem_range]at hi;exact⟨by omega,by omega⟩
theorem Qco{n:Int}{ds:List (Int×Int)}:(QcL n ds).length≤100∧(∀x∈QcL n ds,R5 x)∧(QF n ds=true→0<(QcL n ds).length):=by
 unfold QcL;split
 ·rename_i hv
  refine⟨Qdy,fun x hx=>?_,fun _=>?_⟩
  ·have:=(Qw2 hx).2
   exact(Qp this).2.2
  ·obtain⟨_,hm⟩:=QzI hv
   obtain⟨n1,n5,_⟩:=Qfz hv;have hM2:2^n.toNat≤32:=Nat.le_trans (Nat.pow_le_pow_right (by omega) (show n.toNat≤5 by omega)) (by decide)
   have hlen:(Qtp (2^n.toNat) ds).length≤2^n.toNat:=Qbg
   have hmem:=fun x h=>@QwF (2^n.toNat) ds x h
   generalize Qtp (2^n.toNat) ds=L at hm hlen hmem;have hs:QaB L=true:=by
    simp only[QaB,Bool.and_eq_true,List.all_eq_true,decide_eq_true_eq,Ql,Qi,QcQ]
    refine⟨fun x hx=>⟨by decide,?_,?_⟩,by omega⟩
    ·exact(hmem x hx).1
    ·have:=(hmem x hx).2
     show x≤31
     omega
   obtain⟨m,m1,m2⟩:=Qif (l:=L) (by intro e;rw[e]at hm;cases hm)
   have hin:m∈Qcb QaF L:=by
    unfold Qcb;rw[hs,if_pos rfl,Qai,List.mem_filter];refine⟨m1,List.all_eq_true.2 fun y hy=>?_⟩
    unfold QaF;cases hq:Q7 y m
    ·simp
    ·have r1:=hmem y hy
     have r2:=hmem m m1
     have:=Qtj (x:=y) (s:=m) ⟨by omega,by omega⟩ ⟨by omega,by omega⟩ hq
     have:=m2 y hy
     have e:m=y:=by omega
     simp[e]
   exact List.length_pos_of_mem hin
 ·rename_i hv
  exact⟨by simp,by simp,fun h=>absurd h hv⟩
def QAA(a:Int)(x:Int)(e:Int×Int):Int:=if e.1==a then Qbd x e.2 else x
def Qru(C:List (Int×Int))(a:Int):Int:=C.foldl (QAA a) a
def Qjj(C l:List (Int×Int)):List Int:=l.map fun d=>Qru C d.1
def Qrt(K S:List Int):List Int:=S++(if S.any (Qa2 K)then []else [K.getD 0 0])
def Qqe(n:Int)(ds:List (Int×Int)):List Int:=if QF n ds then Qcb QaL (Qrt (QcL n ds) (Qjj (Qgf n ds) (Qgf n ds)))else []
theorem QCk{a x:Int}{e:Int×Int}(hx:R5 x)(he:0≤e.2∧e.2≤4):R5 (QAA a x e):=by
 unfold QAA;split
 ·exact QdL hx he
 ·exact hx
theorem Quy{a:Int}(ha:R5 a):∀{C:List (Int×Int)},(∀d∈C,Qbn d)→R5 (Qru C a):=by
 intro C h;unfold Qru;suffices H:∀(C:List (Int×Int)) (x:Int),R5 x→(∀d∈C,Qbn d)→R5 (C.foldl (QAA a) x)from H C a ha h
 intro C;induction C with
 | nil=>intro x hx _;exact hx
 | cons d C ih=>intro x hx h;exact ih _ (QCk hx (h d (by simp)).2) fun e he=>h e (by simp[he])
theorem Qm0{C:List (Int×Int)}{a:Int}{k:Nat}(h:k<C.length):Qru (C.take (k+1)) a=QAA a (Qru (C.take k) a) (C.getD k (0,0)):=by
 unfold Qru;rw[Qf h (0,0),List.foldl_append];rfl
theorem QmZ{C l:List (Int×Int)}{i:Nat}(h:i<l.length):Qjj C (l.take (i+1))=Qjj C (l.take i)++[Qru C (l.getD i (0,0)).1]:=by
 unfold Qjj;rw[Qf h (0,0),List.map_append];rfl
theorem Qfg{C l:List (Int×Int)}:(Qjj C l).length=l.length:=by simp[Qjj]
theorem QCj{C l:List (Int×Int)}(hC:∀d∈C,Qbn d)(hl:∀d∈l,Qbn d):∀x∈Qjj C l,R5 x:=by
 intro x hx;obtain⟨d,hd,rfl⟩:=List.mem_map.1 hx;exact Quy (hl d hd).1 hC
theorem Qrk{l:List Int}(h:l.length≤100):QaB (QaS l)=QaB l:=by
 unfold QaB;have h2:=@QaE l
 rw[decide_eq_true (show((QaS l).length:Int)≤100 by omega),decide_eq_true (show(l.length:Int)≤100 by omega),Bool.and_true,Bool.and_true,Bool.eq_iff_iff,List.all_eq_true,List.all_eq_true]
 exact⟨fun h x hx=>h x (Qai.2 hx),fun h x hx=>h x (Qai.1 hx)⟩
theorem Qw1{t:Int→Int→Bool}{l:List Int}(h:l.length≤100):Qcb t (QaS l)=Qcb t l:=by
 unfold Qcb;rw[Qrk h];have e:∀x,(QaS l).all (t x)=l.all (t x):=fun x=>by
  rw[Bool.eq_iff_iff,List.all_eq_true,List.all_eq_true];exact⟨fun h y hy=>h y (Qai.2 hy),fun h y hy=>h y (Qai.1 hy)⟩
 simp only[e]
 split
 ·rw[Qgl]
  refine QbL Qat Qat fun z=>?_
  simp only[Qai]
 ·rfl
theorem QyA{l:List Int}{p:Int→Bool}:(QaS l).any p=l.any p:=by
 rw[Bool.eq_iff_iff,List.any_eq_true,List.any_eq_true];constructor
 ·rintro⟨x,h1,h2⟩;exact⟨x,Qai.1 h1,h2⟩
 ·rintro⟨x,h1,h2⟩;exact⟨x,Qai.2 h1,h2⟩
def Qxy:Qb:=⟨[],false,fun
 | [.one (.v (.int .i64 n)),.one (.sl 2 l)]=>some (WfD l∧ -9223372036854775808≤n∧n≤9223372036854775807,[⟨false,[.own 1 (iL (Qqe n (unD l))) 1]⟩],[])
 | _=>none⟩
attribute [local go_sem] Qxy
theorem QAz:Qa E0 176 Qxy:=by
 refine QE (E:=E0) (T:=mkT Tryz.prog [(163,QO),(115,QrA),(175,QhW),(198,QbZ),(208,QhX)] false (fun _=>false) true (fun _=>false)) (Qd (E:=E0) (.cons Qbq (.cons QsE (.cons Qpw (.cons Qgq (.cons QpD .nil)))))) (fn:=Tryz.f176) Tryz.func176 (by kernel_rfl) rfl Qc (by kernel_rfl) rfl ?_
 intro args p rs ms hr;unfold Qxy at hr;dsimp only at hr;split at hr;rotate_left
 ·cases hr
 rename_i n l;cases hr;refine⟨rfl,rfl,nLe rfl,?_⟩
 have hm:=mxE;rintro⟨h1,hn1,hn2⟩ bs;obtain⟨ds,rfl,hx⟩:=h1.ex;clear h1;rw[Qh];cases hv:QF n ds
 ·have e:Qqe n ds=[]:=by unfold Qqe;rw[hv];rfl
  rw[e];clear e;(repeat' first|refine gA fun _=>?_|apply fkI<;>intro hb<;>try simp only[ew,hv]at hb|simp only[go_sem,simprocAttr, *,hv])
  all_goals first|rfl|skip
 ·have e:Qqe n ds=Qcb QaL (Qrt (QcL n ds) (Qjj (Qgf n ds) (Qgf n ds))):=by unfold Qqe;rw[hv];rfl
  rw[e];clear e;obtain⟨k1,k2,k3⟩:=@Qco n ds;have k3:=k3 hv
  obtain⟨c1,c2⟩:=@QcZ n ds;have cR:∀d∈Qgf n ds,Qbn d:=fun d hd=>Qas (c1 d hd)
  clear c1;have c3:(Qgf n ds).length≤maxLen:=Nat.le_trans c2 (by decide)
  (repeat' first|refine gA fun _=>?_|apply fkI<;>intro hb<;>try simp only[ew,hv]at hb|simp only[go_sem,simprocAttr, *,hv])
  generalize hC:Qgf n ds=C at c2 c3 cR;generalize hK:QcL n ds=K at k1 k2 k3;have kmx:K.length≤maxLen:=Nat.le_trans k1 (by decide)
  have hSL:=fun i=>@Qfg C (C.take i)
  refine lpI {ι:=Nat,rs:=[(8,10),(11,12),(27,54)],mods:=[(26,fun i=> .one (.d (.v (.int .i64 i)))),(6,fun i=> .one (.own 1 (iL (Qjj C (C.take i))) 1))],boxes:=[],arrs:=[(5,fun _=>(2,dL C,1))],alis:=[(24,5)],ok:=fun i=>i≤C.length,mu:=fun i=>C.length-i} rfl 0 (Nat.zero_le _) ?_ fun i hi=>?_
  ·clear cR k2
   (repeat' first|refine gA fun _=>?_|apply fkI<;>intro hb<;>try simp only[ew,hC]at hb|simp only[go_sem,simprocAttr, *])
   all_goals first|rfl|skip
  ·dsimp only at i hi
   have s1:=hSL i
   rw[List.length_take]at s1;have s2:(Qjj C (C.take i)).length≤20:=by omega
   clear s1;have s3:(Qjj C (C.take i)).length≤maxLen:=Nat.le_trans s2 (by decide)
   by_cases h5:i<C.length
   ·have eS:=QmZ (C:=C) h5
    obtain⟨⟨a1,a2⟩,b1,b2⟩:=cR _ (QP h5 (0,0));generalize hZ:Qjj C (C.take i)=Z at s2 s3 eS;generalize hg:C.getD i (0,0)=g at eS a1 a2 b1 b2;obtain⟨a,b⟩:=g;dsimp only at eS a1 a2 b1 b2;clear k2;have e0:Qru (C.take 0) a=a:=rfl
    (repeat' first|refine gA fun _=>?_|apply fkI<;>intro hb<;>try simp only[ew,hZ,hg]at hb|simp only[go_sem,simprocAttr, *])
    refine lpI {ι:=Nat,rs:=[(11,12),(35,49)],mods:=[(34,fun k=> .one (.d (.v (.int .i64 k)))),(9,fun k=> .one (.d (.v (.int .i64 (Qru (C.take k) a)))))],boxes:=[(8,fun _=>[.d (.v (.int .i64 a)),.d (.v (.int .i64 b))])],arrs:=[(5,fun _=>(2,dL C,1)),(6,fun _=>(1,iL Z,1))],alis:=[(24,5),(32,5)],ok:=fun k=>k≤C.length,mu:=fun k=>C.length-k} rfl 0 (Nat.zero_le _) ?_ fun k hk=>?_
    ·clear cR
     (repeat' first|refine gA fun _=>?_|apply fkI<;>intro hb<;>try simp only[ew,hZ,hg,e0]at hb|simp only[go_sem,simprocAttr, *])
     all_goals first|rfl|skip
    ·dsimp only at k hk
     have hX:=@Quy a ⟨a1,a2⟩ (C.take k) fun d hd=>cR d (List.mem_of_mem_take hd)
     by_cases h6:k<C.length
     ·have eX:=Qm0 (a:=a) h6
      obtain⟨_,d1,d2⟩:=cR _ (QP h6 (0,0));generalize hx:Qru (C.take k) a=x at hX eX;generalize hh:C.getD k (0,0)=h at eX d1 d2;obtain⟨u,v⟩:=h;dsimp only at eX d1 d2;obtain⟨x0,x31⟩:=hX;have hp:=QAp ⟨d1,d2⟩
      have eo:Q6 .or .i64 x (1*2^v.toNat)=Qbd x v:=rfl
      unfold QAA at eX;dsimp only at eX;cases hq:(u==a)
      ·rw[hq,if_neg (by decide)]at eX
       clear cR;(repeat' first|refine gA fun _=>?_|apply fkI<;>intro hb<;>try simp only[ew,hx,hh,hq]at hb|simp only[go_sem,simprocAttr, *,hq])
       refine lpN (k+1) (by dsimp only;omega) (by dsimp only;omega) ?_
       (repeat' first|refine gA fun _=>?_|apply fkI<;>intro hb<;>try simp only[ew,hx,eX,hh,hq]at hb|simp only[go_sem,simprocAttr, *,hq])
      ·rw[hq,if_pos rfl]at eX
       clear cR;(repeat' first|refine gA fun _=>?_|apply fkI<;>intro hb<;>try simp only[ew,Qj,hx,hh,hq,eo]at hb|simp only[go_sem,simprocAttr, *,Qj,hq])
       refine lpN (k+1) (by dsimp only;omega) (by dsimp only;omega) ?_
       (repeat' first|refine gA fun _=>?_|apply fkI<;>intro hb<;>try simp only[ew,hx,eX,hh,hq,eo]at hb|simp only[go_sem,simprocAttr, *,hq])
     ·have e6:k=C.length:=by omega
      subst e6;have eT:C.take C.length=C:=List.take_length
      clear cR;(repeat' first|refine gA fun _=>?_|apply fkI<;>intro hb<;>try simp only[ew,eT,Qo]at hb|simp only[go_sem,simprocAttr, *,Qo])
      refine lpN (i+1) (by dsimp only;omega) (by dsimp only;omega) ?_
      (repeat' first|refine gA fun _=>?_|apply fkI<;>intro hb<;>try simp only[ew,hZ,eS,eT,Qo]at hb|simp only[go_sem,simprocAttr, *,Qo])
   ·have e5:i=C.length:=by omega
    subst e5;have eP:C.take C.length=C:=List.take_length
    rw[eP]at s2 s3;generalize hZ:Qjj C C=Z at s2 s3;clear cR k2 hSL;(repeat' first|refine gA fun _=>?_|apply fkI<;>intro hb<;>try simp only[ew,eP,hZ,hK]at hb|simp only[go_sem,simprocAttr, *])
    refine lpI {ι:=Nat,rs:=[(15,16),(60,70)],mods:=[(59,fun k=> .one (.d (.v (.int .i64 k)))),(13,fun k=> .one (.d (.v (.bool ((Z.take k).any (Qa2 K))))))],boxes:=[],arrs:=[(6,fun _=>(1,iL Z,1)),(12,fun _=>(1,iL K,1))],alis:=[(57,6)],ok:=fun k=>k≤Z.length,mu:=fun k=>Z.length-k} rfl 0 (Nat.zero_le _) ?_ fun k hk=>?_
    ·(repeat' first|refine gA fun _=>?_|apply fkI<;>intro hb<;>try simp only[ew,eP,hZ,hK]at hb|simp only[go_sem,simprocAttr, *])
     all_goals first|rfl|skip
    ·dsimp only at k hk
     by_cases h6:k<Z.length
     ·have eA:=Qhf h6 0 (Qa2 K)
      generalize hf:(Z.take k).any (Qa2 K)=b0 at eA;generalize hg:Qa2 K (Z.getD k 0)=b1 at eA;cases b0
      ·rw[Bool.false_or]at eA
       (repeat' first|refine gA fun _=>?_|apply fkI<;>intro hb<;>try simp only[ew,hf,hg]at hb|simp only[go_sem,simprocAttr, *])
       refine lpN (k+1) (by dsimp only;omega) (by dsimp only;omega) ?_
       (repeat' first|refine gA fun _=>?_|apply fkI<;>intro hb<;>try simp only[ew,hf,hg,eA]at hb|simp only[go_sem,simprocAttr, *])
      ·rw[Bool.true_or]at eA
       (repeat' first|refine gA fun _=>?_|apply fkI<;>intro hb<;>try simp only[ew,hf,hg]at hb|simp only[go_sem,simprocAttr, *])
       refine lpN (k+1) (by dsimp only;omega) (by dsimp only;omega) ?_
       (repeat' first|refine gA fun _=>?_|apply fkI<;>intro hb<;>try simp only[ew,hf,hg,eA]at hb|simp only[go_sem,simprocAttr, *])
     ·have e6:k=Z.length:=by omega
      subst e6;have eT:Z.take Z.length=Z:=List.take_length
      cases hq:Z.any (Qa2 K)
      ·have eA:Qrt K Z=Z++[K.getD 0 0]:=by unfold Qrt;rw[hq];rfl
       rw[eA];clear eA;(repeat' first|refine gA fun _=>?_|apply fkI<;>intro hb<;>try simp only[ew,eT,hq,Qo]at hb|simp only[go_sem,simprocAttr, *,hq,Qo])
      ·have eA:Qrt K Z=Z:=by unfold Qrt;rw[hq,if_pos rfl,List.append_nil]
       rw[eA];clear eA;(repeat' first|refine gA fun _=>?_|apply fkI<;>intro hb<;>try simp only[ew,eT,hq]at hb|simp only[go_sem,simprocAttr, *,hq])
theorem QAB:Qa E0 132 Qxy:=by
 refine QE (E:=E0) (T:=mkT Tryz.prog [(126,QO),(86,QrA),(69,QrC),(131,QhW),(178,QhX)] false (fun _=>false) true (fun _=>false)) (Qd (E:=E0) (.cons Qbr (.cons QsG (.cons QmF (.cons Qpx (.cons QtC .nil)))))) (fn:=Tryz.f132) Tryz.func132 (by kernel_rfl) rfl Qc (by kernel_rfl) rfl ?_
 intro args p rs ms hr;unfold Qxy at hr;dsimp only at hr;split at hr;rotate_left
 ·cases hr
 rename_i n l;cases hr;refine⟨rfl,rfl,nLe rfl,?_⟩
 have hm:=mxE;rintro⟨h1,hn1,hn2⟩ bs;obtain⟨ds,rfl,hx⟩:=h1.ex;clear h1;rw[Qh];cases hv:QF n ds
 ·have e:Qqe n ds=[]:=by unfold Qqe;rw[hv];rfl
  rw[e];clear e;(repeat' first|refine gA fun _=>?_|apply fkI<;>intro hb<;>try simp only[ew,hv]at hb|simp only[go_sem,simprocAttr, *,hv])
  all_goals first|rfl|skip
 ·have e:Qqe n ds=Qcb QaL (Qrt (QcL n ds) (Qjj (Qgf n ds) (Qgf n ds))):=by unfold Qqe;rw[hv];rfl
  rw[e];clear e;obtain⟨k1,k2,k3⟩:=@Qco n ds;have k3:=k3 hv
  obtain⟨c1,c2⟩:=@QcZ n ds;have cR:∀d∈Qgf n ds,Qbn d:=fun d hd=>Qas (c1 d hd)
  clear c1;have c3:(Qgf n ds).length≤maxLen:=Nat.le_trans c2 (by decide)
  (repeat' first|refine gA fun _=>?_|apply fkI<;>intro hb<;>try simp only[ew,hv]at hb|simp only[go_sem,simprocAttr, *,hv])
  generalize hC:Qgf n ds=C at c2 c3 cR;generalize hK:QcL n ds=K at k1 k2 k3;have kmx:K.length≤maxLen:=Nat.le_trans k1 (by decide)
  have hSL:=fun i=>@Qfg C (C.take i)
  refine lpI {ι:=Nat,rs:=[(8,10),(23,62)],mods:=[(7,fun i=> .one (.d (.v (.int .i64 i)))),(5,fun i=> .one (.own 1 (iL (QaS (Qjj C (C.take i)))) 1))],boxes:=[],arrs:=[(6,fun _=>(2,dL C,1))],ok:=fun i=>i≤C.length,mu:=fun i=>C.length-i} rfl 0 (Nat.zero_le _) ?_ fun i hi=>?_
  ·clear cR k2
   (repeat' first|refine gA fun _=>?_|apply fkI<;>intro hb<;>try simp only[ew,hC]at hb|simp only[go_sem,simprocAttr, *])
   all_goals first|rfl|skip
  ·dsimp only at i hi
   have s0:=@QaE (Qjj C (C.take i))
   have s1:=hSL i
   rw[List.length_take]at s1;have s2:(QaS (Qjj C (C.take i))).length≤20:=by omega
   clear s1 s0;have s3:(QaS (Qjj C (C.take i))).length≤maxLen:=Nat.le_trans s2 (by decide)
   by_cases h5:i<C.length
   ·have eS:=congrArg QaS (QmZ (C:=C) h5)
    rw[QdX]at eS;obtain⟨⟨a1,a2⟩,b1,b2⟩:=cR _ (QP h5 (0,0));generalize hZ:QaS (Qjj C (C.take i))=Z at s2 s3 eS;generalize hg:C.getD i (0,0)=g at eS a1 a2 b1 b2;obtain⟨a,b⟩:=g;dsimp only at eS a1 a2 b1 b2;clear k2;have e0:Qru (C.take 0) a=a:=rfl
    (repeat' first|refine gA fun _=>?_|apply fkI<;>intro hb<;>try simp only[ew,hZ,hg]at hb|simp only[go_sem,simprocAttr, *])
    refine lpI {ι:=Nat,rs:=[(34,59)],mods:=[(9,fun k=> .one (.d (.v (.int .i64 k)))),(8,fun k=> .one (.d (.v (.int .i64 (Qru (C.take k) a)))))],boxes:=[],arrs:=[(6,fun _=>(2,dL C,1)),(5,fun _=>(1,iL Z,1))],ok:=fun k=>k≤C.length,mu:=fun k=>C.length-k} rfl 0 (Nat.zero_le _) ?_ fun k hk=>?_
    ·clear cR
     (repeat' first|refine gA fun _=>?_|apply fkI<;>intro hb<;>try simp only[ew,hZ,hg,e0]at hb|simp only[go_sem,simprocAttr, *])
     all_goals first|rfl|skip
    ·dsimp only at k hk
     have hX:=@Quy a ⟨a1,a2⟩ (C.take k) fun d hd=>cR d (List.mem_of_mem_take hd)
     by_cases h6:k<C.length
     ·have eX:=Qm0 (a:=a) h6
      obtain⟨_,d1,d2⟩:=cR _ (QP h6 (0,0));generalize hx:Qru (C.take k) a=x at hX eX;generalize hh:C.getD k (0,0)=h at eX d1 d2;obtain⟨u,v⟩:=h;dsimp only at eX d1 d2;obtain⟨x0,x31⟩:=hX;have hp:=QAp ⟨d1,d2⟩
      have eo:Q6 .or .i64 x (1*2^v.toNat)=Qbd x v:=rfl
      unfold QAA at eX;dsimp only at eX;cases hq:(u==a)
      ·rw[hq,if_neg (by decide)]at eX
       clear cR;(repeat' first|refine gA fun _=>?_|apply fkI<;>intro hb<;>try simp only[ew,hx,hh,hg,hq]at hb|simp only[go_sem,simprocAttr, *,hq])
       refine lpN (k+1) (by dsimp only;omega) (by dsimp only;omega) ?_
       (repeat' first|refine gA fun _=>?_|apply fkI<;>intro hb<;>try simp only[ew,hx,eX,hh,hq]at hb|simp only[go_sem,simprocAttr, *,hq])
      ·rw[hq,if_pos rfl]at eX
       clear cR;(repeat' first|refine gA fun _=>?_|apply fkI<;>intro hb<;>try simp only[ew,Qj,hx,hh,hg,hq,eo]at hb|simp only[go_sem,simprocAttr, *,Qj,hq])
       refine lpN (k+1) (by dsimp only;omega) (by dsimp only;omega) ?_
       (repeat' first|refine gA fun _=>?_|apply fkI<;>intro hb<;>try simp only[ew,hx,eX,hh,hq,eo]at hb|simp only[go_sem,simprocAttr, *,hq])
     ·have e6:k=C.length:=by omega
      subst e6;have eT:C.take C.length=C:=List.take_length
      clear cR;(repeat' first|refine gA fun _=>?_|apply fkI<;>intro hb<;>try simp only[ew,eT]at hb|simp only[go_sem,simprocAttr, *])
      refine lpN (i+1) (by dsimp only;omega) (by dsimp only;omega) ?_
      (repeat' first|refine gA fun _=>?_|apply fkI<;>intro hb<;>try simp only[ew,hZ,eS,eT]at hb|simp only[go_sem,simprocAttr, *])
   ·have e5:i=C.length:=by omega
    subst e5;have eP:C.take C.length=C:=List.take_length
    rw[eP]at s2 s3;have sl:=@Qfg C C
    have sR:∀x∈Qjj C C,R5 x:=QCj cR cR
    generalize hY:Qjj C C=Y at s2 s3 sl sR;have y100:(Qrt K Y).length≤100:=by
     unfold Qrt;rw[List.length_append];split<;>simp<;>omega
    have hsel:Qcb QaL (QaS (Qrt K Y))=Qcb QaL (Qrt K Y):=Qw1 y100
    have zR:∀x∈QaS Y,R5 x:=fun x hx=>sR x (Qai.1 hx)
    have hany:=@QyA Y (Qa2 K)
    have hput:=@QdX Y (K.getD 0 0)
    clear cR hSL sR y100;rw[←hsel];have hA:QaS (Qrt K Y)=if(QaS Y).any (Qa2 K)then QaS Y else QfZ (QaS Y) (K.getD 0 0):=by
     unfold Qrt;rw[hany];split
     ·rw[List.append_nil]
     ·rw[hput]
    rw[hA];clear hA hsel hany hput;generalize hZ:QaS Y=Z at s2 s3 zR;(repeat' first|refine gA fun _=>?_|apply fkI<;>intro hb<;>try simp only[ew,eP,hY,hZ,hK]at hb|simp only[go_sem,simprocAttr, *])
    refine lpI {ι:=Nat,rs:=[(13,14),(65,94)],mods:=[(12,fun k=> .one (.d (.v (.int .i64 k)))),(11,fun k=> .one (.d (.v (.bool ((Z.take k).any (Qa2 K))))))],boxes:=[],arrs:=[(5,fun _=>(1,iL Z,1)),(10,fun _=>(1,iL K,1))],ok:=fun k=>k≤Z.length,mu:=fun k=>Z.length-k} rfl 0 (Nat.zero_le _) ?_ fun k hk=>?_
    ·clear k2 zR
     (repeat' first|refine gA fun _=>?_|apply fkI<;>intro hb<;>try simp only[ew,eP,hY,hZ,hK]at hb|simp only[go_sem,simprocAttr, *])
     all_goals first|rfl|skip
    ·dsimp only at k hk
     by_cases h6:k<Z.length
     ·have eA:=Qhf h6 0 (Qa2 K)
      have zr:=zR _ (QP h6 0)
      clear zR;generalize hf:(Z.take k).any (Qa2 K)=b0 at eA;generalize hg:Z.getD k 0=z at eA zr;have e0:(b0||(K.take 0).any fun y=>Q7 y z)=b0:=by simp
      have eE:(b0||(K.take K.length).any fun y=>Q7 y z)=(b0||Qa2 K z):=by rw[List.take_length];rfl
      have hkr:=fun j h=>k2 _ (QP (l:=K) (i:=j) h 0)
      clear k2;(repeat' first|refine gA fun _=>?_|apply fkI<;>intro hb<;>try simp only[ew,hf,hg]at hb|simp only[go_sem,simprocAttr, *])
      refine lpI {ι:=Nat,rs:=[(71,94)],mods:=[(13,fun j=> .one (.d (.v (.int .i64 j)))),(11,fun j=> .one (.d (.v (.bool (b0||(K.take j).any fun y=>Q7 y z)))))],boxes:=[],arrs:=[(5,fun _=>(1,iL Z,1)),(10,fun _=>(1,iL K,1))],ok:=fun j=>j≤K.length,mu:=fun j=>K.length-j} rfl 0 (Nat.zero_le _) ?_ fun j hj=>?_
      ·clear hkr
       (repeat' first|refine gA fun _=>?_|apply fkI<;>intro hb<;>try simp only[ew,hf,hg,e0]at hb|simp only[go_sem,simprocAttr, *])
       all_goals first|rfl|skip
      ·dsimp only at j hj
       by_cases h7:j<K.length
       ·have eB:=Qhf h7 0 fun y=>Q7 y z
        have ei:=Qde (hkr j h7) zr
        clear hkr;generalize hq:((K.take j).any fun y=>Q7 y z)=b1 at eB
        generalize hw:K.getD j 0=w at eB ei;generalize hi3:Q7 w z=b2 at eB ei;generalize hb3:(b0||b1)=b3;have eC:(b0||(K.take (j+1)).any fun y=>Q7 y z)=(b3||b2):=by rw[eB,←hb3,Bool.or_assoc]
        clear eB;cases b3
        ·rw[Bool.false_or]at eC
         (repeat' first|refine gA fun _=>?_|apply fkI<;>intro hb<;>try simp only[ew,hq,hw,hg,ei,hb3]at hb|simp only[go_sem,simprocAttr, *])
         refine lpN (j+1) (by dsimp only;omega) (by dsimp only;omega) ?_
         (repeat' first|refine gA fun _=>?_|apply fkI<;>intro hb<;>try simp only[ew,hq,hw,hg,ei,hb3,eC]at hb|simp only[go_sem,simprocAttr, *])
        ·rw[Bool.true_or]at eC
         (repeat' first|refine gA fun _=>?_|apply fkI<;>intro hb<;>try simp only[ew,hq,hw,hg,ei,hb3]at hb|simp only[go_sem,simprocAttr, *])
         refine lpN (j+1) (by dsimp only;omega) (by dsimp only;omega) ?_
         (repeat' first|refine gA fun _=>?_|apply fkI<;>intro hb<;>try simp only[ew,hq,hw,hg,ei,hb3,eC]at hb|simp only[go_sem,simprocAttr, *])
       ·have e7:j=K.length:=by omega
        subst e7;clear hkr;(repeat' first|refine gA fun _=>?_|apply fkI<;>intro hb<;>try simp only[ew]at hb|simp only[go_sem,simprocAttr, *])
        refine lpN (k+1) (by dsimp only;omega) (by dsimp only;omega) ?_
        (repeat' first|refine gA fun _=>?_|apply fkI<;>intro hb<;>try simp only[ew,eA,eE]at hb|simp only[go_sem,simprocAttr, *])
     ·have e6:k=Z.length:=by omega
      subst e6;have eT:Z.take Z.length=Z:=List.take_length
      clear zR k2;cases hq:Z.any (Qa2 K)
      ·rw[if_neg (by decide)]
       obtain⟨k0,hk0⟩:∃k0,K[0]'k3=k0:=⟨_,rfl⟩;have hpl:=@Qfe Z k0
       have hpm:(QfZ Z k0).length≤maxLen:=Nat.le_trans hpl (Nat.le_trans (Nat.succ_le_succ s2) (by decide))
       (repeat' first|refine gA fun _=>?_|apply fkI<;>intro hb<;>try simp only[ew,eT,hq,hk0]at hb|simp only[go_sem,simprocAttr, *,hk0])
      ·rw[if_pos rfl]
       (repeat' first|refine gA fun _=>?_|apply fkI<;>intro hb<;>try simp only[ew,eT,hq]at hb|simp only[go_sem,simprocAttr, *])
theorem Qlq{n:Int}{ds:List (Int×Int)}:(Qqe n ds).length≤100:=by
 unfold Qqe;split
 ·exact Qdy
 ·simp
end Go.Own
