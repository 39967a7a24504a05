/- Contracts. Conditions: as stated. -/
import Derived.Test.YtnmkpepdacbfaaaGreatDoorRp22
import Derived.Test.YtnmkpepdacbfaaaGreatDoorRp33
set_option linter.all false
set_option maxRecDepth 20000
set_option maxHeartbeats 2000000
namespace Go.Own
open Go Go.Proofs
attribute [local go_sem] QT Qk7 Qhy Tryz.results175 QfO Tryz.results131 QmD Tryz.results129 Qmg QjJ Tryz.results172 QdS Tryz.results174 Tryz.results130 Qh Qg Qae Qag Qaf Qaj Qa7 Qd1 Qv Qa6
def kqB(M:Nat)(ds:List (Int×Int))(x:Int):Bool:=clo ds x==(M:Int)-1
def QuL(M:Nat)(ds:List (Int×Int)):List Int:=(rng M).filter (kqB M ds)
def Qc1(n:Int)(ds:List (Int×Int)):List Int:=if QJ n ds then Qcs QaM (QuL (2^n.toNat) ds)else []
def Qiu:Qb:=⟨[],false,fun
 | [.one (.v (.int .i64 n)),.one (.sl 2 l)]=>some (WfD l∧ -9223372036854775808≤n∧n≤9223372036854775807,[⟨false,[.own 1 (iL (Qc1 n (unD l))) 1]⟩],[])
 | _=>none⟩
attribute [local go_sem] Qiu
theorem QfY{n:Int}{ds:List (Int×Int)}(h:QJ n ds=true):1≤n∧n≤5∧ds.length≤20:=by
 simp only[QJ,KB,Qj,KK]at h
 omega
theorem QyF{t:Int→Int→Bool}:Qcs t []=[]:=rfl
theorem QqB:Qa E0 175 Qiu:=by
 refine QG (E:=E0) (T:=mkT Tryz.prog [(163,QT),(202,Qk7),(171,Qhy)] false (fun _=>false) true (fun _=>false)) (Qd (E:=E0) (.cons Qby (.cons QeH (.cons QqM .nil)))) (fn:=Tryz.f175) Tryz.func175 kR rfl Qc kR rfl ?_
 intro args p rs ms hr;unfold Qiu at hr;dsimp only at hr;split at hr;rotate_left
 ·cases hr
 rename_i n l;cases hr;refine⟨rfl,rfl,nLe rfl,?_⟩
 have hm:=mxE;rintro⟨h1,hn1,hn2⟩ bs;obtain⟨ds,rfl,hx⟩:=h1.ex;clear h1;rw[Qh];cases hv:QJ n ds
 ·have e:Qc1 n ds=[]:=by unfold Qc1;rw[hv];rfl
  rw[e];clear e;(repeat' first|refine gA fun _=>?_|apply fkI<;>intro hb<;>try simp only[ew,hv]at hb|simp only[go_sem,simprocAttr, *,hv])
  all_goals first|rfl|skip
 ·have hd:=QaE hv
  obtain⟨n0,n5,_⟩:=QfY hv;have e:Qc1 n ds=Qcs QaM (QuL (2^n.toNat) ds):=by unfold Qc1;rw[hv];rfl
  rw[e];obtain⟨c,rfl⟩:=KL (show 0≤n by omega)
  rw[KE];have hM2:2^c≤32:=KF (K2 (by omega) (show c≤5 by omega)) (by decide)
  have hM:1*(2:Int)^c=((2^c:Nat):Int):=by simp
  clear e;generalize 2^c=M at hM2 hM ⊢;(repeat' first|refine gA fun _=>?_|apply fkI<;>intro hb<;>try simp only[ew,Qi,hv]at hb|simp only[go_sem,simprocAttr, *,Qi,hv])
  refine lpI {ι:=Nat,rs:=[(13,30)],mods:=[(6,fun x=> .one (.d (.v (.int .i64 x)))),(5,fun x=> .one (.own 1 (iL ((rng x).filter (kqB M ds))) 1))],boxes:=[],arrs:=[],ok:=fun x=>x≤M,mu:=fun x=>M-x} rfl 0 (KJ _) ?_ fun x hx=>?_
  ·exact gQ
  ·dsimp only at x hx
   have l1:=@Qbs (kqB M ds) x
   by_cases h5:x<M
   ·have l2:((rng x).filter (kqB M ds)).length≤32:=by omega
    have eS:=@QcG (kqB M ds) x
    generalize hZ:(rng x).filter (kqB M ds)=Z at l1 l2 eS;have eq:kqB M ds x=(clo ds x==(M:Int)-1):=rfl
    cases hq:kqB M ds x
    ·rw[hq]at eq eS
     rw[if_neg (by decide),KM]at eS
     replace eq:=eq.symm;clear hq;(repeat' first|refine gA fun _=>?_|apply fkI<;>intro hb<;>try simp only[ew,hM,Qi,hZ,eq]at hb|simp only[go_sem,simprocAttr, *,Qi])
     refine lpQ (x+1) ?_
     clear eq;(repeat' first|refine gA fun _=>?_|apply fkI<;>intro hb<;>try simp only[ew,eS,hZ]at hb|simp only[go_sem,simprocAttr, *])
    ·rw[hq]at eq eS
     rw[if_pos rfl]at eS;replace eq:=eq.symm;clear hq;(repeat' first|refine gA fun _=>?_|apply fkI<;>intro hb<;>try simp only[ew,hM,Qi,hZ,eq,Qo]at hb|simp only[go_sem,simprocAttr, *,Qi,Qo])
     refine lpQ (x+1) ?_
     clear eq;(repeat' first|refine gA fun _=>?_|apply fkI<;>intro hb<;>try simp only[ew,eS,hZ,Qo]at hb|simp only[go_sem,simprocAttr, *,Qo])
   ·have e5:x=M:=by omega
    subst e5;have l2:((rng x).filter (kqB x ds)).length≤maxLen:=KF l1 (KF hM2 (by decide))
    have e3:(rng x).filter (kqB x ds)=QuL x ds:=rfl
    rw[e3]at l2;clear hd;(repeat' first|refine gA fun _=>?_|apply fkI<;>intro hb<;>try simp only[ew,hM,Qi,e3]at hb|simp only[go_sem,simprocAttr, *,Qi])
theorem QqC:Qa E0 131 Qiu:=by
 refine QG (E:=E0) (T:=mkT Tryz.prog [(126,QT),(24,QfO),(127,Qk7),(31,Qhy)] false (fun _=>false) true (fun _=>false)) (Qd (E:=E0) (.cons Qbz (.cons Qgs (.cons Qco (.cons Qu2 .nil))))) (fn:=Tryz.f131) Tryz.func131 kR rfl Qc kR rfl ?_
 intro args p rs ms hr;unfold Qiu at hr;dsimp only at hr;split at hr;rotate_left
 ·cases hr
 rename_i n l;cases hr;refine⟨rfl,rfl,nLe rfl,?_⟩
 have hm:=mxE;rintro⟨h1,hn1,hn2⟩ bs;obtain⟨ds,rfl,hx⟩:=h1.ex;clear h1;rw[Qh];cases hv:QJ n ds
 ·have e:Qc1 n ds=[]:=by unfold Qc1;rw[hv];rfl
  have e2:=@QyF QaM
  rw[e];clear e;(repeat' first|refine gA fun _=>?_|apply fkI<;>intro hb<;>try simp only[ew,hv]at hb|simp only[go_sem,simprocAttr, *,hv])
  refine lpI {ι:=Unit,rs:=[(8,29)],mods:=[(6,fun _=> .one (.d (.v (.int .i64 0)))),(5,fun _=> .one (.own 1 (iL []) 1))],boxes:=[],arrs:=[],ok:=fun _=>True,mu:=fun _=>0} rfl () trivial ?_ fun _ _=>?_
  ·(repeat' first|refine gA fun _=>?_|apply fkI<;>intro hb<;>try simp only[ew,hv]at hb|simp only[go_sem,simprocAttr, *,hv])
   all_goals first|rfl|skip
  ·(repeat' first|refine gA fun _=>?_|apply fkI<;>intro hb<;>try simp only[ew,hv,e2]at hb|simp only[go_sem,simprocAttr, *,hv])
   all_goals first|rfl|skip
 ·have hd:=QaE hv
  obtain⟨n0,n5,_⟩:=QfY hv;have e:Qc1 n ds=Qcs QaM (QuL (2^n.toNat) ds):=by unfold Qc1;rw[hv];rfl
  rw[e];obtain⟨c,rfl⟩:=KL (show 0≤n by omega)
  rw[KE];have hM2:2^c≤32:=KF (K2 (by omega) (show c≤5 by omega)) (by decide)
  have hM:Qc7 c=((2^c:Nat):Int)-1:=by unfold Qc7;rw[KE,Int.one_mul];simp
  have hM3:1≤2^c:=Nat.one_le_two_pow
  clear e;generalize 2^c=M at hM2 hM hM3 ⊢;(repeat' first|refine gA fun _=>?_|apply fkI<;>intro hb<;>try simp only[ew,hv]at hb|simp only[go_sem,simprocAttr, *,hv])
  refine lpI {ι:=Nat,rs:=[(8,29)],mods:=[(6,fun x=> .one (.d (.v (.int .i64 x)))),(5,fun x=> .one (.own 1 (iL ((rng x).filter (kqB M ds))) 1))],boxes:=[],arrs:=[],ok:=fun x=>x≤M,mu:=fun x=>M-x} rfl 0 (KJ _) ?_ fun x hx=>?_
  ·exact gQ
  ·dsimp only at x hx
   have l1:=@Qbs (kqB M ds) x
   by_cases h5:x<M
   ·have h5':decide ((x:Int)≤(M:Int)-1)=true:=KZ (by omega)
    have l2:((rng x).filter (kqB M ds)).length≤32:=by omega
    have eS:=@QcG (kqB M ds) x
    generalize hZ:(rng x).filter (kqB M ds)=Z at l1 l2 eS;have eq:kqB M ds x=(clo ds x==(M:Int)-1):=rfl
    cases hq:kqB M ds x
    ·rw[hq]at eq eS
     rw[if_neg (by decide),KM]at eS
     replace eq:=eq.symm;clear hq;(repeat' first|refine gA fun _=>?_|apply fkI<;>intro hb<;>try simp only[ew,hv,hM,h5',hZ,eq]at hb|simp only[go_sem,simprocAttr, *,hv])
     refine lpQ (x+1) ?_
     clear eq;(repeat' first|refine gA fun _=>?_|apply fkI<;>intro hb<;>try simp only[ew,eS,hZ]at hb|simp only[go_sem,simprocAttr, *])
    ·rw[hq]at eq eS
     rw[if_pos rfl]at eS;replace eq:=eq.symm;clear hq;(repeat' first|refine gA fun _=>?_|apply fkI<;>intro hb<;>try simp only[ew,hv,hM,h5',hZ,eq,Qo]at hb|simp only[go_sem,simprocAttr, *,hv,Qo])
     refine lpQ (x+1) ?_
     clear eq;(repeat' first|refine gA fun _=>?_|apply fkI<;>intro hb<;>try simp only[ew,eS,hZ,Qo]at hb|simp only[go_sem,simprocAttr, *,Qo])
   ·have e5:x=M:=by omega
    subst e5;have h5':decide ((x:Int)≤(x:Int)-1)=false:=KW (by omega)
    have l2:((rng x).filter (kqB x ds)).length≤maxLen:=KF l1 (KF hM2 (by decide))
    have e3:(rng x).filter (kqB x ds)=QuL x ds:=rfl
    rw[e3]at l2;clear hd;(repeat' first|refine gA fun _=>?_|apply fkI<;>intro hb<;>try simp only[ew,hv,hM,h5',e3]at hb|simp only[go_sem,simprocAttr, *,hv])
def Qn3(ds:List (Int×Int))(r x c:Int):Int:=if Qu x c&&Qu (clo ds (Qdv x c)) r then Qdv x c else x
def Qwr(ds:List (Int×Int))(r x:Int)(l:List Int):Int:=l.foldl (Qn3 ds r) x
def Qsx(ds:List (Int×Int))(r x:Int):Nat→Int
 | 0=>x
 | k+1=>Qn3 ds r (Qsx ds r x k) (k:Nat)
theorem QzG{ds:List (Int×Int)}{r x c:Int}(hx:R5 x)(hc:0≤c∧c≤4):R5 (Qn3 ds r x c):=by
 unfold Qn3;split
 ·exact QEY hx hc
 ·exact hx
theorem QBW{ds:List (Int×Int)}{r x c:Int}(hx:R5 x)(hc:0≤c∧c≤4):Qn3 ds r x c≤x:=by
 unfold Qn3;split
 ·exact(Qhl hx hc).2
 ·exact Int.le_refl _
theorem Qq5{ds:List (Int×Int)}{r x c e:Int}(hx:R5 x)(hc:0≤c∧c≤4)(he:0≤e∧e≤4)(hne:e≠c):Qu (Qn3 ds r x c) e=Qu x e:=by
 unfold Qn3;split
 ·rw[QoC hx hc he,KU.2 hne];simp
 ·rfl
theorem QeY{ds:List (Int×Int)}{r x:Int}(hx:R5 x):∀{k:Nat},k≤5→R5 (Qsx ds r x k)∧Qsx ds r x k≤x∧∀e:Int,(k:Int)≤e→e≤4→Qu (Qsx ds r x k) e=Qu x e
 | 0,_=>⟨hx,Int.le_refl _,fun _ _ _=>rfl⟩
 | k+1,h=>by
  obtain⟨h1,h2,h3⟩:=QeY (ds:=ds) (r:=r) hx (k:=k) (by omega)
  have hc:0≤(k:Int)∧(k:Int)≤4:=⟨by omega,by omega⟩
  refine⟨QzG h1 hc,Int.le_trans (QBW h1 hc) h2,fun e he he4=>?_⟩
  rw[Qsx,Qq5 h1 hc ⟨by omega,he4⟩ (by omega),h3 e (by omega) he4]
theorem Qq6{ds:List (Int×Int)}{r x:Int}(hx:R5 x):∀{k:Nat},k≤5→Qwr ds r x (Qdw x k)=Qsx ds r x k
 | 0,_=>rfl
 | k+1,h=>by
  have ih:=Qq6 (ds:=ds) (r:=r) hx (k:=k) (by omega)
  unfold Qwr at *;rw[Qdw,YW,ih,Qsx];split
  ·rfl
  ·rename_i hh
   have:=(QeY (ds:=ds) (r:=r) hx (k:=k) (by omega)).2.2 (k:Nat) (Int.le_refl _) (by omega)
   unfold Qn3;rw[this];simp[hh]
theorem QkF{x:Int}:∀{k:Nat},(Qdw x k).Nodup
 | 0=>by simp[Qdw]
 | k+1=>by
  rw[Qdw,Km];refine⟨QkF,by split<;>simp,fun a ha b hb=>?_⟩
  have:=Qdm a ha
  split at hb
  ·rw[KH]at hb;omega
  ·cases hb
theorem Qsw{ds:List (Int×Int)}{r x:Int}(hx:R5 x):∀{l:List Int},(∀c∈l,0≤c∧c≤4)→R5 (Qwr ds r x l)∧∀e:Int,0≤e→e≤4→e∉l→Qu (Qwr ds r x l) e=Qu x e:=by
 intro l;suffices H:∀(l:List Int) (y:Int),R5 y→(∀c∈l,0≤c∧c≤4)→R5 (l.foldl (Qn3 ds r) y)∧∀e:Int,0≤e→e≤4→e∉l→Qu (l.foldl (Qn3 ds r) y) e=Qu y e from H l x hx
 intro l;induction l with
 | nil=>intro y hy _;exact⟨hy,fun _ _ _ _=>rfl⟩
 | cons c l ih=>
  intro y hy hl;have hc:=hl c (by simp)
  obtain⟨i1,i2⟩:=ih (Qn3 ds r y c) (QzG hy hc) fun c hc=>hl c (by simp[hc])
  refine⟨i1,fun e h0 h4 hm=>?_⟩
  rw[List.foldl_cons,i2 e h0 h4 (fun h=>hm (by simp[h])),Qq5 hy hc ⟨h0,h4⟩ (fun h=>hm (by simp[h]))]
def QnA(n:Int)(ds:List (Int×Int))(d:Int×Int):Int×Int:=if Qkz n ds d.1 d.2 then(Qsx ds d.2 d.1 5,d.2)else d
def Qy8:Qb:=⟨[],false,fun
 | [.one (.v (.int .i64 n)),.one (.sl 2 l),.agg [.v (.int .i64 a),.v (.int .i64 b)]]=>some (WfD l∧ -9223372036854775808≤n∧n≤9223372036854775807,
   [⟨true,[.d (.v (.int .i64 (QnA n (unD l) (a,b)).1)),.d (.v (.int .i64 (QnA n (unD l) (a,b)).2))]⟩],[])
 | _=>none⟩
attribute [local go_sem] Qy8
theorem QBZ:Qa E0 129 Qy8:=by
 refine QG (E:=E0) (T:=mkT Tryz.prog [(84,QmD),(127,Qk7)] false (fun _=>false) true (fun _=>false)) (Qd (E:=E0) (.cons Qlx (.cons Qco .nil))) (fn:=Tryz.f129) Tryz.func129 kR rfl Qc kR rfl ?_
 intro args p rs ms hr;unfold Qy8 at hr;dsimp only at hr;split at hr;rotate_left
 ·cases hr
 rename_i n l a b;cases hr;refine⟨rfl,rfl,nLe rfl,?_⟩
 have hm:=mxE;rintro⟨h1,hn1,hn2⟩ bs;obtain⟨ds,rfl,hx⟩:=h1.ex;clear h1;rw[Qh];cases hv:Qkz n ds a b
 ·have e:QnA n ds (a,b)=(a,b):=by unfold QnA;rw[hv];rfl
  rw[e];clear e;(repeat' first|refine gA fun _=>?_|apply fkI<;>intro hb<;>try simp only[ew,hv]at hb|simp only[go_sem,simprocAttr, *,hv])
  all_goals first|rfl|exact⟨rfl,rfl⟩|skip
 ·have e:QnA n ds (a,b)=(Qsx ds b a 5,b):=by unfold QnA;rw[hv];rfl
  rw[e];clear e;have hv2:=hv
  simp only[Qkz,KB]at hv2
  have hd:=QaE hv2.1.1
  obtain⟨⟨a1,a2⟩,b1,b2⟩:=Qaz hv2.1.2;clear hv2;have hN:=fun k hk=>@QeY ds b a ⟨a1,a2⟩ k hk
  (repeat' first|refine gA fun _=>?_|apply fkI<;>intro hb<;>try simp only[ew,hv]at hb|simp only[go_sem,simprocAttr, *,hv])
  refine lpI {ι:=Nat,rs:=[(8,9),(15,40)],mods:=[(7,fun k=> .one (.d (.v (.int .i64 k))))],boxes:=[(5,fun k=>[.d (.v (.int .i64 (Qsx ds b a k))),.d (.v (.int .i64 b))]),(6,fun _=>[.d (.v (.int .i64 0)),.d (.v (.int .i64 0))])],arrs:=[],ok:=fun k=>k≤5,mu:=fun k=>5-k} rfl 0 (KJ _) ?_ fun k hk=>?_
  ·exact gQ
  ·dsimp only at k hk
   by_cases h5:k<5
   ·have hp:=p5 (c:=k) h5
    have h5':decide ((k:Int)<5)=true:=KZ (by omega)
    obtain⟨⟨y0,y31⟩,_,_⟩:=hN k hk;have e1:Qsx ds b a (k+1)=Qn3 ds b (Qsx ds b a k) (k:Nat):=rfl
    generalize hy:Qsx ds b a k=y at y0 y31 e1;have hk4:0≤(k:Int)∧(k:Int)≤4:=⟨by omega,by omega⟩
    obtain⟨z0,z1⟩:=Qhl (x:=y) ⟨y0,y31⟩ hk4;have en:=QDq (x:=y) ⟨y0,y31⟩ hk4
    have ed:QV .andNot .i64 y (1*2^k)=Qdv y k:=by unfold Qdv;rw[KE]
    have hcl:=Qou hd (show R5 (Qdv y k)from⟨z0,by omega⟩)
    have eh:(QV .and .i64 ((clo ds (Qdv y k)).fdiv (2^b.toNat)) 1==1)=Qu (clo ds (Qdv y k)) b:=rfl
    unfold Qn3 at e1;cases hq:(Qu y k&&Qu (clo ds (Qdv y k)) b)
    ·rw[hq,if_neg (by decide)]at e1
     clear hN;(repeat' first|refine gA fun _=>?_|apply fkI<;>intro hb<;>try simp only[ew,Qi,hy,ed,en,eh,hq]at hb|simp only[go_sem,simprocAttr, *,Qi,hq])
     refine lpQ (k+1) ?_
     (repeat' first|refine gA fun _=>?_|apply fkI<;>intro hb<;>try simp only[ew,hy,e1]at hb|simp only[go_sem,simprocAttr, *])
    ·rw[hq,if_pos rfl]at e1
     clear hN;(repeat' first|refine gA fun _=>?_|apply fkI<;>intro hb<;>try simp only[ew,Qi,hy,ed,en,eh,hq]at hb|simp only[go_sem,simprocAttr, *,Qi,hq])
     refine lpQ (k+1) ?_
     (repeat' first|refine gA fun _=>?_|apply fkI<;>intro hb<;>try simp only[ew,hy,e1]at hb|simp only[go_sem,simprocAttr, *])
   ·have e5:k=5:=by omega
    subst e5;clear hN;(repeat' first|refine gA fun _=>?_|apply fkI<;>intro hb<;>try simp only[ew]at hb|simp only[go_sem,simprocAttr, *])
    all_goals first|rfl|exact⟨rfl,rfl⟩|skip
theorem QBY:Qa E0 172 Qy8:=by
 refine QG (E:=E0) (T:=mkT Tryz.prog [(109,QmD),(97,Qmg),(164,QjJ)] false (fun _=>false) true (fun d=>d==24||d==29)) (Qd (E:=E0) (.cons QoN (.cons Qjb (.cons Qlw .nil)))) (fn:=Tryz.f172) Tryz.func172 kR rfl Qc kR rfl ?_
 intro args p rs ms hr;unfold Qy8 at hr;dsimp only at hr;split at hr;rotate_left
 ·cases hr
 rename_i n l a b;cases hr;refine⟨rfl,rfl,nLe rfl,?_⟩
 have hm:=mxE;rintro⟨h1,hn1,hn2⟩ bs;obtain⟨ds,rfl,hx⟩:=h1.ex;clear h1;rw[Qh];cases hv:Qkz n ds a b
 ·have e:QnA n ds (a,b)=(a,b):=by unfold QnA;rw[hv];rfl
  rw[e];clear e;(repeat' first|refine gA fun _=>?_|apply fkI<;>intro hb<;>try simp only[ew,hv]at hb|simp only[go_sem,simprocAttr, *,hv])
  all_goals first|rfl|exact⟨rfl,rfl⟩|skip
 ·have hv2:=hv
  simp only[Qkz,KB]at hv2
  have hd:=QaE hv2.1.1
  obtain⟨⟨a1,a2⟩,b1,b2⟩:=Qaz hv2.1.2;have ha:Ql 5 a=true:=by
   simp only[Ql,KB,Qj,Qc7]
   exact⟨⟨by decide,by decide⟩,a1,a2⟩
  have hm:mem a=Qdw a 5:=by unfold mem;rw[ha];rfl
  have e:QnA n ds (a,b)=(Qwr ds b a (mem a),b):=by unfold QnA;rw[hv,hm,Qq6 ⟨a1,a2⟩ (by omega)];rfl
  rw[e];clear e hv2;have hr:∀c∈mem a,0≤c∧c≤4:=fun c hc=>by
   rw[hm]at hc;have:=Qdm c hc
   omega
  have hnd:(mem a).Nodup:=by rw[hm];exact QkF
  have hhas:∀c∈mem a,Qu a c=true:=fun c hc=>by
   rw[hm]at hc;have:∀k:Nat,c∈Qdw a k→Qu a c=true:=by
    intro k;induction k with
    | zero=>intro h;cases h
    | succ k ih=>
     intro h;rw[Qdw]at h;rcases KG.1 h with h|h
     ·exact ih h
     ·split at h
      ·rename_i hh
       rw[KH]at h;rw[h];exact hh
      ·cases h
   exact this 5 hc
  have hl:=@Qet a
  clear ha hm;generalize hm:mem a=m at hr hnd hhas hl ⊢;have hN:=fun i=>@Qsw ds b a ⟨a1,a2⟩ (m.take i) fun c hc=>hr c (Ks hc)
  have hl2:m.length≤maxLen:=KF hl (by decide)
  (repeat' first|refine gA fun _=>?_|apply fkI<;>intro hb<;>try simp only[ew,hv,hm]at hb|simp only[go_sem,simprocAttr, *,hv])
  refine lpI {ι:=Nat,rs:=[(8,10),(21,37)],mods:=[(20,fun i=> .one (.d (.v (.int .i64 i))))],boxes:=[(5,fun i=>[.d (.v (.int .i64 (Qwr ds b a (m.take i)))),.d (.v (.int .i64 b))]),(6,fun _=>[.d (.v (.int .i64 0)),.d (.v (.int .i64 0))])],arrs:=[(18,fun _=>(1,iL m,1))],ok:=fun i=>i≤m.length,mu:=fun i=>m.length-i} rfl 0 (KJ _) ?_ fun i hi=>?_
  ·clear hN
   (repeat' first|refine gA fun _=>?_|apply fkI<;>intro hb<;>try simp only[ew,hm]at hb|simp only[go_sem,simprocAttr, *])
   all_goals first|rfl|skip
  ·dsimp only at i hi
   by_cases h5:i<m.length
   ·have hmem:=QE h5 0
    obtain⟨⟨y0,y31⟩,hb⟩:=hN i;have hk4:=hr _ hmem
    have hnot:m.getD i 0∉m.take i:=by
     intro h;obtain⟨j,hj,e⟩:=YA h;rw[List.getElem_take]at e;have hj2:j<i:=by rw[KO]at hj;omega
     have e2:m.getD i 0=m[i]:=by simp[KD,h5]
     rw[e2]at e;exact(List.pairwise_iff_getElem.1 hnd) j i (by omega) h5 hj2 e
    have hhb:=hb _ hk4.1 hk4.2 hnot
    rw[hhas _ hmem]at hhb;have e1:Qwr ds b a (m.take (i+1))=Qn3 ds b (Qwr ds b a (m.take i)) (m.getD i 0):=by unfold Qwr;rw[Qf h5 0,YW];rfl
    generalize hy:Qwr ds b a (m.take i)=y at y0 y31 e1 hhb;generalize hc:m.getD i 0=c at hk4 e1 hhb;obtain⟨c0,c4⟩:=hk4;have hp:=QCc ⟨c0,c4⟩
    obtain⟨z0,z1⟩:=Qhl (x:=y) ⟨y0,y31⟩ ⟨c0,c4⟩;have ed:QV .andNot .i64 y (1*2^c.toNat)=Qdv y c:=rfl
    unfold Qn3 at e1;rw[hhb,KY]at e1;clear hN hb hr hnd hhas hmem hnot hhb;cases hq:Qu (clo ds (Qdv y c)) b
    ·rw[hq,if_neg (by decide)]at e1
     (repeat' first|refine gA fun _=>?_|apply fkI<;>intro hb<;>try simp only[ew,Qi,hy,hc,ed,hq]at hb|simp only[go_sem,simprocAttr, *,Qi,hq])
     refine lpQ (i+1) ?_
     (repeat' first|refine gA fun _=>?_|apply fkI<;>intro hb<;>try simp only[ew,hy,e1]at hb|simp only[go_sem,simprocAttr, *])
    ·rw[hq,if_pos rfl]at e1
     (repeat' first|refine gA fun _=>?_|apply fkI<;>intro hb<;>try simp only[ew,Qi,hy,hc,ed,hq]at hb|simp only[go_sem,simprocAttr, *,Qi,hq])
     refine lpQ (i+1) ?_
     (repeat' first|refine gA fun _=>?_|apply fkI<;>intro hb<;>try simp only[ew,hy,e1]at hb|simp only[go_sem,simprocAttr, *])
   ·have e5:i=m.length:=by omega
    subst e5;have e6:m.take m.length=m:=KR
    clear hN hr hnd hhas;(repeat' first|refine gA fun _=>?_|apply fkI<;>intro hb<;>try simp only[ew,e6]at hb|simp only[go_sem,simprocAttr, *])
    all_goals first|rfl|exact⟨rfl,rfl⟩|skip
def wo(ds:List (Int×Int))(i:Nat):List (Int×Int):=ds.take i++ds.drop (i+1)
def cWo:Qb:=⟨[],false,fun
 | [.one (.sl 2 l),.one (.v (.int .i64 i))]=>some (WfD l∧l.length≤16777216∧0≤i∧i<l.length,[⟨false,[.own 2 (dL (wo (unD l) i.toNat)) 1]⟩],[])
 | _=>none⟩
attribute [local go_sem] cWo
theorem QEw:Qa E0 174 cWo:=by
 refine QG (E:=E0) (T:=mkT Tryz.prog [(108,QdS)] false (fun _=>false) true (fun _=>false)) (Qd (E:=E0) (.cons QfU .nil)) (fn:=Tryz.f174) Tryz.func174 kR rfl Qc kR rfl ?_
 intro args p rs ms hr;unfold cWo at hr;dsimp only at hr;split at hr;rotate_left
 ·cases hr
 rename_i l i;cases hr;refine⟨rfl,rfl,nLe rfl,?_⟩
 have hm:=mxE;rintro⟨h1,h2,h3,h4⟩ bs;obtain⟨ds,rfl,hx⟩:=h1.ex;clear h1;rw[Qg]at h2 h4;rw[Qh];obtain⟨i,rfl⟩:=KL h3;rw[KE];have h4':i<ds.length:=by omega
 have e:((i:Int)+1).toNat=i+1:=by omega
 have e2:ds.take i++ds.drop (i+1)=wo ds i:=rfl
 (repeat' first|refine gA fun _=>?_|apply fkI<;>intro hb<;>try simp only[ew,e,Qli,Qlh,QpV,e2,KR,Kk]at hb|simp only[go_sem,simprocAttr, *,Qli,Qlh,QpV,KR,Kk])
theorem QEx:Qa E0 130 cWo:=by
 refine QG (E:=E0) (T:=mkT Tryz.prog [] false (fun _=>false) true (fun _=>false)) (Qd (E:=E0) .nil) (fn:=Tryz.f130) Tryz.func130 kR rfl Qc kR rfl ?_
 intro args p rs ms hr;unfold cWo at hr;dsimp only at hr;split at hr;rotate_left
 ·cases hr
 rename_i l i;cases hr;refine⟨rfl,rfl,nLe rfl,?_⟩
 have hm:=mxE;rintro⟨h1,h2,h3,h4⟩ bs;obtain⟨ds,rfl,hx⟩:=h1.ex;clear h1;rw[Qg]at h2 h4;rw[Qh];obtain⟨i,rfl⟩:=KL h3;rw[KE];have h4':i<ds.length:=by omega
 have e:((i:Int)+1).toNat=i+1:=by omega
 have e2:ds.take i++ds.drop (i+1)=wo ds i:=rfl
 (repeat' first|refine gA fun _=>?_|apply fkI<;>intro hb<;>try simp only[ew,e,Qli,Qlh,QpV,e2,KR,Kk]at hb|simp only[go_sem,simprocAttr, *,Qli,Qlh,QpV,KR,Kk])
end Go.Own
