/- Own contracts. Conditions: as each theorem states them. -/
import Derived.Test.YtnmkpepdacbfaaaGreatDoorRc23
import Derived.Test.YtnmkpepdacbfaaaGreatDoorRc34
set_option linter.unusedSimpArgs false
set_option linter.unusedVariables false
set_option maxRecDepth 20000
set_option maxHeartbeats 2000000
namespace Go.Own
open Go Go.Proofs
attribute [local go_sem] QO Qkq Qg1 Tryz.results175 Qfs Tryz.results131 QlQ Tryz.results129 Qlu Qi6 Tryz.results172 Qdz Tryz.results174 Tryz.results130
attribute [local go_sem] Qh Qe Qaa Qac Qab Qaf QaX QdJ Qu QaV
def kqB(M:Nat)(ds:List (Int×Int))(x:Int):Bool:=clo ds x==(M:Int)-1
def Qtp(M:Nat)(ds:List (Int×Int)):List Int:=(rng M).filter (kqB M ds)
def QcL(n:Int)(ds:List (Int×Int)):List Int:=if QF n ds then Qcb QaF (Qtp (2^n.toNat) ds)else []
def QhW:Qb:=⟨[],false,fun
 | [.one (.v (.int .i64 n)),.one (.sl 2 l)]=>some (WfD l∧ -9223372036854775808≤n∧n≤9223372036854775807,[⟨false,[.own 1 (iL (QcL n (unD l))) 1]⟩],[])
 | _=>none⟩
attribute [local go_sem] QhW
theorem Qfz{n:Int}{ds:List (Int×Int)}(h:QF n ds=true):1≤n∧n≤5∧ds.length≤20:=by
 simp only[QF,Bool.and_eq_true,Qi,decide_eq_true_eq]at h
 omega
theorem Qw3{t:Int→Int→Bool}:Qcb t []=[]:=rfl
theorem Qpw:Qa E0 175 QhW:=by
 refine QE (E:=E0) (T:=mkT Tryz.prog [(163,QO),(202,Qkq),(171,Qg1)] false (fun _=>false) true (fun _=>false)) (Qd (E:=E0) (.cons Qbq (.cons Qem (.cons QpH .nil)))) (fn:=Tryz.f175) Tryz.func175 (by kernel_rfl) rfl Qc (by kernel_rfl) rfl ?_
 intro args p rs ms hr;unfold QhW at hr;dsimp only at hr;split at hr;rotate_left
 ·cases hr
 rename_i n l;cases hr;refine⟨rfl,rfl,nLe rfl,?_⟩
 have hm:=mxE;rintro⟨h1,hn1,hn2⟩ bs;obtain⟨ds,rfl,hx⟩:=h1.ex;clear h1;rw[Qh];cases hv:QF n ds
 ·have e:QcL n ds=[]:=by unfold QcL;rw[hv];rfl
  rw[e];clear e;(repeat' first|refine gA fun _=>?_|apply fkI<;>intro hb<;>try simp only[ew,hv]at hb|simp only[go_sem,simprocAttr, *,hv])
  all_goals first|rfl|skip
 ·have hd:=Qax hv
  obtain⟨n0,n5,_⟩:=Qfz hv;have e:QcL n ds=Qcb QaF (Qtp (2^n.toNat) ds):=by unfold QcL;rw[hv];rfl
  rw[e];obtain⟨c,rfl⟩:=Int.eq_ofNat_of_zero_le (show 0≤n by omega)
  rw[Int.toNat_natCast];have hM2:2^c≤32:=Nat.le_trans (Nat.pow_le_pow_right (by omega) (show c≤5 by omega)) (by decide)
  have hM:1*(2:Int)^c=((2^c:Nat):Int):=by simp
  clear e;generalize 2^c=M at hM2 hM ⊢;(repeat' first|refine gA fun _=>?_|apply fkI<;>intro hb<;>try simp only[ew,Qj,hv]at hb|simp only[go_sem,simprocAttr, *,Qj,hv])
  refine lpI {ι:=Nat,rs:=[(13,30)],mods:=[(6,fun x=> .one (.d (.v (.int .i64 x)))),(5,fun x=> .one (.own 1 (iL ((rng x).filter (kqB M ds))) 1))],boxes:=[],arrs:=[],ok:=fun x=>x≤M,mu:=fun x=>M-x} rfl 0 (Nat.zero_le _) ?_ fun x hx=>?_
  ·exact gQ
  ·dsimp only at x hx
   have l1:=@Qbg (kqB M ds) x
   by_cases h5:x<M
   ·have l2:((rng x).filter (kqB M ds)).length≤32:=by omega
    have eS:=@Qcr (kqB M ds) x
    generalize hZ:(rng x).filter (kqB M ds)=Z at l1 l2 eS;have eq:kqB M ds x=(clo ds x==(M:Int)-1):=rfl
    cases hq:kqB M ds x
    ·rw[hq]at eq eS
     rw[if_neg (by decide),List.append_nil]at eS
     replace eq:=eq.symm;clear hq;(repeat' first|refine gA fun _=>?_|apply fkI<;>intro hb<;>try simp only[ew,hM,Qj,hZ,eq]at hb|simp only[go_sem,simprocAttr, *,Qj])
     refine lpN (x+1) (by dsimp only;omega) (by dsimp only;omega) ?_
     clear eq;(repeat' first|refine gA fun _=>?_|apply fkI<;>intro hb<;>try simp only[ew,eS,hZ]at hb|simp only[go_sem,simprocAttr, *])
    ·rw[hq]at eq eS
     rw[if_pos rfl]at eS;replace eq:=eq.symm;clear hq;(repeat' first|refine gA fun _=>?_|apply fkI<;>intro hb<;>try simp only[ew,hM,Qj,hZ,eq,Qo]at hb|simp only[go_sem,simprocAttr, *,Qj,Qo])
     refine lpN (x+1) (by dsimp only;omega) (by dsimp only;omega) ?_
     clear eq;(repeat' first|refine gA fun _=>?_|apply fkI<;>intro hb<;>try simp only[ew,eS,hZ,Qo]at hb|simp only[go_sem,simprocAttr, *,Qo])
   ·have e5:x=M:=by omega
    subst e5;have l2:((rng x).filter (kqB x ds)).length≤maxLen:=Nat.le_trans l1 (Nat.le_trans hM2 (by decide))
    have e3:(rng x).filter (kqB x ds)=Qtp x ds:=rfl
    rw[e3]at l2;clear hd;(repeat' first|refine gA fun _=>?_|apply fkI<;>intro hb<;>try simp only[ew,hM,Qj,e3]at hb|simp only[go_sem,simprocAttr, *,Qj])
theorem Qpx:Qa E0 131 QhW:=by
 refine QE (E:=E0) (T:=mkT Tryz.prog [(126,QO),(24,Qfs),(127,Qkq),(31,Qg1)] false (fun _=>false) true (fun _=>false)) (Qd (E:=E0) (.cons Qbr (.cons Qf0 (.cons Qb7 (.cons QtF .nil))))) (fn:=Tryz.f131) Tryz.func131 (by kernel_rfl) rfl Qc (by kernel_rfl) rfl ?_
 intro args p rs ms hr;unfold QhW at hr;dsimp only at hr;split at hr;rotate_left
 ·cases hr
 rename_i n l;cases hr;refine⟨rfl,rfl,nLe rfl,?_⟩
 have hm:=mxE;rintro⟨h1,hn1,hn2⟩ bs;obtain⟨ds,rfl,hx⟩:=h1.ex;clear h1;rw[Qh];cases hv:QF n ds
 ·have e:QcL n ds=[]:=by unfold QcL;rw[hv];rfl
  have e2:=@Qw3 QaF
  rw[e];clear e;(repeat' first|refine gA fun _=>?_|apply fkI<;>intro hb<;>try simp only[ew,hv]at hb|simp only[go_sem,simprocAttr, *,hv])
  refine lpI {ι:=Unit,rs:=[(8,29)],mods:=[(6,fun _=> .one (.d (.v (.int .i64 0)))),(5,fun _=> .one (.own 1 (iL []) 1))],boxes:=[],arrs:=[],ok:=fun _=>True,mu:=fun _=>0} rfl () trivial ?_ fun _ _=>?_
  ·(repeat' first|refine gA fun _=>?_|apply fkI<;>intro hb<;>try simp only[ew,hv]at hb|simp only[go_sem,simprocAttr, *,hv])
   all_goals first|rfl|skip
  ·(repeat' first|refine gA fun _=>?_|apply fkI<;>intro hb<;>try simp only[ew,hv,e2]at hb|simp only[go_sem,simprocAttr, *,hv])
   all_goals first|rfl|skip
 ·have hd:=Qax hv
  obtain⟨n0,n5,_⟩:=Qfz hv;have e:QcL n ds=Qcb QaF (Qtp (2^n.toNat) ds):=by unfold QcL;rw[hv];rfl
  rw[e];obtain⟨c,rfl⟩:=Int.eq_ofNat_of_zero_le (show 0≤n by omega)
  rw[Int.toNat_natCast];have hM2:2^c≤32:=Nat.le_trans (Nat.pow_le_pow_right (by omega) (show c≤5 by omega)) (by decide)
  have hM:QcQ c=((2^c:Nat):Int)-1:=by unfold QcQ;rw[Int.toNat_natCast,Int.one_mul];simp
  have hM3:1≤2^c:=Nat.one_le_two_pow
  clear e;generalize 2^c=M at hM2 hM hM3 ⊢;(repeat' first|refine gA fun _=>?_|apply fkI<;>intro hb<;>try simp only[ew,hv]at hb|simp only[go_sem,simprocAttr, *,hv])
  refine lpI {ι:=Nat,rs:=[(8,29)],mods:=[(6,fun x=> .one (.d (.v (.int .i64 x)))),(5,fun x=> .one (.own 1 (iL ((rng x).filter (kqB M ds))) 1))],boxes:=[],arrs:=[],ok:=fun x=>x≤M,mu:=fun x=>M-x} rfl 0 (Nat.zero_le _) ?_ fun x hx=>?_
  ·exact gQ
  ·dsimp only at x hx
   have l1:=@Qbg (kqB M ds) x
   by_cases h5:x<M
   ·have h5':decide ((x:Int)≤(M:Int)-1)=true:=decide_eq_true (by omega)
    have l2:((rng x).filter (kqB M ds)).length≤32:=by omega
    have eS:=@Qcr (kqB M ds) x
    generalize hZ:(rng x).filter (kqB M ds)=Z at l1 l2 eS;have eq:kqB M ds x=(clo ds x==(M:Int)-1):=rfl
    cases hq:kqB M ds x
    ·rw[hq]at eq eS
     rw[if_neg (by decide),List.append_nil]at eS
     replace eq:=eq.symm;clear hq;(repeat' first|refine gA fun _=>?_|apply fkI<;>intro hb<;>try simp only[ew,hv,hM,h5',hZ,eq]at hb|simp only[go_sem,simprocAttr, *,hv])
     refine lpN (x+1) (by dsimp only;omega) (by dsimp only;omega) ?_
     clear eq;(repeat' first|refine gA fun _=>?_|apply fkI<;>intro hb<;>try simp only[ew,eS,hZ]at hb|simp only[go_sem,simprocAttr, *])
    ·rw[hq]at eq eS
     rw[if_pos rfl]at eS;replace eq:=eq.symm;clear hq;(repeat' first|refine gA fun _=>?_|apply fkI<;>intro hb<;>try simp only[ew,hv,hM,h5',hZ,eq,Qo]at hb|simp only[go_sem,simprocAttr, *,hv,Qo])
     refine lpN (x+1) (by dsimp only;omega) (by dsimp only;omega) ?_
     clear eq;(repeat' first|refine gA fun _=>?_|apply fkI<;>intro hb<;>try simp only[ew,eS,hZ,Qo]at hb|simp only[go_sem,simprocAttr, *,Qo])
   ·have e5:x=M:=by omega
    subst e5;have h5':decide ((x:Int)≤(x:Int)-1)=false:=decide_eq_false (by omega)
    have l2:((rng x).filter (kqB x ds)).length≤maxLen:=Nat.le_trans l1 (Nat.le_trans hM2 (by decide))
    have e3:(rng x).filter (kqB x ds)=Qtp x ds:=rfl
    rw[e3]at l2;clear hd;(repeat' first|refine gA fun _=>?_|apply fkI<;>intro hb<;>try simp only[ew,hv,hM,h5',e3]at hb|simp only[go_sem,simprocAttr, *,hv])
def Qm9(ds:List (Int×Int))(r x c:Int):Int:=if Qt x c&&Qt (clo ds (Qdc x c)) r then Qdc x c else x
def QuU(ds:List (Int×Int))(r x:Int)(l:List Int):Int:=l.foldl (Qm9 ds r) x
def Qrh(ds:List (Int×Int))(r x:Int):Nat→Int
 | 0=>x
 | k+1=>Qm9 ds r (Qrh ds r x k) (k:Nat)
theorem Qx4{ds:List (Int×Int)}{r x c:Int}(hx:R5 x)(hc:0≤c∧c≤4):R5 (Qm9 ds r x c):=by
 unfold Qm9;split
 ·exact QCQ hx hc
 ·exact hx
theorem QAa{ds:List (Int×Int)}{r x c:Int}(hx:R5 x)(hc:0≤c∧c≤4):Qm9 ds r x c≤x:=by
 unfold Qm9;split
 ·exact(QgN hx hc).2
 ·exact Int.le_refl _
theorem QpZ{ds:List (Int×Int)}{r x c e:Int}(hx:R5 x)(hc:0≤c∧c≤4)(he:0≤e∧e≤4)(hne:e≠c):Qt (Qm9 ds r x c) e=Qt x e:=by
 unfold Qm9;split
 ·rw[QnD hx hc he,beq_eq_false_iff_ne.2 hne];simp
 ·rfl
theorem QeB{ds:List (Int×Int)}{r x:Int}(hx:R5 x):∀{k:Nat},k≤5→R5 (Qrh ds r x k)∧Qrh ds r x k≤x∧∀e:Int,(k:Int)≤e→e≤4→Qt (Qrh ds r x k) e=Qt x e
 | 0,_=>⟨hx,Int.le_refl _,fun _ _ _=>rfl⟩
 | k+1,h=>by
  obtain⟨h1,h2,h3⟩:=QeB (ds:=ds) (r:=r) hx (k:=k) (by omega)
  have hc:0≤(k:Int)∧(k:Int)≤4:=⟨by omega,by omega⟩
  refine⟨Qx4 h1 hc,Int.le_trans (QAa h1 hc) h2,fun e he he4=>?_⟩
  rw[Qrh,QpZ h1 hc ⟨by omega,he4⟩ (by omega),h3 e (by omega) he4]
theorem Qp0{ds:List (Int×Int)}{r x:Int}(hx:R5 x):∀{k:Nat},k≤5→QuU ds r x (Qdd x k)=Qrh ds r x k
 | 0,_=>rfl
 | k+1,h=>by
  have ih:=Qp0 (ds:=ds) (r:=r) hx (k:=k) (by omega)
  unfold QuU at *;rw[Qdd,List.foldl_append,ih,Qrh];split
  ·rfl
  ·rename_i hh
   have:=(QeB (ds:=ds) (r:=r) hx (k:=k) (by omega)).2.2 (k:Nat) (Int.le_refl _) (by omega)
   unfold Qm9;rw[this];simp[hh]
theorem QjZ{x:Int}:∀{k:Nat},(Qdd x k).Nodup
 | 0=>by simp[Qdd]
 | k+1=>by
  rw[Qdd,List.nodup_append];refine⟨QjZ,by split<;>simp,fun a ha b hb=>?_⟩
  have:=Qew a ha
  split at hb
  ·rw[List.mem_singleton]at hb;omega
  ·cases hb
theorem Qrg{ds:List (Int×Int)}{r x:Int}(hx:R5 x):∀{l:List Int},(∀c∈l,0≤c∧c≤4)→R5 (QuU ds r x l)∧∀e:Int,0≤e→e≤4→e∉l→Qt (QuU ds r x l) e=Qt x e:=by
 intro l;suffices H:∀(l:List Int) (y:Int),R5 y→(∀c∈l,0≤c∧c≤4)→R5 (l.foldl (Qm9 ds r) y)∧∀e:Int,0≤e→e≤4→e∉l→Qt (l.foldl (Qm9 ds r) y) e=Qt y e from H l x hx
 intro l;induction l with
 | nil=>intro y hy _;exact⟨hy,fun _ _ _ _=>rfl⟩
 | cons c l ih=>
  intro y hy hl;have hc:=hl c (by simp)
  obtain⟨i1,i2⟩:=ih (Qm9 ds r y c) (Qx4 hy hc) fun c hc=>hl c (by simp[hc])
  refine⟨i1,fun e h0 h4 hm=>?_⟩
  rw[List.foldl_cons,i2 e h0 h4 (fun h=>hm (by simp[h])),QpZ hy hc ⟨h0,h4⟩ (fun h=>hm (by simp[h]))]
def QmH(n:Int)(ds:List (Int×Int))(d:Int×Int):Int×Int:=if QjS n ds d.1 d.2 then(Qrh ds d.2 d.1 5,d.2)else d
def Qxx:Qb:=⟨[],false,fun
 | [.one (.v (.int .i64 n)),.one (.sl 2 l),.agg [.v (.int .i64 a),.v (.int .i64 b)]]=>some (WfD l∧ -9223372036854775808≤n∧n≤9223372036854775807,
   [⟨true,[.d (.v (.int .i64 (QmH n (unD l) (a,b)).1)),.d (.v (.int .i64 (QmH n (unD l) (a,b)).2))]⟩],[])
 | _=>none⟩
attribute [local go_sem] Qxx
theorem QAd:Qa E0 129 Qxx:=by
 refine QE (E:=E0) (T:=mkT Tryz.prog [(84,QlQ),(127,Qkq)] false (fun _=>false) true (fun _=>false)) (Qd (E:=E0) (.cons QkP (.cons Qb7 .nil))) (fn:=Tryz.f129) Tryz.func129 (by kernel_rfl) rfl Qc (by kernel_rfl) rfl ?_
 intro args p rs ms hr;unfold Qxx at hr;dsimp only at hr;split at hr;rotate_left
 ·cases hr
 rename_i n l a b;cases hr;refine⟨rfl,rfl,nLe rfl,?_⟩
 have hm:=mxE;rintro⟨h1,hn1,hn2⟩ bs;obtain⟨ds,rfl,hx⟩:=h1.ex;clear h1;rw[Qh];cases hv:QjS n ds a b
 ·have e:QmH n ds (a,b)=(a,b):=by unfold QmH;rw[hv];rfl
  rw[e];clear e;(repeat' first|refine gA fun _=>?_|apply fkI<;>intro hb<;>try simp only[ew,hv]at hb|simp only[go_sem,simprocAttr, *,hv])
  all_goals first|rfl|exact⟨rfl,rfl⟩|skip
 ·have e:QmH n ds (a,b)=(Qrh ds b a 5,b):=by unfold QmH;rw[hv];rfl
  rw[e];clear e;have hv2:=hv
  simp only[QjS,Bool.and_eq_true]at hv2
  have hd:=Qax hv2.1.1
  obtain⟨⟨a1,a2⟩,b1,b2⟩:=Qas hv2.1.2;clear hv2;have hN:=fun k hk=>@QeB ds b a ⟨a1,a2⟩ k hk
  (repeat' first|refine gA fun _=>?_|apply fkI<;>intro hb<;>try simp only[ew,hv]at hb|simp only[go_sem,simprocAttr, *,hv])
  refine lpI {ι:=Nat,rs:=[(8,9),(15,40)],mods:=[(7,fun k=> .one (.d (.v (.int .i64 k))))],boxes:=[(5,fun k=>[.d (.v (.int .i64 (Qrh ds b a k))),.d (.v (.int .i64 b))]),(6,fun _=>[.d (.v (.int .i64 0)),.d (.v (.int .i64 0))])],arrs:=[],ok:=fun k=>k≤5,mu:=fun k=>5-k} rfl 0 (Nat.zero_le _) ?_ fun k hk=>?_
  ·exact gQ
  ·dsimp only at k hk
   by_cases h5:k<5
   ·have hp:=p5 (c:=k) h5
    have h5':decide ((k:Int)<5)=true:=decide_eq_true (by omega)
    obtain⟨⟨y0,y31⟩,_,_⟩:=hN k hk;have e1:Qrh ds b a (k+1)=Qm9 ds b (Qrh ds b a k) (k:Nat):=rfl
    generalize hy:Qrh ds b a k=y at y0 y31 e1;have hk4:0≤(k:Int)∧(k:Int)≤4:=⟨by omega,by omega⟩
    obtain⟨z0,z1⟩:=QgN (x:=y) ⟨y0,y31⟩ hk4;have en:=QBq (x:=y) ⟨y0,y31⟩ hk4
    have ed:Q6 .andNot .i64 y (1*2^k)=Qdc y k:=by unfold Qdc;rw[Int.toNat_natCast]
    have hcl:=Qnx hd (show R5 (Qdc y k)from⟨z0,by omega⟩)
    have eh:(Q6 .and .i64 ((clo ds (Qdc y k)).fdiv (2^b.toNat)) 1==1)=Qt (clo ds (Qdc y k)) b:=rfl
    unfold Qm9 at e1;cases hq:(Qt y k&&Qt (clo ds (Qdc y k)) b)
    ·rw[hq,if_neg (by decide)]at e1
     clear hN;(repeat' first|refine gA fun _=>?_|apply fkI<;>intro hb<;>try simp only[ew,Qj,hy,ed,en,eh,hq]at hb|simp only[go_sem,simprocAttr, *,Qj,hq])
     refine lpN (k+1) (by dsimp only;omega) (by dsimp only;omega) ?_
     (repeat' first|refine gA fun _=>?_|apply fkI<;>intro hb<;>try simp only[ew,hy,e1]at hb|simp only[go_sem,simprocAttr, *])
    ·rw[hq,if_pos rfl]at e1
     clear hN;(repeat' first|refine gA fun _=>?_|apply fkI<;>intro hb<;>try simp only[ew,Qj,hy,ed,en,eh,hq]at hb|simp only[go_sem,simprocAttr, *,Qj,hq])
     refine lpN (k+1) (by dsimp only;omega) (by dsimp only;omega) ?_
     (repeat' first|refine gA fun _=>?_|apply fkI<;>intro hb<;>try simp only[ew,hy,e1]at hb|simp only[go_sem,simprocAttr, *])
   ·have e5:k=5:=by omega
    subst e5;clear hN;(repeat' first|refine gA fun _=>?_|apply fkI<;>intro hb<;>try simp only[ew]at hb|simp only[go_sem,simprocAttr, *])
    all_goals first|rfl|exact⟨rfl,rfl⟩|skip
theorem QAc:Qa E0 172 Qxx:=by
 refine QE (E:=E0) (T:=mkT Tryz.prog [(109,QlQ),(97,Qlu),(164,Qi6)] false (fun _=>false) true (fun d=>d==24||d==29)) (Qd (E:=E0) (.cons QnP (.cons Qix (.cons QkO .nil)))) (fn:=Tryz.f172) Tryz.func172 (by kernel_rfl) rfl Qc (by kernel_rfl) rfl ?_
 intro args p rs ms hr;unfold Qxx at hr;dsimp only at hr;split at hr;rotate_left
 ·cases hr
 rename_i n l a b;cases hr;refine⟨rfl,rfl,nLe rfl,?_⟩
 have hm:=mxE;rintro⟨h1,hn1,hn2⟩ bs;obtain⟨ds,rfl,hx⟩:=h1.ex;clear h1;rw[Qh];cases hv:QjS n ds a b
 ·have e:QmH n ds (a,b)=(a,b):=by unfold QmH;rw[hv];rfl
  rw[e];clear e;(repeat' first|refine gA fun _=>?_|apply fkI<;>intro hb<;>try simp only[ew,hv]at hb|simp only[go_sem,simprocAttr, *,hv])
  all_goals first|rfl|exact⟨rfl,rfl⟩|skip
 ·have hv2:=hv
  simp only[QjS,Bool.and_eq_true]at hv2
  have hd:=Qax hv2.1.1
  obtain⟨⟨a1,a2⟩,b1,b2⟩:=Qas hv2.1.2;have ha:Ql 5 a=true:=by
   simp only[Ql,Bool.and_eq_true,Qi,QcQ]
   exact⟨⟨by decide,by decide⟩,a1,a2⟩
  have hm:mem a=Qdd a 5:=by unfold mem;rw[ha];rfl
  have e:QmH n ds (a,b)=(QuU ds b a (mem a),b):=by unfold QmH;rw[hv,hm,Qp0 ⟨a1,a2⟩ (by omega)];rfl
  rw[e];clear e hv2;have hr:∀c∈mem a,0≤c∧c≤4:=fun c hc=>by
   rw[hm]at hc;have:=Qew c hc
   omega
  have hnd:(mem a).Nodup:=by rw[hm];exact QjZ
  have hhas:∀c∈mem a,Qt a c=true:=fun c hc=>by
   rw[hm]at hc;have:∀k:Nat,c∈Qdd a k→Qt a c=true:=by
    intro k;induction k with
    | zero=>intro h;cases h
    | succ k ih=>
     intro h;rw[Qdd]at h;rcases List.mem_append.1 h with h|h
     ·exact ih h
     ·split at h
      ·rename_i hh
       rw[List.mem_singleton]at h;rw[h];exact hh
      ·cases h
   exact this 5 hc
  have hl:=@Qd8 a
  clear ha hm;generalize hm:mem a=m at hr hnd hhas hl ⊢;have hN:=fun i=>@Qrg ds b a ⟨a1,a2⟩ (m.take i) fun c hc=>hr c (List.mem_of_mem_take hc)
  have hl2:m.length≤maxLen:=Nat.le_trans hl (by decide)
  (repeat' first|refine gA fun _=>?_|apply fkI<;>intro hb<;>try simp only[ew,hv,hm]at hb|simp only[go_sem,simprocAttr, *,hv])
  refine lpI {ι:=Nat,rs:=[(8,10),(21,37)],mods:=[(20,fun i=> .one (.d (.v (.int .i64 i))))],boxes:=[(5,fun i=>[.d (.v (.int .i64 (QuU ds b a (m.take i)))),.d (.v (.int .i64 b))]),(6,fun _=>[.d (.v (.int .i64 0)),.d (.v (.int .i64 0))])],arrs:=[(18,fun _=>(1,iL m,1))],ok:=fun i=>i≤m.length,mu:=fun i=>m.length-i} rfl 0 (Nat.zero_le _) ?_ fun i hi=>?_
  ·clear hN
   (repeat' first|refine gA fun _=>?_|apply fkI<;>intro hb<;>try simp only[ew,hm]at hb|simp only[go_sem,simprocAttr, *])
   all_goals first|rfl|skip
  ·dsimp only at i hi
   by_cases h5:i<m.length
   ·have hmem:=QP h5 0
    obtain⟨⟨y0,y31⟩,hb⟩:=hN i;have hk4:=hr _ hmem
    have hnot:m.getD i 0∉m.take i:=by
     intro h;obtain⟨j,hj,e⟩:=List.getElem_of_mem h;rw[List.getElem_take]at e;have hj2:j<i:=by rw[List.length_take]at hj;omega
     have e2:m.getD i 0=m[i]:=by simp[List.getD_eq_getElem?_getD,h5]
     rw[e2]at e;exact(List.pairwise_iff_getElem.1 hnd) j i (by omega) h5 hj2 e
    have hhb:=hb _ hk4.1 hk4.2 hnot
    rw[hhas _ hmem]at hhb;have e1:QuU ds b a (m.take (i+1))=Qm9 ds b (QuU ds b a (m.take i)) (m.getD i 0):=by unfold QuU;rw[Qf h5 0,List.foldl_append];rfl
    generalize hy:QuU ds b a (m.take i)=y at y0 y31 e1 hhb;generalize hc:m.getD i 0=c at hk4 e1 hhb;obtain⟨c0,c4⟩:=hk4;have hp:=QAp ⟨c0,c4⟩
    obtain⟨z0,z1⟩:=QgN (x:=y) ⟨y0,y31⟩ ⟨c0,c4⟩;have ed:Q6 .andNot .i64 y (1*2^c.toNat)=Qdc y c:=rfl
    unfold Qm9 at e1;rw[hhb,Bool.true_and]at e1;clear hN hb hr hnd hhas hmem hnot hhb;cases hq:Qt (clo ds (Qdc y c)) b
    ·rw[hq,if_neg (by decide)]at e1
     (repeat' first|refine gA fun _=>?_|apply fkI<;>intro hb<;>try simp only[ew,Qj,hy,hc,ed,hq]at hb|simp only[go_sem,simprocAttr, *,Qj,hq])
     refine lpN (i+1) (by dsimp only;omega) (by dsimp only;omega) ?_
     (repeat' first|refine gA fun _=>?_|apply fkI<;>intro hb<;>try simp only[ew,hy,e1]at hb|simp only[go_sem,simprocAttr, *])
    ·rw[hq,if_pos rfl]at e1
     (repeat' first|refine gA fun _=>?_|apply fkI<;>intro hb<;>try simp only[ew,Qj,hy,hc,ed,hq]at hb|simp only[go_sem,simprocAttr, *,Qj,hq])
     refine lpN (i+1) (by dsimp only;omega) (by dsimp only;omega) ?_
     (repeat' first|refine gA fun _=>?_|apply fkI<;>intro hb<;>try simp only[ew,hy,e1]at hb|simp only[go_sem,simprocAttr, *])
   ·have e5:i=m.length:=by omega
    subst e5;have e6:m.take m.length=m:=List.take_length
    clear hN hr hnd hhas;(repeat' first|refine gA fun _=>?_|apply fkI<;>intro hb<;>try simp only[ew,e6]at hb|simp only[go_sem,simprocAttr, *])
    all_goals first|rfl|exact⟨rfl,rfl⟩|skip
def wo(ds:List (Int×Int))(i:Nat):List (Int×Int):=ds.take i++ds.drop (i+1)
def cWo:Qb:=⟨[],false,fun
 | [.one (.sl 2 l),.one (.v (.int .i64 i))]=>some (WfD l∧l.length≤16777216∧0≤i∧i<l.length,[⟨false,[.own 2 (dL (wo (unD l) i.toNat)) 1]⟩],[])
 | _=>none⟩
attribute [local go_sem] cWo
theorem QCq:Qa E0 174 cWo:=by
 refine QE (E:=E0) (T:=mkT Tryz.prog [(108,Qdz)] false (fun _=>false) true (fun _=>false)) (Qd (E:=E0) (.cons Qfw .nil)) (fn:=Tryz.f174) Tryz.func174 (by kernel_rfl) rfl Qc (by kernel_rfl) rfl ?_
 intro args p rs ms hr;unfold cWo at hr;dsimp only at hr;split at hr;rotate_left
 ·cases hr
 rename_i l i;cases hr;refine⟨rfl,rfl,nLe rfl,?_⟩
 have hm:=mxE;rintro⟨h1,h2,h3,h4⟩ bs;obtain⟨ds,rfl,hx⟩:=h1.ex;clear h1;rw[Qe]at h2 h4;rw[Qh];obtain⟨i,rfl⟩:=Int.eq_ofNat_of_zero_le h3;rw[Int.toNat_natCast];have h4':i<ds.length:=by omega
 have e:((i:Int)+1).toNat=i+1:=by omega
 have e2:ds.take i++ds.drop (i+1)=wo ds i:=rfl
 (repeat' first|refine gA fun _=>?_|apply fkI<;>intro hb<;>try simp only[ew,e,QkA,Qkz,QoT,e2,List.take_length,List.length_drop]at hb|simp only[go_sem,simprocAttr, *,QkA,Qkz,QoT,List.take_length,List.length_drop])
theorem QCr:Qa E0 130 cWo:=by
 refine QE (E:=E0) (T:=mkT Tryz.prog [] false (fun _=>false) true (fun _=>false)) (Qd (E:=E0) .nil) (fn:=Tryz.f130) Tryz.func130 (by kernel_rfl) rfl Qc (by kernel_rfl) rfl ?_
 intro args p rs ms hr;unfold cWo at hr;dsimp only at hr;split at hr;rotate_left
 ·cases hr
 rename_i l i;cases hr;refine⟨rfl,rfl,nLe rfl,?_⟩
 have hm:=mxE;rintro⟨h1,h2,h3,h4⟩ bs;obtain⟨ds,rfl,hx⟩:=h1.ex;clear h1;rw[Qe]at h2 h4;rw[Qh];obtain⟨i,rfl⟩:=Int.eq_ofNat_of_zero_le h3;rw[Int.toNat_natCast];have h4':i<ds.length:=by omega
 have e:((i:Int)+1).toNat=i+1:=by omega
 have e2:ds.take i++ds.drop (i+1)=wo ds i:=rfl
 (repeat' first|refine gA fun _=>?_|apply fkI<;>intro hb<;>try simp only[ew,e,QkA,Qkz,QoT,e2,List.take_length,List.length_drop]at hb|simp only[go_sem,simprocAttr, *,QkA,Qkz,QoT,List.take_length,List.length_drop])
end Go.Own
