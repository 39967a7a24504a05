/- Contracts. Conditions: as stated. -/
import Derived.Test.YtnmkpepdacbfaaaGreatDoorRp19
set_option linter.all false
set_option maxRecDepth 20000
set_option maxHeartbeats 2000000
namespace Go.Own
open Go Go.Proofs
attribute [local go_sem] Qom Tryz.results65 Tryz.results29 QtB Tryz.results186 QA QcM Qy7 Tryz.results141 QdB Qke Tryz.results13 Qh Qg Qae Qag Qaf Qaj Qa7 Qd1 Qv Qa6
def QuU(p:Int→Int→Bool)(r x:Int):Nat→Bool
 | 0=>true
 | k+1=>QuU p r x k&& !(Qu x (k:Nat)&&p (Qdv x (k:Nat)) r)
def Qnj(p:Int→Int→Bool)(n:Nat)(r x:Int):Bool:= !Qu x r&&p x r&&QuU p r x n
theorem QeP{p:Int→Int→Bool}{r x:Int}:∀{k:Nat},QuU p r x k=true↔∀i:Nat,i<k→Qu x (i:Nat)=true→p (Qdv x (i:Nat)) r=false
 | 0=>by simp[QuU]
 | k+1=>by
  rw[QuU,KB,@QeP p r x k,Ko];constructor
  ·rintro⟨h1,h2⟩ i hi hb
   by_cases e:i=k
   ·subst e
    rw[hb,KY]at h2;exact h2
   ·exact h1 i (by omega) hb
  ·intro h
   refine⟨fun i hi hb=>h i (by omega) hb,?_⟩
   cases hq:Qu x (k:Nat)
   ·rfl
   ·rw[h k (by omega) hq];rfl
theorem Qsq{p:Int→Int→Bool}{r x:Int}{k n:Nat}(h:k<n)(hq:Qu x (k:Nat)=true)(hp:p (Qdv x (k:Nat)) r=true):QuU p r x n=false:=by
 rw[←KS,QeP];intro h2;rw[h2 k h hq]at hp;cases hp
theorem Qg6:∀n:Fin 6,(pbs n.val).Pairwise (fun a b=>(Qab b a&& !(b==a))=false)∧(pbs n.val).Nodup∧∀x∈pbs n.val,∀i:Fin 5,Qdv x ((i.val:Nat):Int)∈pbs n.val:=by decide+kernel
theorem Qll:∀x:Fin 32,∀i:Fin 5,Qab (Qdv ((x.val:Nat):Int) ((i.val:Nat):Int)) ((x.val:Nat):Int)=true∧(Qu ((x.val:Nat):Int) ((i.val:Nat):Int)=true→Qdv ((x.val:Nat):Int) ((i.val:Nat):Int)<((x.val:Nat):Int)):=by decide+kernel
theorem QiM:∀x y:Fin 32,Qab ((y.val:Nat):Int) ((x.val:Nat):Int)=true→y≠x→∃i:Fin 5,Qu ((x.val:Nat):Int) ((i.val:Nat):Int)=true∧Qab ((y.val:Nat):Int) (Qdv ((x.val:Nat):Int) ((i.val:Nat):Int))=true:=by decide+kernel
theorem Qtq:∀n:Fin 6,∀x:Fin 32,∀i:Fin 5,x.val<2^n.val→Qu ((x.val:Nat):Int) ((i.val:Nat):Int)=true→i.val<n.val:=by decide+kernel
theorem Qcp{x y z:Int}(hx:R5 x)(hy:R5 y)(hz:R5 z)(h1:Qab x y=true)(h2:Qab y z=true):Qab x z=true:=
 (Qaq hx hz).2 (leB.trans ((Qaq hx hy).1 h1) ((Qaq hy hz).1 h2))
theorem Qi0{x:Int}(hx:R5 x):Qab x x=true:=(Qaq hx hx).2 (leB.refl x)
section
variable {p:Int→Int→Bool} {n:Nat} {r:Int}
theorem QaW(hn:n≤5):Q8 (n:Nat)=pbs n:=by
 unfold Q8;rw[if_pos (Qj.2 ⟨by omega,by omega⟩),KE]
theorem Qkn(hn:n≤5)(hr:0≤r∧r≤4):∀{k:Nat} {z:Int},z∈Q8 (n:Nat)→z.toNat≤k→p z r=true→Qu z r=false→∃y∈Q8 (n:Nat),Qab y z=true∧Qnj p n r y=true:=by
 intro k;induction k with
 | zero=>
  intro z hz hk hp hb;obtain⟨z0,z31⟩:=(@QH (n:Nat)).2.1 z hz;have e:z=0:=by omega
  subst e;refine⟨0,hz,Qi0 ⟨by omega,by omega⟩,?_⟩
  unfold Qnj;rw[hb,hp,YU,KY,KY,QeP];intro i hi h;have h2:Qdv 0 ((i:Nat):Int)<0:=(Qll ⟨0,by omega⟩ ⟨i,by omega⟩).2 h
  have h3:=(Qhl (x:=0) (c:=(i:Nat)) ⟨by omega,by omega⟩ ⟨by omega,by omega⟩).1
  omega
 | succ k ih=>
  intro z hz hk hp hb;obtain⟨z0,z31⟩:=(@QH (n:Nat)).2.1 z hz;cases hl:QuU p r z n
  ·rw[←KS,QeP]at hl
   have:∃i:Nat,i<n∧Qu z (i:Nat)=true∧p (Qdv z (i:Nat)) r=true:=by
    apply Classical.byContradiction
    intro hne;refine hl fun i hi hb=>?_
    rw[←KS];intro hp2;exact hne ⟨i,hi,hb,hp2⟩
   obtain⟨i,hi,hbi,hpi⟩:=this;have hds:=Qll ⟨z.toNat,by omega⟩ ⟨i,by omega⟩
   dsimp only at hds;rw[show((z.toNat:Nat):Int)=z by omega]at hds
   have hlt:=hds.2 hbi
   have hge:=(Qhl (x:=z) (c:=(i:Nat)) ⟨z0,z31⟩ ⟨by omega,by omega⟩).1
   have hmem:Qdv z (i:Nat)∈Q8 (n:Nat):=by
    rw[QaW hn]at hz ⊢;exact(Qg6 ⟨n,by omega⟩).2.2 z hz ⟨i,by omega⟩
   have hbr:Qu (Qdv z (i:Nat)) r=false:=by
    rw[QoC ⟨z0,z31⟩ ⟨by omega,by omega⟩ hr,hb,KT]
   obtain⟨y,y1,y2,y3⟩:=ih hmem (by omega) hpi hbr
   obtain⟨yy0,yy31⟩:=(@QH (n:Nat)).2.1 y y1;exact⟨y,y1,Qcp ⟨yy0,yy31⟩ ⟨hge,by omega⟩ ⟨z0,z31⟩ y2 hds.1,y3⟩
  ·refine⟨z,hz,Qi0 ⟨z0,z31⟩,?_⟩
   unfold Qnj;rw[hb,hp,hl];rfl
theorem Qyn(hn:n≤5)(hr:0≤r∧r≤4)(mono:∀x∈Q8 (n:Nat),∀y∈Q8 (n:Nat),Qab x y=true→p x r=true→p y r=true):QjG p r [] (Q8 (n:Nat))=(Q8 (n:Nat)).filter (Qnj p n r):=by
 have hR:=(@QH (n:Nat)).2.1
 have hord:(Q8 (n:Nat)).Pairwise (fun a b=>(Qab b a&& !(b==a))=false):=by rw[QaW hn];exact(Qg6 ⟨n,by omega⟩).1
 have hnd:(Q8 (n:Nat)).Nodup:=by rw[QaW hn];exact(Qg6 ⟨n,by omega⟩).2.1
 have hdel:∀x∈Q8 (n:Nat),∀i:Nat,i<5→Qdv x (i:Nat)∈Q8 (n:Nat):=by
  rw[QaW hn];intro x hx i hi;exact(Qg6 ⟨n,by omega⟩).2.2 x hx ⟨i,hi⟩
 have hlt:∀x∈Q8 (n:Nat),x<2^n:=by
  rw[QaW hn];intro x hx;exact((QlX ⟨n,by omega⟩).2 x hx).2
 have hex:=fun z=>@Qkn p n r hn hr z.toNat z
 suffices H:∀post pre,pre++post=Q8 (n:Nat)→QjG p r (pre.filter (Qnj p n r)) post=(Q8 (n:Nat)).filter (Qnj p n r)from H _ [] rfl
 intro post;induction post with
 | nil=>
  intro pre e;rw[KM]at e;rw[e];rfl
 | cons x post ih=>
  intro pre e;have hx:x∈Q8 (n:Nat):=by rw[←e];simp
  have hxR:=hR x hx
  have hc:(!Qu x r&& !Qbc (pre.filter (Qnj p n r)) x&&p x r)=Qnj p n r x:=by
   rw[Kp,show Qnj p n r x=(!Qu x r&&p x r&&QuU p r x n)from rfl]
   simp only[KB,Ko,QeP]
   constructor
   ·rintro⟨⟨h1,h2⟩,h3⟩
    refine⟨⟨h1,h3⟩,fun i hi hb=>?_⟩
    rw[←KS];intro hp;have hds:=Qll ⟨x.toNat,by omega⟩ ⟨i,by omega⟩
    dsimp only at hds;rw[show((x.toNat:Nat):Int)=x by omega]at hds
    have hlt:=hds.2 hb
    have hbr:Qu (Qdv x (i:Nat)) r=false:=by
     rw[QoC hxR ⟨by omega,by omega⟩ hr,h1,KT]
    have hdm:=hdel x hx i (by omega)
    obtain⟨y,y1,y2,y3⟩:=hex _ hdm (KP _) hp hbr;have hyR:=hR y y1
    have hdR:=hR _ hdm
    have hyx:Qab y x=true:=Qcp hyR hdR hxR y2 hds.1
    have hle:=QuF hyR hdR y2
    have hne:(y==x)=false:=by rw[KU];omega
    have hyp:y∈pre:=by
     rw[←e]at y1;rcases KG.1 y1 with h|h
     ·exact h
     ·rcases KI.1 h with h|h
      ·subst h
       rw[beq_self_eq_true]at hne;cases hne
      ·rw[←e,List.pairwise_append,YZ]at hord
       have:=hord.2.1.1 y h
       rw[hyx,hne]at this;cases this
    have:Qbc (pre.filter (Qnj p n r)) x=true:=by
     unfold Qbc;exact List.any_eq_true.2 ⟨y,Ku.2 ⟨hyp,y3⟩,hyx⟩
    rw[h2]at this;cases this
   ·rintro⟨⟨h1,h3⟩,h2⟩
    refine⟨⟨h1,?_⟩,h3⟩
    rw[←KS];intro ha;unfold Qbc at ha;obtain⟨t,t1,t2⟩:=List.any_eq_true.1 ha;rw[Ku]at t1;obtain⟨t1,t3⟩:=t1;have htL:t∈Q8 (n:Nat):=by rw[←e];simp[t1]
    have htR:=hR t htL
    have hne:t≠x:=by
     intro h;subst h;rw[←e,Km]at hnd;exact hnd.2.2 t t1 t (by simp) rfl
    obtain⟨i,i1,i2⟩:=QiM ⟨x.toNat,by omega⟩ ⟨t.toNat,by omega⟩ (by dsimp only;rw[show((x.toNat:Nat):Int)=x by omega,show((t.toNat:Nat):Int)=t by omega];exact t2) (by intro h;rw[Fin.mk.injEq]at h;omega)
    dsimp only at i1 i2;rw[show((x.toNat:Nat):Int)=x by omega]at i1 i2
    rw[show((t.toNat:Nat):Int)=t by omega]at i2
    have hin:i.val<n:=by
     have h1:=hlt x hx
     refine Qtq ⟨n,by omega⟩ ⟨x.toNat,by omega⟩ i ?_ ?_
     ·dsimp only
      have:((2^n:Nat):Int)=(2:Int)^n:=by simp
      omega
     ·dsimp only
      rw[show((x.toNat:Nat):Int)=x by omega]
      exact i1
    unfold Qnj at t3;simp only[KB]at t3
    have:=mono t htL _ (hdel x hx i.val i.isLt) i2 t3.1.2
    rw[h2 i.val hin i1]at this;cases this
  rw[QjG,hc,←ih (pre++[x]) (by rw[Kn];exact e),List.filter_append,List.filter_cons,List.filter_nil]
  split
  ·rfl
  ·rw[KM]
end
theorem QlQ{p:Int→Int→Bool}{n:Nat}{r:Int}(hn:n≤5)(hr:0≤r∧r≤4)(mono:∀x∈Q8 (n:Nat),∀y∈Q8 (n:Nat),Qab x y=true→p x r=true→p y r=true):Qss p n r=((Q8 (n:Nat)).filter (Qnj p n r)).map fun x=>(x,r):=by
 unfold Qss;rw[Qyn hn hr mono]
theorem Qtn{X x y r:Int}(hX:R5 X)(hx:R5 x)(hy:R5 y)(hr:0≤r∧r≤4)(h:Qab x y=true)(hb:Qtm X y r=true):Qtm X x r=true:=by
 rw[←Qmz hX hy hr]at hb;rw[←Qmz hX hx hr];unfold QCM at *;rw[KB]at hb ⊢;exact⟨Qcp hx hy hX h hb.1,hb.2⟩
theorem Qp6{rs:List (List Int)}{c:Nat}{m x y r:Int}{i:Nat}(h:∀k,dpC rs c m y r i k=true→dpC rs c m x r i k=true):∀{k f:Nat},dpK rs c m x r i k f=none→dpK rs c m y r i k f=none
 | k,0,_=>rfl
 | k,f+1,hx=>by
  rw[dpK]at hx ⊢;split at hx
  ·cases hx
  ·rename_i h1
   rw[if_neg (fun h2=>h1 (h k h2))]
   exact Qp6 h hx
theorem Qp5{rs:List (List Int)}{c:Nat}{m x y r:Int}(h:∀i k,dpC rs c m y r i k=true→dpC rs c m x r i k=true):∀{i f:Nat},dpI rs c m x r i f=none→dpI rs c m y r i f=none
 | i,0,_=>rfl
 | i,f+1,hx=>by
  rw[dpI]at hx ⊢;split at hx
  ·cases hx
  ·rename_i h1
   rw[Qp6 (h i) h1];exact Qp5 h hx
theorem Qrp{c:Int}{rs:List (List Int)}(h:QP c rs=true):∃n:Nat,c=n∧1≤n∧n≤5:=by
 obtain⟨n,e,h1,h2,_⟩:=QQ h;exact⟨n,e,h1,h2⟩
theorem Qqm{c:Nat}{rs:List (List Int)}{m r:Int}(hc:c≤5):∀x∈Q8 (c:Nat),∀y∈Q8 (c:Nat),Qab x y=true→hdB c rs m x r=true→hdB c rs m y r=true:=by
 intro x hx y hy h hp;have hxR:=(@QH (c:Nat)).2.1 x hx
 have hyR:=(@QH (c:Nat)).2.1 y hy
 unfold hdB at *;rw[KB]at hp ⊢;obtain⟨h1,h2⟩:=hp;have hr:=(Qdc h1).2.2
 constructor
 ·unfold QaY at *
  simp only[KB,QO,Ql,Qj]at h1 ⊢
  refine⟨h1.1,⟨h1.2.1.1,h1.2.1.2.1,hyR.1,?_⟩,h1.2.2⟩
  rw[QaW hc]at hy;have:=((QlX ⟨c,by omega⟩).2 y hy).2
  dsimp only at this;unfold Qc7;rw[KE,Int.one_mul];omega
 ·rw[Option.isNone_iff_eq_none]at h2 ⊢
  unfold wtO at *;refine Qp5 (fun i k hb=>?_) h2
  unfold dpC at *;exact Qtn (Qbq (by rw[KE];exact hc)) hxR hyR hr h hb
theorem QBP:∀{w:Option (Nat×Nat)},decide ((prI w).1<0)=w.isNone
 | none=>rfl
 | some (i,k)=>KW (by simp only[prI];omega)
def Qw1:Qb:=⟨[],false,fun
 | [.agg [.v (.int .i64 c),.sl 1 t],.one (.v (.int .i64 m)),.agg [.v (.int .i64 l),.v (.int .i64 r)]]=>some (WfS t∧QaY c (unS t) m l r=true,[⟨false,[.d (.v (.bool (Qnj (hdB c (unS t) m) c.toNat r l)))]⟩],[])
 | _=>none⟩
attribute [local go_sem] Qw1
def Qw0:Qb:=⟨[],false,fun
 | [.agg [.v (.int .i64 c),.sl 1 t],.one (.v (.int .i64 m)),.agg [.v (.int .i64 l),.v (.int .i64 r)]]=>some (WfS t∧QaY c (unS t) m l r=true,[⟨false,[.d (.v (.bool (hdB c (unS t) m l r)))]⟩],[])
 | _=>none⟩
attribute [local go_sem] Qw0
theorem QBd:Qa E0 65 Qw0:=by
 refine QG (E:=E0) (T:=mkT Tryz.prog [(117,Qom)] false (fun _=>false) true (fun _=>false)) (Qd (E:=E0) (.cons Qvs .nil)) (fn:=Tryz.f65) Tryz.func65 kR rfl Qc kR rfl ?_
 intro args p rs ms hr;unfold Qw0 at hr;dsimp only at hr;split at hr;rotate_left
 ·cases hr
 rename_i c t m l r;cases hr;refine⟨rfl,rfl,nLe rfl,?_⟩
 have hm:=mxE;rintro⟨h1,hask⟩ bs;obtain⟨rs,rfl,hx,hy⟩:=h1.ex;clear h1;rw[QB]at hask ⊢;unfold hdB;rw[hask,KY];have e:=@QBP (wtO c rs m l r)
 (repeat' first|refine gA fun _=>?_|apply fkI<;>intro hb<;>try simp only[ew,hask,e]at hb|simp only[go_sem,simprocAttr, *,hask])
theorem QBt:Qa E0 29 Qw1:=by
 refine QG (E:=E0) (T:=mkT Tryz.prog [(65,Qw0)] false (fun _=>false) true (fun _=>false)) (Qd (E:=E0) (.cons QBd .nil)) (fn:=Tryz.f29) Tryz.func29 kR rfl Qc kR rfl ?_
 intro args p rs ms hr;unfold Qw1 at hr;dsimp only at hr;split at hr;rotate_left
 ·cases hr
 rename_i c t m l r;cases hr;refine⟨rfl,rfl,nLe rfl,?_⟩
 have hm:=mxE;rintro⟨h1,hask⟩ bs;obtain⟨rs,rfl,hx,hy⟩:=h1.ex;clear h1;rw[QB]at hask ⊢;obtain⟨ht,⟨l0,l1⟩,r0,r1⟩:=Qdc hask;obtain⟨c,rfl,c1,c5⟩:=Qrp ht;rw[KE];have hdl:∀i:Nat,i<5→QaY c rs m (Qdv l i) r=true:=fun i hi=>by
  have hd:=Qhl (x:=l) (c:=(i:Nat)) ⟨l0,l1⟩ ⟨by omega,by omega⟩
  unfold QaY at *;simp only[KB,QO,Ql,Qj]at hask ⊢
  exact⟨hask.1,⟨hask.2.1.1,hask.2.1.2.1,hd.1,Int.le_trans hd.2 hask.2.1.2.2.2⟩,hask.2.2⟩
 have eb:(QV .and .i64 (l.fdiv (2^r.toNat)) 1==1)=Qu l r:=rfl
 unfold Qnj;cases hb:Qu l r
 ·cases hp:hdB c rs m l r
  ·rw[YM,KT]
   clear hdl;(repeat' first|refine gA fun _=>?_|apply fkI<;>intro hb<;>try simp only[ew,Qi,hask,eb,hb,hp]at hb|simp only[go_sem,simprocAttr, *,Qi,hask,hb,hp])
  ·rw[YU,KY,KY]
   (repeat' first|refine gA fun _=>?_|apply fkI<;>intro hb<;>try simp only[ew,Qi,hask,eb,hb,hp]at hb|simp only[go_sem,simprocAttr, *,Qi,hask,hb,hp])
   refine lpI {ι:=Nat,rs:=[(6,7),(22,47)],mods:=[(7,fun i=> .one (.d (.v (.int .i64 i))))],boxes:=[(3,fun _=>[.d (.v (.int .i64 c)),.d (.sl 1 (sL rs))]),(5,fun _=>[.d (.v (.int .i64 l)),.d (.v (.int .i64 r))])],arrs:=[],ok:=fun i=>i≤c∧QuU (hdB c rs m) r l i=true,mu:=fun i=>c-i} rfl 0 ⟨KJ _,rfl⟩ ?_ fun i hi=>?_
   ·clear hdl
    exact gQ
   ·dsimp only at i hi
    obtain⟨hi,ht2⟩:=hi
    by_cases h5:i<c
    ·have hpw:=p5 (c:=i) (by omega)
     have hdi:=hdl i (by omega)
     obtain⟨z0,z1⟩:=Qhl (x:=l) (c:=(i:Nat)) ⟨l0,l1⟩ ⟨by omega,by omega⟩
     have ed:QV .andNot .i64 l (1*2^i)=Qdv l i:=by unfold Qdv;rw[KE]
     have ei:(QV .and .i64 (l.fdiv (2^i)) 1==1)=Qu l i:=by unfold Qu;rw[KE]
     have es:QuU (hdB c rs m) r l (i+1)=(QuU (hdB c rs m) r l i&& !(Qu l (i:Nat)&&hdB c rs m (Qdv l (i:Nat)) r)):=rfl
     rw[ht2,KY]at es;clear hdl;cases hq:Qu l (i:Nat)
     ·rw[hq,KT]at es
      (repeat' first|refine gA fun _=>?_|apply fkI<;>intro hb<;>try simp only[ew,Qi,ei,hq]at hb|simp only[go_sem,simprocAttr, *,Qi,hq])
      refine lpN (i+1) ⟨by omega,es⟩ (by dsimp only;omega) ?_
      clear es;(repeat' first|refine gA fun _=>?_|apply fkI<;>intro hb<;>try simp only[ew,ei,hq]at hb|simp only[go_sem,simprocAttr, *,hq])
     ·rw[hq,KY]at es
      cases hw:hdB c rs m (Qdv l (i:Nat)) r
      ·rw[hw]at es
       (repeat' first|refine gA fun _=>?_|apply fkI<;>intro hb<;>try simp only[ew,Qi,ei,hq,ed,hdi,hw]at hb|simp only[go_sem,simprocAttr, *,Qi,hq,hw])
       refine lpN (i+1) ⟨by omega,es⟩ (by dsimp only;omega) ?_
       clear es;(repeat' first|refine gA fun _=>?_|apply fkI<;>intro hb<;>try simp only[ew,ei,hq,ed,hw]at hb|simp only[go_sem,simprocAttr, *,hq,hw])
      ·have e:=Qsq h5 hq hw
       rw[e];clear e es ht2;(repeat' first|refine gA fun _=>?_|apply fkI<;>intro hb<;>try simp only[ew,Qi,ei,hq,ed,hdi,hw]at hb|simp only[go_sem,simprocAttr, *,Qi,hq,hw])
    ·have e5:i=c:=by omega
     subst e5;rw[ht2];clear hdl ht2;exact gQ
 ·rw[YV,KT,KT]
  clear hdl;(repeat' first|refine gA fun _=>?_|apply fkI<;>intro hb<;>try simp only[ew,Qi,eb,hb]at hb|simp only[go_sem,simprocAttr, *,Qi,hb])
def mdL(c:Int)(rs:List (List Int))(m:Int):List (Int×Int):=if QP c rs&&QN m then Qa0 (hdB c rs m) c else []
theorem QcE{c:Int}{rs:List (List Int)}{m:Int}:(mdL c rs m).length≤160∧∀d∈mdL c rs m,Qbv d:=by
 unfold mdL;split
 ·rename_i h
  rw[KB]at h;obtain⟨n,rfl,h1,h2⟩:=Qrp h.1;exact Qjc (by omega)
 ·simp
def cMD:Qb:=⟨[],false,fun
 | [.agg [.v (.int .i64 c),.sl 1 t],.one (.v (.int .i64 m))]=>some (WfS t∧ -9223372036854775808≤c∧c≤9223372036854775807,[⟨false,[.own 2 (dL (mdL c (unS t) m)) 1]⟩],[])
 | _=>none⟩
attribute [local go_sem] cMD
def QES:Qb:=⟨[],false,fun
 | [.agg [.v (.int .i64 a),.v (.int .i64 b)],.ptr [.v (.int .i64 c),.sl 1 t],.ptr [.v (.int .i64 m)]]=>some (WfS t∧ -9223372036854775808≤c∧c≤9223372036854775807,[⟨false,[.d (.v (.bool (hdB c (unS t) m a b)))]⟩],[])
 | _=>none⟩
attribute [local go_sem] QES
theorem QDQ:Qa E0 186 QES:=by
 refine QG (E:=E0) (T:=mkT Tryz.prog [(187,QtB)] false (fun _=>false) true (fun _=>false)) (Qd (E:=E0) (.cons QxX .nil)) (fn:=Tryz.f186) Tryz.func186 kR rfl Qc kR rfl ?_
 intro args p rs ms hr;unfold QES at hr;dsimp only at hr;split at hr;rotate_left
 ·cases hr
 rename_i a b c t m;cases hr;refine⟨rfl,rfl,nLe rfl,?_⟩
 have hm:=mxE;rintro⟨h1,hc1,hc2⟩ bs;obtain⟨rs,rfl,hx,hy⟩:=h1.ex;clear h1;rw[QB];exact gQ
def Qoj:Qb:=⟨[],false,fun
 | [.one (.v (.int .i64 n)),.fnc f [[.v (.int .i64 c),.sl 1 t],[.v (.int .i64 m)]]]=>some (f=186∧WfS t∧0≤n∧n≤5∧ -9223372036854775808≤c∧c≤9223372036854775807,[⟨false,[.own 2 (dL (Qa0 (hdB c (unS t) m) n)) 1]⟩],[])
 | _=>none⟩
theorem Qu4:Qa E0 155 Qoj:=by
 refine⟨⟨Tryz.f155,Tryz.func155,by kernel_rfl,rfl⟩,?_⟩
 intro args p rs ms hr hp;unfold Qoj at hr;dsimp only at hr;split at hr
 ·rename_i n f c t m
  cases hr;obtain⟨rfl,h1,h0,h5,hc1,hc2⟩:=hp;exact(QDR (f:=186) (c1:=[.v (.int .i64 c),.sl 1 t]) (c2:=[.v (.int .i64 m)]) (p:=hdB c (unS t) m) QDQ (fun a b=>rfl) (fun a b ha hb=>⟨h1,hc1,hc2⟩) (by simp) (by simp) (by simp) ⟨h0,h5⟩).2 _ _ _ _ rfl ⟨rfl,rfl,rfl,rfl⟩
 ·cases hr
theorem Qzy:Qa E0 141 cMD:=by
 refine QG (E:=E0) (T:=mkT Tryz.prog [(155,Qoj),(138,QA),(139,QcM),(155,Qy7)] false (fun _=>false) true (fun _=>false)) (Qd (E:=E0) (.cons Qu4 (.cons Qbf (.cons Qci (.cons Qo1 .nil))))) (fn:=Tryz.f141) Tryz.func141 kR rfl Qc kR rfl ?_
 intro args p rs ms hr;unfold cMD at hr;dsimp only at hr;split at hr;rotate_left
 ·cases hr
 rename_i c t m;cases hr;refine⟨rfl,rfl,nLe rfl,?_⟩
 have hm:=mxE;rintro⟨h1,hc1,hc2⟩ bs;obtain⟨rs,rfl,hx,hy⟩:=h1.ex;clear h1;rw[QB];cases hv:(QP c rs&&QN m)
 ·have e3:(!QP c rs|| !QN m)=true:=by rw[←YS,hv];rfl
  have e:mdL c rs m=[]:=by unfold mdL;rw[hv];rfl
  have e0:dL []=[]:=rfl
  rw[e];clear e hv;(repeat' first|refine gA fun _=>?_|apply fkI<;>intro hb<;>try simp only[ew,e3,e0,Qoj]at hb|simp only[go_sem,simprocAttr, *,Qoj])
 ·have e3:(!QP c rs|| !QN m)=false:=by rw[←YS,hv];rfl
  have e:mdL c rs m=Qa0 (hdB c rs m) c:=by unfold mdL;rw[hv];rfl
  rw[e];rw[KB]at hv;obtain⟨n,rfl,n1,n5⟩:=Qrp hv.1;clear hv e;(repeat' first|refine gA fun _=>?_|apply fkI<;>intro hb<;>try simp only[ew,e3,Qoj]at hb|simp only[go_sem,simprocAttr, *,Qoj])
  all_goals first|rfl|skip
theorem Qzz:Qa E0 13 cMD:=by
 refine QG (E:=E0) (T:=mkT Tryz.prog [(27,QdB),(28,Qke),(29,Qw1)] false (fun _=>false) true (fun d=>d==42)) (Qd (E:=E0) (.cons QdH (.cons QlW (.cons QBt .nil)))) (fn:=Tryz.f13) Tryz.func13 kR rfl Qc kR rfl ?_
 intro args p rs ms hr;unfold cMD at hr;dsimp only at hr;split at hr;rotate_left
 ·cases hr
 rename_i c t m;cases hr;refine⟨rfl,rfl,nLe rfl,?_⟩
 have hm:=mxE;rintro⟨h1,hc1,hc2⟩ bs;obtain⟨rs,rfl,hx,hy⟩:=h1.ex;clear h1;rw[QB];cases hv:(QP c rs&&QN m)
 ·have e:mdL c rs m=[]:=by unfold mdL;rw[hv];rfl
  have e0:dL []=[]:=rfl
  rw[e];clear e;(repeat' first|refine gA fun _=>?_|apply fkI<;>intro hb<;>try simp only[ew,hv,e0]at hb|simp only[go_sem,simprocAttr, *,hv])
  all_goals first|rfl|skip
 ·have e:mdL c rs m=Qa0 (hdB c rs m) c:=by unfold mdL;rw[hv];rfl
  rw[e];have hv2:=hv
  rw[KB]at hv2;obtain⟨n,rfl,n1,n5⟩:=Qrp hv2.1;have hask:∀i r:Nat,i<(Q8 (n:Nat)).length→r<n→QaY n rs m ((Q8 (n:Nat)).getD i 0) r=true:=fun i r hi hr=>by
   have hm:=QE hi 0;have hR:=(@QH (n:Nat)).2.1 _ hm
   rw[QaW n5]at hm;have:=((QlX ⟨n,by omega⟩).2 _ hm).2
   rw[←QaW n5]at this;dsimp only at this;unfold QaY;simp only[KB,QO,Ql,Qj,Qc7,KE,Int.one_mul]
   exact⟨hv2,⟨⟨by omega,by omega⟩,⟨by omega,by omega⟩,hR.1,by omega⟩,by omega,by omega⟩
  clear hv2 e;unfold Qa0;rw[KE];obtain⟨P1,P2,P3⟩:=@QH (n:Nat);have P1':(Q8 (n:Nat)).length≤maxLen:=KF P1 (by decide)
  clear P2;have hC:=fun r h=>@QlQ (hdB n rs m) n (r:Nat) n5 h (Qqm n5)
  (repeat' first|refine gA fun _=>?_|apply fkI<;>intro hb<;>try simp only[ew,hv]at hb|simp only[go_sem,simprocAttr, *,hv])
  refine lpI {ι:=Nat,rs:=[(8,10),(19,45)],mods:=[(7,fun r=> .one (.d (.v (.int .i64 r)))),(5,fun r=> .one (.own 2 (dL (QbJ (hdB n rs m) n r)) 1))],boxes:=[(2,fun _=>[.d (.v (.int .i64 n)),.d (.sl 1 (sL rs))])],arrs:=[(6,fun _=>(1,iL (Q8 (n:Nat)),1))],ok:=fun r=>r≤n,mu:=fun r=>n-r} rfl 0 (KJ _) ?_ fun r hr=>?_
  ·clear hask hC P3
   exact gQ
  ·dsimp only at r hr
   have l0:=@QaV (hdB n rs m) n r
   have l1:(QbJ (hdB n rs m) n r).length≤192:=by omega
   clear l0
   by_cases h5:r<n
   ·have hC:=hC r ⟨by omega,by omega⟩
    have hask:=fun i h=>hask i r h h5
    have eT:QbJ (hdB n rs m) n (r+1)=QbJ (hdB n rs m) n r++Qss (hdB n rs m) n (r:Nat):=rfl
    rw[hC]at eT;clear hC;generalize hA:QbJ (hdB n rs m) n r=A at l1 eT;generalize hL:Q8 (n:Nat)=L at P1 P1' P3 hask eT;generalize hlo:Qnj (hdB n rs m) n (r:Nat)=lo at eT;have hlo':=fun x=>congrFun hlo x
    (repeat' first|refine gA fun _=>?_|apply fkI<;>intro hb<;>try simp only[ew,hA,hL]at hb|simp only[go_sem,simprocAttr, *])
    refine lpI {ι:=Nat,rs:=[(9,10),(25,45)],mods:=[(8,fun i=> .one (.d (.v (.int .i64 i)))),(5,fun i=> .one (.own 2 (dL (A++((L.take i).filter lo).map fun x=>(x,(r:Int)))) 1))],boxes:=[(2,fun _=>[.d (.v (.int .i64 n)),.d (.sl 1 (sL rs))])],arrs:=[(6,fun _=>(1,iL L,1))],ok:=fun i=>i≤L.length,mu:=fun i=>L.length-i} rfl 0 (KJ _) ?_ fun i hi=>?_
    ·have e1:A++((L.take 0).filter lo).map (fun x=>(x,(r:Int)))=A:=by simp
     clear hask P3 eT;(repeat' first|refine gA fun _=>?_|apply fkI<;>intro hb<;>try simp only[ew,hL,hA,e1,Kw,List.filter_nil,List.map_nil,KM]at hb|simp only[go_sem,simprocAttr, *,Kw,List.filter_nil,List.map_nil,KM])
     all_goals first|rfl|skip
    ·dsimp only at i hi
     have q1:=K3 lo (L.take i)
     rw[KO]at q1;have q2:(A++((L.take i).filter lo).map (fun x=>(x,(r:Int)))).length≤256:=by
      rw[KN,KV];omega
     clear q1
     by_cases h6:i<L.length
     ·have eF:=congrArg (fun l=>A++l.map fun x=>(x,(r:Int))) (Qcz h6 lo)
      obtain⟨x0,x31⟩:=P3 i h6;have hak:=hask i h6
      have hlx:=hlo' (L.getD i 0)
      clear hask P3;try dsimp only at eF
      generalize hB:A++((L.take i).filter lo).map (fun x=>(x,(r:Int)))=B at q2
      generalize hX:L.getD i 0=x at x0 x31 hak hlx eF;cases hq:lo x
      ·rw[hq,if_neg (by decide),KM,hB]at eF
       rw[hq]at hlx;clear eT;(repeat' first|refine gA fun _=>?_|apply fkI<;>intro hb<;>try simp only[ew,hA,hB,hX,hak,hlx]at hb|simp only[go_sem,simprocAttr, *])
       refine lpQ (i+1) ?_
       (repeat' first|refine gA fun _=>?_|apply fkI<;>intro hb<;>try simp only[ew,hB,eF]at hb|simp only[go_sem,simprocAttr, *])
      ·rw[hq,if_pos rfl,Kv,←Kn,hB]at eF
       have e7:B++List.map (fun x=>(x,(r:Int))) [x]=B++[(x,(r:Int))]:=rfl
       rw[e7]at eF;rw[hq]at hlx;clear eT e7;(repeat' first|refine gA fun _=>?_|apply fkI<;>intro hb<;>try simp only[ew,hA,hB,hX,hak,hlx,Qm]at hb|simp only[go_sem,simprocAttr, *,Qm])
       refine lpQ (i+1) ?_
       (repeat' first|refine gA fun _=>?_|apply fkI<;>intro hb<;>try simp only[ew,hB,eF,hX,hlx,Qm]at hb|simp only[go_sem,simprocAttr, *,Qm])
     ·have e6:i=L.length:=by omega
      subst e6;have eP:L.take L.length=L:=KR
      rw[←hL]at eT;clear hask P3;(repeat' first|refine gA fun _=>?_|apply fkI<;>intro hb<;>try simp only[ew,eP]at hb|simp only[go_sem,simprocAttr, *])
      refine lpQ (r+1) ?_
      rw[hL]at eT;(repeat' first|refine gA fun _=>?_|apply fkI<;>intro hb<;>try simp only[ew,eP,eT]at hb|simp only[go_sem,simprocAttr, *])
   ·have e5:r=n:=by omega
    subst e5;clear hask hC P3;exact gQ
end Go.Own
