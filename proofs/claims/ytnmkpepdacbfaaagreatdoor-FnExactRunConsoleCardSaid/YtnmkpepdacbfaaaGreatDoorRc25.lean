/- Own contracts. Conditions: as each theorem states them. -/
import Derived.Test.YtnmkpepdacbfaaaGreatDoorRc20
set_option linter.unusedSimpArgs false
set_option linter.unusedVariables false
set_option maxRecDepth 20000
set_option maxHeartbeats 2000000
namespace Go.Own
open Go Go.Proofs
attribute [local go_sem] Qnq Tryz.results65 Tryz.results29 Qsh Tryz.results186 Qy Qcw Qxw Tryz.results141 Qdh Qjy Tryz.results13
attribute [local go_sem] Qh Qe Qaa Qac Qab Qaf QaX QdJ Qu QaV
def Qtx(p:Int→Int→Bool)(r x:Int):Nat→Bool
 | 0=>true
 | k+1=>Qtx p r x k&& !(Qt x (k:Nat)&&p (Qdc x (k:Nat)) r)
def Qmp(p:Int→Int→Bool)(n:Nat)(r x:Int):Bool:= !Qt x r&&p x r&&Qtx p r x n
theorem Qes{p:Int→Int→Bool}{r x:Int}:∀{k:Nat},Qtx p r x k=true↔∀i:Nat,i<k→Qt x (i:Nat)=true→p (Qdc x (i:Nat)) r=false
 | 0=>by simp[Qtx]
 | k+1=>by
  rw[Qtx,Bool.and_eq_true,@Qes p r x k,Bool.not_eq_true'];constructor
  ·rintro⟨h1,h2⟩ i hi hb
   by_cases e:i=k
   ·subst e
    rw[hb,Bool.true_and]at h2;exact h2
   ·exact h1 i (by omega) hb
  ·intro h
   refine⟨fun i hi hb=>h i (by omega) hb,?_⟩
   cases hq:Qt x (k:Nat)
   ·rfl
   ·rw[h k (by omega) hq];rfl
theorem Qrb{p:Int→Int→Bool}{r x:Int}{k n:Nat}(h:k<n)(hq:Qt x (k:Nat)=true)(hp:p (Qdc x (k:Nat)) r=true):Qtx p r x n=false:=by
 rw[←Bool.not_eq_true,Qes];intro h2;rw[h2 k h hq]at hp;cases hp
theorem Qgz:∀n:Fin 6,(pbs n.val).Pairwise (fun a b=>(Q7 b a&& !(b==a))=false)∧(pbs n.val).Nodup∧∀x∈pbs n.val,∀i:Fin 5,Qdc x ((i.val:Nat):Int)∈pbs n.val:=by decide+kernel
theorem QkD:∀x:Fin 32,∀i:Fin 5,Q7 (Qdc ((x.val:Nat):Int) ((i.val:Nat):Int)) ((x.val:Nat):Int)=true∧(Qt ((x.val:Nat):Int) ((i.val:Nat):Int)=true→Qdc ((x.val:Nat):Int) ((i.val:Nat):Int)<((x.val:Nat):Int)):=by decide+kernel
theorem Qib:∀x y:Fin 32,Q7 ((y.val:Nat):Int) ((x.val:Nat):Int)=true→y≠x→∃i:Fin 5,Qt ((x.val:Nat):Int) ((i.val:Nat):Int)=true∧Q7 ((y.val:Nat):Int) (Qdc ((x.val:Nat):Int) ((i.val:Nat):Int))=true:=by decide+kernel
theorem Qr9:∀n:Fin 6,∀x:Fin 32,∀i:Fin 5,x.val<2^n.val→Qt ((x.val:Nat):Int) ((i.val:Nat):Int)=true→i.val<n.val:=by decide+kernel
theorem Qb8{x y z:Int}(hx:R5 x)(hy:R5 y)(hz:R5 z)(h1:Q7 x y=true)(h2:Q7 y z=true):Q7 x z=true:=
 (Qak hx hz).2 (leB.trans ((Qak hx hy).1 h1) ((Qak hy hz).1 h2))
theorem Qin{x:Int}(hx:R5 x):Q7 x x=true:=(Qak hx hx).2 (leB.refl x)
section
variable {p:Int→Int→Bool} {n:Nat} {r:Int}
theorem QaN(hn:n≤5):Q3 (n:Nat)=pbs n:=by
 unfold Q3;rw[if_pos (Qi.2 ⟨by omega,by omega⟩),Int.toNat_natCast]
theorem QjH(hn:n≤5)(hr:0≤r∧r≤4):∀{k:Nat} {z:Int},z∈Q3 (n:Nat)→z.toNat≤k→p z r=true→Qt z r=false→∃y∈Q3 (n:Nat),Q7 y z=true∧Qmp p n r y=true:=by
 intro k;induction k with
 | zero=>
  intro z hz hk hp hb;obtain⟨z0,z31⟩:=(@QD (n:Nat)).2.1 z hz;have e:z=0:=by omega
  subst e;refine⟨0,hz,Qin ⟨by omega,by omega⟩,?_⟩
  unfold Qmp;rw[hb,hp,Bool.not_false,Bool.true_and,Bool.true_and,Qes];intro i hi h;have h2:Qdc 0 ((i:Nat):Int)<0:=(QkD ⟨0,by omega⟩ ⟨i,by omega⟩).2 h
  have h3:=(QgN (x:=0) (c:=(i:Nat)) ⟨by omega,by omega⟩ ⟨by omega,by omega⟩).1
  omega
 | succ k ih=>
  intro z hz hk hp hb;obtain⟨z0,z31⟩:=(@QD (n:Nat)).2.1 z hz;cases hl:Qtx p r z n
  ·rw[←Bool.not_eq_true,Qes]at hl
   have:∃i:Nat,i<n∧Qt z (i:Nat)=true∧p (Qdc z (i:Nat)) r=true:=by
    apply Classical.byContradiction
    intro hne;refine hl fun i hi hb=>?_
    rw[←Bool.not_eq_true];intro hp2;exact hne ⟨i,hi,hb,hp2⟩
   obtain⟨i,hi,hbi,hpi⟩:=this;have hds:=QkD ⟨z.toNat,by omega⟩ ⟨i,by omega⟩
   dsimp only at hds;rw[show((z.toNat:Nat):Int)=z by omega]at hds
   have hlt:=hds.2 hbi
   have hge:=(QgN (x:=z) (c:=(i:Nat)) ⟨z0,z31⟩ ⟨by omega,by omega⟩).1
   have hmem:Qdc z (i:Nat)∈Q3 (n:Nat):=by
    rw[QaN hn]at hz ⊢;exact(Qgz ⟨n,by omega⟩).2.2 z hz ⟨i,by omega⟩
   have hbr:Qt (Qdc z (i:Nat)) r=false:=by
    rw[QnD ⟨z0,z31⟩ ⟨by omega,by omega⟩ hr,hb,Bool.false_and]
   obtain⟨y,y1,y2,y3⟩:=ih hmem (by omega) hpi hbr
   obtain⟨yy0,yy31⟩:=(@QD (n:Nat)).2.1 y y1;exact⟨y,y1,Qb8 ⟨yy0,yy31⟩ ⟨hge,by omega⟩ ⟨z0,z31⟩ y2 hds.1,y3⟩
  ·refine⟨z,hz,Qin ⟨z0,z31⟩,?_⟩
   unfold Qmp;rw[hb,hp,hl];rfl
theorem QwL(hn:n≤5)(hr:0≤r∧r≤4)(mono:∀x∈Q3 (n:Nat),∀y∈Q3 (n:Nat),Q7 x y=true→p x r=true→p y r=true):Qi2 p r [] (Q3 (n:Nat))=(Q3 (n:Nat)).filter (Qmp p n r):=by
 have hR:=(@QD (n:Nat)).2.1
 have hord:(Q3 (n:Nat)).Pairwise (fun a b=>(Q7 b a&& !(b==a))=false):=by rw[QaN hn];exact(Qgz ⟨n,by omega⟩).1
 have hnd:(Q3 (n:Nat)).Nodup:=by rw[QaN hn];exact(Qgz ⟨n,by omega⟩).2.1
 have hdel:∀x∈Q3 (n:Nat),∀i:Nat,i<5→Qdc x (i:Nat)∈Q3 (n:Nat):=by
  rw[QaN hn];intro x hx i hi;exact(Qgz ⟨n,by omega⟩).2.2 x hx ⟨i,hi⟩
 have hlt:∀x∈Q3 (n:Nat),x<2^n:=by
  rw[QaN hn];intro x hx;exact((Qle ⟨n,by omega⟩).2 x hx).2
 have hex:=fun z=>@QjH p n r hn hr z.toNat z
 suffices H:∀post pre,pre++post=Q3 (n:Nat)→Qi2 p r (pre.filter (Qmp p n r)) post=(Q3 (n:Nat)).filter (Qmp p n r)from H _ [] rfl
 intro post;induction post with
 | nil=>
  intro pre e;rw[List.append_nil]at e;rw[e];rfl
 | cons x post ih=>
  intro pre e;have hx:x∈Q3 (n:Nat):=by rw[←e];simp
  have hxR:=hR x hx
  have hc:(!Qt x r&& !Qa2 (pre.filter (Qmp p n r)) x&&p x r)=Qmp p n r x:=by
   rw[Bool.eq_iff_iff,show Qmp p n r x=(!Qt x r&&p x r&&Qtx p r x n)from rfl]
   simp only[Bool.and_eq_true,Bool.not_eq_true',Qes]
   constructor
   ·rintro⟨⟨h1,h2⟩,h3⟩
    refine⟨⟨h1,h3⟩,fun i hi hb=>?_⟩
    rw[←Bool.not_eq_true];intro hp;have hds:=QkD ⟨x.toNat,by omega⟩ ⟨i,by omega⟩
    dsimp only at hds;rw[show((x.toNat:Nat):Int)=x by omega]at hds
    have hlt:=hds.2 hb
    have hbr:Qt (Qdc x (i:Nat)) r=false:=by
     rw[QnD hxR ⟨by omega,by omega⟩ hr,h1,Bool.false_and]
    have hdm:=hdel x hx i (by omega)
    obtain⟨y,y1,y2,y3⟩:=hex _ hdm (Nat.le_refl _) hp hbr;have hyR:=hR y y1
    have hdR:=hR _ hdm
    have hyx:Q7 y x=true:=Qb8 hyR hdR hxR y2 hds.1
    have hle:=Qtj hyR hdR y2
    have hne:(y==x)=false:=by rw[beq_eq_false_iff_ne];omega
    have hyp:y∈pre:=by
     rw[←e]at y1;rcases List.mem_append.1 y1 with h|h
     ·exact h
     ·rcases List.mem_cons.1 h with h|h
      ·subst h
       rw[beq_self_eq_true]at hne;cases hne
      ·rw[←e,List.pairwise_append,List.pairwise_cons]at hord
       have:=hord.2.1.1 y h
       rw[hyx,hne]at this;cases this
    have:Qa2 (pre.filter (Qmp p n r)) x=true:=by
     unfold Qa2;exact List.any_eq_true.2 ⟨y,List.mem_filter.2 ⟨hyp,y3⟩,hyx⟩
    rw[h2]at this;cases this
   ·rintro⟨⟨h1,h3⟩,h2⟩
    refine⟨⟨h1,?_⟩,h3⟩
    rw[←Bool.not_eq_true];intro ha;unfold Qa2 at ha;obtain⟨t,t1,t2⟩:=List.any_eq_true.1 ha;rw[List.mem_filter]at t1;obtain⟨t1,t3⟩:=t1;have htL:t∈Q3 (n:Nat):=by rw[←e];simp[t1]
    have htR:=hR t htL
    have hne:t≠x:=by
     intro h;subst h;rw[←e,List.nodup_append]at hnd;exact hnd.2.2 t t1 t (by simp) rfl
    obtain⟨i,i1,i2⟩:=Qib ⟨x.toNat,by omega⟩ ⟨t.toNat,by omega⟩ (by dsimp only;rw[show((x.toNat:Nat):Int)=x by omega,show((t.toNat:Nat):Int)=t by omega];exact t2) (by intro h;rw[Fin.mk.injEq]at h;omega)
    dsimp only at i1 i2;rw[show((x.toNat:Nat):Int)=x by omega]at i1 i2
    rw[show((t.toNat:Nat):Int)=t by omega]at i2
    have hin:i.val<n:=by
     have h1:=hlt x hx
     refine Qr9 ⟨n,by omega⟩ ⟨x.toNat,by omega⟩ i ?_ ?_
     ·dsimp only
      have:((2^n:Nat):Int)=(2:Int)^n:=by simp
      omega
     ·dsimp only
      rw[show((x.toNat:Nat):Int)=x by omega]
      exact i1
    unfold Qmp at t3;simp only[Bool.and_eq_true]at t3
    have:=mono t htL _ (hdel x hx i.val i.isLt) i2 t3.1.2
    rw[h2 i.val hin i1]at this;cases this
  rw[Qi2,hc,←ih (pre++[x]) (by rw[List.append_assoc];exact e),List.filter_append,List.filter_cons,List.filter_nil]
  split
  ·rfl
  ·rw[List.append_nil]
end
theorem Qk7{p:Int→Int→Bool}{n:Nat}{r:Int}(hn:n≤5)(hr:0≤r∧r≤4)(mono:∀x∈Q3 (n:Nat),∀y∈Q3 (n:Nat),Q7 x y=true→p x r=true→p y r=true):Qrd p n r=((Q3 (n:Nat)).filter (Qmp p n r)).map fun x=>(x,r):=by
 unfold Qrd;rw[QwL hn hr mono]
theorem Qr7{X x y r:Int}(hX:R5 X)(hx:R5 x)(hy:R5 y)(hr:0≤r∧r≤4)(h:Q7 x y=true)(hb:Qr6 X y r=true):Qr6 X x r=true:=by
 rw[←QlM hX hy hr]at hb;rw[←QlM hX hx hr];unfold QAX at *;rw[Bool.and_eq_true]at hb ⊢;exact⟨Qb8 hx hy hX h hb.1,hb.2⟩
theorem Qo4{rs:List (List Int)}{c:Nat}{m x y r:Int}{i:Nat}(h:∀k,dpC rs c m y r i k=true→dpC rs c m x r i k=true):∀{k f:Nat},dpK rs c m x r i k f=none→dpK rs c m y r i k f=none
 | k,0,_=>rfl
 | k,f+1,hx=>by
  rw[dpK]at hx ⊢;split at hx
  ·cases hx
  ·rename_i h1
   rw[if_neg (fun h2=>h1 (h k h2))]
   exact Qo4 h hx
theorem Qo3{rs:List (List Int)}{c:Nat}{m x y r:Int}(h:∀i k,dpC rs c m y r i k=true→dpC rs c m x r i k=true):∀{i f:Nat},dpI rs c m x r i f=none→dpI rs c m y r i f=none
 | i,0,_=>rfl
 | i,f+1,hx=>by
  rw[dpI]at hx ⊢;split at hx
  ·cases hx
  ·rename_i h1
   rw[Qo4 (h i) h1];exact Qo3 h hx
theorem Qqj{c:Int}{rs:List (List Int)}(h:QK c rs=true):∃n:Nat,c=n∧1≤n∧n≤5:=by
 obtain⟨n,e,h1,h2,_⟩:=QL h;exact⟨n,e,h1,h2⟩
theorem Qph{c:Nat}{rs:List (List Int)}{m r:Int}(hc:c≤5):∀x∈Q3 (c:Nat),∀y∈Q3 (c:Nat),Q7 x y=true→hdB c rs m x r=true→hdB c rs m y r=true:=by
 intro x hx y hy h hp;have hxR:=(@QD (c:Nat)).2.1 x hx
 have hyR:=(@QD (c:Nat)).2.1 y hy
 unfold hdB at *;rw[Bool.and_eq_true]at hp ⊢;obtain⟨h1,h2⟩:=hp;have hr:=(QcV h1).2.2
 constructor
 ·unfold QaP at *
  simp only[Bool.and_eq_true,QJ,Ql,Qi]at h1 ⊢
  refine⟨h1.1,⟨h1.2.1.1,h1.2.1.2.1,hyR.1,?_⟩,h1.2.2⟩
  rw[QaN hc]at hy;have:=((Qle ⟨c,by omega⟩).2 y hy).2
  dsimp only at this;unfold QcQ;rw[Int.toNat_natCast,Int.one_mul];omega
 ·rw[Option.isNone_iff_eq_none]at h2 ⊢
  unfold wtO at *;refine Qo3 (fun i k hb=>?_) h2
  unfold dpC at *;exact Qr7 (Qbe (by rw[Int.toNat_natCast];exact hc)) hxR hyR hr h hb
theorem Qz5:∀{w:Option (Nat×Nat)},decide ((prI w).1<0)=w.isNone
 | none=>rfl
 | some (i,k)=>decide_eq_false (by simp only[prI];omega)
def Qvt:Qb:=⟨[],false,fun
 | [.agg [.v (.int .i64 c),.sl 1 t],.one (.v (.int .i64 m)),.agg [.v (.int .i64 l),.v (.int .i64 r)]]=>some (WfS t∧QaP c (unS t) m l r=true,[⟨false,[.d (.v (.bool (Qmp (hdB c (unS t) m) c.toNat r l)))]⟩],[])
 | _=>none⟩
attribute [local go_sem] Qvt
def Qvs:Qb:=⟨[],false,fun
 | [.agg [.v (.int .i64 c),.sl 1 t],.one (.v (.int .i64 m)),.agg [.v (.int .i64 l),.v (.int .i64 r)]]=>some (WfS t∧QaP c (unS t) m l r=true,[⟨false,[.d (.v (.bool (hdB c (unS t) m l r)))]⟩],[])
 | _=>none⟩
attribute [local go_sem] Qvs
theorem Qzu:Qa E0 65 Qvs:=by
 refine QE (E:=E0) (T:=mkT Tryz.prog [(117,Qnq)] false (fun _=>false) true (fun _=>false)) (Qd (E:=E0) (.cons Qt1 .nil)) (fn:=Tryz.f65) Tryz.func65 (by kernel_rfl) rfl Qc (by kernel_rfl) rfl ?_
 intro args p rs ms hr;unfold Qvs at hr;dsimp only at hr;split at hr;rotate_left
 ·cases hr
 rename_i c t m l r;cases hr;refine⟨rfl,rfl,nLe rfl,?_⟩
 have hm:=mxE;rintro⟨h1,hask⟩ bs;obtain⟨rs,rfl,hx,hy⟩:=h1.ex;clear h1;rw[Qz]at hask ⊢;unfold hdB;rw[hask,Bool.true_and];have e:=@Qz5 (wtO c rs m l r)
 (repeat' first|refine gA fun _=>?_|apply fkI<;>intro hb<;>try simp only[ew,hask,e]at hb|simp only[go_sem,simprocAttr, *,hask])
theorem QzK:Qa E0 29 Qvt:=by
 refine QE (E:=E0) (T:=mkT Tryz.prog [(65,Qvs)] false (fun _=>false) true (fun _=>false)) (Qd (E:=E0) (.cons Qzu .nil)) (fn:=Tryz.f29) Tryz.func29 (by kernel_rfl) rfl Qc (by kernel_rfl) rfl ?_
 intro args p rs ms hr;unfold Qvt at hr;dsimp only at hr;split at hr;rotate_left
 ·cases hr
 rename_i c t m l r;cases hr;refine⟨rfl,rfl,nLe rfl,?_⟩
 have hm:=mxE;rintro⟨h1,hask⟩ bs;obtain⟨rs,rfl,hx,hy⟩:=h1.ex;clear h1;rw[Qz]at hask ⊢;obtain⟨ht,⟨l0,l1⟩,r0,r1⟩:=QcV hask;obtain⟨c,rfl,c1,c5⟩:=Qqj ht;rw[Int.toNat_natCast];have hdl:∀i:Nat,i<5→QaP c rs m (Qdc l i) r=true:=fun i hi=>by
  have hd:=QgN (x:=l) (c:=(i:Nat)) ⟨l0,l1⟩ ⟨by omega,by omega⟩
  unfold QaP at *;simp only[Bool.and_eq_true,QJ,Ql,Qi]at hask ⊢
  exact⟨hask.1,⟨hask.2.1.1,hask.2.1.2.1,hd.1,Int.le_trans hd.2 hask.2.1.2.2.2⟩,hask.2.2⟩
 have eb:(Q6 .and .i64 (l.fdiv (2^r.toNat)) 1==1)=Qt l r:=rfl
 unfold Qmp;cases hb:Qt l r
 ·cases hp:hdB c rs m l r
  ·rw[Bool.and_false,Bool.false_and]
   clear hdl;(repeat' first|refine gA fun _=>?_|apply fkI<;>intro hb<;>try simp only[ew,Qj,hask,eb,hb,hp]at hb|simp only[go_sem,simprocAttr, *,Qj,hask,hb,hp])
  ·rw[Bool.not_false,Bool.true_and,Bool.true_and]
   (repeat' first|refine gA fun _=>?_|apply fkI<;>intro hb<;>try simp only[ew,Qj,hask,eb,hb,hp]at hb|simp only[go_sem,simprocAttr, *,Qj,hask,hb,hp])
   refine lpI {ι:=Nat,rs:=[(6,7),(22,47)],mods:=[(7,fun i=> .one (.d (.v (.int .i64 i))))],boxes:=[(3,fun _=>[.d (.v (.int .i64 c)),.d (.sl 1 (sL rs))]),(5,fun _=>[.d (.v (.int .i64 l)),.d (.v (.int .i64 r))])],arrs:=[],ok:=fun i=>i≤c∧Qtx (hdB c rs m) r l i=true,mu:=fun i=>c-i} rfl 0 ⟨Nat.zero_le _,rfl⟩ ?_ fun i hi=>?_
   ·clear hdl
    exact gQ
   ·dsimp only at i hi
    obtain⟨hi,ht2⟩:=hi
    by_cases h5:i<c
    ·have hpw:=p5 (c:=i) (by omega)
     have hdi:=hdl i (by omega)
     obtain⟨z0,z1⟩:=QgN (x:=l) (c:=(i:Nat)) ⟨l0,l1⟩ ⟨by omega,by omega⟩
     have ed:Q6 .andNot .i64 l (1*2^i)=Qdc l i:=by unfold Qdc;rw[Int.toNat_natCast]
     have ei:(Q6 .and .i64 (l.fdiv (2^i)) 1==1)=Qt l i:=by unfold Qt;rw[Int.toNat_natCast]
     have es:Qtx (hdB c rs m) r l (i+1)=(Qtx (hdB c rs m) r l i&& !(Qt l (i:Nat)&&hdB c rs m (Qdc l (i:Nat)) r)):=rfl
     rw[ht2,Bool.true_and]at es;clear hdl;cases hq:Qt l (i:Nat)
     ·rw[hq,Bool.false_and]at es
      (repeat' first|refine gA fun _=>?_|apply fkI<;>intro hb<;>try simp only[ew,Qj,ei,hq]at hb|simp only[go_sem,simprocAttr, *,Qj,hq])
      refine lpN (i+1) ⟨by omega,es⟩ (by dsimp only;omega) ?_
      clear es;(repeat' first|refine gA fun _=>?_|apply fkI<;>intro hb<;>try simp only[ew,ei,hq]at hb|simp only[go_sem,simprocAttr, *,hq])
     ·rw[hq,Bool.true_and]at es
      cases hw:hdB c rs m (Qdc l (i:Nat)) r
      ·rw[hw]at es
       (repeat' first|refine gA fun _=>?_|apply fkI<;>intro hb<;>try simp only[ew,Qj,ei,hq,ed,hdi,hw]at hb|simp only[go_sem,simprocAttr, *,Qj,hq,hw])
       refine lpN (i+1) ⟨by omega,es⟩ (by dsimp only;omega) ?_
       clear es;(repeat' first|refine gA fun _=>?_|apply fkI<;>intro hb<;>try simp only[ew,ei,hq,ed,hw]at hb|simp only[go_sem,simprocAttr, *,hq,hw])
      ·have e:=Qrb h5 hq hw
       rw[e];clear e es ht2;(repeat' first|refine gA fun _=>?_|apply fkI<;>intro hb<;>try simp only[ew,Qj,ei,hq,ed,hdi,hw]at hb|simp only[go_sem,simprocAttr, *,Qj,hq,hw])
    ·have e5:i=c:=by omega
     subst e5;rw[ht2];clear hdl ht2;exact gQ
 ·rw[Bool.not_true,Bool.false_and,Bool.false_and]
  clear hdl;(repeat' first|refine gA fun _=>?_|apply fkI<;>intro hb<;>try simp only[ew,Qj,eb,hb]at hb|simp only[go_sem,simprocAttr, *,Qj,hb])
def mdL(c:Int)(rs:List (List Int))(m:Int):List (Int×Int):=if QK c rs&&QH m then QaR (hdB c rs m) c else []
theorem Qcq{c:Int}{rs:List (List Int)}{m:Int}:(mdL c rs m).length≤160∧∀d∈mdL c rs m,Qbn d:=by
 unfold mdL;split
 ·rename_i h
  rw[Bool.and_eq_true]at h;obtain⟨n,rfl,h1,h2⟩:=Qqj h.1;exact Qiy (by omega)
 ·simp
def cMD:Qb:=⟨[],false,fun
 | [.agg [.v (.int .i64 c),.sl 1 t],.one (.v (.int .i64 m))]=>some (WfS t∧ -9223372036854775808≤c∧c≤9223372036854775807,[⟨false,[.own 2 (dL (mdL c (unS t) m)) 1]⟩],[])
 | _=>none⟩
attribute [local go_sem] cMD
def QCK:Qb:=⟨[],false,fun
 | [.agg [.v (.int .i64 a),.v (.int .i64 b)],.ptr [.v (.int .i64 c),.sl 1 t],.ptr [.v (.int .i64 m)]]=>some (WfS t∧ -9223372036854775808≤c∧c≤9223372036854775807,[⟨false,[.d (.v (.bool (hdB c (unS t) m a b)))]⟩],[])
 | _=>none⟩
attribute [local go_sem] QCK
theorem QBN:Qa E0 186 QCK:=by
 refine QE (E:=E0) (T:=mkT Tryz.prog [(187,Qsh)] false (fun _=>false) true (fun _=>false)) (Qd (E:=E0) (.cons Qwl .nil)) (fn:=Tryz.f186) Tryz.func186 (by kernel_rfl) rfl Qc (by kernel_rfl) rfl ?_
 intro args p rs ms hr;unfold QCK at hr;dsimp only at hr;split at hr;rotate_left
 ·cases hr
 rename_i a b c t m;cases hr;refine⟨rfl,rfl,nLe rfl,?_⟩
 have hm:=mxE;rintro⟨h1,hc1,hc2⟩ bs;obtain⟨rs,rfl,hx,hy⟩:=h1.ex;clear h1;rw[Qz];exact gQ
def Qno:Qb:=⟨[],false,fun
 | [.one (.v (.int .i64 n)),.fnc f [[.v (.int .i64 c),.sl 1 t],[.v (.int .i64 m)]]]=>some (f=186∧WfS t∧0≤n∧n≤5∧ -9223372036854775808≤c∧c≤9223372036854775807,[⟨false,[.own 2 (dL (QaR (hdB c (unS t) m) n)) 1]⟩],[])
 | _=>none⟩
theorem QtH:Qa E0 155 Qno:=by
 refine⟨⟨Tryz.f155,Tryz.func155,by kernel_rfl,rfl⟩,?_⟩
 intro args p rs ms hr hp;unfold Qno at hr;dsimp only at hr;split at hr
 ·rename_i n f c t m
  cases hr;obtain⟨rfl,h1,h0,h5,hc1,hc2⟩:=hp;exact(QBO (f:=186) (c1:=[.v (.int .i64 c),.sl 1 t]) (c2:=[.v (.int .i64 m)]) (p:=hdB c (unS t) m) QBN (fun a b=>rfl) (fun a b ha hb=>⟨h1,hc1,hc2⟩) (by simp) (by simp) (by simp) ⟨h0,h5⟩).2 _ _ _ _ rfl ⟨rfl,rfl,rfl,rfl⟩
 ·cases hr
theorem QxX:Qa E0 141 cMD:=by
 refine QE (E:=E0) (T:=mkT Tryz.prog [(155,Qno),(138,Qy),(139,Qcw),(155,Qxw)] false (fun _=>false) true (fun _=>false)) (Qd (E:=E0) (.cons QtH (.cons Qa5 (.cons Qb2 (.cons Qn3 .nil))))) (fn:=Tryz.f141) Tryz.func141 (by kernel_rfl) rfl Qc (by kernel_rfl) rfl ?_
 intro args p rs ms hr;unfold cMD at hr;dsimp only at hr;split at hr;rotate_left
 ·cases hr
 rename_i c t m;cases hr;refine⟨rfl,rfl,nLe rfl,?_⟩
 have hm:=mxE;rintro⟨h1,hc1,hc2⟩ bs;obtain⟨rs,rfl,hx,hy⟩:=h1.ex;clear h1;rw[Qz];cases hv:(QK c rs&&QH m)
 ·have e3:(!QK c rs|| !QH m)=true:=by rw[←Bool.not_and,hv];rfl
  have e:mdL c rs m=[]:=by unfold mdL;rw[hv];rfl
  have e0:dL []=[]:=rfl
  rw[e];clear e hv;(repeat' first|refine gA fun _=>?_|apply fkI<;>intro hb<;>try simp only[ew,e3,e0,Qno]at hb|simp only[go_sem,simprocAttr, *,Qno])
 ·have e3:(!QK c rs|| !QH m)=false:=by rw[←Bool.not_and,hv];rfl
  have e:mdL c rs m=QaR (hdB c rs m) c:=by unfold mdL;rw[hv];rfl
  rw[e];rw[Bool.and_eq_true]at hv;obtain⟨n,rfl,n1,n5⟩:=Qqj hv.1;clear hv e;(repeat' first|refine gA fun _=>?_|apply fkI<;>intro hb<;>try simp only[ew,e3,Qno]at hb|simp only[go_sem,simprocAttr, *,Qno])
  all_goals first|rfl|skip
theorem QxY:Qa E0 13 cMD:=by
 refine QE (E:=E0) (T:=mkT Tryz.prog [(27,Qdh),(28,Qjy),(29,Qvt)] false (fun _=>false) true (fun d=>d==42)) (Qd (E:=E0) (.cons Qdn (.cons Qld (.cons QzK .nil)))) (fn:=Tryz.f13) Tryz.func13 (by kernel_rfl) rfl Qc (by kernel_rfl) rfl ?_
 intro args p rs ms hr;unfold cMD at hr;dsimp only at hr;split at hr;rotate_left
 ·cases hr
 rename_i c t m;cases hr;refine⟨rfl,rfl,nLe rfl,?_⟩
 have hm:=mxE;rintro⟨h1,hc1,hc2⟩ bs;obtain⟨rs,rfl,hx,hy⟩:=h1.ex;clear h1;rw[Qz];cases hv:(QK c rs&&QH m)
 ·have e:mdL c rs m=[]:=by unfold mdL;rw[hv];rfl
  have e0:dL []=[]:=rfl
  rw[e];clear e;(repeat' first|refine gA fun _=>?_|apply fkI<;>intro hb<;>try simp only[ew,hv,e0]at hb|simp only[go_sem,simprocAttr, *,hv])
  all_goals first|rfl|skip
 ·have e:mdL c rs m=QaR (hdB c rs m) c:=by unfold mdL;rw[hv];rfl
  rw[e];have hv2:=hv
  rw[Bool.and_eq_true]at hv2;obtain⟨n,rfl,n1,n5⟩:=Qqj hv2.1;have hask:∀i r:Nat,i<(Q3 (n:Nat)).length→r<n→QaP n rs m ((Q3 (n:Nat)).getD i 0) r=true:=fun i r hi hr=>by
   have hm:=QP hi 0;have hR:=(@QD (n:Nat)).2.1 _ hm
   rw[QaN n5]at hm;have:=((Qle ⟨n,by omega⟩).2 _ hm).2
   rw[←QaN n5]at this;dsimp only at this;unfold QaP;simp only[Bool.and_eq_true,QJ,Ql,Qi,QcQ,Int.toNat_natCast,Int.one_mul]
   exact⟨hv2,⟨⟨by omega,by omega⟩,⟨by omega,by omega⟩,hR.1,by omega⟩,by omega,by omega⟩
  clear hv2 e;unfold QaR;rw[Int.toNat_natCast];obtain⟨P1,P2,P3⟩:=@QD (n:Nat);have P1':(Q3 (n:Nat)).length≤maxLen:=Nat.le_trans P1 (by decide)
  clear P2;have hC:=fun r h=>@Qk7 (hdB n rs m) n (r:Nat) n5 h (Qph n5)
  (repeat' first|refine gA fun _=>?_|apply fkI<;>intro hb<;>try simp only[ew,hv]at hb|simp only[go_sem,simprocAttr, *,hv])
  refine lpI {ι:=Nat,rs:=[(8,10),(19,45)],mods:=[(7,fun r=> .one (.d (.v (.int .i64 r)))),(5,fun r=> .one (.own 2 (dL (Qbx (hdB n rs m) n r)) 1))],boxes:=[(2,fun _=>[.d (.v (.int .i64 n)),.d (.sl 1 (sL rs))])],arrs:=[(6,fun _=>(1,iL (Q3 (n:Nat)),1))],ok:=fun r=>r≤n,mu:=fun r=>n-r} rfl 0 (Nat.zero_le _) ?_ fun r hr=>?_
  ·clear hask hC P3
   exact gQ
  ·dsimp only at r hr
   have l0:=@QaM (hdB n rs m) n r
   have l1:(Qbx (hdB n rs m) n r).length≤192:=by omega
   clear l0
   by_cases h5:r<n
   ·have hC:=hC r ⟨by omega,by omega⟩
    have hask:=fun i h=>hask i r h h5
    have eT:Qbx (hdB n rs m) n (r+1)=Qbx (hdB n rs m) n r++Qrd (hdB n rs m) n (r:Nat):=rfl
    rw[hC]at eT;clear hC;generalize hA:Qbx (hdB n rs m) n r=A at l1 eT;generalize hL:Q3 (n:Nat)=L at P1 P1' P3 hask eT;generalize hlo:Qmp (hdB n rs m) n (r:Nat)=lo at eT;have hlo':=fun x=>congrFun hlo x
    (repeat' first|refine gA fun _=>?_|apply fkI<;>intro hb<;>try simp only[ew,hA,hL]at hb|simp only[go_sem,simprocAttr, *])
    refine lpI {ι:=Nat,rs:=[(9,10),(25,45)],mods:=[(8,fun i=> .one (.d (.v (.int .i64 i)))),(5,fun i=> .one (.own 2 (dL (A++((L.take i).filter lo).map fun x=>(x,(r:Int)))) 1))],boxes:=[(2,fun _=>[.d (.v (.int .i64 n)),.d (.sl 1 (sL rs))])],arrs:=[(6,fun _=>(1,iL L,1))],ok:=fun i=>i≤L.length,mu:=fun i=>L.length-i} rfl 0 (Nat.zero_le _) ?_ fun i hi=>?_
    ·have e1:A++((L.take 0).filter lo).map (fun x=>(x,(r:Int)))=A:=by simp
     clear hask P3 eT;(repeat' first|refine gA fun _=>?_|apply fkI<;>intro hb<;>try simp only[ew,hL,hA,e1,List.take_zero,List.filter_nil,List.map_nil,List.append_nil]at hb|simp only[go_sem,simprocAttr, *,List.take_zero,List.filter_nil,List.map_nil,List.append_nil])
     all_goals first|rfl|skip
    ·dsimp only at i hi
     have q1:=List.length_filter_le lo (L.take i)
     rw[List.length_take]at q1;have q2:(A++((L.take i).filter lo).map (fun x=>(x,(r:Int)))).length≤256:=by
      rw[List.length_append,List.length_map];omega
     clear q1
     by_cases h6:i<L.length
     ·have eF:=congrArg (fun l=>A++l.map fun x=>(x,(r:Int))) (Qcl h6 lo)
      obtain⟨x0,x31⟩:=P3 i h6;have hak:=hask i h6
      have hlx:=hlo' (L.getD i 0)
      clear hask P3;try dsimp only at eF
      generalize hB:A++((L.take i).filter lo).map (fun x=>(x,(r:Int)))=B at q2
      generalize hX:L.getD i 0=x at x0 x31 hak hlx eF;cases hq:lo x
      ·rw[hq,if_neg (by decide),List.append_nil,hB]at eF
       rw[hq]at hlx;clear eT;(repeat' first|refine gA fun _=>?_|apply fkI<;>intro hb<;>try simp only[ew,hA,hB,hX,hak,hlx]at hb|simp only[go_sem,simprocAttr, *])
       refine lpN (i+1) (by dsimp only;omega) (by dsimp only;omega) ?_
       (repeat' first|refine gA fun _=>?_|apply fkI<;>intro hb<;>try simp only[ew,hB,eF]at hb|simp only[go_sem,simprocAttr, *])
      ·rw[hq,if_pos rfl,List.map_append,←List.append_assoc,hB]at eF
       have e7:B++List.map (fun x=>(x,(r:Int))) [x]=B++[(x,(r:Int))]:=rfl
       rw[e7]at eF;rw[hq]at hlx;clear eT e7;(repeat' first|refine gA fun _=>?_|apply fkI<;>intro hb<;>try simp only[ew,hA,hB,hX,hak,hlx,Qm]at hb|simp only[go_sem,simprocAttr, *,Qm])
       refine lpN (i+1) (by dsimp only;omega) (by dsimp only;omega) ?_
       (repeat' first|refine gA fun _=>?_|apply fkI<;>intro hb<;>try simp only[ew,hB,eF,hX,hlx,Qm]at hb|simp only[go_sem,simprocAttr, *,Qm])
     ·have e6:i=L.length:=by omega
      subst e6;have eP:L.take L.length=L:=List.take_length
      rw[←hL]at eT;clear hask P3;(repeat' first|refine gA fun _=>?_|apply fkI<;>intro hb<;>try simp only[ew,eP]at hb|simp only[go_sem,simprocAttr, *])
      refine lpN (r+1) (by dsimp only;omega) (by dsimp only;omega) ?_
      rw[hL]at eT;(repeat' first|refine gA fun _=>?_|apply fkI<;>intro hb<;>try simp only[ew,eP,eT]at hb|simp only[go_sem,simprocAttr, *])
   ·have e5:r=n:=by omega
    subst e5;clear hask hC P3;exact gQ
end Go.Own
