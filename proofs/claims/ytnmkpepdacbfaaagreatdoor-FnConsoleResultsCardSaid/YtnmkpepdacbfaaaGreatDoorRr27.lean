/- Own contracts. Conditions: as each theorem states them. -/
import Derived.Test.YtnmkpepdacbfaaaGreatDoorRr21
set_option linter.unusedSimpArgs false
set_option linter.unusedVariables false
set_option maxRecDepth 20000
set_option maxHeartbeats 2000000
namespace Go.Own
open Go Go.Proofs
attribute [local go_sem] Qoz Tryz.results65 Tryz.results29 Qqj Tryz.results186 Qs Qcg QvK Tryz.results141 Qff Qkh Tryz.results13
attribute [local go_sem] Qm Qc QZ Q1 Q0 Q3 QaH Qdb Qr QaG
def QrE(p:Int→Int→Bool)(r x:Int):Nat→Bool
 | 0=>true
 | k+1=>QrE p r x k&& !(Qy x (k:Nat)&&p (Qd6 x (k:Nat)) r)
def QkF(p:Int→Int→Bool)(n:Nat)(r x:Int):Bool:= !Qy x r&&p x r&&QrE p r x n
theorem QdT{p:Int→Int→Bool}{r x:Int}:∀{k:Nat},QrE p r x k=true↔∀i:Nat,i<k→Qy x (i:Nat)=true→p (Qd6 x (i:Nat)) r=false
 | 0=>by simp[QrE]
 | k+1=>by
  rw[QrE,Bool.and_eq_true,@QdT p r x k,Bool.not_eq_true'];constructor
  ·rintro⟨h1,h2⟩ i hi hb
   by_cases e:i=k
   ·subst e
    rw[hb,Bool.true_and]at h2;exact h2
   ·exact h1 i (by omega) hb
  ·intro h
   refine⟨fun i hi hb=>h i (by omega) hb,?_⟩
   cases hq:Qy x (k:Nat)
   ·rfl
   ·rw[h k (by omega) hq];rfl
theorem Qpd{p:Int→Int→Bool}{r x:Int}{k n:Nat}(h:k<n)(hq:Qy x (k:Nat)=true)(hp:p (Qd6 x (k:Nat)) r=true):QrE p r x n=false:=by
 rw[←Bool.not_eq_true,QdT];intro h2;rw[h2 k h hq]at hp;cases hp
theorem QfI:∀n:Fin 6,(pbs n.val).Pairwise (fun a b=>(Qal b a&& !(b==a))=false)∧(pbs n.val).Nodup∧∀x∈pbs n.val,∀i:Fin 5,Qd6 x ((i.val:Nat):Int)∈pbs n.val:=by decide+kernel
theorem Qi8:∀x:Fin 32,∀i:Fin 5,Qal (Qd6 ((x.val:Nat):Int) ((i.val:Nat):Int)) ((x.val:Nat):Int)=true∧(Qy ((x.val:Nat):Int) ((i.val:Nat):Int)=true→Qd6 ((x.val:Nat):Int) ((i.val:Nat):Int)<((x.val:Nat):Int)):=by decide+kernel
theorem Qg2:∀x y:Fin 32,Qal ((y.val:Nat):Int) ((x.val:Nat):Int)=true→y≠x→∃i:Fin 5,Qy ((x.val:Nat):Int) ((i.val:Nat):Int)=true∧Qal ((y.val:Nat):Int) (Qd6 ((x.val:Nat):Int) ((i.val:Nat):Int))=true:=by decide+kernel
theorem Qp9:∀n:Fin 6,∀x:Fin 32,∀i:Fin 5,x.val<2^n.val→Qy ((x.val:Nat):Int) ((i.val:Nat):Int)=true→i.val<n.val:=by decide+kernel
theorem Qb1{x y z:Int}(hx:R5 x)(hy:R5 y)(hz:R5 z)(h1:Qal x y=true)(h2:Qal y z=true):Qal x z=true:=
 (Q8 hx hz).2 (leB.trans ((Q8 hx hy).1 h1) ((Q8 hy hz).1 h2))
theorem Qhb{x:Int}(hx:R5 x):Qal x x=true:=(Q8 hx hx).2 (leB.refl x)
section
variable {p:Int→Int→Bool} {n:Nat} {r:Int}
theorem QaB(hn:n≤5):Q9 (n:Nat)=pbs n:=by
 unfold Q9;rw[if_pos (Qh.2 ⟨by omega,by omega⟩),Int.toNat_natCast]
theorem Qis(hn:n≤5)(hr:0≤r∧r≤4):∀{k:Nat} {z:Int},z∈Q9 (n:Nat)→z.toNat≤k→p z r=true→Qy z r=false→∃y∈Q9 (n:Nat),Qal y z=true∧QkF p n r y=true:=by
 intro k;induction k with
 | zero=>
  intro z hz hk hp hb;obtain⟨z0,z31⟩:=(@QM (n:Nat)).2.1 z hz;have e:z=0:=by omega
  subst e;refine⟨0,hz,Qhb ⟨by omega,by omega⟩,?_⟩
  unfold QkF;rw[hb,hp,Bool.not_false,Bool.true_and,Bool.true_and,QdT];intro i hi h;have h2:Qd6 0 ((i:Nat):Int)<0:=(Qi8 ⟨0,by omega⟩ ⟨i,by omega⟩).2 h
  have h3:=(Qg3 (x:=0) (c:=(i:Nat)) ⟨by omega,by omega⟩ ⟨by omega,by omega⟩).1
  omega
 | succ k ih=>
  intro z hz hk hp hb;obtain⟨z0,z31⟩:=(@QM (n:Nat)).2.1 z hz;cases hl:QrE p r z n
  ·rw[←Bool.not_eq_true,QdT]at hl
   have:∃i:Nat,i<n∧Qy z (i:Nat)=true∧p (Qd6 z (i:Nat)) r=true:=by
    apply Classical.byContradiction
    intro hne;refine hl fun i hi hb=>?_
    rw[←Bool.not_eq_true];intro hp2;exact hne ⟨i,hi,hb,hp2⟩
   obtain⟨i,hi,hbi,hpi⟩:=this;have hds:=Qi8 ⟨z.toNat,by omega⟩ ⟨i,by omega⟩
   dsimp only at hds;rw[show((z.toNat:Nat):Int)=z by omega]at hds
   have hlt:=hds.2 hbi
   have hge:=(Qg3 (x:=z) (c:=(i:Nat)) ⟨z0,z31⟩ ⟨by omega,by omega⟩).1
   have hmem:Qd6 z (i:Nat)∈Q9 (n:Nat):=by
    rw[QaB hn]at hz ⊢;exact(QfI ⟨n,by omega⟩).2.2 z hz ⟨i,by omega⟩
   have hbr:Qy (Qd6 z (i:Nat)) r=false:=by
    rw[QlL ⟨z0,z31⟩ ⟨by omega,by omega⟩ hr,hb,Bool.false_and]
   obtain⟨y,y1,y2,y3⟩:=ih hmem (by omega) hpi hbr
   obtain⟨yy0,yy31⟩:=(@QM (n:Nat)).2.1 y y1;exact⟨y,y1,Qb1 ⟨yy0,yy31⟩ ⟨hge,by omega⟩ ⟨z0,z31⟩ y2 hds.1,y3⟩
  ·refine⟨z,hz,Qhb ⟨z0,z31⟩,?_⟩
   unfold QkF;rw[hb,hp,hl];rfl
theorem QuS(hn:n≤5)(hr:0≤r∧r≤4)(mono:∀x∈Q9 (n:Nat),∀y∈Q9 (n:Nat),Qal x y=true→p x r=true→p y r=true):QiG p r [] (Q9 (n:Nat))=(Q9 (n:Nat)).filter (QkF p n r):=by
 have hR:=(@QM (n:Nat)).2.1
 have hord:(Q9 (n:Nat)).Pairwise (fun a b=>(Qal b a&& !(b==a))=false):=by rw[QaB hn];exact(QfI ⟨n,by omega⟩).1
 have hnd:(Q9 (n:Nat)).Nodup:=by rw[QaB hn];exact(QfI ⟨n,by omega⟩).2.1
 have hdel:∀x∈Q9 (n:Nat),∀i:Nat,i<5→Qd6 x (i:Nat)∈Q9 (n:Nat):=by
  rw[QaB hn];intro x hx i hi;exact(QfI ⟨n,by omega⟩).2.2 x hx ⟨i,hi⟩
 have hlt:∀x∈Q9 (n:Nat),x<2^n:=by
  rw[QaB hn];intro x hx;exact((QjK ⟨n,by omega⟩).2 x hx).2
 have hex:=fun z=>@Qis p n r hn hr z.toNat z
 suffices H:∀post pre,pre++post=Q9 (n:Nat)→QiG p r (pre.filter (QkF p n r)) post=(Q9 (n:Nat)).filter (QkF p n r)from H _ [] rfl
 intro post;induction post with
 | nil=>
  intro pre e;rw[List.append_nil]at e;rw[e];rfl
 | cons x post ih=>
  intro pre e;have hx:x∈Q9 (n:Nat):=by rw[←e];simp
  have hxR:=hR x hx
  have hc:(!Qy x r&& !Qcz (pre.filter (QkF p n r)) x&&p x r)=QkF p n r x:=by
   rw[Bool.eq_iff_iff,show QkF p n r x=(!Qy x r&&p x r&&QrE p r x n)from rfl]
   simp only[Bool.and_eq_true,Bool.not_eq_true',QdT]
   constructor
   ·rintro⟨⟨h1,h2⟩,h3⟩
    refine⟨⟨h1,h3⟩,fun i hi hb=>?_⟩
    rw[←Bool.not_eq_true];intro hp;have hds:=Qi8 ⟨x.toNat,by omega⟩ ⟨i,by omega⟩
    dsimp only at hds;rw[show((x.toNat:Nat):Int)=x by omega]at hds
    have hlt:=hds.2 hb
    have hbr:Qy (Qd6 x (i:Nat)) r=false:=by
     rw[QlL hxR ⟨by omega,by omega⟩ hr,h1,Bool.false_and]
    have hdm:=hdel x hx i (by omega)
    obtain⟨y,y1,y2,y3⟩:=hex _ hdm (Nat.le_refl _) hp hbr;have hyR:=hR y y1
    have hdR:=hR _ hdm
    have hyx:Qal y x=true:=Qb1 hyR hdR hxR y2 hds.1
    have hle:=Qrr hyR hdR y2
    have hne:(y==x)=false:=by rw[beq_eq_false_iff_ne];omega
    have hyp:y∈pre:=by
     rw[←e]at y1;rcases List.mem_append.1 y1 with h|h
     ·exact h
     ·rcases List.mem_cons.1 h with h|h
      ·subst h
       rw[beq_self_eq_true]at hne;cases hne
      ·rw[←e,List.pairwise_append,List.pairwise_cons]at hord
       have:=hord.2.1.1 y h
       rw[hyx,hne]at this;cases this
    have:Qcz (pre.filter (QkF p n r)) x=true:=by
     unfold Qcz;exact List.any_eq_true.2 ⟨y,List.mem_filter.2 ⟨hyp,y3⟩,hyx⟩
    rw[h2]at this;cases this
   ·rintro⟨⟨h1,h3⟩,h2⟩
    refine⟨⟨h1,?_⟩,h3⟩
    rw[←Bool.not_eq_true];intro ha;unfold Qcz at ha;obtain⟨t,t1,t2⟩:=List.any_eq_true.1 ha;rw[List.mem_filter]at t1;obtain⟨t1,t3⟩:=t1;have htL:t∈Q9 (n:Nat):=by rw[←e];simp[t1]
    have htR:=hR t htL
    have hne:t≠x:=by
     intro h;subst h;rw[←e,List.nodup_append]at hnd;exact hnd.2.2 t t1 t (by simp) rfl
    obtain⟨i,i1,i2⟩:=Qg2 ⟨x.toNat,by omega⟩ ⟨t.toNat,by omega⟩ (by dsimp only;rw[show((x.toNat:Nat):Int)=x by omega,show((t.toNat:Nat):Int)=t by omega];exact t2) (by intro h;rw[Fin.mk.injEq]at h;omega)
    dsimp only at i1 i2;rw[show((x.toNat:Nat):Int)=x by omega]at i1 i2
    rw[show((t.toNat:Nat):Int)=t by omega]at i2
    have hin:i.val<n:=by
     have h1:=hlt x hx
     refine Qp9 ⟨n,by omega⟩ ⟨x.toNat,by omega⟩ i ?_ ?_
     ·dsimp only
      have:((2^n:Nat):Int)=(2:Int)^n:=by simp
      omega
     ·dsimp only
      rw[show((x.toNat:Nat):Int)=x by omega]
      exact i1
    unfold QkF at t3;simp only[Bool.and_eq_true]at t3
    have:=mono t htL _ (hdel x hx i.val i.isLt) i2 t3.1.2
    rw[h2 i.val hin i1]at this;cases this
  rw[QiG,hc,←ih (pre++[x]) (by rw[List.append_assoc];exact e),List.filter_append,List.filter_cons,List.filter_nil]
  split
  ·rfl
  ·rw[List.append_nil]
end
theorem Qjz{p:Int→Int→Bool}{n:Nat}{r:Int}(hn:n≤5)(hr:0≤r∧r≤4)(mono:∀x∈Q9 (n:Nat),∀y∈Q9 (n:Nat),Qal x y=true→p x r=true→p y r=true):QrJ p n r=((Q9 (n:Nat)).filter (QkF p n r)).map fun x=>(x,r):=by
 unfold QrJ;rw[QuS hn hr mono]
theorem Qp7{X x y r:Int}(hX:R5 X)(hx:R5 x)(hy:R5 y)(hr:0≤r∧r≤4)(h:Qal x y=true)(hb:Qp6 X y r=true):Qp6 X x r=true:=by
 rw[←Qkd hX hy hr]at hb;rw[←Qkd hX hx hr];unfold Qzd at *;rw[Bool.and_eq_true]at hb ⊢;exact⟨Qb1 hx hy hX h hb.1,hb.2⟩
theorem Qm7{rs:List (List Int)}{c:Nat}{m x y r:Int}{i:Nat}(h:∀k,dpC rs c m y r i k=true→dpC rs c m x r i k=true):∀{k f:Nat},dpK rs c m x r i k f=none→dpK rs c m y r i k f=none
 | k,0,_=>rfl
 | k,f+1,hx=>by
  rw[dpK]at hx ⊢;split at hx
  ·cases hx
  ·rename_i h1
   rw[if_neg (fun h2=>h1 (h k h2))]
   exact Qm7 h hx
theorem Qm5{rs:List (List Int)}{c:Nat}{m x y r:Int}(h:∀i k,dpC rs c m y r i k=true→dpC rs c m x r i k=true):∀{i f:Nat},dpI rs c m x r i f=none→dpI rs c m y r i f=none
 | i,0,_=>rfl
 | i,f+1,hx=>by
  rw[dpI]at hx ⊢;split at hx
  ·cases hx
  ·rename_i h1
   rw[Qm7 (h i) h1];exact Qm5 h hx
theorem Qof{c:Int}{rs:List (List Int)}(h:QC c rs=true):∃n:Nat,c=n∧1≤n∧n≤5:=by
 obtain⟨n,e,h1,h2,_⟩:=QR h;exact⟨n,e,h1,h2⟩
theorem Qnk{c:Nat}{rs:List (List Int)}{m r:Int}(hc:c≤5):∀x∈Q9 (c:Nat),∀y∈Q9 (c:Nat),Qal x y=true→hdB c rs m x r=true→hdB c rs m y r=true:=by
 intro x hx y hy h hp;have hxR:=(@QM (c:Nat)).2.1 x hx
 have hyR:=(@QM (c:Nat)).2.1 y hy
 unfold hdB at *;rw[Bool.and_eq_true]at hp ⊢;obtain⟨h1,h2⟩:=hp;have hr:=(Qdg h1).2.2
 constructor
 ·unfold Qbe at *
  simp only[Bool.and_eq_true,Q2,Qj,Qh]at h1 ⊢
  refine⟨h1.1,⟨h1.2.1.1,h1.2.1.2.1,hyR.1,?_⟩,h1.2.2⟩
  rw[QaB hc]at hy;have:=((QjK ⟨c,by omega⟩).2 y hy).2
  dsimp only at this;unfold Qd5;rw[Int.toNat_natCast,Int.one_mul];omega
 ·rw[Option.isNone_iff_eq_none]at h2 ⊢
  unfold wtO at *;refine Qm5 (fun i k hb=>?_) h2
  unfold dpC at *;exact Qp7 (QaW (by rw[Int.toNat_natCast];exact hc)) hxR hyR hr h hb
theorem Qyk:∀{w:Option (Nat×Nat)},decide ((prI w).1<0)=w.isNone
 | none=>rfl
 | some (i,k)=>decide_eq_false (by simp only[prI];omega)
def QtI:Qb:=⟨[],false,fun
 | [.agg [.v (.int .i64 c),.sl 1 t],.one (.v (.int .i64 m)),.agg [.v (.int .i64 l),.v (.int .i64 r)]]=>some (WfS t∧Qbe c (unS t) m l r=true,[⟨false,[.d (.v (.bool (QkF (hdB c (unS t) m) c.toNat r l)))]⟩],[])
 | _=>none⟩
attribute [local go_sem] QtI
def QtG:Qb:=⟨[],false,fun
 | [.agg [.v (.int .i64 c),.sl 1 t],.one (.v (.int .i64 m)),.agg [.v (.int .i64 l),.v (.int .i64 r)]]=>some (WfS t∧Qbe c (unS t) m l r=true,[⟨false,[.d (.v (.bool (hdB c (unS t) m l r)))]⟩],[])
 | _=>none⟩
attribute [local go_sem] QtG
theorem QxJ:Qa E0 65 QtG:=by
 refine QV (E:=E0) (T:=mkT Tryz.prog [(117,Qoz)] false (fun _=>false) true (fun _=>false)) (Qf (E:=E0) (.cons Qyc .nil)) (fn:=Tryz.f65) Tryz.func65 (by kernel_rfl) rfl Qe (by kernel_rfl) rfl ?_
 intro args p rs ms hr;unfold QtG at hr;dsimp only at hr;split at hr;rotate_left
 ·cases hr
 rename_i c t m l r;cases hr;refine⟨rfl,rfl,nLe rfl,?_⟩
 have hm:=mxE;rintro⟨h1,hask⟩ bs;obtain⟨rs,rfl,hx,hy⟩:=h1.ex;clear h1;rw[QG]at hask ⊢;unfold hdB;rw[hask,Bool.true_and];have e:=@Qyk (wtO c rs m l r)
 (repeat' first|refine gA fun _=>?_|apply fkI<;>intro hb<;>try simp only[ew,hask,e]at hb|simp only[go_sem,simprocAttr, *,hask])
theorem QxY:Qa E0 29 QtI:=by
 refine QV (E:=E0) (T:=mkT Tryz.prog [(65,QtG)] false (fun _=>false) true (fun _=>false)) (Qf (E:=E0) (.cons QxJ .nil)) (fn:=Tryz.f29) Tryz.func29 (by kernel_rfl) rfl Qe (by kernel_rfl) rfl ?_
 intro args p rs ms hr;unfold QtI at hr;dsimp only at hr;split at hr;rotate_left
 ·cases hr
 rename_i c t m l r;cases hr;refine⟨rfl,rfl,nLe rfl,?_⟩
 have hm:=mxE;rintro⟨h1,hask⟩ bs;obtain⟨rs,rfl,hx,hy⟩:=h1.ex;clear h1;rw[QG]at hask ⊢;obtain⟨ht,⟨l0,l1⟩,r0,r1⟩:=Qdg hask;obtain⟨c,rfl,c1,c5⟩:=Qof ht;rw[Int.toNat_natCast];have hdl:∀i:Nat,i<5→Qbe c rs m (Qd6 l i) r=true:=fun i hi=>by
  have hd:=Qg3 (x:=l) (c:=(i:Nat)) ⟨l0,l1⟩ ⟨by omega,by omega⟩
  unfold Qbe at *;simp only[Bool.and_eq_true,Q2,Qj,Qh]at hask ⊢
  exact⟨hask.1,⟨hask.2.1.1,hask.2.1.2.1,hd.1,Int.le_trans hd.2 hask.2.1.2.2.2⟩,hask.2.2⟩
 have eb:(Qax .and .i64 (l.fdiv (2^r.toNat)) 1==1)=Qy l r:=rfl
 unfold QkF;cases hb:Qy l r
 ·cases hp:hdB c rs m l r
  ·rw[Bool.and_false,Bool.false_and]
   clear hdl;(repeat' first|refine gA fun _=>?_|apply fkI<;>intro hb<;>try simp only[ew,Qq,hask,eb,hb,hp]at hb|simp only[go_sem,simprocAttr, *,Qq,hask,hb,hp])
  ·rw[Bool.not_false,Bool.true_and,Bool.true_and]
   (repeat' first|refine gA fun _=>?_|apply fkI<;>intro hb<;>try simp only[ew,Qq,hask,eb,hb,hp]at hb|simp only[go_sem,simprocAttr, *,Qq,hask,hb,hp])
   refine lpI {ι:=Nat,rs:=[(6,7),(22,47)],mods:=[(7,fun i=> .one (.d (.v (.int .i64 i))))],boxes:=[(3,fun _=>[.d (.v (.int .i64 c)),.d (.sl 1 (sL rs))]),(5,fun _=>[.d (.v (.int .i64 l)),.d (.v (.int .i64 r))])],arrs:=[],ok:=fun i=>i≤c∧QrE (hdB c rs m) r l i=true,mu:=fun i=>c-i} rfl 0 ⟨Nat.zero_le _,rfl⟩ ?_ fun i hi=>?_
   ·clear hdl
    exact gQ
   ·dsimp only at i hi
    obtain⟨hi,ht2⟩:=hi
    by_cases h5:i<c
    ·have hpw:=p5 (c:=i) (by omega)
     have hdi:=hdl i (by omega)
     obtain⟨z0,z1⟩:=Qg3 (x:=l) (c:=(i:Nat)) ⟨l0,l1⟩ ⟨by omega,by omega⟩
     have ed:Qax .andNot .i64 l (1*2^i)=Qd6 l i:=by unfold Qd6;rw[Int.toNat_natCast]
     have ei:(Qax .and .i64 (l.fdiv (2^i)) 1==1)=Qy l i:=by unfold Qy;rw[Int.toNat_natCast]
     have es:QrE (hdB c rs m) r l (i+1)=(QrE (hdB c rs m) r l i&& !(Qy l (i:Nat)&&hdB c rs m (Qd6 l (i:Nat)) r)):=rfl
     rw[ht2,Bool.true_and]at es;clear hdl;cases hq:Qy l (i:Nat)
     ·rw[hq,Bool.false_and]at es
      (repeat' first|refine gA fun _=>?_|apply fkI<;>intro hb<;>try simp only[ew,Qq,ei,hq]at hb|simp only[go_sem,simprocAttr, *,Qq,hq])
      refine lpN (i+1) ⟨by omega,es⟩ (by dsimp only;omega) ?_
      clear es;(repeat' first|refine gA fun _=>?_|apply fkI<;>intro hb<;>try simp only[ew,ei,hq]at hb|simp only[go_sem,simprocAttr, *,hq])
     ·rw[hq,Bool.true_and]at es
      cases hw:hdB c rs m (Qd6 l (i:Nat)) r
      ·rw[hw]at es
       (repeat' first|refine gA fun _=>?_|apply fkI<;>intro hb<;>try simp only[ew,Qq,ei,hq,ed,hdi,hw]at hb|simp only[go_sem,simprocAttr, *,Qq,hq,hw])
       refine lpN (i+1) ⟨by omega,es⟩ (by dsimp only;omega) ?_
       clear es;(repeat' first|refine gA fun _=>?_|apply fkI<;>intro hb<;>try simp only[ew,ei,hq,ed,hw]at hb|simp only[go_sem,simprocAttr, *,hq,hw])
      ·have e:=Qpd h5 hq hw
       rw[e];clear e es ht2;(repeat' first|refine gA fun _=>?_|apply fkI<;>intro hb<;>try simp only[ew,Qq,ei,hq,ed,hdi,hw]at hb|simp only[go_sem,simprocAttr, *,Qq,hq,hw])
    ·have e5:i=c:=by omega
     subst e5;rw[ht2];clear hdl ht2;exact gQ
 ·rw[Bool.not_true,Bool.false_and,Bool.false_and]
  clear hdl;(repeat' first|refine gA fun _=>?_|apply fkI<;>intro hb<;>try simp only[ew,Qq,eb,hb]at hb|simp only[go_sem,simprocAttr, *,Qq,hb])
def mdL(c:Int)(rs:List (List Int))(m:Int):List (Int×Int):=if QC c rs&&QJ m then QaJ (hdB c rs m) c else []
theorem Qca{c:Int}{rs:List (List Int)}{m:Int}:(mdL c rs m).length≤160∧∀d∈mdL c rs m,Qbo d:=by
 unfold mdL;split
 ·rename_i h
  rw[Bool.and_eq_true]at h;obtain⟨n,rfl,h1,h2⟩:=Qof h.1;exact Qhp (by omega)
 ·simp
def cMD:Qb:=⟨[],false,fun
 | [.agg [.v (.int .i64 c),.sl 1 t],.one (.v (.int .i64 m))]=>some (WfS t∧ -9223372036854775808≤c∧c≤9223372036854775807,[⟨false,[.own 2 (dL (mdL c (unS t) m)) 1]⟩],[])
 | _=>none⟩
attribute [local go_sem] cMD
def QBs:Qb:=⟨[],false,fun
 | [.agg [.v (.int .i64 a),.v (.int .i64 b)],.ptr [.v (.int .i64 c),.sl 1 t],.ptr [.v (.int .i64 m)]]=>some (WfS t∧ -9223372036854775808≤c∧c≤9223372036854775807,[⟨false,[.d (.v (.bool (hdB c (unS t) m a b)))]⟩],[])
 | _=>none⟩
attribute [local go_sem] QBs
theorem QAq:Qa E0 186 QBs:=by
 refine QV (E:=E0) (T:=mkT Tryz.prog [(187,Qqj)] false (fun _=>false) true (fun _=>false)) (Qf (E:=E0) (.cons Qux .nil)) (fn:=Tryz.f186) Tryz.func186 (by kernel_rfl) rfl Qe (by kernel_rfl) rfl ?_
 intro args p rs ms hr;unfold QBs at hr;dsimp only at hr;split at hr;rotate_left
 ·cases hr
 rename_i a b c t m;cases hr;refine⟨rfl,rfl,nLe rfl,?_⟩
 have hm:=mxE;rintro⟨h1,hc1,hc2⟩ bs;obtain⟨rs,rfl,hx,hy⟩:=h1.ex;clear h1;rw[QG];exact gQ
def Qlz:Qb:=⟨[],false,fun
 | [.one (.v (.int .i64 n)),.fnc f [[.v (.int .i64 c),.sl 1 t],[.v (.int .i64 m)]]]=>some (f=186∧WfS t∧0≤n∧n≤5∧ -9223372036854775808≤c∧c≤9223372036854775807,[⟨false,[.own 2 (dL (QaJ (hdB c (unS t) m) n)) 1]⟩],[])
 | _=>none⟩
theorem QrL:Qa E0 155 Qlz:=by
 refine⟨⟨Tryz.f155,Tryz.func155,by kernel_rfl,rfl⟩,?_⟩
 intro args p rs ms hr hp;unfold Qlz at hr;dsimp only at hr;split at hr
 ·rename_i n f c t m
  cases hr;obtain⟨rfl,h1,h0,h5,hc1,hc2⟩:=hp;exact(QAs (f:=186) (c1:=[.v (.int .i64 c),.sl 1 t]) (c2:=[.v (.int .i64 m)]) (p:=hdB c (unS t) m) QAq (fun a b=>rfl) (fun a b ha hb=>⟨h1,hc1,hc2⟩) (by simp) (by simp) (by simp) ⟨h0,h5⟩).2 _ _ _ _ rfl ⟨rfl,rfl,rfl,rfl⟩
 ·cases hr
theorem Qwi:Qa E0 141 cMD:=by
 refine QV (E:=E0) (T:=mkT Tryz.prog [(155,Qlz),(138,Qs),(139,Qcg),(155,QvK)] false (fun _=>false) true (fun _=>false)) (Qf (E:=E0) (.cons QrL (.cons QaO (.cons QbV (.cons Qmc .nil))))) (fn:=Tryz.f141) Tryz.func141 (by kernel_rfl) rfl Qe (by kernel_rfl) rfl ?_
 intro args p rs ms hr;unfold cMD at hr;dsimp only at hr;split at hr;rotate_left
 ·cases hr
 rename_i c t m;cases hr;refine⟨rfl,rfl,nLe rfl,?_⟩
 have hm:=mxE;rintro⟨h1,hc1,hc2⟩ bs;obtain⟨rs,rfl,hx,hy⟩:=h1.ex;clear h1;rw[QG];cases hv:(QC c rs&&QJ m)
 ·have e3:(!QC c rs|| !QJ m)=true:=by rw[←Bool.not_and,hv];rfl
  have e:mdL c rs m=[]:=by unfold mdL;rw[hv];rfl
  have e0:dL []=[]:=rfl
  rw[e];clear e hv;(repeat' first|refine gA fun _=>?_|apply fkI<;>intro hb<;>try simp only[ew,e3,e0,Qlz]at hb|simp only[go_sem,simprocAttr, *,Qlz])
 ·have e3:(!QC c rs|| !QJ m)=false:=by rw[←Bool.not_and,hv];rfl
  have e:mdL c rs m=QaJ (hdB c rs m) c:=by unfold mdL;rw[hv];rfl
  rw[e];rw[Bool.and_eq_true]at hv;obtain⟨n,rfl,n1,n5⟩:=Qof hv.1;clear hv e;(repeat' first|refine gA fun _=>?_|apply fkI<;>intro hb<;>try simp only[ew,e3,Qlz]at hb|simp only[go_sem,simprocAttr, *,Qlz])
  all_goals first|rfl|skip
theorem QAr:Qa E0 13 cMD:=by
 refine QV (E:=E0) (T:=mkT Tryz.prog [(27,Qff),(28,Qkh),(29,QtI)] false (fun _=>false) true (fun d=>d==42)) (Qf (E:=E0) (.cons QlR (.cons Qye (.cons QxY .nil)))) (fn:=Tryz.f13) Tryz.func13 (by kernel_rfl) rfl Qe (by kernel_rfl) rfl ?_
 intro args p rs ms hr;unfold cMD at hr;dsimp only at hr;split at hr;rotate_left
 ·cases hr
 rename_i c t m;cases hr;refine⟨rfl,rfl,nLe rfl,?_⟩
 have hm:=mxE;rintro⟨h1,hc1,hc2⟩ bs;obtain⟨rs,rfl,hx,hy⟩:=h1.ex;clear h1;rw[QG];cases hv:(QC c rs&&QJ m)
 ·have e:mdL c rs m=[]:=by unfold mdL;rw[hv];rfl
  have e0:dL []=[]:=rfl
  rw[e];clear e;(repeat' first|refine gA fun _=>?_|apply fkI<;>intro hb<;>try simp only[ew,hv,e0]at hb|simp only[go_sem,simprocAttr, *,hv])
  all_goals first|rfl|skip
 ·have e:mdL c rs m=QaJ (hdB c rs m) c:=by unfold mdL;rw[hv];rfl
  rw[e];have hv2:=hv
  rw[Bool.and_eq_true]at hv2;obtain⟨n,rfl,n1,n5⟩:=Qof hv2.1;have hask:∀i r:Nat,i<(Q9 (n:Nat)).length→r<n→Qbe n rs m ((Q9 (n:Nat)).getD i 0) r=true:=fun i r hi hr=>by
   have hm:=QI hi 0;have hR:=(@QM (n:Nat)).2.1 _ hm
   rw[QaB n5]at hm;have:=((QjK ⟨n,by omega⟩).2 _ hm).2
   rw[←QaB n5]at this;dsimp only at this;unfold Qbe;simp only[Bool.and_eq_true,Q2,Qj,Qh,Qd5,Int.toNat_natCast,Int.one_mul]
   exact⟨hv2,⟨⟨by omega,by omega⟩,⟨by omega,by omega⟩,hR.1,by omega⟩,by omega,by omega⟩
  clear hv2 e;unfold QaJ;rw[Int.toNat_natCast];obtain⟨P1,P2,P3⟩:=@QM (n:Nat);have P1':(Q9 (n:Nat)).length≤maxLen:=Nat.le_trans P1 (by decide)
  clear P2;have hC:=fun r h=>@Qjz (hdB n rs m) n (r:Nat) n5 h (Qnk n5)
  (repeat' first|refine gA fun _=>?_|apply fkI<;>intro hb<;>try simp only[ew,hv]at hb|simp only[go_sem,simprocAttr, *,hv])
  refine lpI {ι:=Nat,rs:=[(8,10),(19,45)],mods:=[(7,fun r=> .one (.d (.v (.int .i64 r)))),(5,fun r=> .one (.own 2 (dL (Qda (hdB n rs m) n r)) 1))],boxes:=[(2,fun _=>[.d (.v (.int .i64 n)),.d (.sl 1 (sL rs))])],arrs:=[(6,fun _=>(1,iL (Q9 (n:Nat)),1))],ok:=fun r=>r≤n,mu:=fun r=>n-r} rfl 0 (Nat.zero_le _) ?_ fun r hr=>?_
  ·clear hask hC P3
   exact gQ
  ·dsimp only at r hr
   have l0:=@Qa6 (hdB n rs m) n r
   have l1:(Qda (hdB n rs m) n r).length≤192:=by omega
   clear l0
   by_cases h5:r<n
   ·have hC:=hC r ⟨by omega,by omega⟩
    have hask:=fun i h=>hask i r h h5
    have eT:Qda (hdB n rs m) n (r+1)=Qda (hdB n rs m) n r++QrJ (hdB n rs m) n (r:Nat):=rfl
    rw[hC]at eT;clear hC;generalize hA:Qda (hdB n rs m) n r=A at l1 eT;generalize hL:Q9 (n:Nat)=L at P1 P1' P3 hask eT;generalize hlo:QkF (hdB n rs m) n (r:Nat)=lo at eT;have hlo':=fun x=>congrFun hlo x
    (repeat' first|refine gA fun _=>?_|apply fkI<;>intro hb<;>try simp only[ew,hA,hL]at hb|simp only[go_sem,simprocAttr, *])
    refine lpI {ι:=Nat,rs:=[(9,10),(25,45)],mods:=[(8,fun i=> .one (.d (.v (.int .i64 i)))),(5,fun i=> .one (.own 2 (dL (A++((L.take i).filter lo).map fun x=>(x,(r:Int)))) 1))],boxes:=[(2,fun _=>[.d (.v (.int .i64 n)),.d (.sl 1 (sL rs))])],arrs:=[(6,fun _=>(1,iL L,1))],ok:=fun i=>i≤L.length,mu:=fun i=>L.length-i} rfl 0 (Nat.zero_le _) ?_ fun i hi=>?_
    ·have e1:A++((L.take 0).filter lo).map (fun x=>(x,(r:Int)))=A:=by simp
     clear hask P3 eT;(repeat' first|refine gA fun _=>?_|apply fkI<;>intro hb<;>try simp only[ew,hL,hA,e1,List.take_zero,List.filter_nil,List.map_nil,List.append_nil]at hb|simp only[go_sem,simprocAttr, *,List.take_zero,List.filter_nil,List.map_nil,List.append_nil])
     all_goals first|rfl|skip
    ·dsimp only at i hi
     have q1:=List.length_filter_le lo (L.take i)
     rw[List.length_take]at q1;have q2:(A++((L.take i).filter lo).map (fun x=>(x,(r:Int)))).length≤256:=by
      rw[List.length_append,List.length_map];omega
     clear q1
     by_cases h6:i<L.length
     ·have eF:=congrArg (fun l=>A++l.map fun x=>(x,(r:Int))) (QcT h6 lo)
      obtain⟨x0,x31⟩:=P3 i h6;have hak:=hask i h6
      have hlx:=hlo' (L.getD i 0)
      clear hask P3;try dsimp only at eF
      generalize hB:A++((L.take i).filter lo).map (fun x=>(x,(r:Int)))=B at q2
      generalize hX:L.getD i 0=x at x0 x31 hak hlx eF;cases hq:lo x
      ·rw[hq,if_neg (by decide),List.append_nil,hB]at eF
       rw[hq]at hlx;clear eT;(repeat' first|refine gA fun _=>?_|apply fkI<;>intro hb<;>try simp only[ew,hA,hB,hX,hak,hlx]at hb|simp only[go_sem,simprocAttr, *])
       refine lpN (i+1) (by dsimp only;omega) (by dsimp only;omega) ?_
       (repeat' first|refine gA fun _=>?_|apply fkI<;>intro hb<;>try simp only[ew,hB,eF]at hb|simp only[go_sem,simprocAttr, *])
      ·rw[hq,if_pos rfl,List.map_append,←List.append_assoc,hB]at eF
       have e7:B++List.map (fun x=>(x,(r:Int))) [x]=B++[(x,(r:Int))]:=rfl
       rw[e7]at eF;rw[hq]at hlx;clear eT e7;(repeat' first|refine gA fun _=>?_|apply fkI<;>intro hb<;>try simp only[ew,hA,hB,hX,hak,hlx,QW]at hb|simp only[go_sem,simprocAttr, *,QW])
       refine lpN (i+1) (by dsimp only;omega) (by dsimp only;omega) ?_
       (repeat' first|refine gA fun _=>?_|apply fkI<;>intro hb<;>try simp only[ew,hB,eF,hX,hlx,QW]at hb|simp only[go_sem,simprocAttr, *,QW])
     ·have e6:i=L.length:=by omega
      subst e6;have eP:L.take L.length=L:=List.take_length
      rw[←hL]at eT;clear hask P3;(repeat' first|refine gA fun _=>?_|apply fkI<;>intro hb<;>try simp only[ew,eP]at hb|simp only[go_sem,simprocAttr, *])
      refine lpN (r+1) (by dsimp only;omega) (by dsimp only;omega) ?_
      rw[hL]at eT;(repeat' first|refine gA fun _=>?_|apply fkI<;>intro hb<;>try simp only[ew,eP,eT]at hb|simp only[go_sem,simprocAttr, *])
   ·have e5:r=n:=by omega
    subst e5;clear hask hC P3;exact gQ
end Go.Own
