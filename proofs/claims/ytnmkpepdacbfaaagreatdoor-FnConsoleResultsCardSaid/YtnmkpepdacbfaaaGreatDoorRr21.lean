/- Own contracts. Conditions: as each theorem states them. -/
import Derived.Test.YtnmkpepdacbfaaaGreatDoorRr20
import Derived.Test.YtnmkpepdacbfaaaGreatDoorRr18
set_option linter.unusedSimpArgs false
set_option linter.unusedVariables false
set_option maxRecDepth 20000
set_option maxHeartbeats 2000000
namespace Go.Own
open Go Go.Proofs
attribute [local go_sem] Qkh Qcf QbQ Tryz.results155 Qaj QhS Tryz.results264 cPd Qap Qak Tryz.results227
attribute [local go_sem] Qm Qc QZ Q1 Q0 Q3 QaH Qdb Qr
def Qw6(f:Nat)(c1 c2:List D)(p:Int→Int→Bool)(n:Int):Qb:=⟨[],false,fun
 | [.one (.v (.int .i64 m)),.fnc g [d1,d2]]=>some (m=n∧g=f∧d1=c1∧d2=c2,[⟨false,[.own 2 (dL (QaJ p n)) 1]⟩],[])
 | _=>none⟩
attribute [local go_sem] Qw6
theorem QAs{f:Nat}{F:List Arg→Option (Prop×List RV×List Arg)}{c1 c2:List D}{p:Int→Int→Bool}{pre:Int→Int→Prop}(hf:Qa E0 f ⟨[],false,F⟩)
  (hF:∀a b,F [.agg [.v (.int .i64 a),.v (.int .i64 b)],.ptr c1,.ptr c2]=some (pre a b,[⟨false,[.d (.v (.bool (p a b)))]⟩],[])) (hpre:∀a b:Int,(0≤a∧a≤31)→(0≤b∧b≤4)→pre a b)
  (g1:(f=149)=False) (g2:(f=198)=False) (g3:(f=169)=False) {n:Int} (hn:0≤n∧n≤5):
  Qa E0 155 (Qw6 f c1 c2 p n):=by
 refine QV (E:=E0) (T:=mkT Tryz.prog [(f,⟨[],false,F⟩),(169,Qkh),(149,Qcf),(198,QbQ)] false (fun _=>false) true (fun _=>false)) (Qf (E:=E0) (.cons hf (.cons Qmj (.cons Qb8 (.cons Qfy .nil))))) (fn:=Tryz.f155) Tryz.func155 (by kernel_rfl) rfl Qe (by kernel_rfl) rfl ?_
 intro args p rs ms hr;unfold Qw6 at hr;dsimp only at hr;split at hr;rotate_left
 ·cases hr
 rename_i m g d1 d2;cases hr;refine⟨rfl,rfl,nLe rfl,?_⟩
 have hm:=mxE;rintro⟨rfl,rfl,rfl,rfl⟩ bs;obtain⟨n0,n5⟩:=hn;obtain⟨c,rfl⟩:=Int.eq_ofNat_of_zero_le n0;unfold QaJ;rw[Int.toNat_natCast];obtain⟨P1,P2,P3⟩:=@QM c;have P1':(Q9 c).length≤maxLen:=Nat.le_trans P1 (by decide)
 (repeat' first|refine gA fun _=>?_|apply fkI<;>intro hb<;>try simp only[ew]at hb|simp only[go_sem,simprocAttr, *])
 refine lpI {ι:=Nat,rs:=[(7,8),(9,10),(11,52)],mods:=[(6,fun r=> .one (.d (.v (.int .i64 r)))),(5,fun r=> .one (.own 2 (dL (Qda p c r)) 1))],boxes:=[],arrs:=[],ok:=fun r=>r≤c,mu:=fun r=>c-r} rfl 0 (Nat.zero_le _) ?_ fun r hr=>?_
 ·exact gQ
 ·dsimp only at r hr
  by_cases h5:r<c
  ·have hr5:r<5:=by omega
   have l0:=@Qa6 p c r
   have l1:(Qda p c r).length≤256:=by omega
   clear l0;(repeat' first|refine gA fun _=>?_|apply fkI<;>intro hb<;>try simp only[ew]at hb|simp only[go_sem,simprocAttr, *])
   refine lpI {ι:=Nat×List Int,rs:=[(9,10),(21,52)],mods:=[(20,fun i=> .one (.d (.v (.int .i64 i.1)))),(7,fun i=> .one (.own 1 (iL i.2) 1)),(5,fun i=> .one (.own 2 (dL (Qda p c r++i.2.map fun x=>(x,(r:Int)))) 1))],boxes:=[],arrs:=[(18,fun _=>(1,iL (Q9 c),1))],ok:=fun i=>pdI p c r i.1 i.2,mu:=fun i=>(Q9 c).length-i.1} rfl (0,[]) QkR ?_ ?_
   ·have e1:Qda p c r++([]:List Int).map (fun x=>(x,(r:Int)))=Qda p c r:=by simp
    (repeat' first|refine gA fun _=>?_|apply fkI<;>intro hb<;>try simp only[ew,e1]at hb|simp only[go_sem,simprocAttr, *])
    all_goals first|rfl|skip
   ·rintro⟨i,tk⟩ hi
    dsimp only at hi;have hi1:=hi.1
    obtain⟨a1,a2⟩:=QpR hr5 hi;have a3:tk.length≤maxLen:=Nat.le_trans a2 (by decide)
    by_cases h6:i<(Q9 c).length
    ·obtain⟨x0,x31⟩:=P3 i h6
     have hsk:=QnU hi h6
     have htak:=QnV hi h6
     generalize hX:(Q9 c).getD i 0=x at x0 x31 hsk htak;have hpr:=hpre x (r:Nat) ⟨x0,x31⟩ ⟨by omega,by omega⟩
     have eT:=@QmH (Qda p c r) tk x r
     clear hi;generalize hA:Qda p c r++tk.map (fun x=>(x,(r:Int)))=acc at a1 eT
     cases hg:(!Qy x (r:Nat)&& !Qcz tk x&&p x (r:Nat))
     ·have hsk:=hsk hg
      clear htak eT;(repeat' first|refine gA fun _=>?_|apply fkI<;>intro hb<;>try simp only[ew,hX,hA,hg,hF]at hb|simp only[go_sem,simprocAttr, *,hg,hF])
      refine lpN (i+1,tk) hsk (by dsimp only;omega) ?_
      clear hsk;(repeat' first|refine gA fun _=>?_|apply fkI<;>intro hb<;>try simp only[ew,hA]at hb|simp only[go_sem,simprocAttr, *])
     ·have htak:=htak hg
      clear hsk;(repeat' first|refine gA fun _=>?_|apply fkI<;>intro hb<;>try simp only[ew,hX,hA,hg,hF,QW,Ql]at hb|simp only[go_sem,simprocAttr, *,hg,hF,QW,Ql])
      refine lpN (i+1,tk++[x]) htak (by dsimp only;omega) ?_
      clear htak;(repeat' first|refine gA fun _=>?_|apply fkI<;>intro hb<;>try simp only[ew,hX,hA,eT,QW,Ql]at hb|simp only[go_sem,simprocAttr, *,QW,Ql])
    ·have e5:i=(Q9 c).length:=by omega
     subst e5;have e2:=QkI hi
     clear hi;(repeat' first|refine gA fun _=>?_|apply fkI<;>intro hb<;>try simp only[ew]at hb|simp only[go_sem,simprocAttr, *])
     refine lpN (r+1) (by dsimp only;omega) (by dsimp only;omega) ?_
     (repeat' first|refine gA fun _=>?_|apply fkI<;>intro hb<;>try simp only[ew,e2]at hb|simp only[go_sem,simprocAttr, *])
  ·have e5:r=c:=by omega
   subst e5;exact gQ
def QBt:Qb:=⟨[],false,fun
 | [.agg [.v (.int .i64 a),.v (.int .i64 b)],.ptr [.v (.int .i64 set)],.ptr [.sl 2 l]]=>some (WfD l∧(∀d∈unD l,Qbo d)∧(0≤a∧a≤31)∧(0≤b∧b≤4),[⟨false,[.d (.v (.bool (pjB (unD l) set a b)))]⟩],[])
 | _=>none⟩
attribute [local go_sem] QBt
theorem QAD:Qa E0 264 QBt:=by
 refine QV (E:=E0) (T:=mkT Tryz.prog [(157,Qaj),(149,Qcf),(164,QhS)] false (fun _=>false) true (fun _=>false)) (Qf (E:=E0) (.cons QaN (.cons Qb8 (.cons Qji .nil)))) (fn:=Tryz.f264) Tryz.func264 (by kernel_rfl) rfl Qe (by kernel_rfl) rfl ?_
 intro args p rs ms hr;unfold QBt at hr;dsimp only at hr;split at hr;rotate_left
 ·cases hr
 rename_i a b set l;cases hr;refine⟨rfl,rfl,nLe rfl,?_⟩
 have hm:=mxE;rintro⟨h1,hd,⟨a0,a31⟩,b0,b4⟩ bs;obtain⟨ds,rfl,hx⟩:=h1.ex;clear h1;rw[Qm]at hd ⊢;unfold pjB;have e:=@Qa0 a set
 (repeat' first|refine gA fun _=>?_|apply fkI<;>intro hb<;>try simp only[ew,e]at hb|simp only[go_sem,simprocAttr, *])
def QvK:Qb:=⟨[],false,fun
 | [.one (.v (.int .i64 n)),.fnc f [[.v (.int .i64 set)],[.sl 2 l]]]=>some (f=264∧WfD l∧(∀d∈unD l,Qbo d)∧0≤n∧n≤5,[⟨false,[.own 2 (dL (QaJ (pjB (unD l) set) n)) 1]⟩],[])
 | _=>none⟩
attribute [local go_sem] QvK
theorem Qmc:Qa E0 155 QvK:=by
 refine⟨⟨Tryz.f155,Tryz.func155,by kernel_rfl,rfl⟩,?_⟩
 intro args p rs ms hr hp;unfold QvK at hr;dsimp only at hr;split at hr
 ·rename_i n f set l
  cases hr;obtain⟨rfl,h1,hd,h0,h5⟩:=hp;exact(QAs (f:=264) (c1:=[.v (.int .i64 set)]) (c2:=[.sl 2 l]) (p:=pjB (unD l) set) QAD (fun a b=>rfl) (fun a b ha hb=>⟨h1,hd,ha,hb⟩) (by simp) (by simp) (by simp) ⟨h0,h5⟩).2 _ _ _ _ rfl ⟨rfl,rfl,rfl,rfl⟩
 ·cases hr
theorem QAE:Qa E0 227 cPd:=by
 refine QV (E:=E0) (T:=mkT Tryz.prog [(163,Qap),(154,Qak),(155,QvK)] false (fun _=>false) true (fun _=>false)) (Qf (E:=E0) (.cons Qa2 (.cons Qbv (.cons Qmc .nil)))) (fn:=Tryz.f227) Tryz.func227 (by kernel_rfl) rfl Qe (by kernel_rfl) rfl ?_
 intro args p rs ms hr;unfold cPd at hr;dsimp only at hr;split at hr;rotate_left
 ·cases hr
 rename_i n l set;cases hr;refine⟨rfl,rfl,nLe rfl,?_⟩
 have hm:=mxE;rintro⟨h1,hn1,hn2⟩ bs;obtain⟨ds,rfl,hx⟩:=h1.ex;clear h1;rw[Qm];cases hv:(Q5 n ds&&Qj n set)
 ·have e3:(!Q5 n ds|| !Qj n set)=true:=by rw[←Bool.not_and,hv];rfl
  have e:pdL n ds set=[]:=by unfold pdL;rw[hv];rfl
  have e0:dL []=[]:=rfl
  rw[e];clear e hv;(repeat' first|refine gA fun _=>?_|apply fkI<;>intro hb<;>try simp only[ew,e3,e0]at hb|simp only[go_sem,simprocAttr, *])
 ·have e3:(!Q5 n ds|| !Qj n set)=false:=by rw[←Bool.not_and,hv];rfl
  have e:pdL n ds set=QaJ (pjB ds set) n:=by unfold pdL;rw[hv];rfl
  rw[e];rw[Bool.and_eq_true]at hv;have hd:=Qbg hv.1
  obtain⟨n0,n5,s0,s31⟩:=Qt hv.2;clear hv e;(repeat' first|refine gA fun _=>?_|apply fkI<;>intro hb<;>try simp only[ew,e3]at hb|simp only[go_sem,simprocAttr, *])
  all_goals first|rfl|skip
end Go.Own

namespace Go.Own
open Go Go.Proofs
attribute [local go_sem] Tryz.results108
theorem QaG{xs:List (Int×Int)}:(∀e∈dL xs,∀x∈e,Qau x)↔True:=by
 refine⟨fun _=>trivial,fun _ e he x hx=>?_⟩
 obtain⟨n,_,rfl⟩:=List.mem_map.1 he;simp at hx
 rcases hx with rfl|rfl<;>trivial
attribute [local go_sem] Qm Qc QZ Q1 Q0 Q3 QaH Qdb Qr QaG
def Qd6(x c:Int):Int:=Qax .andNot .i64 x (1*2^c.toNat)
theorem QqP:∀x:Fin 32,∀c:Fin 5,(0≤Qd6 ((x.val:Nat):Int) ((c.val:Nat):Int)∧Qd6 ((x.val:Nat):Int) ((c.val:Nat):Int)≤((x.val:Nat):Int))∧((Qd6 ((x.val:Nat):Int) ((c.val:Nat):Int)!=((x.val:Nat):Int))=Qy ((x.val:Nat):Int) ((c.val:Nat):Int))∧
  ∀e:Fin 5,Qy (Qd6 ((x.val:Nat):Int) ((c.val:Nat):Int)) ((e.val:Nat):Int)=(Qy ((x.val:Nat):Int) ((e.val:Nat):Int)&& !(e==c)):=by decide+kernel
theorem Qg3{x c:Int}(hx:R5 x)(hc:0≤c∧c≤4):0≤Qd6 x c∧Qd6 x c≤x:=by
 obtain⟨x,rfl⟩:=hx.fin;obtain⟨c,rfl⟩:=c5 hc;exact(QqP x c).1
theorem QBy{x c:Int}(hx:R5 x)(hc:0≤c∧c≤4):R5 (Qd6 x c):=by
 have:=Qg3 hx hc
 have h2:0≤x∧x≤31:=hx
 exact⟨by omega,by omega⟩
theorem QlL{x c e:Int}(hx:R5 x)(hc:0≤c∧c≤4)(he:0≤e∧e≤4):Qy (Qd6 x c) e=(Qy x e&& !(e==c)):=by
 obtain⟨x,rfl⟩:=hx.fin;obtain⟨c,rfl⟩:=c5 hc;obtain⟨e,rfl⟩:=c5 he;rw[(QqP x c).2.2 e];congr 2
 rw[Bool.eq_iff_iff,beq_iff_eq,beq_iff_eq];omega
def Qc1:Qb:=⟨[],false,fun
 | [.one (.sl 2 l)]=>some (WfD l∧l.length≤16777216,[⟨false,[.own 2 (dL (unD l)) 1]⟩],[])
 | _=>none⟩
attribute [local go_sem] Qc1
theorem QeH:Qa E0 108 Qc1:=by
 refine QV (E:=E0) (T:=mkT Tryz.prog [] false (fun _=>false) true (fun _=>false)) (Qf (E:=E0) .nil) (fn:=Tryz.f108) Tryz.func108 (by kernel_rfl) rfl Qe (by kernel_rfl) rfl ?_
 intro args p rs ms hr;unfold Qc1 at hr;dsimp only at hr;split at hr;rotate_left
 ·cases hr
 rename_i l;cases hr;refine⟨rfl,rfl,nLe rfl,?_⟩
 have hm:=mxE;rintro⟨h1,h2⟩ bs;obtain⟨ds,rfl,hx⟩:=h1.ex;clear h1;rw[Qc]at h2;rw[Qm];exact gQ
theorem QqL{ds:List (Int×Int)}{i:Nat}:(dL ds).take i=dL (ds.take i):=by simp[dL,List.map_take]
theorem QqK{ds:List (Int×Int)}{i:Nat}:(dL ds).drop i=dL (ds.drop i):=by simp[dL,List.map_drop]
theorem QvW{xs ys:List (Int×Int)}:dL xs++dL ys=dL (xs++ys):=by simp[dL]
theorem Qo2:∀x s:Fin 32,Qal ((x.val:Nat):Int) ((s.val:Nat):Int)=true→x.val≤s.val:=by decide+kernel
theorem Qrr{x s:Int}(hx:R5 x)(hs:R5 s)(h:Qal x s=true):x≤s:=by
 obtain⟨x,rfl⟩:=hx.fin;obtain⟨s,rfl⟩:=hs.fin;have:=Qo2 x s h
 omega
theorem Qgj{α:Type}{xs:List α}{i:Nat}(h:i<xs.length)(d:α)(f:α→Bool):(xs.take (i+1)).all f=((xs.take i).all f&&f (xs.getD i d)):=by rw[Qk h d,List.all_append];simp
theorem QcT{xs:List Int}{i:Nat}(h:i<xs.length)(f:Int→Bool):(xs.take (i+1)).filter f=(xs.take i).filter f++(if f (xs.getD i 0)then [xs.getD i 0]else []):=by
 rw[Qk h 0,List.filter_append,List.filter_cons,List.filter_nil]
end Go.Own

namespace Go.Own
open Go Go.Proofs
attribute [local go_sem] cPd Qqf Qaj Qcf Tryz.results209 Tryz.results210
attribute [local go_sem] Qm Qc QZ Q1 Q0 Q3 QaH Qdb Qr
def brB(ds:List (Int×Int))(set al:Int)(d:Int×Int):Bool:= !Qal set (clo ds d.1)&& !Qy al d.2
def brk(n:Int)(ds:List (Int×Int))(set al:Int):Option (Int×Int):=(pdL n ds set).find? (brB ds set al)
def QBj(o:Option (Int×Int)):Int×Int:=o.getD (0,0)
theorem Qq6{α:Type}{xs:List α}{i:Nat}(h:i<xs.length)(d:α)(f:α→Bool):(xs.drop i).find? f=if f (xs.getD i d)=true then some (xs.getD i d)else(xs.drop (i+1)).find? f:=by
 rw[QaX h d,List.find?_cons];cases f (xs.getD i d)<;>simp
theorem Qts:∀l x:Fin 32,(Qax .and .i64 ((x.val:Nat):Int) ((l.val:Nat):Int)!=((l.val:Nat):Int))= !Qal ((l.val:Nat):Int) ((x.val:Nat):Int):=by decide+kernel
theorem Qtp{l x:Int}(hl:R5 l)(hx:R5 x):(Qax .and .i64 x l !=l)= !Qal l x:=by
 obtain⟨l,rfl⟩:=hl.fin;obtain⟨x,rfl⟩:=hx.fin;exact Qts l x
def QzF:Qb:=⟨[],false,fun
 | [.one (.v (.int .i64 n)),.one (.sl 2 l),.one (.v (.int .i64 set)),.one (.v (.int .i64 al))]=>some (WfD l∧Q5 n (unD l)=true∧Qj n set=true,
   [⟨true,[.d (.v (.int .i64 (QBj (brk n (unD l) set al)).1)),.d (.v (.int .i64 (QBj (brk n (unD l) set al)).2))]⟩,⟨false,[.d (.v (.bool (brk n (unD l) set al).isSome))]⟩],[])
 | _=>none⟩
attribute [local go_sem] QzF
theorem QzD:Qa E0 209 QzF:=by
 refine QV (E:=E0) (T:=mkT Tryz.prog [(227,cPd),(202,Qqf),(157,Qaj),(149,Qcf)] false (fun _=>false) true (fun _=>false)) (Qf (E:=E0) (.cons QAE (.cons QdO (.cons QaN (.cons Qb8 .nil))))) (fn:=Tryz.f209) Tryz.func209 (by kernel_rfl) rfl Qe (by kernel_rfl) rfl ?_
 intro args p rs ms hr;unfold QzF at hr;dsimp only at hr;split at hr;rotate_left
 ·cases hr
 rename_i n l set al;cases hr;refine⟨rfl,rfl,nLe rfl,?_⟩
 have hm:=mxE;rintro⟨h1,hv1,hv2⟩ bs;obtain⟨ds,rfl,hx⟩:=h1.ex;clear h1;rw[Qm]at hv1 ⊢;have hd:=Qbg hv1
 obtain⟨n0,n5,s0,s31⟩:=Qt hv2;obtain⟨L1,L2,L3⟩:=@QkS n ds set;have L1':(pdL n ds set).length≤maxLen:=Nat.le_trans L1 (by decide)
 unfold brk;clear hv1 hv2;(repeat' first|refine gA fun _=>?_|apply fkI<;>intro hb<;>try simp only[ew]at hb|simp only[go_sem,simprocAttr, *])
 generalize hL:pdL n ds set=L at L1 L1' L2 L3 ⊢;generalize hF:L.find? (brB ds set al)=F;refine lpI {ι:=Nat,rs:=[(9,10),(11,12),(18,37)],mods:=[(17,fun i=> .one (.d (.v (.int .i64 i))))],boxes:=[(8,fun _=>[.d (.v (.int .i64 0)),.d (.v (.int .i64 0))])],arrs:=[(15,fun _=>(2,dL L,1))],ok:=fun i=>i≤L.length∧(L.drop i).find? (brB ds set al)=F,mu:=fun i=>L.length-i} rfl 0 ⟨Nat.zero_le _,hF⟩ ?_ fun i hi=>?_
 ·clear hF
  (repeat' first|refine gA fun _=>?_|apply fkI<;>intro hb<;>try simp only[ew,hL]at hb|simp only[go_sem,simprocAttr, *])
 ·dsimp only at i hi
  obtain⟨hi,ht⟩:=hi;clear hF hL
  by_cases h5:i<L.length
  ·rw[Qq6 h5 (0,0)]at ht
   obtain⟨⟨x0,x31⟩,r0,r4⟩:=L3 i h5;have hc:brB ds set al (L.getD i (0,0))=(!Qal set (clo ds (L.getD i (0,0)).1)&& !Qy al (L.getD i (0,0)).2):=rfl
   rw[Qa0]at hc;cases hq:brB ds set al (L.getD i (0,0))
   ·rw[hq,if_neg (by decide)]at ht
    rw[hq]at hc;replace hc:=hc.symm;clear hq L2 L3;(repeat' first|refine gA fun _=>?_|apply fkI<;>intro hb<;>try simp only[ew,hc]at hb|simp only[go_sem,simprocAttr, *])
    refine lpN (i+1) ⟨by omega,ht⟩ (by dsimp only;omega) ?_
    clear ht;(repeat' first|refine gA fun _=>?_|apply fkI<;>intro hb<;>try simp only[ew,hc]at hb|simp only[go_sem,simprocAttr, *])
   ·rw[hq,if_pos rfl]at ht
    subst ht;rw[hq]at hc;replace hc:=hc.symm;clear hq L2 L3;have e1:QBj (some (L.getD i (0,0)))=L.getD i (0,0):=rfl
    (repeat' first|refine gA fun _=>?_|apply fkI<;>intro hb<;>try simp only[ew,hc,e1]at hb|simp only[go_sem,simprocAttr, *])
    all_goals first|rfl|exact⟨rfl,rfl⟩|exact⟨⟨rfl,rfl⟩,rfl⟩|skip
  ·have e5:i=L.length:=by omega
   subst e5;rw[List.drop_length,List.find?_nil]at ht;subst ht;clear L2 L3;(repeat' first|refine gA fun _=>?_|apply fkI<;>intro hb<;>try simp only[ew]at hb|simp only[go_sem,simprocAttr, *])
   all_goals first|rfl|exact⟨rfl,rfl⟩|exact⟨⟨rfl,rfl⟩,rfl⟩|skip
end Go.Own
