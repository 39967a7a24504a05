/- Contracts. Conditions: as stated. -/
import Derived.Test.YtnmkpepdacbfaaaGreatDoorRp18
set_option linter.all false
set_option maxRecDepth 20000
set_option maxHeartbeats 2000000
namespace Go.Own
open Go Go.Proofs
section
attribute [local go_sem] Qke QcL Qcf Tryz.results155 Qax QjJ Tryz.results264 cPd QT Qak Tryz.results227 Qh Qg Qae Qag Qaf Qaj Qa7 Qd1 Qv
def QAs(f:Nat)(c1 c2:List D)(p:Int→Int→Bool)(n:Int):Qb:=⟨[],false,fun
 | [.one (.v (.int .i64 m)),.fnc g [d1,d2]]=>some (m=n∧g=f∧d1=c1∧d2=c2,[⟨false,[.own 2 (dL (Qa0 p n)) 1]⟩],[])
 | _=>none⟩
attribute [local go_sem] QAs
theorem QDR{f:Nat}{F:List Arg→Option (Prop×List RV×List Arg)}{c1 c2:List D}{p:Int→Int→Bool}{pre:Int→Int→Prop}(hf:Qa E0 f ⟨[],false,F⟩)
  (hF:∀a b,F [.agg [.v (.int .i64 a),.v (.int .i64 b)],.ptr c1,.ptr c2]=some (pre a b,[⟨false,[.d (.v (.bool (p a b)))]⟩],[])) (hpre:∀a b:Int,(0≤a∧a≤31)→(0≤b∧b≤4)→pre a b)
  (g1:(f=149)=False) (g2:(f=198)=False) (g3:(f=169)=False) {n:Int} (hn:0≤n∧n≤5):
  Qa E0 155 (QAs f c1 c2 p n):=by
 refine QG (E:=E0) (T:=mkT Tryz.prog [(f,⟨[],false,F⟩),(169,Qke),(149,QcL),(198,Qcf)] false (fun _=>false) true (fun _=>false)) (Qd (E:=E0) (.cons hf (.cons Qo9 (.cons QcA (.cons QgR .nil))))) (fn:=Tryz.f155) Tryz.func155 kR rfl Qc kR rfl ?_
 intro args p rs ms hr;unfold QAs at hr;dsimp only at hr;split at hr;rotate_left
 ·cases hr
 rename_i m g d1 d2;cases hr;refine⟨rfl,rfl,nLe rfl,?_⟩
 have hm:=mxE;rintro⟨rfl,rfl,rfl,rfl⟩ bs;obtain⟨n0,n5⟩:=hn;obtain⟨c,rfl⟩:=KL n0;unfold Qa0;rw[KE];obtain⟨P1,P2,P3⟩:=@QH c;have P1':(Q8 c).length≤maxLen:=KF P1 (by decide)
 (repeat' first|refine gA fun _=>?_|apply fkI<;>intro hb<;>try simp only[ew]at hb|simp only[go_sem,simprocAttr, *])
 refine lpI {ι:=Nat,rs:=[(7,8),(9,10),(11,52)],mods:=[(6,fun r=> .one (.d (.v (.int .i64 r)))),(5,fun r=> .one (.own 2 (dL (QbJ p c r)) 1))],boxes:=[],arrs:=[],ok:=fun r=>r≤c,mu:=fun r=>c-r} rfl 0 (KJ _) ?_ fun r hr=>?_
 ·exact gQ
 ·dsimp only at r hr
  by_cases h5:r<c
  ·have hr5:r<5:=by omega
   have l0:=@QaV p c r
   have l1:(QbJ p c r).length≤256:=by omega
   clear l0;(repeat' first|refine gA fun _=>?_|apply fkI<;>intro hb<;>try simp only[ew]at hb|simp only[go_sem,simprocAttr, *])
   refine lpI {ι:=Nat×List Int,rs:=[(9,10),(21,52)],mods:=[(20,fun i=> .one (.d (.v (.int .i64 i.1)))),(7,fun i=> .one (.own 1 (iL i.2) 1)),(5,fun i=> .one (.own 2 (dL (QbJ p c r++i.2.map fun x=>(x,(r:Int)))) 1))],boxes:=[],arrs:=[(18,fun _=>(1,iL (Q8 c),1))],ok:=fun i=>pdI p c r i.1 i.2,mu:=fun i=>(Q8 c).length-i.1} rfl (0,[]) Qgg ?_ ?_
   ·have e1:QbJ p c r++([]:List Int).map (fun x=>(x,(r:Int)))=QbJ p c r:=by simp
    (repeat' first|refine gA fun _=>?_|apply fkI<;>intro hb<;>try simp only[ew,e1]at hb|simp only[go_sem,simprocAttr, *])
    all_goals first|rfl|skip
   ·rintro⟨i,tk⟩ hi
    dsimp only at hi;have hi1:=hi.1
    obtain⟨a1,a2⟩:=QkZ hr5 hi;have a3:tk.length≤maxLen:=KF a2 (by decide)
    by_cases h6:i<(Q8 c).length
    ·obtain⟨x0,x31⟩:=P3 i h6
     have hsk:=Qh6 hi h6
     have htak:=Qh7 hi h6
     generalize hX:(Q8 c).getD i 0=x at x0 x31 hsk htak;have hpr:=hpre x (r:Nat) ⟨x0,x31⟩ ⟨by omega,by omega⟩
     have eT:=@QhK (QbJ p c r) tk x r
     clear hi;generalize hA:QbJ p c r++tk.map (fun x=>(x,(r:Int)))=acc at a1 eT
     cases hg:(!Qu x (r:Nat)&& !Qbc tk x&&p x (r:Nat))
     ·have hsk:=hsk hg
      clear htak eT;(repeat' first|refine gA fun _=>?_|apply fkI<;>intro hb<;>try simp only[ew,hX,hA,hg,hF]at hb|simp only[go_sem,simprocAttr, *,hg,hF])
      refine lpN (i+1,tk) hsk (by dsimp only;omega) ?_
      clear hsk;(repeat' first|refine gA fun _=>?_|apply fkI<;>intro hb<;>try simp only[ew,hA]at hb|simp only[go_sem,simprocAttr, *])
     ·have htak:=htak hg
      clear hsk;(repeat' first|refine gA fun _=>?_|apply fkI<;>intro hb<;>try simp only[ew,hX,hA,hg,hF,Qm,Qo]at hb|simp only[go_sem,simprocAttr, *,hg,hF,Qm,Qo])
      refine lpN (i+1,tk++[x]) htak (by dsimp only;omega) ?_
      clear htak;(repeat' first|refine gA fun _=>?_|apply fkI<;>intro hb<;>try simp only[ew,hX,hA,eT,Qm,Qo]at hb|simp only[go_sem,simprocAttr, *,Qm,Qo])
    ·have e5:i=(Q8 c).length:=by omega
     subst e5;have e2:=Qga hi
     clear hi;(repeat' first|refine gA fun _=>?_|apply fkI<;>intro hb<;>try simp only[ew]at hb|simp only[go_sem,simprocAttr, *])
     refine lpQ (r+1) ?_
     (repeat' first|refine gA fun _=>?_|apply fkI<;>intro hb<;>try simp only[ew,e2]at hb|simp only[go_sem,simprocAttr, *])
  ·have e5:r=c:=by omega
   subst e5;exact gQ
def QET:Qb:=⟨[],false,fun
 | [.agg [.v (.int .i64 a),.v (.int .i64 b)],.ptr [.v (.int .i64 set)],.ptr [.sl 2 l]]=>some (WfD l∧(∀d∈unD l,Qbv d)∧(0≤a∧a≤31)∧(0≤b∧b≤4),[⟨false,[.d (.v (.bool (pjB (unD l) set a b)))]⟩],[])
 | _=>none⟩
attribute [local go_sem] QET
theorem QD2:Qa E0 264 QET:=by
 refine QG (E:=E0) (T:=mkT Tryz.prog [(157,Qax),(149,QcL),(164,QjJ)] false (fun _=>false) true (fun _=>false)) (Qd (E:=E0) (.cons Qbe (.cons QcA (.cons Qlw .nil)))) (fn:=Tryz.f264) Tryz.func264 kR rfl Qc kR rfl ?_
 intro args p rs ms hr;unfold QET at hr;dsimp only at hr;split at hr;rotate_left
 ·cases hr
 rename_i a b set l;cases hr;refine⟨rfl,rfl,nLe rfl,?_⟩
 have hm:=mxE;rintro⟨h1,hd,⟨a0,a31⟩,b0,b4⟩ bs;obtain⟨ds,rfl,hx⟩:=h1.ex;clear h1;rw[Qh]at hd ⊢;unfold pjB;have e:=@Qbw a set
 (repeat' first|refine gA fun _=>?_|apply fkI<;>intro hb<;>try simp only[ew,e]at hb|simp only[go_sem,simprocAttr, *])
def Qy7:Qb:=⟨[],false,fun
 | [.one (.v (.int .i64 n)),.fnc f [[.v (.int .i64 set)],[.sl 2 l]]]=>some (f=264∧WfD l∧(∀d∈unD l,Qbv d)∧0≤n∧n≤5,[⟨false,[.own 2 (dL (Qa0 (pjB (unD l) set) n)) 1]⟩],[])
 | _=>none⟩
attribute [local go_sem] Qy7
theorem Qo1:Qa E0 155 Qy7:=by
 refine⟨⟨Tryz.f155,Tryz.func155,by kernel_rfl,rfl⟩,?_⟩
 intro args p rs ms hr hp;unfold Qy7 at hr;dsimp only at hr;split at hr
 ·rename_i n f set l
  cases hr;obtain⟨rfl,h1,hd,h0,h5⟩:=hp;exact(QDR (f:=264) (c1:=[.v (.int .i64 set)]) (c2:=[.sl 2 l]) (p:=pjB (unD l) set) QD2 (fun a b=>rfl) (fun a b ha hb=>⟨h1,hd,ha,hb⟩) (by simp) (by simp) (by simp) ⟨h0,h5⟩).2 _ _ _ _ rfl ⟨rfl,rfl,rfl,rfl⟩
 ·cases hr
theorem QD3:Qa E0 227 cPd:=by
 refine QG (E:=E0) (T:=mkT Tryz.prog [(163,QT),(154,Qak),(155,Qy7)] false (fun _=>false) true (fun _=>false)) (Qd (E:=E0) (.cons Qby (.cons QbW (.cons Qo1 .nil)))) (fn:=Tryz.f227) Tryz.func227 kR rfl Qc kR rfl ?_
 intro args p rs ms hr;unfold cPd at hr;dsimp only at hr;split at hr;rotate_left
 ·cases hr
 rename_i n l set;cases hr;refine⟨rfl,rfl,nLe rfl,?_⟩
 have hm:=mxE;rintro⟨h1,hn1,hn2⟩ bs;obtain⟨ds,rfl,hx⟩:=h1.ex;clear h1;rw[Qh];cases hv:(QJ n ds&&Ql n set)
 ·have e3:(!QJ n ds|| !Ql n set)=true:=by rw[←YS,hv];rfl
  have e:pdL n ds set=[]:=by unfold pdL;rw[hv];rfl
  have e0:dL []=[]:=rfl
  rw[e];clear e hv;(repeat' first|refine gA fun _=>?_|apply fkI<;>intro hb<;>try simp only[ew,e3,e0]at hb|simp only[go_sem,simprocAttr, *])
 ·have e3:(!QJ n ds|| !Ql n set)=false:=by rw[←YS,hv];rfl
  have e:pdL n ds set=Qa0 (pjB ds set) n:=by unfold pdL;rw[hv];rfl
  rw[e];rw[KB]at hv;have hd:=QaE hv.1
  obtain⟨n0,n5,s0,s31⟩:=Qq hv.2;clear hv e;(repeat' first|refine gA fun _=>?_|apply fkI<;>intro hb<;>try simp only[ew,e3]at hb|simp only[go_sem,simprocAttr, *])
  all_goals first|rfl|skip
end
section
attribute [local go_sem] Tryz.results108
theorem Qa6{xs:List (Int×Int)}:(∀e∈dL xs,∀x∈e,QaO x)↔True:=by
 refine⟨fun _=>trivial,fun _ e he x hx=>?_⟩
 obtain⟨n,_,rfl⟩:=KQ.1 he;simp at hx
 rcases hx with rfl|rfl<;>trivial
attribute [local go_sem] Qh Qg Qae Qag Qaf Qaj Qa7 Qd1 Qv Qa6
def Qdv(x c:Int):Int:=QV .andNot .i64 x (1*2^c.toNat)
theorem QoD:∀x:Fin 32,∀c:Fin 5,(0≤Qdv ((x.val:Nat):Int) ((c.val:Nat):Int)∧Qdv ((x.val:Nat):Int) ((c.val:Nat):Int)≤((x.val:Nat):Int))∧((Qdv ((x.val:Nat):Int) ((c.val:Nat):Int)!=((x.val:Nat):Int))=Qu ((x.val:Nat):Int) ((c.val:Nat):Int))∧
  ∀e:Fin 5,Qu (Qdv ((x.val:Nat):Int) ((c.val:Nat):Int)) ((e.val:Nat):Int)=(Qu ((x.val:Nat):Int) ((e.val:Nat):Int)&& !(e==c)):=by decide+kernel
theorem Qhl{x c:Int}(hx:R5 x)(hc:0≤c∧c≤4):0≤Qdv x c∧Qdv x c≤x:=by
 obtain⟨x,rfl⟩:=hx.fin;obtain⟨c,rfl⟩:=c5 hc;exact(QoD x c).1
theorem QEY{x c:Int}(hx:R5 x)(hc:0≤c∧c≤4):R5 (Qdv x c):=by
 have:=Qhl hx hc
 have h2:0≤x∧x≤31:=hx
 exact⟨by omega,by omega⟩
theorem QDq{x c:Int}(hx:R5 x)(hc:0≤c∧c≤4):(Qdv x c !=x)=Qu x c:=by
 obtain⟨x,rfl⟩:=hx.fin;obtain⟨c,rfl⟩:=c5 hc;exact(QoD x c).2.1
theorem QoC{x c e:Int}(hx:R5 x)(hc:0≤c∧c≤4)(he:0≤e∧e≤4):Qu (Qdv x c) e=(Qu x e&& !(e==c)):=by
 obtain⟨x,rfl⟩:=hx.fin;obtain⟨c,rfl⟩:=c5 hc;obtain⟨e,rfl⟩:=c5 he;rw[(QoD x c).2.2 e];congr 2
 rw[Kp,Kh,Kh];omega
def QdS:Qb:=⟨[],false,fun
 | [.one (.sl 2 l)]=>some (WfD l∧l.length≤16777216,[⟨false,[.own 2 (dL (unD l)) 1]⟩],[])
 | _=>none⟩
attribute [local go_sem] QdS
theorem QfU:Qa E0 108 QdS:=by
 refine QG (E:=E0) (T:=mkT Tryz.prog [] false (fun _=>false) true (fun _=>false)) (Qd (E:=E0) .nil) (fn:=Tryz.f108) Tryz.func108 kR rfl Qc kR rfl ?_
 intro args p rs ms hr;unfold QdS at hr;dsimp only at hr;split at hr;rotate_left
 ·cases hr
 rename_i l;cases hr;refine⟨rfl,rfl,nLe rfl,?_⟩
 have hm:=mxE;rintro⟨h1,h2⟩ bs;obtain⟨ds,rfl,hx⟩:=h1.ex;clear h1;rw[Qg]at h2;rw[Qh];exact gQ
theorem Qli{ds:List (Int×Int)}{i:Nat}:(dL ds).take i=dL (ds.take i):=by simp[dL,List.map_take]
theorem Qlh{ds:List (Int×Int)}{i:Nat}:(dL ds).drop i=dL (ds.drop i):=by simp[dL,List.map_drop]
theorem QpV{xs ys:List (Int×Int)}:dL xs++dL ys=dL (xs++ys):=by simp[dL]
theorem Qsh:∀x s:Fin 32,Qab ((x.val:Nat):Int) ((s.val:Nat):Int)=true→x.val≤s.val:=by decide+kernel
theorem QuF{x s:Int}(hx:R5 x)(hs:R5 s)(h:Qab x s=true):x≤s:=by
 obtain⟨x,rfl⟩:=hx.fin;obtain⟨s,rfl⟩:=hs.fin;have:=Qsh x s h
 omega
theorem QeF{α:Type}{xs:List α}{i:Nat}(h:i<xs.length)(d:α)(f:α→Bool):(xs.take (i+1)).all f=((xs.take i).all f&&f (xs.getD i d)):=by rw[Qf h d,List.all_append];simp
theorem Qcz{xs:List Int}{i:Nat}(h:i<xs.length)(f:Int→Bool):(xs.take (i+1)).filter f=(xs.take i).filter f++(if f (xs.getD i 0)then [xs.getD i 0]else []):=by
 rw[Qf h 0,List.filter_append,List.filter_cons,List.filter_nil]
end
attribute [local go_sem] cPd Qk7 Qax QcL Tryz.results209 Tryz.results210 Qh Qg Qae Qag Qaf Qaj Qa7 Qd1 Qv
def brB(ds:List (Int×Int))(set al:Int)(d:Int×Int):Bool:= !Qab set (clo ds d.1)&& !Qu al d.2
def brk(n:Int)(ds:List (Int×Int))(set al:Int):Option (Int×Int):=(pdL n ds set).find? (brB ds set al)
def QzB(o:Option (Int×Int)):Int×Int:=o.getD (0,0)
theorem QmZ{α:Type}{xs:List α}{i:Nat}(h:i<xs.length)(d:α)(f:α→Bool):(xs.drop i).find? f=if f (xs.getD i d)=true then some (xs.getD i d)else(xs.drop (i+1)).find? f:=by
 rw[QaZ h d,List.find?_cons];cases f (xs.getD i d)<;>simp
theorem QwK:∀l x:Fin 32,(QV .and .i64 ((x.val:Nat):Int) ((l.val:Nat):Int)!=((l.val:Nat):Int))= !Qab ((l.val:Nat):Int) ((x.val:Nat):Int):=by decide+kernel
theorem Qk3{l x:Int}(hl:R5 l)(hx:R5 x):(QV .and .i64 x l !=l)= !Qab l x:=by
 obtain⟨l,rfl⟩:=hl.fin;obtain⟨x,rfl⟩:=hx.fin;exact QwK l x
theorem Quv{c:Int}(h:0≤c∧c≤4):Qu 0 c=false:=by
 obtain⟨c,rfl⟩:=c5 h;have:∀c:Fin 5,Qu 0 ((c.val:Nat):Int)=false:=by decide+kernel
 exact this c
def QDa:Qb:=⟨[],false,fun
 | [.one (.v (.int .i64 n)),.one (.sl 2 l),.one (.v (.int .i64 set)),.one (.v (.int .i64 al))]=>some (WfD l∧QJ n (unD l)=true∧Ql n set=true,
   [⟨true,[.d (.v (.int .i64 (QzB (brk n (unD l) set al)).1)),.d (.v (.int .i64 (QzB (brk n (unD l) set al)).2))]⟩,⟨false,[.d (.v (.bool (brk n (unD l) set al).isSome))]⟩],[])
 | _=>none⟩
attribute [local go_sem] QDa
theorem QC7:Qa E0 209 QDa:=by
 refine QG (E:=E0) (T:=mkT Tryz.prog [(227,cPd),(202,Qk7),(157,Qax),(149,QcL)] false (fun _=>false) true (fun _=>false)) (Qd (E:=E0) (.cons QD3 (.cons QeH (.cons Qbe (.cons QcA .nil))))) (fn:=Tryz.f209) Tryz.func209 kR rfl Qc kR rfl ?_
 intro args p rs ms hr;unfold QDa at hr;dsimp only at hr;split at hr;rotate_left
 ·cases hr
 rename_i n l set al;cases hr;refine⟨rfl,rfl,nLe rfl,?_⟩
 have hm:=mxE;rintro⟨h1,hv1,hv2⟩ bs;obtain⟨ds,rfl,hx⟩:=h1.ex;clear h1;rw[Qh]at hv1 ⊢;have hd:=QaE hv1
 obtain⟨n0,n5,s0,s31⟩:=Qq hv2;obtain⟨L1,L2,L3⟩:=@Qjl n ds set;have L1':(pdL n ds set).length≤maxLen:=KF L1 (by decide)
 unfold brk;clear hv1 hv2;(repeat' first|refine gA fun _=>?_|apply fkI<;>intro hb<;>try simp only[ew]at hb|simp only[go_sem,simprocAttr, *])
 generalize hL:pdL n ds set=L at L1 L1' L2 L3 ⊢;generalize hF:L.find? (brB ds set al)=F;refine lpI {ι:=Nat,rs:=[(9,10),(11,12),(18,37)],mods:=[(17,fun i=> .one (.d (.v (.int .i64 i))))],boxes:=[(8,fun _=>[.d (.v (.int .i64 0)),.d (.v (.int .i64 0))])],arrs:=[(15,fun _=>(2,dL L,1))],ok:=fun i=>i≤L.length∧(L.drop i).find? (brB ds set al)=F,mu:=fun i=>L.length-i} rfl 0 ⟨KJ _,hF⟩ ?_ fun i hi=>?_
 ·clear hF
  (repeat' first|refine gA fun _=>?_|apply fkI<;>intro hb<;>try simp only[ew,hL]at hb|simp only[go_sem,simprocAttr, *])
 ·dsimp only at i hi
  obtain⟨hi,ht⟩:=hi;clear hF hL
  by_cases h5:i<L.length
  ·rw[QmZ h5 (0,0)]at ht
   obtain⟨⟨x0,x31⟩,r0,r4⟩:=L3 i h5;have hc:brB ds set al (L.getD i (0,0))=(!Qab set (clo ds (L.getD i (0,0)).1)&& !Qu al (L.getD i (0,0)).2):=rfl
   rw[Qbw]at hc;cases hq:brB ds set al (L.getD i (0,0))
   ·rw[hq,if_neg (by decide)]at ht
    rw[hq]at hc;replace hc:=hc.symm;clear hq L2 L3;(repeat' first|refine gA fun _=>?_|apply fkI<;>intro hb<;>try simp only[ew,hc]at hb|simp only[go_sem,simprocAttr, *])
    refine lpN (i+1) ⟨by omega,ht⟩ (by dsimp only;omega) ?_
    clear ht;(repeat' first|refine gA fun _=>?_|apply fkI<;>intro hb<;>try simp only[ew,hc]at hb|simp only[go_sem,simprocAttr, *])
   ·rw[hq,if_pos rfl]at ht
    subst ht;rw[hq]at hc;replace hc:=hc.symm;clear hq L2 L3;have e1:QzB (some (L.getD i (0,0)))=L.getD i (0,0):=rfl
    (repeat' first|refine gA fun _=>?_|apply fkI<;>intro hb<;>try simp only[ew,hc,e1]at hb|simp only[go_sem,simprocAttr, *])
    all_goals first|rfl|exact⟨rfl,rfl⟩|exact⟨⟨rfl,rfl⟩,rfl⟩|skip
  ·have e5:i=L.length:=by omega
   subst e5;rw[K7,List.find?_nil]at ht;subst ht;clear L2 L3;(repeat' first|refine gA fun _=>?_|apply fkI<;>intro hb<;>try simp only[ew]at hb|simp only[go_sem,simprocAttr, *])
   all_goals first|rfl|exact⟨rfl,rfl⟩|exact⟨⟨rfl,rfl⟩,rfl⟩|skip
def QC9:Qb:=⟨[],false,fun
 | [.one (.v (.int .i64 n)),.one (.sl 2 l),.one (.v (.int .i64 set))]=>some (WfD l∧ -9223372036854775808≤n∧n≤9223372036854775807,
   [⟨true,[.d (.v (.int .i64 (QzB (brk n (unD l) set 0)).1)),.d (.v (.int .i64 (QzB (brk n (unD l) set 0)).2))]⟩,⟨false,[.d (.v (.bool (brk n (unD l) set 0).isSome))]⟩],[])
 | _=>none⟩
attribute [local go_sem] QC9
theorem QC4:Qa E0 210 QC9:=by
 refine QG (E:=E0) (T:=mkT Tryz.prog [(228,cPd),(127,Qk7)] false (fun _=>false) true (fun _=>false)) (Qd (E:=E0) (.cons QD4 (.cons Qco .nil))) (fn:=Tryz.f210) Tryz.func210 kR rfl Qc kR rfl ?_
 intro args p rs ms hr;unfold QC9 at hr;dsimp only at hr;split at hr;rotate_left
 ·cases hr
 rename_i n l set;cases hr;refine⟨rfl,rfl,nLe rfl,?_⟩
 have hm:=mxE;rintro⟨h1,hn1,hn2⟩ bs;obtain⟨ds,rfl,hx⟩:=h1.ex;clear h1;rw[Qh];obtain⟨L1,L2,L3⟩:=@Qjl n ds set;have L1':(pdL n ds set).length≤maxLen:=KF L1 (by decide)
 have hv:(pdL n ds set).length≠0→(∀d∈ds,Qbv d)∧0≤set∧set≤31:=by
  intro h;unfold pdL at h;split at h
  ·rename_i hv
   rw[KB]at hv;have:=Qq hv.2
   exact⟨QaE hv.1,this.2.2⟩
  ·exact absurd rfl h
 unfold brk;(repeat' first|refine gA fun _=>?_|apply fkI<;>intro hb<;>try simp only[ew]at hb|simp only[go_sem,simprocAttr, *])
 generalize hL:pdL n ds set=L at L1 L1' L2 L3 hv ⊢;generalize hF:L.find? (brB ds set 0)=F;refine lpI {ι:=Nat,rs:=[(7,8),(14,35)],mods:=[(9,fun i=> .one (.d (.v (.int .i64 i))))],boxes:=[(6,fun _=>[.d (.v (.int .i64 0)),.d (.v (.int .i64 0))])],arrs:=[(8,fun _=>(2,dL L,1))],ok:=fun i=>i≤L.length∧(L.drop i).find? (brB ds set 0)=F,mu:=fun i=>L.length-i} rfl 0 ⟨KJ _,hF⟩ ?_ fun i hi=>?_
 ·clear hF hv
  (repeat' first|refine gA fun _=>?_|apply fkI<;>intro hb<;>try simp only[ew,hL]at hb|simp only[go_sem,simprocAttr, *])
 ·dsimp only at i hi
  obtain⟨hi,ht⟩:=hi;clear hF hL
  by_cases h5:i<L.length
  ·rw[QmZ h5 (0,0)]at ht
   obtain⟨hd,s0,s31⟩:=hv (by omega)
   obtain⟨⟨x0,x31⟩,r0,r4⟩:=L3 i h5;have hR:=Qou hd ⟨x0,x31⟩
   have ea:=Qk3 (l:=set) (x:=clo ds (L.getD i (0,0)).1) ⟨s0,s31⟩ hR
   have hz:=@Quv (L.getD i (0,0)).2 ⟨r0,r4⟩
   have hc:brB ds set 0 (L.getD i (0,0))= !Qab set (clo ds (L.getD i (0,0)).1):=by unfold brB;rw[hz,YU,Yd]
   rw[←hc]at ea;clear hc hz;cases hq:brB ds set 0 (L.getD i (0,0))
   ·rw[hq,if_neg (by decide)]at ht
    rw[hq]at ea;clear hq L2 L3;(repeat' first|refine gA fun _=>?_|apply fkI<;>intro hb<;>try simp only[ew,ea]at hb|simp only[go_sem,simprocAttr, *])
    refine lpN (i+1) ⟨by omega,ht⟩ (by dsimp only;omega) ?_
    clear ht;(repeat' first|refine gA fun _=>?_|apply fkI<;>intro hb<;>try simp only[ew,ea]at hb|simp only[go_sem,simprocAttr, *])
   ·rw[hq,if_pos rfl]at ht
    subst ht;rw[hq]at ea;clear hq L2 L3;have e1:QzB (some (L.getD i (0,0)))=L.getD i (0,0):=rfl
    (repeat' first|refine gA fun _=>?_|apply fkI<;>intro hb<;>try simp only[ew,ea,e1]at hb|simp only[go_sem,simprocAttr, *])
    all_goals first|rfl|exact⟨rfl,rfl⟩|exact⟨⟨rfl,rfl⟩,rfl⟩|skip
  ·have e5:i=L.length:=by omega
   subst e5;rw[K7,List.find?_nil]at ht;subst ht;clear L2 L3 hv;(repeat' first|refine gA fun _=>?_|apply fkI<;>intro hb<;>try simp only[ew]at hb|simp only[go_sem,simprocAttr, *])
   all_goals first|rfl|exact⟨rfl,rfl⟩|exact⟨⟨rfl,rfl⟩,rfl⟩|skip
end Go.Own
