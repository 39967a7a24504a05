/- Contracts. Conditions: as stated. -/
import Derived.Test.YtnmkpepdacbfaaaGreatDoorRp17
set_option linter.all false
set_option maxRecDepth 20000
set_option maxHeartbeats 2000000
namespace Go.Own
open Go Go.Proofs
attribute [local go_sem] Qax Tryz.results198 Tryz.results121 QT Qak Qke Qk7 Tryz.results228
def Qcf:Qb:=⟨[],false,fun
 | [.one (.sl 1 l),.one (.v (.int .i64 x))]=>some (WfI l,[⟨false,[.d (.v (.bool (Qbc (unI l) x)))]⟩],[])
 | _=>none⟩
attribute [local go_sem] Qcf
theorem QfI{α:Type}{xs:List α}{i:Nat}(h:i<xs.length)(d:α)(f:α→Bool):(xs.drop i).any f=(f (xs.getD i d)||(xs.drop (i+1)).any f):=by rw[QaZ h d,List.any_cons]
theorem QgR:Qa E0 198 Qcf:=by
 refine QG (E:=E0) (T:=mkT Tryz.prog [(157,Qax)] false (fun _=>false) true (fun _=>false)) (Qd (E:=E0) (.cons Qbe .nil)) (fn:=Tryz.f198) Tryz.func198 kR rfl Qc kR rfl ?_
 intro args p rs ms hr;unfold Qcf at hr;dsimp only at hr;split at hr;rotate_left
 ·cases hr
 rename_i l x;cases hr;refine⟨rfl,rfl,nLe rfl,?_⟩
 have hm:=mxE;intro h1 bs;obtain⟨xs,rfl,hx⟩:=h1.ex;clear h1;rw[QaH];unfold Qbc;(repeat' first|refine gA fun _=>?_|apply fkI<;>intro hb<;>try simp only[ew]at hb|simp only[go_sem,simprocAttr, *])
 refine lpI {ι:=Nat,rs:=[(4,5),(6,7),(10,17)],mods:=[(9,fun i=> .one (.d (.v (.int .i64 i))))],boxes:=[],arrs:=[],ok:=fun i=>i≤xs.length∧(xs.drop i).any (fun y=>Qab y x)=xs.any (fun y=>Qab y x),mu:=fun i=>xs.length-i} rfl 0 ⟨KJ _,rfl⟩ ?_ fun i hi=>?_
 ·exact gQ
 ·dsimp only at i hi
  obtain⟨hi,ht⟩:=hi
  by_cases h5:i<xs.length
  ·rw[QfI h5 0]at ht
   cases hq:Qab (xs.getD i 0) x
   ·rw[hq,K8]at ht
    rw[Qbw]at hq;(repeat' first|refine gA fun _=>?_|apply fkI<;>intro hb<;>try simp only[ew,hq]at hb|simp only[go_sem,simprocAttr, *,hq])
    refine lpN (i+1) ⟨by omega,ht⟩ (by dsimp only;omega) ?_
    clear ht;(repeat' first|refine gA fun _=>?_|apply fkI<;>intro hb<;>try simp only[ew,hq]at hb|simp only[go_sem,simprocAttr, *,hq])
   ·rw[hq,YC]at ht
    rw[←ht];rw[Qbw]at hq;clear ht;(repeat' first|refine gA fun _=>?_|apply fkI<;>intro hb<;>try simp only[ew,hq]at hb|simp only[go_sem,simprocAttr, *,hq])
  ·have e5:i=xs.length:=by omega
   subst e5;rw[K7,List.any_nil]at ht;rw[←ht];clear ht;exact gQ
attribute [local go_sem] Qh Qg Qae Qag Qaf Qaj Qa7 Qd1 Qv
def Qy4:Qb:=⟨[],false,fun
 | [.one (.sl 2 l),.agg [.v (.int .i64 a),.v (.int .i64 b)]]=>some (WfD l,[⟨false,[.d (.v (.bool (cov (unD l) (a,b))))]⟩],[])
 | _=>none⟩
attribute [local go_sem] Qy4
theorem Qt5:Qa E0 121 Qy4:=by
 refine QG (E:=E0) (T:=mkT Tryz.prog [] false (fun _=>false) true (fun _=>false)) (Qd (E:=E0) .nil) (fn:=Tryz.f121) Tryz.func121 kR rfl Qc kR rfl ?_
 intro args p rs ms hr;unfold Qy4 at hr;dsimp only at hr;split at hr;rotate_left
 ·cases hr
 rename_i l a b;cases hr;refine⟨rfl,rfl,nLe rfl,?_⟩
 have hm:=mxE;intro h1 bs;obtain⟨ds,rfl,hx⟩:=h1.ex;clear h1;rw[Qh];unfold cov;(repeat' first|refine gA fun _=>?_|apply fkI<;>intro hb<;>try simp only[ew]at hb|simp only[go_sem,simprocAttr, *])
 refine lpI {ι:=Nat,rs:=[(4,5),(6,36)],mods:=[(5,fun i=> .one (.d (.v (.int .i64 i))))],boxes:=[(3,fun _=>[.d (.v (.int .i64 a)),.d (.v (.int .i64 b))])],arrs:=[],ok:=fun i=>i≤ds.length∧(ds.drop i).any (QhF (a,b))=ds.any (QhF (a,b)),mu:=fun i=>ds.length-i} rfl 0 ⟨KJ _,rfl⟩ ?_ fun i hi=>?_
 ·exact gQ
 ·dsimp only at i hi
  obtain⟨hi,ht⟩:=hi
  by_cases h5:i<ds.length
  ·rw[QfI h5 (0,0)]at ht
   have hc:QhF (a,b) (ds.getD i (0,0))=((ds.getD i (0,0)).2==b&&(QV .and .i64 (ds.getD i (0,0)).1 a==(ds.getD i (0,0)).1)):=rfl
   cases hq:QhF (a,b) (ds.getD i (0,0))
   ·rw[hq,K8]at ht
    rw[hq]at hc;replace hc:=hc.symm;clear hq;(repeat' first|refine gA fun _=>?_|apply fkI<;>intro hb<;>try simp only[ew,hc]at hb|simp only[go_sem,simprocAttr, *])
    refine lpN (i+1) ⟨by omega,ht⟩ (by dsimp only;omega) ?_
    clear ht;(repeat' first|refine gA fun _=>?_|apply fkI<;>intro hb<;>try simp only[ew,hc]at hb|simp only[go_sem,simprocAttr, *])
   ·rw[hq,YC]at ht
    rw[←ht];rw[hq]at hc;replace hc:=hc.symm;clear hq ht;(repeat' first|refine gA fun _=>?_|apply fkI<;>intro hb<;>try simp only[ew,hc]at hb|simp only[go_sem,simprocAttr, *])
  ·have e5:i=ds.length:=by omega
   subst e5;rw[K7,List.any_nil]at ht;rw[←ht];clear ht;exact gQ
def cPd:Qb:=⟨[],false,fun
 | [.one (.v (.int .i64 n)),.one (.sl 2 l),.one (.v (.int .i64 x))]=>some (WfD l∧ -9223372036854775808≤n∧n≤9223372036854775807,[⟨false,[.own 2 (dL (pdL n (unD l) x)) 1]⟩],[])
 | _=>none⟩
attribute [local go_sem] cPd
def pdI(p:Int→Int→Bool)(n:Int)(r:Nat)(i:Nat)(tk:List Int):Prop:=i≤(Q8 n).length∧(∀y∈tk,0≤y∧y≤31)∧tk.length≤i∧QjG p r tk ((Q8 n).drop i)=QjG p r [] (Q8 n)
theorem Qgg{p:Int→Int→Bool}{n:Int}{r:Nat}:pdI p n r 0 []:=⟨KJ _,by simp,KP _,rfl⟩
theorem Qh6{p:Int→Int→Bool}{n:Int}{r i:Nat}{tk:List Int}(h:pdI p n r i tk)(h5:i<(Q8 n).length)(hc:(!Qu ((Q8 n).getD i 0) r&& !Qbc tk ((Q8 n).getD i 0)&&p ((Q8 n).getD i 0) r)=false):pdI p n r (i+1) tk:=by
 obtain⟨h1,h2,h3,h4⟩:=h;refine⟨h5,h2,by omega,?_⟩
 rw[Qu1 h5,hc,if_neg (by decide)]at h4
 exact h4
theorem Qh7{p:Int→Int→Bool}{n:Int}{r i:Nat}{tk:List Int}(h:pdI p n r i tk)(h5:i<(Q8 n).length)(hc:(!Qu ((Q8 n).getD i 0) r&& !Qbc tk ((Q8 n).getD i 0)&&p ((Q8 n).getD i 0) r)=true):pdI p n r (i+1) (tk++[(Q8 n).getD i 0]):=by
 obtain⟨h1,h2,h3,h4⟩:=h;refine⟨h5,fun y hy=>?_,by rw[KN];simp;omega,?_⟩
 ·rcases KG.1 hy with hy|hy
  ·exact h2 y hy
  ·rw[KH]at hy
   subst hy;exact(@QH n).2.2 i h5
 ·rw[Qu1 h5,hc,if_pos rfl]at h4
  exact h4
theorem QBL{p:Int→Int→Bool}{n:Int}{r:Nat}{tk:List Int}(h:pdI p n r (Q8 n).length tk):tk.map (fun x=>(x,(r:Int)))=Qss p n r:=by
 obtain⟨h1,h2,h3,h4⟩:=h;rw[K7,QjG]at h4;unfold Qss;rw[←h4]
theorem Qga{p:Int→Int→Bool}{n:Int}{r:Nat}{tk:List Int}(h:pdI p n r (Q8 n).length tk):QbJ p n r++tk.map (fun x=>(x,(r:Int)))=QbJ p n (r+1):=by rw[QBL h];rfl
theorem Qu3{p:Int→Int→Bool}{n:Int}{r:Nat}(h:∀x,p x r=false):QbJ p n r=QbJ p n (r+1):=by rw[QbJ,Qu0 h,KM]
theorem QhK{T:List (Int×Int)}{tk:List Int}{x r:Int}:T++(tk++[x]).map (fun x=>(x,r))=(T++tk.map fun x=>(x,r))++[(x,r)]:=by simp
theorem QkZ{p:Int→Int→Bool}{n:Int}{r i:Nat}{tk:List Int}(hr:r<5)(h:pdI p n r i tk):(QbJ p n r++tk.map fun x=>(x,(r:Int))).length≤256∧tk.length≤32:=by
 have h1:=@QaV p n r
 have h2:=(@QH n).1
 have h3:=h.1
 have h4:=h.2.2.1
 rw[KN,KV];omega
theorem QD4:Qa E0 228 cPd:=by
 refine QG (E:=E0) (T:=mkT Tryz.prog [(126,QT),(66,Qak),(28,Qke),(127,Qk7),(121,Qy4)] false (fun _=>false) true (fun _=>false)) (Qd (E:=E0) (.cons Qbz (.cons Qcq (.cons QlW (.cons Qco (.cons Qt5 .nil)))))) (fn:=Tryz.f228) Tryz.func228 kR rfl Qc kR rfl ?_
 intro args p rs ms hr;unfold cPd at hr;dsimp only at hr;split at hr;rotate_left
 ·cases hr
 rename_i n l set;cases hr;refine⟨rfl,rfl,nLe rfl,?_⟩
 have hm:=mxE;rintro⟨h1,hn1,hn2⟩ bs;obtain⟨ds,rfl,hx⟩:=h1.ex;clear h1;rw[Qh];cases hv:(QJ n ds&&Ql n set)
 ·have e3:(!QJ n ds|| !Ql n set)=true:=by rw[←YS,hv];rfl
  have e:pdL n ds set=[]:=by unfold pdL;rw[hv];rfl
  have e0:dL []=[]:=rfl
  rw[e];clear e hv;(repeat' first|refine gA fun _=>?_|apply fkI<;>intro hb<;>try simp only[ew,e3,e0]at hb|simp only[go_sem,simprocAttr, *])
 ·have e3:(!QJ n ds|| !Ql n set)=false:=by rw[←YS,hv];rfl
  have e:pdL n ds set=QbJ (pjB ds set) n n.toNat:=by unfold pdL;rw[hv];rfl
  rw[e];rw[KB]at hv;have hd:=QaE hv.1
  obtain⟨n0,n5,s0,s31⟩:=Qq hv.2;clear hv e;obtain⟨c,rfl⟩:=KL n0;rw[KE];obtain⟨P1,P2,P3⟩:=@QH c;have P1':(Q8 c).length≤maxLen:=KF P1 (by decide)
  (repeat' first|refine gA fun _=>?_|apply fkI<;>intro hb<;>try simp only[ew,e3]at hb|simp only[go_sem,simprocAttr, *])
  clear e3;refine lpI {ι:=Nat,rs:=[(10,12),(26,91)],mods:=[(9,fun r=> .one (.d (.v (.int .i64 r)))),(7,fun r=> .one (.own 2 (dL (QbJ (pjB ds set) c r)) 1))],boxes:=[],arrs:=[(8,fun _=>(1,iL (Q8 c),1))],ok:=fun r=>r≤c,mu:=fun r=>c-r} rfl 0 (KJ _) ?_ fun r hr=>?_
  ·exact gQ
  ·dsimp only at r hr
   by_cases h5:r<c
   ·have hr5:r<5:=by omega
    have hp:=p5 (c:=r) hr5
    have e0:=Qfq (x:=set) (r:=(r:Nat)) ⟨by omega,by omega⟩ ⟨s0,s31⟩
    rw[KE]at e0;have l0:=@QaV (pjB ds set) c r
    have l1:(QbJ (pjB ds set) c r).length≤256:=by omega
    clear l0;cases hs:Qu set (r:Nat)
    ·rw[hs]at e0
     have e2:QbJ (pjB ds set) c r=QbJ (pjB ds set) c (r+1):=Qu3 fun x=>by unfold pjB;rw[hs,YM,KT]
     clear hs;(repeat' first|refine gA fun _=>?_|apply fkI<;>intro hb<;>try simp only[ew,Qi,e0]at hb|simp only[go_sem,simprocAttr, *,Qi])
     refine lpQ (r+1) ?_
     clear e0;(repeat' first|refine gA fun _=>?_|apply fkI<;>intro hb<;>try simp only[ew,e2]at hb|simp only[go_sem,simprocAttr, *])
    ·rw[hs]at e0
     (repeat' first|refine gA fun _=>?_|apply fkI<;>intro hb<;>try simp only[ew,Qi,e0]at hb|simp only[go_sem,simprocAttr, *,Qi])
     clear e0;refine lpI {ι:=Nat×List Int,rs:=[(11,12),(36,91)],mods:=[(10,fun i=> .one (.d (.v (.int .i64 i.1)))),(7,fun i=> .one (.own 2 (dL (QbJ (pjB ds set) c r++i.2.map fun x=>(x,(r:Int)))) 1))],boxes:=[],arrs:=[(8,fun _=>(1,iL (Q8 c),1))],ok:=fun i=>pdI (pjB ds set) c r i.1 i.2,mu:=fun i=>(Q8 c).length-i.1} rfl (0,[]) Qgg ?_ ?_
     ·have e1:QbJ (pjB ds set) c r++([]:List Int).map (fun x=>(x,(r:Int)))=QbJ (pjB ds set) c r:=by simp
      (repeat' first|refine gA fun _=>?_|apply fkI<;>intro hb<;>try simp only[ew,e1]at hb|simp only[go_sem,simprocAttr, *])
     ·rintro⟨i,tk⟩ hi
      dsimp only at hi;have hi1:=hi.1
      have htk:=hi.2.1
      obtain⟨a1,a2⟩:=QkZ hr5 hi
      by_cases h6:i<(Q8 c).length
      ·obtain⟨x0,x31⟩:=P3 i h6
       have hcov:=fun T hT=>@Qt4 T tk ((Q8 c).getD i 0) r hT htk ⟨x0,x31⟩
       have hcv:=hcov (QbJ (pjB ds set) c r) fun d hd=>(Qf9 hd).2.1.2
       have hsk:=Qh6 hi h6
       have htak:=Qh7 hi h6
       generalize hX:(Q8 c).getD i 0=x at x0 x31 hcv hsk htak;have ex:=Qdx (l:=x) (x:=set) ⟨x0,x31⟩ ⟨s0,s31⟩
       have eh:=Qfq (x:=x) (r:=(r:Nat)) ⟨by omega,by omega⟩ ⟨x0,x31⟩
       have hclo:R5 (clo ds x):=Qou hd ⟨x0,x31⟩
       obtain⟨y0,y31⟩:=hclo;have ec:(QV .and .i64 ((clo ds x).fdiv (2^r)) 1==1)=Qu (clo ds x) (r:Nat):=by unfold Qu;rw[KE]
       rw[KE]at eh;have ep:pjB ds set x (r:Nat)=(Qab x set&&Qu (clo ds x) (r:Nat)):=by unfold pjB;rw[hs,Yd]
       rw[ep]at hsk htak;clear hcov ep hi htk;have eT:=@QhK (QbJ (pjB ds set) c r) tk x r
       generalize hA:QbJ (pjB ds set) c r++tk.map (fun x=>(x,(r:Int)))=acc at a1 hcv eT
       cases hg:(!Qu x (r:Nat)&& !Qbc tk x&&(Qab x set&&Qu (clo ds x) (r:Nat)))
       ·have hsk:=hsk hg
        have hg2:(Qab x set&& !Qu x (r:Nat)&&Qu (clo ds x) (r:Nat)&& !Qbc tk x)=false:=by
         rw[←hg];cases Qu x (r:Nat)<;>cases Qbc tk x<;>cases Qab x set<;>cases Qu (clo ds x) (r:Nat)<;>rfl
        clear htak hg eT;(repeat' first|refine gA fun _=>?_|apply fkI<;>intro hb<;>try simp only[ew,Qi,hX,hA,ex,eh,ec,hcv,hg2]at hb|simp only[go_sem,simprocAttr, *,Qi])
        refine lpN (i+1,tk) hsk (by dsimp only;omega) ?_
        clear hsk;(repeat' first|refine gA fun _=>?_|apply fkI<;>intro hb<;>try simp only[ew,hA]at hb|simp only[go_sem,simprocAttr, *])
       ·have htak:=htak hg
        have hg2:(Qab x set&& !Qu x (r:Nat)&&Qu (clo ds x) (r:Nat)&& !Qbc tk x)=true:=by
         rw[←hg];cases Qu x (r:Nat)<;>cases Qbc tk x<;>cases Qab x set<;>cases Qu (clo ds x) (r:Nat)<;>rfl
        clear hsk hg;(repeat' first|refine gA fun _=>?_|apply fkI<;>intro hb<;>try simp only[ew,Qi,hX,hA,ex,eh,ec,hcv,hg2,Qm]at hb|simp only[go_sem,simprocAttr, *,Qi,Qm])
        refine lpN (i+1,tk++[x]) htak (by dsimp only;omega) ?_
        clear htak;(repeat' first|refine gA fun _=>?_|apply fkI<;>intro hb<;>try simp only[ew,hX,hA,eT,Qm]at hb|simp only[go_sem,simprocAttr, *,Qm])
      ·have e5:i=(Q8 c).length:=by omega
       subst e5;have e2:=Qga hi
       clear hi htk;(repeat' first|refine gA fun _=>?_|apply fkI<;>intro hb<;>try simp only[ew]at hb|simp only[go_sem,simprocAttr, *])
       refine lpQ (r+1) ?_
       (repeat' first|refine gA fun _=>?_|apply fkI<;>intro hb<;>try simp only[ew,e2]at hb|simp only[go_sem,simprocAttr, *])
   ·have e5:r=c:=by omega
    subst e5;exact gQ
end Go.Own
