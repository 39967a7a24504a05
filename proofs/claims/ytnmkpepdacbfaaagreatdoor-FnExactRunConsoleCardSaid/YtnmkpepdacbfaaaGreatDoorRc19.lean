/- Own contracts. Conditions: as each theorem states them. -/
import Derived.Test.YtnmkpepdacbfaaaGreatDoorRc18
set_option linter.unusedSimpArgs false
set_option linter.unusedVariables false
set_option maxRecDepth 20000
set_option maxHeartbeats 2000000
namespace Go.Own
open Go Go.Proofs
attribute [local go_sem] Qar Tryz.results198 Tryz.results121 QO Qag Qjy Qkq Tryz.results228
def QbZ:Qb:=⟨[],false,fun
 | [.one (.sl 1 l),.one (.v (.int .i64 x))]=>some (WfI l,[⟨false,[.d (.v (.bool (Qa2 (unI l) x)))]⟩],[])
 | _=>none⟩
attribute [local go_sem] QbZ
theorem Qfm{α:Type}{xs:List α}{i:Nat}(h:i<xs.length)(d:α)(f:α→Bool):(xs.drop i).any f=(f (xs.getD i d)||(xs.drop (i+1)).any f):=by rw[QaQ h d,List.any_cons]
theorem Qgq:Qa E0 198 QbZ:=by
 refine QE (E:=E0) (T:=mkT Tryz.prog [(157,Qar)] false (fun _=>false) true (fun _=>false)) (Qd (E:=E0) (.cons Qa4 .nil)) (fn:=Tryz.f198) Tryz.func198 (by kernel_rfl) rfl Qc (by kernel_rfl) rfl ?_
 intro args p rs ms hr;unfold QbZ at hr;dsimp only at hr;split at hr;rotate_left
 ·cases hr
 rename_i l x;cases hr;refine⟨rfl,rfl,nLe rfl,?_⟩
 have hm:=mxE;intro h1 bs;obtain⟨xs,rfl,hx⟩:=h1.ex;clear h1;rw[QaC];unfold Qa2;(repeat' first|refine gA fun _=>?_|apply fkI<;>intro hb<;>try simp only[ew]at hb|simp only[go_sem,simprocAttr, *])
 refine lpI {ι:=Nat,rs:=[(4,5),(6,7),(10,17)],mods:=[(9,fun i=> .one (.d (.v (.int .i64 i))))],boxes:=[],arrs:=[],ok:=fun i=>i≤xs.length∧(xs.drop i).any (fun y=>Q7 y x)=xs.any (fun y=>Q7 y x),mu:=fun i=>xs.length-i} rfl 0 ⟨Nat.zero_le _,rfl⟩ ?_ fun i hi=>?_
 ·exact gQ
 ·dsimp only at i hi
  obtain⟨hi,ht⟩:=hi
  by_cases h5:i<xs.length
  ·rw[Qfm h5 0]at ht
   cases hq:Q7 (xs.getD i 0) x
   ·rw[hq,Bool.false_or]at ht
    rw[Qbo]at hq;(repeat' first|refine gA fun _=>?_|apply fkI<;>intro hb<;>try simp only[ew,hq]at hb|simp only[go_sem,simprocAttr, *,hq])
    refine lpN (i+1) ⟨by omega,ht⟩ (by dsimp only;omega) ?_
    clear ht;(repeat' first|refine gA fun _=>?_|apply fkI<;>intro hb<;>try simp only[ew,hq]at hb|simp only[go_sem,simprocAttr, *,hq])
   ·rw[hq,Bool.true_or]at ht
    rw[←ht];rw[Qbo]at hq;clear ht;(repeat' first|refine gA fun _=>?_|apply fkI<;>intro hb<;>try simp only[ew,hq]at hb|simp only[go_sem,simprocAttr, *,hq])
  ·have e5:i=xs.length:=by omega
   subst e5;rw[List.drop_length,List.any_nil]at ht;rw[←ht];clear ht;exact gQ
attribute [local go_sem] Qh Qe Qaa Qac Qab Qaf QaX QdJ Qu
def Qxt:Qb:=⟨[],false,fun
 | [.one (.sl 2 l),.agg [.v (.int .i64 a),.v (.int .i64 b)]]=>some (WfD l,[⟨false,[.d (.v (.bool (cov (unD l) (a,b))))]⟩],[])
 | _=>none⟩
attribute [local go_sem] Qxt
theorem QsI:Qa E0 121 Qxt:=by
 refine QE (E:=E0) (T:=mkT Tryz.prog [] false (fun _=>false) true (fun _=>false)) (Qd (E:=E0) .nil) (fn:=Tryz.f121) Tryz.func121 (by kernel_rfl) rfl Qc (by kernel_rfl) rfl ?_
 intro args p rs ms hr;unfold Qxt at hr;dsimp only at hr;split at hr;rotate_left
 ·cases hr
 rename_i l a b;cases hr;refine⟨rfl,rfl,nLe rfl,?_⟩
 have hm:=mxE;intro h1 bs;obtain⟨ds,rfl,hx⟩:=h1.ex;clear h1;rw[Qh];unfold cov;(repeat' first|refine gA fun _=>?_|apply fkI<;>intro hb<;>try simp only[ew]at hb|simp only[go_sem,simprocAttr, *])
 refine lpI {ι:=Nat,rs:=[(4,5),(6,36)],mods:=[(5,fun i=> .one (.d (.v (.int .i64 i))))],boxes:=[(3,fun _=>[.d (.v (.int .i64 a)),.d (.v (.int .i64 b))])],arrs:=[],ok:=fun i=>i≤ds.length∧(ds.drop i).any (Qg8 (a,b))=ds.any (Qg8 (a,b)),mu:=fun i=>ds.length-i} rfl 0 ⟨Nat.zero_le _,rfl⟩ ?_ fun i hi=>?_
 ·exact gQ
 ·dsimp only at i hi
  obtain⟨hi,ht⟩:=hi
  by_cases h5:i<ds.length
  ·rw[Qfm h5 (0,0)]at ht
   have hc:Qg8 (a,b) (ds.getD i (0,0))=((ds.getD i (0,0)).2==b&&(Q6 .and .i64 (ds.getD i (0,0)).1 a==(ds.getD i (0,0)).1)):=rfl
   cases hq:Qg8 (a,b) (ds.getD i (0,0))
   ·rw[hq,Bool.false_or]at ht
    rw[hq]at hc;replace hc:=hc.symm;clear hq;(repeat' first|refine gA fun _=>?_|apply fkI<;>intro hb<;>try simp only[ew,hc]at hb|simp only[go_sem,simprocAttr, *])
    refine lpN (i+1) ⟨by omega,ht⟩ (by dsimp only;omega) ?_
    clear ht;(repeat' first|refine gA fun _=>?_|apply fkI<;>intro hb<;>try simp only[ew,hc]at hb|simp only[go_sem,simprocAttr, *])
   ·rw[hq,Bool.true_or]at ht
    rw[←ht];rw[hq]at hc;replace hc:=hc.symm;clear hq ht;(repeat' first|refine gA fun _=>?_|apply fkI<;>intro hb<;>try simp only[ew,hc]at hb|simp only[go_sem,simprocAttr, *])
  ·have e5:i=ds.length:=by omega
   subst e5;rw[List.drop_length,List.any_nil]at ht;rw[←ht];clear ht;exact gQ
def cPd:Qb:=⟨[],false,fun
 | [.one (.v (.int .i64 n)),.one (.sl 2 l),.one (.v (.int .i64 x))]=>some (WfD l∧ -9223372036854775808≤n∧n≤9223372036854775807,[⟨false,[.own 2 (dL (pdL n (unD l) x)) 1]⟩],[])
 | _=>none⟩
attribute [local go_sem] cPd
def pdI(p:Int→Int→Bool)(n:Int)(r:Nat)(i:Nat)(tk:List Int):Prop:=i≤(Q3 n).length∧(∀y∈tk,0≤y∧y≤31)∧tk.length≤i∧Qi2 p r tk ((Q3 n).drop i)=Qi2 p r [] (Q3 n)
theorem QfP{p:Int→Int→Bool}{n:Int}{r:Nat}:pdI p n r 0 []:=⟨Nat.zero_le _,by simp,Nat.le_refl _,rfl⟩
theorem QhA{p:Int→Int→Bool}{n:Int}{r i:Nat}{tk:List Int}(h:pdI p n r i tk)(h5:i<(Q3 n).length)(hc:(!Qt ((Q3 n).getD i 0) r&& !Qa2 tk ((Q3 n).getD i 0)&&p ((Q3 n).getD i 0) r)=false):pdI p n r (i+1) tk:=by
 obtain⟨h1,h2,h3,h4⟩:=h;refine⟨h5,h2,by omega,?_⟩
 rw[QtE h5,hc,if_neg (by decide)]at h4
 exact h4
theorem QhB{p:Int→Int→Bool}{n:Int}{r i:Nat}{tk:List Int}(h:pdI p n r i tk)(h5:i<(Q3 n).length)(hc:(!Qt ((Q3 n).getD i 0) r&& !Qa2 tk ((Q3 n).getD i 0)&&p ((Q3 n).getD i 0) r)=true):pdI p n r (i+1) (tk++[(Q3 n).getD i 0]):=by
 obtain⟨h1,h2,h3,h4⟩:=h;refine⟨h5,fun y hy=>?_,by rw[List.length_append];simp;omega,?_⟩
 ·rcases List.mem_append.1 hy with hy|hy
  ·exact h2 y hy
  ·rw[List.mem_singleton]at hy
   subst hy;exact(@QD n).2.2 i h5
 ·rw[QtE h5,hc,if_pos rfl]at h4
  exact h4
theorem Qz1{p:Int→Int→Bool}{n:Int}{r:Nat}{tk:List Int}(h:pdI p n r (Q3 n).length tk):tk.map (fun x=>(x,(r:Int)))=Qrd p n r:=by
 obtain⟨h1,h2,h3,h4⟩:=h;rw[List.drop_length,Qi2]at h4;unfold Qrd;rw[←h4]
theorem QfL{p:Int→Int→Bool}{n:Int}{r:Nat}{tk:List Int}(h:pdI p n r (Q3 n).length tk):Qbx p n r++tk.map (fun x=>(x,(r:Int)))=Qbx p n (r+1):=by rw[Qz1 h];rfl
theorem QtG{p:Int→Int→Bool}{n:Int}{r:Nat}(h:∀x,p x r=false):Qbx p n r=Qbx p n (r+1):=by rw[Qbx,QtD h,List.append_nil]
theorem Qhc{T:List (Int×Int)}{tk:List Int}{x r:Int}:T++(tk++[x]).map (fun x=>(x,r))=(T++tk.map fun x=>(x,r))++[(x,r)]:=by simp
theorem Qkg{p:Int→Int→Bool}{n:Int}{r i:Nat}{tk:List Int}(hr:r<5)(h:pdI p n r i tk):(Qbx p n r++tk.map fun x=>(x,(r:Int))).length≤256∧tk.length≤32:=by
 have h1:=@QaM p n r
 have h2:=(@QD n).1
 have h3:=h.1
 have h4:=h.2.2.1
 rw[List.length_append,List.length_map];omega
theorem QB1:Qa E0 228 cPd:=by
 refine QE (E:=E0) (T:=mkT Tryz.prog [(126,QO),(66,Qag),(28,Qjy),(127,Qkq),(121,Qxt)] false (fun _=>false) true (fun _=>false)) (Qd (E:=E0) (.cons Qbr (.cons Qb9 (.cons Qld (.cons Qb7 (.cons QsI .nil)))))) (fn:=Tryz.f228) Tryz.func228 (by kernel_rfl) rfl Qc (by kernel_rfl) rfl ?_
 intro args p rs ms hr;unfold cPd at hr;dsimp only at hr;split at hr;rotate_left
 ·cases hr
 rename_i n l set;cases hr;refine⟨rfl,rfl,nLe rfl,?_⟩
 have hm:=mxE;rintro⟨h1,hn1,hn2⟩ bs;obtain⟨ds,rfl,hx⟩:=h1.ex;clear h1;rw[Qh];cases hv:(QF n ds&&Ql n set)
 ·have e3:(!QF n ds|| !Ql n set)=true:=by rw[←Bool.not_and,hv];rfl
  have e:pdL n ds set=[]:=by unfold pdL;rw[hv];rfl
  have e0:dL []=[]:=rfl
  rw[e];clear e hv;(repeat' first|refine gA fun _=>?_|apply fkI<;>intro hb<;>try simp only[ew,e3,e0]at hb|simp only[go_sem,simprocAttr, *])
 ·have e3:(!QF n ds|| !Ql n set)=false:=by rw[←Bool.not_and,hv];rfl
  have e:pdL n ds set=Qbx (pjB ds set) n n.toNat:=by unfold pdL;rw[hv];rfl
  rw[e];rw[Bool.and_eq_true]at hv;have hd:=Qax hv.1
  obtain⟨n0,n5,s0,s31⟩:=Qp hv.2;clear hv e;obtain⟨c,rfl⟩:=Int.eq_ofNat_of_zero_le n0;rw[Int.toNat_natCast];obtain⟨P1,P2,P3⟩:=@QD c;have P1':(Q3 c).length≤maxLen:=Nat.le_trans P1 (by decide)
  (repeat' first|refine gA fun _=>?_|apply fkI<;>intro hb<;>try simp only[ew,e3]at hb|simp only[go_sem,simprocAttr, *])
  clear e3;refine lpI {ι:=Nat,rs:=[(10,12),(26,91)],mods:=[(9,fun r=> .one (.d (.v (.int .i64 r)))),(7,fun r=> .one (.own 2 (dL (Qbx (pjB ds set) c r)) 1))],boxes:=[],arrs:=[(8,fun _=>(1,iL (Q3 c),1))],ok:=fun r=>r≤c,mu:=fun r=>c-r} rfl 0 (Nat.zero_le _) ?_ fun r hr=>?_
  ·exact gQ
  ·dsimp only at r hr
   by_cases h5:r<c
   ·have hr5:r<5:=by omega
    have hp:=p5 (c:=r) hr5
    have e0:=Qe6 (x:=set) (r:=(r:Nat)) ⟨by omega,by omega⟩ ⟨s0,s31⟩
    rw[Int.toNat_natCast]at e0;have l0:=@QaM (pjB ds set) c r
    have l1:(Qbx (pjB ds set) c r).length≤256:=by omega
    clear l0;cases hs:Qt set (r:Nat)
    ·rw[hs]at e0
     have e2:Qbx (pjB ds set) c r=Qbx (pjB ds set) c (r+1):=QtG fun x=>by unfold pjB;rw[hs,Bool.and_false,Bool.false_and]
     clear hs;(repeat' first|refine gA fun _=>?_|apply fkI<;>intro hb<;>try simp only[ew,Qj,e0]at hb|simp only[go_sem,simprocAttr, *,Qj])
     refine lpN (r+1) (by dsimp only;omega) (by dsimp only;omega) ?_
     clear e0;(repeat' first|refine gA fun _=>?_|apply fkI<;>intro hb<;>try simp only[ew,e2]at hb|simp only[go_sem,simprocAttr, *])
    ·rw[hs]at e0
     (repeat' first|refine gA fun _=>?_|apply fkI<;>intro hb<;>try simp only[ew,Qj,e0]at hb|simp only[go_sem,simprocAttr, *,Qj])
     clear e0;refine lpI {ι:=Nat×List Int,rs:=[(11,12),(36,91)],mods:=[(10,fun i=> .one (.d (.v (.int .i64 i.1)))),(7,fun i=> .one (.own 2 (dL (Qbx (pjB ds set) c r++i.2.map fun x=>(x,(r:Int)))) 1))],boxes:=[],arrs:=[(8,fun _=>(1,iL (Q3 c),1))],ok:=fun i=>pdI (pjB ds set) c r i.1 i.2,mu:=fun i=>(Q3 c).length-i.1} rfl (0,[]) QfP ?_ ?_
     ·have e1:Qbx (pjB ds set) c r++([]:List Int).map (fun x=>(x,(r:Int)))=Qbx (pjB ds set) c r:=by simp
      (repeat' first|refine gA fun _=>?_|apply fkI<;>intro hb<;>try simp only[ew,e1]at hb|simp only[go_sem,simprocAttr, *])
     ·rintro⟨i,tk⟩ hi
      dsimp only at hi;have hi1:=hi.1
      have htk:=hi.2.1
      obtain⟨a1,a2⟩:=Qkg hr5 hi
      by_cases h6:i<(Q3 c).length
      ·obtain⟨x0,x31⟩:=P3 i h6
       have hcov:=fun T hT=>@QsH T tk ((Q3 c).getD i 0) r hT htk ⟨x0,x31⟩
       have hcv:=hcov (Qbx (pjB ds set) c r) fun d hd=>(QfK hd).2.1.2
       have hsk:=QhA hi h6
       have htak:=QhB hi h6
       generalize hX:(Q3 c).getD i 0=x at x0 x31 hcv hsk htak;have ex:=Qde (l:=x) (x:=set) ⟨x0,x31⟩ ⟨s0,s31⟩
       have eh:=Qe6 (x:=x) (r:=(r:Nat)) ⟨by omega,by omega⟩ ⟨x0,x31⟩
       have hclo:R5 (clo ds x):=Qnx hd ⟨x0,x31⟩
       obtain⟨y0,y31⟩:=hclo;have ec:(Q6 .and .i64 ((clo ds x).fdiv (2^r)) 1==1)=Qt (clo ds x) (r:Nat):=by unfold Qt;rw[Int.toNat_natCast]
       rw[Int.toNat_natCast]at eh;have ep:pjB ds set x (r:Nat)=(Q7 x set&&Qt (clo ds x) (r:Nat)):=by unfold pjB;rw[hs,Bool.and_true]
       rw[ep]at hsk htak;clear hcov ep hi htk;have eT:=@Qhc (Qbx (pjB ds set) c r) tk x r
       generalize hA:Qbx (pjB ds set) c r++tk.map (fun x=>(x,(r:Int)))=acc at a1 hcv eT
       cases hg:(!Qt x (r:Nat)&& !Qa2 tk x&&(Q7 x set&&Qt (clo ds x) (r:Nat)))
       ·have hsk:=hsk hg
        have hg2:(Q7 x set&& !Qt x (r:Nat)&&Qt (clo ds x) (r:Nat)&& !Qa2 tk x)=false:=by
         rw[←hg];cases Qt x (r:Nat)<;>cases Qa2 tk x<;>cases Q7 x set<;>cases Qt (clo ds x) (r:Nat)<;>rfl
        clear htak hg eT;(repeat' first|refine gA fun _=>?_|apply fkI<;>intro hb<;>try simp only[ew,Qj,hX,hA,ex,eh,ec,hcv,hg2]at hb|simp only[go_sem,simprocAttr, *,Qj])
        refine lpN (i+1,tk) hsk (by dsimp only;omega) ?_
        clear hsk;(repeat' first|refine gA fun _=>?_|apply fkI<;>intro hb<;>try simp only[ew,hA]at hb|simp only[go_sem,simprocAttr, *])
       ·have htak:=htak hg
        have hg2:(Q7 x set&& !Qt x (r:Nat)&&Qt (clo ds x) (r:Nat)&& !Qa2 tk x)=true:=by
         rw[←hg];cases Qt x (r:Nat)<;>cases Qa2 tk x<;>cases Q7 x set<;>cases Qt (clo ds x) (r:Nat)<;>rfl
        clear hsk hg;(repeat' first|refine gA fun _=>?_|apply fkI<;>intro hb<;>try simp only[ew,Qj,hX,hA,ex,eh,ec,hcv,hg2,Qm]at hb|simp only[go_sem,simprocAttr, *,Qj,Qm])
        refine lpN (i+1,tk++[x]) htak (by dsimp only;omega) ?_
        clear htak;(repeat' first|refine gA fun _=>?_|apply fkI<;>intro hb<;>try simp only[ew,hX,hA,eT,Qm]at hb|simp only[go_sem,simprocAttr, *,Qm])
      ·have e5:i=(Q3 c).length:=by omega
       subst e5;have e2:=QfL hi
       clear hi htk;(repeat' first|refine gA fun _=>?_|apply fkI<;>intro hb<;>try simp only[ew]at hb|simp only[go_sem,simprocAttr, *])
       refine lpN (r+1) (by dsimp only;omega) (by dsimp only;omega) ?_
       (repeat' first|refine gA fun _=>?_|apply fkI<;>intro hb<;>try simp only[ew,e2]at hb|simp only[go_sem,simprocAttr, *])
   ·have e5:r=c:=by omega
    subst e5;exact gQ
end Go.Own
