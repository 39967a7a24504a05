/- Own contracts. Conditions: as each theorem states them. -/
import Derived.Test.YtnmkpepdacbfaaaGreatDoorRr04
set_option linter.unusedSimpArgs false
set_option linter.unusedVariables false
set_option maxRecDepth 20000
set_option maxHeartbeats 2000000
namespace Go.Own
open Go Go.Proofs
attribute [local go_sem] Tryz.results24 QbD Tryz.results66 Tryz.results154 Tryz.results63 Tryz.results148 Tryz.results149
theorem Qq:((IntKind.bits .i64:Nat):Int)=64:=rfl
theorem Qyj{n:Int}(h0:0≤n)(h5:n≤5):1≤(2:Int)^n.toNat∧(2:Int)^n.toNat≤32:=by
 have:n=0∨n=1∨n=2∨n=3∨n=4∨n=5:=by omega
 rcases this with rfl|rfl|rfl|rfl|rfl|rfl<;>decide
def Qd5(n:Int):Int:=1*2^n.toNat-1
def Qj(n x:Int):Bool:=inB n 0 5&&inB x 0 (Qd5 n)
def Qy(x c:Int):Bool:=Qax .and .i64 (x.fdiv (2^c.toNat)) 1==1
theorem Qh{x lo hi:Int}:inB x lo hi=true↔lo≤x∧x≤hi:=by simp[inB]
theorem Qt{n x:Int}(h:Qj n x=true):0≤n∧n≤5∧0≤x∧x≤31:=by
 simp only[Qj,Bool.and_eq_true,Qh,Qd5]at h
 have:=Qyj h.1.1 h.1.2
 omega
def Qfe:Qb:=⟨[],false,fun
 | [.one (.v (.int .i64 n))]=>some (0≤n∧n≤5,[⟨false,[.d (.v (.int .i64 (Qd5 n)))]⟩],[])
 | _=>none⟩
attribute [local go_sem] Qfe
theorem QiW:Qa E0 24 Qfe:=by
 refine QV (E:=E0) (T:=mkT Tryz.prog [] false (fun _=>false) true (fun _=>false)) (Qf (E:=E0) .nil) (fn:=Tryz.f24) Tryz.func24 (by kernel_rfl) rfl Qe (by kernel_rfl) rfl ?_
 intro args p rs ms hr;unfold Qfe at hr;dsimp only at hr;split at hr;rotate_left
 ·cases hr
 rename_i n;cases hr;refine⟨rfl,rfl,nLe rfl,?_⟩
 have hm:=mxE;rintro⟨h0,h5⟩ bs;have hp:=Qyj h0 h5
 unfold Qd5;(repeat' first|refine gA fun _=>?_|apply fkI<;>intro hb<;>try simp only[ew,Qq]at hb|simp only[go_sem,simprocAttr, *,Qq])
def Qak:Qb:=⟨[],false,fun
 | [.one (.v (.int .i64 n)),.one (.v (.int .i64 x))]=>some (True,[⟨false,[.d (.v (.bool (Qj n x)))]⟩],[])
 | _=>none⟩
attribute [local go_sem] Qak
theorem QiA:Qa E0 66 Qak:=by
 refine QV (E:=E0) (T:=mkT Tryz.prog [(62,QbD),(24,Qfe)] false (fun _=>false) true (fun _=>false)) (Qf (E:=E0) (.cons Qhj (.cons QiW .nil))) (fn:=Tryz.f66) Tryz.func66 (by kernel_rfl) rfl Qe (by kernel_rfl) rfl ?_
 intro args p rs ms hr;unfold Qak at hr;dsimp only at hr;split at hr;rotate_left
 ·cases hr
 rename_i n x;cases hr;refine⟨rfl,rfl,nLe rfl,?_⟩
 have hm:=mxE;intro _ bs;unfold Qj;(repeat' (first|(refine Qfv (by first|omega|(intro h;rw[Qh]at h;exact h)|((repeat' (first|apply And.intro|assumption|omega|intro _));done)|(simp only[maxLen];omega)|simp_all|(simp_all[maxLen];omega)) fun _=>?_)|(refine fkI (fun hb=>?_) (fun hb=>?_)<;>(try simp only[ew]at hb))|(simp only[go_sem,simprocAttr, *])))
theorem Qbv:Qa E0 154 Qak:=by
 refine QV (E:=E0) (T:=mkT Tryz.prog [] false (fun _=>false) true (fun _=>false)) (Qf (E:=E0) .nil) (fn:=Tryz.f154) Tryz.func154 (by kernel_rfl) rfl Qe (by kernel_rfl) rfl ?_
 intro args p rs ms hr;unfold Qak at hr;dsimp only at hr;split at hr;rotate_left
 ·cases hr
 rename_i n x;cases hr;refine⟨rfl,rfl,nLe rfl,?_⟩
 have hm:=mxE;intro _ bs;unfold Qj;(repeat' (first|(refine Qfv (by first|omega|(intro h;simp only[Bool.and_eq_true,decide_eq_true_eq]at h;have:=Qyj h.1.1 h.1.2;omega)|((repeat' (first|apply And.intro|assumption|omega|intro _));done)|(simp only[maxLen];omega)|simp_all|(simp_all[maxLen];omega)) fun _=>?_)|(refine fkI (fun hb=>?_) (fun hb=>?_)<;>(try simp only[ew,Qq]at hb))|(simp only[go_sem,simprocAttr, *,Qq])))
 unfold inB Qd5;rw[Bool.eq_iff_iff];simp only[Bool.and_eq_true,decide_eq_true_eq]
 constructor
 ·rintro⟨⟨⟨h1,h2⟩,h3⟩,h4⟩;exact⟨⟨h1,h2⟩,h3,by omega⟩
 ·rintro⟨⟨h1,h2⟩,h3,h4⟩;exact⟨⟨⟨h1,h2⟩,h3⟩,by omega⟩
def Qb5:Qb:=⟨[],false,fun
 | [.one (.v (.int .i64 x))]=>some (True,[⟨false,[.d (.v (.bool (Qj 5 x)))]⟩],[])
 | _=>none⟩
attribute [local go_sem] Qb5
theorem QhO:Qa E0 63 Qb5:=by
 refine QV (E:=E0) (T:=mkT Tryz.prog [(66,Qak)] false (fun _=>false) true (fun _=>false)) (Qf (E:=E0) (.cons QiA .nil)) (fn:=Tryz.f63) Tryz.func63 (by kernel_rfl) rfl Qe (by kernel_rfl) rfl ?_
 intro args p rs ms hr;unfold Qb5 at hr;dsimp only at hr;split at hr;rotate_left
 ·cases hr
 rename_i x;cases hr;refine⟨rfl,rfl,nLe rfl,?_⟩
 have hm:=mxE;intro _ bs;exact gQ
theorem QhN:Qa E0 148 Qb5:=by
 refine QV (E:=E0) (T:=mkT Tryz.prog [(154,Qak)] false (fun _=>false) true (fun _=>false)) (Qf (E:=E0) (.cons Qbv .nil)) (fn:=Tryz.f148) Tryz.func148 (by kernel_rfl) rfl Qe (by kernel_rfl) rfl ?_
 intro args p rs ms hr;unfold Qb5 at hr;dsimp only at hr;split at hr;rotate_left
 ·cases hr
 rename_i x;cases hr;refine⟨rfl,rfl,nLe rfl,?_⟩
 have hm:=mxE;intro _ bs;exact gQ
def Qcf:Qb:=⟨[],false,fun
 | [.one (.v (.int .i64 x)),.one (.v (.int .i64 c))]=>some (0≤c∧c<64,[⟨false,[.d (.v (.bool (Qy x c)))]⟩],[])
 | _=>none⟩
attribute [local go_sem] Qcf
theorem Qb8:Qa E0 149 Qcf:=by
 refine QV (E:=E0) (T:=mkT Tryz.prog [] false (fun _=>false) true (fun _=>false)) (Qf (E:=E0) .nil) (fn:=Tryz.f149) Tryz.func149 (by kernel_rfl) rfl Qe (by kernel_rfl) rfl ?_
 intro args p rs ms hr;unfold Qcf at hr;dsimp only at hr;split at hr;rotate_left
 ·cases hr
 rename_i x c;cases hr;refine⟨rfl,rfl,nLe rfl,?_⟩
 have hm:=mxE;rintro⟨h0,h5⟩ bs;unfold Qy;(repeat' first|refine gA fun _=>?_|apply fkI<;>intro hb<;>try simp only[ew,Qq]at hb|simp only[go_sem,simprocAttr, *,Qq])
end Go.Own

namespace Go.Own
open Go Go.Proofs
def Qfg:Qb:=⟨[],false,fun
 | [.agg [.v (.int .i64 c),.sl 1 l],.one (.v (.int .i64 a))]=>some (True,[⟨false,[.d (.v (.bool (decide (a≥0)&&decide (a<c))))]⟩],[])
 | _=>none⟩
theorem Qrh:Qa E0 147 Qfg:=by
 refine QV (E:=E0) (T:=mkT Tryz.prog [] false (fun _=>false) true (fun _=>false)) (Qf (E:=E0) .nil) (fn:=Tryz.f147) Tryz.func147 (by kernel_rfl) rfl Qe (by kernel_rfl) rfl ?_
 intro args p rs ms hr;unfold Qfg at hr;dsimp only at hr;split at hr
 ·cases hr
  refine⟨rfl,rfl,nLe rfl,?_⟩
  intro _ bs;(repeat' first|refine gA fun _=>?_|apply fkI<;>intro hb<;>try simp only[ew,Qfg,Tryz.results147]at hb|simp only[go_sem,simprocAttr, *,Qfg,Tryz.results147])
 ·cases hr
theorem Qns:Qa E0 142 Qar:=by
 refine QV (E:=E0) (T:=mkT Tryz.prog [] false (fun _=>false) true (fun _=>false)) (Qf (E:=E0) .nil) (fn:=Tryz.f142) Tryz.func142 (by kernel_rfl) rfl Qe (by kernel_rfl) rfl ?_
 intro args p rs ms hr;unfold Qar at hr;dsimp only at hr;split at hr
 ·rename_i l c
  cases hr;refine⟨rfl,rfl,nLe rfl,?_⟩
  intro h1 bs;obtain⟨xs,rfl,hx⟩:=h1.ex;clear h1;rw[Qay];have hm:=mxE;unfold Qbx;(repeat' first|refine gA fun _=>?_|apply fkI<;>intro hb<;>try simp only[ew,Qar,Tryz.results142]at hb|simp only[go_sem,simprocAttr, *,Qar,Tryz.results142])
  refine lpI {ι:=Nat,rs:=[(4,5),(6,7),(10,20)],mods:=[(9,fun i=> .one (.d (.v (.int .i64 i))))],boxes:=[],arrs:=[],ok:=fun i=>i≤xs.length∧(xs.drop i).all (fun v=>inB v (-1) 40)=xs.all (fun v=>inB v (-1) 40),mu:=fun i=>xs.length-i} rfl 0 ⟨Nat.zero_le _,rfl⟩ ?_ fun i hi=>?_
  ·(repeat' first|refine gA fun _=>?_|apply fkI<;>intro hb<;>try simp only[ew,Qar]at hb|simp only[go_sem,simprocAttr, *,Qar])
  ·dsimp only at i hi
   obtain⟨hi,ht⟩:=hi;(repeat' first|refine gA fun _=>?_|apply fkI<;>intro hb<;>try simp only[ew,Qar,Tryz.results142]at hb|simp only[go_sem,simprocAttr, *,Qar,Tryz.results142])
   ·have hv:inB (xs.getD i 0) (-1) 40=false:=by
     simp only[inB,Bool.and_eq_false_iff,decide_eq_false_iff_not]
     have hb:=‹(decide _||decide _)=true›
     simp only[Bool.or_eq_true,decide_eq_true_eq]at hb
     omega
    rw[←ht,Qbd (by omega) 0 _,hv];rfl
   ·have hv:inB (xs.getD i 0) (-1) 40=true:=by
     simp only[inB,Bool.and_eq_true,decide_eq_true_eq]
     have hb:=‹(decide _||decide _)=false›
     simp only[Bool.or_eq_false_iff,decide_eq_false_iff_not]at hb
     omega
    refine lpN (i+1) ⟨by omega,?_⟩ (by dsimp only;omega) ?_
    ·rw[←ht,Qbd (i:=i) (by omega) 0 _,hv];rfl
    ·exact gQ
   ·rw[←ht,List.drop_of_length_le (by omega)];simp only[List.all_nil,Bool.true_and];rw[Bool.eq_iff_iff];simp
 ·cases hr
theorem QaO:Qa E0 138 Qs:=by
 refine QV (E:=E0) (T:=mkT Tryz.prog [(142,Qar)] false (fun _=>false) true (fun _=>false)) (Qf (E:=E0) (.cons Qns .nil)) (fn:=Tryz.f138) Tryz.func138 (by kernel_rfl) rfl Qe (by kernel_rfl) rfl ?_
 intro args p rs ms hr;unfold Qs at hr;dsimp only at hr;split at hr
 ·rename_i c l
  cases hr;refine⟨rfl,rfl,nLe rfl,?_⟩
  rintro⟨h1,hc1,hc2⟩ bs;obtain⟨rs,rfl,hx,hy⟩:=h1.ex;clear h1;rw[QG];have hm:=mxE;have hyi:=QdK hy
  (repeat' first|refine gA fun _=>?_|apply fkI<;>intro hb<;>try simp only[ew,Qs,Qar,Tryz.results138]at hb|simp only[go_sem,simprocAttr, *,Qs,Qar,Tryz.results138])
  ·have hb:=‹(_||_)=true›
   simp only[Bool.or_eq_true,decide_eq_true_eq]at hb
   have:QC c rs=false:=by
    simp only[QC,inB,Bool.and_eq_false_iff,decide_eq_false_iff_not]
    omega
   rw[this]
  ·have hb:=‹(_||_)=false›
   simp only[Bool.or_eq_false_iff,decide_eq_false_iff_not]at hb
   have hcc:(inB c 1 5&&decide ((rs.length:Int)≤40))=true:=by
    simp only[inB,Bool.and_eq_true,decide_eq_true_eq];omega
   refine lpI {ι:=Nat,rs:=[(2,3),(4,5),(23,32)],mods:=[(22,fun i=> .one (.d (.v (.int .i64 i))))],boxes:=[(1,fun _=>[.d (.v (.int .i64 c)),.d (.sl 1 (sL rs))])],arrs:=[],ok:=fun i=>i≤rs.length∧(rs.drop i).all (fun r=>Qbx r c)=rs.all (fun r=>Qbx r c),mu:=fun i=>rs.length-i} rfl 0 ⟨Nat.zero_le _,rfl⟩ ?_ fun i hi=>?_
   ·exact gQ
   ·dsimp only at i hi
    obtain⟨hi,ht⟩:=hi;clear hb;(repeat' first|refine gA fun _=>?_|apply fkI<;>intro hb<;>try simp only[ew,Qs,Qar,Tryz.results138]at hb|simp only[go_sem,simprocAttr, *,Qs,Qar,Tryz.results138])
    ·unfold QC;rw[←ht,Qbd (by omega) [] _,‹Qbx _ _=false›];rfl
    ·refine lpN (i+1) ⟨by omega,?_⟩ (by dsimp only;omega) ?_
     ·rw[←ht,Qbd (i:=i) (by omega) [] _,‹Qbx _ _=true›];rfl
     ·exact gQ
    ·unfold QC;rw[←ht,List.drop_of_length_le (by omega),hcc];rfl
 ·cases hr
end Go.Own

namespace Go.Own
open Go Go.Proofs
theorem QoG{c:Int}{rs:List (List Int)}{a b:Int}(h:QmX c rs a b=true):∃a' b' c':Nat,a=a'∧b=b'∧c=c'∧a'<c'∧b'<c'∧rs.length≤40∧∀i,i<rs.length→(rs.getD i []).length=c':=by
 simp only[QmX,QC,inB,Bool.and_eq_true,decide_eq_true_eq,List.all_eq_true]at h
 obtain⟨⟨⟨h1,⟨h2,h3⟩,h4⟩,h5,h6⟩,h7,h8⟩:=h;obtain⟨a',rfl⟩:=Int.eq_ofNat_of_zero_le h5;obtain⟨b',rfl⟩:=Int.eq_ofNat_of_zero_le h7;obtain⟨c',rfl⟩:=Int.eq_ofNat_of_zero_le (show 0≤c by omega)
 refine⟨a',b',c',rfl,rfl,rfl,by omega,by omega,by omega,fun i hi=>?_⟩
 have:=h1 (rs.getD i []) (by simp[List.getD_eq_getElem?_getD,hi])
 simp only[Qbx,Bool.and_eq_true,decide_eq_true_eq]at this
 omega
end Go.Own

namespace Go.Own
open Go Go.Proofs
attribute [local go_sem] Tryz.results120 Tryz.results153
def dL(xs:List (Int×Int)):List (List D):=xs.map fun q=>[D.v (.int .i64 q.1),D.v (.int .i64 q.2)]
def unD(l:List (List D)):List (Int×Int):=l.map fun
 | [.v (.int .i64 a),.v (.int .i64 b)]=>(a,b)
 | _=>(0,0)
theorem Qm(xs:List (Int×Int)):unD (dL xs)=xs:=by simp[unD,dL,Function.comp_def]
theorem Qc(xs:List (Int×Int)):(dL xs).length=xs.length:=by simp[dL]
theorem QZ{xs:List (Int×Int)}{i:Nat}(h:i<xs.length):(dL xs).getD i []=[D.v (.int .i64 (xs.getD i (0,0)).1),D.v (.int .i64 (xs.getD i (0,0)).2)]:=by
 simp[dL,List.getD_eq_getElem?_getD,h]
theorem Q1{xs:List (Int×Int)}{i:Nat}{a b:Int}:(dL xs).set i [D.v (.int .i64 a),D.v (.int .i64 b)]=dL (xs.set i (a,b)):=by
 simp[dL,List.map_set]
theorem Q0{xs ys:List (Int×Int)}:dL xs=dL ys↔xs=ys:=by
 constructor
 ·intro h
  have:=congrArg unD h
  simpa only[Qm]using this
 ·rintro rfl;rfl
def WfD(l:List (List D)):Prop:=l=dL (unD l)∧l.length≤maxLen
theorem Q3{xs:List (Int×Int)}:WfD (dL xs)↔xs.length≤maxLen:=by simp[WfD,Qm,Qc]
theorem WfD.ex{l:List (List D)}(h:WfD l):∃xs,l=dL xs∧xs.length≤maxLen:=⟨unD l,h.1,by have:=h.2;rw[h.1,Qc]at this;exact this⟩
theorem QaH{a b:Value}:(∀x∈[D.v a,D.v b],Qau x)↔True:=by
 refine⟨fun _=>trivial,fun _ x hx=>?_⟩
 simp only[List.mem_cons,List.not_mem_nil,or_false]at hx
 rcases hx with rfl|rfl<;>trivial
theorem Qdb{a b c d:Int}:([a,b]==[c,d])=((a,b)==(c,d)):=by
 rw[Bool.eq_iff_iff];simp
theorem Qr{q:Int×Int}:(q.1,q.2)=q:=rfl
attribute [local go_sem] Qm Qc QZ Q1 Q0 Q3 QaH Qdb Qr
def QgP:Qb:=⟨[],false,fun
 | [.one (.sl 2 a),.one (.sl 2 b)]=>some (WfD a∧WfD b,[⟨false,[.d (.v (.bool (unD a==unD b)))]⟩],[])
 | _=>none⟩
attribute [local go_sem] QgP
theorem QuX{xs ys:List (Int×Int)}(h:¬(xs.length:Int)=ys.length):(xs==ys)=false:=beq_eq_false_iff_ne.2 fun e=>h (by rw[e])
theorem QkY:Qa E0 153 QgP:=by
 refine QV (E:=E0) (T:=mkT Tryz.prog [] false (fun _=>false) true (fun _=>false)) (Qf (E:=E0) .nil) (fn:=Tryz.f153) Tryz.func153 (by kernel_rfl) rfl Qe (by kernel_rfl) rfl ?_
 intro args p rs ms hr;unfold QgP at hr;dsimp only at hr;split at hr;rotate_left
 ·cases hr
 rename_i a b;cases hr;refine⟨rfl,rfl,nLe rfl,?_⟩
 have hm:=mxE;rintro⟨h1,h2⟩ bs;obtain⟨xs,rfl,hx⟩:=h1.ex;obtain⟨ys,rfl,hy⟩:=h2.ex;clear h1 h2;rw[Qm,Qm];(repeat' first|refine gA fun _=>?_|apply fkI<;>intro hb<;>try simp only[ew]at hb|simp only[go_sem,simprocAttr, *])
 ·exact(QuX ‹_›).symm
 ·refine lpI {ι:=Nat,rs:=[(4,6),(14,26)],mods:=[(13,fun i=> .one (.d (.v (.int .i64 i))))],boxes:=[],arrs:=[],ok:=fun i=>i≤xs.length∧xs.take i=ys.take i,mu:=fun i=>xs.length-i} rfl 0 ⟨Nat.zero_le _,rfl⟩ ?_ fun i hi=>?_
  ·exact gQ
  ·dsimp only at i hi
   obtain⟨hi,ht⟩:=hi;have hlen:xs.length=ys.length:=by omega
   (repeat' first|refine gA fun _=>?_|apply fkI<;>intro hb<;>try simp only[ew]at hb|simp only[go_sem,simprocAttr, *])
   ·exact(beq_eq_false_iff_ne.2 (Qpf ‹_›)).symm
   ·have hq:=‹xs.getD i (0,0)=ys.getD i (0,0)›
    refine lpN (i+1) ⟨by omega,by rw[Qk (by omega) (0,0),Qk (by omega) (0,0),ht,hq]⟩ (by dsimp only;omega) ?_
    exact gQ
   ·have:=QlQ hlen (by omega) ht
    subst this;simp
end Go.Own
namespace Go.Own
open Go Go.Proofs
attribute [local go_sem] Qm Qc QZ Q1 Q0 Q3 QaH Qdb Qr
end Go.Own
