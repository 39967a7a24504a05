/- Contracts. Conditions: as stated. -/
import Derived.Test.YtnmkpepdacbfaaaGreatDoorRp04
set_option linter.all false
set_option maxRecDepth 20000
set_option maxHeartbeats 2000000
namespace Go.Own
open Go Go.Proofs
section
attribute [local go_sem] Tryz.results24 Qbr Tryz.results66 Tryz.results154 Tryz.results63 Tryz.results148 Tryz.results149
theorem Qi:((IntKind.bits .i64:Nat):Int)=64:=rfl
theorem QBO{n:Int}(h0:0≤n)(h5:n≤5):1≤(2:Int)^n.toNat∧(2:Int)^n.toNat≤32:=by
 have:n=0∨n=1∨n=2∨n=3∨n=4∨n=5:=by omega
 rcases this with rfl|rfl|rfl|rfl|rfl|rfl<;>decide
def Qc7(n:Int):Int:=1*2^n.toNat-1
def Ql(n x:Int):Bool:=inB n 0 5&&inB x 0 (Qc7 n)
def Qu(x c:Int):Bool:=QV .and .i64 (x.fdiv (2^c.toNat)) 1==1
theorem Qj{x lo hi:Int}:inB x lo hi=true↔lo≤x∧x≤hi:=by simp[inB]
theorem Qq{n x:Int}(h:Ql n x=true):0≤n∧n≤5∧0≤x∧x≤31:=by
 simp only[Ql,KB,Qj,Qc7]at h
 have:=QBO h.1.1 h.1.2
 omega
def QfO:Qb:=⟨[],false,fun
 | [.one (.v (.int .i64 n))]=>some (0≤n∧n≤5,[⟨false,[.d (.v (.int .i64 (Qc7 n)))]⟩],[])
 | _=>none⟩
attribute [local go_sem] QfO
theorem Qgs:Qa E0 24 QfO:=by
 refine QG (E:=E0) (T:=mkT Tryz.prog [] false (fun _=>false) true (fun _=>false)) (Qd (E:=E0) .nil) (fn:=Tryz.f24) Tryz.func24 kR rfl Qc kR rfl ?_
 intro args p rs ms hr;unfold QfO at hr;dsimp only at hr;split at hr;rotate_left
 ·cases hr
 rename_i n;cases hr;refine⟨rfl,rfl,nLe rfl,?_⟩
 have hm:=mxE;rintro⟨h0,h5⟩ bs;have hp:=QBO h0 h5
 unfold Qc7;have q0:=@Qi;exact gP
def Qak:Qb:=⟨[],false,fun
 | [.one (.v (.int .i64 n)),.one (.v (.int .i64 x))]=>some (True,[⟨false,[.d (.v (.bool (Ql n x)))]⟩],[])
 | _=>none⟩
attribute [local go_sem] Qak
theorem Qcq:Qa E0 66 Qak:=by
 refine QG (E:=E0) (T:=mkT Tryz.prog [(62,Qbr),(24,QfO)] false (fun _=>false) true (fun _=>false)) (Qd (E:=E0) (.cons QcD (.cons Qgs .nil))) (fn:=Tryz.f66) Tryz.func66 kR rfl Qc kR rfl ?_
 intro args p rs ms hr;unfold Qak at hr;dsimp only at hr;split at hr;rotate_left
 ·cases hr
 rename_i n x;cases hr;refine⟨rfl,rfl,nLe rfl,?_⟩
 have hm:=mxE;intro _ bs;unfold Ql;(repeat' (first|(refine QeM (by first|omega|(intro h;rw[Qj]at h;exact h)|((repeat' (first|apply And.intro|assumption|omega|intro _));done)|(simp only[maxLen];omega)|simp_all|(simp_all[maxLen];omega)) fun _=>?_)|(refine fkI (fun hb=>?_) (fun hb=>?_)<;>(try simp only[ew]at hb))|(simp only[go_sem,simprocAttr, *])))
theorem QbW:Qa E0 154 Qak:=by
 refine QG (E:=E0) (T:=mkT Tryz.prog [] false (fun _=>false) true (fun _=>false)) (Qd (E:=E0) .nil) (fn:=Tryz.f154) Tryz.func154 kR rfl Qc kR rfl ?_
 intro args p rs ms hr;unfold Qak at hr;dsimp only at hr;split at hr;rotate_left
 ·cases hr
 rename_i n x;cases hr;refine⟨rfl,rfl,nLe rfl,?_⟩
 have hm:=mxE;intro _ bs;unfold Ql;(repeat' (first|(refine QeM (by first|omega|(intro h;simp only[KB,KK]at h;have:=QBO h.1.1 h.1.2;omega)|((repeat' (first|apply And.intro|assumption|omega|intro _));done)|(simp only[maxLen];omega)|simp_all|(simp_all[maxLen];omega)) fun _=>?_)|(refine fkI (fun hb=>?_) (fun hb=>?_)<;>(try simp only[ew,Qi]at hb))|(simp only[go_sem,simprocAttr, *,Qi])))
 unfold inB Qc7;rw[Kp];simp only[KB,KK]
 constructor
 ·rintro⟨⟨⟨h1,h2⟩,h3⟩,h4⟩;exact⟨⟨h1,h2⟩,h3,by omega⟩
 ·rintro⟨⟨h1,h2⟩,h3,h4⟩;exact⟨⟨⟨h1,h2⟩,h3⟩,by omega⟩
def Qcw:Qb:=⟨[],false,fun
 | [.one (.v (.int .i64 x))]=>some (True,[⟨false,[.d (.v (.bool (Ql 5 x)))]⟩],[])
 | _=>none⟩
attribute [local go_sem] Qcw
theorem QjC:Qa E0 63 Qcw:=by
 refine QG (E:=E0) (T:=mkT Tryz.prog [(66,Qak)] false (fun _=>false) true (fun _=>false)) (Qd (E:=E0) (.cons Qcq .nil)) (fn:=Tryz.f63) Tryz.func63 kR rfl Qc kR rfl ?_
 intro args p rs ms hr;unfold Qcw at hr;dsimp only at hr;split at hr;rotate_left
 ·cases hr
 rename_i x;cases hr;refine⟨rfl,rfl,nLe rfl,?_⟩
 have hm:=mxE;intro _ bs;exact gQ
theorem QjB:Qa E0 148 Qcw:=by
 refine QG (E:=E0) (T:=mkT Tryz.prog [(154,Qak)] false (fun _=>false) true (fun _=>false)) (Qd (E:=E0) (.cons QbW .nil)) (fn:=Tryz.f148) Tryz.func148 kR rfl Qc kR rfl ?_
 intro args p rs ms hr;unfold Qcw at hr;dsimp only at hr;split at hr;rotate_left
 ·cases hr
 rename_i x;cases hr;refine⟨rfl,rfl,nLe rfl,?_⟩
 have hm:=mxE;intro _ bs;exact gQ
def QcL:Qb:=⟨[],false,fun
 | [.one (.v (.int .i64 x)),.one (.v (.int .i64 c))]=>some (0≤c∧c<64,[⟨false,[.d (.v (.bool (Qu x c)))]⟩],[])
 | _=>none⟩
attribute [local go_sem] QcL
theorem QcA:Qa E0 149 QcL:=by
 refine QG (E:=E0) (T:=mkT Tryz.prog [] false (fun _=>false) true (fun _=>false)) (Qd (E:=E0) .nil) (fn:=Tryz.f149) Tryz.func149 kR rfl Qc kR rfl ?_
 intro args p rs ms hr;unfold QcL at hr;dsimp only at hr;split at hr;rotate_left
 ·cases hr
 rename_i x c;cases hr;refine⟨rfl,rfl,nLe rfl,?_⟩
 have hm:=mxE;rintro⟨h0,h5⟩ bs;unfold Qu;have q0:=@Qi;exact gP
end
def Qgy:Qb:=⟨[],false,fun
 | [.agg [.v (.int .i64 c),.sl 1 l],.one (.v (.int .i64 a))]=>some (True,[⟨false,[.d (.v (.bool (decide (a≥0)&&decide (a<c))))]⟩],[])
 | _=>none⟩
theorem Quw:Qa E0 147 Qgy:=by
 refine QG (E:=E0) (T:=mkT Tryz.prog [] false (fun _=>false) true (fun _=>false)) (Qd (E:=E0) .nil) (fn:=Tryz.f147) Tryz.func147 kR rfl Qc kR rfl ?_
 intro args p rs ms hr;unfold Qgy at hr;dsimp only at hr;split at hr
 ·cases hr
  refine⟨rfl,rfl,nLe rfl,?_⟩
  intro _ bs;(repeat' first|refine gA fun _=>?_|apply fkI<;>intro hb<;>try simp only[ew,Qgy,Tryz.results147]at hb|simp only[go_sem,simprocAttr, *,Qgy,Tryz.results147])
 ·cases hr
theorem Qqr:Qa E0 142 QaF:=by
 refine QG (E:=E0) (T:=mkT Tryz.prog [] false (fun _=>false) true (fun _=>false)) (Qd (E:=E0) .nil) (fn:=Tryz.f142) Tryz.func142 kR rfl Qc kR rfl ?_
 intro args p rs ms hr;unfold QaF at hr;dsimp only at hr;split at hr
 ·rename_i l c
  cases hr;refine⟨rfl,rfl,nLe rfl,?_⟩
  intro h1 bs;obtain⟨xs,rfl,hx⟩:=h1.ex;clear h1;rw[QaH];have hm:=mxE;unfold Qb7;(repeat' first|refine gA fun _=>?_|apply fkI<;>intro hb<;>try simp only[ew,QaF,Tryz.results142]at hb|simp only[go_sem,simprocAttr, *,QaF,Tryz.results142])
  refine lpI {ι:=Nat,rs:=[(4,5),(6,7),(10,20)],mods:=[(9,fun i=> .one (.d (.v (.int .i64 i))))],boxes:=[],arrs:=[],ok:=fun i=>i≤xs.length∧(xs.drop i).all (fun v=>inB v (-1) 40)=xs.all (fun v=>inB v (-1) 40),mu:=fun i=>xs.length-i} rfl 0 ⟨KJ _,rfl⟩ ?_ fun i hi=>?_
  ·(repeat' first|refine gA fun _=>?_|apply fkI<;>intro hb<;>try simp only[ew,QaF]at hb|simp only[go_sem,simprocAttr, *,QaF])
  ·dsimp only at i hi
   obtain⟨hi,ht⟩:=hi;(repeat' first|refine gA fun _=>?_|apply fkI<;>intro hb<;>try simp only[ew,QaF,Tryz.results142]at hb|simp only[go_sem,simprocAttr, *,QaF,Tryz.results142])
   ·have hv:inB (xs.getD i 0) (-1) 40=false:=by
     simp only[inB,Bool.and_eq_false_iff,Kl]
     have hb:=‹(decide _||decide _)=true›
     simp only[Kq,KK]at hb
     omega
    rw[←ht,Qbt (by omega) 0 _,hv];rfl
   ·have hv:inB (xs.getD i 0) (-1) 40=true:=by
     simp only[inB,KB,KK]
     have hb:=‹(decide _||decide _)=false›
     simp only[Kt,Kl]at hb
     omega
    refine lpN (i+1) ⟨by omega,?_⟩ (by dsimp only;omega) ?_
    ·rw[←ht,Qbt (i:=i) (by omega) 0 _,hv];rfl
    ·exact gQ
   ·rw[←ht,YB (by omega)];simp only[List.all_nil,KY];rw[Kp];simp
 ·cases hr
theorem Qbf:Qa E0 138 QA:=by
 refine QG (E:=E0) (T:=mkT Tryz.prog [(142,QaF)] false (fun _=>false) true (fun _=>false)) (Qd (E:=E0) (.cons Qqr .nil)) (fn:=Tryz.f138) Tryz.func138 kR rfl Qc kR rfl ?_
 intro args p rs ms hr;unfold QA at hr;dsimp only at hr;split at hr
 ·rename_i c l
  cases hr;refine⟨rfl,rfl,nLe rfl,?_⟩
  rintro⟨h1,hc1,hc2⟩ bs;obtain⟨rs,rfl,hx,hy⟩:=h1.ex;clear h1;rw[QB];have hm:=mxE;have hyi:=QbZ hy
  (repeat' first|refine gA fun _=>?_|apply fkI<;>intro hb<;>try simp only[ew,QA,QaF,Tryz.results138]at hb|simp only[go_sem,simprocAttr, *,QA,QaF,Tryz.results138])
  ·have hb:=‹(_||_)=true›
   simp only[Kq,KK]at hb
   have:QP c rs=false:=by
    simp only[QP,inB,Bool.and_eq_false_iff,Kl]
    omega
   rw[this]
  ·have hb:=‹(_||_)=false›
   simp only[Kt,Kl]at hb
   have hcc:(inB c 1 5&&decide ((rs.length:Int)≤40))=true:=by
    simp only[inB,KB,KK];omega
   refine lpI {ι:=Nat,rs:=[(2,3),(4,5),(23,32)],mods:=[(22,fun i=> .one (.d (.v (.int .i64 i))))],boxes:=[(1,fun _=>[.d (.v (.int .i64 c)),.d (.sl 1 (sL rs))])],arrs:=[],ok:=fun i=>i≤rs.length∧(rs.drop i).all (fun r=>Qb7 r c)=rs.all (fun r=>Qb7 r c),mu:=fun i=>rs.length-i} rfl 0 ⟨KJ _,rfl⟩ ?_ fun i hi=>?_
   ·exact gQ
   ·dsimp only at i hi
    obtain⟨hi,ht⟩:=hi;clear hb;(repeat' first|refine gA fun _=>?_|apply fkI<;>intro hb<;>try simp only[ew,QA,QaF,Tryz.results138]at hb|simp only[go_sem,simprocAttr, *,QA,QaF,Tryz.results138])
    ·unfold QP;rw[←ht,Qbt (by omega) [] _,‹Qb7 _ _=false›];rfl
    ·refine lpN (i+1) ⟨by omega,?_⟩ (by dsimp only;omega) ?_
     ·rw[←ht,Qbt (i:=i) (by omega) [] _,‹Qb7 _ _=true›];rfl
     ·exact gQ
    ·unfold QP;rw[←ht,YB (by omega),hcc];rfl
 ·cases hr
theorem QrX{c:Int}{rs:List (List Int)}{a b:Int}(h:QpR c rs a b=true):∃a' b' c':Nat,a=a'∧b=b'∧c=c'∧a'<c'∧b'<c'∧rs.length≤40∧∀i,i<rs.length→(rs.getD i []).length=c':=by
 simp only[QpR,QP,inB,KB,KK,Kg]at h
 obtain⟨⟨⟨h1,⟨h2,h3⟩,h4⟩,h5,h6⟩,h7,h8⟩:=h;obtain⟨a',rfl⟩:=KL h5;obtain⟨b',rfl⟩:=KL h7;obtain⟨c',rfl⟩:=KL (show 0≤c by omega)
 refine⟨a',b',c',rfl,rfl,rfl,by omega,by omega,by omega,fun i hi=>?_⟩
 have:=h1 (rs.getD i []) (by simp[KD,hi])
 simp only[Qb7,KB,KK]at this
 omega
section
attribute [local go_sem] Tryz.results120 Tryz.results153
def dL(xs:List (Int×Int)):List (List D):=xs.map fun q=>[D.v (.int .i64 q.1),D.v (.int .i64 q.2)]
def unD(l:List (List D)):List (Int×Int):=l.map fun
 | [.v (.int .i64 a),.v (.int .i64 b)]=>(a,b)
 | _=>(0,0)
theorem Qh(xs:List (Int×Int)):unD (dL xs)=xs:=by simp[unD,dL,Function.comp_def]
theorem Qg(xs:List (Int×Int)):(dL xs).length=xs.length:=by simp[dL]
theorem Qae{xs:List (Int×Int)}{i:Nat}(h:i<xs.length):(dL xs).getD i []=[D.v (.int .i64 (xs.getD i (0,0)).1),D.v (.int .i64 (xs.getD i (0,0)).2)]:=by
 simp[dL,KD,h]
theorem Qag{xs:List (Int×Int)}{i:Nat}{a b:Int}:(dL xs).set i [D.v (.int .i64 a),D.v (.int .i64 b)]=dL (xs.set i (a,b)):=by
 simp[dL,List.map_set]
theorem Qaf{xs ys:List (Int×Int)}:dL xs=dL ys↔xs=ys:=by
 constructor
 ·intro h
  have:=congrArg unD h
  simpa only[Qh]using this
 ·rintro rfl;rfl
def WfD(l:List (List D)):Prop:=l=dL (unD l)∧l.length≤maxLen
theorem Qaj{xs:List (Int×Int)}:WfD (dL xs)↔xs.length≤maxLen:=by simp[WfD,Qh,Qg]
theorem WfD.ex{l:List (List D)}(h:WfD l):∃xs,l=dL xs∧xs.length≤maxLen:=⟨unD l,h.1,by have:=h.2;rw[h.1,Qg]at this;exact this⟩
theorem Qa7{a b:Value}:(∀x∈[D.v a,D.v b],QaO x)↔True:=by
 refine⟨fun _=>trivial,fun _ x hx=>?_⟩
 simp only[KI,YK,or_false]at hx
 rcases hx with rfl|rfl<;>trivial
theorem Qd1{a b c d:Int}:([a,b]==[c,d])=((a,b)==(c,d)):=by
 rw[Kp];simp
theorem Qv{q:Int×Int}:(q.1,q.2)=q:=rfl
attribute [local go_sem] Qh Qg Qae Qag Qaf Qaj Qa7 Qd1 Qv
def Qd9:Qb:=⟨[],false,fun
 | [.one (.sl 2 a),.one (.sl 2 b)]=>some (WfD a∧WfD b,[⟨false,[.d (.v (.bool (unD a==unD b)))]⟩],[])
 | _=>none⟩
attribute [local go_sem] Qd9
theorem QqR{xs ys:List (Int×Int)}(h:¬(xs.length:Int)=ys.length):(xs==ys)=false:=KU.2 fun e=>h (by rw[e])
theorem QnH:Qa E0 120 Qd9:=by
 refine QG (E:=E0) (T:=mkT Tryz.prog [] false (fun _=>false) true (fun _=>false)) (Qd (E:=E0) .nil) (fn:=Tryz.f120) Tryz.func120 kR rfl Qc kR rfl ?_
 intro args p rs ms hr;unfold Qd9 at hr;dsimp only at hr;split at hr;rotate_left
 ·cases hr
 rename_i a b;cases hr;refine⟨rfl,rfl,nLe rfl,?_⟩
 have hm:=mxE;rintro⟨h1,h2⟩ bs;obtain⟨xs,rfl,hx⟩:=h1.ex;obtain⟨ys,rfl,hy⟩:=h2.ex;clear h1 h2;rw[Qh,Qh];(repeat' first|refine gA fun _=>?_|apply fkI<;>intro hb<;>try simp only[ew]at hb|simp only[go_sem,simprocAttr, *])
 ·exact(QqR ‹_›).symm
 ·refine lpI {ι:=Nat,rs:=[(4,5),(11,26)],mods:=[(5,fun i=> .one (.d (.v (.int .i64 i))))],boxes:=[],arrs:=[],ok:=fun i=>i≤xs.length∧xs.take i=ys.take i,mu:=fun i=>xs.length-i} rfl 0 ⟨KJ _,rfl⟩ ?_ fun i hi=>?_
  ·exact gQ
  ·dsimp only at i hi
   obtain⟨hi,ht⟩:=hi;have hlen:xs.length=ys.length:=by omega
   (repeat' first|refine gA fun _=>?_|apply fkI<;>intro hb<;>try simp only[ew]at hb|simp only[go_sem,simprocAttr, *])
   ·exact(KU.2 (QkG ‹_›)).symm
   ·have hq:=‹xs.getD i (0,0)=ys.getD i (0,0)›
    refine lpN (i+1) ⟨by omega,by rw[Qf (by omega) (0,0),Qf (by omega) (0,0),ht,hq]⟩ (by dsimp only;omega) ?_
    exact gQ
   ·have:=QiP hlen (by omega) ht
    subst this;simp
theorem QnG:Qa E0 153 Qd9:=by
 refine QG (E:=E0) (T:=mkT Tryz.prog [] false (fun _=>false) true (fun _=>false)) (Qd (E:=E0) .nil) (fn:=Tryz.f153) Tryz.func153 kR rfl Qc kR rfl ?_
 intro args p rs ms hr;unfold Qd9 at hr;dsimp only at hr;split at hr;rotate_left
 ·cases hr
 rename_i a b;cases hr;refine⟨rfl,rfl,nLe rfl,?_⟩
 have hm:=mxE;rintro⟨h1,h2⟩ bs;obtain⟨xs,rfl,hx⟩:=h1.ex;obtain⟨ys,rfl,hy⟩:=h2.ex;clear h1 h2;rw[Qh,Qh];(repeat' first|refine gA fun _=>?_|apply fkI<;>intro hb<;>try simp only[ew]at hb|simp only[go_sem,simprocAttr, *])
 ·exact(QqR ‹_›).symm
 ·refine lpI {ι:=Nat,rs:=[(4,6),(14,26)],mods:=[(13,fun i=> .one (.d (.v (.int .i64 i))))],boxes:=[],arrs:=[],ok:=fun i=>i≤xs.length∧xs.take i=ys.take i,mu:=fun i=>xs.length-i} rfl 0 ⟨KJ _,rfl⟩ ?_ fun i hi=>?_
  ·exact gQ
  ·dsimp only at i hi
   obtain⟨hi,ht⟩:=hi;have hlen:xs.length=ys.length:=by omega
   (repeat' first|refine gA fun _=>?_|apply fkI<;>intro hb<;>try simp only[ew]at hb|simp only[go_sem,simprocAttr, *])
   ·exact(KU.2 (QkG ‹_›)).symm
   ·have hq:=‹xs.getD i (0,0)=ys.getD i (0,0)›
    refine lpN (i+1) ⟨by omega,by rw[Qf (by omega) (0,0),Qf (by omega) (0,0),ht,hq]⟩ (by dsimp only;omega) ?_
    exact gQ
   ·have:=QiP hlen (by omega) ht
    subst this;simp
end
attribute [local go_sem] Qh Qg Qae Qag Qaf Qaj Qa7 Qd1 Qv
end Go.Own
