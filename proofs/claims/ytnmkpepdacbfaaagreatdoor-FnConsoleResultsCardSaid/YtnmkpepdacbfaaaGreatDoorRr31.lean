/- Own contracts. Conditions: as each theorem states them. -/
import Derived.Test.YtnmkpepdacbfaaaGreatDoorRr22
import Derived.Test.YtnmkpepdacbfaaaGreatDoorRr30
set_option linter.unusedSimpArgs false
set_option linter.unusedVariables false
set_option maxRecDepth 1000000
set_option maxHeartbeats 16000000
namespace Go.Own
open Go Go.Proofs
attribute [local go_sem] Qs Qcg Qdh Qs2 Tryz.results103 Qff Qs5 QvL Tryz.results81
theorem QgD{m:Int}{a b:List Int}:∀{n:Nat},agL m a b n=agL m b a n
 | 0=>rfl
 | n+1=>by
  have e:eqc m (a.getD n 0) (b.getD n 0)=eqc m (b.getD n 0) (a.getD n 0):=by
   unfold eqc
   by_cases h:a.getD n 0=b.getD n 0
   ·rw[h]
   ·rw[beq_eq_false_iff_ne.2 h,beq_eq_false_iff_ne.2 (Ne.symm h)];simp
  rw[agL,agL,@QgD m a b n,e]
def agP(m:Int)(c:Nat)(rs:List (List Int))(i:Nat)(k:Nat):List Int:=(rs.take k).map fun o=>agL m (rs.getD i []) o c
def agI(m:Int)(c:Nat)(rs:List (List Int)):Nat→List Int
 | 0=>[]
 | i+1=>agI m c rs i++agP m c rs i i
def Qk8(c:Int)(rs:List (List Int))(m:Int):List Int:=if QC c rs&&QJ m then Qdq (agI m c.toNat rs rs.length)else []
theorem Qtk{m:Int}{c:Nat}{rs:List (List Int)}{i k:Nat}(h:k<rs.length):agP m c rs i (k+1)=agP m c rs i k++[agL m (rs.getD i []) (rs.getD k []) c]:=by
 unfold agP;rw[Qk h [],List.map_append];rfl
theorem QpV{m:Int}{c:Nat}{rs:List (List Int)}{i k:Nat}:(agP m c rs i k).length≤k:=by
 unfold agP;rw[List.length_map,List.length_take];omega
theorem Qlm{m:Int}{c:Nat}{rs:List (List Int)}(h:rs.length≤40):∀{i:Nat},i≤rs.length→(agI m c rs i).length≤i*40
 | 0,_=>Nat.le_refl _
 | i+1,hi=>by
  have h1:=@Qlm m c rs h i (by omega)
  have h2:=@QpV m c rs i i
  rw[agI,List.length_append];omega
theorem Qln{m:Int}{c:Nat}{rs:List (List Int)}{x:Int}:∀{n:Nat},n≤rs.length→(x∈agI m c rs n↔∃i k,k<i∧i<n∧x=agL m (rs.getD i []) (rs.getD k []) c)
 | 0,_=>by simp[agI]
 | n+1,hn=>by
  rw[agI,List.mem_append,@Qln m c rs x n (by omega)]
  have hP:x∈agP m c rs n n↔∃k,k<n∧x=agL m (rs.getD n []) (rs.getD k []) c:=by
   unfold agP;rw[List.mem_map];constructor
   ·rintro⟨o,ho,rfl⟩
    obtain⟨k,hk,e⟩:=List.getElem_of_mem ho;rw[List.length_take]at hk;refine⟨k,by omega,?_⟩
    rw[List.getElem_take]at e;have:rs.getD k []=o:=by simp[List.getD_eq_getElem?_getD,show k<rs.length by omega,e]
    rw[this]
   ·rintro⟨k,hk,rfl⟩
    refine⟨rs.getD k [],?_,rfl⟩
    have h1:k<(rs.take n).length:=by rw[List.length_take];omega
    have h2:=List.getElem_mem h1
    rw[List.getElem_take]at h2;have:rs.getD k []=rs[k]'(by omega):=by simp[List.getD_eq_getElem?_getD,show k<rs.length by omega]
    rw[this];exact h2
  rw[hP];constructor
  ·rintro(⟨i,k,h1,h2,h3⟩|⟨k,h1,h2⟩)
   ·exact⟨i,k,h1,by omega,h3⟩
   ·exact⟨n,k,h1,by omega,h2⟩
  ·rintro⟨i,k,h1,h2,h3⟩
   by_cases e:i=n
   ·subst e;exact .inr ⟨k,h1,h3⟩
   ·exact .inl ⟨i,k,h1,by omega,h3⟩
theorem QgE{c:Int}{rs:List (List Int)}{m:Int}:(Qk8 c rs m).length≤1600∧∀x∈Qk8 c rs m,0≤x∧x≤31:=by
 unfold Qk8;split
 ·rename_i h
  rw[Bool.and_eq_true]at h;obtain⟨n,rfl,n1,n5,h40,hlen⟩:=QR h.1;rw[Int.toNat_natCast];have h1:=@Qlm m n rs h40 rs.length (Nat.le_refl _)
  have h2:=@Qbu (agI m n rs rs.length)
  refine⟨by omega,fun x hx=>?_⟩
  rw[Qbh,Qln (Nat.le_refl _)]at hx;obtain⟨i,k,_,_,rfl⟩:=hx;exact QaW n5
 ·simp
theorem Qcs{rs:List (List Int)}{i:Nat}:(sL rs).take i=sL (rs.take i):=by simp[sL,List.map_take]
def Qw2:Qb:=⟨[],false,fun
 | [.agg [.v (.int .i64 c),.sl 1 l],.one (.v (.int .i64 m))]=>some (WfS l∧ -9223372036854775808≤c∧c≤9223372036854775807,[⟨false,[.own 1 (iL (Qk8 c (unS l) m)) 1]⟩],[])
 | _=>none⟩
attribute [local go_sem] Qw2
theorem QpW:Qa E0 103 Qw2:=by
 refine QV (E:=E0) (T:=mkT Tryz.prog [(138,Qs),(139,Qcg),(144,Qdh),(158,Qs2)] false (fun _=>false) true (fun _=>false)) (Qf (E:=E0) (.cons QaO (.cons QbV (.cons Qgi (.cons Qm9 .nil))))) (fn:=Tryz.f103) Tryz.func103 (by kernel_rfl) rfl Qe (by kernel_rfl) rfl ?_
 intro args p rs ms hr;unfold Qw2 at hr;dsimp only at hr;split at hr;rotate_left
 ·cases hr
 rename_i c l m;cases hr;refine⟨rfl,rfl,nLe rfl,?_⟩
 have hm:=mxE;rintro⟨h1,hc1,hc2⟩ bs;obtain⟨rs,rfl,hx,hy⟩:=h1.ex;clear h1;rw[QG];cases hv:(QC c rs&&QJ m)
 ·have e3:(!QC c rs|| !QJ m)=true:=by rw[←Bool.not_and,hv];rfl
  have e:Qk8 c rs m=[]:=by unfold Qk8;rw[hv];rfl
  have e0:iL []=[]:=rfl
  rw[e];clear e hv;(repeat' first|refine gA fun _=>?_|apply fkI<;>intro hb<;>try simp only[ew,e3,e0]at hb|simp only[go_sem,simprocAttr, *])
  all_goals first|rfl|skip
 ·have e3:(!QC c rs|| !QJ m)=false:=by rw[←Bool.not_and,hv];rfl
  have e:Qk8 c rs m=Qdq (agI m c.toNat rs rs.length):=by unfold Qk8;rw[hv];rfl
  rw[e];clear e;rw[Bool.and_eq_true]at hv;obtain⟨n,rfl,n1,n5,h40,hlen⟩:=QR hv.1;rw[Int.toNat_natCast];have hln:=fun i h=>@Qlm m n rs h40 i h
  have e0:agI m n rs 0=[]:=rfl
  have e1:iL []=[]:=rfl
  clear hv;(repeat' first|refine gA fun _=>?_|apply fkI<;>intro hb<;>try simp only[ew,e3,e1]at hb|simp only[go_sem,simprocAttr, *])
  refine lpI {ι:=Nat,rs:=[(6,8),(9,10),(24,46)],mods:=[(23,fun i=> .one (.d (.v (.int .i64 i)))),(5,fun i=> .one (.own 1 (iL (agI m n rs i)) 1))],boxes:=[(2,fun _=>[.d (.v (.int .i64 n)),.d (.sl 1 (sL rs))])],arrs:=[],ok:=fun i=>i≤rs.length,mu:=fun i=>rs.length-i} rfl 0 (Nat.zero_le _) ?_ fun i hi=>?_
  ·clear hln hlen
   (repeat' first|refine gA fun _=>?_|apply fkI<;>intro hb<;>try simp only[ew,e0,e1]at hb|simp only[go_sem,simprocAttr, *])
   all_goals first|rfl|skip
  ·dsimp only at i hi
   have l1:=hln i hi
   have l2:(agI m n rs i).length≤1600:=by omega
   have l3:(agI m n rs i).length≤maxLen:=Nat.le_trans l2 (by decide)
   clear hln
   by_cases h5:i<rs.length
   ·have eS:agI m n rs (i+1)=agI m n rs i++agP m n rs i i:=rfl
    have hli:=hlen i h5
    generalize hP:agI m n rs i=P at l1 l2 l3 eS;have e2:P++agP m n rs i 0=P:=by simp[agP]
    have hpl:=fun k=>@QpV m n rs i k
    have ht:(rs.take i).length=i:=by rw[List.length_take];omega
    (repeat' first|refine gA fun _=>?_|apply fkI<;>intro hb<;>try simp only[ew,hP,Qcs]at hb|simp only[go_sem,simprocAttr, *,Qcs])
    refine lpI {ι:=Nat,rs:=[(9,10),(34,45)],mods:=[(33,fun k=> .one (.d (.v (.int .i64 k)))),(5,fun k=> .one (.own 1 (iL (P++agP m n rs i k)) 1))],boxes:=[(2,fun _=>[.d (.v (.int .i64 n)),.d (.sl 1 (sL rs))])],arrs:=[],ok:=fun k=>k≤i,mu:=fun k=>i-k} rfl 0 (Nat.zero_le _) ?_ fun k hk=>?_
    ·clear hpl hlen
     (repeat' first|refine gA fun _=>?_|apply fkI<;>intro hb<;>try simp only[ew,e2,Qcs]at hb|simp only[go_sem,simprocAttr, *,Qcs])
     all_goals first|rfl|skip
    ·dsimp only at k hk
     have q1:=hpl k
     have q2:(P++agP m n rs i k).length≤1640:=by rw[List.length_append];omega
     have q3:(P++agP m n rs i k).length≤maxLen:=Nat.le_trans q2 (by decide)
     clear hpl q1
     by_cases h6:k<i
     ·have eK:=congrArg (fun z=>P++z) (Qtk (m:=m) (c:=n) (i:=i) (show k<rs.length by omega))
      try dsimp only at eK
      rw[←List.append_assoc]at eK;have hlk:=hlen k (by omega)
      have hgk:(rs.take i).getD k []=rs.getD k []:=by simp[List.getD_eq_getElem?_getD,List.getElem?_take_of_lt h6]
      have hab:(rs.getD i []).length=(rs.getD k []).length:=by rw[hli,hlk]
      have ha5:(rs.getD i []).length≤5:=by omega
      have hb5:(rs.getD k []).length≤5:=by omega
      have hkt:k<(rs.take i).length:=by omega
      have hmi:(rs.getD i []).length≤maxLen:=Nat.le_trans ha5 (by decide)
      have hmk:(rs.getD k []).length≤maxLen:=Nat.le_trans hb5 (by decide)
      have eL:agL m (rs.getD i []) (rs.getD k []) (rs.getD i []).length=agL m (rs.getD i []) (rs.getD k []) n:=by rw[hli]
      clear hlen;generalize hQ:P++agP m n rs i k=Q at q2 q3 eK;(repeat' first|refine gA fun _=>?_|apply fkI<;>intro hb<;>try simp only[ew,hQ,hgk,eL,Ql]at hb|simp only[go_sem,simprocAttr, *,Ql])
      refine lpN (k+1) (by dsimp only;omega) (by dsimp only;omega) ?_
      (repeat' first|refine gA fun _=>?_|apply fkI<;>intro hb<;>try simp only[ew,hQ,eK,Ql]at hb|simp only[go_sem,simprocAttr, *,Ql])
     ·have e6:k=i:=by omega
      subst e6;clear hlen;(repeat' first|refine gA fun _=>?_|apply fkI<;>intro hb<;>try simp only[ew]at hb|simp only[go_sem,simprocAttr, *])
      refine lpN (k+1) (by dsimp only;omega) (by dsimp only;omega) ?_
      (repeat' first|refine gA fun _=>?_|apply fkI<;>intro hb<;>try simp only[ew,eS]at hb|simp only[go_sem,simprocAttr, *])
   ·have e5:i=rs.length:=by omega
    subst e5;clear hlen;exact gQ
end Go.Own
namespace Go.Own
open Go Go.Proofs
attribute [local go_sem] Qkh Qcf QbQ Tryz.results155 Qaj Tryz.results156 Qak QvK Tryz.results102
attribute [local go_sem] Qm Qc QZ Q1 Q0 Q3 QaH Qdb Qr
def Qw7(f:Nat)(c1:List D)(p:Int→Int→Bool)(n:Int):Qb:=⟨[],false,fun
 | [.one (.v (.int .i64 m)),.fnc g [d1]]=>some (m=n∧g=f∧d1=c1,[⟨false,[.own 2 (dL (QaJ p n)) 1]⟩],[])
 | _=>none⟩
attribute [local go_sem] Qw7
theorem QBD{f:Nat}{F:List Arg→Option (Prop×List RV×List Arg)}{c1:List D}{p:Int→Int→Bool}{pre:Int→Int→Prop}(hf:Qa E0 f ⟨[],false,F⟩)
  (hF:∀a b,F [.agg [.v (.int .i64 a),.v (.int .i64 b)],.ptr c1]=some (pre a b,[⟨false,[.d (.v (.bool (p a b)))]⟩],[])) (hpre:∀a b:Int,(0≤a∧a≤31)→(0≤b∧b≤4)→pre a b)
  (g1:(f=149)=False) (g2:(f=198)=False) (g3:(f=169)=False) {n:Int} (hn:0≤n∧n≤5):
  Qa E0 155 (Qw7 f c1 p n):=by
 refine QV (E:=E0) (T:=mkT Tryz.prog [(f,⟨[],false,F⟩),(169,Qkh),(149,Qcf),(198,QbQ)] false (fun _=>false) true (fun _=>false)) (Qf (E:=E0) (.cons hf (.cons Qmj (.cons Qb8 (.cons Qfy .nil))))) (fn:=Tryz.f155) Tryz.func155 (by kernel_rfl) rfl Qe (by kernel_rfl) rfl ?_
 intro args p rs ms hr;unfold Qw7 at hr;dsimp only at hr;split at hr;rotate_left
 ·cases hr
 rename_i m g d1;cases hr;refine⟨rfl,rfl,nLe rfl,?_⟩
 have hm:=mxE;rintro⟨rfl,rfl,rfl⟩ bs;obtain⟨n0,n5⟩:=hn;obtain⟨c,rfl⟩:=Int.eq_ofNat_of_zero_le n0;unfold QaJ;rw[Int.toNat_natCast];obtain⟨P1,P2,P3⟩:=@QM c;have P1':(Q9 c).length≤maxLen:=Nat.le_trans P1 (by decide)
 (repeat' first|refine gA fun _=>?_|apply fkI<;>intro hb<;>try simp only[ew]at hb|simp only[go_sem,simprocAttr, *])
 refine lpI {ι:=Nat,rs:=[(7,8),(9,10),(11,52)],mods:=[(6,fun r=> .one (.d (.v (.int .i64 r)))),(5,fun r=> .one (.own 2 (dL (Qda p c r)) 1))],boxes:=[],arrs:=[],ok:=fun r=>r≤c,mu:=fun r=>c-r} rfl 0 (Nat.zero_le _) ?_ fun r hr=>?_
 ·exact gQ
 ·dsimp only at r hr
  by_cases h5:r<c
  ·have hr5:r<5:=by omega
   have l0:=@Qa6 p c r
   have l1:(Qda p c r).length≤256:=by omega
   clear l0;(repeat' first|refine gA fun _=>?_|apply fkI<;>intro hb<;>try simp only[ew]at hb|simp only[go_sem,simprocAttr, *])
   refine lpI {ι:=Nat×List Int,rs:=[(9,10),(21,52)],mods:=[(20,fun i=> .one (.d (.v (.int .i64 i.1)))),(7,fun i=> .one (.own 1 (iL i.2) 1)),(5,fun i=> .one (.own 2 (dL (Qda p c r++i.2.map fun x=>(x,(r:Int)))) 1))],boxes:=[],arrs:=[(18,fun _=>(1,iL (Q9 c),1))],ok:=fun i=>pdI p c r i.1 i.2,mu:=fun i=>(Q9 c).length-i.1} rfl (0,[]) QkR ?_ ?_
   ·have e1:Qda p c r++([]:List Int).map (fun x=>(x,(r:Int)))=Qda p c r:=by simp
    (repeat' first|refine gA fun _=>?_|apply fkI<;>intro hb<;>try simp only[ew,e1]at hb|simp only[go_sem,simprocAttr, *])
    all_goals first|rfl|skip
   ·rintro⟨i,tk⟩ hi
    dsimp only at hi;have hi1:=hi.1
    obtain⟨a1,a2⟩:=QpR hr5 hi;have a3:tk.length≤maxLen:=Nat.le_trans a2 (by decide)
    by_cases h6:i<(Q9 c).length
    ·obtain⟨x0,x31⟩:=P3 i h6
     have hsk:=QnU hi h6
     have htak:=QnV hi h6
     generalize hX:(Q9 c).getD i 0=x at x0 x31 hsk htak;have hpr:=hpre x (r:Nat) ⟨x0,x31⟩ ⟨by omega,by omega⟩
     have eT:=@QmH (Qda p c r) tk x r
     clear hi;generalize hA:Qda p c r++tk.map (fun x=>(x,(r:Int)))=acc at a1 eT
     cases hg:(!Qy x (r:Nat)&& !Qcz tk x&&p x (r:Nat))
     ·have hsk:=hsk hg
      clear htak eT;(repeat' first|refine gA fun _=>?_|apply fkI<;>intro hb<;>try simp only[ew,hX,hA,hg,hF]at hb|simp only[go_sem,simprocAttr, *,hg,hF])
      refine lpN (i+1,tk) hsk (by dsimp only;omega) ?_
      clear hsk;(repeat' first|refine gA fun _=>?_|apply fkI<;>intro hb<;>try simp only[ew,hA]at hb|simp only[go_sem,simprocAttr, *])
     ·have htak:=htak hg
      clear hsk;(repeat' first|refine gA fun _=>?_|apply fkI<;>intro hb<;>try simp only[ew,hX,hA,hg,hF,QW,Ql]at hb|simp only[go_sem,simprocAttr, *,hg,hF,QW,Ql])
      refine lpN (i+1,tk++[x]) htak (by dsimp only;omega) ?_
      clear htak;(repeat' first|refine gA fun _=>?_|apply fkI<;>intro hb<;>try simp only[ew,hX,hA,eT,QW,Ql]at hb|simp only[go_sem,simprocAttr, *,QW,Ql])
    ·have e5:i=(Q9 c).length:=by omega
     subst e5;have e2:=QkI hi
     clear hi;(repeat' first|refine gA fun _=>?_|apply fkI<;>intro hb<;>try simp only[ew]at hb|simp only[go_sem,simprocAttr, *])
     refine lpN (r+1) (by dsimp only;omega) (by dsimp only;omega) ?_
     (repeat' first|refine gA fun _=>?_|apply fkI<;>intro hb<;>try simp only[ew,e2]at hb|simp only[go_sem,simprocAttr, *])
  ·have e5:r=c:=by omega
   subst e5;exact gQ
def Qzl(a b x:Int):Bool:= !(Qal a x&& !Qy x b)
def QvZ(xs:List Int)(a b:Int):Bool:=xs.all (Qzl a b)
def QqM(n:Int)(xs:List Int):List (Int×Int):=if inB n 1 5&&xs.all (Qj n)then QaJ (QvZ xs) n else []
def Qw4:Qb:=⟨[],false,fun
 | [.agg [.v (.int .i64 a),.v (.int .i64 b)],.ptr [.sl 1 l]]=>some (WfI l∧0≤b∧b≤4,[⟨false,[.d (.v (.bool (QvZ (unI l) a b)))]⟩],[])
 | _=>none⟩
attribute [local go_sem] Qw4
theorem Qxm:Qa E0 156 Qw4:=by
 refine QV (E:=E0) (T:=mkT Tryz.prog [(157,Qaj),(149,Qcf)] false (fun _=>false) true (fun _=>false)) (Qf (E:=E0) (.cons QaN (.cons Qb8 .nil))) (fn:=Tryz.f156) Tryz.func156 (by kernel_rfl) rfl Qe (by kernel_rfl) rfl ?_
 intro args p rs ms hr;unfold Qw4 at hr;dsimp only at hr;split at hr;rotate_left
 ·cases hr
 rename_i a b l;cases hr;refine⟨rfl,rfl,nLe rfl,?_⟩
 have hm:=mxE;rintro⟨h1,b0,b4⟩ bs;obtain⟨xs,rfl,hx⟩:=h1.ex;clear h1;rw[Qay];unfold QvZ;(repeat' first|refine gA fun _=>?_|apply fkI<;>intro hb<;>try simp only[ew]at hb|simp only[go_sem,simprocAttr, *])
 refine lpI {ι:=Nat,rs:=[(3,4),(5,6),(9,24)],mods:=[(8,fun i=> .one (.d (.v (.int .i64 i))))],boxes:=[(2,fun _=>[.d (.v (.int .i64 a)),.d (.v (.int .i64 b))])],arrs:=[],ok:=fun i=>i≤xs.length∧(xs.drop i).all (Qzl a b)=xs.all (Qzl a b),mu:=fun i=>xs.length-i} rfl 0 ⟨Nat.zero_le _,rfl⟩ ?_ fun i hi=>?_
 ·exact gQ
 ·dsimp only at i hi
  obtain⟨hi,ht⟩:=hi
  by_cases h5:i<xs.length
  ·rw[QaX h5 0,List.all_cons]at ht
   have hd:Qzl a b (xs.getD i 0)= !(Qal a (xs.getD i 0)&& !Qy (xs.getD i 0) b):=rfl
   rw[hd,Qa0]at ht;clear hd;cases hA:(Qax .andNot .i64 a (xs.getD i 0)==0)
   ·rw[hA,Bool.false_and,Bool.not_false,Bool.true_and]at ht
    (repeat' first|refine gA fun _=>?_|apply fkI<;>intro hb<;>try simp only[ew,hA]at hb|simp only[go_sem,simprocAttr, *,hA])
    refine lpN (i+1) ⟨by omega,ht⟩ (by dsimp only;omega) ?_
    clear ht;(repeat' first|refine gA fun _=>?_|apply fkI<;>intro hb<;>try simp only[ew,hA]at hb|simp only[go_sem,simprocAttr, *,hA])
   ·rw[hA,Bool.true_and,Bool.not_not]at ht
    cases hB:Qy (xs.getD i 0) b
    ·rw[hB,Bool.false_and]at ht
     rw[←ht];clear ht;(repeat' first|refine gA fun _=>?_|apply fkI<;>intro hb<;>try simp only[ew,hA,hB]at hb|simp only[go_sem,simprocAttr, *,hA,hB])
     all_goals first|rfl|skip
    ·rw[hB,Bool.true_and]at ht
     (repeat' first|refine gA fun _=>?_|apply fkI<;>intro hb<;>try simp only[ew,hA,hB]at hb|simp only[go_sem,simprocAttr, *,hA,hB])
     refine lpN (i+1) ⟨by omega,ht⟩ (by dsimp only;omega) ?_
     clear ht;(repeat' first|refine gA fun _=>?_|apply fkI<;>intro hb<;>try simp only[ew,hA,hB]at hb|simp only[go_sem,simprocAttr, *,hA,hB])
  ·have e5:i=xs.length:=by omega
   subst e5;rw[List.drop_length,List.all_nil]at ht;rw[←ht];clear ht;exact gQ
def Qdj:Qb:=⟨[],false,fun
 | [.one (.v (.int .i64 n)),.fnc f [[.sl 1 l]]]=>some (f=156∧WfI l∧0≤n∧n≤5,[⟨false,[.own 2 (dL (QaJ (QvZ (unI l)) n)) 1]⟩],[])
 | _=>none⟩
theorem QuR:Qa E0 155 Qdj:=by
 refine⟨⟨Tryz.f155,Tryz.func155,by kernel_rfl,rfl⟩,?_⟩
 intro args p rs ms hr hp;unfold Qdj at hr;dsimp only at hr;split at hr
 ·rename_i n f l
  cases hr;obtain⟨rfl,h1,h0,h5⟩:=hp;exact(QBD (f:=156) (c1:=[.sl 1 l]) (p:=QvZ (unI l)) Qxm (fun a b=>rfl) (fun a b ha hb=>⟨h1,hb.1,hb.2⟩) (by simp) (by simp) (by simp) ⟨h0,h5⟩).2 _ _ _ _ rfl ⟨rfl,rfl,rfl⟩
 ·cases hr
def Qzf:Qb:=⟨[],false,fun
 | [.one (.v (.int .i64 n)),.one (.sl 1 l)]=>some (WfI l∧ -9223372036854775808≤n∧n≤9223372036854775807,[⟨false,[.own 2 (dL (QqM n (unI l))) 1]⟩],[])
 | _=>none⟩
attribute [local go_sem] Qzf
theorem Qxn:Qa E0 102 Qzf:=by
 refine QV (E:=E0) (T:=mkT Tryz.prog [(155,Qdj),(154,Qak),(155,QvK)] false (fun _=>false) true (fun _=>false)) (Qf (E:=E0) (.cons QuR (.cons Qbv (.cons Qmc .nil)))) (fn:=Tryz.f102) Tryz.func102 (by kernel_rfl) rfl Qe (by kernel_rfl) rfl ?_
 intro args p rs ms hr;unfold Qzf at hr;dsimp only at hr;split at hr;rotate_left
 ·cases hr
 rename_i n l;cases hr;refine⟨rfl,rfl,nLe rfl,?_⟩
 have hm:=mxE;rintro⟨h1,hn1,hn2⟩ bs;obtain⟨xs,rfl,hx⟩:=h1.ex;clear h1;rw[Qay];have e0:dL []=[]:=rfl
 cases hn:inB n 1 5
 ·have e:QqM n xs=[]:=by unfold QqM;rw[hn];rfl
  have e3:(decide (n<1)||decide (n>5))=true:=by
   cases q:(decide (n<1)||decide (n>5))with
   | true=>rfl
   | false=>
    simp only[Bool.or_eq_false_iff,decide_eq_false_iff_not]at q
    rw[←Bool.not_eq_true,Qh]at hn;omega
  rw[e];clear e hn;(repeat' first|refine gA fun _=>?_|apply fkI<;>intro hb<;>try simp only[ew,e3,e0,Qdj]at hb|simp only[go_sem,simprocAttr, *,Qdj])
  all_goals first|rfl|skip
 ·rw[Qh]at hn
  have e3:(decide (n<1)||decide (n>5))=false:=by rw[decide_eq_false (by omega),decide_eq_false (by omega)];rfl
  have e:QqM n xs=if xs.all (Qj n)then QaJ (QvZ xs) n else []:=by unfold QqM;rw[Qh.2 hn,Bool.true_and]
  rw[e];clear e;obtain⟨n1,n5⟩:=hn;have n0:0≤n:=by omega
  (repeat' first|refine gA fun _=>?_|apply fkI<;>intro hb<;>try simp only[ew,e3,Qdj]at hb|simp only[go_sem,simprocAttr, *,Qdj])
  refine lpI {ι:=Nat,rs:=[(4,5),(6,7),(16,24)],mods:=[(15,fun i=> .one (.d (.v (.int .i64 i))))],boxes:=[(3,fun _=>[.d (.sl 1 (iL xs))])],arrs:=[],ok:=fun i=>i≤xs.length∧(xs.drop i).all (Qj n)=xs.all (Qj n),mu:=fun i=>xs.length-i} rfl 0 ⟨Nat.zero_le _,rfl⟩ ?_ fun i hi=>?_
  ·(repeat' first|refine gA fun _=>?_|apply fkI<;>intro hb<;>try simp only[ew,Qdj]at hb|simp only[go_sem,simprocAttr, *,Qdj])
   all_goals first|rfl|skip
  ·dsimp only at i hi
   obtain⟨hi,ht⟩:=hi
   by_cases h5:i<xs.length
   ·rw[QaX h5 0,List.all_cons]at ht
    cases hA:Qj n (xs.getD i 0)
    ·rw[hA,Bool.false_and]at ht
     rw[←ht,if_neg (by decide)]
     clear ht;(repeat' first|refine gA fun _=>?_|apply fkI<;>intro hb<;>try simp only[ew,hA,e0,Qdj]at hb|simp only[go_sem,simprocAttr, *,hA,Qdj])
     all_goals first|rfl|skip
    ·rw[hA,Bool.true_and]at ht
     (repeat' first|refine gA fun _=>?_|apply fkI<;>intro hb<;>try simp only[ew,hA,Qdj]at hb|simp only[go_sem,simprocAttr, *,hA,Qdj])
     refine lpN (i+1) ⟨by omega,ht⟩ (by dsimp only;omega) ?_
     clear ht;(repeat' first|refine gA fun _=>?_|apply fkI<;>intro hb<;>try simp only[ew,hA,Qdj]at hb|simp only[go_sem,simprocAttr, *,hA,Qdj])
   ·have e5:i=xs.length:=by omega
    subst e5;rw[List.drop_length,List.all_nil]at ht;rw[←ht,if_pos rfl];clear ht;(repeat' first|refine gA fun _=>?_|apply fkI<;>intro hb<;>try simp only[ew,Qdj]at hb|simp only[go_sem,simprocAttr, *,Qdj])
    all_goals first|rfl|skip
end Go.Own
namespace Go.Own
open Go Go.Proofs
attribute [local go_sem] Qzf QbD Qak Qkh Tryz.results80
attribute [local go_sem] Qm Qc QZ Q1 Q0 Q3 QaH Qdb Qr
attribute [local go_sem ↓ 10000] Qmz
end Go.Own
