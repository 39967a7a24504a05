/- Own contracts. Conditions: as each theorem states them. -/
import Derived.Test.YtnmkpepdacbfaaaGreatDoorRr40
set_option linter.unusedSimpArgs false
set_option linter.unusedVariables false
set_option maxRecDepth 20000
set_option maxHeartbeats 4000000
namespace Go.Own
open Go Go.Proofs
theorem QdA{n:Int}:(Qdc n).size≤20:=by
 unfold Qdc Qzm;rw[Qai];split
 ·decide
 ·have:=@QlO 20 n []
  simpa using this
theorem QqV{ds:List (Int×Int)}{B:Nat}(h:ds.length≤B):(dlL ds).size≤B*12+4:=by
 unfold dlL;split
 ·show 4≤_;omega
 ·have:=Qjl (sep:=⟨#[32]⟩) (B:=11) (ss:=ds.map fd) (fun s hs=>by obtain⟨x,_,rfl⟩:=List.mem_map.1 hs;exact Qun)
  rw[List.length_map]at this;have e:(⟨#[32]⟩:ByteArray).size=1:=rfl
  rw[e]at this;omega
theorem QsA{xs:List Int}{B:Nat}(h:xs.length≤B):(slL xs).size≤B*6+7:=by
 unfold slL;split
 ·show 7≤_;omega
 ·have:=@QeP xs
  omega
theorem QxX{ds:List (Int×Int)}{s:Int×Int×Int}:(lnB ds s).size≤32:=by
 unfold lnB;have h1:=@QaM s.2.1
 have h2:=@QaM s.2.2
 have h3:=@Qun (ds.getD s.1.toNat (0,0))
 rw[Qd,Qd,Qd,Qd,Qlv,Qfw];omega
theorem Qm4{n:Int}{ds:List (Int×Int)}{a b:Int}:(jb ⟨#[59,32]⟩ (Qui n ds a b)).size≤204:=by
 have:=Qjl (sep:=⟨#[59,32]⟩) (B:=32) (ss:=Qui n ds a b) (fun s hs=>by obtain⟨x,_,rfl⟩:=List.mem_map.1 hs;exact QxX)
 have e:(⟨#[59,32]⟩:ByteArray).size=2:=rfl
 have h6:=@QqW n ds a b
 rw[e]at this;omega
theorem Qy0{c:Int}{rs:List (List Int)}{m l r:Int}:(wlB c rs m l r).size≤100:=by
 have h1:=@Qun (l,r)
 unfold wlB;split
 ·split
  ·rename_i i k _
   have n1:=@QdA (i:Nat)
   have n2:=@QdA (k:Nat)
   have n3:=@QdA (Qpk c rs m l r)
   rw[Qd,Qd,Qd,Qd,Qd,Qd,s11,s5,s9];omega
  ·rw[Qd,s6];omega
 ·exact Nat.zero_le _
theorem Qhg{c:Int}{rs:List (List Int)}{m:Int}:(Qj0 c rs m).length≤100:=by
 unfold Qj0;split
 ·exact Qc0
 ·exact Nat.zero_le _
theorem Qsu{n:Int}{ds:List (Int×Int)}:(QAS n ds).size≤2000:=by
 unfold QAS;split
 ·have k3:=(Qd0 (@Qeq n ds).1).2.2
  have s3:=(Qd0 (@Qoa n ds)).2.2
  have d3:=(Qd0 (@Qm2 n ds)).2.2
  rw[Qd,Qd,Qd,Qd,Qd,Qhi,QfS,Qfd];omega
 ·exact Nat.zero_le _
theorem QvU{σ:Con}(h:Qdm σ):σ.ds.length≤160:=by
 rcases h.1 with h|h
 ·rw[h.2.2.2.1];exact Nat.zero_le _
 ·obtain⟨_,_,e⟩:=QaD h
  rw[e];exact Qca.1
theorem Qn3{σ:Con}{ws:List ByteArray}(h:Qdm σ):(QfN σ ws).2.size≤10000:=by
 have hok:sOk.size≤10000:=by decide
 have hno:sNo.size≤10000:=by decide
 have hwh:Qmr.size≤10000:=by decide
 unfold QfN;split
 ·unfold QtB;split<;>assumption
 split
 ·exact(by decide:Qwp.size≤10000)
 split
 ·unfold Qsj;split<;>assumption
 split
 ·unfold Qqs
  split
  ·split<;>assumption
  ·assumption
 split
 ·unfold Quj;split<;>assumption
 split
 ·split
  ·unfold Qzc
   split
   ·exact Nat.le_trans Qy0 (by decide)
   split
   ·split
    ·exact hno
    ·exact Nat.le_trans QdA (by decide)
   split
   ·split
    ·split
     ·exact(by decide:QAP.size≤10000)
     ·exact Nat.le_trans Qm4 (by decide)
    ·exact hno
   ·exact hwh
  ·exact hwh
 split
 ·unfold QvA
  have h1:=QqV (QvU h)
  have h2:=QsA (@Qhg σ.c σ.rs σ.m)
  have h3:=QsA (@QgE σ.c σ.rs σ.m).1
  have h4:=QqV (@Qfo σ.c σ.gv).2
  have h5:=@Qsu σ.c σ.gv
  have h6:=@QdA (σ.rs.length:Nat)
  repeat' split
  all_goals (try dsimp only)<;>first|assumption|omega
 ·exact hwh
end Go.Own

namespace Go.Own
open Go Go.Proofs
attribute [local go_sem] Tryz.results18
def toS(l:List UInt8):ByteArray:=⟨l.toArray⟩
theorem Qd3{l:List UInt8}:(toS l).data.toList=l:=rfl
theorem Qfr{c:UInt8}{s:ByteArray}:QbO c s=(Qex c s.data.toList).map toS:=rfl
attribute [local go_sem] Qbp Qz Qbm Qcu
end Go.Own

namespace Go.Own
open Go Go.Proofs
attribute [local go_sem] Tryz.results10
attribute [local go_sem] QbP Qab QcO
theorem QjE{n:Int}(h0:0≤n)(h1:n≤9223372036854775807):QuY n=Qdc n:=(Qdz h0 h1).symm
theorem QuZ{n:Int}(h0:n<0)(h1: -9223372036854775807≤n):QuY n=⟨#[45]⟩++Qcv (dgF 20 (-n) []):=by
 rw[←QnI (by omega),Qdz (by omega) (by omega)]
 refine Qa8 ?_
 rw[Qav];show Lib.itoa n=[45]++Lib.itoa (-n)
 unfold Lib.itoa;rw[if_pos h0,if_neg (by omega)]
 have:(-n).toNat=n.natAbs:=by omega
 rw[this];rfl
def Qkg:Qb:=⟨[],false,fun
 | [.one (.v (.int .i64 n))]=>some (-1000000000000≤n∧n≤1000000000000,[⟨false,[.d (.v (.string (QuY n)))]⟩],[])
 | _=>none⟩
attribute [local go_sem] Qkg
theorem Qnh:Qa E0 10 Qkg:=by
 refine QV (E:=E0) (T:=mkT Tryz.prog [] false (fun _=>false) true (fun _=>false)) (Qf (E:=E0) .nil) (fn:=Tryz.f10) Tryz.func10 (by kernel_rfl) rfl Qe (by kernel_rfl) rfl ?_
 intro args p rs ms hr;unfold Qkg at hr;dsimp only at hr;split at hr;rotate_left
 ·cases hr
 rename_i k;cases hr;refine⟨rfl,rfl,nLe rfl,?_⟩
 have hm:=mxE;rintro⟨h1,h2⟩ bs
 by_cases hk:k=0
 ·subst hk
  have eb:(⟨#[48]⟩:ByteArray)=Qcv [48]:=rfl
  have ew0:QuY 0=Qcv [48]:=(QjE (by omega) (by omega)).trans QrU
  rw[ew0];(repeat' first|refine gA fun _=>?_|apply fkI<;>intro hb<;>try simp only[ew,eb]at hb|simp only[go_sem,simprocAttr, *])
  all_goals first|rfl|skip
 by_cases hp:0<k
 ·rw[QjE (by omega) (by omega),QnI hk]
  have hk2:(k==0)=false:=beq_eq_false_iff_ne.2 hk
  have hk3:decide (k<0)=false:=decide_eq_false (by omega)
  have e0:(⟨#[]⟩:ByteArray)=Qcv []:=rfl
  generalize hF:dgF 20 k []=F;(repeat' first|refine gA fun _=>?_|apply fkI<;>intro hb<;>try simp only[ew,hk2,hk3,e0]at hb|simp only[go_sem,simprocAttr, *])
  refine lpI {ι:=Nat×Int×List Int,rs:=[(5,6),(10,27)],mods:=[(0,fun i=> .one (.d (.v (.int .i64 i.2.1)))),(3,fun i=> .one (.d (.v (.string (Qcv i.2.2)))))],boxes:=[],arrs:=[],ok:=fun i=>((0≤i.2.1∧i.2.1≤1125899906842625)∧i.2.1<10^i.1)∧(i.1≤20∧i.2.2.length+i.1≤20)∧dgF i.1 i.2.1 i.2.2=F,mu:=fun i=>i.1} rfl (20,k,[]) ⟨⟨⟨by dsimp only;omega,by dsimp only;omega⟩,by dsimp only;omega⟩,⟨by dsimp only;omega,by simp⟩,hF⟩ ?_ ?_
  ·(repeat' first|refine gA fun _=>?_|apply fkI<;>intro hb<;>try simp only[ew,e0]at hb|simp only[go_sem,simprocAttr, *])
   all_goals first|rfl|skip
  ·rintro⟨j,m,acc⟩ hi
   dsimp only at hi;obtain⟨⟨⟨m0,mK⟩,mj⟩,⟨j20,ja⟩,ht⟩:=hi;clear hF hk2 hk3
   by_cases h5:m>0
   ·have h5':(m !=0)=true:=by rw[bne_iff_ne];omega
    cases j with
    | zero=>exfalso;simp at mj;omega
    | succ j=>
     rw[QqT (by omega)]at ht
     rw[QCq]at mj;have mj2:m/10<10^j:=by
      generalize (10:Int)^j=p at mj;omega
     have e1:m.tmod 10=m%10:=Int.tmod_eq_emod_of_nonneg m0
     have e2:m.tdiv 10=m/10:=Int.tdiv_eq_ediv_of_nonneg m0
     have r0:0≤m%10:=by omega
     have r10:m%10<10:=by omega
     have r1:decide (m%10<0)=false:=decide_eq_false (by omega)
     have ew:=Qwu r0 r10
     have eb:Qcv [48+m%10]++Qcv acc=Qcv ((48+m%10)::acc):=by rw[QcP];rfl
     (repeat' first|refine gA fun _=>?_|apply fkI<;>intro hb<;>try simp only[ew,e1,e2,r1,ew,eb,Qai,h5']at hb|simp only[go_sem,simprocAttr, *,Qai])
     refine lpN (j,m/10,(48+m%10)::acc) ⟨⟨⟨by dsimp only;omega,by dsimp only;omega⟩,mj2⟩,⟨by dsimp only;omega,by dsimp only[List.length_cons];omega⟩,ht⟩ (by dsimp only;omega) ?_
     clear ht;(repeat' first|refine gA fun _=>?_|apply fkI<;>intro hb<;>try simp only[ew,e1,e2,ew,eb]at hb|simp only[go_sem,simprocAttr, *])
   ·have h5':(m !=0)=false:=by rw[bne_eq_false_iff_eq];omega
    have em:m=0:=by omega
    subst em;rw[Qja]at ht;subst ht;(repeat' first|refine gA fun _=>?_|apply fkI<;>intro hb<;>try simp only[ew,h5',Qai]at hb|simp only[go_sem,simprocAttr, *,Qai])
    all_goals first|rfl|skip
 ·rw[QuZ (by omega) (by omega)]
  have hk2:(k==0)=false:=beq_eq_false_iff_ne.2 hk
  have hk3:decide (k<0)=true:=decide_eq_true (by omega)
  have e0:(⟨#[]⟩:ByteArray)=Qcv []:=rfl
  have s45:ByteArray.size ⟨#[45]⟩=1:=rfl
  generalize hF:dgF 20 (-k) []=F;(repeat' first|refine gA fun _=>?_|apply fkI<;>intro hb<;>try simp only[ew,hk2,hk3,e0]at hb|simp only[go_sem,simprocAttr, *])
  refine lpI {ι:=Nat×Int×List Int,rs:=[(5,6),(10,27)],mods:=[(0,fun i=> .one (.d (.v (.int .i64 (-i.2.1))))),(3,fun i=> .one (.d (.v (.string (Qcv i.2.2)))))],boxes:=[],arrs:=[],ok:=fun i=>((0≤i.2.1∧i.2.1≤1125899906842625)∧i.2.1<10^i.1)∧(i.1≤20∧i.2.2.length+i.1≤20)∧dgF i.1 i.2.1 i.2.2=F,mu:=fun i=>i.1} rfl (20,-k,[]) ⟨⟨⟨by dsimp only;omega,by dsimp only;omega⟩,by dsimp only;omega⟩,⟨by dsimp only;omega,by simp⟩,hF⟩ ?_ ?_
  ·have ek: -(-k)=k:=by omega
   (repeat' first|refine gA fun _=>?_|apply fkI<;>intro hb<;>try simp only[ew,e0,ek]at hb|simp only[go_sem,simprocAttr, *])
   all_goals first|rfl|skip
  ·rintro⟨j,m,acc⟩ hi
   dsimp only at hi;obtain⟨⟨⟨m0,mK⟩,mj⟩,⟨j20,ja⟩,ht⟩:=hi;clear hF hk2 hk3
   by_cases h5:m>0
   ·have h5':(-m !=0)=true:=by rw[bne_iff_ne];omega
    cases j with
    | zero=>exfalso;simp at mj;omega
    | succ j=>
     rw[QqT (by omega)]at ht
     rw[QCq]at mj;have mj2:m/10<10^j:=by
      generalize (10:Int)^j=p at mj;omega
     have e1:(-m).tmod 10= -(m%10):=by rw[Int.neg_tmod,Int.tmod_eq_emod_of_nonneg m0]
     have e2:(-m).tdiv 10= -(m/10):=by rw[Int.neg_tdiv,Int.tdiv_eq_ediv_of_nonneg m0]
     have r0:0≤m%10:=by omega
     have r10:m%10<10:=by omega
     have ew:=Qwu r0 r10
     have eb:Qcv [48+m%10]++Qcv acc=Qcv ((48+m%10)::acc):=by rw[QcP];rfl
     by_cases hz:m%10=0
     ·have r1:decide (-(m%10)<0)=false:=decide_eq_false (by omega)
      have z1:IntKind.wrap .u8 48=48:=rfl
      have eb0:Qcv [48]++Qcv acc=Qcv (48::acc):=by rw[QcP];rfl
      clear ew eb;(repeat' first|refine gA fun _=>?_|apply fkI<;>intro hb<;>try simp only[ew,e1,e2,r1,z1,eb0,Qai,h5']at hb|simp only[go_sem,simprocAttr, *,Qai])
      refine lpN (j,m/10,(48+m%10)::acc) ⟨⟨⟨by dsimp only;omega,by dsimp only;omega⟩,mj2⟩,⟨by dsimp only;omega,by dsimp only[List.length_cons];omega⟩,ht⟩ (by dsimp only;omega) ?_
      clear ht;(repeat' first|refine gA fun _=>?_|apply fkI<;>intro hb<;>try simp only[ew,e1,e2,z1,eb0]at hb|simp only[go_sem,simprocAttr, *])
     ·have r1:decide (-(m%10)<0)=true:=decide_eq_true (by omega)
      have r2:0- -(m%10)=m%10:=by omega
      (repeat' first|refine gA fun _=>?_|apply fkI<;>intro hb<;>try simp only[ew,e1,e2,r1,ew,eb,Qai,h5',r2]at hb|simp only[go_sem,simprocAttr, *,Qai])
      refine lpN (j,m/10,(48+m%10)::acc) ⟨⟨⟨by dsimp only;omega,by dsimp only;omega⟩,mj2⟩,⟨by dsimp only;omega,by dsimp only[List.length_cons];omega⟩,ht⟩ (by dsimp only;omega) ?_
      clear ht;(repeat' first|refine gA fun _=>?_|apply fkI<;>intro hb<;>try simp only[ew,e1,e2,ew,eb,r2]at hb|simp only[go_sem,simprocAttr, *])
   ·have h5':(-m !=0)=false:=by rw[bne_eq_false_iff_eq];omega
    have em:m=0:=by omega
    subst em;rw[Qja]at ht;subst ht;(repeat' first|refine gA fun _=>?_|apply fkI<;>intro hb<;>try simp only[ew,h5',Qai,Qd,s45]at hb|simp only[go_sem,simprocAttr, *,Qai,Qd])
    all_goals first|rfl|skip
end Go.Own
