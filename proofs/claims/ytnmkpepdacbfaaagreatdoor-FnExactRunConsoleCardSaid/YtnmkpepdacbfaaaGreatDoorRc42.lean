/- Own contracts. Conditions: as each theorem states them. -/
import Derived.Test.YtnmkpepdacbfaaaGreatDoorRc41
set_option linter.unusedSimpArgs false
set_option linter.unusedVariables false
set_option maxRecDepth 20000
set_option maxHeartbeats 4000000
namespace Go.Own
open Go Go.Proofs
theorem Qd9{n:Int}:(QiB n).size≤20:=by
 unfold QiB QA0;rw[Q1];split
 ·decide
 ·have:=@QnG 20 n []
  simpa using this
theorem QsU{ds:List (Int×Int)}{B:Nat}(h:ds.length≤B):(dlL ds).size≤B*12+4:=by
 unfold dlL;split
 ·show 4≤_;omega
 ·have:=Qiq (sep:=⟨#[32]⟩) (B:=11) (ss:=ds.map fd) (fun s hs=>by obtain⟨x,_,rfl⟩:=List.mem_map.1 hs;exact Qs2)
  rw[List.length_map]at this;have e:(⟨#[32]⟩:ByteArray).size=1:=rfl
  rw[e]at this;omega
theorem Qur{xs:List Int}{B:Nat}(h:xs.length≤B):(slL xs).size≤B*6+7:=by
 unfold slL;split
 ·show 7≤_;omega
 ·have:=@Qhs xs
  omega
theorem Qtv{ds:List (Int×Int)}{s:Int×Int×Int}:(lnB ds s).size≤32:=by
 unfold lnB;have h1:=@QaW s.2.1
 have h2:=@QaW s.2.2
 have h3:=@Qs2 (ds.getD s.1.toNat (0,0))
 rw[Qg,Qg,Qg,Qg,Qf5,Qc3];omega
theorem Qo2{n:Int}{ds:List (Int×Int)}{a b:Int}:(jb ⟨#[59,32]⟩ (QnI n ds a b)).size≤204:=by
 have:=Qiq (sep:=⟨#[59,32]⟩) (B:=32) (ss:=QnI n ds a b) (fun s hs=>by obtain⟨x,_,rfl⟩:=List.mem_map.1 hs;exact Qtv)
 have e:(⟨#[59,32]⟩:ByteArray).size=2:=rfl
 have h6:=@QnJ n ds a b
 rw[e]at this;omega
theorem QAM{c:Int}{rs:List (List Int)}{m l r:Int}:(wlB c rs m l r).size≤100:=by
 have h1:=@Qs2 (l,r)
 unfold wlB;split
 ·split
  ·rename_i i k _
   have n1:=@Qd9 (i:Nat)
   have n2:=@Qd9 (k:Nat)
   have n3:=@Qd9 (Qj5 c rs m l r)
   rw[Qg,Qg,Qg,Qg,Qg,Qg,s11,s5,s9];omega
  ·rw[Qg,s6];omega
 ·exact Nat.zero_le _
theorem QnY{c:Int}{rs:List (List Int)}{m:Int}:(Qpu c rs m).length≤100:=by
 unfold Qpu;split
 ·exact Qdy
 ·exact Nat.zero_le _
theorem Qul{n:Int}{ds:List (Int×Int)}:(QA1 n ds).size≤2000:=by
 unfold QA1;split
 ·have k3:=(Qb5 (@Qco n ds).1).2.2
  have s3:=(Qb5 (@Qlq n ds)).2.2
  have d3:=(Qb5 (@QkB n ds)).2.2
  rw[Qg,Qg,Qg,Qg,Qg,Qd5,Qda,QcX];omega
 ·exact Nat.zero_le _
theorem QxF{σ:Con}(h:QcY σ):σ.ds.length≤160:=by
 rcases h.1 with h|h
 ·rw[h.2.2.2.1];exact Nat.zero_le _
 ·obtain⟨_,_,e⟩:=QaD h
  rw[e];exact Qcq.1
theorem Qlj{σ:Con}{ws:List ByteArray}(h:QcY σ):(QgV σ ws).2.size≤10000:=by
 have hok:sOk.size≤10000:=by decide
 have hno:sNo.size≤10000:=by decide
 have hwh:QmM.size≤10000:=by decide
 unfold QgV;split
 ·unfold Qxs;split<;>assumption
 split
 ·exact(by decide:Qx6.size≤10000)
 split
 ·unfold QuW;split<;>assumption
 split
 ·unfold QrD
  split
  ·split<;>assumption
  ·assumption
 split
 ·unfold QxK;split<;>assumption
 split
 ·split
  ·unfold Qm4
   split
   ·exact Nat.le_trans QAM (by decide)
   split
   ·split
    ·exact hno
    ·exact Nat.le_trans Qd9 (by decide)
   split
   ·split
    ·split
     ·exact(by decide:QCc.size≤10000)
     ·exact Nat.le_trans Qo2 (by decide)
    ·exact hno
   ·exact hwh
  ·exact hwh
 split
 ·unfold QlA
  have h1:=QsU (QxF h)
  have h2:=Qur (@QnY σ.c σ.rs σ.m)
  have h3:=Qur (@QdM σ.c σ.rs σ.m).1
  have h4:=QsU (@QcZ σ.c σ.gv).2
  have h5:=@Qul σ.c σ.gv
  have h6:=@Qd9 (σ.rs.length:Nat)
  repeat' split
  all_goals (try dsimp only)<;>first|assumption|omega
 ·exact hwh
end Go.Own

namespace Go.Own
open Go Go.Proofs
attribute [local go_sem] Tryz.results18
def toS(l:List UInt8):ByteArray:=⟨l.toArray⟩
theorem Qxk{l:List UInt8}:(toS l).size=l.length:=rfl
theorem Qy1{c:UInt8}{s:ByteArray}:Qbm c s=(QeI c s.data.toList).map toS:=rfl
def Qhk(c:UInt8)(l:List UInt8):List (List UInt8)×List UInt8:=l.foldl (fun s b=>if b=c then(s.1++[s.2],[])else(s.1,s.2++[b])) ([],[])
theorem QsJ{c b:UInt8}{l:List UInt8}:Qhk c (l++[b])=if b=c then((Qhk c l).1++[(Qhk c l).2],[])else((Qhk c l).1,(Qhk c l).2++[b]):=by
 unfold Qhk;rw[List.foldl_append];rfl
theorem QnC{c:UInt8}:∀{l:List UInt8} {acc:List (List UInt8)} {p:List UInt8},(l.foldl (fun(s:List (List UInt8)×List UInt8) b=>if b=c then(s.1++[s.2],[])else(s.1,s.2++[b])) (acc,p)).1++[(l.foldl (fun(s:List (List UInt8)×List UInt8) b=>if b=c then(s.1++[s.2],[])else(s.1,s.2++[b])) (acc,p)).2]=acc++Qry p (QeI c l)
 | [],acc,p=>by simp[QeI,Qry]
 | b::r,acc,p=>by
  rw[List.foldl_cons]
  by_cases h:b=c
  ·subst h
   rw[if_pos rfl,QnC,QdV,QoA Qdm];simp[Qry]
  ·rw[if_neg h,QnC,Qc0 h,Qvk Qdm]
theorem QnB{c:UInt8}{l:List UInt8}:QeI c l=(Qhk c l).1++[(Qhk c l).2]:=by
 have:=@QnC c l [] []
 rw[QoA Qdm]at this;simpa [Qhk]using this.symm
theorem QvZ{c:UInt8}{l:List UInt8}:(Qhk c l).1.length≤l.length∧(Qhk c l).2.length≤l.length:=by
 have h1:=@Qfy c l
 rw[QnB,List.length_append,List.length_singleton]at h1;refine⟨by omega,?_⟩
 exact Qh9 (c:=c) (l:=l) _ (by rw[QnB];simp)
theorem Qy0{c:UInt8}{s:ByteArray}{i:Nat}(h:i<s.size):Qhk c (s.data.toList.take (i+1))=if s.data.toList.getD i 0=c then((Qhk c (s.data.toList.take i)).1++[(Qhk c (s.data.toList.take i)).2],[])else((Qhk c (s.data.toList.take i)).1,(Qhk c (s.data.toList.take i)).2++[s.data.toList.getD i 0]):=by
 rw[Qf (by rw[bsz];exact h) 0,QsJ]
def QlO:Qb:=⟨[],false,fun
 | [.one (.v (.string s)),.one (.v (.int .u8 b))]=>some (s.size≤1073741824∧0≤b∧b≤255,[⟨false,[.own 1 (tL (Qbm (UInt8.ofNat b.toNat) s)) 1]⟩],[])
 | _=>none⟩
attribute [local go_sem] QlO
theorem QAD{a b:List UInt8}:toS a++toS b=toS (a++b):=Qcg (by rw[QdO];rfl)
theorem QnL{s:ByteArray}{i:Nat}(h:i<s.size):s.extract i (i+1)=toS [s.data.toList.getD i 0]:=by
 refine Qcg ?_
 have hi:i<s.data.size:=h
 simp[toS,ByteArray.data_extract,List.getD_eq_getElem?_getD,hi,List.take_add_one,List.drop_take]
 rw[Array.getElem?_eq_getElem hi];rfl
theorem Qxi{s:ByteArray}{i:Nat}{b:Int}(h0:0≤b)(h1:b≤255):(QfW s i==b)=(s.data.toList.getD i 0==UInt8.ofNat b.toNat):=by
 unfold QfW;rw[List.getD_eq_getElem?_getD];generalize (s.data.toList[i]?).getD 0=x;have hx:=x.toNat_lt
 have hb:(UInt8.ofNat b.toNat).toNat=b.toNat:=by rw[UInt8.toNat_ofNat'];omega
 rw[Bool.eq_iff_iff,beq_iff_eq,beq_iff_eq,←UInt8.toNat_inj,hb];omega
attribute [local go_sem] Qbh QC Qbs Qct
theorem Qtq:Qa E0 18 QlO:=by
 refine QE (E:=E0) (T:=mkT Tryz.prog [] false (fun _=>false) true (fun _=>false)) (Qd (E:=E0) .nil) (fn:=Tryz.f18) Tryz.func18 (by kernel_rfl) rfl Qc (by kernel_rfl) rfl ?_
 intro args p rs ms hr;unfold QlO at hr;dsimp only at hr;split at hr;rotate_left
 ·cases hr
 rename_i s b;cases hr;refine⟨rfl,rfl,nLe rfl,?_⟩
 have hm:=mxE;rintro⟨h1,hb0,hb1⟩ bs;have hbc:=fun i=>@Qxi s i b hb0 hb1
 generalize hc:UInt8.ofNat b.toNat=c at hbc ⊢;have e0:tL []=[]:=rfl
 have hl:=fun i=>@QvZ c (s.data.toList.take i)
 have hZ:Qbm c s=(Qhk c (s.data.toList.take s.size)).1.map toS++[toS (Qhk c (s.data.toList.take s.size)).2]:=by
  rw[Qy1,List.take_of_length_le (by rw[bsz];exact Nat.le_refl _),QnB];simp
 (repeat' first|refine gA fun _=>?_|apply fkI<;>intro hb<;>try simp only[ew,e0]at hb|simp only[go_sem,simprocAttr, *,e0])
 refine lpI {ι:=Nat,rs:=[(9,31)],mods:=[(7,fun i=> .one (.d (.v (.int .i64 i)))),(5,fun i=> .one (.own 1 (tL ((Qhk c (s.data.toList.take i)).1.map toS)) 1)),(6,fun i=> .one (.d (.v (.string (toS (Qhk c (s.data.toList.take i)).2)))))],boxes:=[],arrs:=[],ok:=fun i=>i≤s.size,mu:=fun i=>s.size-i} rfl 0 (Nat.zero_le _) ?_ fun i hi=>?_
 ·have e1:toS (Qhk c (s.data.toList.take 0)).2=⟨#[]⟩:=rfl
  have e3:Qhk c []=([],[]):=rfl
  have e4:toS []=⟨#[]⟩:=rfl
  clear hZ hl hbc;(repeat' first|refine gA fun _=>?_|apply fkI<;>intro hb<;>try simp only[ew,e1,e3,e4,e0,List.take_zero,List.map_nil]at hb|simp only[go_sem,simprocAttr, *,e1,e3,e4,e0,List.take_zero,List.map_nil])
  all_goals first|rfl|skip
 ·dsimp only at i hi
  obtain⟨l1,l2⟩:=hl i;rw[List.length_take]at l1 l2;have hst:=@Qy0 c s i
  clear hl
  by_cases h5:i<s.size
  ·have hst:=hst h5
   have hq:=hbc i
   have hx:=QnL h5
   clear hbc hZ;generalize hI:Qhk c (s.data.toList.take i)=I at l1 l2 hst ⊢;generalize hB:s.data.toList.getD i 0=B at hst hq hx;have m1:I.1.length≤maxLen:=Nat.le_trans (show _≤1073741824 by omega) (by decide)
   have z1:(toS I.2).size≤1073741824:=by rw[Qxk];omega
   have z2:(toS [B]).size=1:=rfl
   clear hB;have ei:(((i:Nat):Int)+1).toNat=i+1:=by omega
   cases hbb:(B==c)
   ·have hne:¬B=c:=by simpa using hbb
    rw[if_neg hne]at hst;rw[hbb]at hq;have ea:=@QAD I.2 [B]
    (repeat' first|refine gA fun _=>?_|apply fkI<;>intro hb<;>try simp only[ew,hI,hq,ei,hx,ea,Qg,z2]at hb|simp only[go_sem,simprocAttr, *,hI,hq,ei,hx,ea,Qg,z2])
    refine lpN (i+1) (by omega) (by dsimp only;omega) ?_
    (repeat' first|refine gA fun _=>?_|apply fkI<;>intro hb<;>try simp only[ew,hI,ei,hx,hst,ea]at hb|simp only[go_sem,simprocAttr, *,hI,ei,hx,hst,ea])
   ·have hne:B=c:=by simpa using hbb
    rw[if_pos hne]at hst;rw[hbb]at hq;have es:tL (I.1.map toS)++[[D.v (.string (toS I.2))]]=tL ((I.1++[I.2]).map toS):=by simp[tL]
    have em:(I.1.map toS).length=I.1.length:=by simp
    have e1:toS []=⟨#[]⟩:=rfl
    (repeat' first|refine gA fun _=>?_|apply fkI<;>intro hb<;>try simp only[ew,hI,hq,es,em]at hb|simp only[go_sem,simprocAttr, *,hI,hq,es,em])
    refine lpN (i+1) (by omega) (by dsimp only;omega) ?_
    (repeat' first|refine gA fun _=>?_|apply fkI<;>intro hb<;>try simp only[ew,hI,hst,es,e1]at hb|simp only[go_sem,simprocAttr, *,hI,hst,es,e1])
  ·have e5:i=s.size:=by omega
   subst e5;clear hbc hst;generalize hI:Qhk c (s.data.toList.take s.size)=I at l1 l2 hZ;have m1:I.1.length≤maxLen:=Nat.le_trans (show _≤1073741824 by omega) (by decide)
   have es:tL (I.1.map toS)++[[D.v (.string (toS I.2))]]=tL (I.1.map toS++[toS I.2]):=by simp[tL]
   have em:(I.1.map toS).length=I.1.length:=by simp
   (repeat' first|refine gA fun _=>?_|apply fkI<;>intro hb<;>try simp only[ew,hI,hZ,es,em]at hb|simp only[go_sem,simprocAttr, *,hI,hZ,es,em])
   all_goals first|rfl|skip
end Go.Own

namespace Go.Own
open Go Go.Proofs
attribute [local go_sem] Tryz.results10
attribute [local go_sem] QdG QaI Qdg
theorem Qhz{n:Int}(h0:0≤n)(h1:n≤9223372036854775807):QzP n=QiB n:=(QiC h0 h1).symm
theorem QwQ{n:Int}(h0:n<0)(h1: -9223372036854775807≤n):QzP n=⟨#[45]⟩++QbY (dgF 20 (-n) []):=by
 rw[←Qla (by omega),QiC (by omega) (by omega)]
 refine Qcg ?_
 rw[QdO];show Lib.itoa n=[45]++Lib.itoa (-n)
 unfold Lib.itoa;rw[if_pos h0,if_neg (by omega)]
 have:(-n).toNat=n.natAbs:=by omega
 rw[this];rfl
def QlS:Qb:=⟨[],false,fun
 | [.one (.v (.int .i64 n))]=>some (-1000000000000≤n∧n≤1000000000000,[⟨false,[.d (.v (.string (QzP n)))]⟩],[])
 | _=>none⟩
attribute [local go_sem] QlS
theorem QkJ:Qa E0 10 QlS:=by
 refine QE (E:=E0) (T:=mkT Tryz.prog [] false (fun _=>false) true (fun _=>false)) (Qd (E:=E0) .nil) (fn:=Tryz.f10) Tryz.func10 (by kernel_rfl) rfl Qc (by kernel_rfl) rfl ?_
 intro args p rs ms hr;unfold QlS at hr;dsimp only at hr;split at hr;rotate_left
 ·cases hr
 rename_i k;cases hr;refine⟨rfl,rfl,nLe rfl,?_⟩
 have hm:=mxE;rintro⟨h1,h2⟩ bs
 by_cases hk:k=0
 ·subst hk
  have eb:(⟨#[48]⟩:ByteArray)=QbY [48]:=rfl
  have ew0:QzP 0=QbY [48]:=(Qhz (by omega) (by omega)).trans Qmu
  rw[ew0];(repeat' first|refine gA fun _=>?_|apply fkI<;>intro hb<;>try simp only[ew,eb]at hb|simp only[go_sem,simprocAttr, *,eb])
  all_goals first|rfl|skip
 by_cases hp:0<k
 ·rw[Qhz (by omega) (by omega),Qla hk]
  have hk2:(k==0)=false:=beq_eq_false_iff_ne.2 hk
  have hk3:decide (k<0)=false:=decide_eq_false (by omega)
  have e0:(⟨#[]⟩:ByteArray)=QbY []:=rfl
  generalize hF:dgF 20 k []=F;(repeat' first|refine gA fun _=>?_|apply fkI<;>intro hb<;>try simp only[ew,hk2,hk3,e0]at hb|simp only[go_sem,simprocAttr, *,hk2,hk3,e0])
  refine lpI {ι:=Nat×Int×List Int,rs:=[(5,6),(10,27)],mods:=[(0,fun i=> .one (.d (.v (.int .i64 i.2.1)))),(3,fun i=> .one (.d (.v (.string (QbY i.2.2)))))],boxes:=[],arrs:=[],ok:=fun i=>((0≤i.2.1∧i.2.1≤1125899906842625)∧i.2.1<10^i.1)∧(i.1≤20∧i.2.2.length+i.1≤20)∧dgF i.1 i.2.1 i.2.2=F,mu:=fun i=>i.1} rfl (20,k,[]) ⟨⟨⟨by dsimp only;omega,by dsimp only;omega⟩,by dsimp only;omega⟩,⟨by dsimp only;omega,by simp⟩,hF⟩ ?_ ?_
  ·(repeat' first|refine gA fun _=>?_|apply fkI<;>intro hb<;>try simp only[ew,e0]at hb|simp only[go_sem,simprocAttr, *,e0])
   all_goals first|rfl|skip
  ·rintro⟨j,m,acc⟩ hi
   dsimp only at hi;obtain⟨⟨⟨m0,mK⟩,mj⟩,⟨j20,ja⟩,ht⟩:=hi;clear hF hk2 hk3
   by_cases h5:m>0
   ·have h5':(m !=0)=true:=by rw[bne_iff_ne];omega
    cases j with
    | zero=>exfalso;simp at mj;omega
    | succ j=>
     rw[Qo0 (by omega)]at ht
     rw[QCY]at mj;have mj2:m/10<10^j:=by
      generalize (10:Int)^j=p at mj;omega
     have e1:m.tmod 10=m%10:=Int.tmod_eq_emod_of_nonneg m0
     have e2:m.tdiv 10=m/10:=Int.tdiv_eq_ediv_of_nonneg m0
     have r0:0≤m%10:=by omega
     have r10:m%10<10:=by omega
     have r1:decide (m%10<0)=false:=decide_eq_false (by omega)
     have ew:=QuN r0 r10
     have eb:QbY [48+m%10]++QbY acc=QbY ((48+m%10)::acc):=by rw[Qcf];rfl
     (repeat' first|refine gA fun _=>?_|apply fkI<;>intro hb<;>try simp only[ew,e1,e2,r1,ew,eb,Q1,h5']at hb|simp only[go_sem,simprocAttr, *,e1,e2,r1,ew,eb,Q1,h5'])
     refine lpN (j,m/10,(48+m%10)::acc) ⟨⟨⟨by dsimp only;omega,by dsimp only;omega⟩,mj2⟩,⟨by dsimp only;omega,by dsimp only[List.length_cons];omega⟩,ht⟩ (by dsimp only;omega) ?_
     clear ht;(repeat' first|refine gA fun _=>?_|apply fkI<;>intro hb<;>try simp only[ew,e1,e2,ew,eb]at hb|simp only[go_sem,simprocAttr, *,e1,e2,ew,eb])
   ·have h5':(m !=0)=false:=by rw[bne_eq_false_iff_eq];omega
    have em:m=0:=by omega
    subst em;rw[Qho]at ht;subst ht;(repeat' first|refine gA fun _=>?_|apply fkI<;>intro hb<;>try simp only[ew,h5',Q1]at hb|simp only[go_sem,simprocAttr, *,h5',Q1])
    all_goals first|rfl|skip
 ·rw[QwQ (by omega) (by omega)]
  have hk2:(k==0)=false:=beq_eq_false_iff_ne.2 hk
  have hk3:decide (k<0)=true:=decide_eq_true (by omega)
  have e0:(⟨#[]⟩:ByteArray)=QbY []:=rfl
  have s45:ByteArray.size ⟨#[45]⟩=1:=rfl
  generalize hF:dgF 20 (-k) []=F;(repeat' first|refine gA fun _=>?_|apply fkI<;>intro hb<;>try simp only[ew,hk2,hk3,e0]at hb|simp only[go_sem,simprocAttr, *,hk2,hk3,e0])
  refine lpI {ι:=Nat×Int×List Int,rs:=[(5,6),(10,27)],mods:=[(0,fun i=> .one (.d (.v (.int .i64 (-i.2.1))))),(3,fun i=> .one (.d (.v (.string (QbY i.2.2)))))],boxes:=[],arrs:=[],ok:=fun i=>((0≤i.2.1∧i.2.1≤1125899906842625)∧i.2.1<10^i.1)∧(i.1≤20∧i.2.2.length+i.1≤20)∧dgF i.1 i.2.1 i.2.2=F,mu:=fun i=>i.1} rfl (20,-k,[]) ⟨⟨⟨by dsimp only;omega,by dsimp only;omega⟩,by dsimp only;omega⟩,⟨by dsimp only;omega,by simp⟩,hF⟩ ?_ ?_
  ·have ek: -(-k)=k:=by omega
   (repeat' first|refine gA fun _=>?_|apply fkI<;>intro hb<;>try simp only[ew,e0,ek]at hb|simp only[go_sem,simprocAttr, *,e0,ek])
   all_goals first|rfl|skip
  ·rintro⟨j,m,acc⟩ hi
   dsimp only at hi;obtain⟨⟨⟨m0,mK⟩,mj⟩,⟨j20,ja⟩,ht⟩:=hi;clear hF hk2 hk3
   by_cases h5:m>0
   ·have h5':(-m !=0)=true:=by rw[bne_iff_ne];omega
    cases j with
    | zero=>exfalso;simp at mj;omega
    | succ j=>
     rw[Qo0 (by omega)]at ht
     rw[QCY]at mj;have mj2:m/10<10^j:=by
      generalize (10:Int)^j=p at mj;omega
     have e1:(-m).tmod 10= -(m%10):=by rw[Int.neg_tmod,Int.tmod_eq_emod_of_nonneg m0]
     have e2:(-m).tdiv 10= -(m/10):=by rw[Int.neg_tdiv,Int.tdiv_eq_ediv_of_nonneg m0]
     have r0:0≤m%10:=by omega
     have r10:m%10<10:=by omega
     have ew:=QuN r0 r10
     have eb:QbY [48+m%10]++QbY acc=QbY ((48+m%10)::acc):=by rw[Qcf];rfl
     by_cases hz:m%10=0
     ·have r1:decide (-(m%10)<0)=false:=decide_eq_false (by omega)
      have z1:IntKind.wrap .u8 48=48:=rfl
      have eb0:QbY [48]++QbY acc=QbY (48::acc):=by rw[Qcf];rfl
      clear ew eb;(repeat' first|refine gA fun _=>?_|apply fkI<;>intro hb<;>try simp only[ew,e1,e2,r1,z1,eb0,Q1,h5']at hb|simp only[go_sem,simprocAttr, *,e1,e2,r1,z1,eb0,Q1,h5'])
      refine lpN (j,m/10,(48+m%10)::acc) ⟨⟨⟨by dsimp only;omega,by dsimp only;omega⟩,mj2⟩,⟨by dsimp only;omega,by dsimp only[List.length_cons];omega⟩,ht⟩ (by dsimp only;omega) ?_
      clear ht;(repeat' first|refine gA fun _=>?_|apply fkI<;>intro hb<;>try simp only[ew,e1,e2,z1,eb0]at hb|simp only[go_sem,simprocAttr, *,e1,e2,z1,eb0])
     ·have r1:decide (-(m%10)<0)=true:=decide_eq_true (by omega)
      have r2:0- -(m%10)=m%10:=by omega
      (repeat' first|refine gA fun _=>?_|apply fkI<;>intro hb<;>try simp only[ew,e1,e2,r1,ew,eb,Q1,h5',r2]at hb|simp only[go_sem,simprocAttr, *,e1,e2,r1,ew,eb,Q1,h5',r2])
      refine lpN (j,m/10,(48+m%10)::acc) ⟨⟨⟨by dsimp only;omega,by dsimp only;omega⟩,mj2⟩,⟨by dsimp only;omega,by dsimp only[List.length_cons];omega⟩,ht⟩ (by dsimp only;omega) ?_
      clear ht;(repeat' first|refine gA fun _=>?_|apply fkI<;>intro hb<;>try simp only[ew,e1,e2,ew,eb,r2]at hb|simp only[go_sem,simprocAttr, *,e1,e2,ew,eb,r2])
   ·have h5':(-m !=0)=false:=by rw[bne_eq_false_iff_eq];omega
    have em:m=0:=by omega
    subst em;rw[Qho]at ht;subst ht;(repeat' first|refine gA fun _=>?_|apply fkI<;>intro hb<;>try simp only[ew,h5',Q1,Qg,s45]at hb|simp only[go_sem,simprocAttr, *,h5',Q1,Qg,s45])
    all_goals first|rfl|skip
end Go.Own
