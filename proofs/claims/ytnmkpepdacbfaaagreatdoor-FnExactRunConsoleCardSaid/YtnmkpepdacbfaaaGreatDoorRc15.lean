/- Own contracts. Conditions: as each theorem states them. -/
import Derived.Test.YtnmkpepdacbfaaaGreatDoorRc14
set_option linter.unusedSimpArgs false
set_option linter.unusedVariables false
set_option maxRecDepth 20000
set_option maxHeartbeats 4000000
namespace Go.Own
open Go Go.Proofs
def dgF:Nat→Int→List Int→List Int
 | 0,_,acc=>acc
 | k+1,m,acc=>if m=0 then acc else dgF k (m/10) ((48+m%10)::acc)
theorem QnG:∀{k:Nat} {m:Int} {acc:List Int},(dgF k m acc).length≤k+acc.length
 | 0,m,acc=>by simp[dgF]
 | k+1,m,acc=>by
  rw[dgF];split
  ·omega
  ·have:=@QnG k (m/10) ((48+m%10)::acc)
   simp only[List.length_cons]at this
   omega
theorem Qho{k:Nat}{acc:List Int}:dgF k 0 acc=acc:=by cases k<;>simp[dgF]
theorem Qo0{k:Nat}{m:Int}{acc:List Int}(h:m≠0):dgF (k+1) m acc=dgF k (m/10) ((48+m%10)::acc):=by rw[dgF,if_neg h]
end Go.Own

namespace Go.Own
open Go Go.Proofs
theorem QfX{ss:List ByteArray}{i:Nat}(h:i<ss.length):(tL ss).getD i []=[D.v (.string (ss.getD i ⟨#[]⟩))]:=by
 simp[tL,List.getD_eq_getElem?_getD,h]
theorem QgX{ss:List ByteArray}{i:Nat}{s:ByteArray}:(tL ss).set i [D.v (.string s)]=tL (ss.set i s):=by
 simp[tL,List.map_set]
theorem QgW{xs ys:List ByteArray}:tL xs=tL ys↔xs=ys:=by
 constructor
 ·intro h
  have:=congrArg unT h
  simpa only[Qbh]using this
 ·rintro rfl;rfl
theorem Qee{xs:List ByteArray}:(∀e∈tL xs,∀x∈e,QaH x)↔True:=by
 refine⟨fun _=>trivial,fun _ e he x hx=>?_⟩
 obtain⟨n,_,rfl⟩:=List.mem_map.1 he;simp at hx
 subst hx;trivial
theorem WfL.ex{l:List (List D)}(h:WfL l):∃xs,l=tL xs∧xs.length≤maxLen:=⟨unT l,h.1,by have:=h.2;rw[h.1,QC]at this;exact this⟩
theorem Qxr(a b:ByteArray):(a==b)=decide (a=b):=by
 obtain⟨x⟩:=a;obtain⟨y⟩:=b;show(x==y)=_
 rw[Bool.eq_iff_iff,beq_iff_eq,decide_eq_true_iff,ByteArray.mk.injEq]
instance:LawfulBEq ByteArray where
  eq_of_beq:=by intro a b h;rw[Qxr]at h;exact of_decide_eq_true h
  rfl:=by intro a;rw[Qxr];exact decide_eq_true rfl
attribute [local go_sem] QdG QaI Qdg Qbh QC Qbs Qct QfX QgX QgW Qee
theorem QuN{m:Int}(h0:0≤m)(h5:m<10):IntKind.wrap .u8 (48+m)=48+m:=by
 have:m=0∨m=1∨m=2∨m=3∨m=4∨m=5∨m=6∨m=7∨m=8∨m=9:=by omega
 rcases this with rfl|rfl|rfl|rfl|rfl|rfl|rfl|rfl|rfl|rfl<;>rfl
theorem QCY(j:Nat):(10:Int)^(j+1)=10*10^j:=by rw[Int.pow_succ];omega
end Go.Own

namespace Go.Own
open Go Go.Proofs
attribute [local go_sem] Tryz.results10
attribute [local go_sem] QdG QaI Qdg
def QA0(n:Int):List Int:=if n=0 then [48]else dgF 20 n []
def QiB(n:Int):ByteArray:=QbY (QA0 n)
theorem Qmu:QiB 0=QbY [48]:=rfl
theorem Qla{n:Int}(h:¬n=0):QiB n=QbY (dgF 20 n []):=by unfold QiB QA0;rw[if_neg h]
def byL(l:List UInt8):List Int:=l.map fun b=>((b.toNat:Nat):Int)
theorem QBs:∀(j:Nat) (n:Nat) (acc:List Int),0<n→n<10^j→dgF j (n:Nat) acc=byL (Lib.decDigits n)++acc:=by
 intro j;induction j with
 | zero=>intro n acc h1 h2;simp at h2;omega
 | succ j ih=>
  intro n acc h1 h2;rw[Qo0 (by omega)]
  have e1:((n:Nat):Int)/10=((n/10:Nat):Int):=by omega
  have e2:((n:Nat):Int)%10=((n%10:Nat):Int):=by omega
  rw[e1,e2];have hb:∀d:Nat,d<10→byL [UInt8.ofNat (48+d)]=[48+((d:Nat):Int)]:=by
   intro d hd;have:d=0∨d=1∨d=2∨d=3∨d=4∨d=5∨d=6∨d=7∨d=8∨d=9:=by omega
   rcases this with rfl|rfl|rfl|rfl|rfl|rfl|rfl|rfl|rfl|rfl<;>rfl
  by_cases h:n<10
  ·have e3:n/10=0:=by omega
   have e4:n%10=n:=by omega
   rw[e3,e4];rw[show((0:Nat):Int)=0 from rfl,Qho,Lib.decDigits_one h,hb n h]
   rfl
  ·rw[ih (n/10) _ (by omega) (by rw[Nat.pow_succ]at h2;omega)]
   have eD:Lib.decDigits n=Lib.decDigits (n/10)++[UInt8.ofNat (48+n%10)]:=by rw[Lib.decDigits.eq_def n,dif_neg h]
   rw[eD];unfold byL at *;rw[List.map_append,hb (n%10) (by omega),List.append_assoc]
   rfl
theorem Qvn:∀(l:List UInt8),(QbY (byL l)).data.toList=l:=by
 intro l;have:∀(l:List UInt8) (r:ByteArray),((byL l).foldl (fun r n=>r.push (UInt8.ofNat n.toNat)) r).data.toList=r.data.toList++l:=by
  intro l;induction l with
  | nil=>intro r;simp[byL]
  | cons b l ih=>
   intro r;simp only[byL,List.map_cons,List.foldl_cons]at ih ⊢
   rw[ih];have:(r.push (UInt8.ofNat ((b.toNat:Nat):Int).toNat)).data.toList=r.data.toList++[b]:=by
    simp[ByteArray.push]
   rw[this,List.append_assoc];rfl
 have h:=this l ByteArray.empty
 unfold QbY;rw[h];rfl
theorem QiC{n:Int}(h0:0≤n)(h1:n≤9223372036854775807):QiB n=⟨(Lib.itoa n).toArray⟩:=by
 obtain⟨k,rfl⟩:=Int.eq_ofNat_of_zero_le h0;have e:Lib.itoa ((k:Nat):Int)=Lib.decDigits k:=by unfold Lib.itoa;rw[if_neg (by omega),Int.toNat_natCast]
 rw[e];have key:QA0 ((k:Nat):Int)=byL (Lib.decDigits k):=by
  unfold QA0
  by_cases hk:k=0
  ·subst hk;rw[Lib.decDigits_one (by omega)];rfl
  ·rw[if_neg (by omega),QBs 20 k [] (by omega) (by
    have:(9223372036854775807:Nat)<10^20:=by decide
    omega),List.append_nil]
 unfold QiB;rw[key];have:=Qvn (Lib.decDigits k)
 cases hx:QbY (byL (Lib.decDigits k))with
 | mk d=>
  rw[hx]at this;congr 1
  apply Array.toList_inj.1
  simpa using this
def Qnp:Qb:=⟨[],false,fun
 | [.one (.v (.int .i64 n))]=>some (0≤n∧n≤999999,[⟨false,[.d (.v (.string (QiB n)))]⟩],[])
 | _=>none⟩
attribute [local go_sem] Qnp
theorem QzO:Qa E0 10 Qnp:=by
 refine QE (E:=E0) (T:=mkT Tryz.prog [] false (fun _=>false) true (fun _=>false)) (Qd (E:=E0) .nil) (fn:=Tryz.f10) Tryz.func10 (by kernel_rfl) rfl Qc (by kernel_rfl) rfl ?_
 intro args p rs ms hr;unfold Qnp at hr;dsimp only at hr;split at hr;rotate_left
 ·cases hr
 rename_i k;cases hr;refine⟨rfl,rfl,nLe rfl,?_⟩
 have hm:=mxE;rintro⟨h1,h2⟩ bs
 by_cases hk:k=0
 ·subst hk
  rw[Qmu];have eb:(⟨#[48]⟩:ByteArray)=QbY [48]:=rfl
  (repeat' first|refine gA fun _=>?_|apply fkI<;>intro hb<;>try simp only[ew,eb]at hb|simp only[go_sem,simprocAttr, *])
  all_goals first|rfl|skip
 ·rw[Qla hk]
  have hk2:(k==0)=false:=beq_eq_false_iff_ne.2 hk
  have hk3:decide (k<0)=false:=decide_eq_false (by omega)
  have e0:(⟨#[]⟩:ByteArray)=QbY []:=rfl
  generalize hF:dgF 20 k []=F;(repeat' first|refine gA fun _=>?_|apply fkI<;>intro hb<;>try simp only[ew,hk2,hk3,e0]at hb|simp only[go_sem,simprocAttr, *])
  refine lpI {ι:=Nat×Int×List Int,rs:=[(5,6),(10,27)],mods:=[(0,fun i=> .one (.d (.v (.int .i64 i.2.1)))),(3,fun i=> .one (.d (.v (.string (QbY i.2.2)))))],boxes:=[],arrs:=[],ok:=fun i=>((0≤i.2.1∧i.2.1≤1125899906842625)∧i.2.1<10^i.1)∧(i.1≤20∧i.2.2.length+i.1≤20)∧dgF i.1 i.2.1 i.2.2=F,mu:=fun i=>i.1} rfl (20,k,[]) ⟨⟨⟨h1,by dsimp only;omega⟩,by dsimp only;omega⟩,⟨by dsimp only;omega,by simp⟩,hF⟩ ?_ ?_
  ·(repeat' first|refine gA fun _=>?_|apply fkI<;>intro hb<;>try simp only[ew,e0]at hb|simp only[go_sem,simprocAttr, *])
   all_goals first|rfl|skip
  ·rintro⟨j,m,acc⟩ hi
   dsimp only at hi;obtain⟨⟨⟨m0,mK⟩,mj⟩,⟨j20,ja⟩,ht⟩:=hi;clear hF hk2 hk3
   by_cases h5:m>0
   ·have h5':(m !=0)=true:=by rw[bne_iff_ne];omega
    cases j with
    | zero=>exfalso;simp at mj;omega
    | succ j=>
     rw[Qo0 (by omega)]at ht
     rw[QCY]at mj;have mj2:m/10<10^j:=by
      generalize (10:Int)^j=p at mj;omega
     have e1:m.tmod 10=m%10:=Int.tmod_eq_emod_of_nonneg m0
     have e2:m.tdiv 10=m/10:=Int.tdiv_eq_ediv_of_nonneg m0
     have r0:0≤m%10:=by omega
     have r10:m%10<10:=by omega
     have r1:decide (m%10<0)=false:=decide_eq_false (by omega)
     have ew:=QuN r0 r10
     have eb:QbY [48+m%10]++QbY acc=QbY ((48+m%10)::acc):=by rw[Qcf];rfl
     (repeat' first|refine gA fun _=>?_|apply fkI<;>intro hb<;>try simp only[ew,e1,e2,r1,ew,eb,Q1,h5']at hb|simp only[go_sem,simprocAttr, *,Q1])
     refine lpN (j,m/10,(48+m%10)::acc) ⟨⟨⟨by dsimp only;omega,by dsimp only;omega⟩,mj2⟩,⟨by dsimp only;omega,by dsimp only[List.length_cons];omega⟩,ht⟩ (by dsimp only;omega) ?_
     clear ht;(repeat' first|refine gA fun _=>?_|apply fkI<;>intro hb<;>try simp only[ew,e1,e2,ew,eb]at hb|simp only[go_sem,simprocAttr, *])
   ·have h5':(m !=0)=false:=by rw[bne_eq_false_iff_eq];omega
    have em:m=0:=by omega
    subst em;rw[Qho]at ht;subst ht;(repeat' first|refine gA fun _=>?_|apply fkI<;>intro hb<;>try simp only[ew,h5',Q1]at hb|simp only[go_sem,simprocAttr, *,Q1])
    all_goals first|rfl|skip
end Go.Own

namespace Go.Proofs
open Go.Shelf
def Tryz.layIM_ren:Go.Shelf.Ren:=⟨fun|171=>152|243=>197|246=>218|283=>241|284=>242|285=>243|286=>244|129=>238|317=>270|318=>271|319=>272|320=>273|337=>282|338=>283|n=>n,fun|3=>3|9=>9|2=>2|4=>4|171=>207|0=>0|53=>179|37=>24|5=>5|173=>209|212=>229|51=>174|20=>20|213=>230|46=>126|232=>239|233=>240|n=>n,fun|17=>5|18=>6|19=>7|n=>n⟩
theorem Tryz.layIM:Go.Proofs.LaysM.n171 Tryz.prog Tryz.layIM_ren:={
 mixed:=by kernel_rfl
 f129:=Tryz.func238.trans (congrArg some (by kernel_rfl))
 f171:=Tryz.func152.trans (congrArg some (by kernel_rfl))
 f243:=Tryz.func197.trans (congrArg some (by kernel_rfl))
 f246:=Tryz.func218.trans (congrArg some (by kernel_rfl))
 f283:=Tryz.func241.trans (congrArg some (by kernel_rfl))
 f284:=Tryz.func242.trans (congrArg some (by kernel_rfl))
 f285:=Tryz.func243.trans (congrArg some (by kernel_rfl))
 f286:=Tryz.func244.trans (congrArg some (by kernel_rfl))
 f317:=Tryz.func270.trans (congrArg some (by kernel_rfl))
 f318:=Tryz.func271.trans (congrArg some (by kernel_rfl))
 f319:=Tryz.func272.trans (congrArg some (by kernel_rfl))
 f320:=Tryz.func273.trans (congrArg some (by kernel_rfl))
 f337:=Tryz.func282.trans (congrArg some (by kernel_rfl))
 f338:=Tryz.func283.trans (congrArg some (by kernel_rfl))
 t0:=Tryz.underlying0
 a0:=Tryz.isAgg0
 z0:=Tryz.sizeOf0
 v0:=Tryz.zeroValue0
 t2:=Tryz.underlying2
 a2:=Tryz.isAgg2
 z2:=Tryz.sizeOf2
 v2:=Tryz.zeroValue2
 t3:=Tryz.underlying3
 a3:=Tryz.isAgg3
 z3:=Tryz.sizeOf3
 v3:=Tryz.zeroValue3
 t4:=Tryz.underlying4
 a4:=Tryz.isAgg4
 z4:=Tryz.sizeOf4
 v4:=Tryz.zeroValue4
 t5:=Tryz.underlying5
 a5:=Tryz.isAgg5
 z5:=Tryz.sizeOf5
 v5:=Tryz.zeroValue5
 t9:=Tryz.underlying9
 a9:=Tryz.isAgg9
 z9:=Tryz.sizeOf9
 v9:=Tryz.zeroValue9
 t20:=Tryz.underlying20
 a20:=Tryz.isAgg20
 z20:=Tryz.sizeOf20
 v20:=Tryz.zeroValue20
 t37:=Tryz.underlying24
 a37:=Tryz.isAgg24
 z37:=Tryz.sizeOf24
 v37:=Tryz.zeroValue24
 t46:=Tryz.underlying126
 a46:=Tryz.isAgg126
 z46:=Tryz.sizeOf126
 v46:=Tryz.zeroValue126
 t51:=Tryz.underlying174
 a51:=Tryz.isAgg174
 z51:=Tryz.sizeOf174
 v51:=Tryz.zeroValue174
 t53:=Tryz.underlying179
 a53:=Tryz.isAgg179
 z53:=Tryz.sizeOf179
 v53:=Tryz.zeroValue179
 t171:=Tryz.underlying207
 a171:=Tryz.isAgg207
 z171:=Tryz.sizeOf207
 v171:=Tryz.zeroValue207
 t173:=Tryz.underlying209
 a173:=Tryz.isAgg209
 z173:=Tryz.sizeOf209
 v173:=Tryz.zeroValue209
 t212:=Tryz.underlying229
 a212:=Tryz.isAgg229
 z212:=Tryz.sizeOf229
 v212:=Tryz.zeroValue229
 t213:=Tryz.underlying230
 a213:=Tryz.isAgg230
 z213:=Tryz.sizeOf230
 t232:=Tryz.underlying239
 a232:=Tryz.isAgg239
 z232:=Tryz.sizeOf239
 v232:=Tryz.zeroValue239
 t233:=Tryz.underlying240
 a233:=Tryz.isAgg240
 z233:=Tryz.sizeOf240
 v233:=Tryz.zeroValue240
 g17:=by kernel_rfl
 g18:=by kernel_rfl
 g19:=by kernel_rfl
 i0:=by kernel_rfl
 i2:=by kernel_rfl
 i3:=by kernel_rfl
 i4:=by kernel_rfl
 i5:=by kernel_rfl
 i9:=by kernel_rfl
 i20:=by kernel_rfl
 i37:=by kernel_rfl
 i46:=by kernel_rfl
 i51:=by kernel_rfl
 i53:=by kernel_rfl
 i171:=by kernel_rfl
 i173:=by kernel_rfl
 i212:=by kernel_rfl
 i232:=by kernel_rfl
 i233:=by kernel_rfl
 m17:=by kernel_rfl
 m18:=by kernel_rfl
 m19:=by kernel_rfl}
end Go.Proofs

namespace Go.Own
open Go Go.Proofs
attribute [local go_sem] Qnp Tryz.results99
theorem Qqi{w:World}{name:String}{g:Nat}(hg:Tryz.prog.globalNamed name=some g)(hj:∃e fz,w.heap[g]? =some (.cells QC0 e fz)):Lib.TabIs Tryz.prog w name .u64 Lib.pow10Tab:=by
 obtain⟨e,fz,hj⟩:=hj;unfold Lib.TabIs World.var?;rw[hg];show(match w.heap[g]? with|some (.cells cs _ _)=>some cs|_=>none)=_
 rw[hj];rfl
theorem QzD:Qa E0 152 Qnp:=by
 refine⟨⟨Tryz.f152,Tryz.func152,by kernel_rfl,rfl⟩,?_⟩
 intro args p rs ms hr hp w vals F Ms ha hnd hF hJ hN hMN;unfold Qnp at hr;dsimp only at hr;split at hr
 ·rename_i n
  cases hr;obtain⟨h0,h1⟩:=hp;cases ha with
  | cons h1' h2=>
   cases h2
   cases h1' with
   | one r=>
    cases r with
    | v hv hr2=>
     cases hr2
     refine(Any.strconv_Itoa Tryz.layIM n (by omega) (by omega) w (Qqi (by kernel_rfl) (Low.tab hJ))).mono ?_
     rintro e w' ⟨rfl,k,os,rfl⟩;have he:QiB n=⟨(Lib.itoa n).toArray⟩:=QiC h0 (by omega)
     refine⟨_,rfl,rfl,rfl,rfl,by simp[Go.Sort.grow],fun b hb _=>by show(w.heap++os)[b]? =_;rw[Array.getElem?_append_left hb],[],[],[],[],?_,.nil,by simp,by simp,by simp,by simp,by simp⟩
     rw[he];exact(by simpa using QaG.d (.v rfl .nil) .nil:QaG (Go.Sort.grow (w.drewN k) os).heap [.d (.v (.string ⟨(Lib.itoa n).toArray⟩))] [.string ⟨(Lib.itoa n).toArray⟩] [] [])
 ·cases hr
theorem Qn6:Qa E0 99 Qnp:=by
 refine QE (E:=E0) (T:=mkT Tryz.prog [(152,Qnp)] false (fun _=>false) true (fun _=>false)) (Qd (E:=E0) (.cons QzD .nil)) (fn:=Tryz.f99) Tryz.func99 (by kernel_rfl) rfl Qc (by kernel_rfl) rfl ?_
 intro args p rs ms hr;unfold Qnp at hr;dsimp only at hr;split at hr;rotate_left
 ·cases hr
 rename_i k;cases hr;refine⟨rfl,rfl,nLe rfl,?_⟩
 have hm:=mxE;rintro⟨h1,h2⟩ bs;exact gQ
end Go.Own

namespace Go.Own
open Go Go.Proofs
attribute [local go_sem] QdG QaI Qdg
theorem Qex{n:Int}:(QiB n).size≤20:=by
 unfold QiB;rw[Q1];unfold QA0;split
 ·simp
 ·have:=@QnG 20 n []
  simpa using this
theorem Qpc{q:Int×Int}:(fd q).size≤11:=by
 unfold fd;have h1:=@QaW q.1
 have h2:=@QaW (1*2^q.2.toNat)
 split
 ·rw[Qg,Qg,Qe5];omega
 ·exact(by decide:ByteArray.size ⟨#[]⟩≤11)
end Go.Own

namespace Go.Own
open Go Go.Proofs
attribute [local go_sem] Qy Qcw Qag Qse Tryz.results201 Qvv QuQ Qvr Tryz.results162
def QqH:Qb:=⟨[],false,fun
 | [.agg [.v (.int .i64 c),.sl 1 t],.one (.v (.int .i64 m)),.one (.v (.int .i64 set))]=>some (WfS t∧QK c (unS t)=true∧QH m=true∧Ql c set=true,[⟨false,[.own 1 (sL (Qg5 c (unS t) m set)) 1]⟩],[])
 | _=>none⟩
attribute [local go_sem] QqH
theorem QpT:Qa E0 201 QqH:=by
 refine QE (E:=E0) (T:=mkT Tryz.prog [(138,Qy),(139,Qcw),(154,Qag),(220,Qse)] false (fun _=>false) true (fun _=>false)) (Qd (E:=E0) (.cons Qa5 (.cons Qb2 (.cons QbI (.cons QyW .nil))))) (fn:=Tryz.f201) Tryz.func201 (by kernel_rfl) rfl Qc (by kernel_rfl) rfl ?_
 intro args p rs ms hr;unfold QqH at hr;dsimp only at hr;split at hr;rotate_left
 ·cases hr
 rename_i c t m set;cases hr;refine⟨rfl,rfl,nLe rfl,?_⟩
 have hm:=mxE;rintro⟨h1,ht,hmo,hat⟩ bs;obtain⟨rs,rfl,hx,hy⟩:=h1.ex;clear h1;rw[Qz]at ht ⊢;have hc:=QAC ht
 (repeat' first|refine gA fun _=>?_|apply fkI<;>intro hb<;>try simp only[ew,ht,hmo,hat]at hb|simp only[go_sem,simprocAttr, *,ht,hmo,hat])
 all_goals first|rfl|skip
theorem QwP{xs:List Int}(h:xs.Nodup){j k:Nat}(hj:j<xs.length)(hk:k<xs.length)(e:j≠k):xs.getD j 0≠xs.getD k 0:=by
 intro he;simp only[List.getD_eq_getElem?_getD,List.getElem?_eq_getElem hj,List.getElem?_eq_getElem hk,Option.getD_some]at he
 exact e ((List.getElem_inj h).1 he)
theorem QAe:Qa E0 162 Qvv:=by
 refine QE (E:=E0) (T:=mkT Tryz.prog [(160,QuQ),(201,QqH),(191,Qvr)] false (fun d=>d==25) true (fun d=>d==999)) (Qd (E:=E0) (.cons Qoz (.cons QpT (.cons QsY .nil)))) (fn:=Tryz.f162) Tryz.func162 (by kernel_rfl) rfl Qc (by kernel_rfl) rfl ?_
 intro args p rs ms hr;unfold Qvv at hr;dsimp only at hr;split at hr;rotate_left
 ·cases hr
 rename_i c t m l r;cases hr;refine⟨rfl,rfl,nLe rfl,?_⟩
 have hm:=mxE;rintro⟨h1,hc1,hc2⟩ bs;obtain⟨rs,rfl,hx,hy⟩:=h1.ex;clear h1;rw[Qz];cases hask:QaP c rs m l r
 ·have e:Qj5 c rs m l r= -1:=by unfold Qj5;rw[hask,if_neg (by decide)]
  rw[e];clear e;(repeat' first|refine gA fun _=>?_|apply fkI<;>intro hb<;>try simp only[ew,hask]at hb|simp only[go_sem,simprocAttr, *,hask])
  all_goals first|rfl|skip
 ·have e:Qj5 c rs m l r=Qlf (QuV rs m r) (Qg5 c rs m l) (Qg5 c rs m l).length:=by unfold Qj5;rw[hask,if_pos rfl]
  rw[e];clear e;have hask0:=hask
  unfold QaP at hask0;simp only[Bool.and_eq_true]at hask0
  obtain⟨⟨ht,hmo⟩,hd⟩:=hask0;unfold QJ at hd;simp only[Bool.and_eq_true,Qi]at hd
  obtain⟨⟨hn,hat⟩,r0,r1⟩:=hd;have hl5:=Qp hat
  have ht0:=ht
  obtain⟨C,rfl,c1,c5,h40,hlen⟩:=QL ht;obtain⟨f1,f2,f3⟩:=@Qh4 (C:Nat) rs m l (by rw[Int.toNat_natCast];exact c5) ⟨hl5.2.2.1,hl5.2.2.2⟩
  obtain⟨r,rfl⟩:=Int.eq_ofNat_of_zero_le r0;have hE:∀x y:Int,eqc m ((rs.getD x.toNat []).getD r 0) ((rs.getD y.toNat []).getD r 0)=QuV rs m (r:Nat) x y:=fun x y=>by
   unfold QuV;rw[Int.toNat_natCast]
  have hrow:∀x:Int,0≤x→x<rs.length→r<(rs.getD x.toNat []).length∧(rs.getD x.toNat []).length≤maxLen:=fun x h1 h2=>by
   have:=hlen x.toNat (by omega)
   exact⟨by omega,Nat.le_trans (show _≤5 by omega) (by decide)⟩
  generalize hCS:Qg5 (C:Int) rs m l=cs at f1 f2 f3 ⊢;generalize hEE:QuV rs m (r:Nat)=E at hE ⊢;have hrl:=fun k (hk:k≤cs.length)=>@Qlg E cs k hk
  have htt:∀k,QiW (cs.take k)≤40:=fun k=>by
   have:QiW (cs.take k)≤QiW cs:=by
    clear hrl f1 f2 f3 hCS;induction cs generalizing k with
    | nil=>simp
    | cons x xs ih=>cases k with
     | zero=>simp[QiW]
     | succ k=>rw[List.take_succ_cons,QiW,QiW];have:=ih k;omega
   omega
  have c40:cs.length≤maxLen:=Nat.le_trans (show cs.length≤40 by omega) (by decide)
  clear hlen ht hn;(repeat' first|refine gA fun _=>?_|apply fkI<;>intro hb<;>try simp only[ew,hask,hCS]at hb|simp only[go_sem,simprocAttr, *,hask])
  refine lpI {ι:=Nat,rs:=[(9,11),(12,14),(15,16),(28,82)],mods:=[(27,fun i=> .one (.d (.v (.int .i64 i)))),(7,fun i=> .one (.d (.v (.int .i64 (Qlf E cs i)))))],boxes:=[(3,fun _=>[.d (.v (.int .i64 C)),.d (.sl 1 (sL rs))]),(5,fun _=>[.d (.v (.int .i64 l)),.d (.v (.int .i64 (r:Nat)))])],arrs:=[],ok:=fun i=>i≤cs.length,mu:=fun i=>cs.length-i} rfl 0 (Nat.zero_le _) ?_ fun i hi=>?_
  ·have e1:Qlf E cs 0=0:=rfl
   clear hE f3 hrl htt hrow;(repeat' first|refine gA fun _=>?_|apply fkI<;>intro hb<;>try simp only[ew,e1]at hb|simp only[go_sem,simprocAttr, *])
   all_goals first|rfl|skip
  ·dsimp only at i hi
   have r2:=hrl i hi
   have r3:=htt i
   clear hrl htt
   by_cases h5:i<cs.length
   ·obtain⟨g1,g2,g3⟩:=f3 i h5
    clear f3;have eS:Qlf E cs i+(((cs.getD i []).length:Int)-QdI E (cs.getD i []) (cs.getD i []).length)=Qlf E cs (i+1):=rfl
    have hml:=fun p (hp:p≤(cs.getD i []).length)=>@Qhx E (cs.getD i []) p hp
    have hcl:=fun p q=>@Qku E (cs.getD i []) p q
    generalize hN:Qlf E cs i=n0 at r2 eS;generalize hQ:cs.getD i []=Q at g1 g2 g3 eS hml hcl;have q40:Q.length≤40:=by omega
    have qml:Q.length≤maxLen:=Nat.le_trans q40 (by decide)
    (repeat' first|refine gA fun _=>?_|apply fkI<;>intro hb<;>try simp only[ew,hN,hQ]at hb|simp only[go_sem,simprocAttr, *])
    refine lpI {ι:=Nat,rs:=[(12,14),(15,16),(34,75)],mods:=[(33,fun k=> .one (.d (.v (.int .i64 k)))),(10,fun k=> .one (.d (.v (.int .i64 (QdI E Q k)))))],boxes:=[(3,fun _=>[.d (.v (.int .i64 C)),.d (.sl 1 (sL rs))]),(5,fun _=>[.d (.v (.int .i64 l)),.d (.v (.int .i64 (r:Nat)))])],arrs:=[],ok:=fun k=>k≤Q.length,mu:=fun k=>Q.length-k} rfl 0 (Nat.zero_le _) ?_ fun k hk=>?_
    ·have e1:QdI E Q 0=0:=rfl
     clear hE hml hcl hrow;(repeat' first|refine gA fun _=>?_|apply fkI<;>intro hb<;>try simp only[ew,e1]at hb|simp only[go_sem,simprocAttr, *])
     all_goals first|rfl|skip
    ·dsimp only at k hk
     have m2:=hml k hk
     clear hml
     by_cases h6:k<Q.length
     ·have eM:QdI E Q (k+1)=max (QdI E Q k) (QjC E Q k Q.length):=rfl
      have g4:=g3 k h6
      obtain⟨w1,w2⟩:=hrow _ g4.1 g4.2;have hclk:=fun q=>hcl k q
      clear hcl;generalize hM:QdI E Q k=m0 at m2 eM;generalize hx0:Q.getD k 0=x at g4 w1 w2;have xn:x.toNat<rs.length:=by omega
      (repeat' first|refine gA fun _=>?_|apply fkI<;>intro hb<;>try simp only[ew,hM,hQ,hx0]at hb|simp only[go_sem,simprocAttr, *])
      refine lpI {ι:=Nat,rs:=[(15,16),(40,71)],mods:=[(39,fun j=> .one (.d (.v (.int .i64 j)))),(13,fun j=> .one (.d (.v (.int .i64 (QjC E Q k j)))))],boxes:=[(3,fun _=>[.d (.v (.int .i64 C)),.d (.sl 1 (sL rs))]),(5,fun _=>[.d (.v (.int .i64 l)),.d (.v (.int .i64 (r:Nat)))])],arrs:=[],ok:=fun j=>j≤Q.length,mu:=fun j=>Q.length-j} rfl 0 (Nat.zero_le _) ?_ fun j hj=>?_
      ·have e1:QjC E Q k 0=1:=rfl
       clear hE hclk hrow;(repeat' first|refine gA fun _=>?_|apply fkI<;>intro hb<;>try simp only[ew,e1]at hb|simp only[go_sem,simprocAttr, *])
       all_goals first|rfl|skip
      ·dsimp only at j hj
       have m3:=hclk j
       clear hclk
       by_cases h7:j<Q.length
       ·have g5:=g3 j h7
        obtain⟨u1,u2⟩:=hrow _ g5.1 g5.2;have eC:QjC E Q k (j+1)=QjC E Q k j+(if(j !=k&&E (Q.getD k 0) (Q.getD j 0))then 1 else 0):=rfl
        have hEk:=hE (Q.getD k 0) (Q.getD j 0)
        have hne:=fun(e:k≠j)=>QwP g2 h6 h7 e
        rw[hx0]at eC hEk;clear hE hrow g3;generalize hc0:QjC E Q k j=n1 at m3 eC
        by_cases e:j=k
        ·have e1:(x !=Q.getD j 0)=false:=by rw[e,hx0];simp
         have e2:(j !=k)=false:=by rw[e];simp
         rw[e2,Bool.false_and,if_neg (by decide),Int.add_zero]at eC
         clear e2 e hne;generalize hy0:Q.getD j 0=y at g5 hEk u1 u2 e1;have yn:y.toNat<rs.length:=by omega
         (repeat' first|refine gA fun _=>?_|apply fkI<;>intro hb<;>try simp only[ew,hQ,hc0,hy0,e1]at hb|simp only[go_sem,simprocAttr, *])
         refine lpN (j+1) (by dsimp only;omega) (by dsimp only;omega) ?_
         (repeat' first|refine gA fun _=>?_|apply fkI<;>intro hb<;>try simp only[ew,eC]at hb|simp only[go_sem,simprocAttr, *])
         all_goals first|rfl|skip
        ·have e1:(x !=Q.getD j 0)=true:=by rw[bne_iff_ne,←hx0];exact hne (Ne.symm e)
         have e2:(j !=k)=true:=by rw[bne_iff_ne];exact e
         rw[e2,Bool.true_and]at eC;clear e2 e hne;generalize hy0:Q.getD j 0=y at g5 hEk eC u1 u2 e1;have yn:y.toNat<rs.length:=by omega
         cases hb:E x y
         ·rw[hb,if_neg (by decide),Int.add_zero]at eC
          rw[hb]at hEk;(repeat' first|refine gA fun _=>?_|apply fkI<;>intro hb<;>try simp only[ew,hQ,hc0,hy0,e1,hEk]at hb|simp only[go_sem,simprocAttr, *])
          refine lpN (j+1) (by dsimp only;omega) (by dsimp only;omega) ?_
          (repeat' first|refine gA fun _=>?_|apply fkI<;>intro hb<;>try simp only[ew,eC]at hb|simp only[go_sem,simprocAttr, *])
          all_goals first|rfl|skip
         ·rw[hb,if_pos rfl]at eC
          rw[hb]at hEk;(repeat' first|refine gA fun _=>?_|apply fkI<;>intro hb<;>try simp only[ew,hQ,hc0,hy0,e1,hEk]at hb|simp only[go_sem,simprocAttr, *])
          refine lpN (j+1) (by dsimp only;omega) (by dsimp only;omega) ?_
          (repeat' first|refine gA fun _=>?_|apply fkI<;>intro hb<;>try simp only[ew,eC]at hb|simp only[go_sem,simprocAttr, *])
          all_goals first|rfl|skip
       ·have e7:j=Q.length:=by omega
        subst e7;clear hE g3 hrow;(repeat' first|refine gA fun _=>?_|apply fkI<;>intro hb<;>try simp only[ew,hQ]at hb|simp only[go_sem,simprocAttr, *])
        refine lpN (k+1) (by dsimp only;omega) (by dsimp only;omega) ?_
        (repeat' first|refine gA fun _=>?_|apply fkI<;>intro hb<;>try simp only[ew,eM]at hb|simp only[go_sem,simprocAttr, *])
        all_goals first|rfl|skip
     ·have e6:k=Q.length:=by omega
      subst e6;clear hE hcl g3 hrow;(repeat' first|refine gA fun _=>?_|apply fkI<;>intro hb<;>try simp only[ew,hQ]at hb|simp only[go_sem,simprocAttr, *])
      refine lpN (i+1) (by dsimp only;omega) (by dsimp only;omega) ?_
      (repeat' first|refine gA fun _=>?_|apply fkI<;>intro hb<;>try simp only[ew,eS]at hb|simp only[go_sem,simprocAttr, *])
      all_goals first|rfl|skip
   ·have e5:i=cs.length:=by omega
    subst e5;clear hE f3 hrow;exact gQ
end Go.Own
