/- Contracts. Conditions: as stated. -/
import Derived.Test.YtnmkpepdacbfaaaGreatDoorRp13
set_option linter.all false
set_option maxRecDepth 20000
set_option maxHeartbeats 4000000
namespace Go.Own
open Go Go.Proofs
def dgF:Nat→Int→List Int→List Int
 | 0,_,acc=>acc
 | k+1,m,acc=>if m=0 then acc else dgF k (m/10) ((48+m%10)::acc)
theorem QoF:∀{k:Nat} {m:Int} {acc:List Int},(dgF k m acc).length≤k+acc.length
 | 0,m,acc=>by simp[dgF]
 | k+1,m,acc=>by
  rw[dgF];split
  ·omega
  ·have:=@QoF k (m/10) ((48+m%10)::acc)
   simp only[List.length_cons]at this
   omega
theorem QhU{k:Nat}{acc:List Int}:dgF k 0 acc=acc:=by cases k<;>simp[dgF]
theorem Qp2{k:Nat}{m:Int}{acc:List Int}(h:m≠0):dgF (k+1) m acc=dgF k (m/10) ((48+m%10)::acc):=by rw[dgF,if_neg h]
end Go.Own
namespace Go.Own
open Go Go.Proofs
theorem Qfc{ss:List ByteArray}{i:Nat}(h:i<ss.length):(tL ss).getD i []=[D.v (.string (ss.getD i ⟨#[]⟩))]:=by
 simp[tL,KD,h]
theorem Qht{ss:List ByteArray}{i:Nat}{s:ByteArray}:(tL ss).set i [D.v (.string s)]=tL (ss.set i s):=by
 simp[tL,List.map_set]
theorem Qez{xs ys:List ByteArray}:tL xs=tL ys↔xs=ys:=by
 constructor
 ·intro h
  have:=congrArg unT h
  simpa only[Qa1]using this
 ·rintro rfl;rfl
theorem QcJ{xs:List ByteArray}:(∀e∈tL xs,∀x∈e,QaO x)↔True:=by
 refine⟨fun _=>trivial,fun _ e he x hx=>?_⟩
 obtain⟨n,_,rfl⟩:=KQ.1 he;simp at hx
 subst hx;trivial
theorem WfL.ex{l:List (List D)}(h:WfL l):∃xs,l=tL xs∧xs.length≤maxLen:=⟨unT l,h.1,by have:=h.2;rw[h.1,Qz]at this;exact this⟩
theorem Qy3(a b:ByteArray):(a==b)=decide (a=b):=by
 obtain⟨x⟩:=a;obtain⟨y⟩:=b;show(x==y)=_
 rw[Kp,Kh,decide_eq_true_iff,ByteArray.mk.injEq]
instance:LawfulBEq ByteArray where
  eq_of_beq:=by intro a b h;rw[Qy3]at h;exact of_decide_eq_true h
  rfl:=by intro a;rw[Qy3];exact KZ rfl
attribute [local go_sem] QaK QZ Qdz Qa1 Qz QbD QbT Qfc Qht Qez QcJ
theorem Qwj{m:Int}(h0:0≤m)(h5:m<10):IntKind.wrap .u8 (48+m)=48+m:=by
 have:m=0∨m=1∨m=2∨m=3∨m=4∨m=5∨m=6∨m=7∨m=8∨m=9:=by omega
 rcases this with rfl|rfl|rfl|rfl|rfl|rfl|rfl|rfl|rfl|rfl<;>rfl
theorem QE7(j:Nat):(10:Int)^(j+1)=10*10^j:=by rw[Int.pow_succ];omega
end Go.Own
namespace Go.Own
open Go Go.Proofs
attribute [local go_sem] Tryz.results10 QaK QZ Qdz
def QBy(n:Int):List Int:=if n=0 then [48]else dgF 20 n []
def Qg1(n:Int):ByteArray:=Qca (QBy n)
theorem Qno:Qg1 0=Qca [48]:=rfl
theorem QlT{n:Int}(h:¬n=0):Qg1 n=Qca (dgF 20 n []):=by unfold Qg1 QBy;rw[if_neg h]
def byL(l:List UInt8):List Int:=l.map fun b=>((b.toNat:Nat):Int)
theorem QDs:∀(j:Nat) (n:Nat) (acc:List Int),0<n→n<10^j→dgF j (n:Nat) acc=byL (Lib.decDigits n)++acc:=by
 intro j;induction j with
 | zero=>intro n acc h1 h2;simp at h2;omega
 | succ j ih=>
  intro n acc h1 h2;rw[Qp2 (by omega)]
  have e1:((n:Nat):Int)/10=((n/10:Nat):Int):=by omega
  have e2:((n:Nat):Int)%10=((n%10:Nat):Int):=by omega
  rw[e1,e2];have hb:∀d:Nat,d<10→byL [UInt8.ofNat (48+d)]=[48+((d:Nat):Int)]:=by
   intro d hd;have:d=0∨d=1∨d=2∨d=3∨d=4∨d=5∨d=6∨d=7∨d=8∨d=9:=by omega
   rcases this with rfl|rfl|rfl|rfl|rfl|rfl|rfl|rfl|rfl|rfl<;>rfl
  by_cases h:n<10
  ·have e3:n/10=0:=by omega
   have e4:n%10=n:=by omega
   rw[e3,e4];rw[show((0:Nat):Int)=0 from rfl,QhU,Lib.decDigits_one h,hb n h]
   rfl
  ·rw[ih (n/10) _ (by omega) (by rw[Nat.pow_succ]at h2;omega)]
   have eD:Lib.decDigits n=Lib.decDigits (n/10)++[UInt8.ofNat (48+n%10)]:=by rw[Lib.decDigits.eq_def n,dif_neg h]
   rw[eD];unfold byL at *;rw[Kv,hb (n%10) (by omega),Kn]
   rfl
theorem QwV:∀(l:List UInt8),(Qca (byL l)).data.toList=l:=by
 intro l;have:∀(l:List UInt8) (r:ByteArray),((byL l).foldl (fun r n=>r.push (UInt8.ofNat n.toNat)) r).data.toList=r.data.toList++l:=by
  intro l;induction l with
  | nil=>intro r;simp[byL]
  | cons b l ih=>
   intro r;simp only[byL,List.map_cons,List.foldl_cons]at ih ⊢
   rw[ih];have:(r.push (UInt8.ofNat ((b.toNat:Nat):Int).toNat)).data.toList=r.data.toList++[b]:=by
    simp[ByteArray.push]
   rw[this,Kn];rfl
 have h:=this l ByteArray.empty
 unfold Qca;rw[h];rfl
theorem Qgc{n:Int}(h0:0≤n)(h1:n≤9223372036854775807):Qg1 n=⟨(Lib.itoa n).toArray⟩:=by
 obtain⟨k,rfl⟩:=KL h0;have e:Lib.itoa ((k:Nat):Int)=Lib.decDigits k:=by unfold Lib.itoa;rw[if_neg (by omega),KE]
 rw[e];have key:QBy ((k:Nat):Int)=byL (Lib.decDigits k):=by
  unfold QBy
  by_cases hk:k=0
  ·subst hk;rw[Lib.decDigits_one (by omega)];rfl
  ·rw[if_neg (by omega),QDs 20 k [] (by omega) (by
    have:(9223372036854775807:Nat)<10^20:=by decide
    omega),KM]
 unfold Qg1;rw[key];have:=QwV (Lib.decDigits k)
 cases hx:Qca (byL (Lib.decDigits k))with
 | mk d=>
  rw[hx]at this;congr 1
  apply Array.toList_inj.1
  simpa using this
def Qok:Qb:=⟨[],false,fun
 | [.one (.v (.int .i64 n))]=>some (0≤n∧n≤999999,[⟨false,[.d (.v (.string (Qg1 n)))]⟩],[])
 | _=>none⟩
attribute [local go_sem] Qok
theorem QBz:Qa E0 10 Qok:=by
 refine QG (E:=E0) (T:=mkT Tryz.prog [] false (fun _=>false) true (fun _=>false)) (Qd (E:=E0) .nil) (fn:=Tryz.f10) Tryz.func10 kR rfl Qc kR rfl ?_
 intro args p rs ms hr;unfold Qok at hr;dsimp only at hr;split at hr;rotate_left
 ·cases hr
 rename_i k;cases hr;refine⟨rfl,rfl,nLe rfl,?_⟩
 have hm:=mxE;rintro⟨h1,h2⟩ bs
 by_cases hk:k=0
 ·subst hk
  rw[Qno];have eb:(⟨#[48]⟩:ByteArray)=Qca [48]:=rfl
  exact gP
 ·rw[QlT hk]
  have hk2:(k==0)=false:=KU.2 hk
  have hk3:decide (k<0)=false:=KW (by omega)
  have e0:(⟨#[]⟩:ByteArray)=Qca []:=rfl
  generalize hF:dgF 20 k []=F;refine gR ?_
  refine lpI {ι:=Nat×Int×List Int,rs:=[(5,6),(10,27)],mods:=[(0,fun i=> .one (.d (.v (.int .i64 i.2.1)))),(3,fun i=> .one (.d (.v (.string (Qca i.2.2)))))],boxes:=[],arrs:=[],ok:=fun i=>((0≤i.2.1∧i.2.1≤1125899906842625)∧i.2.1<10^i.1)∧(i.1≤20∧i.2.2.length+i.1≤20)∧dgF i.1 i.2.1 i.2.2=F,mu:=fun i=>i.1} rfl (20,k,[]) ⟨⟨⟨h1,by dsimp only;omega⟩,by dsimp only;omega⟩,⟨by dsimp only;omega,by simp⟩,hF⟩ ?_ ?_
  ·exact gP
  ·rintro⟨j,m,acc⟩ hi
   dsimp only at hi;obtain⟨⟨⟨m0,mK⟩,mj⟩,⟨j20,ja⟩,ht⟩:=hi;clear hF hk2 hk3
   by_cases h5:m>0
   ·have h5':(m !=0)=true:=by rw[bne_iff_ne];omega
    cases j with
    | zero=>exfalso;simp at mj;omega
    | succ j=>
     rw[Qp2 (by omega)]at ht
     rw[QE7]at mj;have mj2:m/10<10^j:=by
      generalize (10:Int)^j=p at mj;omega
     have e1:m.tmod 10=m%10:=Int.tmod_eq_emod_of_nonneg m0
     have e2:m.tdiv 10=m/10:=Int.tdiv_eq_ediv_of_nonneg m0
     have r0:0≤m%10:=by omega
     have r10:m%10<10:=by omega
     have r1:decide (m%10<0)=false:=KW (by omega)
     have ew:=Qwj r0 r10
     have eb:Qca [48+m%10]++Qca acc=Qca ((48+m%10)::acc):=by rw[Qcu];rfl
     have q0:=@ew;have q1:=@QL;refine gR ?_;clear q0 q1;intros
     refine lpN (j,m/10,(48+m%10)::acc) ⟨⟨⟨by dsimp only;omega,by dsimp only;omega⟩,mj2⟩,⟨by dsimp only;omega,by dsimp only[List.length_cons];omega⟩,ht⟩ (by dsimp only;omega) ?_
     clear ht;have q0:=@ew;exact gP
   ·have h5':(m !=0)=false:=by rw[bne_eq_false_iff_eq];omega
    have em:m=0:=by omega
    subst em;rw[QhU]at ht;subst ht;have q0:=@QL;exact gP
end Go.Own
namespace Go.Proofs
open Go.Shelf
def Tryz.layIM_ren:Go.Shelf.Ren:=⟨fun|171=>152|243=>197|246=>218|283=>241|284=>242|285=>243|286=>244|129=>238|317=>270|318=>271|319=>272|320=>273|337=>282|338=>283|n=>n,fun|3=>3|9=>9|2=>2|4=>4|171=>207|0=>0|53=>179|37=>24|5=>5|173=>209|212=>229|51=>174|20=>20|213=>230|46=>126|232=>239|233=>240|n=>n,fun|17=>5|18=>6|19=>7|n=>n⟩
theorem Tryz.layIM:Go.Proofs.LaysM.n171 Tryz.prog Tryz.layIM_ren:={
 mixed:=Own.kR
 f129:=Tryz.func238.trans (congrArg some Own.kR)
 f171:=Tryz.func152.trans (congrArg some Own.kR)
 f243:=Tryz.func197.trans (congrArg some Own.kR)
 f246:=Tryz.func218.trans (congrArg some Own.kR)
 f283:=Tryz.func241.trans (congrArg some Own.kR)
 f284:=Tryz.func242.trans (congrArg some Own.kR)
 f285:=Tryz.func243.trans (congrArg some Own.kR)
 f286:=Tryz.func244.trans (congrArg some Own.kR)
 f317:=Tryz.func270.trans (congrArg some Own.kR)
 f318:=Tryz.func271.trans (congrArg some Own.kR)
 f319:=Tryz.func272.trans (congrArg some Own.kR)
 f320:=Tryz.func273.trans (congrArg some Own.kR)
 f337:=Tryz.func282.trans (congrArg some Own.kR)
 f338:=Tryz.func283.trans (congrArg some Own.kR)
 t0:=Tryz.underlying0
 a0:=Tryz.isAgg0
 z0:=Tryz.sizeOf0
 v0:=Tryz.zeroValue0
 t2:=Tryz.underlying2
 a2:=Tryz.isAgg2
 z2:=Tryz.sizeOf2
 v2:=Tryz.zeroValue2
 t3:=Tryz.underlying3
 a3:=Tryz.isAgg3
 z3:=Tryz.sizeOf3
 v3:=Tryz.zeroValue3
 t4:=Tryz.underlying4
 a4:=Tryz.isAgg4
 z4:=Tryz.sizeOf4
 v4:=Tryz.zeroValue4
 t5:=Tryz.underlying5
 a5:=Tryz.isAgg5
 z5:=Tryz.sizeOf5
 v5:=Tryz.zeroValue5
 t9:=Tryz.underlying9
 a9:=Tryz.isAgg9
 z9:=Tryz.sizeOf9
 v9:=Tryz.zeroValue9
 t20:=Tryz.underlying20
 a20:=Tryz.isAgg20
 z20:=Tryz.sizeOf20
 v20:=Tryz.zeroValue20
 t37:=Tryz.underlying24
 a37:=Tryz.isAgg24
 z37:=Tryz.sizeOf24
 v37:=Tryz.zeroValue24
 t46:=Tryz.underlying126
 a46:=Tryz.isAgg126
 z46:=Tryz.sizeOf126
 v46:=Tryz.zeroValue126
 t51:=Tryz.underlying174
 a51:=Tryz.isAgg174
 z51:=Tryz.sizeOf174
 v51:=Tryz.zeroValue174
 t53:=Tryz.underlying179
 a53:=Tryz.isAgg179
 z53:=Tryz.sizeOf179
 v53:=Tryz.zeroValue179
 t171:=Tryz.underlying207
 a171:=Tryz.isAgg207
 z171:=Tryz.sizeOf207
 v171:=Tryz.zeroValue207
 t173:=Tryz.underlying209
 a173:=Tryz.isAgg209
 z173:=Tryz.sizeOf209
 v173:=Tryz.zeroValue209
 t212:=Tryz.underlying229
 a212:=Tryz.isAgg229
 z212:=Tryz.sizeOf229
 v212:=Tryz.zeroValue229
 t213:=Tryz.underlying230
 a213:=Tryz.isAgg230
 z213:=Tryz.sizeOf230
 t232:=Tryz.underlying239
 a232:=Tryz.isAgg239
 z232:=Tryz.sizeOf239
 v232:=Tryz.zeroValue239
 t233:=Tryz.underlying240
 a233:=Tryz.isAgg240
 z233:=Tryz.sizeOf240
 v233:=Tryz.zeroValue240
 g17:=Own.kR
 g18:=Own.kR
 g19:=Own.kR
 i0:=Own.kR
 i2:=Own.kR
 i3:=Own.kR
 i4:=Own.kR
 i5:=Own.kR
 i9:=Own.kR
 i20:=Own.kR
 i37:=Own.kR
 i46:=Own.kR
 i51:=Own.kR
 i53:=Own.kR
 i171:=Own.kR
 i173:=Own.kR
 i212:=Own.kR
 i232:=Own.kR
 i233:=Own.kR
 m17:=Own.kR
 m18:=Own.kR
 m19:=by kernel_rfl}
end Go.Proofs
namespace Go.Own
open Go Go.Proofs
attribute [local go_sem] Qok Tryz.results99
theorem Qro{w:World}{name:String}{g:Nat}(hg:Tryz.prog.globalNamed name=some g)(hj:∃e fz,w.heap[g]? =some (.cells QE9 e fz)):Lib.TabIs Tryz.prog w name .u64 Lib.pow10Tab:=by
 obtain⟨e,fz,hj⟩:=hj;unfold Lib.TabIs World.var?;rw[hg];show(match w.heap[g]? with|some (.cells cs _ _)=>some cs|_=>none)=_
 rw[hj];rfl
theorem QBm:Qa E0 152 Qok:=by
 refine⟨⟨Tryz.f152,Tryz.func152,by kernel_rfl,rfl⟩,?_⟩
 intro args p rs ms hr hp w vals F Ms ha hnd hF hJ hN hMN;unfold Qok at hr;dsimp only at hr;split at hr
 ·rename_i n
  cases hr;obtain⟨h0,h1⟩:=hp;cases ha with
  | cons h1' h2=>
   cases h2
   cases h1' with
   | one r=>
    cases r with
    | v hv hr2=>
     cases hr2
     refine(Any.strconv_Itoa Tryz.layIM n (by omega) (by omega) w (Qro kR (Low.tab hJ))).mono ?_
     rintro e w' ⟨rfl,k,os,rfl⟩;have he:Qg1 n=⟨(Lib.itoa n).toArray⟩:=Qgc h0 (by omega)
     refine⟨_,rfl,rfl,rfl,rfl,by simp[Go.Sort.grow],fun b hb _=>by show(w.heap++os)[b]? =_;rw[YE hb],[],[],[],[],?_,.nil,by simp,by simp,by simp,by simp,by simp⟩
     rw[he];exact(by simpa using QaN.d (.v rfl .nil) .nil:QaN (Go.Sort.grow (w.drewN k) os).heap [.d (.v (.string ⟨(Lib.itoa n).toArray⟩))] [.string ⟨(Lib.itoa n).toArray⟩] [] [])
 ·cases hr
theorem Qo4:Qa E0 99 Qok:=by
 refine QG (E:=E0) (T:=mkT Tryz.prog [(152,Qok)] false (fun _=>false) true (fun _=>false)) (Qd (E:=E0) (.cons QBm .nil)) (fn:=Tryz.f99) Tryz.func99 kR rfl Qc kR rfl ?_
 intro args p rs ms hr;unfold Qok at hr;dsimp only at hr;split at hr;rotate_left
 ·cases hr
 rename_i k;cases hr;refine⟨rfl,rfl,nLe rfl,?_⟩
 have hm:=mxE;rintro⟨h1,h2⟩ bs;exact gQ
end Go.Own
namespace Go.Own
open Go Go.Proofs
attribute [local go_sem] QaK QZ Qdz
theorem QeT{n:Int}:(Qg1 n).size≤20:=by
 unfold Qg1;rw[QL];unfold QBy;split
 ·simp
 ·have:=@QoF 20 n []
  simpa using this
theorem Qqg{q:Int×Int}:(fd q).size≤11:=by
 unfold fd;have h1:=@QaP q.1
 have h2:=@QaP (1*2^q.2.toNat)
 split
 ·rw[Qe,Qe,Qfp];omega
 ·exact(by decide:ByteArray.size ⟨#[]⟩≤11)
end Go.Own
namespace Go.Own
open Go Go.Proofs
attribute [local go_sem] QA QcM Qak Qtx Tryz.results201 Qw3 Qwm QwZ Tryz.results162
def QrQ:Qb:=⟨[],false,fun
 | [.agg [.v (.int .i64 c),.sl 1 t],.one (.v (.int .i64 m)),.one (.v (.int .i64 set))]=>some (WfS t∧QP c (unS t)=true∧QN m=true∧Ql c set=true,[⟨false,[.own 1 (sL (QhC c (unS t) m set)) 1]⟩],[])
 | _=>none⟩
attribute [local go_sem] QrQ
theorem QqY:Qa E0 201 QrQ:=by
 refine QG (E:=E0) (T:=mkT Tryz.prog [(138,QA),(139,QcM),(154,Qak),(220,Qtx)] false (fun _=>false) true (fun _=>false)) (Qd (E:=E0) (.cons Qbf (.cons Qci (.cons QbW (.cons QAE .nil))))) (fn:=Tryz.f201) Tryz.func201 kR rfl Qc kR rfl ?_
 intro args p rs ms hr;unfold QrQ at hr;dsimp only at hr;split at hr;rotate_left
 ·cases hr
 rename_i c t m set;cases hr;refine⟨rfl,rfl,nLe rfl,?_⟩
 have hm:=mxE;rintro⟨h1,ht,hmo,hat⟩ bs;obtain⟨rs,rfl,hx,hy⟩:=h1.ex;clear h1;rw[QB]at ht ⊢;have hc:=QCp ht
 exact gP
theorem Qyr{xs:List Int}(h:xs.Nodup){j k:Nat}(hj:j<xs.length)(hk:k<xs.length)(e:j≠k):xs.getD j 0≠xs.getD k 0:=by
 intro he;simp only[KD,Kc hj,Kc hk,YF]at he
 exact e ((List.getElem_inj h).1 he)
theorem QB0:Qa E0 162 Qw3:=by
 refine QG (E:=E0) (T:=mkT Tryz.prog [(160,Qwm),(201,QrQ),(191,QwZ)] false (fun d=>d==25) true (fun d=>d==999)) (Qd (E:=E0) (.cons Qpy (.cons QqY (.cons Qum .nil)))) (fn:=Tryz.f162) Tryz.func162 kR rfl Qc kR rfl ?_
 intro args p rs ms hr;unfold Qw3 at hr;dsimp only at hr;split at hr;rotate_left
 ·cases hr
 rename_i c t m l r;cases hr;refine⟨rfl,rfl,nLe rfl,?_⟩
 have hm:=mxE;rintro⟨h1,hc1,hc2⟩ bs;obtain⟨rs,rfl,hx,hy⟩:=h1.ex;clear h1;rw[QB];cases hask:QaY c rs m l r
 ·have e:QkM c rs m l r= -1:=by unfold QkM;rw[hask,if_neg (by decide)]
  rw[e];clear e;exact gP
 ·have e:QkM c rs m l r=QlY (Qws rs m r) (QhC c rs m l) (QhC c rs m l).length:=by unfold QkM;rw[hask,if_pos rfl]
  rw[e];clear e;have hask0:=hask
  unfold QaY at hask0;simp only[KB]at hask0
  obtain⟨⟨ht,hmo⟩,hd⟩:=hask0;unfold QO at hd;simp only[KB,Qj]at hd
  obtain⟨⟨hn,hat⟩,r0,r1⟩:=hd;have hl5:=Qq hat
  have ht0:=ht
  obtain⟨C,rfl,c1,c5,h40,hlen⟩:=QQ ht;obtain⟨f1,f2,f3⟩:=@QiE (C:Nat) rs m l (by rw[KE];exact c5) ⟨hl5.2.2.1,hl5.2.2.2⟩
  obtain⟨r,rfl⟩:=KL r0;have hE:∀x y:Int,eqc m ((rs.getD x.toNat []).getD r 0) ((rs.getD y.toNat []).getD r 0)=Qws rs m (r:Nat) x y:=fun x y=>by
   unfold Qws;rw[KE]
  have hrow:∀x:Int,0≤x→x<rs.length→r<(rs.getD x.toNat []).length∧(rs.getD x.toNat []).length≤maxLen:=fun x h1 h2=>by
   have:=hlen x.toNat (by omega)
   exact⟨by omega,KF (show _≤5 by omega) (by decide)⟩
  generalize hCS:QhC (C:Int) rs m l=cs at f1 f2 f3 ⊢;generalize hEE:Qws rs m (r:Nat)=E at hE ⊢;have hrl:=fun k (hk:k≤cs.length)=>@QlZ E cs k hk
  have htt:∀k,Qjz (cs.take k)≤40:=fun k=>by
   have:Qjz (cs.take k)≤Qjz cs:=by
    clear hrl f1 f2 f3 hCS;induction cs generalizing k with
    | nil=>simp
    | cons x xs ih=>cases k with
     | zero=>simp[Qjz]
     | succ k=>rw[List.take_succ_cons,Qjz,Qjz];have:=ih k;omega
   omega
  have c40:cs.length≤maxLen:=KF (show cs.length≤40 by omega) (by decide)
  clear hlen ht hn;refine gR ?_;intros
  refine lpI {ι:=Nat,rs:=[(9,11),(12,14),(15,16),(28,82)],mods:=[(27,fun i=> .one (.d (.v (.int .i64 i)))),(7,fun i=> .one (.d (.v (.int .i64 (QlY E cs i)))))],boxes:=[(3,fun _=>[.d (.v (.int .i64 C)),.d (.sl 1 (sL rs))]),(5,fun _=>[.d (.v (.int .i64 l)),.d (.v (.int .i64 (r:Nat)))])],arrs:=[],ok:=fun i=>i≤cs.length,mu:=fun i=>cs.length-i} rfl 0 (KJ _) ?_ fun i hi=>?_
  ·have e1:QlY E cs 0=0:=rfl
   clear hE f3 hrl htt hrow;exact gP
  ·dsimp only at i hi
   have r2:=hrl i hi
   have r3:=htt i
   clear hrl htt
   by_cases h5:i<cs.length
   ·obtain⟨g1,g2,g3⟩:=f3 i h5
    clear f3;have eS:QlY E cs i+(((cs.getD i []).length:Int)-Qd0 E (cs.getD i []) (cs.getD i []).length)=QlY E cs (i+1):=rfl
    have hml:=fun p (hp:p≤(cs.getD i []).length)=>@Qh3 E (cs.getD i []) p hp
    have hcl:=fun p q=>@Qlb E (cs.getD i []) p q
    generalize hN:QlY E cs i=n0 at r2 eS;generalize hQ:cs.getD i []=Q at g1 g2 g3 eS hml hcl;have q40:Q.length≤40:=by omega
    have qml:Q.length≤maxLen:=KF q40 (by decide)
    refine gR ?_
    refine lpI {ι:=Nat,rs:=[(12,14),(15,16),(34,75)],mods:=[(33,fun k=> .one (.d (.v (.int .i64 k)))),(10,fun k=> .one (.d (.v (.int .i64 (Qd0 E Q k)))))],boxes:=[(3,fun _=>[.d (.v (.int .i64 C)),.d (.sl 1 (sL rs))]),(5,fun _=>[.d (.v (.int .i64 l)),.d (.v (.int .i64 (r:Nat)))])],arrs:=[],ok:=fun k=>k≤Q.length,mu:=fun k=>Q.length-k} rfl 0 (KJ _) ?_ fun k hk=>?_
    ·have e1:Qd0 E Q 0=0:=rfl
     clear hE hml hcl hrow;exact gP
    ·dsimp only at k hk
     have m2:=hml k hk
     clear hml
     by_cases h6:k<Q.length
     ·have eM:Qd0 E Q (k+1)=max (Qd0 E Q k) (Qki E Q k Q.length):=rfl
      have g4:=g3 k h6
      obtain⟨w1,w2⟩:=hrow _ g4.1 g4.2;have hclk:=fun q=>hcl k q
      clear hcl;generalize hM:Qd0 E Q k=m0 at m2 eM;generalize hx0:Q.getD k 0=x at g4 w1 w2;have xn:x.toNat<rs.length:=by omega
      refine gR ?_
      refine lpI {ι:=Nat,rs:=[(15,16),(40,71)],mods:=[(39,fun j=> .one (.d (.v (.int .i64 j)))),(13,fun j=> .one (.d (.v (.int .i64 (Qki E Q k j)))))],boxes:=[(3,fun _=>[.d (.v (.int .i64 C)),.d (.sl 1 (sL rs))]),(5,fun _=>[.d (.v (.int .i64 l)),.d (.v (.int .i64 (r:Nat)))])],arrs:=[],ok:=fun j=>j≤Q.length,mu:=fun j=>Q.length-j} rfl 0 (KJ _) ?_ fun j hj=>?_
      ·have e1:Qki E Q k 0=1:=rfl
       clear hE hclk hrow;exact gP
      ·dsimp only at j hj
       have m3:=hclk j
       clear hclk
       by_cases h7:j<Q.length
       ·have g5:=g3 j h7
        obtain⟨u1,u2⟩:=hrow _ g5.1 g5.2;have eC:Qki E Q k (j+1)=Qki E Q k j+(if(j !=k&&E (Q.getD k 0) (Q.getD j 0))then 1 else 0):=rfl
        have hEk:=hE (Q.getD k 0) (Q.getD j 0)
        have hne:=fun(e:k≠j)=>Qyr g2 h6 h7 e
        rw[hx0]at eC hEk;clear hE hrow g3;generalize hc0:Qki E Q k j=n1 at m3 eC
        by_cases e:j=k
        ·have e1:(x !=Q.getD j 0)=false:=by rw[e,hx0];simp
         have e2:(j !=k)=false:=by rw[e];simp
         rw[e2,KT,if_neg (by decide),Int.add_zero]at eC
         clear e2 e hne;generalize hy0:Q.getD j 0=y at g5 hEk u1 u2 e1;have yn:y.toNat<rs.length:=by omega
         refine gR ?_;intros
         refine lpQ (j+1) ?_
         exact gP
        ·have e1:(x !=Q.getD j 0)=true:=by rw[bne_iff_ne,←hx0];exact hne (Ne.symm e)
         have e2:(j !=k)=true:=by rw[bne_iff_ne];exact e
         rw[e2,KY]at eC;clear e2 e hne;generalize hy0:Q.getD j 0=y at g5 hEk eC u1 u2 e1;have yn:y.toNat<rs.length:=by omega
         cases hb:E x y
         ·rw[hb,if_neg (by decide),Int.add_zero]at eC
          rw[hb]at hEk;refine gR ?_;intros
          refine lpQ (j+1) ?_
          exact gP
         ·rw[hb,if_pos rfl]at eC
          rw[hb]at hEk;refine gR ?_;intros
          refine lpQ (j+1) ?_
          exact gP
       ·have e7:j=Q.length:=by omega
        subst e7;clear hE g3 hrow;refine gR ?_;intros
        refine lpQ (k+1) ?_
        exact gP
     ·have e6:k=Q.length:=by omega
      subst e6;clear hE hcl g3 hrow;refine gR ?_;intros
      refine lpQ (i+1) ?_
      exact gP
   ·have e5:i=cs.length:=by omega
    subst e5;clear hE f3 hrow;exact gQ
end Go.Own
