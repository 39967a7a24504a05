/- Own contracts. Conditions: as each theorem states them. -/
import Derived.Test.YtnmkpepdacbfaaaGreatDoorRr07
set_option linter.unusedSimpArgs false
set_option linter.unusedVariables false
set_option maxRecDepth 20000
set_option maxHeartbeats 2000000
namespace Go.Own
open Go Go.Proofs
def dgF:Nat→Int→List Int→List Int
 | 0,_,acc=>acc
 | k+1,m,acc=>if m=0 then acc else dgF k (m/10) ((48+m%10)::acc)
theorem QlO:∀{k:Nat} {m:Int} {acc:List Int},(dgF k m acc).length≤k+acc.length
 | 0,m,acc=>by simp[dgF]
 | k+1,m,acc=>by
  rw[dgF];split
  ·omega
  ·have:=@QlO k (m/10) ((48+m%10)::acc)
   simp only[List.length_cons]at this
   omega
theorem Qja{k:Nat}{acc:List Int}:dgF k 0 acc=acc:=by cases k<;>simp[dgF]
theorem QqT{k:Nat}{m:Int}{acc:List Int}(h:m≠0):dgF (k+1) m acc=dgF k (m/10) ((48+m%10)::acc):=by rw[dgF,if_neg h]
end Go.Own

namespace Go.Own
open Go Go.Proofs
theorem Qf3{ss:List ByteArray}{i:Nat}(h:i<ss.length):(tL ss).getD i []=[D.v (.string (ss.getD i ⟨#[]⟩))]:=by
 simp[tL,List.getD_eq_getElem?_getD,h]
theorem QhJ{ss:List ByteArray}{i:Nat}{s:ByteArray}:(tL ss).set i [D.v (.string s)]=tL (ss.set i s):=by
 simp[tL,List.map_set]
theorem QhI{xs ys:List ByteArray}:tL xs=tL ys↔xs=ys:=by
 constructor
 ·intro h
  have:=congrArg unT h
  simpa only[Qbp]using this
 ·rintro rfl;rfl
theorem Qew{xs:List ByteArray}:(∀e∈tL xs,∀x∈e,Qau x)↔True:=by
 refine⟨fun _=>trivial,fun _ e he x hx=>?_⟩
 obtain⟨n,_,rfl⟩:=List.mem_map.1 he;simp at hx
 subst hx;trivial
theorem WfL.ex{l:List (List D)}(h:WfL l):∃xs,l=tL xs∧xs.length≤maxLen:=⟨unT l,h.1,by have:=h.2;rw[h.1,Qz]at this;exact this⟩
theorem QvH(a b:ByteArray):(a==b)=decide (a=b):=by
 obtain⟨x⟩:=a;obtain⟨y⟩:=b;show(x==y)=_
 rw[Bool.eq_iff_iff,beq_iff_eq,decide_eq_true_iff,ByteArray.mk.injEq]
instance:LawfulBEq ByteArray where
  eq_of_beq:=by intro a b h;rw[QvH]at h;exact of_decide_eq_true h
  rfl:=by intro a;rw[QvH];exact decide_eq_true rfl
attribute [local go_sem] QbP Qab QcO Qbp Qz Qbm Qcu Qf3 QhJ QhI Qew
theorem Qwu{m:Int}(h0:0≤m)(h5:m<10):IntKind.wrap .u8 (48+m)=48+m:=by
 have:m=0∨m=1∨m=2∨m=3∨m=4∨m=5∨m=6∨m=7∨m=8∨m=9:=by omega
 rcases this with rfl|rfl|rfl|rfl|rfl|rfl|rfl|rfl|rfl|rfl<;>rfl
theorem QCq(j:Nat):(10:Int)^(j+1)=10*10^j:=by rw[Int.pow_succ];omega
end Go.Own

namespace Go.Own
open Go Go.Proofs
attribute [local go_sem] Tryz.results10
attribute [local go_sem] QbP Qab QcO
def Qzm(n:Int):List Int:=if n=0 then [48]else dgF 20 n []
def Qdc(n:Int):ByteArray:=Qcv (Qzm n)
theorem QrU:Qdc 0=Qcv [48]:=rfl
theorem QnI{n:Int}(h:¬n=0):Qdc n=Qcv (dgF 20 n []):=by unfold Qdc Qzm;rw[if_neg h]
def byL(l:List UInt8):List Int:=l.map fun b=>((b.toNat:Nat):Int)
theorem QzX:∀(j:Nat) (n:Nat) (acc:List Int),0<n→n<10^j→dgF j (n:Nat) acc=byL (Lib.decDigits n)++acc:=by
 intro j;induction j with
 | zero=>intro n acc h1 h2;simp at h2;omega
 | succ j ih=>
  intro n acc h1 h2;rw[QqT (by omega)]
  have e1:((n:Nat):Int)/10=((n/10:Nat):Int):=by omega
  have e2:((n:Nat):Int)%10=((n%10:Nat):Int):=by omega
  rw[e1,e2];have hb:∀d:Nat,d<10→byL [UInt8.ofNat (48+d)]=[48+((d:Nat):Int)]:=by
   intro d hd;have:d=0∨d=1∨d=2∨d=3∨d=4∨d=5∨d=6∨d=7∨d=8∨d=9:=by omega
   rcases this with rfl|rfl|rfl|rfl|rfl|rfl|rfl|rfl|rfl|rfl<;>rfl
  by_cases h:n<10
  ·have e3:n/10=0:=by omega
   have e4:n%10=n:=by omega
   rw[e3,e4];rw[show((0:Nat):Int)=0 from rfl,Qja,Lib.decDigits_one h,hb n h]
   rfl
  ·rw[ih (n/10) _ (by omega) (by rw[Nat.pow_succ]at h2;omega)]
   have eD:Lib.decDigits n=Lib.decDigits (n/10)++[UInt8.ofNat (48+n%10)]:=by rw[Lib.decDigits.eq_def n,dif_neg h]
   rw[eD];unfold byL at *;rw[List.map_append,hb (n%10) (by omega),List.append_assoc]
   rfl
theorem QtD:∀(l:List UInt8),(Qcv (byL l)).data.toList=l:=by
 intro l;have:∀(l:List UInt8) (r:ByteArray),((byL l).foldl (fun r n=>r.push (UInt8.ofNat n.toNat)) r).data.toList=r.data.toList++l:=by
  intro l;induction l with
  | nil=>intro r;simp[byL]
  | cons b l ih=>
   intro r;simp only[byL,List.map_cons,List.foldl_cons]at ih ⊢
   rw[ih];have:(r.push (UInt8.ofNat ((b.toNat:Nat):Int).toNat)).data.toList=r.data.toList++[b]:=by
    simp[ByteArray.push]
   rw[this,List.append_assoc];rfl
 have h:=this l ByteArray.empty
 unfold Qcv;rw[h];rfl
theorem Qdz{n:Int}(h0:0≤n)(h1:n≤9223372036854775807):Qdc n=⟨(Lib.itoa n).toArray⟩:=by
 obtain⟨k,rfl⟩:=Int.eq_ofNat_of_zero_le h0;have e:Lib.itoa ((k:Nat):Int)=Lib.decDigits k:=by unfold Lib.itoa;rw[if_neg (by omega),Int.toNat_natCast]
 rw[e];have key:Qzm ((k:Nat):Int)=byL (Lib.decDigits k):=by
  unfold Qzm
  by_cases hk:k=0
  ·subst hk;rw[Lib.decDigits_one (by omega)];rfl
  ·rw[if_neg (by omega),QzX 20 k [] (by omega) (by
    have:(9223372036854775807:Nat)<10^20:=by decide
    omega),List.append_nil]
 unfold Qdc;rw[key];have:=QtD (Lib.decDigits k)
 cases hx:Qcv (byL (Lib.decDigits k))with
 | mk d=>
  rw[hx]at this;congr 1
  apply Array.toList_inj.1
  simpa using this
def Qpy:Qb:=⟨[],false,fun
 | [.one (.v (.int .i64 n))]=>some (0≤n∧n≤999999,[⟨false,[.d (.v (.string (Qdc n)))]⟩],[])
 | _=>none⟩
attribute [local go_sem] Qpy
end Go.Own

namespace Go.Proofs
open Go.Shelf
def Tryz.layIM_ren:Go.Shelf.Ren:=⟨fun|171=>152|243=>197|246=>218|283=>241|284=>242|285=>243|286=>244|129=>238|317=>270|318=>271|319=>272|320=>273|337=>282|338=>283|n=>n,fun|3=>3|9=>9|2=>2|4=>4|171=>207|0=>0|53=>179|37=>24|5=>5|173=>209|212=>229|51=>174|20=>20|213=>230|46=>126|232=>239|233=>240|n=>n,fun|17=>5|18=>6|19=>7|n=>n⟩
theorem Tryz.layIM:Go.Proofs.LaysM.n171 Tryz.prog Tryz.layIM_ren:={
 mixed:=by kernel_rfl
 f129:=Tryz.func238.trans (congrArg some (by kernel_rfl))
 f171:=Tryz.func152.trans (congrArg some (by kernel_rfl))
 f243:=Tryz.func197.trans (congrArg some (by kernel_rfl))
 f246:=Tryz.func218.trans (congrArg some (by kernel_rfl))
 f283:=Tryz.func241.trans (congrArg some (by kernel_rfl))
 f284:=Tryz.func242.trans (congrArg some (by kernel_rfl))
 f285:=Tryz.func243.trans (congrArg some (by kernel_rfl))
 f286:=Tryz.func244.trans (congrArg some (by kernel_rfl))
 f317:=Tryz.func270.trans (congrArg some (by kernel_rfl))
 f318:=Tryz.func271.trans (congrArg some (by kernel_rfl))
 f319:=Tryz.func272.trans (congrArg some (by kernel_rfl))
 f320:=Tryz.func273.trans (congrArg some (by kernel_rfl))
 f337:=Tryz.func282.trans (congrArg some (by kernel_rfl))
 f338:=Tryz.func283.trans (congrArg some (by kernel_rfl))
 t0:=Tryz.underlying0
 a0:=Tryz.isAgg0
 z0:=Tryz.sizeOf0
 v0:=Tryz.zeroValue0
 t2:=Tryz.underlying2
 a2:=Tryz.isAgg2
 z2:=Tryz.sizeOf2
 v2:=Tryz.zeroValue2
 t3:=Tryz.underlying3
 a3:=Tryz.isAgg3
 z3:=Tryz.sizeOf3
 v3:=Tryz.zeroValue3
 t4:=Tryz.underlying4
 a4:=Tryz.isAgg4
 z4:=Tryz.sizeOf4
 v4:=Tryz.zeroValue4
 t5:=Tryz.underlying5
 a5:=Tryz.isAgg5
 z5:=Tryz.sizeOf5
 v5:=Tryz.zeroValue5
 t9:=Tryz.underlying9
 a9:=Tryz.isAgg9
 z9:=Tryz.sizeOf9
 v9:=Tryz.zeroValue9
 t20:=Tryz.underlying20
 a20:=Tryz.isAgg20
 z20:=Tryz.sizeOf20
 v20:=Tryz.zeroValue20
 t37:=Tryz.underlying24
 a37:=Tryz.isAgg24
 z37:=Tryz.sizeOf24
 v37:=Tryz.zeroValue24
 t46:=Tryz.underlying126
 a46:=Tryz.isAgg126
 z46:=Tryz.sizeOf126
 v46:=Tryz.zeroValue126
 t51:=Tryz.underlying174
 a51:=Tryz.isAgg174
 z51:=Tryz.sizeOf174
 v51:=Tryz.zeroValue174
 t53:=Tryz.underlying179
 a53:=Tryz.isAgg179
 z53:=Tryz.sizeOf179
 v53:=Tryz.zeroValue179
 t171:=Tryz.underlying207
 a171:=Tryz.isAgg207
 z171:=Tryz.sizeOf207
 v171:=Tryz.zeroValue207
 t173:=Tryz.underlying209
 a173:=Tryz.isAgg209
 z173:=Tryz.sizeOf209
 v173:=Tryz.zeroValue209
 t212:=Tryz.underlying229
 a212:=Tryz.isAgg229
 z212:=Tryz.sizeOf229
 v212:=Tryz.zeroValue229
 t213:=Tryz.underlying230
 a213:=Tryz.isAgg230
 z213:=Tryz.sizeOf230
 t232:=Tryz.underlying239
 a232:=Tryz.isAgg239
 z232:=Tryz.sizeOf239
 v232:=Tryz.zeroValue239
 t233:=Tryz.underlying240
 a233:=Tryz.isAgg240
 z233:=Tryz.sizeOf240
 v233:=Tryz.zeroValue240
 g17:=by kernel_rfl
 g18:=by kernel_rfl
 g19:=by kernel_rfl
 i0:=by kernel_rfl
 i2:=by kernel_rfl
 i3:=by kernel_rfl
 i4:=by kernel_rfl
 i5:=by kernel_rfl
 i9:=by kernel_rfl
 i20:=by kernel_rfl
 i37:=by kernel_rfl
 i46:=by kernel_rfl
 i51:=by kernel_rfl
 i53:=by kernel_rfl
 i171:=by kernel_rfl
 i173:=by kernel_rfl
 i212:=by kernel_rfl
 i232:=by kernel_rfl
 i233:=by kernel_rfl
 m17:=by kernel_rfl
 m18:=by kernel_rfl
 m19:=by kernel_rfl}
end Go.Proofs

namespace Go.Own
open Go Go.Proofs
attribute [local go_sem] Qpy Tryz.results99
theorem Qoe{w:World}{name:String}{g:Nat}(hg:Tryz.prog.globalNamed name=some g)(hj:∃e fz,w.heap[g]? =some (.cells QBH e fz)):Lib.TabIs Tryz.prog w name .u64 Lib.pow10Tab:=by
 obtain⟨e,fz,hj⟩:=hj;unfold Lib.TabIs World.var?;rw[hg];show(match w.heap[g]? with|some (.cells cs _ _)=>some cs|_=>none)=_
 rw[hj];rfl
theorem QxT:Qa E0 152 Qpy:=by
 refine⟨⟨Tryz.f152,Tryz.func152,by kernel_rfl,rfl⟩,?_⟩
 intro args p rs ms hr hp w vals F Ms ha hnd hF hJ hN hMN;unfold Qpy at hr;dsimp only at hr;split at hr
 ·rename_i n
  cases hr;obtain⟨h0,h1⟩:=hp;cases ha with
  | cons h1' h2=>
   cases h2
   cases h1' with
   | one r=>
    cases r with
    | v hv hr2=>
     cases hr2
     refine(Any.strconv_Itoa Tryz.layIM n (by omega) (by omega) w (Qoe (by kernel_rfl) (Low.tab hJ))).mono ?_
     rintro e w' ⟨rfl,k,os,rfl⟩;have he:Qdc n=⟨(Lib.itoa n).toArray⟩:=Qdz h0 (by omega)
     refine⟨_,rfl,rfl,rfl,rfl,by simp[Go.Sort.grow],fun b hb _=>by show(w.heap++os)[b]? =_;rw[Array.getElem?_append_left hb],[],[],[],[],?_,.nil,by simp,by simp,by simp,by simp,by simp⟩
     rw[he];exact(by simpa using Qat.d (.v rfl .nil) .nil:Qat (Go.Sort.grow (w.drewN k) os).heap [.d (.v (.string ⟨(Lib.itoa n).toArray⟩))] [.string ⟨(Lib.itoa n).toArray⟩] [] [])
 ·cases hr
theorem Qmg:Qa E0 99 Qpy:=by
 refine QV (E:=E0) (T:=mkT Tryz.prog [(152,Qpy)] false (fun _=>false) true (fun _=>false)) (Qf (E:=E0) (.cons QxT .nil)) (fn:=Tryz.f99) Tryz.func99 (by kernel_rfl) rfl Qe (by kernel_rfl) rfl ?_
 intro args p rs ms hr;unfold Qpy at hr;dsimp only at hr;split at hr;rotate_left
 ·cases hr
 rename_i k;cases hr;refine⟨rfl,rfl,nLe rfl,?_⟩
 have hm:=mxE;rintro⟨h1,h2⟩ bs;exact gQ
end Go.Own

namespace Go.Own
open Go Go.Proofs
attribute [local go_sem] QbP Qab QcO
theorem QjG{n:Int}:(Qdc n).size≤20:=by
 unfold Qdc;rw[Qai];unfold Qzm;split
 ·simp
 ·have:=@QlO 20 n []
  simpa using this
theorem Qum{q:Int×Int}:(fd q).size≤11:=by
 unfold fd;have h1:=@QaM q.1
 have h2:=@QaM (1*2^q.2.toNat)
 split
 ·rw[Qd,Qd,Qeo];omega
 ·exact(by decide:ByteArray.size ⟨#[]⟩≤11)
end Go.Own
