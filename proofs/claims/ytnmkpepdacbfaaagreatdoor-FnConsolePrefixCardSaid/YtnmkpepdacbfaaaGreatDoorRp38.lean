/- Contracts. Conditions: as stated. -/
import Derived.Shelf.Strings.OnBuilder
import Derived.Test.YtnmkpepdacbfaaaGreatDoorRp35
import Derived.Test.YtnmkpepdacbfaaaGreatDoorRp37
set_option linter.all false
set_option maxRecDepth 20000
set_option maxHeartbeats 2000000
namespace Go.Proofs
open Go.Shelf
def Tryz.lays156_ren:Go.Shelf.Ren:=⟨fun|156=>111|165=>166|166=>167|169=>168|240=>203|241=>204|276=>223|277=>224|n=>n,fun|31=>30|9=>9|3=>3|4=>4|0=>0|20=>20|72=>151|76=>118|70=>149|37=>24|75=>117|127=>165|164=>189|5=>5|80=>153|n=>n,fun|n=>n⟩
theorem Tryz.lays156:Go.Proofs.Lays.n156 Tryz.prog Tryz.lays156_ren:={
 mixed:=Own.kR
 f156:=Tryz.func111.trans (congrArg some Own.kR)
 f165:=Tryz.func166.trans (congrArg some Own.kR)
 f166:=Tryz.func167.trans (congrArg some Own.kR)
 f169:=Tryz.func168.trans (congrArg some Own.kR)
 f240:=Tryz.func203.trans (congrArg some Own.kR)
 f241:=Tryz.func204.trans (congrArg some Own.kR)
 f276:=Tryz.func223.trans (congrArg some Own.kR)
 f277:=Tryz.func224.trans (congrArg some Own.kR)
 t0:=Tryz.underlying0
 a0:=Tryz.isAgg0
 z0:=Tryz.sizeOf0
 v0:=Tryz.zeroValue0
 t3:=Tryz.underlying3
 a3:=Tryz.isAgg3
 z3:=Tryz.sizeOf3
 v3:=Tryz.zeroValue3
 t4:=Tryz.underlying4
 a4:=Tryz.isAgg4
 z4:=Tryz.sizeOf4
 v4:=Tryz.zeroValue4
 t9:=Tryz.underlying9
 a9:=Tryz.isAgg9
 z9:=Tryz.sizeOf9
 v9:=Tryz.zeroValue9
 t20:=Tryz.underlying20
 a20:=Tryz.isAgg20
 z20:=Tryz.sizeOf20
 v20:=Tryz.zeroValue20
 t31:=Tryz.underlying30
 a31:=Tryz.isAgg30
 z31:=Tryz.sizeOf30
 v31:=Tryz.zeroValue30
 t37:=Tryz.underlying24
 a37:=Tryz.isAgg24
 z37:=Tryz.sizeOf24
 v37:=Tryz.zeroValue24
 t70:=Tryz.underlying149
 a70:=Tryz.isAgg149
 z70:=Tryz.sizeOf149
 v70:=Tryz.zeroValue149
 t72:=Tryz.underlying151
 a72:=Tryz.isAgg151
 z72:=Tryz.sizeOf151
 v72:=Tryz.zeroValue151
 t75:=Tryz.underlying117
 a75:=Tryz.isAgg117
 z75:=Tryz.sizeOf117
 v75:=Tryz.zeroValue117
 t76:=Tryz.underlying118
 a76:=Tryz.isAgg118
 z76:=Tryz.sizeOf118
 v76:=Tryz.zeroValue118
 t127:=Tryz.underlying165
 a127:=Tryz.isAgg165
 z127:=Tryz.sizeOf165
 v127:=Tryz.zeroValue165
 t164:=Tryz.underlying189
 a164:=Tryz.isAgg189
 z164:=Tryz.sizeOf189
 v164:=Tryz.zeroValue189}
theorem Tryz.Builder_Extra_156:Builder.Extra Tryz.prog Tryz.lays156_ren:={
 sizeBuilder:=Own.kR
 liesBuilder:=Own.kR
 t5:=Tryz.underlying5
 a5:=Tryz.isAgg5
 z5:=Tryz.sizeOf5
 v5:=Tryz.zeroValue5
 infoByte:=Own.kR
 cellsByte:=Own.kR
 sizeByte:=Own.kR
 neB5:=by decide}
open Go.RowKit in
theorem Tryz.strings_Join_none(a:Option Addr)(c:Nat)(sep:ByteArray)(w:World):
  Calls Tryz.prog 111 #[.slice a 0 c,.string sep] w fun e w'=>e= .returned (.string ⟨#[]⟩)∧w'=w:=Any.strings_Join_none Tryz.lays156 Tryz.Builder_Extra_156 a c sep w
open Go.RowKit in
theorem Tryz.strings_Join(bk o c:Nat)(xs:List ByteArray)(sep:ByteArray)(w:World)(hcells:∀(j:Nat) x,xs[j]? =some x→w.cell? ⟨bk,o+j,none⟩=some (.string x))(hbk:bk<w.heap.size)(hN:xs.length≤140737488355328)(hcap:xs.length≤c)(hlen:(Lib.join (xs.map (·.data.toList)) sep.data.toList).length≤140737488355328):
  Calls Tryz.prog 111 #[.slice (some ⟨bk,o,none⟩) xs.length c,.string sep] w fun e w'=>e= .returned (.string ⟨(Lib.join (xs.map (·.data.toList)) sep.data.toList).toArray⟩)∧Below w.heap.size w w':=Any.strings_Join Tryz.lays156 Tryz.Builder_Extra_156 bk o c xs sep w hcells hbk hN hcap hlen
end Go.Proofs
namespace Go.Own
open Go Go.Proofs
attribute [local go_sem] cFA Tryz.results113 Tryz.results14 QaK QZ Qdz QaK QZ Qdz Qa1 Qz QbD QbT
def jb(sep:ByteArray)(ss:List ByteArray):ByteArray:=⟨(Lib.join (ss.map (·.data.toList)) sep.data.toList).toArray⟩
theorem Qqs{sep:ByteArray}:jb sep []=⟨#[]⟩:=rfl
theorem QDJ{sep s:ByteArray}:jb sep [s]=s:=QbG (show Lib.join [s.data.toList] sep.data.toList=s.data.toList from Lib.join_one _ _)
theorem QlC(sep:List UInt8)(r:List (List UInt8))(y:List UInt8):Lib.joinTail sep (r++[y])=Lib.joinTail sep r++(sep++y):=by
 unfold Lib.joinTail;rw[Kv,YR,List.map_cons,List.map_nil,List.flatten_cons,Yc,KM]
theorem QlB{sep:ByteArray}{ss:List ByteArray}:(jb sep ss).data.toList=Lib.join (ss.map (·.data.toList)) sep.data.toList:=rfl
theorem QBn{sep s:ByteArray}{ss:List ByteArray}(h:ss≠[]):jb sep (ss++[s])=(jb sep ss++sep)++s:=by
 cases ss with
 | nil=>exact absurd rfl h
 | cons x r=>
  apply QbG
  rw[Qb2,Qb2,QlB,QlB,List.cons_append,List.map_cons,List.map_cons,Lib.join_cons,Lib.join_cons,Kv,List.map_cons,List.map_nil,QlC];simp only[Kn]
theorem Qi3{sep:ByteArray}{B:Nat}:∀{ss:List ByteArray},(∀s∈ss,s.size≤B)→(jb sep ss).size≤ss.length*(B+sep.size)
 | [],_=>KJ _
 | x::r,h=>by
  have e:(jb sep (x::r)).size=x.size+(Lib.joinTail sep.data.toList (r.map (·.data.toList))).length:=by
   simp only[jb,List.map_cons,Lib.join_cons,ByteArray.size,List.size_toArray,KN,YN]
  have t:∀r:List ByteArray,(∀s∈r,s.size≤B)→(Lib.joinTail sep.data.toList (r.map (·.data.toList))).length≤r.length*(B+sep.size):=by
   intro r;induction r with
   | nil=>intro _;simp[Lib.joinTail]
   | cons y r ih=>
    intro h;have h1:=h y (by simp)
    have h2:=ih fun s hs=>h s (by simp[hs])
    simp only[Lib.joinTail,List.map_cons,List.flatten_cons,KN,YN]at h2 ⊢
    have e1:sep.data.size=sep.size:=rfl
    have e2:y.data.size=y.size:=rfl
    rw[e1,e2,List.length_cons,Nat.succ_mul];omega
  have h1:=h x (by simp)
  have h2:=t r fun s hs=>h s (by simp[hs])
  rw[e,List.length_cons,Nat.succ_mul];omega
def QmE:Qb:=⟨[],false,fun
 | [.one (.sl 1 l),.one (.v (.string sep))]=>some (WfL l∧l.length≤16777216∧(jb sep (unT l)).size≤140737488355328,[⟨false,[.d (.v (.string (jb sep (unT l))))]⟩],[])
 | _=>none⟩
attribute [local go_sem] QmE
theorem Qrl{h:Q6}:∀{ss:List ByteArray} {vs:List Value} {G:List Nat},Qbl h (tL ss).flatten vs G→vs=ss.map Value.string
 | [],vs,G,r=>by cases r;rfl
 | s::ss,vs,G,r=>by
  simp only[tL,List.map_cons,List.flatten_cons,List.cons_append,List.nil_append]at r
  cases r with
  | v _ r=>rw[Qrl r];rfl
theorem QoV:Qa E0 111 QmE:=by
 refine⟨⟨Tryz.f111,Tryz.func111,by kernel_rfl,rfl⟩,?_⟩
 intro args p rs ms hr hp w vals F Ms ha hnd hF hJ hN hMN;unfold QmE at hr;dsimp only at hr;split at hr
 ·rename_i l sep
  cases hr;obtain⟨hl,hlen,hsz⟩:=hp;cases ha with
  | cons h1 h2=>
   cases h2 with
   | cons h2 h3=>
    cases h3
    cases h1 with
    | one r1=>
     cases h2 with
     | one r2=>
      cases r2 with
      | v _ r2=>
       cases r2
       have fin:∀{e:Ending} {w':World} {s:ByteArray},e= .returned (.string s)→s=jb sep (unT l)→Go.RowKit.Below w.heap.size w w'→∃v,e= .returned v∧∀F' Ms',Qd3 false w w' F' Ms' [] [⟨false,[.d (.v (.string (jb sep (unT l))))]⟩] [] v:=fun {e w' s} he hs hb=>by
        subst he hs;refine⟨_,rfl,fun F' Ms'=>⟨hb.os,hb.tape,hb.output,hb.size,fun b h1 _=>hb.block b h1,[],[],[],[],?_,.nil,by simp,by simp,by simp,by simp,by simp⟩⟩
        exact(by simpa using QaN.d (.v rfl .nil) .nil:QaN w'.heap [.d (.v (.string (jb sep (unT l))))] [.string (jb sep (unT l))] [] [])
       rcases r1.sl_inv with⟨a0,rfl,rfl,rfl⟩|⟨b,off,cap,c,e,fz,G,rfl,a1,a2,a3,a4,a5,a6,rfl⟩
       ·refine(Tryz.strings_Join_none a0 0 sep w).mono ?_
        rintro e w' ⟨he,rfl⟩;obtain⟨v,h1,h2⟩:=fin (s:=⟨#[]⟩) he rfl (Go.RowKit.Below.refl _ _);exact⟨v,h1,h2 _ _⟩
       ·have hl2:=hl.1
        rw[hl2]at a6;have hcs:=Qrl a6
        have e1:(tL (unT l)).length=l.length:=by rw[←hl2]
        have e2:(unT l).length=l.length:=by rw[←e1,Qz]
        rw[e1,Nat.mul_one]at hcs;have:=Tryz.strings_Join b off cap (unT l) sep w (fun j x hx=>by
         have hj:j<(unT l).length:=(K5.1 hx).1
         have h3:((c.toList.drop off).take l.length)[j]? =some (.string x):=by rw[hcs,YG,hx];rfl
         rw[Ky (by omega),YQ]at h3
         rw[Qb0 rfl a1];simpa using h3) (Kb.1 a1).1 (by omega) (by omega) (by
          have:(Lib.join ((unT l).map (·.data.toList)) sep.data.toList).length=(jb sep (unT l)).size:=by simp[jb,ByteArray.size]
          rw[this];exact hsz)
        rw[e2]at this;refine this.mono ?_
        rintro e w' ⟨he,hb⟩;obtain⟨v,h1,h2⟩:=fin he rfl hb;exact⟨v,h1,h2 _ _⟩
 ·cases hr
def slL(xs:List Int):ByteArray:=if xs=[]then⟨#[110,111,116,104,105,110,103]⟩else jb ⟨#[32]⟩ (xs.map fa)
def cSL:Qb:=⟨[],false,fun
 | [.one (.sl 1 l)]=>some (WfI l∧l.length≤1048576,[⟨false,[.d (.v (.string (slL (unI l))))]⟩],[])
 | _=>none⟩
attribute [local go_sem] cSL
theorem QhY{xs:List Int}:(jb ⟨#[32]⟩ (xs.map fa)).size≤xs.length*6:=by
 have:=Qi3 (sep:=⟨#[32]⟩) (B:=5) (ss:=xs.map fa) (fun s hs=>by obtain⟨x,_,rfl⟩:=KQ.1 hs;exact QaP)
 rw[KV]at this;exact this
theorem QzJ:Qa E0 113 cSL:=by
 refine QG (E:=E0) (T:=mkT Tryz.prog [(146,cFA),(111,QmE)] false (fun _=>false) true (fun _=>false)) (Qd (E:=E0) (.cons Qqd (.cons QoV .nil))) (fn:=Tryz.f113) Tryz.func113 kR rfl Qc kR rfl ?_
 intro args p rs ms hr;unfold cSL at hr;dsimp only at hr;split at hr;rotate_left
 ·cases hr
 rename_i l;cases hr;refine⟨rfl,rfl,nLe rfl,?_⟩
 have hm:=mxE;rintro⟨h1,h2⟩ bs;obtain⟨xs,rfl,hx⟩:=h1.ex;clear h1;rw[Qs]at h2;rw[QaH]
 by_cases h0:xs=[]
 ·subst h0
  refine gR ?_
  all_goals first|rfl|(simp[iL]at *;done)|skip
 ·have e:slL xs=jb ⟨#[32]⟩ (xs.map fa):=by unfold slL;rw[if_neg h0]
  have e0:((xs.length:Int)==0)=false:=by
   have:xs.length≠0:=fun h=>h0 (Kd h)
   rw[KU];omega
  rw[e];clear e;refine gR ?_
  refine lpI {ι:=Nat,rs:=[(5,6),(13,22)],mods:=[(12,fun i=> .one (.d (.v (.int .i64 i)))),(3,fun i=> .one (.own 1 (tL ((xs.take i).map fa)) 1))],boxes:=[],arrs:=[],ok:=fun i=>i≤xs.length,mu:=fun i=>xs.length-i} rfl 0 (KJ _) ?_ fun i hi=>?_
  ·exact gQ
  ·dsimp only at i hi
   have hsz:=@QhY xs
   by_cases h5:i<xs.length
   ·clear hsz
    (repeat' first|refine gA fun _=>?_|apply fkI<;>intro hb<;>try simp only[ew,KV]at hb|simp only[go_sem,simprocAttr, *,KV])
    ·have e2:(xs.take (i+1)).map fa=(xs.take i).map fa++[fa (xs.getD i 0)]:=by rw[Qf h5 0];simp
     refine lpQ (i+1) ?_
     exact gP
   ·have e5:i=xs.length:=by omega
    subst e5;have e6:xs.take xs.length=xs:=KR
    (repeat' first|refine gA fun _=>?_|apply fkI<;>intro hb<;>try simp only[ew,KV,e6]at hb|simp only[go_sem,simprocAttr, *,KV])
theorem QoU{α:Type}{sep:ByteArray}{f:α→ByteArray}{xs:List α}{i:Nat}{d:α}(h:i<xs.length):
  jb sep ((xs.take (i+1)).map f)=(if i=0 then jb sep ((xs.take i).map f)else jb sep ((xs.take i).map f)++sep)++f (xs.getD i d):=by
 rw[Qf h d,Kv,List.map_cons,List.map_nil];split
 ·subst_vars
  rw[Kw,List.map_nil,List.nil_append,QDJ,Qqs,Quk]
 ·rw[QBn]
  intro e;rw[List.map_eq_nil_iff,List.take_eq_nil_iff]at e;rcases e with e|e
  ·omega
  ·rw[e]at h;simp at h
theorem Qyb{xs:List Int}{i:Nat}:(jb ⟨#[32]⟩ ((xs.take i).map fa)).size≤i*6:=by
 have:=@QhY (xs.take i)
 rw[KO]at this;have h2:min i xs.length*6≤i*6:=Ka _ (Nat.min_le_left _ _)
 omega
theorem QzK:Qa E0 14 cSL:=by
 refine QG (E:=E0) (T:=mkT Tryz.prog [(23,cFA)] false (fun _=>false) true (fun _=>false)) (Qd (E:=E0) (.cons QmY .nil)) (fn:=Tryz.f14) Tryz.func14 kR rfl Qc kR rfl ?_
 intro args p rs ms hr;unfold cSL at hr;dsimp only at hr;split at hr;rotate_left
 ·cases hr
 rename_i l;cases hr;refine⟨rfl,rfl,nLe rfl,?_⟩
 have hm:=mxE;rintro⟨h1,h2⟩ bs;obtain⟨xs,rfl,hx⟩:=h1.ex;clear h1;rw[Qs]at h2;rw[QaH];refine gR ?_
 refine lpI {ι:=Nat,rs:=[(5,22)],mods:=[(4,fun i=> .one (.d (.v (.int .i64 i)))),(3,fun i=> .one (.d (.v (.string (jb ⟨#[32]⟩ ((xs.take i).map fa))))))],boxes:=[],arrs:=[],ok:=fun i=>i≤xs.length,mu:=fun i=>xs.length-i} rfl 0 (KJ _) ?_ fun i hi=>?_
 ·exact gQ
 ·dsimp only at i hi
  have hsz:=@Qyb xs i
  have hf:=@QaP (xs.getD i 0)
  by_cases h5:i<xs.length
  ·have hs:=QoU (sep:=⟨#[32]⟩) (f:=fa) (d:=0) h5
   by_cases h0:i=0
   ·subst h0
    rw[if_pos rfl]at hs;have e0:decide ((0:Int)>0)=false:=by decide
    have z0:(jb ⟨#[32]⟩ []).size=0:=rfl
    rw[Kw,List.map_nil]at hs;rw[Ya]at hs;clear hsz;(repeat' first|refine gA fun _=>?_|apply fkI<;>intro hb<;>try simp only[ew,e0,QbS,Qe,z0]at hb|simp only[go_sem,simprocAttr, *,QbS,Qe])
    ·refine lpN 1 (by dsimp only;omega) (by dsimp only;omega) ?_
     clear hf;(repeat' first|refine gA fun _=>?_|apply fkI<;>intro hb<;>try simp only[ew,hs]at hb|simp only[go_sem,simprocAttr, *])
     all_goals first|omega|skip
    all_goals (exfalso;omega)
   ·rw[if_neg h0]at hs
    have e0:decide ((i:Int)>0)=true:=KZ (by omega)
    have q0:=@QbS;have q1:=@Qe;refine gR ?_;clear q0 q1;intros
    ·refine lpQ (i+1) ?_
     clear hsz hf e0;exact gP
    all_goals (exfalso;omega)
  ·have e5:i=xs.length:=by omega
   subst e5;have e6:xs.take xs.length=xs:=KR
   clear hsz hf;(repeat' first|refine gA fun _=>?_|apply fkI<;>intro hb<;>try simp only[ew,e6]at hb|simp only[go_sem,simprocAttr, *])
   ·have h0:xs=[]:=Kd (by omega)
    unfold slL;rw[if_pos h0]
   ·have h0:¬xs=[]:=fun e=>‹¬(xs.length:Int)=0› (by rw[e];rfl)
    unfold slL;rw[if_neg h0]
theorem QyH{xs:List Int}:(slL xs).size≤xs.length*6+7:=by
 unfold slL;split
 ·show 7≤_;omega
 ·have:=@QhY xs;omega
end Go.Own
namespace Go.Own
open Go Go.Proofs
attribute [local go_sem] QT Qiu cSL Qy9 Qy5 Tryz.results116 Tryz.results87 Qh Qg Qae Qag Qaf Qaj Qa7 Qd1 Qv Qa6
def QzI(n:Int)(ds:List (Int×Int)):ByteArray:=if QJ n ds then((((⟨#[107,101,121,115,32]⟩++slL (Qc1 n ds))++⟨#[32,116,104,105,114,100,32]⟩)++slL (Qrk n ds))++⟨#[32,98,111,121,99,101,32]⟩)++slL (QpX n ds)else⟨#[]⟩
theorem Qeo:ByteArray.size ⟨#[107,101,121,115,32]⟩=5:=rfl
theorem Qdt:ByteArray.size ⟨#[32,116,104,105,114,100,32]⟩=7:=rfl
theorem Qde:ByteArray.size ⟨#[32,98,111,121,99,101,32]⟩=7:=rfl
def Qw4:Qb:=⟨[],false,fun
 | [.one (.v (.int .i64 n)),.one (.sl 2 l)]=>some (WfD l∧ -9223372036854775808≤n∧n≤9223372036854775807,[⟨false,[.d (.v (.string (QzI n (unD l))))]⟩],[])
 | _=>none⟩
attribute [local go_sem] Qw4
theorem Qcl{xs:List Int}(h:xs.length≤100):xs.length≤maxLen∧xs.length≤1048576∧(slL xs).size≤607:=by
 have:=@QyH xs
 exact⟨KF h (by decide),by omega,by omega⟩
theorem QB9:Qa E0 116 Qw4:=by
 refine QG (E:=E0) (T:=mkT Tryz.prog [(163,QT),(175,Qiu),(113,cSL),(176,Qy9),(177,Qy5)] false (fun _=>false) true (fun _=>false)) (Qd (E:=E0) (.cons Qby (.cons QqB (.cons QzJ (.cons QCm (.cons QAP .nil)))))) (fn:=Tryz.f116) Tryz.func116 kR rfl Qc kR rfl ?_
 intro args p rs ms hr;unfold Qw4 at hr;dsimp only at hr;split at hr;rotate_left
 ·cases hr
 rename_i n l;cases hr;refine⟨rfl,rfl,nLe rfl,?_⟩
 have hm:=mxE;rintro⟨h1,hn1,hn2⟩ bs;obtain⟨ds,rfl,hx⟩:=h1.ex;clear h1;rw[Qh];unfold QzI;cases hv:QJ n ds
 ·(repeat' first|refine gA fun _=>?_|apply fkI<;>intro hb<;>try simp only[ew,hv]at hb|simp only[go_sem,simprocAttr, *,hv])
  all_goals first|rfl|skip
 ·obtain⟨k1,k2,k3⟩:=Qcl (@QcC n ds).1
  obtain⟨s1,s2,s3⟩:=Qcl (@Qma n ds);obtain⟨d1,d2,d3⟩:=Qcl (@Qlj n ds);rw[if_pos rfl];generalize hK:Qc1 n ds=K at k1 k2 k3 ⊢;generalize hS:Qrk n ds=S at s1 s2 s3 ⊢;generalize hD:QpX n ds=D at d1 d2 d3 ⊢;(repeat' first|refine gA fun _=>?_|apply fkI<;>intro hb<;>try simp only[ew,hv,hK,hS,hD,Qeo,Qdt,Qde,Qe]at hb|simp only[go_sem,simprocAttr, *,hv,Qeo,Qdt,Qde,Qe])
  all_goals first|rfl|skip
theorem QCa:Qa E0 87 Qw4:=by
 refine QG (E:=E0) (T:=mkT Tryz.prog [(126,QT),(131,Qiu),(14,cSL),(132,Qy9),(133,Qy5)] false (fun _=>false) true (fun _=>false)) (Qd (E:=E0) (.cons Qbz (.cons QqC (.cons QzK (.cons QCo (.cons QAQ .nil)))))) (fn:=Tryz.f87) Tryz.func87 kR rfl Qc kR rfl ?_
 intro args p rs ms hr;unfold Qw4 at hr;dsimp only at hr;split at hr;rotate_left
 ·cases hr
 rename_i n l;cases hr;refine⟨rfl,rfl,nLe rfl,?_⟩
 have hm:=mxE;rintro⟨h1,hn1,hn2⟩ bs;obtain⟨ds,rfl,hx⟩:=h1.ex;clear h1;rw[Qh];unfold QzI;cases hv:QJ n ds
 ·(repeat' first|refine gA fun _=>?_|apply fkI<;>intro hb<;>try simp only[ew,hv]at hb|simp only[go_sem,simprocAttr, *,hv])
  all_goals first|rfl|skip
 ·obtain⟨k1,k2,k3⟩:=Qcl (@QcC n ds).1
  obtain⟨s1,s2,s3⟩:=Qcl (@Qma n ds);obtain⟨d1,d2,d3⟩:=Qcl (@Qlj n ds);rw[if_pos rfl];generalize hK:Qc1 n ds=K at k1 k2 k3 ⊢;generalize hS:Qrk n ds=S at s1 s2 s3 ⊢;generalize hD:QpX n ds=D at d1 d2 d3 ⊢;(repeat' first|refine gA fun _=>?_|apply fkI<;>intro hb<;>try simp only[ew,hv,hK,hS,hD,Qeo,Qdt,Qde,Qe]at hb|simp only[go_sem,simprocAttr, *,hv,Qeo,Qdt,Qde,Qe])
  all_goals first|rfl|skip
end Go.Own
namespace Go.Own
open Go Go.Proofs
attribute [local go_sem] Qy6 cFA cFD Tryz.results110 Tryz.results85 Qa1 Qz QbD QbT Qfc Qht Qez QcJ Qh Qg Qae Qag Qaf Qaj Qa7 Qd1 Qv Qv8 Qkl Qt7 QpU QEh Qa1 Qz QbD QbT
theorem Qgx:ByteArray.size ⟨#[32,98,121,32]⟩=4:=rfl
theorem Qdk:ByteArray.size ⟨#[32,103,105,118,101,115,32]⟩=7:=rfl
def lnB(ds:List (Int×Int))(s:Int×Int×Int):ByteArray:=(((fa s.2.1++⟨#[32,98,121,32]⟩)++fd (ds.getD s.1.toNat (0,0)))++⟨#[32,103,105,118,101,115,32]⟩)++fa s.2.2
def QnY(n:Int)(ds:List (Int×Int))(a b:Int):List ByteArray:=(drL n ds a b).map (lnB ds)
theorem Quo{q:Int×Int}:(fd q).size≤11:=by
 have s1:=@QaP q.1
 have s2:=@QaP (1*2^q.2.toNat)
 unfold fd;split
 ·rw[Qe,Qe,Qfp];omega
 ·exact KJ _
theorem QiO{n:Int}{ds:List (Int×Int)}{a b:Int}:(drL n ds a b).length≤6∧∀i,i<(drL n ds a b).length→0≤((drL n ds a b).getD i (0,0,0)).1∧((drL n ds a b).getD i (0,0,0)).1<ds.length:=by
 unfold drL;split
 ·rename_i hv
  simp only[Qkz,KB]at hv
  have hd:=QaE hv.1.1
  obtain⟨h1,h2⟩:=Qln (k:=6) (r:=b) hd (Qaz hv.1.2).1;exact⟨h1,fun i hi=>(h2 _ (QE hi (0,0,0))).1⟩
 ·simp
theorem QoH{n:Int}{ds:List (Int×Int)}{a b:Int}:(QnY n ds a b).length≤6:=by
 unfold QnY;rw[KV];exact QiO.1
def QwX:Qb:=⟨[],false,fun
 | [.one (.v (.int .i64 n)),.one (.sl 2 l),.agg [.v (.int .i64 a),.v (.int .i64 b)]]=>some (WfD l∧ -9223372036854775808≤n∧n≤9223372036854775807,
   [⟨false,[.own 1 (tL (QnY n (unD l) a b)) 1]⟩],[])
 | _=>none⟩
attribute [local go_sem] QwX
theorem QAV:Qa E0 110 QwX:=by
 refine QG (E:=E0) (T:=mkT Tryz.prog [(165,Qy6),(146,cFA),(106,cFD)] false (fun _=>false) true (fun _=>false)) (Qd (E:=E0) (.cons Qr4 (.cons Qqd (.cons Qqe .nil)))) (fn:=Tryz.f110) Tryz.func110 kR rfl Qc kR rfl ?_
 intro args p rs ms hr;unfold QwX at hr;dsimp only at hr;split at hr;rotate_left
 ·cases hr
 rename_i n l a b;cases hr;refine⟨rfl,rfl,nLe rfl,?_⟩
 have hm:=mxE;rintro⟨h1,hn1,hn2⟩ bs;obtain⟨ds,rfl,hx⟩:=h1.ex;clear h1;rw[Qh];unfold QnY;obtain⟨f6,fdd⟩:=@QiO n ds a b;(repeat' first|refine gA fun _=>?_|apply fkI<;>intro hb<;>try simp only[ew]at hb|simp only[go_sem,simprocAttr, *])
 generalize hF:drL n ds a b=F at f6 fdd ⊢;clear hF;refine lpI {ι:=Nat,rs:=[(11,12),(23,46)],mods:=[(22,fun i=> .one (.d (.v (.int .i64 i)))),(7,fun i=> .one (.own 1 (tL ((F.take i).map (lnB ds))) 1))],boxes:=[],arrs:=[(8,fun _=>(3,d3L F,1))],alis:=[(20,8)],ok:=fun i=>i≤F.length,mu:=fun i=>F.length-i} rfl 0 (KJ _) ?_ fun i hi=>?_
 ·exact gQ
 ·dsimp only at i hi
  by_cases h5:i<F.length
  ·have e2:(F.take (i+1)).map (lnB ds)=(F.take i).map (lnB ds)++[lnB ds (F.getD i (0,0,0))]:=by rw[Qf h5 (0,0,0)];simp
   obtain⟨p0,p1⟩:=fdd i h5;clear fdd;cases hq:F.getD i (0,0,0)with
   | mk q1 q=>
    cases q with
    | mk q2 q3=>
     rw[hq]at p0 p1 e2;dsimp only at p0 p1;obtain⟨q1,rfl⟩:=KL p0;have p1:q1<ds.length:=by omega
     clear p0;have e3:lnB ds ((q1:Int),q2,q3)=(((fa q2++⟨#[32,98,121,32]⟩)++fd (ds.getD q1 (0,0)))++⟨#[32,103,105,118,101,115,32]⟩)++fa q3:=by unfold lnB;dsimp only;rw[KE]
     rw[e3]at e2;clear e3;have s1:=@QaP q2
     have s2:=@QaP q3
     have s3:=@Quo (ds.getD q1 (0,0))
     (repeat' first|refine gA fun _=>?_|apply fkI<;>intro hb<;>try simp only[ew,hq,Qgx,Qdk,Qe,KV]at hb|simp only[go_sem,simprocAttr, *,hq,Qgx,Qdk,Qe,KV])
     refine lpQ (i+1) ?_
     clear s1 s2 s3;(repeat' first|refine gA fun _=>?_|apply fkI<;>intro hb<;>try simp only[ew,hq,e2]at hb|simp only[go_sem,simprocAttr, *,hq])
  ·have e5:i=F.length:=by omega
   subst e5;have e6:F.take F.length=F:=KR
   clear fdd;(repeat' first|refine gA fun _=>?_|apply fkI<;>intro hb<;>try simp only[ew,e6]at hb|simp only[go_sem,simprocAttr, *])
   all_goals first|rfl|skip
theorem QAW:Qa E0 85 QwX:=by
 refine QG (E:=E0) (T:=mkT Tryz.prog [(128,Qy6),(23,cFA),(26,cFD)] false (fun _=>false) true (fun _=>false)) (Qd (E:=E0) (.cons Qr5 (.cons QmY (.cons Qqf .nil)))) (fn:=Tryz.f85) Tryz.func85 kR rfl Qc kR rfl ?_
 intro args p rs ms hr;unfold QwX at hr;dsimp only at hr;split at hr;rotate_left
 ·cases hr
 rename_i n l a b;cases hr;refine⟨rfl,rfl,nLe rfl,?_⟩
 have hm:=mxE;rintro⟨h1,hn1,hn2⟩ bs;obtain⟨ds,rfl,hx⟩:=h1.ex;clear h1;rw[Qh];unfold QnY;obtain⟨f6,fdd⟩:=@QiO n ds a b;(repeat' first|refine gA fun _=>?_|apply fkI<;>intro hb<;>try simp only[ew]at hb|simp only[go_sem,simprocAttr, *])
 generalize hF:drL n ds a b=F at f6 fdd ⊢;clear hF;refine lpI {ι:=Nat,rs:=[(19,53)],mods:=[(10,fun i=> .one (.d (.v (.int .i64 i)))),(7,fun i=> .one (.own 1 (tL ((F.take i).map (lnB ds))) 1))],boxes:=[],arrs:=[(8,fun _=>(3,d3L F,1))],ok:=fun i=>i≤F.length,mu:=fun i=>F.length-i} rfl 0 (KJ _) ?_ fun i hi=>?_
 ·exact gQ
 ·dsimp only at i hi
  by_cases h5:i<F.length
  ·have e2:(F.take (i+1)).map (lnB ds)=(F.take i).map (lnB ds)++[lnB ds (F.getD i (0,0,0))]:=by rw[Qf h5 (0,0,0)];simp
   obtain⟨p0,p1⟩:=fdd i h5;clear fdd;cases hq:F.getD i (0,0,0)with
   | mk q1 q=>
    cases q with
    | mk q2 q3=>
     rw[hq]at p0 p1 e2;dsimp only at p0 p1;obtain⟨q1,rfl⟩:=KL p0;have p1:q1<ds.length:=by omega
     clear p0;have e3:lnB ds ((q1:Int),q2,q3)=(((fa q2++⟨#[32,98,121,32]⟩)++fd (ds.getD q1 (0,0)))++⟨#[32,103,105,118,101,115,32]⟩)++fa q3:=by unfold lnB;dsimp only;rw[KE]
     rw[e3]at e2;clear e3;have s1:=@QaP q2
     have s2:=@QaP q3
     have s3:=@Quo (ds.getD q1 (0,0))
     (repeat' first|refine gA fun _=>?_|apply fkI<;>intro hb<;>try simp only[ew,hq,Qgx,Qdk,Qe,KV]at hb|simp only[go_sem,simprocAttr, *,hq,Qgx,Qdk,Qe,KV])
     refine lpQ (i+1) ?_
     clear s1 s2 s3;(repeat' first|refine gA fun _=>?_|apply fkI<;>intro hb<;>try simp only[ew,hq,e2]at hb|simp only[go_sem,simprocAttr, *,hq])
  ·have e5:i=F.length:=by omega
   subst e5;have e6:F.take F.length=F:=KR
   clear fdd;(repeat' first|refine gA fun _=>?_|apply fkI<;>intro hb<;>try simp only[ew,e6]at hb|simp only[go_sem,simprocAttr, *])
   all_goals first|rfl|skip
end Go.Own
