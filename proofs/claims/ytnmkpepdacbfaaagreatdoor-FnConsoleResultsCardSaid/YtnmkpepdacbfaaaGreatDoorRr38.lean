/- Own contracts. Conditions: as each theorem states them. -/
import Derived.Shelf.Strings.OnBuilder
import Derived.Test.YtnmkpepdacbfaaaGreatDoorRr06
set_option linter.unusedSimpArgs false
set_option linter.unusedVariables false
set_option maxRecDepth 20000
set_option maxHeartbeats 2000000
namespace Go.Proofs
open Go.Shelf
def Tryz.lays156_ren:Go.Shelf.Ren:=⟨fun|156=>111|165=>166|166=>167|169=>168|240=>203|241=>204|276=>223|277=>224|n=>n,fun|31=>30|9=>9|3=>3|4=>4|0=>0|20=>20|72=>151|76=>118|70=>149|37=>24|75=>117|127=>165|164=>189|5=>5|80=>153|n=>n,fun|n=>n⟩
theorem Tryz.lays156:Go.Proofs.Lays.n156 Tryz.prog Tryz.lays156_ren:={
 mixed:=by kernel_rfl
 f156:=Tryz.func111.trans (congrArg some (by kernel_rfl))
 f165:=Tryz.func166.trans (congrArg some (by kernel_rfl))
 f166:=Tryz.func167.trans (congrArg some (by kernel_rfl))
 f169:=Tryz.func168.trans (congrArg some (by kernel_rfl))
 f240:=Tryz.func203.trans (congrArg some (by kernel_rfl))
 f241:=Tryz.func204.trans (congrArg some (by kernel_rfl))
 f276:=Tryz.func223.trans (congrArg some (by kernel_rfl))
 f277:=Tryz.func224.trans (congrArg some (by kernel_rfl))
 t0:=Tryz.underlying0
 a0:=Tryz.isAgg0
 z0:=Tryz.sizeOf0
 v0:=Tryz.zeroValue0
 t3:=Tryz.underlying3
 a3:=Tryz.isAgg3
 z3:=Tryz.sizeOf3
 v3:=Tryz.zeroValue3
 t4:=Tryz.underlying4
 a4:=Tryz.isAgg4
 z4:=Tryz.sizeOf4
 v4:=Tryz.zeroValue4
 t9:=Tryz.underlying9
 a9:=Tryz.isAgg9
 z9:=Tryz.sizeOf9
 v9:=Tryz.zeroValue9
 t20:=Tryz.underlying20
 a20:=Tryz.isAgg20
 z20:=Tryz.sizeOf20
 v20:=Tryz.zeroValue20
 t31:=Tryz.underlying30
 a31:=Tryz.isAgg30
 z31:=Tryz.sizeOf30
 v31:=Tryz.zeroValue30
 t37:=Tryz.underlying24
 a37:=Tryz.isAgg24
 z37:=Tryz.sizeOf24
 v37:=Tryz.zeroValue24
 t70:=Tryz.underlying149
 a70:=Tryz.isAgg149
 z70:=Tryz.sizeOf149
 v70:=Tryz.zeroValue149
 t72:=Tryz.underlying151
 a72:=Tryz.isAgg151
 z72:=Tryz.sizeOf151
 v72:=Tryz.zeroValue151
 t75:=Tryz.underlying117
 a75:=Tryz.isAgg117
 z75:=Tryz.sizeOf117
 v75:=Tryz.zeroValue117
 t76:=Tryz.underlying118
 a76:=Tryz.isAgg118
 z76:=Tryz.sizeOf118
 v76:=Tryz.zeroValue118
 t127:=Tryz.underlying165
 a127:=Tryz.isAgg165
 z127:=Tryz.sizeOf165
 v127:=Tryz.zeroValue165
 t164:=Tryz.underlying189
 a164:=Tryz.isAgg189
 z164:=Tryz.sizeOf189
 v164:=Tryz.zeroValue189}
theorem Tryz.Builder_Extra_156:Builder.Extra Tryz.prog Tryz.lays156_ren:={
 sizeBuilder:=by kernel_rfl
 liesBuilder:=by kernel_rfl
 t5:=Tryz.underlying5
 a5:=Tryz.isAgg5
 z5:=Tryz.sizeOf5
 v5:=Tryz.zeroValue5
 infoByte:=by kernel_rfl
 cellsByte:=by kernel_rfl
 sizeByte:=by kernel_rfl
 neB5:=by decide}
open Go.RowKit in
theorem Tryz.strings_Join_none(a:Option Addr)(c:Nat)(sep:ByteArray)(w:World):
  Calls Tryz.prog 111 #[.slice a 0 c,.string sep] w fun e w'=>e= .returned (.string ⟨#[]⟩)∧w'=w:=Any.strings_Join_none Tryz.lays156 Tryz.Builder_Extra_156 a c sep w
open Go.RowKit in
theorem Tryz.strings_Join(bk o c:Nat)(xs:List ByteArray)(sep:ByteArray)(w:World)(hcells:∀(j:Nat) x,xs[j]? =some x→w.cell? ⟨bk,o+j,none⟩=some (.string x))(hbk:bk<w.heap.size)(hN:xs.length≤140737488355328)(hcap:xs.length≤c)(hlen:(Lib.join (xs.map (·.data.toList)) sep.data.toList).length≤140737488355328):
  Calls Tryz.prog 111 #[.slice (some ⟨bk,o,none⟩) xs.length c,.string sep] w fun e w'=>e= .returned (.string ⟨(Lib.join (xs.map (·.data.toList)) sep.data.toList).toArray⟩)∧Below w.heap.size w w':=Any.strings_Join Tryz.lays156 Tryz.Builder_Extra_156 bk o c xs sep w hcells hbk hN hcap hlen
end Go.Proofs

namespace Go.Own
open Go Go.Proofs
attribute [local go_sem] cFA Tryz.results113 Tryz.results14
attribute [local go_sem] QbP Qab QcO
attribute [local go_sem] QbP Qab QcO Qbp Qz Qbm Qcu
def jb(sep:ByteArray)(ss:List ByteArray):ByteArray:=⟨(Lib.join (ss.map (·.data.toList)) sep.data.toList).toArray⟩
theorem QAh{sep:ByteArray}:jb sep []=⟨#[]⟩:=rfl
theorem QAi{sep s:ByteArray}:jb sep [s]=s:=Qa8 (show Lib.join [s.data.toList] sep.data.toList=s.data.toList from Lib.join_one _ _)
theorem Qjn(sep:List UInt8)(r:List (List UInt8))(y:List UInt8):Lib.joinTail sep (r++[y])=Lib.joinTail sep r++(sep++y):=by
 unfold Lib.joinTail;rw[List.map_append,List.flatten_append,List.map_cons,List.map_nil,List.flatten_cons,List.flatten_nil,List.append_nil]
theorem Qrw{sep:ByteArray}{ss:List ByteArray}:(jb sep ss).data.toList=Lib.join (ss.map (·.data.toList)) sep.data.toList:=rfl
theorem QxU{sep s:ByteArray}{ss:List ByteArray}(h:ss≠[]):jb sep (ss++[s])=(jb sep ss++sep)++s:=by
 cases ss with
 | nil=>exact absurd rfl h
 | cons x r=>
  apply Qa8
  rw[Qav,Qav,Qrw,Qrw,List.cons_append,List.map_cons,List.map_cons,Lib.join_cons,Lib.join_cons,List.map_append,List.map_cons,List.map_nil,Qjn];simp only[List.append_assoc]
theorem Qjl{sep:ByteArray}{B:Nat}:∀{ss:List ByteArray},(∀s∈ss,s.size≤B)→(jb sep ss).size≤ss.length*(B+sep.size)
 | [],_=>Nat.zero_le _
 | x::r,h=>by
  have e:(jb sep (x::r)).size=x.size+(Lib.joinTail sep.data.toList (r.map (·.data.toList))).length:=by
   simp only[jb,List.map_cons,Lib.join_cons,ByteArray.size,List.size_toArray,List.length_append,Array.length_toList]
  have t:∀r:List ByteArray,(∀s∈r,s.size≤B)→(Lib.joinTail sep.data.toList (r.map (·.data.toList))).length≤r.length*(B+sep.size):=by
   intro r;induction r with
   | nil=>intro _;simp[Lib.joinTail]
   | cons y r ih=>
    intro h;have h1:=h y (by simp)
    have h2:=ih fun s hs=>h s (by simp[hs])
    simp only[Lib.joinTail,List.map_cons,List.flatten_cons,List.length_append,Array.length_toList]at h2 ⊢
    have e1:sep.data.size=sep.size:=rfl
    have e2:y.data.size=y.size:=rfl
    rw[e1,e2,List.length_cons,Nat.succ_mul];omega
  have h1:=h x (by simp)
  have h2:=t r fun s hs=>h s (by simp[hs])
  rw[e,List.length_cons,Nat.succ_mul];omega
def Qkf:Qb:=⟨[],false,fun
 | [.one (.sl 1 l),.one (.v (.string sep))]=>some (WfL l∧l.length≤16777216∧(jb sep (unT l)).size≤140737488355328,[⟨false,[.d (.v (.string (jb sep (unT l))))]⟩],[])
 | _=>none⟩
attribute [local go_sem] Qkf
theorem Qob{h:QT}:∀{ss:List ByteArray} {vs:List Value} {G:List Nat},QaS h (tL ss).flatten vs G→vs=ss.map Value.string
 | [],vs,G,r=>by cases r;rfl
 | s::ss,vs,G,r=>by
  simp only[tL,List.map_cons,List.flatten_cons,List.cons_append,List.nil_append]at r
  cases r with
  | v _ r=>rw[Qob r];rfl
theorem Ql3:Qa E0 111 Qkf:=by
 refine⟨⟨Tryz.f111,Tryz.func111,by kernel_rfl,rfl⟩,?_⟩
 intro args p rs ms hr hp w vals F Ms ha hnd hF hJ hN hMN;unfold Qkf at hr;dsimp only at hr;split at hr
 ·rename_i l sep
  cases hr;obtain⟨hl,hlen,hsz⟩:=hp;cases ha with
  | cons h1 h2=>
   cases h2 with
   | cons h2 h3=>
    cases h3
    cases h1 with
    | one r1=>
     cases h2 with
     | one r2=>
      cases r2 with
      | v _ r2=>
       cases r2
       have fin:∀{e:Ending} {w':World} {s:ByteArray},e= .returned (.string s)→s=jb sep (unT l)→Go.RowKit.Below w.heap.size w w'→∃v,e= .returned v∧∀F' Ms',QfU false w w' F' Ms' [] [⟨false,[.d (.v (.string (jb sep (unT l))))]⟩] [] v:=fun {e w' s} he hs hb=>by
        subst he hs;refine⟨_,rfl,fun F' Ms'=>⟨hb.os,hb.tape,hb.output,hb.size,fun b h1 _=>hb.block b h1,[],[],[],[],?_,.nil,by simp,by simp,by simp,by simp,by simp⟩⟩
        exact(by simpa using Qat.d (.v rfl .nil) .nil:Qat w'.heap [.d (.v (.string (jb sep (unT l))))] [.string (jb sep (unT l))] [] [])
       rcases r1.sl_inv with⟨a0,rfl,rfl,rfl⟩|⟨b,off,cap,c,e,fz,G,rfl,a1,a2,a3,a4,a5,a6,rfl⟩
       ·refine(Tryz.strings_Join_none a0 0 sep w).mono ?_
        rintro e w' ⟨he,rfl⟩;obtain⟨v,h1,h2⟩:=fin (s:=⟨#[]⟩) he rfl (Go.RowKit.Below.refl _ _);exact⟨v,h1,h2 _ _⟩
       ·have hl2:=hl.1
        rw[hl2]at a6;have hcs:=Qob a6
        have e1:(tL (unT l)).length=l.length:=by rw[←hl2]
        have e2:(unT l).length=l.length:=by rw[←e1,Qz]
        rw[e1,Nat.mul_one]at hcs;have:=Tryz.strings_Join b off cap (unT l) sep w (fun j x hx=>by
         have hj:j<(unT l).length:=(List.getElem?_eq_some_iff.1 hx).1
         have h3:((c.toList.drop off).take l.length)[j]? =some (.string x):=by rw[hcs,List.getElem?_map,hx];rfl
         rw[List.getElem?_take_of_lt (by omega),List.getElem?_drop]at h3
         rw[Qby rfl a1];simpa using h3) (Array.getElem?_eq_some_iff.1 a1).1 (by omega) (by omega) (by
          have:(Lib.join ((unT l).map (·.data.toList)) sep.data.toList).length=(jb sep (unT l)).size:=by simp[jb,ByteArray.size]
          rw[this];exact hsz)
        rw[e2]at this;refine this.mono ?_
        rintro e w' ⟨he,hb⟩;obtain⟨v,h1,h2⟩:=fin he rfl hb;exact⟨v,h1,h2 _ _⟩
 ·cases hr
def slL(xs:List Int):ByteArray:=if xs=[]then⟨#[110,111,116,104,105,110,103]⟩else jb ⟨#[32]⟩ (xs.map fa)
def cSL:Qb:=⟨[],false,fun
 | [.one (.sl 1 l)]=>some (WfI l∧l.length≤1048576,[⟨false,[.d (.v (.string (slL (unI l))))]⟩],[])
 | _=>none⟩
attribute [local go_sem] cSL
theorem QeP{xs:List Int}:(jb ⟨#[32]⟩ (xs.map fa)).size≤xs.length*6:=by
 have:=Qjl (sep:=⟨#[32]⟩) (B:=5) (ss:=xs.map fa) (fun s hs=>by obtain⟨x,_,rfl⟩:=List.mem_map.1 hs;exact QaM)
 rw[List.length_map]at this;exact this
theorem Qwq:Qa E0 113 cSL:=by
 refine QV (E:=E0) (T:=mkT Tryz.prog [(146,cFA),(111,Qkf)] false (fun _=>false) true (fun _=>false)) (Qf (E:=E0) (.cons Qnc (.cons Ql3 .nil))) (fn:=Tryz.f113) Tryz.func113 (by kernel_rfl) rfl Qe (by kernel_rfl) rfl ?_
 intro args p rs ms hr;unfold cSL at hr;dsimp only at hr;split at hr;rotate_left
 ·cases hr
 rename_i l;cases hr;refine⟨rfl,rfl,nLe rfl,?_⟩
 have hm:=mxE;rintro⟨h1,h2⟩ bs;obtain⟨xs,rfl,hx⟩:=h1.ex;clear h1;rw[Qo]at h2;rw[Qay]
 by_cases h0:xs=[]
 ·subst h0
  (repeat' first|refine gA fun _=>?_|apply fkI<;>intro hb<;>try simp only[ew]at hb|simp only[go_sem,simprocAttr, *])
  all_goals first|rfl|(simp[iL]at *;done)|skip
 ·have e:slL xs=jb ⟨#[32]⟩ (xs.map fa):=by unfold slL;rw[if_neg h0]
  have e0:((xs.length:Int)==0)=false:=by
   have:xs.length≠0:=fun h=>h0 (List.eq_nil_of_length_eq_zero h)
   rw[beq_eq_false_iff_ne];omega
  rw[e];clear e;(repeat' first|refine gA fun _=>?_|apply fkI<;>intro hb<;>try simp only[ew]at hb|simp only[go_sem,simprocAttr, *])
  refine lpI {ι:=Nat,rs:=[(5,6),(13,22)],mods:=[(12,fun i=> .one (.d (.v (.int .i64 i)))),(3,fun i=> .one (.own 1 (tL ((xs.take i).map fa)) 1))],boxes:=[],arrs:=[],ok:=fun i=>i≤xs.length,mu:=fun i=>xs.length-i} rfl 0 (Nat.zero_le _) ?_ fun i hi=>?_
  ·exact gQ
  ·dsimp only at i hi
   have hsz:=@QeP xs
   by_cases h5:i<xs.length
   ·clear hsz
    (repeat' first|refine gA fun _=>?_|apply fkI<;>intro hb<;>try simp only[ew,List.length_map]at hb|simp only[go_sem,simprocAttr, *,List.length_map])
    ·have e2:(xs.take (i+1)).map fa=(xs.take i).map fa++[fa (xs.getD i 0)]:=by rw[Qk h5 0];simp
     refine lpN (i+1) (by dsimp only;omega) (by dsimp only;omega) ?_
     (repeat' first|refine gA fun _=>?_|apply fkI<;>intro hb<;>try simp only[ew,e2]at hb|simp only[go_sem,simprocAttr, *])
   ·have e5:i=xs.length:=by omega
    subst e5;have e6:xs.take xs.length=xs:=List.take_length
    (repeat' first|refine gA fun _=>?_|apply fkI<;>intro hb<;>try simp only[ew,List.length_map,e6]at hb|simp only[go_sem,simprocAttr, *,List.length_map])
theorem Qrx{α:Type}{sep:ByteArray}{f:α→ByteArray}{xs:List α}{i:Nat}{d:α}(h:i<xs.length):
  jb sep ((xs.take (i+1)).map f)=(if i=0 then jb sep ((xs.take i).map f)else jb sep ((xs.take i).map f)++sep)++f (xs.getD i d):=by
 rw[Qk h d,List.map_append,List.map_cons,List.map_nil];split
 ·subst_vars
  rw[List.take_zero,List.map_nil,List.nil_append,QAi,QAh,QqZ]
 ·rw[QxU]
  intro e;rw[List.map_eq_nil_iff,List.take_eq_nil_iff]at e;rcases e with e|e
  ·omega
  ·rw[e]at h;simp at h
theorem QuI{xs:List Int}{i:Nat}:(jb ⟨#[32]⟩ ((xs.take i).map fa)).size≤i*6:=by
 have:=@QeP (xs.take i)
 rw[List.length_take]at this;have h2:min i xs.length*6≤i*6:=Nat.mul_le_mul_right _ (Nat.min_le_left _ _)
 omega
theorem QAU:Qa E0 14 cSL:=by
 refine QV (E:=E0) (T:=mkT Tryz.prog [(23,cFA)] false (fun _=>false) true (fun _=>false)) (Qf (E:=E0) (.cons Qq3 .nil)) (fn:=Tryz.f14) Tryz.func14 (by kernel_rfl) rfl Qe (by kernel_rfl) rfl ?_
 intro args p rs ms hr;unfold cSL at hr;dsimp only at hr;split at hr;rotate_left
 ·cases hr
 rename_i l;cases hr;refine⟨rfl,rfl,nLe rfl,?_⟩
 have hm:=mxE;rintro⟨h1,h2⟩ bs;obtain⟨xs,rfl,hx⟩:=h1.ex;clear h1;rw[Qo]at h2;rw[Qay];(repeat' first|refine gA fun _=>?_|apply fkI<;>intro hb<;>try simp only[ew]at hb|simp only[go_sem,simprocAttr, *])
 refine lpI {ι:=Nat,rs:=[(5,22)],mods:=[(4,fun i=> .one (.d (.v (.int .i64 i)))),(3,fun i=> .one (.d (.v (.string (jb ⟨#[32]⟩ ((xs.take i).map fa))))))],boxes:=[],arrs:=[],ok:=fun i=>i≤xs.length,mu:=fun i=>xs.length-i} rfl 0 (Nat.zero_le _) ?_ fun i hi=>?_
 ·exact gQ
 ·dsimp only at i hi
  have hsz:=@QuI xs i
  have hf:=@QaM (xs.getD i 0)
  by_cases h5:i<xs.length
  ·have hs:=Qrx (sep:=⟨#[32]⟩) (f:=fa) (d:=0) h5
   by_cases h0:i=0
   ·subst h0
    rw[if_pos rfl]at hs;have e0:decide ((0:Int)>0)=false:=by decide
    have z0:(jb ⟨#[32]⟩ []).size=0:=rfl
    rw[List.take_zero,List.map_nil]at hs;rw[Nat.zero_add]at hs;clear hsz;(repeat' first|refine gA fun _=>?_|apply fkI<;>intro hb<;>try simp only[ew,e0,QbK,Qd,z0]at hb|simp only[go_sem,simprocAttr, *,QbK,Qd])
    ·refine lpN 1 (by dsimp only;omega) (by dsimp only;omega) ?_
     clear hf;(repeat' first|refine gA fun _=>?_|apply fkI<;>intro hb<;>try simp only[ew,hs]at hb|simp only[go_sem,simprocAttr, *])
     all_goals first|omega|skip
    all_goals (exfalso;omega)
   ·rw[if_neg h0]at hs
    have e0:decide ((i:Int)>0)=true:=decide_eq_true (by omega)
    (repeat' first|refine gA fun _=>?_|apply fkI<;>intro hb<;>try simp only[ew,e0,QbK,Qd]at hb|simp only[go_sem,simprocAttr, *,QbK,Qd])
    ·refine lpN (i+1) (by dsimp only;omega) (by dsimp only;omega) ?_
     clear hsz hf e0;(repeat' first|refine gA fun _=>?_|apply fkI<;>intro hb<;>try simp only[ew,hs]at hb|simp only[go_sem,simprocAttr, *])
    all_goals (exfalso;omega)
  ·have e5:i=xs.length:=by omega
   subst e5;have e6:xs.take xs.length=xs:=List.take_length
   clear hsz hf;(repeat' first|refine gA fun _=>?_|apply fkI<;>intro hb<;>try simp only[ew,e6]at hb|simp only[go_sem,simprocAttr, *])
   ·have h0:xs=[]:=List.eq_nil_of_length_eq_zero (by omega)
    unfold slL;rw[if_pos h0]
   ·have h0:¬xs=[]:=fun e=>‹¬(xs.length:Int)=0› (by rw[e];rfl)
    unfold slL;rw[if_neg h0]
theorem Qvk{xs:List Int}:(slL xs).size≤xs.length*6+7:=by
 unfold slL;split
 ·show 7≤_;omega
 ·have:=@QeP xs;omega
end Go.Own
