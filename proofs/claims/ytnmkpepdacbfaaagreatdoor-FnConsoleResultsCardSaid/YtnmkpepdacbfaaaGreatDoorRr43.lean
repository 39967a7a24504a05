/- Own contracts. Conditions: as each theorem states them. -/
import Derived.Test.YtnmkpepdacbfaaaGreatDoorRr42
import Derived.BigCall
import Derived.BigGuard
import Derived.Below
import Derived.Lib.AtoiErrMem
import Derived.Lib.AtoiAllCases
set_option linter.unusedSimpArgs false
set_option linter.unusedVariables false
set_option maxRecDepth 100000
set_option maxHeartbeats 4000000
namespace Go.Own
open Go Go.Proofs Go.RowKit
theorem Qsq{h:QT}{x:Value}(hx:x.oneCell'=true):QmD h ⟨false,[.d (.v x)]⟩ x [] []:=by
 have:Qat h [.d (.v x)] [x] ([]++[]) []:= .d (.v hx .nil) .nil
 simpa [QmD]using this
theorem QiM{w w':World}{F:List Nat}{rs:List RV}{v:Value}{al:Bool}(hb:Below w.heap.size w w')(hr:QbL w'.heap rs v [] []):QfU al w w' F [] [] rs [] v:=
 ⟨hb.os,hb.tape,hb.output,hb.size,fun b h _=>hb.block b h,[],[],[],[],hr,.nil,by simp,by simp,by simp,by simp,by simp,by simp⟩
def QBv(s sep:ByteArray):ByteArray:=⟨(Lib.cut s.data.toList sep.data.toList).1.toArray⟩
def QBw(s sep:ByteArray):ByteArray:=⟨(Lib.cut s.data.toList sep.data.toList).2.1.toArray⟩
def QBx(s sep:ByteArray):Bool:=(Lib.cut s.data.toList sep.data.toList).2.2
def QBg:Qb:=⟨[],false,fun
 | [.one (.v (.string s)),.one (.v (.string sep))]=>some (s.size<4294967281,[⟨false,[.d (.v (.string (QBv s sep)))]⟩,⟨false,[.d (.v (.string (QBw s sep)))]⟩,⟨false,[.d (.v (.bool (QBx s sep)))]⟩],[])
 | _=>none⟩
theorem QzU:Qa E0 104 QBg:=by
 refine⟨⟨Tryz.f104,Tryz.func104,by kernel_rfl,rfl⟩,?_⟩
 intro args p rs ms hr hp w vals F Ms ha hnd hF hJ hN hMN;unfold QBg at hr;dsimp only at hr;split at hr
 ·rename_i s sep
  cases hr;cases ha with
  | cons g1 g2=>
   cases g2 with
   | cons g2 g3=>
    cases g3
    cases g1 with
    | one r1=>
     cases r1 with
     | v _ r1=>
      cases r1
      cases g2 with
      | one r2=>
       cases r2 with
       | v _ r2=>
        cases r2
        obtain⟨m,hm⟩:=QCm hJ;refine(Any.strings_Cut Tryz.lays145 s sep m w hp hm).mono ?_
        rintro e w' ⟨rfl,n,rfl⟩;exact⟨_,rfl,QiM ⟨rfl,rfl,rfl,Nat.le_refl _,fun _ _=>rfl⟩ ⟨_,rfl,.cons (Qsq rfl) (.cons (Qsq rfl) (.cons (Qsq rfl) .nil))⟩⟩
 ·cases hr
theorem QoR(n:Int)(h0: -9223372036854775808≤n)(h1:n≤9223372036854775807)(w:World)(htab:Lib.TabIs Tryz.prog w "internal/strconv.uint64pow10" .u64 Lib.pow10Tab):
  Calls Tryz.prog 99 #[.int .i64 n] w fun e w'=>e= .returned (.string (QuY n))∧Below w.heap.size w w':=by
 go_enter Tryz.func99,Tryz.ntmps99
 go_wp2_with (go_at_call 152;refine(Any.strconv_Itoa Tryz.layIM n h0 h1 _ htab).mono ?_;rintro e w' ⟨rfl,k,os,rfl⟩)
 go_ret
 refine⟨rfl,rfl,rfl,rfl,?_,fun b hb=>?_⟩
 ·simp[Go.Sort.grow]
 ·show(w.heap++os)[b]? =_
  rw[Array.getElem?_append_left hb]
theorem Qu6(s:ByteArray)(hlim:s.size≤1073741824)(w:World)(hJ:E0.J w.heap)(hN:E0.N≤w.heap.size):
  Calls Tryz.prog 55 #[.string s] w fun e w'=>e= .returned (.tuple #[.int .i64 (spF s.data.toList).1,.bool (spF s.data.toList).2])∧Below w.heap.size w w':=by
 have hsp:=@Qvo s.data.toList
 obtain⟨ev0,hv0,he0⟩:=QBA hJ;obtain⟨ev1,hv1,he1⟩:=QBz hJ;cases h:Lib.atoiAll s.data.toList with
 | ok v=>
  rw[h]at hsp;dsimp only at hsp;obtain⟨vb0,vb1⟩:=Lib.atoiAll_bounds h;have htab:∀W:World,Below w.heap.size w W→Lib.TabIs Tryz.prog W "internal/strconv.uint64pow10" .u64 Lib.pow10Tab:=fun W hW=>Qoe (by kernel_rfl) (Low.tab (E0.st _ _ hJ fun b hb=>hW.block b (Nat.lt_of_lt_of_le hb hN)))
  generalize spF s.data.toList=F at hsp ⊢;have HS:Go.RowKit.Hid (F=if Lib.itoa v=s.data.toList∧ -999999999≤v∧v≤999999999 then(v,true)else(0,false)):=hsp
  clear hsp;go_enter Tryz.func55,Tryz.ntmps55
  go_wp2_with (go_at_call 98;refine(Any.strconv_Atoi_ok Tryz.layAt s (by omega) v h _).mono ?_)
  rintro e W1 ⟨rfl,hW⟩;have hb1:Below w.heap.size w W1:=by
   rcases hW with rfl|⟨t,rfl⟩
   ·exact Below.refl _ _
   ·exact Lib.bytesWorld_below _ _ _
  clear hW;go_wp2_with (go_at_call 99;refine(QoR v vb0 vb1 _ ?_).mono ?_)
  ·exact htab _ hb1
  rintro e W2 ⟨rfl,hb2⟩;have hb3:Go.RowKit.Hid (Below w.heap.size w W2):=hb1.trans (hb2.mono hb1.size)
  clear hb1 hb2 htab h;have hnw:=@Qu0 v s
  by_cases h1:Lib.itoa v=s.data.toList
  ·rw[decide_eq_true h1]at hnw
   by_cases h2:v< -999999999
   ·have e:F=(0,false):=HS.out.trans (if_neg (by omega))
    subst e;clear h1 HS;go_wp2
    go_ret2
    exact⟨rfl,hb3⟩
   ·by_cases h3:v>999999999
    ·have e:F=(0,false):=HS.out.trans (if_neg (by omega))
     subst e;clear h1 HS;go_wp2
     go_ret2
     exact⟨rfl,hb3⟩
    ·have e:F=(v,true):=HS.out.trans (if_pos ⟨h1,by omega,by omega⟩)
     subst e;clear h1 HS;go_wp2
     go_ret2
     exact⟨rfl,hb3⟩
  ·rw[decide_eq_false h1]at hnw
   have hnl:¬(QuY v).toList=s.toList:=fun q=>by rw[beq_eq_false_iff_ne]at hnw;exact hnw q
   have e:F=(0,false):=HS.out.trans (if_neg fun q=>h1 q.1)
   subst e;clear h1 HS;go_wp2
   go_ret2
   exact⟨rfl,hb3⟩
 | range=>
  rw[h]at hsp;dsimp only at hsp;rw[hsp];clear hsp;go_enter Tryz.func55,Tryz.ntmps55
  go_wp2_with (go_at_call 98;refine(Any.strconv_Atoi_range Tryz.layAt s (by omega) h ev1 _ ?_ he1).mono ?_)
  ·exact hv1
  rintro e W1 ⟨N,rfl,-,-,hb⟩;go_wp2
  go_ret2
  exact⟨rfl,hb⟩
 | _=>
  rw[h]at hsp;dsimp only at hsp;rw[hsp];clear hsp;go_enter Tryz.func55,Tryz.ntmps55
  go_wp2_with (go_at_call 98;refine(Any.strconv_Atoi_syntax Tryz.layAt s (by omega) h ev0 _ ?_ he0).mono ?_)
  ·exact hv0
  rintro e W1 ⟨N,rfl,-,-,hb⟩;go_wp2
  go_ret2
  exact⟨rfl,hb⟩
theorem QnW:Qa E0 55 cPI:=by
 refine⟨⟨Tryz.f55,Tryz.func55,by kernel_rfl,rfl⟩,?_⟩
 intro args p rs ms hr hp w vals F Ms ha hnd hF hJ hN hMN;unfold cPI at hr;dsimp only at hr;split at hr
 ·rename_i s
  cases hr;cases ha with
  | cons g1 g2=>
   cases g2
   cases g1 with
   | one r1=>
    cases r1 with
    | v _ r1=>
     cases r1
     refine(Qu6 s hp w hJ hN).mono ?_
     rintro e w' ⟨rfl,hb⟩;exact⟨_,rfl,QiM hb ⟨_,rfl,.cons (Qsq rfl) (.cons (Qsq rfl) .nil)⟩⟩
 ·cases hr
end Go.Own

namespace Go.Own
open Go Go.Proofs
attribute [local go_sem] Qqh Qk9 Tryz.results95 cPV cPI Tryz.results92 cPA Qlw Tryz.results48 QBg cFD Tryz.results58
attribute [local go_sem] Qbp Qz Qbm Qcu Qf3
theorem Qqx:Qa E0 95 Qqh:=by
 refine QV (E:=E0) (T:=mkT Tryz.prog [(97,Qk9)] false (fun _=>false) true (fun _=>false)) (Qf (E:=E0) (.cons Qho .nil)) (fn:=Tryz.f95) Tryz.func95 (by kernel_rfl) rfl Qe (by kernel_rfl) rfl ?_
 intro args p rs ms hr;unfold Qqh at hr;dsimp only at hr;split at hr;rotate_left
 ·cases hr
 rename_i x;cases hr;refine⟨rfl,rfl,nLe rfl,?_⟩
 have hm:=mxE;intro _ bs;unfold cnt;have hl:=@QfC x
 exact gQ
theorem QAI:Qa E0 92 cPV:=by
 refine QV (E:=E0) (T:=mkT Tryz.prog [(55,cPI)] false (fun _=>false) true (fun _=>false)) (Qf (E:=E0) (.cons QnW .nil)) (fn:=Tryz.f92) Tryz.func92 (by kernel_rfl) rfl Qe (by kernel_rfl) rfl ?_
 intro args p rs ms hr;unfold cPV at hr;dsimp only at hr;split at hr;rotate_left
 ·cases hr
 rename_i s;cases hr;refine⟨rfl,rfl,nLe rfl,?_⟩
 have hm:=mxE;intro h1 bs;unfold pvF;cases hw:isW s Qjo
 ·rw[if_neg (by decide)]
  generalize hF:spF s.data.toList=F;cases h2:F.2
  ·simp only[Bool.not_false,Bool.true_or,if_true]
   (repeat' first|refine gA fun _=>?_|apply fkI<;>intro hb<;>try simp only[ew,QaY,hF,hw,h2]at hb|simp only[go_sem,simprocAttr, *,QaY,hF,hw,h2])
   all_goals first|rfl|skip
  ·cases h3:decide (F.1<0)
   ·cases h4:decide (F.1>40)
    ·simp only[Bool.not_true,Bool.or_self,Bool.false_eq_true,if_false]
     (repeat' first|refine gA fun _=>?_|apply fkI<;>intro hb<;>try simp only[ew,QaY,hF,hw,h2,h3,h4]at hb|simp only[go_sem,simprocAttr, *,QaY,hF,hw,h2,h3,h4])
     all_goals first|rfl|skip
    ·simp only[Bool.or_true,if_true]
     (repeat' first|refine gA fun _=>?_|apply fkI<;>intro hb<;>try simp only[ew,QaY,hF,hw,h2,h3,h4]at hb|simp only[go_sem,simprocAttr, *,QaY,hF,hw,h2,h3,h4])
     all_goals first|rfl|skip
   ·simp only[Bool.or_true,Bool.true_or,if_true]
    (repeat' first|refine gA fun _=>?_|apply fkI<;>intro hb<;>try simp only[ew,QaY,hF,hw,h2,h3]at hb|simp only[go_sem,simprocAttr, *,QaY,hF,hw,h2,h3])
    all_goals first|rfl|skip
 ·rw[if_pos rfl]
  (repeat' first|refine gA fun _=>?_|apply fkI<;>intro hb<;>try simp only[ew,QaY,hw]at hb|simp only[go_sem,simprocAttr, *,QaY,hw])
  all_goals first|rfl|skip
def cPD:Qb:=⟨[],false,fun
 | [.one (.v (.int .i64 n)),.one (.v (.string s))]=>some (s.size≤1073741824∧ -9223372036854775808≤n∧n≤9223372036854775807,[⟨true,[.d (.v (.int .i64 (pdF n s).1.1)),.d (.v (.int .i64 (pdF n s).1.2))]⟩,⟨false,[.d (.v (.bool (pdF n s).2))]⟩],[])
 | _=>none⟩
attribute [local go_sem] cPD
theorem Qu5{n:Int}{x y:Int×Bool}(h:(x.2&&y.2&&decide (((mem y.1).length:Int)=1)&&Q2 n x.1 ((mem y.1).getD 0 0))=false):Qch n x y=((0,0),false):=by
 unfold Qch;rw[h];rfl
theorem QAF{n:Int}{x y:Int×Bool}(h:(x.2&&y.2&&decide (((mem y.1).length:Int)=1)&&Q2 n x.1 ((mem y.1).getD 0 0))=true):Qch n x y=((x.1,(mem y.1).getD 0 0),true):=by
 unfold Qch;rw[h];rfl
theorem Qua{s:ByteArray}:Lib.cut s.data.toList [62]=((QBv s ⟨#[62]⟩).data.toList,(QBw s ⟨#[62]⟩).data.toList,QBx s ⟨#[62]⟩):=rfl
theorem Qrk{xs:List Int}(h:0<xs.length):(iL xs).getD 0 []=[D.v (.int .i64 (xs.getD 0 0))]:=by
 simp[iL,List.getD_eq_getElem?_getD,h]
theorem Qyi:Qa E0 58 cPD:=by
 refine QV (E:=E0) (T:=mkT Tryz.prog [(104,QBg),(94,cPA),(95,Qqh),(97,Qk9),(105,Qlw),(106,cFD)] false (fun d=>d==44) true (fun _=>false)) (Qf (E:=E0) (.cons QzU (.cons Qwl (.cons Qqx (.cons Qho (.cons Qg4 (.cons Qnd .nil))))))) (fn:=Tryz.f58) Tryz.func58 (by kernel_rfl) rfl Qe (by kernel_rfl) rfl ?_
 intro args p rs ms hr;unfold cPD at hr;dsimp only at hr;split at hr;rotate_left
 ·cases hr
 rename_i n s;cases hr;refine⟨rfl,rfl,nLe rfl,?_⟩
 have hm:=mxE;rintro⟨h1,n1,n2⟩ bs;rw[Qyg Qua];generalize hE:QBx s ⟨#[62]⟩=f;generalize hA:QBv s ⟨#[62]⟩=a;generalize hB:QBw s ⟨#[62]⟩=b;generalize hX:paF a=x;generalize hY:paF b=y;have hm:=@QfC y.1;cases p1:x.2
 ·rw[Qu5 (by rw[p1];rfl),Bool.false_and,if_neg (by decide)]
  (repeat' first|refine gA fun _=>?_|apply fkI<;>intro hb<;>try simp only[ew,hE,hA,hB,hX,hY]at hb|simp only[go_sem,simprocAttr, *,hE,hA,hB,hX,hY])
  all_goals first|rfl|skip
 ·cases p2:y.2
  ·rw[Qu5 (by rw[p2];simp),Bool.false_and,if_neg (by decide)]
   (repeat' first|refine gA fun _=>?_|apply fkI<;>intro hb<;>try simp only[ew,hE,hA,hB,hX,hY]at hb|simp only[go_sem,simprocAttr, *,hE,hA,hB,hX,hY])
   all_goals first|rfl|skip
  ·by_cases p3:((mem y.1).length:Int)=1
   ·have p3':(((mem y.1).length:Int)!=1)=false:=by rw[p3];rfl
    have j0:0<(mem y.1).length:=by omega
    have hg:=Qrk j0
    cases p4:Q2 n x.1 ((mem y.1).getD 0 0)
    ·rw[Qu5 (by rw[p4];simp),Bool.false_and,if_neg (by decide)]
     (repeat' first|refine gA fun _=>?_|apply fkI<;>intro hb<;>try simp only[ew,cnt,hE,hA,hB,hX,hY]at hb|simp only[go_sem,simprocAttr, *,cnt,hE,hA,hB,hX,hY])
     all_goals first|rfl|skip
    ·rw[QAF (by rw[p1,p2,decide_eq_true p3,p4];rfl),Bool.true_and]
     cases p5:((fd (x.1,(mem y.1).getD 0 0)).toList==s.toList)
     ·rw[if_neg (by decide)]
      (repeat' first|refine gA fun _=>?_|apply fkI<;>intro hb<;>try simp only[ew,cnt,hE,hA,hB,hX,hY]at hb|simp only[go_sem,simprocAttr, *,cnt,hE,hA,hB,hX,hY])
      all_goals first|rfl|skip
     ·rw[if_pos rfl]
      (repeat' first|refine gA fun _=>?_|apply fkI<;>intro hb<;>try simp only[ew,cnt,hE,hA,hB,hX,hY]at hb|simp only[go_sem,simprocAttr, *,cnt,hE,hA,hB,hX,hY])
      all_goals first|rfl|skip
   ·have p3':(((mem y.1).length:Int)!=1)=true:=by rw[bne_iff_ne];exact p3
    rw[Qu5 (by rw[decide_eq_false p3];simp),Bool.false_and,if_neg (by decide)]
    (repeat' first|refine gA fun _=>?_|apply fkI<;>intro hb<;>try simp only[ew,cnt,hE,hA,hB,hX,hY]at hb|simp only[go_sem,simprocAttr, *,cnt,hE,hA,hB,hX,hY])
    all_goals first|rfl|skip
end Go.Own
