/- Own contracts. Conditions: as each theorem states them. -/
import Derived.Test.YtnmkpepdacbfaaaGreatDoorRc36
import Derived.Test.YtnmkpepdacbfaaaGreatDoorRc38
import Derived.Test.YtnmkpepdacbfaaaGreatDoorRc39
set_option linter.unusedSimpArgs false
set_option linter.unusedVariables false
set_option maxRecDepth 20000
set_option maxHeartbeats 2000000
namespace Go.Own
open Go Go.Proofs
attribute [local go_sem] QO QhW cSL Qxy Qxu Tryz.results116 Tryz.results87
attribute [local go_sem] Qh Qe Qaa Qac Qab Qaf QaX QdJ Qu QaV
def QA1(n:Int)(ds:List (Int×Int)):ByteArray:=if QF n ds then((((⟨#[107,101,121,115,32]⟩++slL (QcL n ds))++⟨#[32,116,104,105,114,100,32]⟩)++slL (Qqe n ds))++⟨#[32,98,111,121,99,101,32]⟩)++slL (QoV n ds)else⟨#[]⟩
theorem Qd5:ByteArray.size ⟨#[107,101,121,115,32]⟩=5:=rfl
theorem Qda:ByteArray.size ⟨#[32,116,104,105,114,100,32]⟩=7:=rfl
theorem QcX:ByteArray.size ⟨#[32,98,111,121,99,101,32]⟩=7:=rfl
def Qvw:Qb:=⟨[],false,fun
 | [.one (.v (.int .i64 n)),.one (.sl 2 l)]=>some (WfD l∧ -9223372036854775808≤n∧n≤9223372036854775807,[⟨false,[.d (.v (.string (QA1 n (unD l))))]⟩],[])
 | _=>none⟩
attribute [local go_sem] Qvw
theorem Qb5{xs:List Int}(h:xs.length≤100):xs.length≤maxLen∧xs.length≤1048576∧(slL xs).size≤607:=by
 have:=@Qw5 xs
 exact⟨Nat.le_trans h (by decide),by omega,by omega⟩
theorem QAm:Qa E0 116 Qvw:=by
 refine QE (E:=E0) (T:=mkT Tryz.prog [(163,QO),(175,QhW),(113,cSL),(176,Qxy),(177,Qxu)] false (fun _=>false) true (fun _=>false)) (Qd (E:=E0) (.cons Qbq (.cons Qpw (.cons Qx7 (.cons QAz (.cons Qy8 .nil)))))) (fn:=Tryz.f116) Tryz.func116 (by kernel_rfl) rfl Qc (by kernel_rfl) rfl ?_
 intro args p rs ms hr;unfold Qvw at hr;dsimp only at hr;split at hr;rotate_left
 ·cases hr
 rename_i n l;cases hr;refine⟨rfl,rfl,nLe rfl,?_⟩
 have hm:=mxE;rintro⟨h1,hn1,hn2⟩ bs;obtain⟨ds,rfl,hx⟩:=h1.ex;clear h1;rw[Qh];unfold QA1;cases hv:QF n ds
 ·(repeat' first|refine gA fun _=>?_|apply fkI<;>intro hb<;>try simp only[ew,hv]at hb|simp only[go_sem,simprocAttr, *,hv])
  all_goals first|rfl|skip
 ·obtain⟨k1,k2,k3⟩:=Qb5 (@Qco n ds).1
  obtain⟨s1,s2,s3⟩:=Qb5 (@Qlq n ds);obtain⟨d1,d2,d3⟩:=Qb5 (@QkB n ds);rw[if_pos rfl];generalize hK:QcL n ds=K at k1 k2 k3 ⊢;generalize hS:Qqe n ds=S at s1 s2 s3 ⊢;generalize hD:QoV n ds=D at d1 d2 d3 ⊢;(repeat' first|refine gA fun _=>?_|apply fkI<;>intro hb<;>try simp only[ew,hv,hK,hS,hD,Qd5,Qda,QcX,Qg]at hb|simp only[go_sem,simprocAttr, *,hv,Qd5,Qda,QcX,Qg])
  all_goals first|rfl|skip
theorem QAn:Qa E0 87 Qvw:=by
 refine QE (E:=E0) (T:=mkT Tryz.prog [(126,QO),(131,QhW),(14,cSL),(132,Qxy),(133,Qxu)] false (fun _=>false) true (fun _=>false)) (Qd (E:=E0) (.cons Qbr (.cons Qpx (.cons Qx8 (.cons QAB (.cons Qy9 .nil)))))) (fn:=Tryz.f87) Tryz.func87 (by kernel_rfl) rfl Qc (by kernel_rfl) rfl ?_
 intro args p rs ms hr;unfold Qvw at hr;dsimp only at hr;split at hr;rotate_left
 ·cases hr
 rename_i n l;cases hr;refine⟨rfl,rfl,nLe rfl,?_⟩
 have hm:=mxE;rintro⟨h1,hn1,hn2⟩ bs;obtain⟨ds,rfl,hx⟩:=h1.ex;clear h1;rw[Qh];unfold QA1;cases hv:QF n ds
 ·(repeat' first|refine gA fun _=>?_|apply fkI<;>intro hb<;>try simp only[ew,hv]at hb|simp only[go_sem,simprocAttr, *,hv])
  all_goals first|rfl|skip
 ·obtain⟨k1,k2,k3⟩:=Qb5 (@Qco n ds).1
  obtain⟨s1,s2,s3⟩:=Qb5 (@Qlq n ds);obtain⟨d1,d2,d3⟩:=Qb5 (@QkB n ds);rw[if_pos rfl];generalize hK:QcL n ds=K at k1 k2 k3 ⊢;generalize hS:Qqe n ds=S at s1 s2 s3 ⊢;generalize hD:QoV n ds=D at d1 d2 d3 ⊢;(repeat' first|refine gA fun _=>?_|apply fkI<;>intro hb<;>try simp only[ew,hv,hK,hS,hD,Qd5,Qda,QcX,Qg]at hb|simp only[go_sem,simprocAttr, *,hv,Qd5,Qda,QcX,Qg])
  all_goals first|rfl|skip
end Go.Own

namespace Go.Own
open Go Go.Proofs
attribute [local go_sem] Qxv cFA cFD Tryz.results110 Tryz.results85
attribute [local go_sem] Qbh QC Qbs Qct QfX QgX QgW Qee
attribute [local go_sem] Qh Qe Qaa Qac Qab Qaf QaX QdJ Qu QuC QjF QsK QoS QCd Qbh QC Qbs Qct
theorem Qf5:ByteArray.size ⟨#[32,98,121,32]⟩=4:=rfl
theorem Qc3:ByteArray.size ⟨#[32,103,105,118,101,115,32]⟩=7:=rfl
def lnB(ds:List (Int×Int))(s:Int×Int×Int):ByteArray:=(((fa s.2.1++⟨#[32,98,121,32]⟩)++fd (ds.getD s.1.toNat (0,0)))++⟨#[32,103,105,118,101,115,32]⟩)++fa s.2.2
def QnI(n:Int)(ds:List (Int×Int))(a b:Int):List ByteArray:=(drL n ds a b).map (lnB ds)
theorem Qs2{q:Int×Int}:(fd q).size≤11:=by
 have s1:=@QaW q.1
 have s2:=@QaW (1*2^q.2.toNat)
 unfold fd;split
 ·rw[Qg,Qg,Qe5];omega
 ·exact Nat.zero_le _
theorem Qid{n:Int}{ds:List (Int×Int)}{a b:Int}:(drL n ds a b).length≤6∧∀i,i<(drL n ds a b).length→0≤((drL n ds a b).getD i (0,0,0)).1∧((drL n ds a b).getD i (0,0,0)).1<ds.length:=by
 unfold drL;split
 ·rename_i hv
  simp only[QjS,Bool.and_eq_true]at hv
  have hd:=Qax hv.1.1
  obtain⟨h1,h2⟩:=QkF (k:=6) (r:=b) hd (Qas hv.1.2).1;exact⟨h1,fun i hi=>(h2 _ (QP hi (0,0,0))).1⟩
 ·simp
theorem QnJ{n:Int}{ds:List (Int×Int)}{a b:Int}:(QnI n ds a b).length≤6:=by
 unfold QnI;rw[List.length_map];exact Qid.1
def Qvp:Qb:=⟨[],false,fun
 | [.one (.v (.int .i64 n)),.one (.sl 2 l),.agg [.v (.int .i64 a),.v (.int .i64 b)]]=>some (WfD l∧ -9223372036854775808≤n∧n≤9223372036854775807,
   [⟨false,[.own 1 (tL (QnI n (unD l) a b)) 1]⟩],[])
 | _=>none⟩
attribute [local go_sem] Qvp
theorem Qzd:Qa E0 110 Qvp:=by
 refine QE (E:=E0) (T:=mkT Tryz.prog [(165,Qxv),(146,cFA),(106,cFD)] false (fun _=>false) true (fun _=>false)) (Qd (E:=E0) (.cons QqU (.cons Qo9 (.cons Qpb .nil)))) (fn:=Tryz.f110) Tryz.func110 (by kernel_rfl) rfl Qc (by kernel_rfl) rfl ?_
 intro args p rs ms hr;unfold Qvp at hr;dsimp only at hr;split at hr;rotate_left
 ·cases hr
 rename_i n l a b;cases hr;refine⟨rfl,rfl,nLe rfl,?_⟩
 have hm:=mxE;rintro⟨h1,hn1,hn2⟩ bs;obtain⟨ds,rfl,hx⟩:=h1.ex;clear h1;rw[Qh];unfold QnI;obtain⟨f6,fdd⟩:=@Qid n ds a b;(repeat' first|refine gA fun _=>?_|apply fkI<;>intro hb<;>try simp only[ew]at hb|simp only[go_sem,simprocAttr, *])
 generalize hF:drL n ds a b=F at f6 fdd ⊢;clear hF;refine lpI {ι:=Nat,rs:=[(11,12),(23,46)],mods:=[(22,fun i=> .one (.d (.v (.int .i64 i)))),(7,fun i=> .one (.own 1 (tL ((F.take i).map (lnB ds))) 1))],boxes:=[],arrs:=[(8,fun _=>(3,d3L F,1))],alis:=[(20,8)],ok:=fun i=>i≤F.length,mu:=fun i=>F.length-i} rfl 0 (Nat.zero_le _) ?_ fun i hi=>?_
 ·exact gQ
 ·dsimp only at i hi
  by_cases h5:i<F.length
  ·have e2:(F.take (i+1)).map (lnB ds)=(F.take i).map (lnB ds)++[lnB ds (F.getD i (0,0,0))]:=by rw[Qf h5 (0,0,0)];simp
   obtain⟨p0,p1⟩:=fdd i h5;clear fdd;cases hq:F.getD i (0,0,0)with
   | mk q1 q=>
    cases q with
    | mk q2 q3=>
     rw[hq]at p0 p1 e2;dsimp only at p0 p1;obtain⟨q1,rfl⟩:=Int.eq_ofNat_of_zero_le p0;have p1:q1<ds.length:=by omega
     clear p0;have e3:lnB ds ((q1:Int),q2,q3)=(((fa q2++⟨#[32,98,121,32]⟩)++fd (ds.getD q1 (0,0)))++⟨#[32,103,105,118,101,115,32]⟩)++fa q3:=by unfold lnB;dsimp only;rw[Int.toNat_natCast]
     rw[e3]at e2;clear e3;have s1:=@QaW q2
     have s2:=@QaW q3
     have s3:=@Qs2 (ds.getD q1 (0,0))
     (repeat' first|refine gA fun _=>?_|apply fkI<;>intro hb<;>try simp only[ew,hq,Qf5,Qc3,Qg,List.length_map]at hb|simp only[go_sem,simprocAttr, *,hq,Qf5,Qc3,Qg,List.length_map])
     refine lpN (i+1) (by dsimp only;omega) (by dsimp only;omega) ?_
     clear s1 s2 s3;(repeat' first|refine gA fun _=>?_|apply fkI<;>intro hb<;>try simp only[ew,hq,e2]at hb|simp only[go_sem,simprocAttr, *,hq])
  ·have e5:i=F.length:=by omega
   subst e5;have e6:F.take F.length=F:=List.take_length
   clear fdd;(repeat' first|refine gA fun _=>?_|apply fkI<;>intro hb<;>try simp only[ew,e6]at hb|simp only[go_sem,simprocAttr, *])
   all_goals first|rfl|skip
theorem Qze:Qa E0 85 Qvp:=by
 refine QE (E:=E0) (T:=mkT Tryz.prog [(128,Qxv),(23,cFA),(26,cFD)] false (fun _=>false) true (fun _=>false)) (Qd (E:=E0) (.cons QqV (.cons Qpa (.cons Qs0 .nil)))) (fn:=Tryz.f85) Tryz.func85 (by kernel_rfl) rfl Qc (by kernel_rfl) rfl ?_
 intro args p rs ms hr;unfold Qvp at hr;dsimp only at hr;split at hr;rotate_left
 ·cases hr
 rename_i n l a b;cases hr;refine⟨rfl,rfl,nLe rfl,?_⟩
 have hm:=mxE;rintro⟨h1,hn1,hn2⟩ bs;obtain⟨ds,rfl,hx⟩:=h1.ex;clear h1;rw[Qh];unfold QnI;obtain⟨f6,fdd⟩:=@Qid n ds a b;(repeat' first|refine gA fun _=>?_|apply fkI<;>intro hb<;>try simp only[ew]at hb|simp only[go_sem,simprocAttr, *])
 generalize hF:drL n ds a b=F at f6 fdd ⊢;clear hF;refine lpI {ι:=Nat,rs:=[(19,53)],mods:=[(10,fun i=> .one (.d (.v (.int .i64 i)))),(7,fun i=> .one (.own 1 (tL ((F.take i).map (lnB ds))) 1))],boxes:=[],arrs:=[(8,fun _=>(3,d3L F,1))],ok:=fun i=>i≤F.length,mu:=fun i=>F.length-i} rfl 0 (Nat.zero_le _) ?_ fun i hi=>?_
 ·exact gQ
 ·dsimp only at i hi
  by_cases h5:i<F.length
  ·have e2:(F.take (i+1)).map (lnB ds)=(F.take i).map (lnB ds)++[lnB ds (F.getD i (0,0,0))]:=by rw[Qf h5 (0,0,0)];simp
   obtain⟨p0,p1⟩:=fdd i h5;clear fdd;cases hq:F.getD i (0,0,0)with
   | mk q1 q=>
    cases q with
    | mk q2 q3=>
     rw[hq]at p0 p1 e2;dsimp only at p0 p1;obtain⟨q1,rfl⟩:=Int.eq_ofNat_of_zero_le p0;have p1:q1<ds.length:=by omega
     clear p0;have e3:lnB ds ((q1:Int),q2,q3)=(((fa q2++⟨#[32,98,121,32]⟩)++fd (ds.getD q1 (0,0)))++⟨#[32,103,105,118,101,115,32]⟩)++fa q3:=by unfold lnB;dsimp only;rw[Int.toNat_natCast]
     rw[e3]at e2;clear e3;have s1:=@QaW q2
     have s2:=@QaW q3
     have s3:=@Qs2 (ds.getD q1 (0,0))
     (repeat' first|refine gA fun _=>?_|apply fkI<;>intro hb<;>try simp only[ew,hq,Qf5,Qc3,Qg,List.length_map]at hb|simp only[go_sem,simprocAttr, *,hq,Qf5,Qc3,Qg,List.length_map])
     refine lpN (i+1) (by dsimp only;omega) (by dsimp only;omega) ?_
     clear s1 s2 s3;(repeat' first|refine gA fun _=>?_|apply fkI<;>intro hb<;>try simp only[ew,hq,e2]at hb|simp only[go_sem,simprocAttr, *,hq])
  ·have e5:i=F.length:=by omega
   subst e5;have e6:F.take F.length=F:=List.take_length
   clear fdd;(repeat' first|refine gA fun _=>?_|apply fkI<;>intro hb<;>try simp only[ew,e6]at hb|simp only[go_sem,simprocAttr, *])
   all_goals first|rfl|skip
end Go.Own
