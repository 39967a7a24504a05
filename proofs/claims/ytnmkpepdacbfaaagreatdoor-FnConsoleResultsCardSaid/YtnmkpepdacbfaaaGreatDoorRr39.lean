/- Own contracts. Conditions: as each theorem states them. -/
import Derived.Test.YtnmkpepdacbfaaaGreatDoorRr35
import Derived.Test.YtnmkpepdacbfaaaGreatDoorRr37
import Derived.Test.YtnmkpepdacbfaaaGreatDoorRr38
set_option linter.unusedSimpArgs false
set_option linter.unusedVariables false
set_option maxRecDepth 20000
set_option maxHeartbeats 2000000
namespace Go.Own
open Go Go.Proofs
attribute [local go_sem] Qap Qlx cSL QzO QzG Tryz.results116 Tryz.results87
attribute [local go_sem] Qm Qc QZ Q1 Q0 Q3 QaH Qdb Qr QaG
def QAS(n:Int)(ds:List (Int×Int)):ByteArray:=if Q5 n ds then((((⟨#[107,101,121,115,32]⟩++slL (QeS n ds))++⟨#[32,116,104,105,114,100,32]⟩)++slL (Qvz n ds))++⟨#[32,98,111,121,99,101,32]⟩)++slL (Qub n ds)else⟨#[]⟩
theorem Qhi:ByteArray.size ⟨#[107,101,121,115,32]⟩=5:=rfl
theorem QfS:ByteArray.size ⟨#[32,116,104,105,114,100,32]⟩=7:=rfl
theorem Qfd:ByteArray.size ⟨#[32,98,111,121,99,101,32]⟩=7:=rfl
def QzM:Qb:=⟨[],false,fun
 | [.one (.v (.int .i64 n)),.one (.sl 2 l)]=>some (WfD l∧ -9223372036854775808≤n∧n≤9223372036854775807,[⟨false,[.d (.v (.string (QAS n (unD l))))]⟩],[])
 | _=>none⟩
attribute [local go_sem] QzM
theorem Qd0{xs:List Int}(h:xs.length≤100):xs.length≤maxLen∧xs.length≤1048576∧(slL xs).size≤607:=by
 have:=@Qvk xs
 exact⟨Nat.le_trans h (by decide),by omega,by omega⟩
theorem QyE:Qa E0 116 QzM:=by
 refine QV (E:=E0) (T:=mkT Tryz.prog [(163,Qap),(175,Qlx),(113,cSL),(176,QzO),(177,QzG)] false (fun _=>false) true (fun _=>false)) (Qf (E:=E0) (.cons Qa2 (.cons Qnx (.cons Qwq (.cons QyR (.cons Qxp .nil)))))) (fn:=Tryz.f116) Tryz.func116 (by kernel_rfl) rfl Qe (by kernel_rfl) rfl ?_
 intro args p rs ms hr;unfold QzM at hr;dsimp only at hr;split at hr;rotate_left
 ·cases hr
 rename_i n l;cases hr;refine⟨rfl,rfl,nLe rfl,?_⟩
 have hm:=mxE;rintro⟨h1,hn1,hn2⟩ bs;obtain⟨ds,rfl,hx⟩:=h1.ex;clear h1;rw[Qm];unfold QAS;cases hv:Q5 n ds
 ·(repeat' first|refine gA fun _=>?_|apply fkI<;>intro hb<;>try simp only[ew,hv]at hb|simp only[go_sem,simprocAttr, *,hv])
  all_goals first|rfl|skip
 ·obtain⟨k1,k2,k3⟩:=Qd0 (@Qeq n ds).1
  obtain⟨s1,s2,s3⟩:=Qd0 (@Qoa n ds);obtain⟨d1,d2,d3⟩:=Qd0 (@Qm2 n ds);rw[if_pos rfl];generalize hK:QeS n ds=K at k1 k2 k3 ⊢;generalize hS:Qvz n ds=S at s1 s2 s3 ⊢;generalize hD:Qub n ds=D at d1 d2 d3 ⊢;(repeat' first|refine gA fun _=>?_|apply fkI<;>intro hb<;>try simp only[ew,hv,hK,hS,hD,Qhi,QfS,Qfd,Qd]at hb|simp only[go_sem,simprocAttr, *,hv,Qhi,QfS,Qfd,Qd])
  all_goals first|rfl|skip
end Go.Own

namespace Go.Own
open Go Go.Proofs
attribute [local go_sem] QzH cFA cFD Tryz.results110 Tryz.results85
attribute [local go_sem] Qbp Qz Qbm Qcu Qf3 QhJ QhI Qew
attribute [local go_sem] Qm Qc QZ Q1 Q0 Q3 QaH Qdb Qr QsO Qio QqJ Qm1 QAQ Qbp Qz Qbm Qcu
theorem Qlv:ByteArray.size ⟨#[32,98,121,32]⟩=4:=rfl
theorem Qfw:ByteArray.size ⟨#[32,103,105,118,101,115,32]⟩=7:=rfl
def lnB(ds:List (Int×Int))(s:Int×Int×Int):ByteArray:=(((fa s.2.1++⟨#[32,98,121,32]⟩)++fd (ds.getD s.1.toNat (0,0)))++⟨#[32,103,105,118,101,115,32]⟩)++fa s.2.2
def Qui(n:Int)(ds:List (Int×Int))(a b:Int):List ByteArray:=(drL n ds a b).map (lnB ds)
theorem Qun{q:Int×Int}:(fd q).size≤11:=by
 have s1:=@QaM q.1
 have s2:=@QaM (1*2^q.2.toNat)
 unfold fd;split
 ·rw[Qd,Qd,Qeo];omega
 ·exact Nat.zero_le _
theorem Qkt{n:Int}{ds:List (Int×Int)}{a b:Int}:(drL n ds a b).length≤6∧∀i,i<(drL n ds a b).length→0≤((drL n ds a b).getD i (0,0,0)).1∧((drL n ds a b).getD i (0,0,0)).1<ds.length:=by
 unfold drL;split
 ·rename_i hv
  simp only[Qpz,Bool.and_eq_true]at hv
  have hd:=Qbg hv.1.1
  obtain⟨h1,h2⟩:=Qi9 (k:=6) (r:=b) hd (QaL hv.1.2).1;exact⟨h1,fun i hi=>(h2 _ (QI hi (0,0,0))).1⟩
 ·simp
theorem QqW{n:Int}{ds:List (Int×Int)}{a b:Int}:(Qui n ds a b).length≤6:=by
 unfold Qui;rw[List.length_map];exact Qkt.1
def QzI:Qb:=⟨[],false,fun
 | [.one (.v (.int .i64 n)),.one (.sl 2 l),.agg [.v (.int .i64 a),.v (.int .i64 b)]]=>some (WfD l∧ -9223372036854775808≤n∧n≤9223372036854775807,
   [⟨false,[.own 1 (tL (Qui n (unD l) a b)) 1]⟩],[])
 | _=>none⟩
attribute [local go_sem] QzI
theorem Qxt:Qa E0 110 QzI:=by
 refine QV (E:=E0) (T:=mkT Tryz.prog [(165,QzH),(146,cFA),(106,cFD)] false (fun _=>false) true (fun _=>false)) (Qf (E:=E0) (.cons QoN (.cons Qnc (.cons Qnd .nil)))) (fn:=Tryz.f110) Tryz.func110 (by kernel_rfl) rfl Qe (by kernel_rfl) rfl ?_
 intro args p rs ms hr;unfold QzI at hr;dsimp only at hr;split at hr;rotate_left
 ·cases hr
 rename_i n l a b;cases hr;refine⟨rfl,rfl,nLe rfl,?_⟩
 have hm:=mxE;rintro⟨h1,hn1,hn2⟩ bs;obtain⟨ds,rfl,hx⟩:=h1.ex;clear h1;rw[Qm];unfold Qui;obtain⟨f6,fdd⟩:=@Qkt n ds a b;(repeat' first|refine gA fun _=>?_|apply fkI<;>intro hb<;>try simp only[ew]at hb|simp only[go_sem,simprocAttr, *])
 generalize hF:drL n ds a b=F at f6 fdd ⊢;clear hF;refine lpI {ι:=Nat,rs:=[(11,12),(23,46)],mods:=[(22,fun i=> .one (.d (.v (.int .i64 i)))),(7,fun i=> .one (.own 1 (tL ((F.take i).map (lnB ds))) 1))],boxes:=[],arrs:=[(8,fun _=>(3,d3L F,1))],alis:=[(20,8)],ok:=fun i=>i≤F.length,mu:=fun i=>F.length-i} rfl 0 (Nat.zero_le _) ?_ fun i hi=>?_
 ·exact gQ
 ·dsimp only at i hi
  by_cases h5:i<F.length
  ·have e2:(F.take (i+1)).map (lnB ds)=(F.take i).map (lnB ds)++[lnB ds (F.getD i (0,0,0))]:=by rw[Qk h5 (0,0,0)];simp
   obtain⟨p0,p1⟩:=fdd i h5;clear fdd;cases hq:F.getD i (0,0,0)with
   | mk q1 q=>
    cases q with
    | mk q2 q3=>
     rw[hq]at p0 p1 e2;dsimp only at p0 p1;obtain⟨q1,rfl⟩:=Int.eq_ofNat_of_zero_le p0;have p1:q1<ds.length:=by omega
     clear p0;have e3:lnB ds ((q1:Int),q2,q3)=(((fa q2++⟨#[32,98,121,32]⟩)++fd (ds.getD q1 (0,0)))++⟨#[32,103,105,118,101,115,32]⟩)++fa q3:=by unfold lnB;dsimp only;rw[Int.toNat_natCast]
     rw[e3]at e2;clear e3;have s1:=@QaM q2
     have s2:=@QaM q3
     have s3:=@Qun (ds.getD q1 (0,0))
     (repeat' first|refine gA fun _=>?_|apply fkI<;>intro hb<;>try simp only[ew,hq,Qlv,Qfw,Qd,List.length_map]at hb|simp only[go_sem,simprocAttr, *,hq,Qlv,Qfw,Qd,List.length_map])
     refine lpN (i+1) (by dsimp only;omega) (by dsimp only;omega) ?_
     clear s1 s2 s3;(repeat' first|refine gA fun _=>?_|apply fkI<;>intro hb<;>try simp only[ew,hq,e2]at hb|simp only[go_sem,simprocAttr, *,hq])
  ·have e5:i=F.length:=by omega
   subst e5;have e6:F.take F.length=F:=List.take_length
   clear fdd;(repeat' first|refine gA fun _=>?_|apply fkI<;>intro hb<;>try simp only[ew,e6]at hb|simp only[go_sem,simprocAttr, *])
   all_goals first|rfl|skip
end Go.Own

namespace Go.Own
open Go Go.Proofs
attribute [local go_sem] cFD Qkf Tryz.results112 Tryz.results12
attribute [local go_sem] Qm Qc QZ Q1 Q0 Q3 QaH Qr Qbp Qz Qbm Qcu
theorem Qq4{q:Int×Int}:(fd q).size≤11:=by
 have s1:=@QaM q.1
 have s2:=@QaM (1*2^q.2.toNat)
 unfold fd;split
 ·rw[Qd,Qd,Qeo];omega
 ·exact Nat.zero_le _
theorem Qjm{xs:List (Int×Int)}:(jb ⟨#[32]⟩ (xs.map fd)).size≤xs.length*12:=by
 have:=Qjl (sep:=⟨#[32]⟩) (B:=11) (ss:=xs.map fd) (fun s hs=>by obtain⟨x,_,rfl⟩:=List.mem_map.1 hs;exact Qq4)
 rw[List.length_map]at this;exact this
theorem QuJ{xs:List (Int×Int)}{i:Nat}:(jb ⟨#[32]⟩ ((xs.take i).map fd)).size≤i*12:=by
 have:=@Qjm (xs.take i)
 rw[List.length_take]at this;have h2:min i xs.length*12≤i*12:=Nat.mul_le_mul_right _ (Nat.min_le_left _ _)
 omega
def dlL(xs:List (Int×Int)):ByteArray:=if(jb ⟨#[32]⟩ (xs.map fd)).toList==ByteArray.toList ⟨#[]⟩then⟨#[110,111,110,101]⟩else jb ⟨#[32]⟩ (xs.map fd)
def cDL:Qb:=⟨[],false,fun
 | [.one (.sl 2 l)]=>some (WfD l∧l.length≤1048576,[⟨false,[.d (.v (.string (dlL (unD l))))]⟩],[])
 | _=>none⟩
attribute [local go_sem] cDL
theorem QzY:Qa E0 112 cDL:=by
 refine QV (E:=E0) (T:=mkT Tryz.prog [(106,cFD),(111,Qkf)] false (fun _=>false) true (fun _=>false)) (Qf (E:=E0) (.cons Qnd (.cons Ql3 .nil))) (fn:=Tryz.f112) Tryz.func112 (by kernel_rfl) rfl Qe (by kernel_rfl) rfl ?_
 intro args p rs ms hr;unfold cDL at hr;dsimp only at hr;split at hr;rotate_left
 ·cases hr
 rename_i l;cases hr;refine⟨rfl,rfl,nLe rfl,?_⟩
 have hm:=mxE;rintro⟨h1,h2⟩ bs;obtain⟨xs,rfl,hx⟩:=h1.ex;clear h1;rw[Qc]at h2;rw[Qm];(repeat' first|refine gA fun _=>?_|apply fkI<;>intro hb<;>try simp only[ew]at hb|simp only[go_sem,simprocAttr, *])
 refine lpI {ι:=Nat,rs:=[(5,6),(11,20)],mods:=[(10,fun i=> .one (.d (.v (.int .i64 i)))),(3,fun i=> .one (.own 1 (tL ((xs.take i).map fd)) 1))],boxes:=[],arrs:=[],ok:=fun i=>i≤xs.length,mu:=fun i=>xs.length-i} rfl 0 (Nat.zero_le _) ?_ fun i hi=>?_
 ·exact gQ
 ·dsimp only at i hi
  have hsz:=@Qjm xs
  by_cases h5:i<xs.length
  ·clear hsz
   (repeat' first|refine gA fun _=>?_|apply fkI<;>intro hb<;>try simp only[ew,List.length_map]at hb|simp only[go_sem,simprocAttr, *,List.length_map])
   ·have e2:(xs.take (i+1)).map fd=(xs.take i).map fd++[fd (xs.getD i (0,0))]:=by rw[Qk h5 (0,0)];simp
    refine lpN (i+1) (by dsimp only;omega) (by dsimp only;omega) ?_
    (repeat' first|refine gA fun _=>?_|apply fkI<;>intro hb<;>try simp only[ew,e2]at hb|simp only[go_sem,simprocAttr, *])
  ·have e5:i=xs.length:=by omega
   subst e5;have e6:xs.take xs.length=xs:=List.take_length
   (repeat' first|refine gA fun _=>?_|apply fkI<;>intro hb<;>try simp only[ew,List.length_map,e6]at hb|simp only[go_sem,simprocAttr, *,List.length_map])
   ·have hq:=‹(jb ⟨#[32]⟩ (xs.map fd)).toList=ByteArray.toList ⟨#[]⟩›
    unfold dlL;rw[if_pos (beq_iff_eq.2 hq)]
   ·have hq:=‹¬(jb ⟨#[32]⟩ (xs.map fd)).toList=ByteArray.toList ⟨#[]⟩›
    unfold dlL;rw[if_neg (fun h=>hq (beq_iff_eq.1 h))]
theorem QzZ:Qa E0 12 cDL:=by
 refine QV (E:=E0) (T:=mkT Tryz.prog [(26,cFD)] false (fun _=>false) true (fun _=>false)) (Qf (E:=E0) (.cons Qz4 .nil)) (fn:=Tryz.f12) Tryz.func12 (by kernel_rfl) rfl Qe (by kernel_rfl) rfl ?_
 intro args p rs ms hr;unfold cDL at hr;dsimp only at hr;split at hr;rotate_left
 ·cases hr
 rename_i l;cases hr;refine⟨rfl,rfl,nLe rfl,?_⟩
 have hm:=mxE;rintro⟨h1,h2⟩ bs;obtain⟨xs,rfl,hx⟩:=h1.ex;clear h1;rw[Qc]at h2;rw[Qm];(repeat' first|refine gA fun _=>?_|apply fkI<;>intro hb<;>try simp only[ew]at hb|simp only[go_sem,simprocAttr, *])
 refine lpI {ι:=Nat,rs:=[(5,22)],mods:=[(4,fun i=> .one (.d (.v (.int .i64 i)))),(3,fun i=> .one (.d (.v (.string (jb ⟨#[32]⟩ ((xs.take i).map fd))))))],boxes:=[],arrs:=[],ok:=fun i=>i≤xs.length,mu:=fun i=>xs.length-i} rfl 0 (Nat.zero_le _) ?_ fun i hi=>?_
 ·exact gQ
 ·dsimp only at i hi
  have hsz:=@QuJ xs i
  have hf:=@Qq4 (xs.getD i (0,0))
  by_cases h5:i<xs.length
  ·have hs:=Qrx (sep:=⟨#[32]⟩) (f:=fd) (d:=(0,0)) h5
   by_cases h0:i=0
   ·subst h0
    rw[if_pos rfl]at hs;have e0:decide ((0:Int)>0)=false:=by decide
    have z0:(jb ⟨#[32]⟩ []).size=0:=rfl
    rw[List.take_zero,List.map_nil]at hs;rw[Nat.zero_add]at hs;clear hsz;(repeat' first|refine gA fun _=>?_|apply fkI<;>intro hb<;>try simp only[ew,e0,QbK,Qd,z0]at hb|simp only[go_sem,simprocAttr, *,QbK,Qd])
    ·refine lpN 1 (by dsimp only;omega) (by dsimp only;omega) ?_
     clear hf;(repeat' first|refine gA fun _=>?_|apply fkI<;>intro hb<;>try simp only[ew,hs]at hb|simp only[go_sem,simprocAttr, *])
     all_goals first|omega|skip
    all_goals (exfalso;omega)
   ·rw[if_neg h0]at hs
    have e0:decide ((i:Int)>0)=true:=decide_eq_true (by omega)
    (repeat' first|refine gA fun _=>?_|apply fkI<;>intro hb<;>try simp only[ew,e0,QbK,Qd]at hb|simp only[go_sem,simprocAttr, *,QbK,Qd])
    ·refine lpN (i+1) (by dsimp only;omega) (by dsimp only;omega) ?_
     clear hsz hf e0;(repeat' first|refine gA fun _=>?_|apply fkI<;>intro hb<;>try simp only[ew,hs]at hb|simp only[go_sem,simprocAttr, *])
    all_goals (exfalso;omega)
  ·have e5:i=xs.length:=by omega
   subst e5;have e6:xs.take xs.length=xs:=List.take_length
   clear hsz hf;(repeat' first|refine gA fun _=>?_|apply fkI<;>intro hb<;>try simp only[ew,e6]at hb|simp only[go_sem,simprocAttr, *])
   ·have hq:=‹(jb ⟨#[32]⟩ (xs.map fd)).toList=ByteArray.toList ⟨#[]⟩›
    unfold dlL;rw[if_pos (beq_iff_eq.2 hq)]
   ·have hq:=‹¬(jb ⟨#[32]⟩ (xs.map fd)).toList=ByteArray.toList ⟨#[]⟩›
    unfold dlL;rw[if_neg (fun h=>hq (beq_iff_eq.1 h))]
end Go.Own
