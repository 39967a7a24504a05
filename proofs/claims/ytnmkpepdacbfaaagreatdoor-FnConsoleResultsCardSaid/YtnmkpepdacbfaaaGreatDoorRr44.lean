/-
  The program's console: what its methods do. Conditions: as each theorem states them.
-/
import Derived.Test.YtnmkpepdacbfaaaGreatDoorRr43
set_option linter.unusedSimpArgs false
set_option linter.unusedVariables false
set_option maxRecDepth 20000
set_option maxHeartbeats 4000000
namespace Go.Own
open Go Go.Proofs
attribute [local go_sem] cDL QtJ cSL Qw2 Qpy Qc1 Qw3 QzM Tryz.results60 cWl Qs3 QzI Qkf Tryz.results59
theorem QdP{w:ByteArray}:(w.toList==ByteArray.toList ⟨#[97,112,97,114,116]⟩)=isW w Qea:=rfl
theorem QdQ{w:ByteArray}:(w.toList==ByteArray.toList ⟨#[101,113,117,97,108]⟩)=isW w Qeb:=rfl
theorem Qcj{w:ByteArray}:(w.toList==ByteArray.toList ⟨#[99,111,108,117,109,110,115]⟩)=isW w Qbz:=rfl
theorem Qgo{w:ByteArray}:(w.toList==ByteArray.toList ⟨#[114,111,119]⟩)=isW w Qla:=rfl
theorem QeL{w:ByteArray}:(w.toList==ByteArray.toList ⟨#[99,101,108,108]⟩)=isW w Qry:=rfl
theorem QeM{w:ByteArray}:(w.toList==ByteArray.toList ⟨#[100,114,111,112]⟩)=isW w QeQ:=rfl
theorem QoT{w:ByteArray}:(w.toList==ByteArray.toList ⟨#[99,104,101,99,107]⟩)=isW w Qwc:=rfl
theorem QoW{w:ByteArray}:(w.toList==ByteArray.toList ⟨#[103,105,118,101,110]⟩)=isW w Qwf:=rfl
theorem Qkv{w:ByteArray}:(w.toList==ByteArray.toList ⟨#[105,109,112,108,105,101,100]⟩)=isW w Qnt:=rfl
theorem Qq7{w:ByteArray}:(w.toList==ByteArray.toList ⟨#[100,101,112,115]⟩)=isW w Qhe:=rfl
theorem Qq8{w:ByteArray}:(w.toList==ByteArray.toList ⟨#[107,101,121,115]⟩)=isW w Qhf:=rfl
theorem QoS{w:ByteArray}:(w.toList==ByteArray.toList ⟨#[97,103,114,101,101]⟩)=isW w Qwb:=rfl
theorem Qq9{w:ByteArray}:(w.toList==ByteArray.toList ⟨#[115,105,122,101]⟩)=isW w QAj:=rfl
theorem Qrb{w:ByteArray}:(w.toList==ByteArray.toList ⟨#[116,97,107,101]⟩)=isW w QAk:=rfl
theorem QoU{w:ByteArray}:(w.toList==ByteArray.toList ⟨#[99,108,101,97,114]⟩)=isW w Qwd:=rfl
theorem QoV{w:ByteArray}:(w.toList==ByteArray.toList ⟨#[99,111,118,101,114]⟩)=isW w Qwe:=rfl
theorem QlS{w:ByteArray}:(w.toList==ByteArray.toList ⟨#[115,99,104,101,109,97]⟩)=isW w Qrz:=rfl
theorem QcF{σ:Con}(h:Qdm σ):(0≤σ.c∧σ.c≤5)∧σ.rs.length≤40∧(∀r∈σ.rs,r.length≤5)∧σ.ds.length≤160∧σ.gv.length≤20:=by
 have hd:=QvU h
 rcases h.1 with k|k
 ·rw[k.1,k.2.1]
  exact⟨⟨by decide,by decide⟩,by simp,by simp,hd,h.2.1⟩
 ·obtain⟨t,_,_⟩:=QaD k
  obtain⟨t1,t2⟩:=Qcd t;obtain⟨n,e,n1,n5,_⟩:=QR t;exact⟨⟨by omega,by omega⟩,t1,t2,hd,h.2.1⟩
def Qs7(z:Con×ByteArray):List RV:=[⟨true,[.d (.v (.int .i64 z.1.c)),.d (.sl 1 (sL z.1.rs)),.d (.v (.int .i64 z.1.m)),.d (.sl 2 (dL z.1.ds)),.d (.sl 2 (dL z.1.gv))]⟩,⟨false,[.d (.v (.string z.2))]⟩]
theorem QvX{ds:List (Int×Int)}{a b:Int}:dL ds++[[D.v (.int .i64 a),D.v (.int .i64 b)]]=dL (ds++[(a,b)]):=by simp[dL]
theorem QdE:sL []=[]:=rfl
theorem Qdo:dL []=[]:=rfl
attribute [local go_sem] QdP QdQ Qcj Qgo QeL QeM QoT QoW Qkv Qq7 Qq8 QoS Qq9 Qrb QoU QoV QlS Qs7 Qm Qc QZ Q1 Q0 Q3 QaH Qdb Qr Qbp Qz Qbm Qcu Qf3 QhJ QhI Qew
def QzP:Qb:=⟨[],true,fun
 | [.agg [.v (.int .i64 c),.sl 1 l,.v (.int .i64 m),.sl 2 q,.sl 2 g],.one (.v (.string w))]=>some ((WfS l∧WfD q∧WfD g)∧Qdm ⟨c,unS l,m,unD q,unD g⟩,Qs7 (QvA ⟨c,unS l,m,unD q,unD g⟩ w),[])
 | _=>none⟩
attribute [local go_sem] QzP
theorem QA1:Qa E0 60 QzP:=by
 refine QV (E:=E0) (T:=mkT Tryz.prog [(112,cDL),(114,QtJ),(113,cSL),(103,Qw2),(99,Qpy),(108,Qc1),(115,Qw3),(116,QzM)] false (fun _=>false) true (fun d=>d==998)) (Qf (E:=E0) (.cons QzY (.cons Qx2 (.cons Qwq (.cons QpW (.cons Qmg (.cons QeH (.cons QqF (.cons QyE .nil))))))))) (fn:=Tryz.f60) Tryz.func60 (by kernel_rfl) rfl Qe (by kernel_rfl) rfl ?_
 intro args p rs ms hr;unfold QzP at hr;dsimp only at hr;split at hr;rotate_left
 ·cases hr
 rename_i c l m q g w;cases hr;refine⟨rfl,rfl,nLe rfl,?_⟩
 have hm:=mxE;rintro⟨⟨h1,h2,h3⟩,hc⟩ bs;obtain⟨rs,rfl,hx,hy⟩:=h1.ex;obtain⟨ds,rfl,hd⟩:=h2.ex;obtain⟨gv,rfl,hg⟩:=h3.ex;clear h1 h2 h3;rw[QG,Qm,Qm]at hc ⊢;obtain⟨⟨c0,c5⟩,r40,r5,d160,g20⟩:=QcF hc;dsimp only at c0 c5 r40 r5 d160 g20;clear hc r5;generalize hZ:QvA ⟨c,rs,m,ds,gv⟩ w=Z;unfold QvA at hZ;dsimp only at hZ;split at hZ
 ·rename_i k1
  subst hZ;exact gQ
 rename_i k1;rw[Bool.not_eq_true]at k1;split at hZ
 ·rename_i k2
  subst hZ;have f1:=@Qhg c rs m
  generalize hK:Qj0 c rs m=xs at f1;have f2:xs.length≤maxLen:=Nat.le_trans f1 (by decide)
  (repeat' first|refine gA fun _=>?_|apply fkI<;>intro hb<;>try simp only[ew,hK]at hb|simp only[go_sem,simprocAttr, *,hK])
  all_goals first|rfl|skip
 rename_i k2;rw[Bool.not_eq_true]at k2;split at hZ
 ·rename_i k3
  subst hZ;have f1:=(@QgE c rs m).1
  generalize hK:Qk8 c rs m=xs at f1;have f2:xs.length≤maxLen:=Nat.le_trans f1 (by decide)
  (repeat' first|refine gA fun _=>?_|apply fkI<;>intro hb<;>try simp only[ew,hK]at hb|simp only[go_sem,simprocAttr, *,hK])
  all_goals first|rfl|skip
 rename_i k3;rw[Bool.not_eq_true]at k3;split at hZ
 ·rename_i k4
  subst hZ;exact gQ
 rename_i k4;rw[Bool.not_eq_true]at k4;split at hZ
 ·rename_i k5
  split at hZ
  ·rename_i k6
   subst hZ;exact gQ
  ·rename_i k6
   rw[Bool.not_eq_true]at k6;subst hZ;exact gQ
 rename_i k5;rw[Bool.not_eq_true]at k5;split at hZ
 ·rename_i k6
  subst hZ;(repeat' first|refine gA fun _=>?_|apply fkI<;>intro hb<;>try simp only[ew,Qdo]at hb|simp only[go_sem,simprocAttr, *,Qdo])
  all_goals first|rfl|skip
 rename_i k6;rw[Bool.not_eq_true]at k6;split at hZ
 ·rename_i k7
  subst hZ;have f1:=(@Qfo c gv).2
  generalize hK:QjZ c gv=xs at f1;have f2:xs.length≤maxLen:=Nat.le_trans f1 (by decide)
  (repeat' first|refine gA fun _=>?_|apply fkI<;>intro hb<;>try simp only[ew,hK]at hb|simp only[go_sem,simprocAttr, *,hK])
  all_goals first|rfl|skip
 rename_i k7;rw[Bool.not_eq_true]at k7;split at hZ
 ·rename_i k8
  subst hZ;exact gQ
 ·rename_i k8
  rw[Bool.not_eq_true]at k8;subst hZ;exact gQ
def Qqb:Qb:=⟨[],true,fun
 | [.agg [.v (.int .i64 c),.sl 1 l,.v (.int .i64 m),.sl 2 q,.sl 2 g],.one (.v (.string w)),.agg [.v (.int .i64 a),.v (.int .i64 b)]]=>some ((WfS l∧WfD q∧WfD g)∧Qdm ⟨c,unS l,m,unD q,unD g⟩,Qs7 (Qzc ⟨c,unS l,m,unD q,unD g⟩ w (a,b)),[])
 | _=>none⟩
attribute [local go_sem] Qqb
theorem QxW{α:Type}{xs:List α}:(((xs.length:Nat):Int)==0)=xs.isEmpty:=by cases xs<;>simp<;>omega
theorem QwQ:Qa E0 59 Qqb:=by
 refine QV (E:=E0) (T:=mkT Tryz.prog [(107,cWl),(108,Qc1),(99,Qpy),(109,Qs3),(110,QzI),(111,Qkf)] false (fun _=>false) true (fun d=>d==998)) (Qf (E:=E0) (.cons QA5 (.cons QeH (.cons Qmg (.cons QlX (.cons Qxt (.cons Ql3 .nil))))))) (fn:=Tryz.f59) Tryz.func59 (by kernel_rfl) rfl Qe (by kernel_rfl) rfl ?_
 intro args p rs ms hr;unfold Qqb at hr;dsimp only at hr;split at hr;rotate_left
 ·cases hr
 rename_i c l m q g w a b;cases hr;refine⟨rfl,rfl,nLe rfl,?_⟩
 have hm:=mxE;rintro⟨⟨h1,h2,h3⟩,hc⟩ bs;obtain⟨rs,rfl,hx,hy⟩:=h1.ex;obtain⟨ds,rfl,hd⟩:=h2.ex;obtain⟨gv,rfl,hg⟩:=h3.ex;clear h1 h2 h3;rw[QG,Qm,Qm]at hc ⊢;obtain⟨⟨c0,c5⟩,r40,r5,d160,g20⟩:=QcF hc;dsimp only at c0 c5 r40 r5 d160 g20;clear hc r5;generalize hZ:Qzc ⟨c,rs,m,ds,gv⟩ w (a,b)=Z;unfold Qzc at hZ;dsimp only at hZ;split at hZ
 ·rename_i k1
  subst hZ;exact gQ
 rename_i k1;rw[Bool.not_eq_true]at k1;split at hZ
 ·rename_i k2
  split at hZ
  ·rename_i k3
   subst hZ;have k3':(((gv.length:Nat):Int)==20)=true:=by
    rw[decide_eq_true_eq]at k3;rw[beq_iff_eq];omega
   clear k3;exact gQ
  ·rename_i k3
   rw[decide_eq_true_eq]at k3;subst hZ;have k3':(((gv.length:Nat):Int)==20)=false:=beq_eq_false_iff_ne.2 (by omega)
   have hl:(gv++[(a,b)]).length=gv.length+1:=by simp
   have hm2:gv.length+1≤maxLen:=Nat.le_trans (show _≤21 by omega) (by decide)
   clear k3;(repeat' first|refine gA fun _=>?_|apply fkI<;>intro hb<;>try simp only[ew,QvX,hl]at hb|simp only[go_sem,simprocAttr, *,QvX,hl])
   all_goals first|rfl|skip
 rename_i k2;rw[Bool.not_eq_true]at k2;split at hZ
 ·rename_i k3
  cases hi:Qpz c gv a b
  ·rw[hi,if_neg (by decide)]at hZ
   subst hZ;exact gQ
  ·rw[hi,if_pos rfl]at hZ
   have f1:=@QqW c gv a b
   have f3:=@Qm4 c gv a b
   generalize hK:Qui c gv a b=xs at f1 f3 hZ;have f2:xs.length≤maxLen:=Nat.le_trans f1 (by decide)
   have f4:xs.length≤16777216:=by omega
   have f5:(jb ⟨#[59,32]⟩ xs).size≤140737488355328:=by omega
   have fe:=@QxW _ xs
   cases he:xs.isEmpty
   ·rw[he]at fe
    rw[he,if_neg (by decide)]at hZ
    subst hZ;(repeat' first|refine gA fun _=>?_|apply fkI<;>intro hb<;>try simp only[ew,hK]at hb|simp only[go_sem,simprocAttr, *,hK])
    all_goals first|rfl|skip
   ·rw[he]at fe
    rw[he,if_pos rfl]at hZ;subst hZ;(repeat' first|refine gA fun _=>?_|apply fkI<;>intro hb<;>try simp only[ew,hK]at hb|simp only[go_sem,simprocAttr, *,hK])
    all_goals first|rfl|skip
 ·rename_i k3
  rw[Bool.not_eq_true]at k3;subst hZ;exact gQ
end Go.Own
