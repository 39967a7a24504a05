/- Own contracts. Conditions: as each theorem states them. -/
import Derived.Test.YtnmkpepdacbfaaaGreatDoorRc22
set_option linter.unusedSimpArgs false
set_option linter.unusedVariables false
set_option maxRecDepth 20000
set_option maxHeartbeats 4000000
namespace Go.Own
open Go Go.Proofs
attribute [local go_sem] Qh Qe Qaa Qac Qab Qaf QaX QdJ Qu
theorem QzV:∀x y:Fin 32,0≤Q6 .or .i64 ((x.val:Nat):Int) ((y.val:Nat):Int)∧Q6 .or .i64 ((x.val:Nat):Int) ((y.val:Nat):Int)≤31:=by decide+kernel
theorem QDR{x y:Int}(hx:R5 x)(hy:R5 y):R5 (Q6 .or .i64 x y):=by
 obtain⟨x,rfl⟩:=hx.fin;obtain⟨y,rfl⟩:=hy.fin;exact QzV x y
theorem Qcr{p:Int→Bool}{x:Nat}:(rng (x+1)).filter p=(rng x).filter p++(if p x then [(x:Int)]else []):=by
 rw[Qp4,List.filter_append,List.filter_cons,List.filter_nil]
theorem Qbg{p:Int→Bool}{x:Nat}:((rng x).filter p).length≤x:=by
 have:=List.length_filter_le p (rng x)
 rw[Qj7]at this;exact this
end Go.Own

namespace Go.Own
open Go Go.Proofs
attribute [local go_sem] Qdh Qag QyL Tryz.results30 Qy Qcw QqH Tryz.results170 Qfs Qg1 Tryz.results15 Qjy Tryz.results114
def Qmm(c:Int)(rs:List (List Int))(m x:Int):Bool:=(Qg5 c rs m x).length==0
def QCm(c:Int)(rs:List (List Int))(m x:Int):Bool:=QK c rs&&QH m&&Ql c x&&Qmm c rs m x
def Qpu(c:Int)(rs:List (List Int))(m:Int):List Int:=if QK c rs&&QH m then Qcb QaF ((rng (2^c.toNat)).filter (Qmm c rs m))else []
def QyQ:Qb:=⟨[],false,fun
 | [.agg [.v (.int .i64 c),.sl 1 t],.one (.v (.int .i64 m)),.one (.v (.int .i64 x))]=>some (WfS t∧ -9223372036854775808≤c∧c≤9223372036854775807∧ -9223372036854775808≤x∧x≤9223372036854775807,[⟨false,[.d (.v (.bool (QCm c (unS t) m x)))]⟩],[])
 | _=>none⟩
attribute [local go_sem] QyQ
def Qvu:Qb:=⟨[],false,fun
 | [.agg [.v (.int .i64 c),.sl 1 t],.one (.v (.int .i64 m))]=>some (WfS t∧ -9223372036854775808≤c∧c≤9223372036854775807,[⟨false,[.own 1 (iL (Qpu c (unS t) m)) 1]⟩],[])
 | _=>none⟩
attribute [local go_sem] Qvu
theorem QcM{c:Int}{rs:List (List Int)}{m x:Int}{a b d:Bool}(ha:QK c rs=a)(hb:QH m=b)(hd:Ql c x=d):QCm c rs m x=(a&&b&&d&&Qmm c rs m x):=by
 unfold QCm;rw[ha,hb,hd]
theorem QAH:Qa E0 30 QyQ:=by
 refine QE (E:=E0) (T:=mkT Tryz.prog [(27,Qdh),(66,Qag),(67,QyL)] false (fun _=>false) true (fun _=>false)) (Qd (E:=E0) (.cons Qdn (.cons Qb9 (.cons Qsv .nil)))) (fn:=Tryz.f30) Tryz.func30 (by kernel_rfl) rfl Qc (by kernel_rfl) rfl ?_
 intro args p rs ms hr;unfold QyQ at hr;dsimp only at hr;split at hr;rotate_left
 ·cases hr
 rename_i c t m x;cases hr;refine⟨rfl,rfl,nLe rfl,?_⟩
 have hm:=mxE;rintro⟨h1,hc1,hc2,hx1,hx2⟩ bs;obtain⟨rs,rfl,hx,hy⟩:=h1.ex;clear h1;rw[Qz];cases ht:QK c rs
 ·rw[QcM ht rfl rfl,Bool.false_and,Bool.false_and,Bool.false_and]
  (repeat' first|refine gA fun _=>?_|apply fkI<;>intro hb<;>try simp only[ew,ht]at hb|simp only[go_sem,simprocAttr, *,ht])
  all_goals first|rfl|skip
 ·cases hm:QH m
  ·rw[QcM ht hm rfl,Bool.and_false,Bool.false_and,Bool.false_and]
   (repeat' first|refine gA fun _=>?_|apply fkI<;>intro hb<;>try simp only[ew,ht,hm]at hb|simp only[go_sem,simprocAttr, *,ht])
   all_goals first|rfl|skip
  ·cases hd:Ql c x
   ·rw[QcM ht hm hd,Bool.and_false,Bool.false_and]
    (repeat' first|refine gA fun _=>?_|apply fkI<;>intro hb<;>try simp only[ew,ht,hm,hd]at hb|simp only[go_sem,simprocAttr, *,ht,hd])
    all_goals first|rfl|skip
   ·rw[QcM ht hm hd]
    have e0:(((Qg5 c rs m x).length:Int)==0)=Qmm c rs m x:=by
     unfold Qmm;rw[Bool.eq_iff_iff,beq_iff_eq,beq_iff_eq];omega
    have e1:(ouK (sam c.toNat rs m x) rs.length rs.length).1=Qg5 c rs m x:=rfl
    simp only[Bool.and_self,Bool.true_and]
    (repeat' first|refine gA fun _=>?_|apply fkI<;>intro hb<;>try simp only[ew,ht,hm,hd,e0,e1]at hb|simp only[go_sem,simprocAttr, *,ht,hd])
    all_goals first|rfl|skip
theorem QAG:Qa E0 170 QyQ:=by
 refine QE (E:=E0) (T:=mkT Tryz.prog [(138,Qy),(139,Qcw),(154,Qag),(201,QqH)] false (fun _=>false) true (fun _=>false)) (Qd (E:=E0) (.cons Qa5 (.cons Qb2 (.cons QbI (.cons QpT .nil))))) (fn:=Tryz.f170) Tryz.func170 (by kernel_rfl) rfl Qc (by kernel_rfl) rfl ?_
 intro args p rs ms hr;unfold QyQ at hr;dsimp only at hr;split at hr;rotate_left
 ·cases hr
 rename_i c t m x;cases hr;refine⟨rfl,rfl,nLe rfl,?_⟩
 have hm:=mxE;rintro⟨h1,hc1,hc2,hx1,hx2⟩ bs;obtain⟨rs,rfl,hx,hy⟩:=h1.ex;clear h1;rw[Qz];cases ht:QK c rs
 ·rw[QcM ht rfl rfl,Bool.false_and,Bool.false_and,Bool.false_and]
  (repeat' first|refine gA fun _=>?_|apply fkI<;>intro hb<;>try simp only[ew,ht]at hb|simp only[go_sem,simprocAttr, *,ht])
  all_goals first|rfl|skip
 ·cases hm:QH m
  ·rw[QcM ht hm rfl,Bool.and_false,Bool.false_and,Bool.false_and]
   (repeat' first|refine gA fun _=>?_|apply fkI<;>intro hb<;>try simp only[ew,ht,hm]at hb|simp only[go_sem,simprocAttr, *,ht])
   all_goals first|rfl|skip
  ·cases hd:Ql c x
   ·rw[QcM ht hm hd,Bool.and_false,Bool.false_and]
    (repeat' first|refine gA fun _=>?_|apply fkI<;>intro hb<;>try simp only[ew,ht,hm,hd]at hb|simp only[go_sem,simprocAttr, *,ht,hd])
    all_goals first|rfl|skip
   ·rw[QcM ht hm hd]
    have e0:(((Qg5 c rs m x).length:Int)==0)=Qmm c rs m x:=by
     unfold Qmm;rw[Bool.eq_iff_iff,beq_iff_eq,beq_iff_eq];omega
    simp only[Bool.and_self,Bool.true_and]
    (repeat' first|refine gA fun _=>?_|apply fkI<;>intro hb<;>try simp only[ew,ht,hm,hd,e0]at hb|simp only[go_sem,simprocAttr, *,ht,hd])
    all_goals first|rfl|skip
theorem QwZ{p:Int→Bool}{k:Nat}:(rng (k+1)).filter p=(rng k).filter p++(if p (k:Nat)then [((k:Nat):Int)]else []):=Qcr
theorem QzM:Qa E0 15 Qvu:=by
 refine QE (E:=E0) (T:=mkT Tryz.prog [(27,Qdh),(24,Qfs),(30,QyQ),(31,Qg1)] false (fun _=>false) true (fun _=>false)) (Qd (E:=E0) (.cons Qdn (.cons Qf0 (.cons QAH (.cons QtF .nil))))) (fn:=Tryz.f15) Tryz.func15 (by kernel_rfl) rfl Qc (by kernel_rfl) rfl ?_
 intro args p rs ms hr;unfold Qvu at hr;dsimp only at hr;split at hr;rotate_left
 ·cases hr
 rename_i c t m;cases hr;refine⟨rfl,rfl,nLe rfl,?_⟩
 have hm:=mxE;rintro⟨h1,hc1,hc2⟩ bs;obtain⟨rs,rfl,hx,hy⟩:=h1.ex;clear h1;rw[Qz];have e0:iL []=[]:=rfl
 cases hv:QK c rs&&QH m
 ·have e:Qpu c rs m=[]:=by unfold Qpu;rw[hv,if_neg (by decide)]
  rw[e];clear e;(repeat' first|refine gA fun _=>?_|apply fkI<;>intro hb<;>try simp only[ew,hv,e0]at hb|simp only[go_sem,simprocAttr, *,hv])
  refine lpI {ι:=Unit,rs:=[(8,28)],mods:=[(6,fun _=> .one (.d (.v (.int .i64 0)))),(5,fun _=> .one (.own 1 [] 1))],boxes:=[(2,fun _=>[.d (.v (.int .i64 c)),.d (.sl 1 (sL rs))])],arrs:=[],ok:=fun _=>True,mu:=fun _=>0} rfl () trivial ?_ fun _ _=>?_
  ·(repeat' first|refine gA fun _=>?_|apply fkI<;>intro hb<;>try simp only[ew,hv]at hb|simp only[go_sem,simprocAttr, *,hv])
  ·have e2:Qcb QaF []=[]:=rfl
   have e3:unI []=[]:=rfl
   have w0:WfI []:=⟨rfl,Nat.zero_le _⟩
   (repeat' first|refine gA fun _=>?_|apply fkI<;>intro hb<;>try simp only[ew,hv,e0,e2,e3]at hb|simp only[go_sem,simprocAttr, *,hv])
   all_goals first|rfl|skip
 ·have hv0:=hv
  rw[Bool.and_eq_true]at hv0;obtain⟨ht,hmo⟩:=hv0;obtain⟨C,rfl,c1,c5,h40,hlen⟩:=QL ht;have e:Qpu (C:Nat) rs m=Qcb QaF ((rng (2^C)).filter (Qmm (C:Nat) rs m)):=by unfold Qpu;rw[hv,if_pos rfl,Int.toNat_natCast]
  rw[e];clear e;have hA:QcQ ((C:Nat):Int)=((2^C:Nat):Int)-1:=by
   have:C=1∨C=2∨C=3∨C=4∨C=5:=by omega
   rcases this with rfl|rfl|rfl|rfl|rfl<;>rfl
  have hM2:2^C≤32:=Nat.le_trans (Nat.pow_le_pow_right (by omega) c5) (by decide)
  have hU:∀x:Nat,x<2^C→QCm (C:Nat) rs m (x:Nat)=Qmm (C:Nat) rs m (x:Nat):=fun x hx=>by
   have hat:Ql (C:Nat) (x:Nat)=true:=by
    unfold Ql;rw[hA,Qi.2 ⟨by omega,by omega⟩,Qi.2 ⟨by omega,by omega⟩];rfl
   rw[QcM ht hmo hat,Bool.and_self,Bool.and_self,Bool.true_and]
  generalize 2^C=M at hM2 hU hA ⊢;generalize hK:Qmm (C:Nat) rs m=K at hU ⊢;(repeat' first|refine gA fun _=>?_|apply fkI<;>intro hb<;>try simp only[ew,hv,e0]at hb|simp only[go_sem,simprocAttr, *,hv])
  refine lpI {ι:=Nat,rs:=[(8,28)],mods:=[(6,fun x=> .one (.d (.v (.int .i64 x)))),(5,fun x=> .one (.own 1 (iL ((rng x).filter K)) 1))],boxes:=[(2,fun _=>[.d (.v (.int .i64 (C:Nat))),.d (.sl 1 (sL rs))])],arrs:=[],ok:=fun x=>x≤M,mu:=fun x=>M-x} rfl 0 (Nat.zero_le _) ?_ fun x hx=>?_
  ·(repeat' first|refine gA fun _=>?_|apply fkI<;>intro hb<;>try simp only[ew,e0]at hb|simp only[go_sem,simprocAttr, *])
   all_goals first|rfl|skip
  ·dsimp only at x hx
   have hl:=@Qbg K x
   have hl2:((rng x).filter K).length≤maxLen:=Nat.le_trans (show _≤32 by omega) (by decide)
   by_cases h5:x<M
   ·have hux:=hU x h5
    have hs:=@QwZ K x
    have hd:decide (((x:Nat):Int)≤((M:Nat):Int)-1)=true:=decide_eq_true (by omega)
    clear hU;generalize hF:(rng x).filter K=F at hl hl2 hs ⊢;cases hk:K (x:Nat)
    ·rw[hk,if_neg (by decide),List.append_nil]at hs
     rw[hk]at hux;(repeat' first|refine gA fun _=>?_|apply fkI<;>intro hb<;>try simp only[ew,hv,hd,hux]at hb|simp only[go_sem,simprocAttr, *,hv])
     refine lpN (x+1) (by omega) (by dsimp only;omega) ?_
     (repeat' first|refine gA fun _=>?_|apply fkI<;>intro hb<;>try simp only[ew,hs]at hb|simp only[go_sem,simprocAttr, *])
    ·rw[hk,if_pos rfl]at hs
     rw[hk]at hux;have es:iL F++[[D.v (.int .i64 x)]]=iL (F++[((x:Nat):Int)]):=by simp[iL]
     (repeat' first|refine gA fun _=>?_|apply fkI<;>intro hb<;>try simp only[ew,hv,hd,hux,es]at hb|simp only[go_sem,simprocAttr, *,hv])
     refine lpN (x+1) (by omega) (by dsimp only;omega) ?_
     (repeat' first|refine gA fun _=>?_|apply fkI<;>intro hb<;>try simp only[ew,hs,es]at hb|simp only[go_sem,simprocAttr, *])
   ·have e5:x=M:=by omega
    subst e5;have hd:decide (((x:Nat):Int)≤((x:Nat):Int)-1)=false:=decide_eq_false (by omega)
    clear hU;(repeat' first|refine gA fun _=>?_|apply fkI<;>intro hb<;>try simp only[ew,hv,hd]at hb|simp only[go_sem,simprocAttr, *,hv])
    all_goals first|rfl|skip
theorem QzZ:∀n:Fin 6,(∀x∈pbs n.val,x∈rng (2^n.val))∧∀x∈rng (2^n.val),x∈pbs n.val:=by decide+kernel
theorem Qum{t:Int→Int→Bool}{l m:List Int}(h:∀x,x∈l↔x∈m)(hl:l.length≤100)(hm:m.length≤100):Qcb t l=Qcb t m:=by
 have hs:∀p:Int→Bool,l.all p=m.all p:=fun p=>by
  rw[Bool.eq_iff_iff,List.all_eq_true,List.all_eq_true];exact⟨fun q x hx=>q x ((h x).2 hx),fun q x hx=>q x ((h x).1 hx)⟩
 have e1:QaB l=QaB m:=by
  unfold QaB;rw[hs,decide_eq_true (show((l.length:Nat):Int)≤100 by omega),decide_eq_true (show((m.length:Nat):Int)≤100 by omega)]
 unfold Qcb;rw[e1];split
 ·refine QbL Qat Qat fun z=>?_
  rw[Qai,Qai,List.mem_filter,List.mem_filter,h z,hs]
 ·rfl
theorem QzL:Qa E0 114 Qvu:=by
 refine QE (E:=E0) (T:=mkT Tryz.prog [(138,Qy),(139,Qcw),(169,Qjy),(170,QyQ),(171,Qg1)] false (fun _=>false) true (fun _=>false)) (Qd (E:=E0) (.cons Qa5 (.cons Qb2 (.cons Qn9 (.cons QAG (.cons QpH .nil)))))) (fn:=Tryz.f114) Tryz.func114 (by kernel_rfl) rfl Qc (by kernel_rfl) rfl ?_
 intro args p rs ms hr;unfold Qvu at hr;dsimp only at hr;split at hr;rotate_left
 ·cases hr
 rename_i c t m;cases hr;refine⟨rfl,rfl,nLe rfl,?_⟩
 have hm:=mxE;rintro⟨h1,hc1,hc2⟩ bs;obtain⟨rs,rfl,hx,hy⟩:=h1.ex;clear h1;rw[Qz];have e0:iL []=[]:=rfl
 cases hv:QK c rs&&QH m
 ·have e:Qpu c rs m=[]:=by unfold Qpu;rw[hv,if_neg (by decide)]
  have e6:(!QK c rs|| !QH m)=true:=by rw[←Bool.not_and,hv];rfl
  rw[e];clear e hv;(repeat' first|refine gA fun _=>?_|apply fkI<;>intro hb<;>try simp only[ew,e6,e0]at hb|simp only[go_sem,simprocAttr, *])
  all_goals first|rfl|skip
 ·have e6:(!QK c rs|| !QH m)=false:=by rw[←Bool.not_and,hv];rfl
  have hv0:=hv
  rw[Bool.and_eq_true]at hv0;obtain⟨ht,hmo⟩:=hv0;obtain⟨C,rfl,c1,c5,h40,hlen⟩:=QL ht;clear hlen;have e:Qpu (C:Nat) rs m=Qcb QaF ((rng (2^C)).filter (Qmm (C:Nat) rs m)):=by unfold Qpu;rw[hv,if_pos rfl,Int.toNat_natCast]
  rw[e];clear e hv;have hA:QcQ ((C:Nat):Int)=((2^C:Nat):Int)-1:=by
   have:C=1∨C=2∨C=3∨C=4∨C=5:=by omega
   rcases this with rfl|rfl|rfl|rfl|rfl<;>rfl
  have hM2:2^C≤32:=Nat.le_trans (Nat.pow_le_pow_right (by omega) c5) (by decide)
  obtain⟨b1,b2⟩:=QzZ ⟨C,by omega⟩
  dsimp only at b1 b2;have hP:Q3 (C:Nat)=pbs C:=by unfold Q3;rw[if_pos (Qi.2 ⟨by omega,by omega⟩),Int.toNat_natCast]
  obtain⟨P1,P2,P3⟩:=@QD (C:Nat);have hU:∀k,k<(Q3 (C:Nat)).length→QCm (C:Nat) rs m ((Q3 (C:Nat)).getD k 0)=Qmm (C:Nat) rs m ((Q3 (C:Nat)).getD k 0):=fun k hk=>by
   have hm:=Qt9 (b1 _ (by rw[←hP];exact QP hk 0))
   have hat:Ql (C:Nat) ((Q3 (C:Nat)).getD k 0)=true:=by
    unfold Ql;rw[hA,Qi.2 ⟨by omega,by omega⟩,Qi.2 ⟨by omega,by omega⟩];rfl
   rw[QcM ht hmo hat,Bool.and_self,Bool.and_self,Bool.true_and]
  have hE:Qcb QaF ((Q3 (C:Nat)).filter (Qmm (C:Nat) rs m))=Qcb QaF ((rng (2^C)).filter (Qmm (C:Nat) rs m)):=by
   refine Qum (fun x=>?_) ?_ ?_
   ·rw[List.mem_filter,List.mem_filter,hP]
    exact⟨fun q=>⟨b1 x q.1,q.2⟩,fun q=>⟨b2 x q.1,q.2⟩⟩
   ·have:=@List.length_filter_le _ (Qmm (C:Nat) rs m) (Q3 (C:Nat));omega
   ·have:=@Qbg (Qmm (C:Nat) rs m) (2^C);omega
  rw[←hE];clear hE b1 b2 hA hM2 P2 ht hmo hP;generalize hK:Qmm (C:Nat) rs m=K at hU ⊢;have P1':(Q3 (C:Nat)).length≤maxLen:=Nat.le_trans P1 (by decide)
  generalize hQ:Q3 (C:Nat)=Q at hU P1 P3 P1';(repeat' first|refine gA fun _=>?_|apply fkI<;>intro hb<;>try simp only[ew,e6,e0,hQ]at hb|simp only[go_sem,simprocAttr, *])
  refine lpI {ι:=Nat,rs:=[(7,8),(23,35)],mods:=[(22,fun k=> .one (.d (.v (.int .i64 k)))),(5,fun k=> .one (.own 1 (iL ((Q.take k).filter K)) 1))],boxes:=[(2,fun _=>[.d (.v (.int .i64 (C:Nat))),.d (.sl 1 (sL rs))])],arrs:=[(20,fun _=>(1,iL Q,1))],ok:=fun k=>k≤Q.length,mu:=fun k=>Q.length-k} rfl 0 (Nat.zero_le _) ?_ fun k hk=>?_
  ·(repeat' first|refine gA fun _=>?_|apply fkI<;>intro hb<;>try simp only[ew,e0,hQ,List.take_zero,List.filter_nil]at hb|simp only[go_sem,simprocAttr, *,List.take_zero,List.filter_nil])
   all_goals first|rfl|skip
  ·dsimp only at k hk
   have hl:((Q.take k).filter K).length≤maxLen:=Nat.le_trans (List.length_filter_le _ _) (by rw[List.length_take];omega)
   by_cases h5:k<Q.length
   ·have hu:=hU k h5
    have hr:=P3 k h5
    have hs:(Q.take (k+1)).filter K=(Q.take k).filter K++(if K (Q.getD k 0)then [Q.getD k 0]else []):=by
     rw[Qf h5 0,List.filter_append];congr 1
     by_cases hk0:K (Q.getD k 0)=true
     ·rw[if_pos hk0,List.filter_cons_of_pos hk0];rfl
     ·rw[if_neg hk0,List.filter_cons_of_neg hk0];rfl
    have hl2:((Q.take k).filter K).length≤32:=Nat.le_trans (List.length_filter_le _ _) (by rw[List.length_take];omega)
    clear hU P3;generalize hF:(Q.take k).filter K=F at hl hl2 hs ⊢;generalize hX:Q.getD k 0=x at hu hr hs;cases hk0:K x
    ·rw[hk0,if_neg (by decide),List.append_nil]at hs
     rw[hk0]at hu;(repeat' first|refine gA fun _=>?_|apply fkI<;>intro hb<;>try simp only[ew,hF,hX,hu]at hb|simp only[go_sem,simprocAttr, *])
     refine lpN (k+1) (by dsimp only;omega) (by dsimp only;omega) ?_
     (repeat' first|refine gA fun _=>?_|apply fkI<;>intro hb<;>try simp only[ew,hs]at hb|simp only[go_sem,simprocAttr, *])
    ·rw[hk0,if_pos rfl]at hs
     rw[hk0]at hu;have es:iL F++[[D.v (.int .i64 x)]]=iL (F++[x]):=by simp[iL]
     (repeat' first|refine gA fun _=>?_|apply fkI<;>intro hb<;>try simp only[ew,hF,hX,hu,es]at hb|simp only[go_sem,simprocAttr, *])
     refine lpN (k+1) (by dsimp only;omega) (by dsimp only;omega) ?_
     (repeat' first|refine gA fun _=>?_|apply fkI<;>intro hb<;>try simp only[ew,hs,es]at hb|simp only[go_sem,simprocAttr, *])
   ·have e5:k=Q.length:=by omega
    subst e5;have hT:Q.take Q.length=Q:=List.take_length
    rw[hT]at hl;clear hU P3;(repeat' first|refine gA fun _=>?_|apply fkI<;>intro hb<;>try simp only[ew,hT]at hb|simp only[go_sem,simprocAttr, *])
    all_goals first|rfl|skip
end Go.Own
