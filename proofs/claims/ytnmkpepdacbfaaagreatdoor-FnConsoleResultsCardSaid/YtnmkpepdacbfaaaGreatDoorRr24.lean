/-
  Keys: sets of columns on which no two rows agree. Conditions: as each theorem states them.
-/
import Derived.Test.YtnmkpepdacbfaaaGreatDoorRr16
import Derived.Test.YtnmkpepdacbfaaaGreatDoorRr23
set_option linter.unusedSimpArgs false
set_option linter.unusedVariables false
set_option maxRecDepth 20000
set_option maxHeartbeats 4000000
namespace Go.Own
open Go Go.Proofs
attribute [local go_sem] Qff Qak Qze Tryz.results30 Qs Qcg QoA Tryz.results170 Qfe QgQ Tryz.results15 Qkh Tryz.results114
def QkD(c:Int)(rs:List (List Int))(m x:Int):Bool:=(Qik c rs m x).length==0
def QA2(c:Int)(rs:List (List Int))(m x:Int):Bool:=QC c rs&&QJ m&&Qj c x&&QkD c rs m x
def Qj0(c:Int)(rs:List (List Int))(m:Int):List Int:=if QC c rs&&QJ m then QdG Qaw ((rng (2^c.toNat)).filter (QkD c rs m))else []
def Qw8:Qb:=⟨[],false,fun
 | [.agg [.v (.int .i64 c),.sl 1 t],.one (.v (.int .i64 m)),.one (.v (.int .i64 x))]=>some (WfS t∧ -9223372036854775808≤c∧c≤9223372036854775807∧ -9223372036854775808≤x∧x≤9223372036854775807,[⟨false,[.d (.v (.bool (QA2 c (unS t) m x)))]⟩],[])
 | _=>none⟩
attribute [local go_sem] Qw8
def QtJ:Qb:=⟨[],false,fun
 | [.agg [.v (.int .i64 c),.sl 1 t],.one (.v (.int .i64 m))]=>some (WfS t∧ -9223372036854775808≤c∧c≤9223372036854775807,[⟨false,[.own 1 (iL (Qj0 c (unS t) m)) 1]⟩],[])
 | _=>none⟩
attribute [local go_sem] QtJ
theorem Qcw{c:Int}{rs:List (List Int)}{m x:Int}{a b d:Bool}(ha:QC c rs=a)(hb:QJ m=b)(hd:Qj c x=d):QA2 c rs m x=(a&&b&&d&&QkD c rs m x):=by
 unfold QA2;rw[ha,hb,hd]
theorem QyX:Qa E0 30 Qw8:=by
 refine QV (E:=E0) (T:=mkT Tryz.prog [(27,Qff),(66,Qak),(67,Qze)] false (fun _=>false) true (fun _=>false)) (Qf (E:=E0) (.cons QlR (.cons QiA (.cons Qxg .nil)))) (fn:=Tryz.f30) Tryz.func30 (by kernel_rfl) rfl Qe (by kernel_rfl) rfl ?_
 intro args p rs ms hr;unfold Qw8 at hr;dsimp only at hr;split at hr;rotate_left
 ·cases hr
 rename_i c t m x;cases hr;refine⟨rfl,rfl,nLe rfl,?_⟩
 have hm:=mxE;rintro⟨h1,hc1,hc2,hx1,hx2⟩ bs;obtain⟨rs,rfl,hx,hy⟩:=h1.ex;clear h1;rw[QG];cases ht:QC c rs
 ·rw[Qcw ht rfl rfl,Bool.false_and,Bool.false_and,Bool.false_and]
  (repeat' first|refine gA fun _=>?_|apply fkI<;>intro hb<;>try simp only[ew,ht]at hb|simp only[go_sem,simprocAttr, *,ht])
  all_goals first|rfl|skip
 ·cases hm:QJ m
  ·rw[Qcw ht hm rfl,Bool.and_false,Bool.false_and,Bool.false_and]
   (repeat' first|refine gA fun _=>?_|apply fkI<;>intro hb<;>try simp only[ew,ht,hm]at hb|simp only[go_sem,simprocAttr, *,ht])
   all_goals first|rfl|skip
  ·cases hd:Qj c x
   ·rw[Qcw ht hm hd,Bool.and_false,Bool.false_and]
    (repeat' first|refine gA fun _=>?_|apply fkI<;>intro hb<;>try simp only[ew,ht,hm,hd]at hb|simp only[go_sem,simprocAttr, *,ht,hd])
    all_goals first|rfl|skip
   ·rw[Qcw ht hm hd]
    have e0:(((Qik c rs m x).length:Int)==0)=QkD c rs m x:=by
     unfold QkD;rw[Bool.eq_iff_iff,beq_iff_eq,beq_iff_eq];omega
    have e1:(ouK (sam c.toNat rs m x) rs.length rs.length).1=Qik c rs m x:=rfl
    simp only[Bool.and_self,Bool.true_and]
    (repeat' first|refine gA fun _=>?_|apply fkI<;>intro hb<;>try simp only[ew,ht,hm,hd,e0,e1]at hb|simp only[go_sem,simprocAttr, *,ht,hd])
    all_goals first|rfl|skip
theorem QyW:Qa E0 170 Qw8:=by
 refine QV (E:=E0) (T:=mkT Tryz.prog [(138,Qs),(139,Qcg),(154,Qak),(201,QoA)] false (fun _=>false) true (fun _=>false)) (Qf (E:=E0) (.cons QaO (.cons QbV (.cons Qbv (.cons QnQ .nil))))) (fn:=Tryz.f170) Tryz.func170 (by kernel_rfl) rfl Qe (by kernel_rfl) rfl ?_
 intro args p rs ms hr;unfold Qw8 at hr;dsimp only at hr;split at hr;rotate_left
 ·cases hr
 rename_i c t m x;cases hr;refine⟨rfl,rfl,nLe rfl,?_⟩
 have hm:=mxE;rintro⟨h1,hc1,hc2,hx1,hx2⟩ bs;obtain⟨rs,rfl,hx,hy⟩:=h1.ex;clear h1;rw[QG];cases ht:QC c rs
 ·rw[Qcw ht rfl rfl,Bool.false_and,Bool.false_and,Bool.false_and]
  (repeat' first|refine gA fun _=>?_|apply fkI<;>intro hb<;>try simp only[ew,ht]at hb|simp only[go_sem,simprocAttr, *,ht])
  all_goals first|rfl|skip
 ·cases hm:QJ m
  ·rw[Qcw ht hm rfl,Bool.and_false,Bool.false_and,Bool.false_and]
   (repeat' first|refine gA fun _=>?_|apply fkI<;>intro hb<;>try simp only[ew,ht,hm]at hb|simp only[go_sem,simprocAttr, *,ht])
   all_goals first|rfl|skip
  ·cases hd:Qj c x
   ·rw[Qcw ht hm hd,Bool.and_false,Bool.false_and]
    (repeat' first|refine gA fun _=>?_|apply fkI<;>intro hb<;>try simp only[ew,ht,hm,hd]at hb|simp only[go_sem,simprocAttr, *,ht,hd])
    all_goals first|rfl|skip
   ·rw[Qcw ht hm hd]
    have e0:(((Qik c rs m x).length:Int)==0)=QkD c rs m x:=by
     unfold QkD;rw[Bool.eq_iff_iff,beq_iff_eq,beq_iff_eq];omega
    simp only[Bool.and_self,Bool.true_and]
    (repeat' first|refine gA fun _=>?_|apply fkI<;>intro hb<;>try simp only[ew,ht,hm,hd,e0]at hb|simp only[go_sem,simprocAttr, *,ht,hd])
    all_goals first|rfl|skip
theorem Qvd{p:Int→Bool}{k:Nat}:(rng (k+1)).filter p=(rng k).filter p++(if p (k:Nat)then [((k:Nat):Int)]else []):=QdD
theorem Qx3:Qa E0 15 QtJ:=by
 refine QV (E:=E0) (T:=mkT Tryz.prog [(27,Qff),(24,Qfe),(30,Qw8),(31,QgQ)] false (fun _=>false) true (fun _=>false)) (Qf (E:=E0) (.cons QlR (.cons QiW (.cons QyX (.cons Qx1 .nil))))) (fn:=Tryz.f15) Tryz.func15 (by kernel_rfl) rfl Qe (by kernel_rfl) rfl ?_
 intro args p rs ms hr;unfold QtJ at hr;dsimp only at hr;split at hr;rotate_left
 ·cases hr
 rename_i c t m;cases hr;refine⟨rfl,rfl,nLe rfl,?_⟩
 have hm:=mxE;rintro⟨h1,hc1,hc2⟩ bs;obtain⟨rs,rfl,hx,hy⟩:=h1.ex;clear h1;rw[QG];have e0:iL []=[]:=rfl
 cases hv:QC c rs&&QJ m
 ·have e:Qj0 c rs m=[]:=by unfold Qj0;rw[hv,if_neg (by decide)]
  rw[e];clear e;(repeat' first|refine gA fun _=>?_|apply fkI<;>intro hb<;>try simp only[ew,hv,e0]at hb|simp only[go_sem,simprocAttr, *,hv])
  refine lpI {ι:=Unit,rs:=[(8,28)],mods:=[(6,fun _=> .one (.d (.v (.int .i64 0)))),(5,fun _=> .one (.own 1 [] 1))],boxes:=[(2,fun _=>[.d (.v (.int .i64 c)),.d (.sl 1 (sL rs))])],arrs:=[],ok:=fun _=>True,mu:=fun _=>0} rfl () trivial ?_ fun _ _=>?_
  ·(repeat' first|refine gA fun _=>?_|apply fkI<;>intro hb<;>try simp only[ew,hv]at hb|simp only[go_sem,simprocAttr, *,hv])
  ·have e2:QdG Qaw []=[]:=rfl
   have e3:unI []=[]:=rfl
   have w0:WfI []:=⟨rfl,Nat.zero_le _⟩
   (repeat' first|refine gA fun _=>?_|apply fkI<;>intro hb<;>try simp only[ew,hv,e0,e2,e3]at hb|simp only[go_sem,simprocAttr, *,hv])
   all_goals first|rfl|skip
 ·have hv0:=hv
  rw[Bool.and_eq_true]at hv0;obtain⟨ht,hmo⟩:=hv0;obtain⟨C,rfl,c1,c5,h40,hlen⟩:=QR ht;have e:Qj0 (C:Nat) rs m=QdG Qaw ((rng (2^C)).filter (QkD (C:Nat) rs m)):=by unfold Qj0;rw[hv,if_pos rfl,Int.toNat_natCast]
  rw[e];clear e;have hA:Qd5 ((C:Nat):Int)=((2^C:Nat):Int)-1:=by
   have:C=1∨C=2∨C=3∨C=4∨C=5:=by omega
   rcases this with rfl|rfl|rfl|rfl|rfl<;>rfl
  have hM2:2^C≤32:=Nat.le_trans (Nat.pow_le_pow_right (by omega) c5) (by decide)
  have hU:∀x:Nat,x<2^C→QA2 (C:Nat) rs m (x:Nat)=QkD (C:Nat) rs m (x:Nat):=fun x hx=>by
   have hat:Qj (C:Nat) (x:Nat)=true:=by
    unfold Qj;rw[hA,Qh.2 ⟨by omega,by omega⟩,Qh.2 ⟨by omega,by omega⟩];rfl
   rw[Qcw ht hmo hat,Bool.and_self,Bool.and_self,Bool.true_and]
  generalize 2^C=M at hM2 hU hA ⊢;generalize hK:QkD (C:Nat) rs m=K at hU ⊢;(repeat' first|refine gA fun _=>?_|apply fkI<;>intro hb<;>try simp only[ew,hv,e0]at hb|simp only[go_sem,simprocAttr, *,hv])
  refine lpI {ι:=Nat,rs:=[(8,28)],mods:=[(6,fun x=> .one (.d (.v (.int .i64 x)))),(5,fun x=> .one (.own 1 (iL ((rng x).filter K)) 1))],boxes:=[(2,fun _=>[.d (.v (.int .i64 (C:Nat))),.d (.sl 1 (sL rs))])],arrs:=[],ok:=fun x=>x≤M,mu:=fun x=>M-x} rfl 0 (Nat.zero_le _) ?_ fun x hx=>?_
  ·(repeat' first|refine gA fun _=>?_|apply fkI<;>intro hb<;>try simp only[ew,e0]at hb|simp only[go_sem,simprocAttr, *])
   all_goals first|rfl|skip
  ·dsimp only at x hx
   have hl:=@QbA K x
   have hl2:((rng x).filter K).length≤maxLen:=Nat.le_trans (show _≤32 by omega) (by decide)
   by_cases h5:x<M
   ·have hux:=hU x h5
    have hs:=@Qvd K x
    have hd:decide (((x:Nat):Int)≤((M:Nat):Int)-1)=true:=decide_eq_true (by omega)
    clear hU;generalize hF:(rng x).filter K=F at hl hl2 hs ⊢;cases hk:K (x:Nat)
    ·rw[hk,if_neg (by decide),List.append_nil]at hs
     rw[hk]at hux;(repeat' first|refine gA fun _=>?_|apply fkI<;>intro hb<;>try simp only[ew,hv,hd,hux]at hb|simp only[go_sem,simprocAttr, *,hv])
     refine lpN (x+1) (by omega) (by dsimp only;omega) ?_
     (repeat' first|refine gA fun _=>?_|apply fkI<;>intro hb<;>try simp only[ew,hs]at hb|simp only[go_sem,simprocAttr, *])
    ·rw[hk,if_pos rfl]at hs
     rw[hk]at hux;have es:iL F++[[D.v (.int .i64 x)]]=iL (F++[((x:Nat):Int)]):=by simp[iL]
     (repeat' first|refine gA fun _=>?_|apply fkI<;>intro hb<;>try simp only[ew,hv,hd,hux,es]at hb|simp only[go_sem,simprocAttr, *,hv])
     refine lpN (x+1) (by omega) (by dsimp only;omega) ?_
     (repeat' first|refine gA fun _=>?_|apply fkI<;>intro hb<;>try simp only[ew,hs,es]at hb|simp only[go_sem,simprocAttr, *])
   ·have e5:x=M:=by omega
    subst e5;have hd:decide (((x:Nat):Int)≤((x:Nat):Int)-1)=false:=decide_eq_false (by omega)
    clear hU;(repeat' first|refine gA fun _=>?_|apply fkI<;>intro hb<;>try simp only[ew,hv,hd]at hb|simp only[go_sem,simprocAttr, *,hv])
    all_goals first|rfl|skip
theorem Qyf:∀n:Fin 6,(∀x∈pbs n.val,x∈rng (2^n.val))∧∀x∈rng (2^n.val),x∈pbs n.val:=by decide+kernel
theorem Qsv{t:Int→Int→Bool}{l m:List Int}(h:∀x,x∈l↔x∈m)(hl:l.length≤100)(hm:m.length≤100):QdG t l=QdG t m:=by
 have hs:∀p:Int→Bool,l.all p=m.all p:=fun p=>by
  rw[Bool.eq_iff_iff,List.all_eq_true,List.all_eq_true];exact⟨fun q x hx=>q x ((h x).2 hx),fun q x hx=>q x ((h x).1 hx)⟩
 have e1:QaE l=QaE m:=by
  unfold QaE;rw[hs,decide_eq_true (show((l.length:Nat):Int)≤100 by omega),decide_eq_true (show((m.length:Nat):Int)≤100 by omega)]
 unfold QdG;rw[e1];split
 ·refine QcL Qa3 Qa3 fun z=>?_
  rw[Qbh,Qbh,List.mem_filter,List.mem_filter,h z,hs]
 ·rfl
theorem Qx2:Qa E0 114 QtJ:=by
 refine QV (E:=E0) (T:=mkT Tryz.prog [(138,Qs),(139,Qcg),(169,Qkh),(170,Qw8),(171,QgQ)] false (fun _=>false) true (fun _=>false)) (Qf (E:=E0) (.cons QaO (.cons QbV (.cons Qmj (.cons QyW (.cons QnG .nil)))))) (fn:=Tryz.f114) Tryz.func114 (by kernel_rfl) rfl Qe (by kernel_rfl) rfl ?_
 intro args p rs ms hr;unfold QtJ at hr;dsimp only at hr;split at hr;rotate_left
 ·cases hr
 rename_i c t m;cases hr;refine⟨rfl,rfl,nLe rfl,?_⟩
 have hm:=mxE;rintro⟨h1,hc1,hc2⟩ bs;obtain⟨rs,rfl,hx,hy⟩:=h1.ex;clear h1;rw[QG];have e0:iL []=[]:=rfl
 cases hv:QC c rs&&QJ m
 ·have e:Qj0 c rs m=[]:=by unfold Qj0;rw[hv,if_neg (by decide)]
  have e6:(!QC c rs|| !QJ m)=true:=by rw[←Bool.not_and,hv];rfl
  rw[e];clear e hv;(repeat' first|refine gA fun _=>?_|apply fkI<;>intro hb<;>try simp only[ew,e6,e0]at hb|simp only[go_sem,simprocAttr, *])
  all_goals first|rfl|skip
 ·have e6:(!QC c rs|| !QJ m)=false:=by rw[←Bool.not_and,hv];rfl
  have hv0:=hv
  rw[Bool.and_eq_true]at hv0;obtain⟨ht,hmo⟩:=hv0;obtain⟨C,rfl,c1,c5,h40,hlen⟩:=QR ht;clear hlen;have e:Qj0 (C:Nat) rs m=QdG Qaw ((rng (2^C)).filter (QkD (C:Nat) rs m)):=by unfold Qj0;rw[hv,if_pos rfl,Int.toNat_natCast]
  rw[e];clear e hv;have hA:Qd5 ((C:Nat):Int)=((2^C:Nat):Int)-1:=by
   have:C=1∨C=2∨C=3∨C=4∨C=5:=by omega
   rcases this with rfl|rfl|rfl|rfl|rfl<;>rfl
  have hM2:2^C≤32:=Nat.le_trans (Nat.pow_le_pow_right (by omega) c5) (by decide)
  obtain⟨b1,b2⟩:=Qyf ⟨C,by omega⟩
  dsimp only at b1 b2;have hP:Q9 (C:Nat)=pbs C:=by unfold Q9;rw[if_pos (Qh.2 ⟨by omega,by omega⟩),Int.toNat_natCast]
  obtain⟨P1,P2,P3⟩:=@QM (C:Nat);have hU:∀k,k<(Q9 (C:Nat)).length→QA2 (C:Nat) rs m ((Q9 (C:Nat)).getD k 0)=QkD (C:Nat) rs m ((Q9 (C:Nat)).getD k 0):=fun k hk=>by
   have hm:=Qsh (b1 _ (by rw[←hP];exact QI hk 0))
   have hat:Qj (C:Nat) ((Q9 (C:Nat)).getD k 0)=true:=by
    unfold Qj;rw[hA,Qh.2 ⟨by omega,by omega⟩,Qh.2 ⟨by omega,by omega⟩];rfl
   rw[Qcw ht hmo hat,Bool.and_self,Bool.and_self,Bool.true_and]
  have hE:QdG Qaw ((Q9 (C:Nat)).filter (QkD (C:Nat) rs m))=QdG Qaw ((rng (2^C)).filter (QkD (C:Nat) rs m)):=by
   refine Qsv (fun x=>?_) ?_ ?_
   ·rw[List.mem_filter,List.mem_filter,hP]
    exact⟨fun q=>⟨b1 x q.1,q.2⟩,fun q=>⟨b2 x q.1,q.2⟩⟩
   ·have:=@List.length_filter_le _ (QkD (C:Nat) rs m) (Q9 (C:Nat));omega
   ·have:=@QbA (QkD (C:Nat) rs m) (2^C);omega
  rw[←hE];clear hE b1 b2 hA hM2 P2 ht hmo hP;generalize hK:QkD (C:Nat) rs m=K at hU ⊢;have P1':(Q9 (C:Nat)).length≤maxLen:=Nat.le_trans P1 (by decide)
  generalize hQ:Q9 (C:Nat)=Q at hU P1 P3 P1';(repeat' first|refine gA fun _=>?_|apply fkI<;>intro hb<;>try simp only[ew,e6,e0,hQ]at hb|simp only[go_sem,simprocAttr, *])
  refine lpI {ι:=Nat,rs:=[(7,8),(23,35)],mods:=[(22,fun k=> .one (.d (.v (.int .i64 k)))),(5,fun k=> .one (.own 1 (iL ((Q.take k).filter K)) 1))],boxes:=[(2,fun _=>[.d (.v (.int .i64 (C:Nat))),.d (.sl 1 (sL rs))])],arrs:=[(20,fun _=>(1,iL Q,1))],ok:=fun k=>k≤Q.length,mu:=fun k=>Q.length-k} rfl 0 (Nat.zero_le _) ?_ fun k hk=>?_
  ·(repeat' first|refine gA fun _=>?_|apply fkI<;>intro hb<;>try simp only[ew,e0,hQ,List.take_zero,List.filter_nil]at hb|simp only[go_sem,simprocAttr, *,List.take_zero,List.filter_nil])
   all_goals first|rfl|skip
  ·dsimp only at k hk
   have hl:((Q.take k).filter K).length≤maxLen:=Nat.le_trans (List.length_filter_le _ _) (by rw[List.length_take];omega)
   by_cases h5:k<Q.length
   ·have hu:=hU k h5
    have hr:=P3 k h5
    have hs:(Q.take (k+1)).filter K=(Q.take k).filter K++(if K (Q.getD k 0)then [Q.getD k 0]else []):=by
     rw[Qk h5 0,List.filter_append];congr 1
     by_cases hk0:K (Q.getD k 0)=true
     ·rw[if_pos hk0,List.filter_cons_of_pos hk0];rfl
     ·rw[if_neg hk0,List.filter_cons_of_neg hk0];rfl
    have hl2:((Q.take k).filter K).length≤32:=Nat.le_trans (List.length_filter_le _ _) (by rw[List.length_take];omega)
    clear hU P3;generalize hF:(Q.take k).filter K=F at hl hl2 hs ⊢;generalize hX:Q.getD k 0=x at hu hr hs;cases hk0:K x
    ·rw[hk0,if_neg (by decide),List.append_nil]at hs
     rw[hk0]at hu;(repeat' first|refine gA fun _=>?_|apply fkI<;>intro hb<;>try simp only[ew,hF,hX,hu]at hb|simp only[go_sem,simprocAttr, *])
     refine lpN (k+1) (by dsimp only;omega) (by dsimp only;omega) ?_
     (repeat' first|refine gA fun _=>?_|apply fkI<;>intro hb<;>try simp only[ew,hs]at hb|simp only[go_sem,simprocAttr, *])
    ·rw[hk0,if_pos rfl]at hs
     rw[hk0]at hu;have es:iL F++[[D.v (.int .i64 x)]]=iL (F++[x]):=by simp[iL]
     (repeat' first|refine gA fun _=>?_|apply fkI<;>intro hb<;>try simp only[ew,hF,hX,hu,es]at hb|simp only[go_sem,simprocAttr, *])
     refine lpN (k+1) (by dsimp only;omega) (by dsimp only;omega) ?_
     (repeat' first|refine gA fun _=>?_|apply fkI<;>intro hb<;>try simp only[ew,hs,es]at hb|simp only[go_sem,simprocAttr, *])
   ·have e5:k=Q.length:=by omega
    subst e5;have hT:Q.take Q.length=Q:=List.take_length
    rw[hT]at hl;clear hU P3;(repeat' first|refine gA fun _=>?_|apply fkI<;>intro hb<;>try simp only[ew,hT]at hb|simp only[go_sem,simprocAttr, *])
    all_goals first|rfl|skip
end Go.Own
