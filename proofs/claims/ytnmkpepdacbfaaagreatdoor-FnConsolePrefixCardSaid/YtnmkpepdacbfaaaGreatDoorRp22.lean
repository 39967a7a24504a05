/- Contracts. Conditions: as stated. -/
import Derived.Test.YtnmkpepdacbfaaaGreatDoorRp21
set_option linter.all false
set_option maxRecDepth 20000
set_option maxHeartbeats 4000000
namespace Go.Own
open Go Go.Proofs
section
attribute [local go_sem] Qh Qg Qae Qag Qaf Qaj Qa7 Qd1 Qv
theorem QBF:∀x y:Fin 32,0≤QV .or .i64 ((x.val:Nat):Int) ((y.val:Nat):Int)∧QV .or .i64 ((x.val:Nat):Int) ((y.val:Nat):Int)≤31:=by decide+kernel
theorem QF0{x y:Int}(hx:R5 x)(hy:R5 y):R5 (QV .or .i64 x y):=by
 obtain⟨x,rfl⟩:=hx.fin;obtain⟨y,rfl⟩:=hy.fin;exact QBF x y
theorem QcG{p:Int→Bool}{x:Nat}:(rng (x+1)).filter p=(rng x).filter p++(if p x then [(x:Int)]else []):=by
 rw[Qrb,List.filter_append,List.filter_cons,List.filter_nil]
theorem Qbs{p:Int→Bool}{x:Nat}:((rng x).filter p).length≤x:=by
 have:=K3 p (rng x)
 rw[QkP]at this;exact this
end
attribute [local go_sem] QdB Qak QAp Tryz.results30 QA QcM QrQ Tryz.results170 QfO Qhy Tryz.results15 Qke Tryz.results114
def Qng(c:Int)(rs:List (List Int))(m x:Int):Bool:=(QhC c rs m x).length==0
def QEs(c:Int)(rs:List (List Int))(m x:Int):Bool:=QP c rs&&QN m&&Ql c x&&Qng c rs m x
def Qqz(c:Int)(rs:List (List Int))(m:Int):List Int:=if QP c rs&&QN m then Qcs QaM ((rng (2^c.toNat)).filter (Qng c rs m))else []
def QAu:Qb:=⟨[],false,fun
 | [.agg [.v (.int .i64 c),.sl 1 t],.one (.v (.int .i64 m)),.one (.v (.int .i64 x))]=>some (WfS t∧ -9223372036854775808≤c∧c≤9223372036854775807∧ -9223372036854775808≤x∧x≤9223372036854775807,[⟨false,[.d (.v (.bool (QEs c (unS t) m x)))]⟩],[])
 | _=>none⟩
attribute [local go_sem] QAu
def Qw2:Qb:=⟨[],false,fun
 | [.agg [.v (.int .i64 c),.sl 1 t],.one (.v (.int .i64 m))]=>some (WfS t∧ -9223372036854775808≤c∧c≤9223372036854775807,[⟨false,[.own 1 (iL (Qqz c (unS t) m)) 1]⟩],[])
 | _=>none⟩
attribute [local go_sem] Qw2
theorem Qc3{c:Int}{rs:List (List Int)}{m x:Int}{a b d:Bool}(ha:QP c rs=a)(hb:QN m=b)(hd:Ql c x=d):QEs c rs m x=(a&&b&&d&&Qng c rs m x):=by
 unfold QEs;rw[ha,hb,hd]
theorem QCu:Qa E0 30 QAu:=by
 refine QG (E:=E0) (T:=mkT Tryz.prog [(27,QdB),(66,Qak),(67,QAp)] false (fun _=>false) true (fun _=>false)) (Qd (E:=E0) (.cons QdH (.cons Qcq (.cons QtR .nil)))) (fn:=Tryz.f30) Tryz.func30 kR rfl Qc kR rfl ?_
 intro args p rs ms hr;unfold QAu at hr;dsimp only at hr;split at hr;rotate_left
 ·cases hr
 rename_i c t m x;cases hr;refine⟨rfl,rfl,nLe rfl,?_⟩
 have hm:=mxE;rintro⟨h1,hc1,hc2,hx1,hx2⟩ bs;obtain⟨rs,rfl,hx,hy⟩:=h1.ex;clear h1;rw[QB];cases ht:QP c rs
 ·rw[Qc3 ht rfl rfl,KT,KT,KT]
  (repeat' first|refine gA fun _=>?_|apply fkI<;>intro hb<;>try simp only[ew,ht]at hb|simp only[go_sem,simprocAttr, *,ht])
  all_goals first|rfl|skip
 ·cases hm:QN m
  ·rw[Qc3 ht hm rfl,YM,KT,KT]
   (repeat' first|refine gA fun _=>?_|apply fkI<;>intro hb<;>try simp only[ew,ht,hm]at hb|simp only[go_sem,simprocAttr, *,ht])
   all_goals first|rfl|skip
  ·cases hd:Ql c x
   ·rw[Qc3 ht hm hd,YM,KT]
    (repeat' first|refine gA fun _=>?_|apply fkI<;>intro hb<;>try simp only[ew,ht,hm,hd]at hb|simp only[go_sem,simprocAttr, *,ht,hd])
    all_goals first|rfl|skip
   ·rw[Qc3 ht hm hd]
    have e0:(((QhC c rs m x).length:Int)==0)=Qng c rs m x:=by
     unfold Qng;rw[Kp,Kh,Kh];omega
    have e1:(ouK (sam c.toNat rs m x) rs.length rs.length).1=QhC c rs m x:=rfl
    simp only[Bool.and_self,KY]
    (repeat' first|refine gA fun _=>?_|apply fkI<;>intro hb<;>try simp only[ew,ht,hm,hd,e0,e1]at hb|simp only[go_sem,simprocAttr, *,ht,hd])
    all_goals first|rfl|skip
theorem QCt:Qa E0 170 QAu:=by
 refine QG (E:=E0) (T:=mkT Tryz.prog [(138,QA),(139,QcM),(154,Qak),(201,QrQ)] false (fun _=>false) true (fun _=>false)) (Qd (E:=E0) (.cons Qbf (.cons Qci (.cons QbW (.cons QqY .nil))))) (fn:=Tryz.f170) Tryz.func170 kR rfl Qc kR rfl ?_
 intro args p rs ms hr;unfold QAu at hr;dsimp only at hr;split at hr;rotate_left
 ·cases hr
 rename_i c t m x;cases hr;refine⟨rfl,rfl,nLe rfl,?_⟩
 have hm:=mxE;rintro⟨h1,hc1,hc2,hx1,hx2⟩ bs;obtain⟨rs,rfl,hx,hy⟩:=h1.ex;clear h1;rw[QB];cases ht:QP c rs
 ·rw[Qc3 ht rfl rfl,KT,KT,KT]
  (repeat' first|refine gA fun _=>?_|apply fkI<;>intro hb<;>try simp only[ew,ht]at hb|simp only[go_sem,simprocAttr, *,ht])
  all_goals first|rfl|skip
 ·cases hm:QN m
  ·rw[Qc3 ht hm rfl,YM,KT,KT]
   (repeat' first|refine gA fun _=>?_|apply fkI<;>intro hb<;>try simp only[ew,ht,hm]at hb|simp only[go_sem,simprocAttr, *,ht])
   all_goals first|rfl|skip
  ·cases hd:Ql c x
   ·rw[Qc3 ht hm hd,YM,KT]
    (repeat' first|refine gA fun _=>?_|apply fkI<;>intro hb<;>try simp only[ew,ht,hm,hd]at hb|simp only[go_sem,simprocAttr, *,ht,hd])
    all_goals first|rfl|skip
   ·rw[Qc3 ht hm hd]
    have e0:(((QhC c rs m x).length:Int)==0)=Qng c rs m x:=by
     unfold Qng;rw[Kp,Kh,Kh];omega
    simp only[Bool.and_self,KY]
    (repeat' first|refine gA fun _=>?_|apply fkI<;>intro hb<;>try simp only[ew,ht,hm,hd,e0]at hb|simp only[go_sem,simprocAttr, *,ht,hd])
    all_goals first|rfl|skip
theorem QyB{p:Int→Bool}{k:Nat}:(rng (k+1)).filter p=(rng k).filter p++(if p (k:Nat)then [((k:Nat):Int)]else []):=QcG
theorem QBv:Qa E0 15 Qw2:=by
 refine QG (E:=E0) (T:=mkT Tryz.prog [(27,QdB),(24,QfO),(30,QAu),(31,Qhy)] false (fun _=>false) true (fun _=>false)) (Qd (E:=E0) (.cons QdH (.cons Qgs (.cons QCu (.cons Qu2 .nil))))) (fn:=Tryz.f15) Tryz.func15 kR rfl Qc kR rfl ?_
 intro args p rs ms hr;unfold Qw2 at hr;dsimp only at hr;split at hr;rotate_left
 ·cases hr
 rename_i c t m;cases hr;refine⟨rfl,rfl,nLe rfl,?_⟩
 have hm:=mxE;rintro⟨h1,hc1,hc2⟩ bs;obtain⟨rs,rfl,hx,hy⟩:=h1.ex;clear h1;rw[QB];have e0:iL []=[]:=rfl
 cases hv:QP c rs&&QN m
 ·have e:Qqz c rs m=[]:=by unfold Qqz;rw[hv,if_neg (by decide)]
  rw[e];clear e;(repeat' first|refine gA fun _=>?_|apply fkI<;>intro hb<;>try simp only[ew,hv,e0]at hb|simp only[go_sem,simprocAttr, *,hv])
  refine lpI {ι:=Unit,rs:=[(8,28)],mods:=[(6,fun _=> .one (.d (.v (.int .i64 0)))),(5,fun _=> .one (.own 1 [] 1))],boxes:=[(2,fun _=>[.d (.v (.int .i64 c)),.d (.sl 1 (sL rs))])],arrs:=[],ok:=fun _=>True,mu:=fun _=>0} rfl () trivial ?_ fun _ _=>?_
  ·(repeat' first|refine gA fun _=>?_|apply fkI<;>intro hb<;>try simp only[ew,hv]at hb|simp only[go_sem,simprocAttr, *,hv])
  ·have e2:Qcs QaM []=[]:=rfl
   have e3:unI []=[]:=rfl
   have w0:WfI []:=⟨rfl,KJ _⟩
   (repeat' first|refine gA fun _=>?_|apply fkI<;>intro hb<;>try simp only[ew,hv,e0,e2,e3]at hb|simp only[go_sem,simprocAttr, *,hv])
   all_goals first|rfl|skip
 ·have hv0:=hv
  rw[KB]at hv0;obtain⟨ht,hmo⟩:=hv0;obtain⟨C,rfl,c1,c5,h40,hlen⟩:=QQ ht;have e:Qqz (C:Nat) rs m=Qcs QaM ((rng (2^C)).filter (Qng (C:Nat) rs m)):=by unfold Qqz;rw[hv,if_pos rfl,KE]
  rw[e];clear e;have hA:Qc7 ((C:Nat):Int)=((2^C:Nat):Int)-1:=by
   have:C=1∨C=2∨C=3∨C=4∨C=5:=by omega
   rcases this with rfl|rfl|rfl|rfl|rfl<;>rfl
  have hM2:2^C≤32:=KF (K2 (by omega) c5) (by decide)
  have hU:∀x:Nat,x<2^C→QEs (C:Nat) rs m (x:Nat)=Qng (C:Nat) rs m (x:Nat):=fun x hx=>by
   have hat:Ql (C:Nat) (x:Nat)=true:=by
    unfold Ql;rw[hA,Qj.2 ⟨by omega,by omega⟩,Qj.2 ⟨by omega,by omega⟩];rfl
   rw[Qc3 ht hmo hat,Bool.and_self,Bool.and_self,KY]
  generalize 2^C=M at hM2 hU hA ⊢;generalize hK:Qng (C:Nat) rs m=K at hU ⊢;(repeat' first|refine gA fun _=>?_|apply fkI<;>intro hb<;>try simp only[ew,hv,e0]at hb|simp only[go_sem,simprocAttr, *,hv])
  refine lpI {ι:=Nat,rs:=[(8,28)],mods:=[(6,fun x=> .one (.d (.v (.int .i64 x)))),(5,fun x=> .one (.own 1 (iL ((rng x).filter K)) 1))],boxes:=[(2,fun _=>[.d (.v (.int .i64 (C:Nat))),.d (.sl 1 (sL rs))])],arrs:=[],ok:=fun x=>x≤M,mu:=fun x=>M-x} rfl 0 (KJ _) ?_ fun x hx=>?_
  ·(repeat' first|refine gA fun _=>?_|apply fkI<;>intro hb<;>try simp only[ew,e0]at hb|simp only[go_sem,simprocAttr, *])
   all_goals first|rfl|skip
  ·dsimp only at x hx
   have hl:=@Qbs K x
   have hl2:((rng x).filter K).length≤maxLen:=KF (show _≤32 by omega) (by decide)
   by_cases h5:x<M
   ·have hux:=hU x h5
    have hs:=@QyB K x
    have hd:decide (((x:Nat):Int)≤((M:Nat):Int)-1)=true:=KZ (by omega)
    clear hU;generalize hF:(rng x).filter K=F at hl hl2 hs ⊢;cases hk:K (x:Nat)
    ·rw[hk,if_neg (by decide),KM]at hs
     rw[hk]at hux;(repeat' first|refine gA fun _=>?_|apply fkI<;>intro hb<;>try simp only[ew,hv,hd,hux]at hb|simp only[go_sem,simprocAttr, *,hv])
     refine lpN (x+1) (by omega) (by dsimp only;omega) ?_
     (repeat' first|refine gA fun _=>?_|apply fkI<;>intro hb<;>try simp only[ew,hs]at hb|simp only[go_sem,simprocAttr, *])
    ·rw[hk,if_pos rfl]at hs
     rw[hk]at hux;have es:iL F++[[D.v (.int .i64 x)]]=iL (F++[((x:Nat):Int)]):=by simp[iL]
     (repeat' first|refine gA fun _=>?_|apply fkI<;>intro hb<;>try simp only[ew,hv,hd,hux,es]at hb|simp only[go_sem,simprocAttr, *,hv])
     refine lpN (x+1) (by omega) (by dsimp only;omega) ?_
     (repeat' first|refine gA fun _=>?_|apply fkI<;>intro hb<;>try simp only[ew,hs,es]at hb|simp only[go_sem,simprocAttr, *])
   ·have e5:x=M:=by omega
    subst e5;have hd:decide (((x:Nat):Int)≤((x:Nat):Int)-1)=false:=KW (by omega)
    clear hU;(repeat' first|refine gA fun _=>?_|apply fkI<;>intro hb<;>try simp only[ew,hv,hd]at hb|simp only[go_sem,simprocAttr, *,hv])
    all_goals first|rfl|skip
theorem QBJ:∀n:Fin 6,(∀x∈pbs n.val,x∈rng (2^n.val))∧∀x∈rng (2^n.val),x∈pbs n.val:=by decide+kernel
theorem QvR{t:Int→Int→Bool}{l m:List Int}(h:∀x,x∈l↔x∈m)(hl:l.length≤100)(hm:m.length≤100):Qcs t l=Qcs t m:=by
 have hs:∀p:Int→Bool,l.all p=m.all p:=fun p=>by
  rw[Kp,Kg,Kg];exact⟨fun q x hx=>q x ((h x).2 hx),fun q x hx=>q x ((h x).1 hx)⟩
 have e1:QaG l=QaG m:=by
  unfold QaG;rw[hs,KZ (show((l.length:Nat):Int)≤100 by omega),KZ (show((m.length:Nat):Int)≤100 by omega)]
 unfold Qcs;rw[e1];split
 ·refine QbY QaA QaA fun z=>?_
  rw[Qan,Qan,Ku,Ku,h z,hs]
 ·rfl
theorem QBu:Qa E0 114 Qw2:=by
 refine QG (E:=E0) (T:=mkT Tryz.prog [(138,QA),(139,QcM),(169,Qke),(170,QAu),(171,Qhy)] false (fun _=>false) true (fun _=>false)) (Qd (E:=E0) (.cons Qbf (.cons Qci (.cons Qo9 (.cons QCt (.cons QqM .nil)))))) (fn:=Tryz.f114) Tryz.func114 kR rfl Qc kR rfl ?_
 intro args p rs ms hr;unfold Qw2 at hr;dsimp only at hr;split at hr;rotate_left
 ·cases hr
 rename_i c t m;cases hr;refine⟨rfl,rfl,nLe rfl,?_⟩
 have hm:=mxE;rintro⟨h1,hc1,hc2⟩ bs;obtain⟨rs,rfl,hx,hy⟩:=h1.ex;clear h1;rw[QB];have e0:iL []=[]:=rfl
 cases hv:QP c rs&&QN m
 ·have e:Qqz c rs m=[]:=by unfold Qqz;rw[hv,if_neg (by decide)]
  have e6:(!QP c rs|| !QN m)=true:=by rw[←YS,hv];rfl
  rw[e];clear e hv;(repeat' first|refine gA fun _=>?_|apply fkI<;>intro hb<;>try simp only[ew,e6,e0]at hb|simp only[go_sem,simprocAttr, *])
  all_goals first|rfl|skip
 ·have e6:(!QP c rs|| !QN m)=false:=by rw[←YS,hv];rfl
  have hv0:=hv
  rw[KB]at hv0;obtain⟨ht,hmo⟩:=hv0;obtain⟨C,rfl,c1,c5,h40,hlen⟩:=QQ ht;clear hlen;have e:Qqz (C:Nat) rs m=Qcs QaM ((rng (2^C)).filter (Qng (C:Nat) rs m)):=by unfold Qqz;rw[hv,if_pos rfl,KE]
  rw[e];clear e hv;have hA:Qc7 ((C:Nat):Int)=((2^C:Nat):Int)-1:=by
   have:C=1∨C=2∨C=3∨C=4∨C=5:=by omega
   rcases this with rfl|rfl|rfl|rfl|rfl<;>rfl
  have hM2:2^C≤32:=KF (K2 (by omega) c5) (by decide)
  obtain⟨b1,b2⟩:=QBJ ⟨C,by omega⟩
  dsimp only at b1 b2;have hP:Q8 (C:Nat)=pbs C:=by unfold Q8;rw[if_pos (Qj.2 ⟨by omega,by omega⟩),KE]
  obtain⟨P1,P2,P3⟩:=@QH (C:Nat);have hU:∀k,k<(Q8 (C:Nat)).length→QEs (C:Nat) rs m ((Q8 (C:Nat)).getD k 0)=Qng (C:Nat) rs m ((Q8 (C:Nat)).getD k 0):=fun k hk=>by
   have hm:=QvC (b1 _ (by rw[←hP];exact QE hk 0))
   have hat:Ql (C:Nat) ((Q8 (C:Nat)).getD k 0)=true:=by
    unfold Ql;rw[hA,Qj.2 ⟨by omega,by omega⟩,Qj.2 ⟨by omega,by omega⟩];rfl
   rw[Qc3 ht hmo hat,Bool.and_self,Bool.and_self,KY]
  have hE:Qcs QaM ((Q8 (C:Nat)).filter (Qng (C:Nat) rs m))=Qcs QaM ((rng (2^C)).filter (Qng (C:Nat) rs m)):=by
   refine QvR (fun x=>?_) ?_ ?_
   ·rw[Ku,Ku,hP]
    exact⟨fun q=>⟨b1 x q.1,q.2⟩,fun q=>⟨b2 x q.1,q.2⟩⟩
   ·have:=@K3 _ (Qng (C:Nat) rs m) (Q8 (C:Nat));omega
   ·have:=@Qbs (Qng (C:Nat) rs m) (2^C);omega
  rw[←hE];clear hE b1 b2 hA hM2 P2 ht hmo hP;generalize hK:Qng (C:Nat) rs m=K at hU ⊢;have P1':(Q8 (C:Nat)).length≤maxLen:=KF P1 (by decide)
  generalize hQ:Q8 (C:Nat)=Q at hU P1 P3 P1';(repeat' first|refine gA fun _=>?_|apply fkI<;>intro hb<;>try simp only[ew,e6,e0,hQ]at hb|simp only[go_sem,simprocAttr, *])
  refine lpI {ι:=Nat,rs:=[(7,8),(23,35)],mods:=[(22,fun k=> .one (.d (.v (.int .i64 k)))),(5,fun k=> .one (.own 1 (iL ((Q.take k).filter K)) 1))],boxes:=[(2,fun _=>[.d (.v (.int .i64 (C:Nat))),.d (.sl 1 (sL rs))])],arrs:=[(20,fun _=>(1,iL Q,1))],ok:=fun k=>k≤Q.length,mu:=fun k=>Q.length-k} rfl 0 (KJ _) ?_ fun k hk=>?_
  ·(repeat' first|refine gA fun _=>?_|apply fkI<;>intro hb<;>try simp only[ew,e0,hQ,Kw,List.filter_nil]at hb|simp only[go_sem,simprocAttr, *,Kw,List.filter_nil])
   all_goals first|rfl|skip
  ·dsimp only at k hk
   have hl:((Q.take k).filter K).length≤maxLen:=KF (K3 _ _) (by rw[KO];omega)
   by_cases h5:k<Q.length
   ·have hu:=hU k h5
    have hr:=P3 k h5
    have hs:(Q.take (k+1)).filter K=(Q.take k).filter K++(if K (Q.getD k 0)then [Q.getD k 0]else []):=by
     rw[Qf h5 0,List.filter_append];congr 1
     by_cases hk0:K (Q.getD k 0)=true
     ·rw[if_pos hk0,List.filter_cons_of_pos hk0];rfl
     ·rw[if_neg hk0,List.filter_cons_of_neg hk0];rfl
    have hl2:((Q.take k).filter K).length≤32:=KF (K3 _ _) (by rw[KO];omega)
    clear hU P3;generalize hF:(Q.take k).filter K=F at hl hl2 hs ⊢;generalize hX:Q.getD k 0=x at hu hr hs;cases hk0:K x
    ·rw[hk0,if_neg (by decide),KM]at hs
     rw[hk0]at hu;(repeat' first|refine gA fun _=>?_|apply fkI<;>intro hb<;>try simp only[ew,hF,hX,hu]at hb|simp only[go_sem,simprocAttr, *])
     refine lpQ (k+1) ?_
     (repeat' first|refine gA fun _=>?_|apply fkI<;>intro hb<;>try simp only[ew,hs]at hb|simp only[go_sem,simprocAttr, *])
    ·rw[hk0,if_pos rfl]at hs
     rw[hk0]at hu;have es:iL F++[[D.v (.int .i64 x)]]=iL (F++[x]):=by simp[iL]
     (repeat' first|refine gA fun _=>?_|apply fkI<;>intro hb<;>try simp only[ew,hF,hX,hu,es]at hb|simp only[go_sem,simprocAttr, *])
     refine lpQ (k+1) ?_
     (repeat' first|refine gA fun _=>?_|apply fkI<;>intro hb<;>try simp only[ew,hs,es]at hb|simp only[go_sem,simprocAttr, *])
   ·have e5:k=Q.length:=by omega
    subst e5;have hT:Q.take Q.length=Q:=KR
    rw[hT]at hl;clear hU P3;(repeat' first|refine gA fun _=>?_|apply fkI<;>intro hb<;>try simp only[ew,hT]at hb|simp only[go_sem,simprocAttr, *])
    all_goals first|rfl|skip
end Go.Own
