/- Own contracts. Conditions: as each theorem states them. -/
import Derived.Test.YtnmkpepdacbfaaaGreatDoorRc21
set_option linter.unusedSimpArgs false
set_option linter.unusedVariables false
set_option maxRecDepth 20000
set_option maxHeartbeats 2000000
namespace Go.Own
open Go Go.Proofs
attribute [local go_sem] QhX Qi7 QrC Tryz.results178 Qg1 QuR Qar Tryz.results171 Tryz.results208
theorem QtC:Qa E0 178 QhX:=by
 refine QE (E:=E0) (T:=mkT Tryz.prog [(68,Qi7),(69,QrC)] false (fun _=>false) true (fun _=>false)) (Qd (E:=E0) (.cons Qp9 (.cons QmF .nil))) (fn:=Tryz.f178) Tryz.func178 (by kernel_rfl) rfl Qc (by kernel_rfl) rfl ?_
 intro args p rs ms hr;unfold QhX at hr;dsimp only at hr;split at hr;rotate_left
 ·cases hr
 rename_i l;cases hr;refine⟨rfl,rfl,nLe rfl,?_⟩
 have hm:=mxE;intro h1 bs;obtain⟨xs,rfl,hx⟩:=h1.ex;clear h1;rw[QaC];cases hv:QaB xs
 ·have e:Qcb QaL xs=[]:=by unfold Qcb;rw[hv];rfl
  rw[e];clear e;(repeat' first|refine gA fun _=>?_|apply fkI<;>intro hb<;>try simp only[ew,hv]at hb|simp only[go_sem,simprocAttr, *,hv])
  refine lpI {ι:=Unit,rs:=[(5,7),(8,59)],mods:=[(4,fun _=> .one (.d (.v (.int .i64 0)))),(3,fun _=> .one (.own 1 [] 1))],boxes:=[],arrs:=[],ok:=fun _=>True,mu:=fun _=>0} rfl () trivial ?_ fun _ _=>?_
  ·(repeat' first|refine gA fun _=>?_|apply fkI<;>intro hb<;>try simp only[ew,hv]at hb|simp only[go_sem,simprocAttr, *,hv])
  ·(repeat' first|refine gA fun _=>?_|apply fkI<;>intro hb<;>try simp only[ew,hv]at hb|simp only[go_sem,simprocAttr, *,hv])
   all_goals first|rfl|skip
 ·have e:Qcb QaL xs=QaS (xs.filter fun x=>xs.all (QaL x)):=by unfold Qcb;rw[hv];rfl
  have hat:=fun i=>@Quq xs hv i
  have h100:xs.length≤100:=by
   have:=hv
   simp only[QaB,Bool.and_eq_true,decide_eq_true_eq]at this
   omega
  rw[e];clear e;(repeat' first|refine gA fun _=>?_|apply fkI<;>intro hb<;>try simp only[ew,hv]at hb|simp only[go_sem,simprocAttr, *,hv])
  refine lpI {ι:=Nat,rs:=[(5,7),(8,59)],mods:=[(4,fun i=> .one (.d (.v (.int .i64 i)))),(3,fun i=> .one (.own 1 (iL (QaS ((xs.take i).filter fun x=>xs.all (QaL x)))) 1))],boxes:=[],arrs:=[],ok:=fun i=>i≤xs.length,mu:=fun i=>xs.length-i} rfl 0 (Nat.zero_le _) ?_ fun i hi=>?_
  ·(repeat' first|refine gA fun _=>?_|apply fkI<;>intro hb<;>try simp only[ew,hv]at hb|simp only[go_sem,simprocAttr, *,hv])
   all_goals first|rfl|skip
  ·dsimp only at i hi
   have l1:=@QaE ((xs.take i).filter fun x=>xs.all (QaL x))
   have l2:=List.length_filter_le (fun x=>xs.all (QaL x)) (xs.take i)
   rw[List.length_take]at l2;have l3:(QaS ((xs.take i).filter fun x=>xs.all (QaL x))).length≤100:=by omega
   have l4:(QaS ((xs.take i).filter fun x=>xs.all (QaL x))).length≤maxLen:=Nat.le_trans l3 (by decide)
   clear l1 l2
   by_cases h5:i<xs.length
   ·obtain⟨x0,x31⟩:=hat i h5
    have hft:=Qcl h5 (fun x=>xs.all (QaL x))
    have hsn:=fun x=>@QdX ((xs.take i).filter fun x=>xs.all (QaL x)) x
    generalize hZ:QaS ((xs.take i).filter fun x=>xs.all (QaL x))=Z at l3 l4 hsn
    generalize hX:xs.getD i 0=x at x0 x31 hft;(repeat' first|refine gA fun _=>?_|apply fkI<;>intro hb<;>try simp only[ew,hv,hZ]at hb|simp only[go_sem,simprocAttr, *,hv])
    generalize hF:xs.all (QaL x)=F at hft;refine lpI {ι:=Nat,rs:=[(18,52)],mods:=[(6,fun k=> .one (.d (.v (.int .i64 k)))),(5,fun k=> .one (.d (.v (.bool ((xs.take k).all (QaL x))))))],boxes:=[],arrs:=[(3,fun _=>(1,iL Z,1))],ok:=fun k=>k≤xs.length,mu:=fun k=>xs.length-k} rfl 0 (Nat.zero_le _) ?_ fun k hk=>?_
    ·(repeat' first|refine gA fun _=>?_|apply fkI<;>intro hb<;>try simp only[ew,hZ]at hb|simp only[go_sem,simprocAttr, *])
     all_goals first|rfl|skip
    ·dsimp only at k hk
     by_cases h6:k<xs.length
     ·obtain⟨y0,y31⟩:=hat k h6
      have ea:=Qvb (l:=x) (x:=xs.getD k 0) ⟨x0,x31⟩ ⟨y0,y31⟩
      have et:=Qek h6 0 (QaL x)
      have em:QaL x (xs.getD k 0)=(xs.getD k 0==x|| !Q7 x (xs.getD k 0)):=by
       unfold QaL;rw[Bool.beq_comm]
      rw[em]at et;clear em;(repeat' first|refine gA fun _=>?_|apply fkI<;>intro hb<;>try simp only[ew,hX,ea]at hb|simp only[go_sem,simprocAttr, *])
      refine lpN (k+1) (by dsimp only;omega) (by dsimp only;omega) ?_
      (repeat' first|refine gA fun _=>?_|apply fkI<;>intro hb<;>try simp only[ew,et,hX,ea]at hb|simp only[go_sem,simprocAttr, *])
     ·have e6:k=xs.length:=by omega
      subst e6;have et:(xs.take xs.length).all (QaL x)=F:=by rw[List.take_length,hF]
      cases hq:F
      ·rw[hq]at et hft
       rw[if_neg (by decide),List.append_nil]at hft
       clear hsn;(repeat' first|refine gA fun _=>?_|apply fkI<;>intro hb<;>try simp only[ew,et,hX]at hb|simp only[go_sem,simprocAttr, *])
       refine lpN (i+1) (by dsimp only;omega) (by dsimp only;omega) ?_
       (repeat' first|refine gA fun _=>?_|apply fkI<;>intro hb<;>try simp only[ew,hft,hZ]at hb|simp only[go_sem,simprocAttr, *])
      ·rw[hq]at et hft
       rw[if_pos rfl]at hft;have hs:=hsn x
       clear hsn;(repeat' first|refine gA fun _=>?_|apply fkI<;>intro hb<;>try simp only[ew,et,hX]at hb|simp only[go_sem,simprocAttr, *])
       refine lpN (i+1) (by dsimp only;omega) (by dsimp only;omega) ?_
       (repeat' first|refine gA fun _=>?_|apply fkI<;>intro hb<;>try simp only[ew,hft,hs,hZ]at hb|simp only[go_sem,simprocAttr, *])
   ·have e5:i=xs.length:=by omega
    subst e5;have et:xs.take xs.length=xs:=List.take_length
    (repeat' first|refine gA fun _=>?_|apply fkI<;>intro hb<;>try simp only[ew,et,hv]at hb|simp only[go_sem,simprocAttr, *,hv])
    all_goals first|rfl|skip
theorem QpH:Qa E0 171 Qg1:=by
 refine QE (E:=E0) (T:=mkT Tryz.prog [(207,Qi7),(158,QuR),(157,Qar)] false (fun _=>false) true (fun _=>false)) (Qd (E:=E0) (.cons Qp8 (.cons Qo6 (.cons Qa4 .nil)))) (fn:=Tryz.f171) Tryz.func171 (by kernel_rfl) rfl Qc (by kernel_rfl) rfl ?_
 intro args p rs ms hr;unfold Qg1 at hr;dsimp only at hr;split at hr;rotate_left
 ·cases hr
 rename_i l;cases hr;refine⟨rfl,rfl,nLe rfl,?_⟩
 have hm:=mxE;intro h1 bs;obtain⟨xs,rfl,hx⟩:=h1.ex;clear h1;rw[QaC];cases hv:QaB xs
 ·have e:Qcb QaF xs=[]:=by unfold Qcb;rw[hv];rfl
  rw[e];clear e;(repeat' first|refine gA fun _=>?_|apply fkI<;>intro hb<;>try simp only[ew,hv]at hb|simp only[go_sem,simprocAttr, *,hv])
  all_goals first|rfl|skip
 ·have e:Qcb QaF xs=(QaS xs).filter fun x=>xs.all (QaF x):=by unfold Qcb;rw[hv,Qgl];rfl
  have h100:xs.length≤100:=by
   have:=hv
   simp only[QaB,Bool.and_eq_true,decide_eq_true_eq]at this
   omega
  have d100:(QaS xs).length≤100:=Nat.le_trans QaE h100
  have dmx:(QaS xs).length≤maxLen:=Nat.le_trans d100 (by decide)
  rw[e];clear e;(repeat' first|refine gA fun _=>?_|apply fkI<;>intro hb<;>try simp only[ew,hv]at hb|simp only[go_sem,simprocAttr, *,hv])
  generalize hD:QaS xs=D at d100 dmx;refine lpI {ι:=Nat,rs:=[(5,7),(8,9),(18,46)],mods:=[(17,fun i=> .one (.d (.v (.int .i64 i)))),(3,fun i=> .one (.own 1 (iL ((D.take i).filter fun x=>xs.all (QaF x))) 1))],boxes:=[],arrs:=[(15,fun _=>(1,iL D,1))],ok:=fun i=>i≤D.length,mu:=fun i=>D.length-i} rfl 0 (Nat.zero_le _) ?_ fun i hi=>?_
  ·(repeat' first|refine gA fun _=>?_|apply fkI<;>intro hb<;>try simp only[ew,hD]at hb|simp only[go_sem,simprocAttr, *])
   all_goals first|rfl|skip
  ·dsimp only at i hi
   have l2:=List.length_filter_le (fun x=>xs.all (QaF x)) (D.take i)
   rw[List.length_take]at l2;have l3:((D.take i).filter fun x=>xs.all (QaF x)).length≤100:=by omega
   clear l2
   by_cases h5:i<D.length
   ·have hft:=Qcl h5 (fun x=>xs.all (QaF x))
    generalize hZ:(D.take i).filter (fun x=>xs.all (QaF x))=Z at l3 hft
    generalize hX:D.getD i 0=x at hft;(repeat' first|refine gA fun _=>?_|apply fkI<;>intro hb<;>try simp only[ew,hZ,hX]at hb|simp only[go_sem,simprocAttr, *])
    generalize hF:xs.all (QaF x)=F at hft;refine lpI {ι:=Nat,rs:=[(8,9),(24,40)],mods:=[(23,fun k=> .one (.d (.v (.int .i64 k)))),(6,fun k=> .one (.d (.v (.bool ((xs.take k).all (QaF x))))))],boxes:=[],arrs:=[(3,fun _=>(1,iL Z,1)),(15,fun _=>(1,iL D,1))],ok:=fun k=>k≤xs.length,mu:=fun k=>xs.length-k} rfl 0 (Nat.zero_le _) ?_ fun k hk=>?_
    ·(repeat' first|refine gA fun _=>?_|apply fkI<;>intro hb<;>try simp only[ew,hZ]at hb|simp only[go_sem,simprocAttr, *])
     all_goals first|rfl|skip
    ·dsimp only at k hk
     by_cases h6:k<xs.length
     ·have et:=Qek h6 0 (QaF x)
      have em:QaF x (xs.getD k 0)=(x==xs.getD k 0|| !(Q6 .andNot .i64 (xs.getD k 0) x==0)):=rfl
      rw[em]at et;clear em;(repeat' first|refine gA fun _=>?_|apply fkI<;>intro hb<;>try simp only[ew]at hb|simp only[go_sem,simprocAttr, *])
      refine lpN (k+1) (by dsimp only;omega) (by dsimp only;omega) ?_
      (repeat' first|refine gA fun _=>?_|apply fkI<;>intro hb<;>try simp only[ew,et]at hb|simp only[go_sem,simprocAttr, *])
     ·have e6:k=xs.length:=by omega
      subst e6;have et:(xs.take xs.length).all (QaF x)=F:=by rw[List.take_length,hF]
      cases hq:F
      ·rw[hq]at et hft
       rw[if_neg (by decide),List.append_nil]at hft
       (repeat' first|refine gA fun _=>?_|apply fkI<;>intro hb<;>try simp only[ew,et]at hb|simp only[go_sem,simprocAttr, *])
       refine lpN (i+1) (by dsimp only;omega) (by dsimp only;omega) ?_
       (repeat' first|refine gA fun _=>?_|apply fkI<;>intro hb<;>try simp only[ew,hft,hZ]at hb|simp only[go_sem,simprocAttr, *])
      ·rw[hq]at et hft
       rw[if_pos rfl]at hft;(repeat' first|refine gA fun _=>?_|apply fkI<;>intro hb<;>try simp only[ew,et,Qo]at hb|simp only[go_sem,simprocAttr, *,Qo])
       refine lpN (i+1) (by dsimp only;omega) (by dsimp only;omega) ?_
       (repeat' first|refine gA fun _=>?_|apply fkI<;>intro hb<;>try simp only[ew,hft,hZ,Qo]at hb|simp only[go_sem,simprocAttr, *,Qo])
   ·have e5:i=D.length:=by omega
    subst e5;have et:D.take D.length=D:=List.take_length
    (repeat' first|refine gA fun _=>?_|apply fkI<;>intro hb<;>try simp only[ew,et]at hb|simp only[go_sem,simprocAttr, *])
    all_goals first|(rw[hD];done)|rfl|skip
theorem QpD:Qa E0 208 QhX:=by
 refine QE (E:=E0) (T:=mkT Tryz.prog [(207,Qi7),(158,QuR),(157,Qar)] false (fun _=>false) true (fun _=>false)) (Qd (E:=E0) (.cons Qp8 (.cons Qo6 (.cons Qa4 .nil)))) (fn:=Tryz.f208) Tryz.func208 (by kernel_rfl) rfl Qc (by kernel_rfl) rfl ?_
 intro args p rs ms hr;unfold QhX at hr;dsimp only at hr;split at hr;rotate_left
 ·cases hr
 rename_i l;cases hr;refine⟨rfl,rfl,nLe rfl,?_⟩
 have hm:=mxE;intro h1 bs;obtain⟨xs,rfl,hx⟩:=h1.ex;clear h1;rw[QaC];cases hv:QaB xs
 ·have e:Qcb QaL xs=[]:=by unfold Qcb;rw[hv];rfl
  rw[e];clear e;(repeat' first|refine gA fun _=>?_|apply fkI<;>intro hb<;>try simp only[ew,hv]at hb|simp only[go_sem,simprocAttr, *,hv])
  all_goals first|rfl|skip
 ·have e:Qcb QaL xs=(QaS xs).filter fun x=>xs.all (QaL x):=by unfold Qcb;rw[hv,Qgl];rfl
  have h100:xs.length≤100:=by
   have:=hv
   simp only[QaB,Bool.and_eq_true,decide_eq_true_eq]at this
   omega
  have d100:(QaS xs).length≤100:=Nat.le_trans QaE h100
  have dmx:(QaS xs).length≤maxLen:=Nat.le_trans d100 (by decide)
  rw[e];clear e;(repeat' first|refine gA fun _=>?_|apply fkI<;>intro hb<;>try simp only[ew,hv]at hb|simp only[go_sem,simprocAttr, *,hv])
  generalize hD:QaS xs=D at d100 dmx;refine lpI {ι:=Nat,rs:=[(5,7),(8,9),(18,46)],mods:=[(17,fun i=> .one (.d (.v (.int .i64 i)))),(3,fun i=> .one (.own 1 (iL ((D.take i).filter fun x=>xs.all (QaL x))) 1))],boxes:=[],arrs:=[(15,fun _=>(1,iL D,1))],ok:=fun i=>i≤D.length,mu:=fun i=>D.length-i} rfl 0 (Nat.zero_le _) ?_ fun i hi=>?_
  ·(repeat' first|refine gA fun _=>?_|apply fkI<;>intro hb<;>try simp only[ew,hD]at hb|simp only[go_sem,simprocAttr, *])
   all_goals first|rfl|skip
  ·dsimp only at i hi
   have l2:=List.length_filter_le (fun x=>xs.all (QaL x)) (D.take i)
   rw[List.length_take]at l2;have l3:((D.take i).filter fun x=>xs.all (QaL x)).length≤100:=by omega
   clear l2
   by_cases h5:i<D.length
   ·have hft:=Qcl h5 (fun x=>xs.all (QaL x))
    generalize hZ:(D.take i).filter (fun x=>xs.all (QaL x))=Z at l3 hft
    generalize hX:D.getD i 0=x at hft;(repeat' first|refine gA fun _=>?_|apply fkI<;>intro hb<;>try simp only[ew,hZ,hX]at hb|simp only[go_sem,simprocAttr, *])
    generalize hF:xs.all (QaL x)=F at hft;refine lpI {ι:=Nat,rs:=[(8,9),(24,40)],mods:=[(23,fun k=> .one (.d (.v (.int .i64 k)))),(6,fun k=> .one (.d (.v (.bool ((xs.take k).all (QaL x))))))],boxes:=[],arrs:=[(3,fun _=>(1,iL Z,1)),(15,fun _=>(1,iL D,1))],ok:=fun k=>k≤xs.length,mu:=fun k=>xs.length-k} rfl 0 (Nat.zero_le _) ?_ fun k hk=>?_
    ·(repeat' first|refine gA fun _=>?_|apply fkI<;>intro hb<;>try simp only[ew,hZ]at hb|simp only[go_sem,simprocAttr, *])
     all_goals first|rfl|skip
    ·dsimp only at k hk
     by_cases h6:k<xs.length
     ·have et:=Qek h6 0 (QaL x)
      have em:QaL x (xs.getD k 0)=(x==xs.getD k 0|| !(Q6 .andNot .i64 x (xs.getD k 0)==0)):=rfl
      rw[em]at et;clear em;(repeat' first|refine gA fun _=>?_|apply fkI<;>intro hb<;>try simp only[ew]at hb|simp only[go_sem,simprocAttr, *])
      refine lpN (k+1) (by dsimp only;omega) (by dsimp only;omega) ?_
      (repeat' first|refine gA fun _=>?_|apply fkI<;>intro hb<;>try simp only[ew,et]at hb|simp only[go_sem,simprocAttr, *])
     ·have e6:k=xs.length:=by omega
      subst e6;have et:(xs.take xs.length).all (QaL x)=F:=by rw[List.take_length,hF]
      cases hq:F
      ·rw[hq]at et hft
       rw[if_neg (by decide),List.append_nil]at hft
       (repeat' first|refine gA fun _=>?_|apply fkI<;>intro hb<;>try simp only[ew,et]at hb|simp only[go_sem,simprocAttr, *])
       refine lpN (i+1) (by dsimp only;omega) (by dsimp only;omega) ?_
       (repeat' first|refine gA fun _=>?_|apply fkI<;>intro hb<;>try simp only[ew,hft,hZ]at hb|simp only[go_sem,simprocAttr, *])
      ·rw[hq]at et hft
       rw[if_pos rfl]at hft;(repeat' first|refine gA fun _=>?_|apply fkI<;>intro hb<;>try simp only[ew,et,Qo]at hb|simp only[go_sem,simprocAttr, *,Qo])
       refine lpN (i+1) (by dsimp only;omega) (by dsimp only;omega) ?_
       (repeat' first|refine gA fun _=>?_|apply fkI<;>intro hb<;>try simp only[ew,hft,hZ,Qo]at hb|simp only[go_sem,simprocAttr, *,Qo])
   ·have e5:i=D.length:=by omega
    subst e5;have et:D.take D.length=D:=List.take_length
    (repeat' first|refine gA fun _=>?_|apply fkI<;>intro hb<;>try simp only[ew,et]at hb|simp only[go_sem,simprocAttr, *])
    all_goals first|(rw[hD];done)|rfl|skip
end Go.Own
