/- Contracts. Conditions: as stated. -/
import Derived.Test.YtnmkpepdacbfaaaGreatDoorRp20
set_option linter.all false
set_option maxRecDepth 20000
set_option maxHeartbeats 2000000
namespace Go.Own
open Go Go.Proofs
attribute [local go_sem] Qiv QjK QsR Tryz.results178 Qhy Qwn Qax Tryz.results171 Tryz.results208
theorem QuZ:Qa E0 178 Qiv:=by
 refine QG (E:=E0) (T:=mkT Tryz.prog [(68,QjK),(69,QsR)] false (fun _=>false) true (fun _=>false)) (Qd (E:=E0) (.cons Qrg (.cons Qny .nil))) (fn:=Tryz.f178) Tryz.func178 kR rfl Qc kR rfl ?_
 intro args p rs ms hr;unfold Qiv at hr;dsimp only at hr;split at hr;rotate_left
 ·cases hr
 rename_i l;cases hr;refine⟨rfl,rfl,nLe rfl,?_⟩
 have hm:=mxE;intro h1 bs;obtain⟨xs,rfl,hx⟩:=h1.ex;clear h1;rw[QaH];cases hv:QaG xs
 ·have e:Qcs QaU xs=[]:=by unfold Qcs;rw[hv];rfl
  rw[e];clear e;(repeat' first|refine gA fun _=>?_|apply fkI<;>intro hb<;>try simp only[ew,hv]at hb|simp only[go_sem,simprocAttr, *,hv])
  refine lpI {ι:=Unit,rs:=[(5,7),(8,59)],mods:=[(4,fun _=> .one (.d (.v (.int .i64 0)))),(3,fun _=> .one (.own 1 [] 1))],boxes:=[],arrs:=[],ok:=fun _=>True,mu:=fun _=>0} rfl () trivial ?_ fun _ _=>?_
  ·(repeat' first|refine gA fun _=>?_|apply fkI<;>intro hb<;>try simp only[ew,hv]at hb|simp only[go_sem,simprocAttr, *,hv])
  ·(repeat' first|refine gA fun _=>?_|apply fkI<;>intro hb<;>try simp only[ew,hv]at hb|simp only[go_sem,simprocAttr, *,hv])
   all_goals first|rfl|skip
 ·have e:Qcs QaU xs=Qa2 (xs.filter fun x=>xs.all (QaU x)):=by unfold Qcs;rw[hv];rfl
  have hat:=fun i=>@QvV xs hv i
  have h100:xs.length≤100:=by
   have:=hv
   simp only[QaG,KB,KK]at this
   omega
  rw[e];clear e;(repeat' first|refine gA fun _=>?_|apply fkI<;>intro hb<;>try simp only[ew,hv]at hb|simp only[go_sem,simprocAttr, *,hv])
  refine lpI {ι:=Nat,rs:=[(5,7),(8,59)],mods:=[(4,fun i=> .one (.d (.v (.int .i64 i)))),(3,fun i=> .one (.own 1 (iL (Qa2 ((xs.take i).filter fun x=>xs.all (QaU x)))) 1))],boxes:=[],arrs:=[],ok:=fun i=>i≤xs.length,mu:=fun i=>xs.length-i} rfl 0 (KJ _) ?_ fun i hi=>?_
  ·(repeat' first|refine gA fun _=>?_|apply fkI<;>intro hb<;>try simp only[ew,hv]at hb|simp only[go_sem,simprocAttr, *,hv])
   all_goals first|rfl|skip
  ·dsimp only at i hi
   have l1:=@QaL ((xs.take i).filter fun x=>xs.all (QaU x))
   have l2:=K3 (fun x=>xs.all (QaU x)) (xs.take i)
   rw[KO]at l2;have l3:(Qa2 ((xs.take i).filter fun x=>xs.all (QaU x))).length≤100:=by omega
   have l4:(Qa2 ((xs.take i).filter fun x=>xs.all (QaU x))).length≤maxLen:=KF l3 (by decide)
   clear l1 l2
   by_cases h5:i<xs.length
   ·obtain⟨x0,x31⟩:=hat i h5
    have hft:=Qcz h5 (fun x=>xs.all (QaU x))
    have hsn:=fun x=>@Qef ((xs.take i).filter fun x=>xs.all (QaU x)) x
    generalize hZ:Qa2 ((xs.take i).filter fun x=>xs.all (QaU x))=Z at l3 l4 hsn
    generalize hX:xs.getD i 0=x at x0 x31 hft;(repeat' first|refine gA fun _=>?_|apply fkI<;>intro hb<;>try simp only[ew,hv,hZ]at hb|simp only[go_sem,simprocAttr, *,hv])
    generalize hF:xs.all (QaU x)=F at hft;refine lpI {ι:=Nat,rs:=[(18,52)],mods:=[(6,fun k=> .one (.d (.v (.int .i64 k)))),(5,fun k=> .one (.d (.v (.bool ((xs.take k).all (QaU x))))))],boxes:=[],arrs:=[(3,fun _=>(1,iL Z,1))],ok:=fun k=>k≤xs.length,mu:=fun k=>xs.length-k} rfl 0 (KJ _) ?_ fun k hk=>?_
    ·(repeat' first|refine gA fun _=>?_|apply fkI<;>intro hb<;>try simp only[ew,hZ]at hb|simp only[go_sem,simprocAttr, *])
     all_goals first|rfl|skip
    ·dsimp only at k hk
     by_cases h6:k<xs.length
     ·obtain⟨y0,y31⟩:=hat k h6
      have ea:=QwH (l:=x) (x:=xs.getD k 0) ⟨x0,x31⟩ ⟨y0,y31⟩
      have et:=QeF h6 0 (QaU x)
      have em:QaU x (xs.getD k 0)=(xs.getD k 0==x|| !Qab x (xs.getD k 0)):=by
       unfold QaU;rw[Bool.beq_comm]
      rw[em]at et;clear em;(repeat' first|refine gA fun _=>?_|apply fkI<;>intro hb<;>try simp only[ew,hX,ea]at hb|simp only[go_sem,simprocAttr, *])
      refine lpQ (k+1) ?_
      (repeat' first|refine gA fun _=>?_|apply fkI<;>intro hb<;>try simp only[ew,et,hX,ea]at hb|simp only[go_sem,simprocAttr, *])
     ·have e6:k=xs.length:=by omega
      subst e6;have et:(xs.take xs.length).all (QaU x)=F:=by rw[KR,hF]
      cases hq:F
      ·rw[hq]at et hft
       rw[if_neg (by decide),KM]at hft
       clear hsn;(repeat' first|refine gA fun _=>?_|apply fkI<;>intro hb<;>try simp only[ew,et,hX]at hb|simp only[go_sem,simprocAttr, *])
       refine lpQ (i+1) ?_
       (repeat' first|refine gA fun _=>?_|apply fkI<;>intro hb<;>try simp only[ew,hft,hZ]at hb|simp only[go_sem,simprocAttr, *])
      ·rw[hq]at et hft
       rw[if_pos rfl]at hft;have hs:=hsn x
       clear hsn;(repeat' first|refine gA fun _=>?_|apply fkI<;>intro hb<;>try simp only[ew,et,hX]at hb|simp only[go_sem,simprocAttr, *])
       refine lpQ (i+1) ?_
       (repeat' first|refine gA fun _=>?_|apply fkI<;>intro hb<;>try simp only[ew,hft,hs,hZ]at hb|simp only[go_sem,simprocAttr, *])
   ·have e5:i=xs.length:=by omega
    subst e5;have et:xs.take xs.length=xs:=KR
    (repeat' first|refine gA fun _=>?_|apply fkI<;>intro hb<;>try simp only[ew,et,hv]at hb|simp only[go_sem,simprocAttr, *,hv])
    all_goals first|rfl|skip
theorem QqM:Qa E0 171 Qhy:=by
 refine QG (E:=E0) (T:=mkT Tryz.prog [(207,QjK),(158,Qwn),(157,Qax)] false (fun _=>false) true (fun _=>false)) (Qd (E:=E0) (.cons Qrf (.cons Qp9 (.cons Qbe .nil)))) (fn:=Tryz.f171) Tryz.func171 kR rfl Qc kR rfl ?_
 intro args p rs ms hr;unfold Qhy at hr;dsimp only at hr;split at hr;rotate_left
 ·cases hr
 rename_i l;cases hr;refine⟨rfl,rfl,nLe rfl,?_⟩
 have hm:=mxE;intro h1 bs;obtain⟨xs,rfl,hx⟩:=h1.ex;clear h1;rw[QaH];cases hv:QaG xs
 ·have e:Qcs QaM xs=[]:=by unfold Qcs;rw[hv];rfl
  rw[e];clear e;(repeat' first|refine gA fun _=>?_|apply fkI<;>intro hb<;>try simp only[ew,hv]at hb|simp only[go_sem,simprocAttr, *,hv])
  all_goals first|rfl|skip
 ·have e:Qcs QaM xs=(Qa2 xs).filter fun x=>xs.all (QaM x):=by unfold Qcs;rw[hv,QgM];rfl
  have h100:xs.length≤100:=by
   have:=hv
   simp only[QaG,KB,KK]at this
   omega
  have d100:(Qa2 xs).length≤100:=KF QaL h100
  have dmx:(Qa2 xs).length≤maxLen:=KF d100 (by decide)
  rw[e];clear e;(repeat' first|refine gA fun _=>?_|apply fkI<;>intro hb<;>try simp only[ew,hv]at hb|simp only[go_sem,simprocAttr, *,hv])
  generalize hD:Qa2 xs=D at d100 dmx;refine lpI {ι:=Nat,rs:=[(5,7),(8,9),(18,46)],mods:=[(17,fun i=> .one (.d (.v (.int .i64 i)))),(3,fun i=> .one (.own 1 (iL ((D.take i).filter fun x=>xs.all (QaM x))) 1))],boxes:=[],arrs:=[(15,fun _=>(1,iL D,1))],ok:=fun i=>i≤D.length,mu:=fun i=>D.length-i} rfl 0 (KJ _) ?_ fun i hi=>?_
  ·(repeat' first|refine gA fun _=>?_|apply fkI<;>intro hb<;>try simp only[ew,hD]at hb|simp only[go_sem,simprocAttr, *])
   all_goals first|rfl|skip
  ·dsimp only at i hi
   have l2:=K3 (fun x=>xs.all (QaM x)) (D.take i)
   rw[KO]at l2;have l3:((D.take i).filter fun x=>xs.all (QaM x)).length≤100:=by omega
   clear l2
   by_cases h5:i<D.length
   ·have hft:=Qcz h5 (fun x=>xs.all (QaM x))
    generalize hZ:(D.take i).filter (fun x=>xs.all (QaM x))=Z at l3 hft
    generalize hX:D.getD i 0=x at hft;(repeat' first|refine gA fun _=>?_|apply fkI<;>intro hb<;>try simp only[ew,hZ,hX]at hb|simp only[go_sem,simprocAttr, *])
    generalize hF:xs.all (QaM x)=F at hft;refine lpI {ι:=Nat,rs:=[(8,9),(24,40)],mods:=[(23,fun k=> .one (.d (.v (.int .i64 k)))),(6,fun k=> .one (.d (.v (.bool ((xs.take k).all (QaM x))))))],boxes:=[],arrs:=[(3,fun _=>(1,iL Z,1)),(15,fun _=>(1,iL D,1))],ok:=fun k=>k≤xs.length,mu:=fun k=>xs.length-k} rfl 0 (KJ _) ?_ fun k hk=>?_
    ·(repeat' first|refine gA fun _=>?_|apply fkI<;>intro hb<;>try simp only[ew,hZ]at hb|simp only[go_sem,simprocAttr, *])
     all_goals first|rfl|skip
    ·dsimp only at k hk
     by_cases h6:k<xs.length
     ·have et:=QeF h6 0 (QaM x)
      have em:QaM x (xs.getD k 0)=(x==xs.getD k 0|| !(QV .andNot .i64 (xs.getD k 0) x==0)):=rfl
      rw[em]at et;clear em;(repeat' first|refine gA fun _=>?_|apply fkI<;>intro hb<;>try simp only[ew]at hb|simp only[go_sem,simprocAttr, *])
      refine lpQ (k+1) ?_
      (repeat' first|refine gA fun _=>?_|apply fkI<;>intro hb<;>try simp only[ew,et]at hb|simp only[go_sem,simprocAttr, *])
     ·have e6:k=xs.length:=by omega
      subst e6;have et:(xs.take xs.length).all (QaM x)=F:=by rw[KR,hF]
      cases hq:F
      ·rw[hq]at et hft
       rw[if_neg (by decide),KM]at hft
       (repeat' first|refine gA fun _=>?_|apply fkI<;>intro hb<;>try simp only[ew,et]at hb|simp only[go_sem,simprocAttr, *])
       refine lpQ (i+1) ?_
       (repeat' first|refine gA fun _=>?_|apply fkI<;>intro hb<;>try simp only[ew,hft,hZ]at hb|simp only[go_sem,simprocAttr, *])
      ·rw[hq]at et hft
       rw[if_pos rfl]at hft;(repeat' first|refine gA fun _=>?_|apply fkI<;>intro hb<;>try simp only[ew,et,Qo]at hb|simp only[go_sem,simprocAttr, *,Qo])
       refine lpQ (i+1) ?_
       (repeat' first|refine gA fun _=>?_|apply fkI<;>intro hb<;>try simp only[ew,hft,hZ,Qo]at hb|simp only[go_sem,simprocAttr, *,Qo])
   ·have e5:i=D.length:=by omega
    subst e5;have et:D.take D.length=D:=KR
    (repeat' first|refine gA fun _=>?_|apply fkI<;>intro hb<;>try simp only[ew,et]at hb|simp only[go_sem,simprocAttr, *])
    all_goals first|(rw[hD];done)|rfl|skip
theorem QqI:Qa E0 208 Qiv:=by
 refine QG (E:=E0) (T:=mkT Tryz.prog [(207,QjK),(158,Qwn),(157,Qax)] false (fun _=>false) true (fun _=>false)) (Qd (E:=E0) (.cons Qrf (.cons Qp9 (.cons Qbe .nil)))) (fn:=Tryz.f208) Tryz.func208 kR rfl Qc kR rfl ?_
 intro args p rs ms hr;unfold Qiv at hr;dsimp only at hr;split at hr;rotate_left
 ·cases hr
 rename_i l;cases hr;refine⟨rfl,rfl,nLe rfl,?_⟩
 have hm:=mxE;intro h1 bs;obtain⟨xs,rfl,hx⟩:=h1.ex;clear h1;rw[QaH];cases hv:QaG xs
 ·have e:Qcs QaU xs=[]:=by unfold Qcs;rw[hv];rfl
  rw[e];clear e;(repeat' first|refine gA fun _=>?_|apply fkI<;>intro hb<;>try simp only[ew,hv]at hb|simp only[go_sem,simprocAttr, *,hv])
  all_goals first|rfl|skip
 ·have e:Qcs QaU xs=(Qa2 xs).filter fun x=>xs.all (QaU x):=by unfold Qcs;rw[hv,QgM];rfl
  have h100:xs.length≤100:=by
   have:=hv
   simp only[QaG,KB,KK]at this
   omega
  have d100:(Qa2 xs).length≤100:=KF QaL h100
  have dmx:(Qa2 xs).length≤maxLen:=KF d100 (by decide)
  rw[e];clear e;(repeat' first|refine gA fun _=>?_|apply fkI<;>intro hb<;>try simp only[ew,hv]at hb|simp only[go_sem,simprocAttr, *,hv])
  generalize hD:Qa2 xs=D at d100 dmx;refine lpI {ι:=Nat,rs:=[(5,7),(8,9),(18,46)],mods:=[(17,fun i=> .one (.d (.v (.int .i64 i)))),(3,fun i=> .one (.own 1 (iL ((D.take i).filter fun x=>xs.all (QaU x))) 1))],boxes:=[],arrs:=[(15,fun _=>(1,iL D,1))],ok:=fun i=>i≤D.length,mu:=fun i=>D.length-i} rfl 0 (KJ _) ?_ fun i hi=>?_
  ·(repeat' first|refine gA fun _=>?_|apply fkI<;>intro hb<;>try simp only[ew,hD]at hb|simp only[go_sem,simprocAttr, *])
   all_goals first|rfl|skip
  ·dsimp only at i hi
   have l2:=K3 (fun x=>xs.all (QaU x)) (D.take i)
   rw[KO]at l2;have l3:((D.take i).filter fun x=>xs.all (QaU x)).length≤100:=by omega
   clear l2
   by_cases h5:i<D.length
   ·have hft:=Qcz h5 (fun x=>xs.all (QaU x))
    generalize hZ:(D.take i).filter (fun x=>xs.all (QaU x))=Z at l3 hft
    generalize hX:D.getD i 0=x at hft;(repeat' first|refine gA fun _=>?_|apply fkI<;>intro hb<;>try simp only[ew,hZ,hX]at hb|simp only[go_sem,simprocAttr, *])
    generalize hF:xs.all (QaU x)=F at hft;refine lpI {ι:=Nat,rs:=[(8,9),(24,40)],mods:=[(23,fun k=> .one (.d (.v (.int .i64 k)))),(6,fun k=> .one (.d (.v (.bool ((xs.take k).all (QaU x))))))],boxes:=[],arrs:=[(3,fun _=>(1,iL Z,1)),(15,fun _=>(1,iL D,1))],ok:=fun k=>k≤xs.length,mu:=fun k=>xs.length-k} rfl 0 (KJ _) ?_ fun k hk=>?_
    ·(repeat' first|refine gA fun _=>?_|apply fkI<;>intro hb<;>try simp only[ew,hZ]at hb|simp only[go_sem,simprocAttr, *])
     all_goals first|rfl|skip
    ·dsimp only at k hk
     by_cases h6:k<xs.length
     ·have et:=QeF h6 0 (QaU x)
      have em:QaU x (xs.getD k 0)=(x==xs.getD k 0|| !(QV .andNot .i64 x (xs.getD k 0)==0)):=rfl
      rw[em]at et;clear em;(repeat' first|refine gA fun _=>?_|apply fkI<;>intro hb<;>try simp only[ew]at hb|simp only[go_sem,simprocAttr, *])
      refine lpQ (k+1) ?_
      (repeat' first|refine gA fun _=>?_|apply fkI<;>intro hb<;>try simp only[ew,et]at hb|simp only[go_sem,simprocAttr, *])
     ·have e6:k=xs.length:=by omega
      subst e6;have et:(xs.take xs.length).all (QaU x)=F:=by rw[KR,hF]
      cases hq:F
      ·rw[hq]at et hft
       rw[if_neg (by decide),KM]at hft
       (repeat' first|refine gA fun _=>?_|apply fkI<;>intro hb<;>try simp only[ew,et]at hb|simp only[go_sem,simprocAttr, *])
       refine lpQ (i+1) ?_
       (repeat' first|refine gA fun _=>?_|apply fkI<;>intro hb<;>try simp only[ew,hft,hZ]at hb|simp only[go_sem,simprocAttr, *])
      ·rw[hq]at et hft
       rw[if_pos rfl]at hft;(repeat' first|refine gA fun _=>?_|apply fkI<;>intro hb<;>try simp only[ew,et,Qo]at hb|simp only[go_sem,simprocAttr, *,Qo])
       refine lpQ (i+1) ?_
       (repeat' first|refine gA fun _=>?_|apply fkI<;>intro hb<;>try simp only[ew,hft,hZ,Qo]at hb|simp only[go_sem,simprocAttr, *,Qo])
   ·have e5:i=D.length:=by omega
    subst e5;have et:D.take D.length=D:=KR
    (repeat' first|refine gA fun _=>?_|apply fkI<;>intro hb<;>try simp only[ew,et]at hb|simp only[go_sem,simprocAttr, *])
    all_goals first|(rw[hD];done)|rfl|skip
end Go.Own
