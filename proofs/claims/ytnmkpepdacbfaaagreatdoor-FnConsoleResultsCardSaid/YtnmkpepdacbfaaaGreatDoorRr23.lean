/- Own contracts. Conditions: as each theorem states them. -/
import Derived.Test.YtnmkpepdacbfaaaGreatDoorRr22
set_option linter.unusedSimpArgs false
set_option linter.unusedVariables false
set_option maxRecDepth 20000
set_option maxHeartbeats 2000000
namespace Go.Own
open Go Go.Proofs
attribute [local go_sem] Qly Qi0 QvL Tryz.results178 QgQ Qs2 Qaj Tryz.results171 Tryz.results208
theorem QnG:Qa E0 171 QgQ:=by
 refine QV (E:=E0) (T:=mkT Tryz.prog [(207,Qi0),(158,Qs2),(157,Qaj)] false (fun _=>false) true (fun _=>false)) (Qf (E:=E0) (.cons Qn6 (.cons Qm9 (.cons QaN .nil)))) (fn:=Tryz.f171) Tryz.func171 (by kernel_rfl) rfl Qe (by kernel_rfl) rfl ?_
 intro args p rs ms hr;unfold QgQ at hr;dsimp only at hr;split at hr;rotate_left
 ·cases hr
 rename_i l;cases hr;refine⟨rfl,rfl,nLe rfl,?_⟩
 have hm:=mxE;intro h1 bs;obtain⟨xs,rfl,hx⟩:=h1.ex;clear h1;rw[Qay];cases hv:QaE xs
 ·have e:QdG Qaw xs=[]:=by unfold QdG;rw[hv];rfl
  rw[e];clear e;(repeat' first|refine gA fun _=>?_|apply fkI<;>intro hb<;>try simp only[ew,hv]at hb|simp only[go_sem,simprocAttr, *,hv])
  all_goals first|rfl|skip
 ·have e:QdG Qaw xs=(Qdq xs).filter fun x=>xs.all (Qaw x):=by unfold QdG;rw[hv,Qir];rfl
  have h100:xs.length≤100:=by
   have:=hv
   simp only[QaE,Bool.and_eq_true,decide_eq_true_eq]at this
   omega
  have d100:(Qdq xs).length≤100:=Nat.le_trans Qbu h100
  have dmx:(Qdq xs).length≤maxLen:=Nat.le_trans d100 (by decide)
  rw[e];clear e;(repeat' first|refine gA fun _=>?_|apply fkI<;>intro hb<;>try simp only[ew,hv]at hb|simp only[go_sem,simprocAttr, *,hv])
  generalize hD:Qdq xs=D at d100 dmx;refine lpI {ι:=Nat,rs:=[(5,7),(8,9),(18,46)],mods:=[(17,fun i=> .one (.d (.v (.int .i64 i)))),(3,fun i=> .one (.own 1 (iL ((D.take i).filter fun x=>xs.all (Qaw x))) 1))],boxes:=[],arrs:=[(15,fun _=>(1,iL D,1))],ok:=fun i=>i≤D.length,mu:=fun i=>D.length-i} rfl 0 (Nat.zero_le _) ?_ fun i hi=>?_
  ·(repeat' first|refine gA fun _=>?_|apply fkI<;>intro hb<;>try simp only[ew,hD]at hb|simp only[go_sem,simprocAttr, *])
   all_goals first|rfl|skip
  ·dsimp only at i hi
   have l2:=List.length_filter_le (fun x=>xs.all (Qaw x)) (D.take i)
   rw[List.length_take]at l2;have l3:((D.take i).filter fun x=>xs.all (Qaw x)).length≤100:=by omega
   clear l2
   by_cases h5:i<D.length
   ·have hft:=QcT h5 (fun x=>xs.all (Qaw x))
    generalize hZ:(D.take i).filter (fun x=>xs.all (Qaw x))=Z at l3 hft
    generalize hX:D.getD i 0=x at hft;(repeat' first|refine gA fun _=>?_|apply fkI<;>intro hb<;>try simp only[ew,hZ,hX]at hb|simp only[go_sem,simprocAttr, *])
    generalize hF:xs.all (Qaw x)=F at hft;refine lpI {ι:=Nat,rs:=[(8,9),(24,40)],mods:=[(23,fun k=> .one (.d (.v (.int .i64 k)))),(6,fun k=> .one (.d (.v (.bool ((xs.take k).all (Qaw x))))))],boxes:=[],arrs:=[(3,fun _=>(1,iL Z,1)),(15,fun _=>(1,iL D,1))],ok:=fun k=>k≤xs.length,mu:=fun k=>xs.length-k} rfl 0 (Nat.zero_le _) ?_ fun k hk=>?_
    ·(repeat' first|refine gA fun _=>?_|apply fkI<;>intro hb<;>try simp only[ew,hZ]at hb|simp only[go_sem,simprocAttr, *])
     all_goals first|rfl|skip
    ·dsimp only at k hk
     by_cases h6:k<xs.length
     ·have et:=Qgj h6 0 (Qaw x)
      have em:Qaw x (xs.getD k 0)=(x==xs.getD k 0|| !(Qax .andNot .i64 (xs.getD k 0) x==0)):=rfl
      rw[em]at et;clear em;(repeat' first|refine gA fun _=>?_|apply fkI<;>intro hb<;>try simp only[ew]at hb|simp only[go_sem,simprocAttr, *])
      refine lpN (k+1) (by dsimp only;omega) (by dsimp only;omega) ?_
      (repeat' first|refine gA fun _=>?_|apply fkI<;>intro hb<;>try simp only[ew,et]at hb|simp only[go_sem,simprocAttr, *])
     ·have e6:k=xs.length:=by omega
      subst e6;have et:(xs.take xs.length).all (Qaw x)=F:=by rw[List.take_length,hF]
      cases hq:F
      ·rw[hq]at et hft
       rw[if_neg (by decide),List.append_nil]at hft
       (repeat' first|refine gA fun _=>?_|apply fkI<;>intro hb<;>try simp only[ew,et]at hb|simp only[go_sem,simprocAttr, *])
       refine lpN (i+1) (by dsimp only;omega) (by dsimp only;omega) ?_
       (repeat' first|refine gA fun _=>?_|apply fkI<;>intro hb<;>try simp only[ew,hft,hZ]at hb|simp only[go_sem,simprocAttr, *])
      ·rw[hq]at et hft
       rw[if_pos rfl]at hft;(repeat' first|refine gA fun _=>?_|apply fkI<;>intro hb<;>try simp only[ew,et,Ql]at hb|simp only[go_sem,simprocAttr, *,Ql])
       refine lpN (i+1) (by dsimp only;omega) (by dsimp only;omega) ?_
       (repeat' first|refine gA fun _=>?_|apply fkI<;>intro hb<;>try simp only[ew,hft,hZ,Ql]at hb|simp only[go_sem,simprocAttr, *,Ql])
   ·have e5:i=D.length:=by omega
    subst e5;have et:D.take D.length=D:=List.take_length
    (repeat' first|refine gA fun _=>?_|apply fkI<;>intro hb<;>try simp only[ew,et]at hb|simp only[go_sem,simprocAttr, *])
    all_goals first|(rw[hD];done)|rfl|skip
theorem QnC:Qa E0 208 Qly:=by
 refine QV (E:=E0) (T:=mkT Tryz.prog [(207,Qi0),(158,Qs2),(157,Qaj)] false (fun _=>false) true (fun _=>false)) (Qf (E:=E0) (.cons Qn6 (.cons Qm9 (.cons QaN .nil)))) (fn:=Tryz.f208) Tryz.func208 (by kernel_rfl) rfl Qe (by kernel_rfl) rfl ?_
 intro args p rs ms hr;unfold Qly at hr;dsimp only at hr;split at hr;rotate_left
 ·cases hr
 rename_i l;cases hr;refine⟨rfl,rfl,nLe rfl,?_⟩
 have hm:=mxE;intro h1 bs;obtain⟨xs,rfl,hx⟩:=h1.ex;clear h1;rw[Qay];cases hv:QaE xs
 ·have e:QdG Qc9 xs=[]:=by unfold QdG;rw[hv];rfl
  rw[e];clear e;(repeat' first|refine gA fun _=>?_|apply fkI<;>intro hb<;>try simp only[ew,hv]at hb|simp only[go_sem,simprocAttr, *,hv])
  all_goals first|rfl|skip
 ·have e:QdG Qc9 xs=(Qdq xs).filter fun x=>xs.all (Qc9 x):=by unfold QdG;rw[hv,Qir];rfl
  have h100:xs.length≤100:=by
   have:=hv
   simp only[QaE,Bool.and_eq_true,decide_eq_true_eq]at this
   omega
  have d100:(Qdq xs).length≤100:=Nat.le_trans Qbu h100
  have dmx:(Qdq xs).length≤maxLen:=Nat.le_trans d100 (by decide)
  rw[e];clear e;(repeat' first|refine gA fun _=>?_|apply fkI<;>intro hb<;>try simp only[ew,hv]at hb|simp only[go_sem,simprocAttr, *,hv])
  generalize hD:Qdq xs=D at d100 dmx;refine lpI {ι:=Nat,rs:=[(5,7),(8,9),(18,46)],mods:=[(17,fun i=> .one (.d (.v (.int .i64 i)))),(3,fun i=> .one (.own 1 (iL ((D.take i).filter fun x=>xs.all (Qc9 x))) 1))],boxes:=[],arrs:=[(15,fun _=>(1,iL D,1))],ok:=fun i=>i≤D.length,mu:=fun i=>D.length-i} rfl 0 (Nat.zero_le _) ?_ fun i hi=>?_
  ·(repeat' first|refine gA fun _=>?_|apply fkI<;>intro hb<;>try simp only[ew,hD]at hb|simp only[go_sem,simprocAttr, *])
   all_goals first|rfl|skip
  ·dsimp only at i hi
   have l2:=List.length_filter_le (fun x=>xs.all (Qc9 x)) (D.take i)
   rw[List.length_take]at l2;have l3:((D.take i).filter fun x=>xs.all (Qc9 x)).length≤100:=by omega
   clear l2
   by_cases h5:i<D.length
   ·have hft:=QcT h5 (fun x=>xs.all (Qc9 x))
    generalize hZ:(D.take i).filter (fun x=>xs.all (Qc9 x))=Z at l3 hft
    generalize hX:D.getD i 0=x at hft;(repeat' first|refine gA fun _=>?_|apply fkI<;>intro hb<;>try simp only[ew,hZ,hX]at hb|simp only[go_sem,simprocAttr, *])
    generalize hF:xs.all (Qc9 x)=F at hft;refine lpI {ι:=Nat,rs:=[(8,9),(24,40)],mods:=[(23,fun k=> .one (.d (.v (.int .i64 k)))),(6,fun k=> .one (.d (.v (.bool ((xs.take k).all (Qc9 x))))))],boxes:=[],arrs:=[(3,fun _=>(1,iL Z,1)),(15,fun _=>(1,iL D,1))],ok:=fun k=>k≤xs.length,mu:=fun k=>xs.length-k} rfl 0 (Nat.zero_le _) ?_ fun k hk=>?_
    ·(repeat' first|refine gA fun _=>?_|apply fkI<;>intro hb<;>try simp only[ew,hZ]at hb|simp only[go_sem,simprocAttr, *])
     all_goals first|rfl|skip
    ·dsimp only at k hk
     by_cases h6:k<xs.length
     ·have et:=Qgj h6 0 (Qc9 x)
      have em:Qc9 x (xs.getD k 0)=(x==xs.getD k 0|| !(Qax .andNot .i64 x (xs.getD k 0)==0)):=rfl
      rw[em]at et;clear em;(repeat' first|refine gA fun _=>?_|apply fkI<;>intro hb<;>try simp only[ew]at hb|simp only[go_sem,simprocAttr, *])
      refine lpN (k+1) (by dsimp only;omega) (by dsimp only;omega) ?_
      (repeat' first|refine gA fun _=>?_|apply fkI<;>intro hb<;>try simp only[ew,et]at hb|simp only[go_sem,simprocAttr, *])
     ·have e6:k=xs.length:=by omega
      subst e6;have et:(xs.take xs.length).all (Qc9 x)=F:=by rw[List.take_length,hF]
      cases hq:F
      ·rw[hq]at et hft
       rw[if_neg (by decide),List.append_nil]at hft
       (repeat' first|refine gA fun _=>?_|apply fkI<;>intro hb<;>try simp only[ew,et]at hb|simp only[go_sem,simprocAttr, *])
       refine lpN (i+1) (by dsimp only;omega) (by dsimp only;omega) ?_
       (repeat' first|refine gA fun _=>?_|apply fkI<;>intro hb<;>try simp only[ew,hft,hZ]at hb|simp only[go_sem,simprocAttr, *])
      ·rw[hq]at et hft
       rw[if_pos rfl]at hft;(repeat' first|refine gA fun _=>?_|apply fkI<;>intro hb<;>try simp only[ew,et,Ql]at hb|simp only[go_sem,simprocAttr, *,Ql])
       refine lpN (i+1) (by dsimp only;omega) (by dsimp only;omega) ?_
       (repeat' first|refine gA fun _=>?_|apply fkI<;>intro hb<;>try simp only[ew,hft,hZ,Ql]at hb|simp only[go_sem,simprocAttr, *,Ql])
   ·have e5:i=D.length:=by omega
    subst e5;have et:D.take D.length=D:=List.take_length
    (repeat' first|refine gA fun _=>?_|apply fkI<;>intro hb<;>try simp only[ew,et]at hb|simp only[go_sem,simprocAttr, *])
    all_goals first|(rw[hD];done)|rfl|skip
end Go.Own

namespace Go.Own
open Go Go.Proofs
attribute [local go_sem] Qm Qc QZ Q1 Q0 Q3 QaH Qdb Qr
theorem Qx9:∀x y:Fin 32,0≤Qax .or .i64 ((x.val:Nat):Int) ((y.val:Nat):Int)∧Qax .or .i64 ((x.val:Nat):Int) ((y.val:Nat):Int)≤31:=by decide+kernel
theorem QCA{x y:Int}(hx:R5 x)(hy:R5 y):R5 (Qax .or .i64 x y):=by
 obtain⟨x,rfl⟩:=hx.fin;obtain⟨y,rfl⟩:=hy.fin;exact Qx9 x y
theorem QdD{p:Int→Bool}{x:Nat}:(rng (x+1)).filter p=(rng x).filter p++(if p x then [(x:Int)]else []):=by
 rw[Qn2,List.filter_append,List.filter_cons,List.filter_nil]
theorem QbA{p:Int→Bool}{x:Nat}:((rng x).filter p).length≤x:=by
 have:=List.length_filter_le p (rng x)
 rw[QiO]at this;exact this
end Go.Own
