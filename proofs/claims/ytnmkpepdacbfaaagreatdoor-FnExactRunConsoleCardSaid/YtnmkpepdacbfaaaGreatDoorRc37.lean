/- Own contracts. Conditions: as each theorem states them. -/
import Derived.Test.YtnmkpepdacbfaaaGreatDoorRc35
set_option linter.unusedSimpArgs false
set_option linter.unusedVariables false
set_option maxRecDepth 20000
set_option maxHeartbeats 2000000
namespace Go.Own
open Go Go.Proofs
attribute [local go_sem] QO Qxx Qsg cWo Qi6 Tryz.results115 QlQ Tryz.results86
attribute [local go_sem] Qh Qe Qaa Qac Qab Qaf QaX QdJ Qu QaV
def QyZ(n:Int)(ds:List (Int×Int))(C:List (Int×Int))(d:Int×Int):List (Int×Int):=if(C.any fun e=>e==QmH n ds d)then C else C++[QmH n ds d]
def Qi0(n:Int)(ds l:List (Int×Int)):List (Int×Int):=l.foldl (QyZ n ds) []
def QvX:Nat→List (Int×Int)→Nat→List (Int×Int)
 | 0,C,_=>C
 | f+1,C,i=>if Qt (clo (wo C i) (C.getD i (0,0)).1) (C.getD i (0,0)).2 then QvX f (wo C i) i else QvX f C (i+1)
def Qgf(n:Int)(ds:List (Int×Int)):List (Int×Int):=if QF n ds then QvX (Qi0 n ds ds).length (Qi0 n ds ds) 0 else []
theorem QAb{n:Int}{ds:List (Int×Int)}{d:Int×Int}(h:QJ n d.1 d.2=true):QJ n (QmH n ds d).1 (QmH n ds d).2=true:=by
 have hR:=Qas h
 obtain⟨h1,h2,_⟩:=QeB (ds:=ds) (r:=d.2) hR.1 (k:=5) (by omega)
 unfold QmH;split
 ·simp only[QJ,Ql,Bool.and_eq_true,Qi]at h ⊢
  exact⟨⟨h.1.1,h.1.2.1,h1.1,Int.le_trans h2 h.1.2.2.2⟩,h.2⟩
 ·exact h
theorem QnA{n:Int}{ds C:List (Int×Int)}{d:Int×Int}:(QyZ n ds C d).length≤C.length+1:=by
 unfold QyZ;split<;>simp
theorem Qfx{n:Int}{ds l:List (Int×Int)}{i:Nat}(h:i<l.length):Qi0 n ds (l.take (i+1))=QyZ n ds (Qi0 n ds (l.take i)) (l.getD i (0,0)):=by
 unfold Qi0;rw[Qf h (0,0),List.foldl_append];rfl
theorem Qdl{n:Int}{ds l:List (Int×Int)}:∀{i:Nat},i≤l.length→(Qi0 n ds (l.take i)).length≤i
 | 0,_=>by simp[Qi0]
 | i+1,h=>by
  rw[Qfx h];exact Nat.le_trans QnA (Nat.succ_le_succ (Qdl (by omega)))
theorem QsC{n:Int}{ds l:List (Int×Int)}(hl:∀d∈l,QJ n d.1 d.2=true):∀{i:Nat},i≤l.length→∀d∈Qi0 n ds (l.take i),QJ n d.1 d.2=true
 | 0,_=>by simp[Qi0]
 | i+1,h=>by
  have ih:=QsC (ds:=ds) hl (i:=i) (by omega)
  have hm:=hl _ (QP (l:=l) (i:=i) h (0,0));rw[Qfx h];unfold QyZ;split
  ·exact ih
  ·intro d hd
   rcases List.mem_append.1 hd with h1|h1
   ·exact ih d h1
   ·rw[List.mem_singleton]at h1
    rw[h1];exact QAb hm
theorem Qej{C:List (Int×Int)}{i:Nat}(h:i<C.length):(wo C i).length+1=C.length:=by
 simp[wo,List.length_take,List.length_drop];omega
theorem QuK{C:List (Int×Int)}{i:Nat}:∀d∈wo C i,d∈C:=by
 intro d hd;rcases List.mem_append.1 hd with h|h
 ·exact List.mem_of_mem_take h
 ·exact List.mem_of_mem_drop h
theorem Qgg:∀{f:Nat} {C:List (Int×Int)} {i:Nat},(∀d∈QvX f C i,d∈C)∧(i+f≤C.length→(QvX f C i).length≤C.length)
 | 0,C,i=>⟨fun _ h=>h,fun _=>Nat.le_refl _⟩
 | f+1,C,i=>by
  rw[QvX];split
  ·obtain⟨h1,h2⟩:=@Qgg f (wo C i) i
   refine⟨fun d hd=>QuK d (h1 d hd),fun h=>?_⟩
   have hw:=Qej (C:=C) (i:=i) (by omega)
   have:=h2 (by omega)
   omega
  ·obtain⟨h1,h2⟩:=@Qgg f C (i+1)
   exact⟨h1,fun h=>h2 (by omega)⟩
def QvY(n:Int)(R:List (Int×Int))(C:List (Int×Int))(i:Nat):Prop:=i≤C.length∧C.length≤20∧(∀d∈C,QJ n d.1 d.2=true)∧QvX (C.length-i) C i=R
theorem QsF{n:Int}{R C:List (Int×Int)}{i:Nat}(h:QvY n R C i)(hi:i<C.length)(hq:Qt (clo (wo C i) (C.getD i (0,0)).1) (C.getD i (0,0)).2=true):QvY n R (wo C i) i:=by
 obtain⟨h1,h2,h3,h4⟩:=h;have hw:=Qej hi
 refine⟨by omega,by omega,fun d hd=>h3 d (QuK d hd),?_⟩
 obtain⟨f,hf⟩:∃f,C.length-i=f+1:=⟨C.length-i-1,by omega⟩
 rw[hf,QvX,hq,if_pos rfl]at h4;rw[←h4];congr 1
 omega
theorem Ql2{n:Int}{R C:List (Int×Int)}{i:Nat}(h:QvY n R C i)(hi:i<C.length)(hq:Qt (clo (wo C i) (C.getD i (0,0)).1) (C.getD i (0,0)).2=false):QvY n R C (i+1):=by
 obtain⟨h1,h2,h3,h4⟩:=h;refine⟨by omega,h2,h3,?_⟩
 obtain⟨f,hf⟩:∃f,C.length-i=f+1:=⟨C.length-i-1,by omega⟩
 rw[hf,QvX,hq,if_neg (by decide)]at h4
 rw[←h4];congr 1
 omega
theorem QoQ{n:Int}{R C:List (Int×Int)}{i:Nat}(h:QvY n R C i)(hi:¬i<C.length):R=C:=by
 obtain⟨h1,h2,h3,h4⟩:=h;have:C.length-i=0:=by omega
 rw[this]at h4;exact h4.symm
theorem Qgh{n:Int}{ds:List (Int×Int)}(hv:QF n ds=true):QvY n (Qgf n ds) (Qi0 n ds ds) 0:=by
 have h20:=(Qfz hv).2.2
 have hv2:=hv
 simp only[QF,Bool.and_eq_true,List.all_eq_true]at hv2
 have hl:=@Qdl n ds ds ds.length (Nat.le_refl _)
 have hk:=@QsC n ds ds hv2.1 ds.length (Nat.le_refl _)
 rw[List.take_length]at hl hk;refine⟨Nat.zero_le _,by omega,hk,?_⟩
 unfold Qgf;rw[hv,if_pos rfl];rfl
theorem Qh8{n:Int}{R C:List (Int×Int)}{i:Nat}(hn:1≤n∧n≤5)(h:QvY n R C i)(hi:i<C.length):QF n (wo C i)=true∧QJ n (C.getD i (0,0)).1 (C.getD i (0,0)).2=true:=by
 obtain⟨h1,h2,h3,h4⟩:=h;have hw:=Qej hi
 refine⟨?_,h3 _ (QP hi (0,0))⟩
 simp only[QF,Bool.and_eq_true,List.all_eq_true,Qi,decide_eq_true_eq]
 exact⟨fun d hd=>h3 d (QuK d hd),hn,by omega⟩
theorem QcZ{n:Int}{ds:List (Int×Int)}:(∀d∈Qgf n ds,QJ n d.1 d.2=true)∧(Qgf n ds).length≤20:=by
 cases hv:QF n ds
 ·unfold Qgf
  rw[hv];simp
 ·obtain⟨_,h2,h3,h4⟩:=Qgh hv
  rw[←h4];obtain⟨f1,f2⟩:=@Qgg ((Qi0 n ds ds).length-0) (Qi0 n ds ds) 0;exact⟨fun d hd=>h3 d (f1 d hd),Nat.le_trans (f2 (by omega)) h2⟩
def QrA:Qb:=⟨[],false,fun
 | [.one (.v (.int .i64 n)),.one (.sl 2 l)]=>some (WfD l∧ -9223372036854775808≤n∧n≤9223372036854775807,[⟨false,[.own 2 (dL (Qgf n (unD l))) 1]⟩],[])
 | _=>none⟩
attribute [local go_sem] QrA
theorem Qhf{α:Type}{xs:List α}{i:Nat}(h:i<xs.length)(d:α)(f:α→Bool):(xs.take (i+1)).any f=((xs.take i).any f||f (xs.getD i d)):=by
 rw[Qf h d,List.any_append];simp
theorem QsE:Qa E0 115 QrA:=by
 refine QE (E:=E0) (T:=mkT Tryz.prog [(163,QO),(172,Qxx),(173,Qsg),(174,cWo),(164,Qi6)] false (fun _=>false) true (fun _=>false)) (Qd (E:=E0) (.cons Qbq (.cons QAc (.cons Qzp (.cons QCq (.cons QkO .nil)))))) (fn:=Tryz.f115) Tryz.func115 (by kernel_rfl) rfl Qc (by kernel_rfl) rfl ?_
 intro args p rs ms hr;unfold QrA at hr;dsimp only at hr;split at hr;rotate_left
 ·cases hr
 rename_i n l;cases hr;refine⟨rfl,rfl,nLe rfl,?_⟩
 have hm:=mxE;rintro⟨h1,hn1,hn2⟩ bs;obtain⟨ds,rfl,hx⟩:=h1.ex;clear h1;rw[Qh];cases hv:QF n ds
 ·have e:Qgf n ds=[]:=by unfold Qgf;rw[hv];rfl
  rw[e];clear e;(repeat' first|refine gA fun _=>?_|apply fkI<;>intro hb<;>try simp only[ew,hv]at hb|simp only[go_sem,simprocAttr, *,hv])
  all_goals first|rfl|skip
 ·have hst:=Qgh hv
  obtain⟨n1,n5,l20⟩:=Qfz hv;generalize Qgf n ds=R at hst ⊢;have hC:=fun i h=>@Qdl n ds ds i h
  have l20':ds.length≤maxLen:=Nat.le_trans l20 (by decide)
  have e0:Qi0 n ds (ds.take 0)=[]:=rfl
  (repeat' first|refine gA fun _=>?_|apply fkI<;>intro hb<;>try simp only[ew,hv]at hb|simp only[go_sem,simprocAttr, *,hv])
  refine lpI {ι:=Nat,rs:=[(7,9),(20,36)],mods:=[(19,fun i=> .one (.d (.v (.int .i64 i)))),(5,fun i=> .one (.own 2 (dL (Qi0 n ds (ds.take i))) 1))],boxes:=[],arrs:=[],ok:=fun i=>i≤ds.length,mu:=fun i=>ds.length-i} rfl 0 (Nat.zero_le _) ?_ fun i hi=>?_
  ·clear hC hst
   (repeat' first|refine gA fun _=>?_|apply fkI<;>intro hb<;>try simp only[ew,e0]at hb|simp only[go_sem,simprocAttr, *])
   all_goals first|rfl|skip
  ·dsimp only at i hi
   have hl:=hC i hi
   have hl2:(Qi0 n ds (ds.take i)).length≤maxLen:=Nat.le_trans hl (Nat.le_trans hi l20')
   by_cases h5:i<ds.length
   ·have eS:=Qfx (n:=n) (ds:=ds) h5
    generalize hK:Qi0 n ds (ds.take i)=C at hl hl2 eS;generalize hr:QmH n ds (ds.getD i (0,0))=r;unfold QyZ at eS;rw[hr]at eS;cases hq:(C.any fun e=>e==r)
    ·rw[hq,if_neg (by decide)]at eS
     clear hC hst;(repeat' first|refine gA fun _=>?_|apply fkI<;>intro hb<;>try simp only[ew,hK,hr,hq,Qm]at hb|simp only[go_sem,simprocAttr, *,hq,Qm])
     refine lpN (i+1) (by dsimp only;omega) (by dsimp only;omega) ?_
     (repeat' first|refine gA fun _=>?_|apply fkI<;>intro hb<;>try simp only[ew,hK,eS,hr,hq,Qm]at hb|simp only[go_sem,simprocAttr, *,hq,Qm])
    ·rw[hq,if_pos rfl]at eS
     clear hC hst;(repeat' first|refine gA fun _=>?_|apply fkI<;>intro hb<;>try simp only[ew,hK,hr,hq]at hb|simp only[go_sem,simprocAttr, *,hq])
     refine lpN (i+1) (by dsimp only;omega) (by dsimp only;omega) ?_
     (repeat' first|refine gA fun _=>?_|apply fkI<;>intro hb<;>try simp only[ew,hK,eS,hr,hq]at hb|simp only[go_sem,simprocAttr, *,hq])
   ·have e5:i=ds.length:=by omega
    subst e5;have eP:ds.take ds.length=ds:=List.take_length
    rw[eP]at hl hl2;clear hC;generalize hK:Qi0 n ds ds=K at hl hl2 hst;(repeat' first|refine gA fun _=>?_|apply fkI<;>intro hb<;>try simp only[ew,eP,hK]at hb|simp only[go_sem,simprocAttr, *])
    refine lpI {ι:=Nat×List (Int×Int),rs:=[(10,11),(36,54)],mods:=[(9,fun i=> .one (.d (.v (.int .i64 i.1)))),(5,fun i=> .one (.own 2 (dL i.2) 1))],boxes:=[],arrs:=[],ok:=fun i=>QvY n R i.2 i.1,mu:=fun i=>i.2.length-i.1} rfl (0,K) hst ?_ ?_
    ·clear hst
     (repeat' first|refine gA fun _=>?_|apply fkI<;>intro hb<;>try simp only[ew,eP,hK]at hb|simp only[go_sem,simprocAttr, *])
    ·rintro⟨j,C⟩ hj
     dsimp only at hj;have hj1:=hj.1
     have hj2:=hj.2.1
     by_cases h6:j<C.length
     ·obtain⟨o1,o2⟩:=Qh8 ⟨n1,n5⟩ hj h6
      have hd:=Qax o1
      obtain⟨⟨a1,a2⟩,b1,b2⟩:=Qas o2;have hw:=Qej h6
      have hq1:=QsF hj h6
      have hq0:=Ql2 hj h6
      have ej:(j:Int)-1+1=j:=by omega
      clear hst hj o1 o2;cases hq:Qt (clo (wo C j) (C.getD j (0,0)).1) (C.getD j (0,0)).2
      ·have hq0:=hq0 hq
       clear hq1;(repeat' first|refine gA fun _=>?_|apply fkI<;>intro hb<;>try simp only[ew,hq]at hb|simp only[go_sem,simprocAttr, *,hq])
       refine lpN (j+1,C) hq0 (by dsimp only;omega) ?_
       clear hq0 hd;(repeat' first|refine gA fun _=>?_|apply fkI<;>intro hb<;>try simp only[ew,hq]at hb|simp only[go_sem,simprocAttr, *,hq])
      ·have hq1:=hq1 hq
       clear hq0;(repeat' first|refine gA fun _=>?_|apply fkI<;>intro hb<;>try simp only[ew,hq,ej]at hb|simp only[go_sem,simprocAttr, *,hq])
       refine lpN (j,wo C j) hq1 (by dsimp only;omega) ?_
       clear hq1 hd;(repeat' first|refine gA fun _=>?_|apply fkI<;>intro hb<;>try simp only[ew,hq,ej]at hb|simp only[go_sem,simprocAttr, *,hq])
     ·have e6:=QoQ hj h6
      subst e6;clear hst hj;exact gQ
theorem QsG:Qa E0 86 QrA:=by
 refine QE (E:=E0) (T:=mkT Tryz.prog [(126,QO),(129,Qxx),(130,cWo),(84,QlQ)] false (fun _=>false) true (fun _=>false)) (Qd (E:=E0) (.cons Qbr (.cons QAd (.cons QCr (.cons QkP .nil))))) (fn:=Tryz.f86) Tryz.func86 (by kernel_rfl) rfl Qc (by kernel_rfl) rfl ?_
 intro args p rs ms hr;unfold QrA at hr;dsimp only at hr;split at hr;rotate_left
 ·cases hr
 rename_i n l;cases hr;refine⟨rfl,rfl,nLe rfl,?_⟩
 have hm:=mxE;rintro⟨h1,hn1,hn2⟩ bs;obtain⟨ds,rfl,hx⟩:=h1.ex;clear h1;rw[Qh];cases hv:QF n ds
 ·have e:Qgf n ds=[]:=by unfold Qgf;rw[hv];rfl
  rw[e];clear e;(repeat' first|refine gA fun _=>?_|apply fkI<;>intro hb<;>try simp only[ew,hv]at hb|simp only[go_sem,simprocAttr, *,hv])
  all_goals first|rfl|skip
 ·have hst:=Qgh hv
  obtain⟨n1,n5,l20⟩:=Qfz hv;generalize Qgf n ds=R at hst ⊢;have hC:=fun i h=>@Qdl n ds ds i h
  have l20':ds.length≤maxLen:=Nat.le_trans l20 (by decide)
  have e0:Qi0 n ds (ds.take 0)=[]:=rfl
  (repeat' first|refine gA fun _=>?_|apply fkI<;>intro hb<;>try simp only[ew,hv]at hb|simp only[go_sem,simprocAttr, *,hv])
  refine lpI {ι:=Nat,rs:=[(7,10),(18,52)],mods:=[(6,fun i=> .one (.d (.v (.int .i64 i)))),(5,fun i=> .one (.own 2 (dL (Qi0 n ds (ds.take i))) 1))],boxes:=[],arrs:=[],ok:=fun i=>i≤ds.length,mu:=fun i=>ds.length-i} rfl 0 (Nat.zero_le _) ?_ fun i hi=>?_
  ·clear hC hst
   (repeat' first|refine gA fun _=>?_|apply fkI<;>intro hb<;>try simp only[ew,e0]at hb|simp only[go_sem,simprocAttr, *])
   all_goals first|rfl|skip
  ·dsimp only at i hi
   have hl:=hC i hi
   have hl2:(Qi0 n ds (ds.take i)).length≤maxLen:=Nat.le_trans hl (Nat.le_trans hi l20')
   by_cases h5:i<ds.length
   ·have eS:=Qfx (n:=n) (ds:=ds) h5
    generalize hK:Qi0 n ds (ds.take i)=C at hl hl2 eS;generalize hr:QmH n ds (ds.getD i (0,0))=r;unfold QyZ at eS;rw[hr]at eS;clear hC hst;(repeat' first|refine gA fun _=>?_|apply fkI<;>intro hb<;>try simp only[ew,hK,hr]at hb|simp only[go_sem,simprocAttr, *])
    refine lpI {ι:=Nat,rs:=[(31,46)],mods:=[(9,fun k=> .one (.d (.v (.int .i64 k)))),(8,fun k=> .one (.d (.v (.bool ((C.take k).any fun e=>e==r)))))],boxes:=[(7,fun _=>[.d (.v (.int .i64 r.1)),.d (.v (.int .i64 r.2))])],arrs:=[(5,fun _=>(2,dL C,1))],ok:=fun k=>k≤C.length,mu:=fun k=>C.length-k} rfl 0 (Nat.zero_le _) ?_ fun k hk=>?_
    ·(repeat' first|refine gA fun _=>?_|apply fkI<;>intro hb<;>try simp only[ew,hK,hr]at hb|simp only[go_sem,simprocAttr, *])
     all_goals first|rfl|skip
    ·dsimp only at k hk
     by_cases h6:k<C.length
     ·have eA:=Qhf h6 (0,0) fun e=>e==r
      generalize hf:((C.take k).any fun e=>e==r)=b0 at eA
      generalize hg:(C.getD k (0,0)==r)=b1 at eA;cases b0
      ·rw[Bool.false_or]at eA
       (repeat' first|refine gA fun _=>?_|apply fkI<;>intro hb<;>try simp only[ew,hf,hg]at hb|simp only[go_sem,simprocAttr, *])
       refine lpN (k+1) (by dsimp only;omega) (by dsimp only;omega) ?_
       (repeat' first|refine gA fun _=>?_|apply fkI<;>intro hb<;>try simp only[ew,hf,hg,eA]at hb|simp only[go_sem,simprocAttr, *])
      ·rw[Bool.true_or]at eA
       (repeat' first|refine gA fun _=>?_|apply fkI<;>intro hb<;>try simp only[ew,hf,hg]at hb|simp only[go_sem,simprocAttr, *])
       refine lpN (k+1) (by dsimp only;omega) (by dsimp only;omega) ?_
       (repeat' first|refine gA fun _=>?_|apply fkI<;>intro hb<;>try simp only[ew,hf,hg,eA]at hb|simp only[go_sem,simprocAttr, *])
     ·have e6:k=C.length:=by omega
      subst e6;have eT:C.take C.length=C:=List.take_length
      cases hq:(C.any fun e=>e==r)
      ·rw[hq,if_neg (by decide)]at eS
       (repeat' first|refine gA fun _=>?_|apply fkI<;>intro hb<;>try simp only[ew,eT,hq,Qm]at hb|simp only[go_sem,simprocAttr, *,hq,Qm])
       refine lpN (i+1) (by dsimp only;omega) (by dsimp only;omega) ?_
       (repeat' first|refine gA fun _=>?_|apply fkI<;>intro hb<;>try simp only[ew,eT,eS,hq,Qm]at hb|simp only[go_sem,simprocAttr, *,hq,Qm])
      ·rw[hq,if_pos rfl]at eS
       (repeat' first|refine gA fun _=>?_|apply fkI<;>intro hb<;>try simp only[ew,eT,hq]at hb|simp only[go_sem,simprocAttr, *,hq])
       refine lpN (i+1) (by dsimp only;omega) (by dsimp only;omega) ?_
       (repeat' first|refine gA fun _=>?_|apply fkI<;>intro hb<;>try simp only[ew,eT,eS,hq]at hb|simp only[go_sem,simprocAttr, *,hq])
   ·have e5:i=ds.length:=by omega
    subst e5;have eP:ds.take ds.length=ds:=List.take_length
    rw[eP]at hl hl2;clear hC;generalize hK:Qi0 n ds ds=K at hl hl2 hst;(repeat' first|refine gA fun _=>?_|apply fkI<;>intro hb<;>try simp only[ew,eP,hK]at hb|simp only[go_sem,simprocAttr, *])
    refine lpI {ι:=Nat×List (Int×Int),rs:=[(11,12),(52,69)],mods:=[(10,fun i=> .one (.d (.v (.int .i64 i.1)))),(5,fun i=> .one (.own 2 (dL i.2) 1))],boxes:=[],arrs:=[],ok:=fun i=>QvY n R i.2 i.1,mu:=fun i=>i.2.length-i.1} rfl (0,K) hst ?_ ?_
    ·clear hst
     (repeat' first|refine gA fun _=>?_|apply fkI<;>intro hb<;>try simp only[ew,eP,hK]at hb|simp only[go_sem,simprocAttr, *])
    ·rintro⟨j,C⟩ hj
     dsimp only at hj;have hj1:=hj.1
     have hj2:=hj.2.1
     by_cases h6:j<C.length
     ·obtain⟨o1,o2⟩:=Qh8 ⟨n1,n5⟩ hj h6
      have hw:=Qej h6
      have hq1:=QsF hj h6
      have hq0:=Ql2 hj h6
      have eI:QjS n (wo C j) (C.getD j (0,0)).1 (C.getD j (0,0)).2=Qt (clo (wo C j) (C.getD j (0,0)).1) (C.getD j (0,0)).2:=by unfold QjS;rw[o1,o2];rfl
      clear hst hj o1 o2;cases hq:Qt (clo (wo C j) (C.getD j (0,0)).1) (C.getD j (0,0)).2
      ·rw[hq]at eI
       have hq0:=hq0 hq
       clear hq1 hq;(repeat' first|refine gA fun _=>?_|apply fkI<;>intro hb<;>try simp only[ew,eI]at hb|simp only[go_sem,simprocAttr, *])
       refine lpN (j+1,C) hq0 (by dsimp only;omega) ?_
       clear hq0;(repeat' first|refine gA fun _=>?_|apply fkI<;>intro hb<;>try simp only[ew,eI]at hb|simp only[go_sem,simprocAttr, *])
      ·rw[hq]at eI
       have hq1:=hq1 hq
       clear hq0 hq;(repeat' first|refine gA fun _=>?_|apply fkI<;>intro hb<;>try simp only[ew,eI]at hb|simp only[go_sem,simprocAttr, *])
       refine lpN (j,wo C j) hq1 (by dsimp only;omega) ?_
       clear hq1;(repeat' first|refine gA fun _=>?_|apply fkI<;>intro hb<;>try simp only[ew,eI]at hb|simp only[go_sem,simprocAttr, *])
     ·have e6:=QoQ hj h6
      subst e6;clear hst hj;exact gQ
end Go.Own
