/- Own contracts. Conditions: as each theorem states them. -/
import Derived.Test.YtnmkpepdacbfaaaGreatDoorRr34
set_option linter.unusedSimpArgs false
set_option linter.unusedVariables false
set_option maxRecDepth 20000
set_option maxHeartbeats 2000000
namespace Go.Own
open Go Go.Proofs
attribute [local go_sem] Qap QzL Qqi cWo QhS Tryz.results115 Qs3 Tryz.results86
attribute [local go_sem] Qm Qc QZ Q1 Q0 Q3 QaH Qdb Qr QaG
def Qzk(n:Int)(ds:List (Int×Int))(C:List (Int×Int))(d:Int×Int):List (Int×Int):=if(C.any fun e=>e==QpB n ds d)then C else C++[QpB n ds d]
def Qko(n:Int)(ds l:List (Int×Int)):List (Int×Int):=l.foldl (Qzk n ds) []
def Qt8:Nat→List (Int×Int)→Nat→List (Int×Int)
 | 0,C,_=>C
 | f+1,C,i=>if Qy (clo (wo C i) (C.getD i (0,0)).1) (C.getD i (0,0)).2 then Qt8 f (wo C i) i else Qt8 f C (i+1)
def QjZ(n:Int)(ds:List (Int×Int)):List (Int×Int):=if Q5 n ds then Qt8 (Qko n ds ds).length (Qko n ds ds) 0 else []
theorem Qyr{n:Int}{ds:List (Int×Int)}{d:Int×Int}(h:Q2 n d.1 d.2=true):Q2 n (QpB n ds d).1 (QpB n ds d).2=true:=by
 have hR:=QaL h
 obtain⟨h1,h2,_⟩:=QfJ (ds:=ds) (r:=d.2) hR.1 (k:=5) (by omega)
 unfold QpB;split
 ·simp only[Q2,Qj,Bool.and_eq_true,Qh]at h ⊢
  exact⟨⟨h.1.1,h.1.2.1,h1.1,Int.le_trans h2 h.1.2.2.2⟩,h.2⟩
 ·exact h
theorem QlJ{n:Int}{ds C:List (Int×Int)}{d:Int×Int}:(Qzk n ds C d).length≤C.length+1:=by
 unfold Qzk;split<;>simp
theorem Qg0{n:Int}{ds l:List (Int×Int)}{i:Nat}(h:i<l.length):Qko n ds (l.take (i+1))=Qzk n ds (Qko n ds (l.take i)) (l.getD i (0,0)):=by
 unfold Qko;rw[Qk h (0,0),List.foldl_append];rfl
theorem Qel{n:Int}{ds l:List (Int×Int)}:∀{i:Nat},i≤l.length→(Qko n ds (l.take i)).length≤i
 | 0,_=>by simp[Qko]
 | i+1,h=>by
  rw[Qg0 h];exact Nat.le_trans QlJ (Nat.succ_le_succ (Qel (by omega)))
theorem QqD{n:Int}{ds l:List (Int×Int)}(hl:∀d∈l,Q2 n d.1 d.2=true):∀{i:Nat},i≤l.length→∀d∈Qko n ds (l.take i),Q2 n d.1 d.2=true
 | 0,_=>by simp[Qko]
 | i+1,h=>by
  have ih:=QqD (ds:=ds) hl (i:=i) (by omega)
  have hm:=hl _ (QI (l:=l) (i:=i) h (0,0));rw[Qg0 h];unfold Qzk;split
  ·exact ih
  ·intro d hd
   rcases List.mem_append.1 hd with h1|h1
   ·exact ih d h1
   ·rw[List.mem_singleton]at h1
    rw[h1];exact Qyr hm
theorem Qe8{C:List (Int×Int)}{i:Nat}(h:i<C.length):(wo C i).length+1=C.length:=by
 simp[wo,List.length_take,List.length_drop];omega
theorem QsW{C:List (Int×Int)}{i:Nat}:∀d∈wo C i,d∈C:=by
 intro d hd;rcases List.mem_append.1 hd with h|h
 ·exact List.mem_of_mem_take h
 ·exact List.mem_of_mem_drop h
theorem Qfp:∀{f:Nat} {C:List (Int×Int)} {i:Nat},(∀d∈Qt8 f C i,d∈C)∧(i+f≤C.length→(Qt8 f C i).length≤C.length)
 | 0,C,i=>⟨fun _ h=>h,fun _=>Nat.le_refl _⟩
 | f+1,C,i=>by
  rw[Qt8];split
  ·obtain⟨h1,h2⟩:=@Qfp f (wo C i) i
   refine⟨fun d hd=>QsW d (h1 d hd),fun h=>?_⟩
   have hw:=Qe8 (C:=C) (i:=i) (by omega)
   have:=h2 (by omega)
   omega
  ·obtain⟨h1,h2⟩:=@Qfp f C (i+1)
   exact⟨h1,fun h=>h2 (by omega)⟩
def QvV(n:Int)(R:List (Int×Int))(C:List (Int×Int))(i:Nat):Prop:=i≤C.length∧C.length≤20∧(∀d∈C,Q2 n d.1 d.2=true)∧Qt8 (C.length-i) C i=R
theorem Qxk{n:Int}{R C:List (Int×Int)}{i:Nat}(h:QvV n R C i)(hi:i<C.length)(hq:Qy (clo (wo C i) (C.getD i (0,0)).1) (C.getD i (0,0)).2=true):QvV n R (wo C i) i:=by
 obtain⟨h1,h2,h3,h4⟩:=h;have hw:=Qe8 hi
 refine⟨by omega,by omega,fun d hd=>h3 d (QsW d hd),?_⟩
 obtain⟨f,hf⟩:∃f,C.length-i=f+1:=⟨C.length-i-1,by omega⟩
 rw[hf,Qt8,hq,if_pos rfl]at h4;rw[←h4];congr 1
 omega
theorem QqG{n:Int}{R C:List (Int×Int)}{i:Nat}(h:QvV n R C i)(hi:i<C.length)(hq:Qy (clo (wo C i) (C.getD i (0,0)).1) (C.getD i (0,0)).2=false):QvV n R C (i+1):=by
 obtain⟨h1,h2,h3,h4⟩:=h;refine⟨by omega,h2,h3,?_⟩
 obtain⟨f,hf⟩:∃f,C.length-i=f+1:=⟨C.length-i-1,by omega⟩
 rw[hf,Qt8,hq,if_neg (by decide)]at h4
 rw[←h4];congr 1
 omega
theorem Qt9{n:Int}{R C:List (Int×Int)}{i:Nat}(h:QvV n R C i)(hi:¬i<C.length):R=C:=by
 obtain⟨h1,h2,h3,h4⟩:=h;have:C.length-i=0:=by omega
 rw[this]at h4;exact h4.symm
theorem Qin{n:Int}{ds:List (Int×Int)}(hv:Q5 n ds=true):QvV n (QjZ n ds) (Qko n ds ds) 0:=by
 have h20:=(Qiq hv).2.2
 have hv2:=hv
 simp only[Q5,Bool.and_eq_true,List.all_eq_true]at hv2
 have hl:=@Qel n ds ds ds.length (Nat.le_refl _)
 have hk:=@QqD n ds ds hv2.1 ds.length (Nat.le_refl _)
 rw[List.take_length]at hl hk;refine⟨Nat.zero_le _,by omega,hk,?_⟩
 unfold QjZ;rw[hv,if_pos rfl];rfl
theorem QlI{n:Int}{R C:List (Int×Int)}{i:Nat}(hn:1≤n∧n≤5)(h:QvV n R C i)(hi:i<C.length):Q5 n (wo C i)=true∧Q2 n (C.getD i (0,0)).1 (C.getD i (0,0)).2=true:=by
 obtain⟨h1,h2,h3,h4⟩:=h;have hw:=Qe8 hi
 refine⟨?_,h3 _ (QI hi (0,0))⟩
 simp only[Q5,Bool.and_eq_true,List.all_eq_true,Qh,decide_eq_true_eq]
 exact⟨fun d hd=>h3 d (QsW d hd),hn,by omega⟩
theorem Qfo{n:Int}{ds:List (Int×Int)}:(∀d∈QjZ n ds,Q2 n d.1 d.2=true)∧(QjZ n ds).length≤20:=by
 cases hv:Q5 n ds
 ·unfold QjZ
  rw[hv];simp
 ·obtain⟨_,h2,h3,h4⟩:=Qin hv
  rw[←h4];obtain⟨f1,f2⟩:=@Qfp ((Qko n ds ds).length-0) (Qko n ds ds) 0;exact⟨fun d hd=>h3 d (f1 d hd),Nat.le_trans (f2 (by omega)) h2⟩
def Qw3:Qb:=⟨[],false,fun
 | [.one (.v (.int .i64 n)),.one (.sl 2 l)]=>some (WfD l∧ -9223372036854775808≤n∧n≤9223372036854775807,[⟨false,[.own 2 (dL (QjZ n (unD l))) 1]⟩],[])
 | _=>none⟩
attribute [local go_sem] Qw3
theorem Qtu{α:Type}{xs:List α}{i:Nat}(h:i<xs.length)(d:α)(f:α→Bool):(xs.take (i+1)).any f=((xs.take i).any f||f (xs.getD i d)):=by
 rw[Qk h d,List.any_append];simp
theorem QqF:Qa E0 115 Qw3:=by
 refine QV (E:=E0) (T:=mkT Tryz.prog [(163,Qap),(172,QzL),(173,Qqi),(174,cWo),(164,QhS)] false (fun _=>false) true (fun _=>false)) (Qf (E:=E0) (.cons Qa2 (.cons Qys (.cons QxE (.cons QA6 (.cons Qji .nil)))))) (fn:=Tryz.f115) Tryz.func115 (by kernel_rfl) rfl Qe (by kernel_rfl) rfl ?_
 intro args p rs ms hr;unfold Qw3 at hr;dsimp only at hr;split at hr;rotate_left
 ·cases hr
 rename_i n l;cases hr;refine⟨rfl,rfl,nLe rfl,?_⟩
 have hm:=mxE;rintro⟨h1,hn1,hn2⟩ bs;obtain⟨ds,rfl,hx⟩:=h1.ex;clear h1;rw[Qm];cases hv:Q5 n ds
 ·have e:QjZ n ds=[]:=by unfold QjZ;rw[hv];rfl
  rw[e];clear e;(repeat' first|refine gA fun _=>?_|apply fkI<;>intro hb<;>try simp only[ew,hv]at hb|simp only[go_sem,simprocAttr, *,hv])
  all_goals first|rfl|skip
 ·have hst:=Qin hv
  obtain⟨n1,n5,l20⟩:=Qiq hv;generalize QjZ n ds=R at hst ⊢;have hC:=fun i h=>@Qel n ds ds i h
  have l20':ds.length≤maxLen:=Nat.le_trans l20 (by decide)
  have e0:Qko n ds (ds.take 0)=[]:=rfl
  (repeat' first|refine gA fun _=>?_|apply fkI<;>intro hb<;>try simp only[ew,hv]at hb|simp only[go_sem,simprocAttr, *,hv])
  refine lpI {ι:=Nat,rs:=[(7,9),(20,36)],mods:=[(19,fun i=> .one (.d (.v (.int .i64 i)))),(5,fun i=> .one (.own 2 (dL (Qko n ds (ds.take i))) 1))],boxes:=[],arrs:=[],ok:=fun i=>i≤ds.length,mu:=fun i=>ds.length-i} rfl 0 (Nat.zero_le _) ?_ fun i hi=>?_
  ·clear hC hst
   (repeat' first|refine gA fun _=>?_|apply fkI<;>intro hb<;>try simp only[ew,e0]at hb|simp only[go_sem,simprocAttr, *])
   all_goals first|rfl|skip
  ·dsimp only at i hi
   have hl:=hC i hi
   have hl2:(Qko n ds (ds.take i)).length≤maxLen:=Nat.le_trans hl (Nat.le_trans hi l20')
   by_cases h5:i<ds.length
   ·have eS:=Qg0 (n:=n) (ds:=ds) h5
    generalize hK:Qko n ds (ds.take i)=C at hl hl2 eS;generalize hr:QpB n ds (ds.getD i (0,0))=r;unfold Qzk at eS;rw[hr]at eS;cases hq:(C.any fun e=>e==r)
    ·rw[hq,if_neg (by decide)]at eS
     clear hC hst;(repeat' first|refine gA fun _=>?_|apply fkI<;>intro hb<;>try simp only[ew,hK,hr,hq,QW]at hb|simp only[go_sem,simprocAttr, *,hq,QW])
     refine lpN (i+1) (by dsimp only;omega) (by dsimp only;omega) ?_
     (repeat' first|refine gA fun _=>?_|apply fkI<;>intro hb<;>try simp only[ew,hK,eS,hr,hq,QW]at hb|simp only[go_sem,simprocAttr, *,hq,QW])
    ·rw[hq,if_pos rfl]at eS
     clear hC hst;(repeat' first|refine gA fun _=>?_|apply fkI<;>intro hb<;>try simp only[ew,hK,hr,hq]at hb|simp only[go_sem,simprocAttr, *,hq])
     refine lpN (i+1) (by dsimp only;omega) (by dsimp only;omega) ?_
     (repeat' first|refine gA fun _=>?_|apply fkI<;>intro hb<;>try simp only[ew,hK,eS,hr,hq]at hb|simp only[go_sem,simprocAttr, *,hq])
   ·have e5:i=ds.length:=by omega
    subst e5;have eP:ds.take ds.length=ds:=List.take_length
    rw[eP]at hl hl2;clear hC;generalize hK:Qko n ds ds=K at hl hl2 hst;(repeat' first|refine gA fun _=>?_|apply fkI<;>intro hb<;>try simp only[ew,eP,hK]at hb|simp only[go_sem,simprocAttr, *])
    refine lpI {ι:=Nat×List (Int×Int),rs:=[(10,11),(36,54)],mods:=[(9,fun i=> .one (.d (.v (.int .i64 i.1)))),(5,fun i=> .one (.own 2 (dL i.2) 1))],boxes:=[],arrs:=[],ok:=fun i=>QvV n R i.2 i.1,mu:=fun i=>i.2.length-i.1} rfl (0,K) hst ?_ ?_
    ·clear hst
     (repeat' first|refine gA fun _=>?_|apply fkI<;>intro hb<;>try simp only[ew,eP,hK]at hb|simp only[go_sem,simprocAttr, *])
    ·rintro⟨j,C⟩ hj
     dsimp only at hj;have hj1:=hj.1
     have hj2:=hj.2.1
     by_cases h6:j<C.length
     ·obtain⟨o1,o2⟩:=QlI ⟨n1,n5⟩ hj h6
      have hd:=Qbg o1
      obtain⟨⟨a1,a2⟩,b1,b2⟩:=QaL o2;have hw:=Qe8 h6
      have hq1:=Qxk hj h6
      have hq0:=QqG hj h6
      have ej:(j:Int)-1+1=j:=by omega
      clear hst hj o1 o2;cases hq:Qy (clo (wo C j) (C.getD j (0,0)).1) (C.getD j (0,0)).2
      ·have hq0:=hq0 hq
       clear hq1;(repeat' first|refine gA fun _=>?_|apply fkI<;>intro hb<;>try simp only[ew,hq]at hb|simp only[go_sem,simprocAttr, *,hq])
       refine lpN (j+1,C) hq0 (by dsimp only;omega) ?_
       clear hq0 hd;(repeat' first|refine gA fun _=>?_|apply fkI<;>intro hb<;>try simp only[ew,hq]at hb|simp only[go_sem,simprocAttr, *,hq])
      ·have hq1:=hq1 hq
       clear hq0;(repeat' first|refine gA fun _=>?_|apply fkI<;>intro hb<;>try simp only[ew,hq,ej]at hb|simp only[go_sem,simprocAttr, *,hq])
       refine lpN (j,wo C j) hq1 (by dsimp only;omega) ?_
       clear hq1 hd;(repeat' first|refine gA fun _=>?_|apply fkI<;>intro hb<;>try simp only[ew,hq,ej]at hb|simp only[go_sem,simprocAttr, *,hq])
     ·have e6:=Qt9 hj h6
      subst e6;clear hst hj;exact gQ
end Go.Own
