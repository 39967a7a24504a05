/- Contracts. Conditions: as stated. -/
import Derived.Test.YtnmkpepdacbfaaaGreatDoorRp34
set_option linter.all false
set_option maxRecDepth 20000
set_option maxHeartbeats 2000000
namespace Go.Own
open Go Go.Proofs
attribute [local go_sem] QT Qy8 QtA cWo QjJ Tryz.results115 QmD Tryz.results86 Qh Qg Qae Qag Qaf Qaj Qa7 Qd1 Qv Qa6
def QAH(n:Int)(ds:List (Int×Int))(C:List (Int×Int))(d:Int×Int):List (Int×Int):=if(C.any fun e=>e==QnA n ds d)then C else C++[QnA n ds d]
def QjE(n:Int)(ds l:List (Int×Int)):List (Int×Int):=l.foldl (QAH n ds) []
def Qxw:Nat→List (Int×Int)→Nat→List (Int×Int)
 | 0,C,_=>C
 | f+1,C,i=>if Qu (clo (wo C i) (C.getD i (0,0)).1) (C.getD i (0,0)).2 then Qxw f (wo C i) i else Qxw f C (i+1)
def QgG(n:Int)(ds:List (Int×Int)):List (Int×Int):=if QJ n ds then Qxw (QjE n ds ds).length (QjE n ds ds) 0 else []
theorem QBX{n:Int}{ds:List (Int×Int)}{d:Int×Int}(h:QO n d.1 d.2=true):QO n (QnA n ds d).1 (QnA n ds d).2=true:=by
 have hR:=Qaz h
 obtain⟨h1,h2,_⟩:=QeY (ds:=ds) (r:=d.2) hR.1 (k:=5) (by omega)
 unfold QnA;split
 ·simp only[QO,Ql,KB,Qj]at h ⊢
  exact⟨⟨h.1.1,h.1.2.1,h1.1,Int.le_trans h2 h.1.2.2.2⟩,h.2⟩
 ·exact h
theorem Qox{n:Int}{ds C:List (Int×Int)}{d:Int×Int}:(QAH n ds C d).length≤C.length+1:=by
 unfold QAH;split<;>simp
theorem QfV{n:Int}{ds l:List (Int×Int)}{i:Nat}(h:i<l.length):QjE n ds (l.take (i+1))=QAH n ds (QjE n ds (l.take i)) (l.getD i (0,0)):=by
 unfold QjE;rw[Qf h (0,0),YW];rfl
theorem QdF{n:Int}{ds l:List (Int×Int)}:∀{i:Nat},i≤l.length→(QjE n ds (l.take i)).length≤i
 | 0,_=>by simp[QjE]
 | i+1,h=>by
  rw[QfV h];exact KF Qox (Nat.succ_le_succ (QdF (by omega)))
theorem QtZ{n:Int}{ds l:List (Int×Int)}(hl:∀d∈l,QO n d.1 d.2=true):∀{i:Nat},i≤l.length→∀d∈QjE n ds (l.take i),QO n d.1 d.2=true
 | 0,_=>by simp[QjE]
 | i+1,h=>by
  have ih:=QtZ (ds:=ds) hl (i:=i) (by omega)
  have hm:=hl _ (QE (l:=l) (i:=i) h (0,0));rw[QfV h];unfold QAH;split
  ·exact ih
  ·intro d hd
   rcases KG.1 hd with h1|h1
   ·exact ih d h1
   ·rw[KH]at h1
    rw[h1];exact QBX hm
theorem QeE{C:List (Int×Int)}{i:Nat}(h:i<C.length):(wo C i).length+1=C.length:=by
 simp[wo,KO,Kk];omega
theorem Qwg{C:List (Int×Int)}{i:Nat}:∀d∈wo C i,d∈C:=by
 intro d hd;rcases KG.1 hd with h|h
 ·exact Ks h
 ·exact YI h
theorem QgH:∀{f:Nat} {C:List (Int×Int)} {i:Nat},(∀d∈Qxw f C i,d∈C)∧(i+f≤C.length→(Qxw f C i).length≤C.length)
 | 0,C,i=>⟨fun _ h=>h,fun _=>KP _⟩
 | f+1,C,i=>by
  rw[Qxw];split
  ·obtain⟨h1,h2⟩:=@QgH f (wo C i) i
   refine⟨fun d hd=>Qwg d (h1 d hd),fun h=>?_⟩
   have hw:=QeE (C:=C) (i:=i) (by omega)
   have:=h2 (by omega)
   omega
  ·obtain⟨h1,h2⟩:=@QgH f C (i+1)
   exact⟨h1,fun h=>h2 (by omega)⟩
def Qxx(n:Int)(R:List (Int×Int))(C:List (Int×Int))(i:Nat):Prop:=i≤C.length∧C.length≤20∧(∀d∈C,QO n d.1 d.2=true)∧Qxw (C.length-i) C i=R
theorem Qt2{n:Int}{R C:List (Int×Int)}{i:Nat}(h:Qxx n R C i)(hi:i<C.length)(hq:Qu (clo (wo C i) (C.getD i (0,0)).1) (C.getD i (0,0)).2=true):Qxx n R (wo C i) i:=by
 obtain⟨h1,h2,h3,h4⟩:=h;have hw:=QeE hi
 refine⟨by omega,by omega,fun d hd=>h3 d (Qwg d hd),?_⟩
 obtain⟨f,hf⟩:∃f,C.length-i=f+1:=⟨C.length-i-1,by omega⟩
 rw[hf,Qxw,hq,if_pos rfl]at h4;rw[←h4];congr 1
 omega
theorem QmS{n:Int}{R C:List (Int×Int)}{i:Nat}(h:Qxx n R C i)(hi:i<C.length)(hq:Qu (clo (wo C i) (C.getD i (0,0)).1) (C.getD i (0,0)).2=false):Qxx n R C (i+1):=by
 obtain⟨h1,h2,h3,h4⟩:=h;refine⟨by omega,h2,h3,?_⟩
 obtain⟨f,hf⟩:∃f,C.length-i=f+1:=⟨C.length-i-1,by omega⟩
 rw[hf,Qxw,hq,if_neg (by decide)]at h4
 rw[←h4];congr 1
 omega
theorem QpT{n:Int}{R C:List (Int×Int)}{i:Nat}(h:Qxx n R C i)(hi:¬i<C.length):R=C:=by
 obtain⟨h1,h2,h3,h4⟩:=h;have:C.length-i=0:=by omega
 rw[this]at h4;exact h4.symm
theorem QgI{n:Int}{ds:List (Int×Int)}(hv:QJ n ds=true):Qxx n (QgG n ds) (QjE n ds ds) 0:=by
 have h20:=(QfY hv).2.2
 have hv2:=hv
 simp only[QJ,KB,Kg]at hv2
 have hl:=@QdF n ds ds ds.length (KP _)
 have hk:=@QtZ n ds ds hv2.1 ds.length (KP _)
 rw[KR]at hl hk;refine⟨KJ _,by omega,hk,?_⟩
 unfold QgG;rw[hv,if_pos rfl];rfl
theorem QiJ{n:Int}{R C:List (Int×Int)}{i:Nat}(hn:1≤n∧n≤5)(h:Qxx n R C i)(hi:i<C.length):QJ n (wo C i)=true∧QO n (C.getD i (0,0)).1 (C.getD i (0,0)).2=true:=by
 obtain⟨h1,h2,h3,h4⟩:=h;have hw:=QeE hi
 refine⟨?_,h3 _ (QE hi (0,0))⟩
 simp only[QJ,KB,Kg,Qj,KK]
 exact⟨fun d hd=>h3 d (Qwg d hd),hn,by omega⟩
theorem Qdg{n:Int}{ds:List (Int×Int)}:(∀d∈QgG n ds,QO n d.1 d.2=true)∧(QgG n ds).length≤20:=by
 cases hv:QJ n ds
 ·unfold QgG
  rw[hv];simp
 ·obtain⟨_,h2,h3,h4⟩:=QgI hv
  rw[←h4];obtain⟨f1,f2⟩:=@QgH ((QjE n ds ds).length-0) (QjE n ds ds) 0;exact⟨fun d hd=>h3 d (f1 d hd),KF (f2 (by omega)) h2⟩
def QsP:Qb:=⟨[],false,fun
 | [.one (.v (.int .i64 n)),.one (.sl 2 l)]=>some (WfD l∧ -9223372036854775808≤n∧n≤9223372036854775807,[⟨false,[.own 2 (dL (QgG n (unD l))) 1]⟩],[])
 | _=>none⟩
attribute [local go_sem] QsP
theorem QhN{α:Type}{xs:List α}{i:Nat}(h:i<xs.length)(d:α)(f:α→Bool):(xs.take (i+1)).any f=((xs.take i).any f||f (xs.getD i d)):=by
 rw[Qf h d,List.any_append];simp
theorem Qt1:Qa E0 115 QsP:=by
 refine QG (E:=E0) (T:=mkT Tryz.prog [(163,QT),(172,Qy8),(173,QtA),(174,cWo),(164,QjJ)] false (fun _=>false) true (fun _=>false)) (Qd (E:=E0) (.cons Qby (.cons QBY (.cons QA8 (.cons QEw (.cons Qlw .nil)))))) (fn:=Tryz.f115) Tryz.func115 kR rfl Qc kR rfl ?_
 intro args p rs ms hr;unfold QsP at hr;dsimp only at hr;split at hr;rotate_left
 ·cases hr
 rename_i n l;cases hr;refine⟨rfl,rfl,nLe rfl,?_⟩
 have hm:=mxE;rintro⟨h1,hn1,hn2⟩ bs;obtain⟨ds,rfl,hx⟩:=h1.ex;clear h1;rw[Qh];cases hv:QJ n ds
 ·have e:QgG n ds=[]:=by unfold QgG;rw[hv];rfl
  rw[e];clear e;(repeat' first|refine gA fun _=>?_|apply fkI<;>intro hb<;>try simp only[ew,hv]at hb|simp only[go_sem,simprocAttr, *,hv])
  all_goals first|rfl|skip
 ·have hst:=QgI hv
  obtain⟨n1,n5,l20⟩:=QfY hv;generalize QgG n ds=R at hst ⊢;have hC:=fun i h=>@QdF n ds ds i h
  have l20':ds.length≤maxLen:=KF l20 (by decide)
  have e0:QjE n ds (ds.take 0)=[]:=rfl
  (repeat' first|refine gA fun _=>?_|apply fkI<;>intro hb<;>try simp only[ew,hv]at hb|simp only[go_sem,simprocAttr, *,hv])
  refine lpI {ι:=Nat,rs:=[(7,9),(20,36)],mods:=[(19,fun i=> .one (.d (.v (.int .i64 i)))),(5,fun i=> .one (.own 2 (dL (QjE n ds (ds.take i))) 1))],boxes:=[],arrs:=[],ok:=fun i=>i≤ds.length,mu:=fun i=>ds.length-i} rfl 0 (KJ _) ?_ fun i hi=>?_
  ·clear hC hst
   (repeat' first|refine gA fun _=>?_|apply fkI<;>intro hb<;>try simp only[ew,e0]at hb|simp only[go_sem,simprocAttr, *])
   all_goals first|rfl|skip
  ·dsimp only at i hi
   have hl:=hC i hi
   have hl2:(QjE n ds (ds.take i)).length≤maxLen:=KF hl (KF hi l20')
   by_cases h5:i<ds.length
   ·have eS:=QfV (n:=n) (ds:=ds) h5
    generalize hK:QjE n ds (ds.take i)=C at hl hl2 eS;generalize hr:QnA n ds (ds.getD i (0,0))=r;unfold QAH at eS;rw[hr]at eS;cases hq:(C.any fun e=>e==r)
    ·rw[hq,if_neg (by decide)]at eS
     clear hC hst;(repeat' first|refine gA fun _=>?_|apply fkI<;>intro hb<;>try simp only[ew,hK,hr,hq,Qm]at hb|simp only[go_sem,simprocAttr, *,hq,Qm])
     refine lpQ (i+1) ?_
     (repeat' first|refine gA fun _=>?_|apply fkI<;>intro hb<;>try simp only[ew,hK,eS,hr,hq,Qm]at hb|simp only[go_sem,simprocAttr, *,hq,Qm])
    ·rw[hq,if_pos rfl]at eS
     clear hC hst;(repeat' first|refine gA fun _=>?_|apply fkI<;>intro hb<;>try simp only[ew,hK,hr,hq]at hb|simp only[go_sem,simprocAttr, *,hq])
     refine lpQ (i+1) ?_
     (repeat' first|refine gA fun _=>?_|apply fkI<;>intro hb<;>try simp only[ew,hK,eS,hr,hq]at hb|simp only[go_sem,simprocAttr, *,hq])
   ·have e5:i=ds.length:=by omega
    subst e5;have eP:ds.take ds.length=ds:=KR
    rw[eP]at hl hl2;clear hC;generalize hK:QjE n ds ds=K at hl hl2 hst;(repeat' first|refine gA fun _=>?_|apply fkI<;>intro hb<;>try simp only[ew,eP,hK]at hb|simp only[go_sem,simprocAttr, *])
    refine lpI {ι:=Nat×List (Int×Int),rs:=[(10,11),(36,54)],mods:=[(9,fun i=> .one (.d (.v (.int .i64 i.1)))),(5,fun i=> .one (.own 2 (dL i.2) 1))],boxes:=[],arrs:=[],ok:=fun i=>Qxx n R i.2 i.1,mu:=fun i=>i.2.length-i.1} rfl (0,K) hst ?_ ?_
    ·clear hst
     (repeat' first|refine gA fun _=>?_|apply fkI<;>intro hb<;>try simp only[ew,eP,hK]at hb|simp only[go_sem,simprocAttr, *])
    ·rintro⟨j,C⟩ hj
     dsimp only at hj;have hj1:=hj.1
     have hj2:=hj.2.1
     by_cases h6:j<C.length
     ·obtain⟨o1,o2⟩:=QiJ ⟨n1,n5⟩ hj h6
      have hd:=QaE o1
      obtain⟨⟨a1,a2⟩,b1,b2⟩:=Qaz o2;have hw:=QeE h6
      have hq1:=Qt2 hj h6
      have hq0:=QmS hj h6
      have ej:(j:Int)-1+1=j:=by omega
      clear hst hj o1 o2;cases hq:Qu (clo (wo C j) (C.getD j (0,0)).1) (C.getD j (0,0)).2
      ·have hq0:=hq0 hq
       clear hq1;(repeat' first|refine gA fun _=>?_|apply fkI<;>intro hb<;>try simp only[ew,hq]at hb|simp only[go_sem,simprocAttr, *,hq])
       refine lpN (j+1,C) hq0 (by dsimp only;omega) ?_
       clear hq0 hd;(repeat' first|refine gA fun _=>?_|apply fkI<;>intro hb<;>try simp only[ew,hq]at hb|simp only[go_sem,simprocAttr, *,hq])
      ·have hq1:=hq1 hq
       clear hq0;(repeat' first|refine gA fun _=>?_|apply fkI<;>intro hb<;>try simp only[ew,hq,ej]at hb|simp only[go_sem,simprocAttr, *,hq])
       refine lpN (j,wo C j) hq1 (by dsimp only;omega) ?_
       clear hq1 hd;(repeat' first|refine gA fun _=>?_|apply fkI<;>intro hb<;>try simp only[ew,hq,ej]at hb|simp only[go_sem,simprocAttr, *,hq])
     ·have e6:=QpT hj h6
      subst e6;clear hst hj;exact gQ
theorem Qt3:Qa E0 86 QsP:=by
 refine QG (E:=E0) (T:=mkT Tryz.prog [(126,QT),(129,Qy8),(130,cWo),(84,QmD)] false (fun _=>false) true (fun _=>false)) (Qd (E:=E0) (.cons Qbz (.cons QBZ (.cons QEx (.cons Qlx .nil))))) (fn:=Tryz.f86) Tryz.func86 kR rfl Qc kR rfl ?_
 intro args p rs ms hr;unfold QsP at hr;dsimp only at hr;split at hr;rotate_left
 ·cases hr
 rename_i n l;cases hr;refine⟨rfl,rfl,nLe rfl,?_⟩
 have hm:=mxE;rintro⟨h1,hn1,hn2⟩ bs;obtain⟨ds,rfl,hx⟩:=h1.ex;clear h1;rw[Qh];cases hv:QJ n ds
 ·have e:QgG n ds=[]:=by unfold QgG;rw[hv];rfl
  rw[e];clear e;(repeat' first|refine gA fun _=>?_|apply fkI<;>intro hb<;>try simp only[ew,hv]at hb|simp only[go_sem,simprocAttr, *,hv])
  all_goals first|rfl|skip
 ·have hst:=QgI hv
  obtain⟨n1,n5,l20⟩:=QfY hv;generalize QgG n ds=R at hst ⊢;have hC:=fun i h=>@QdF n ds ds i h
  have l20':ds.length≤maxLen:=KF l20 (by decide)
  have e0:QjE n ds (ds.take 0)=[]:=rfl
  (repeat' first|refine gA fun _=>?_|apply fkI<;>intro hb<;>try simp only[ew,hv]at hb|simp only[go_sem,simprocAttr, *,hv])
  refine lpI {ι:=Nat,rs:=[(7,10),(18,52)],mods:=[(6,fun i=> .one (.d (.v (.int .i64 i)))),(5,fun i=> .one (.own 2 (dL (QjE n ds (ds.take i))) 1))],boxes:=[],arrs:=[],ok:=fun i=>i≤ds.length,mu:=fun i=>ds.length-i} rfl 0 (KJ _) ?_ fun i hi=>?_
  ·clear hC hst
   (repeat' first|refine gA fun _=>?_|apply fkI<;>intro hb<;>try simp only[ew,e0]at hb|simp only[go_sem,simprocAttr, *])
   all_goals first|rfl|skip
  ·dsimp only at i hi
   have hl:=hC i hi
   have hl2:(QjE n ds (ds.take i)).length≤maxLen:=KF hl (KF hi l20')
   by_cases h5:i<ds.length
   ·have eS:=QfV (n:=n) (ds:=ds) h5
    generalize hK:QjE n ds (ds.take i)=C at hl hl2 eS;generalize hr:QnA n ds (ds.getD i (0,0))=r;unfold QAH at eS;rw[hr]at eS;clear hC hst;(repeat' first|refine gA fun _=>?_|apply fkI<;>intro hb<;>try simp only[ew,hK,hr]at hb|simp only[go_sem,simprocAttr, *])
    refine lpI {ι:=Nat,rs:=[(31,46)],mods:=[(9,fun k=> .one (.d (.v (.int .i64 k)))),(8,fun k=> .one (.d (.v (.bool ((C.take k).any fun e=>e==r)))))],boxes:=[(7,fun _=>[.d (.v (.int .i64 r.1)),.d (.v (.int .i64 r.2))])],arrs:=[(5,fun _=>(2,dL C,1))],ok:=fun k=>k≤C.length,mu:=fun k=>C.length-k} rfl 0 (KJ _) ?_ fun k hk=>?_
    ·(repeat' first|refine gA fun _=>?_|apply fkI<;>intro hb<;>try simp only[ew,hK,hr]at hb|simp only[go_sem,simprocAttr, *])
     all_goals first|rfl|skip
    ·dsimp only at k hk
     by_cases h6:k<C.length
     ·have eA:=QhN h6 (0,0) fun e=>e==r
      generalize hf:((C.take k).any fun e=>e==r)=b0 at eA
      generalize hg:(C.getD k (0,0)==r)=b1 at eA;cases b0
      ·rw[K8]at eA
       (repeat' first|refine gA fun _=>?_|apply fkI<;>intro hb<;>try simp only[ew,hf,hg]at hb|simp only[go_sem,simprocAttr, *])
       refine lpQ (k+1) ?_
       (repeat' first|refine gA fun _=>?_|apply fkI<;>intro hb<;>try simp only[ew,hf,hg,eA]at hb|simp only[go_sem,simprocAttr, *])
      ·rw[YC]at eA
       (repeat' first|refine gA fun _=>?_|apply fkI<;>intro hb<;>try simp only[ew,hf,hg]at hb|simp only[go_sem,simprocAttr, *])
       refine lpQ (k+1) ?_
       (repeat' first|refine gA fun _=>?_|apply fkI<;>intro hb<;>try simp only[ew,hf,hg,eA]at hb|simp only[go_sem,simprocAttr, *])
     ·have e6:k=C.length:=by omega
      subst e6;have eT:C.take C.length=C:=KR
      cases hq:(C.any fun e=>e==r)
      ·rw[hq,if_neg (by decide)]at eS
       (repeat' first|refine gA fun _=>?_|apply fkI<;>intro hb<;>try simp only[ew,eT,hq,Qm]at hb|simp only[go_sem,simprocAttr, *,hq,Qm])
       refine lpQ (i+1) ?_
       (repeat' first|refine gA fun _=>?_|apply fkI<;>intro hb<;>try simp only[ew,eT,eS,hq,Qm]at hb|simp only[go_sem,simprocAttr, *,hq,Qm])
      ·rw[hq,if_pos rfl]at eS
       (repeat' first|refine gA fun _=>?_|apply fkI<;>intro hb<;>try simp only[ew,eT,hq]at hb|simp only[go_sem,simprocAttr, *,hq])
       refine lpQ (i+1) ?_
       (repeat' first|refine gA fun _=>?_|apply fkI<;>intro hb<;>try simp only[ew,eT,eS,hq]at hb|simp only[go_sem,simprocAttr, *,hq])
   ·have e5:i=ds.length:=by omega
    subst e5;have eP:ds.take ds.length=ds:=KR
    rw[eP]at hl hl2;clear hC;generalize hK:QjE n ds ds=K at hl hl2 hst;(repeat' first|refine gA fun _=>?_|apply fkI<;>intro hb<;>try simp only[ew,eP,hK]at hb|simp only[go_sem,simprocAttr, *])
    refine lpI {ι:=Nat×List (Int×Int),rs:=[(11,12),(52,69)],mods:=[(10,fun i=> .one (.d (.v (.int .i64 i.1)))),(5,fun i=> .one (.own 2 (dL i.2) 1))],boxes:=[],arrs:=[],ok:=fun i=>Qxx n R i.2 i.1,mu:=fun i=>i.2.length-i.1} rfl (0,K) hst ?_ ?_
    ·clear hst
     (repeat' first|refine gA fun _=>?_|apply fkI<;>intro hb<;>try simp only[ew,eP,hK]at hb|simp only[go_sem,simprocAttr, *])
    ·rintro⟨j,C⟩ hj
     dsimp only at hj;have hj1:=hj.1
     have hj2:=hj.2.1
     by_cases h6:j<C.length
     ·obtain⟨o1,o2⟩:=QiJ ⟨n1,n5⟩ hj h6
      have hw:=QeE h6
      have hq1:=Qt2 hj h6
      have hq0:=QmS hj h6
      have eI:Qkz n (wo C j) (C.getD j (0,0)).1 (C.getD j (0,0)).2=Qu (clo (wo C j) (C.getD j (0,0)).1) (C.getD j (0,0)).2:=by unfold Qkz;rw[o1,o2];rfl
      clear hst hj o1 o2;cases hq:Qu (clo (wo C j) (C.getD j (0,0)).1) (C.getD j (0,0)).2
      ·rw[hq]at eI
       have hq0:=hq0 hq
       clear hq1 hq;(repeat' first|refine gA fun _=>?_|apply fkI<;>intro hb<;>try simp only[ew,eI]at hb|simp only[go_sem,simprocAttr, *])
       refine lpN (j+1,C) hq0 (by dsimp only;omega) ?_
       clear hq0;(repeat' first|refine gA fun _=>?_|apply fkI<;>intro hb<;>try simp only[ew,eI]at hb|simp only[go_sem,simprocAttr, *])
      ·rw[hq]at eI
       have hq1:=hq1 hq
       clear hq0 hq;(repeat' first|refine gA fun _=>?_|apply fkI<;>intro hb<;>try simp only[ew,eI]at hb|simp only[go_sem,simprocAttr, *])
       refine lpN (j,wo C j) hq1 (by dsimp only;omega) ?_
       clear hq1;(repeat' first|refine gA fun _=>?_|apply fkI<;>intro hb<;>try simp only[ew,eI]at hb|simp only[go_sem,simprocAttr, *])
     ·have e6:=QpT hj h6
      subst e6;clear hst hj;exact gQ
end Go.Own
