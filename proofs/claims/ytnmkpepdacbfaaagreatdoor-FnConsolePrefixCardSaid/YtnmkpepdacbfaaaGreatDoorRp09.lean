/- Contracts. Conditions: as stated. -/
import Derived.Test.YtnmkpepdacbfaaaGreatDoorRp08
set_option linter.all false
set_option maxRecDepth 20000
set_option maxHeartbeats 2000000
namespace Go.Own
open Go Go.Proofs
section
attribute [local go_sem] Tryz.results157 QrO Tryz.results117 Qwm Qd7 QcL Tryz.results161 Tryz.results187
def Qax:Qb:=⟨[],false,fun
 | [.one (.v (.int .i64 x)),.one (.v (.int .i64 y))]=>some (True,[⟨false,[.d (.v (.bool (QV .andNot .i64 x y==0)))]⟩],[])
 | _=>none⟩
attribute [local go_sem] Qax
theorem Qbe:Qa E0 157 Qax:=by
 refine QG (E:=E0) (T:=mkT Tryz.prog [] false (fun _=>false) true (fun _=>false)) (Qd (E:=E0) .nil) (fn:=Tryz.f157) Tryz.func157 kR rfl Qc kR rfl ?_
 intro args p rs ms hr;unfold Qax at hr;dsimp only at hr;split at hr;rotate_left
 ·cases hr
 rename_i x y;cases hr;refine⟨rfl,rfl,nLe rfl,?_⟩
 have hm:=mxE;intro _ bs;exact gQ
theorem Qdc{c:Int}{rs:List (List Int)}{m l r:Int}(h:QaY c rs m l r=true):QP c rs=true∧(0≤l∧l≤31)∧0≤r∧r≤4:=by
 simp only[QaY,QO,KB,Qj]at h
 have:=Qq h.2.1.2
 have h2:=QCp h.1.1
 exact⟨h.1.1,⟨this.2.2.1,this.2.2.2⟩,h.2.2.1,by omega⟩
def Qom:Qb:=⟨[],false,fun
 | [.agg [.v (.int .i64 c),.sl 1 t],.one (.v (.int .i64 m)),.agg [.v (.int .i64 l),.v (.int .i64 r)]]=>some (WfS t∧QaY c (unS t) m l r=true,
   [⟨false,[.d (.v (.int .i64 (prI (wtO c (unS t) m l r)).1))]⟩,⟨false,[.d (.v (.int .i64 (prI (wtO c (unS t) m l r)).2))]⟩],[])
 | _=>none⟩
attribute [local go_sem] Qom
theorem Qvs:Qa E0 117 Qom:=by
 refine QG (E:=E0) (T:=mkT Tryz.prog [(79,QrO)] false (fun _=>false) true (fun _=>false)) (Qd (E:=E0) (.cons Qnh .nil)) (fn:=Tryz.f117) Tryz.func117 kR rfl Qc kR rfl ?_
 intro args p rs ms hr;unfold Qom at hr;dsimp only at hr;split at hr;rotate_left
 ·cases hr
 rename_i c t m l r;cases hr;refine⟨rfl,rfl,nLe rfl,?_⟩
 have hm:=mxE;rintro⟨h1,hask⟩ bs;obtain⟨rs,rfl,hx,hy⟩:=h1.ex;clear h1;rw[QB]at hask ⊢;obtain⟨ht,⟨l0,l1⟩,r0,r1⟩:=Qdc hask;obtain⟨c,rfl,c1,c5,h40,hlen⟩:=QQ ht;clear hask;unfold wtO;rw[KE];generalize hR:dpI rs c m l r 0 rs.length=R;refine gR ?_
 refine lpI {ι:=Nat,rs:=[(6,8),(9,49)],mods:=[(8,fun i=> .one (.d (.v (.int .i64 i))))],boxes:=[(3,fun _=>[.d (.v (.int .i64 c)),.d (.sl 1 (sL rs))]),(5,fun _=>[.d (.v (.int .i64 l)),.d (.v (.int .i64 r))])],arrs:=[],ok:=fun i=>i≤rs.length∧dpI rs c m l r i (rs.length-i)=R,mu:=fun i=>rs.length-i} rfl 0 ⟨KJ _,hR⟩ ?_ fun i hi=>?_
 ·exact gQ
 ·dsimp only at i hi
  obtain⟨hi,hd⟩:=hi
  by_cases h5:i<rs.length
  ·rw[show rs.length-i=(rs.length-(i+1))+1 by omega,dpI]at hd
   generalize hK:dpK rs c m l r i (i+1) (rs.length-(i+1))=K at hd;refine gR ?_;intros
   refine lpI {ι:=Nat,rs:=[(6,8),(10,11),(20,49)],mods:=[(9,fun k=> .one (.d (.v (.int .i64 k))))],boxes:=[(3,fun _=>[.d (.v (.int .i64 c)),.d (.sl 1 (sL rs))]),(5,fun _=>[.d (.v (.int .i64 l)),.d (.v (.int .i64 r))])],arrs:=[],ok:=fun k=>i+1≤k∧k≤rs.length∧dpK rs c m l r i k (rs.length-k)=K,mu:=fun k=>rs.length-k} rfl (i+1) ⟨KP _,h5,hK⟩ ?_ fun k hk=>?_
   ·exact gQ
   ·dsimp only at k hk
    obtain⟨hk0,hk,hdk⟩:=hk
    by_cases h6:k<rs.length
    ·rw[show rs.length-k=(rs.length-(k+1))+1 by omega,dpK]at hdk
     cases hb:dpC rs c m l r i k
     ·rw[hb,if_neg (by decide)]at hdk
      simp only[dpC,Qtm]at hb
      have q0:=@Qi;refine gR ?_;clear q0;intros
      refine lpN (k+1) ⟨by omega,by omega,hdk⟩ (by dsimp only;omega) ?_
      clear hdk hd;exact gQ
     ·rw[hb,if_pos rfl]at hdk
      simp only[dpC,Qtm]at hb
      subst hdk;subst hd;have q0:=@Qi;refine gR ?_;clear q0;intros
      all_goals first|exact⟨rfl,rfl⟩|skip
    ·rw[show rs.length-k=0 by omega,dpK]at hdk
     subst hdk;refine gR ?_
     refine lpN (i+1) ⟨by omega,hd⟩ (by dsimp only;omega) ?_
     clear hd;exact gQ
  ·rw[show rs.length-i=0 by omega,dpI]at hd
   subst hd;refine gR ?_
   all_goals first|exact⟨rfl,rfl⟩|skip
def QtB:Qb:=⟨[],false,fun
 | [.agg [.v (.int .i64 c),.sl 1 t],.one (.v (.int .i64 m)),.agg [.v (.int .i64 l),.v (.int .i64 r)]]=>some (WfS t∧ -9223372036854775808≤c∧c≤9223372036854775807,[⟨false,[.d (.v (.bool (hdB c (unS t) m l r)))]⟩],[])
 | _=>none⟩
attribute [local go_sem] QtB
def Qw7:Qb:=⟨[],false,fun
 | [.agg [.v (.int .i64 c),.sl 1 t],.one (.v (.int .i64 m)),.agg [.v (.int .i64 l),.v (.int .i64 r)]]=>some (WfS t∧ -9223372036854775808≤c∧c≤9223372036854775807,
   [⟨false,[.d (.v (.int .i64 (prI (wtR c (unS t) m l r)).1))]⟩,⟨false,[.d (.v (.int .i64 (prI (wtR c (unS t) m l r)).2))]⟩,⟨false,[.d (.v (.bool (wtR c (unS t) m l r).isSome))]⟩],[])
 | _=>none⟩
attribute [local go_sem] Qw7
theorem Qwf:Qa E0 161 Qw7:=by
 refine QG (E:=E0) (T:=mkT Tryz.prog [(160,Qwm),(144,Qd7),(157,Qax),(149,QcL)] false (fun _=>false) true (fun _=>false)) (Qd (E:=E0) (.cons Qpy (.cons QhM (.cons Qbe (.cons QcA .nil))))) (fn:=Tryz.f161) Tryz.func161 kR rfl Qc kR rfl ?_
 intro args p rs ms hr;unfold Qw7 at hr;dsimp only at hr;split at hr;rotate_left
 ·cases hr
 rename_i c t m l r;cases hr;refine⟨rfl,rfl,nLe rfl,?_⟩
 have hm:=mxE;rintro⟨h1,hc1,hc2⟩ bs;obtain⟨rs,rfl,hx,hy⟩:=h1.ex;clear h1;rw[QB];cases hask:QaY c rs m l r
 ·have e:wtR c rs m l r=none:=by unfold wtR;rw[hask];rfl
  rw[e];clear e;refine gR ?_;intros
  all_goals first|exact⟨rfl,rfl,rfl⟩|exact⟨rfl,rfl⟩|skip
 ·have e:wtR c rs m l r=wtO c rs m l r:=by unfold wtR;rw[hask];rfl
  rw[e];clear e;obtain⟨ht,⟨l0,l1⟩,r0,r1⟩:=Qdc hask;obtain⟨c,rfl,c1,c5,h40,hlen⟩:=QQ ht;unfold wtO;rw[KE];generalize hR:dpI rs c m l r 0 rs.length=R;refine gR ?_;intros
  clear hask;refine lpI {ι:=Nat,rs:=[(6,13),(22,57)],mods:=[(21,fun i=> .one (.d (.v (.int .i64 i))))],boxes:=[(3,fun _=>[.d (.v (.int .i64 c)),.d (.sl 1 (sL rs))]),(5,fun _=>[.d (.v (.int .i64 l)),.d (.v (.int .i64 r))])],arrs:=[],ok:=fun i=>i≤rs.length∧dpI rs c m l r i (rs.length-i)=R,mu:=fun i=>rs.length-i} rfl 0 ⟨KJ _,hR⟩ ?_ fun i hi=>?_
  ·exact gQ
  ·dsimp only at i hi
   obtain⟨hi,hd⟩:=hi
   by_cases h5:i<rs.length
   ·rw[show rs.length-i=(rs.length-(i+1))+1 by omega,dpI]at hd
    generalize hK:dpK rs c m l r i (i+1) (rs.length-(i+1))=K at hd;have li:=hlen i h5
    have lm:=QbZ hy i
    refine gR ?_;intros
    refine lpI {ι:=Nat,rs:=[(6,9),(12,13),(28,56)],mods:=[(11,fun k=> .one (.d (.v (.int .i64 k))))],boxes:=[(3,fun _=>[.d (.v (.int .i64 c)),.d (.sl 1 (sL rs))]),(5,fun _=>[.d (.v (.int .i64 l)),.d (.v (.int .i64 r))])],arrs:=[],ok:=fun k=>i+1≤k∧k≤rs.length∧dpK rs c m l r i k (rs.length-k)=K,mu:=fun k=>rs.length-k} rfl (i+1) ⟨KP _,h5,hK⟩ ?_ fun k hk=>?_
    ·exact gQ
    ·dsimp only at k hk
     obtain⟨hk0,hk,hdk⟩:=hk
     by_cases h6:k<rs.length
     ·rw[show rs.length-k=(rs.length-(k+1))+1 by omega,dpK]at hdk
      have lk:=hlen k h6
      have lm2:=QbZ hy k
      have hag:=@Qbq m (rs.getD i []) (rs.getD k []) c c5
      cases hb:dpC rs c m l r i k
      ·rw[hb,if_neg (by decide)]at hdk
       simp only[dpC]at hb
       rw[←Qmz hag ⟨l0,l1⟩ ⟨r0,r1⟩,QCM]at hb;clear hag;have q0:=@Qi;refine gR ?_;clear q0;intros
       refine lpN (k+1) ⟨by omega,by omega,hdk⟩ (by dsimp only;omega) ?_
       clear hdk hd hb lm2 lk li lm;exact gQ
      ·rw[hb,if_pos rfl]at hdk
       simp only[dpC]at hb
       rw[←Qmz hag ⟨l0,l1⟩ ⟨r0,r1⟩,QCM]at hb;clear hag;subst hdk;subst hd;have q0:=@Qi;refine gR ?_;clear q0;intros
       all_goals first|exact⟨rfl,rfl,rfl⟩|exact⟨rfl,rfl⟩|skip
     ·rw[show rs.length-k=0 by omega,dpK]at hdk
      subst hdk;refine gR ?_
      refine lpN (i+1) ⟨by omega,hd⟩ (by dsimp only;omega) ?_
      clear hd li lm;exact gQ
   ·rw[show rs.length-i=0 by omega,dpI]at hd
    subst hd;refine gR ?_
    all_goals first|exact⟨rfl,rfl,rfl⟩|exact⟨rfl,rfl⟩|skip
theorem QxX:Qa E0 187 QtB:=by
 refine QG (E:=E0) (T:=mkT Tryz.prog [(161,Qw7),(160,Qwm)] false (fun _=>false) true (fun _=>false)) (Qd (E:=E0) (.cons Qwf (.cons Qpy .nil))) (fn:=Tryz.f187) Tryz.func187 kR rfl Qc kR rfl ?_
 intro args p rs ms hr;unfold QtB at hr;dsimp only at hr;split at hr;rotate_left
 ·cases hr
 rename_i c t m l r;cases hr;refine⟨rfl,rfl,nLe rfl,?_⟩
 have hm:=mxE;rintro⟨h1,hc1,hc2⟩ bs;obtain⟨rs,rfl,hx,hy⟩:=h1.ex;clear h1;rw[QB];have e:hdB c rs m l r=(QaY c rs m l r&& !(wtR c rs m l r).isSome):=by
  unfold hdB wtR;cases QaY c rs m l r
  ·rfl
  ·simp only[if_true,KY];cases wtO c rs m l r<;>rfl
 rw[e];clear e;exact gQ
end
attribute [local go_sem] QhO Tryz.results163 Qbr Tryz.results126 Qd8 Tryz.results185 Qh Qg Qae Qag Qaf Qaj Qa7 Qd1 Qv
def QJ(n:Int)(ds:List (Int×Int)):Bool:=ds.all (fun d=>QO n d.1 d.2)&&(inB n 1 5&&decide ((ds.length:Int)≤20))
def QT:Qb:=⟨[],false,fun
 | [.one (.v (.int .i64 n)),.one (.sl 2 l)]=>some (WfD l∧ -9223372036854775808≤n∧n≤9223372036854775807,[⟨false,[.d (.v (.bool (QJ n (unD l))))]⟩],[])
 | _=>none⟩
attribute [local go_sem] QT
theorem Qby:Qa E0 163 QT:=by
 refine QG (E:=E0) (T:=mkT Tryz.prog [(105,QhO)] false (fun _=>false) true (fun _=>false)) (Qd (E:=E0) (.cons QiN .nil)) (fn:=Tryz.f163) Tryz.func163 kR rfl Qc kR rfl ?_
 intro args p rs ms hr;unfold QT at hr;dsimp only at hr;split at hr;rotate_left
 ·cases hr
 rename_i n l;cases hr;refine⟨rfl,rfl,nLe rfl,?_⟩
 have hm:=mxE;rintro⟨h1,hn1,hn2⟩ bs;obtain⟨ds,rfl,hx⟩:=h1.ex;clear h1;rw[Qh];refine gR ?_
 refine lpI {ι:=Nat,rs:=[(4,5),(6,7),(10,18)],mods:=[(9,fun i=> .one (.d (.v (.int .i64 i))))],boxes:=[],arrs:=[],ok:=fun i=>i≤ds.length∧(ds.drop i).all (fun d=>QO n d.1 d.2)=ds.all (fun d=>QO n d.1 d.2),mu:=fun i=>ds.length-i} rfl 0 ⟨KJ _,rfl⟩ ?_ fun i hi=>?_
 ·exact gQ
 ·dsimp only at i hi
  obtain⟨hi,ht⟩:=hi
  by_cases h5:i<ds.length
  ·rw[Qbt h5 (0,0) _]at ht
   cases hq:QO n (ds.getD i (0,0)).1 (ds.getD i (0,0)).2
   ·have e:QJ n ds=false:=by unfold QJ;rw[←ht,hq];rfl
    rw[e];clear e ht;exact gP
   ·rw[hq,KY]at ht
    refine gR ?_;intros
    refine lpN (i+1) ⟨by omega,ht⟩ (by dsimp only;omega) ?_
    clear ht;exact gQ
  ·have e5:i=ds.length:=by omega
   subst e5;rw[K7,List.all_nil]at ht;have e:QJ n ds=(decide (n≥1)&&decide (n≤5)&&decide ((ds.length:Int)≤20)):=by unfold QJ;rw[←ht];rfl
   rw[e];clear e ht;exact gQ
theorem Qbz:Qa E0 126 QT:=by
 refine QG (E:=E0) (T:=mkT Tryz.prog [(82,QhO),(62,Qbr)] false (fun _=>false) true (fun _=>false)) (Qd (E:=E0) (.cons Qfm (.cons QcD .nil))) (fn:=Tryz.f126) Tryz.func126 kR rfl Qc kR rfl ?_
 intro args p rs ms hr;unfold QT at hr;dsimp only at hr;split at hr;rotate_left
 ·cases hr
 rename_i n l;cases hr;refine⟨rfl,rfl,nLe rfl,?_⟩
 have hm:=mxE;rintro⟨h1,hn1,hn2⟩ bs;obtain⟨ds,rfl,hx⟩:=h1.ex;clear h1;rw[Qh];refine gR ?_
 refine lpI {ι:=Nat,rs:=[(4,5),(6,19)],mods:=[(5,fun i=> .one (.d (.v (.int .i64 i))))],boxes:=[],arrs:=[],ok:=fun i=>i≤ds.length∧(ds.drop i).all (fun d=>QO n d.1 d.2)=ds.all (fun d=>QO n d.1 d.2),mu:=fun i=>ds.length-i} rfl 0 ⟨KJ _,rfl⟩ ?_ fun i hi=>?_
 ·exact gQ
 ·dsimp only at i hi
  obtain⟨hi,ht⟩:=hi
  by_cases h5:i<ds.length
  ·rw[Qbt h5 (0,0) _]at ht
   cases hq:QO n (ds.getD i (0,0)).1 (ds.getD i (0,0)).2
   ·have e:QJ n ds=false:=by unfold QJ;rw[←ht,hq];rfl
    rw[e];clear e ht;exact gP
   ·rw[hq,KY]at ht
    refine gR ?_;intros
    refine lpN (i+1) ⟨by omega,ht⟩ (by dsimp only;omega) ?_
    clear ht;exact gQ
  ·have e5:i=ds.length:=by omega
   subst e5;rw[K7,List.all_nil]at ht;have e:QJ n ds=(inB n 1 5&&decide ((ds.length:Int)≤20)):=by unfold QJ;rw[←ht];rfl
   rw[e];clear e ht;exact gQ
def QmA:Qb:=⟨[],false,fun
 | [.one (.sl 1 t)]=>some (WfS t∧t.length≤16777216∧∀r∈unS t,r.length≤16777216,[⟨false,[.own 1 t 1]⟩],[])
 | _=>none⟩
attribute [local go_sem] QmA
theorem Qxv:Qa E0 185 QmA:=by
 refine QG (E:=E0) (T:=mkT Tryz.prog [(145,Qd8)] false (fun _=>false) true (fun _=>false)) (Qd (E:=E0) (.cons QhQ .nil)) (fn:=Tryz.f185) Tryz.func185 kR rfl Qc kR rfl ?_
 intro args p rs ms hr;unfold QmA at hr;dsimp only at hr;split at hr;rotate_left
 ·cases hr
 rename_i t;cases hr;refine⟨rfl,rfl,nLe rfl,?_⟩
 have hm:=mxE;rintro⟨h1,h2,h2'⟩ bs;obtain⟨rs,rfl,hx,hy⟩:=h1.ex;clear h1;rw[QB]at h2';rw[Qai]at h2;refine gR ?_
 refine lpI {ι:=Nat,rs:=[(5,6),(10,19)],mods:=[(9,fun i=> .one (.d (.v (.int .i64 i)))),(3,fun i=> .one (.own 1 (sL (rs.take i)) 1))],boxes:=[],arrs:=[],ok:=fun i=>i≤rs.length,mu:=fun i=>rs.length-i} rfl 0 (KJ _) ?_ fun i hi=>?_
 ·exact gQ
 ·dsimp only at i hi
  have q1:=QbZ hy i
  have q2:=QbZ h2' i
  by_cases h5:i<rs.length
  ·have e:=Qf h5 []
   have q0:=@Qbo;refine gR ?_;clear q0;intros
   refine lpQ (i+1) ?_
   have q0:=@Qbo;exact gP
  ·have e5:i=rs.length:=by omega
   subst e5;refine gR ?_
   all_goals first|(rw[KR];done)|skip
theorem QE{α:Type}{l:List α}{i:Nat}(h:i<l.length)(d:α):l.getD i d∈l:=by simp[KD,h]
end Go.Own
