/- Own contracts. Conditions: as each theorem states them. -/
import Derived.Test.YtnmkpepdacbfaaaGreatDoorRr08
set_option linter.unusedSimpArgs false
set_option linter.unusedVariables false
set_option maxRecDepth 20000
set_option maxHeartbeats 2000000
namespace Go.Own
open Go Go.Proofs
attribute [local go_sem] Tryz.results157 Qs5 Tryz.results117 Qs1 Qdh Qcf Tryz.results161 Tryz.results187
def Qaj:Qb:=⟨[],false,fun
 | [.one (.v (.int .i64 x)),.one (.v (.int .i64 y))]=>some (True,[⟨false,[.d (.v (.bool (Qax .andNot .i64 x y==0)))]⟩],[])
 | _=>none⟩
attribute [local go_sem] Qaj
theorem QaN:Qa E0 157 Qaj:=by
 refine QV (E:=E0) (T:=mkT Tryz.prog [] false (fun _=>false) true (fun _=>false)) (Qf (E:=E0) .nil) (fn:=Tryz.f157) Tryz.func157 (by kernel_rfl) rfl Qe (by kernel_rfl) rfl ?_
 intro args p rs ms hr;unfold Qaj at hr;dsimp only at hr;split at hr;rotate_left
 ·cases hr
 rename_i x y;cases hr;refine⟨rfl,rfl,nLe rfl,?_⟩
 have hm:=mxE;intro _ bs;exact gQ
theorem Qdg{c:Int}{rs:List (List Int)}{m l r:Int}(h:Qbe c rs m l r=true):QC c rs=true∧(0≤l∧l≤31)∧0≤r∧r≤4:=by
 simp only[Qbe,Q2,Bool.and_eq_true,Qh]at h
 have:=Qt h.2.1.2
 have h2:=QyS h.1.1
 exact⟨h.1.1,⟨this.2.2.1,this.2.2.2⟩,h.2.2.1,by omega⟩
def Qoz:Qb:=⟨[],false,fun
 | [.agg [.v (.int .i64 c),.sl 1 t],.one (.v (.int .i64 m)),.agg [.v (.int .i64 l),.v (.int .i64 r)]]=>some (WfS t∧Qbe c (unS t) m l r=true,
   [⟨false,[.d (.v (.int .i64 (prI (wtO c (unS t) m l r)).1))]⟩,⟨false,[.d (.v (.int .i64 (prI (wtO c (unS t) m l r)).2))]⟩],[])
 | _=>none⟩
attribute [local go_sem] Qoz
theorem Qyc:Qa E0 117 Qoz:=by
 refine QV (E:=E0) (T:=mkT Tryz.prog [(79,Qs5)] false (fun _=>false) true (fun _=>false)) (Qf (E:=E0) (.cons Qwh .nil)) (fn:=Tryz.f117) Tryz.func117 (by kernel_rfl) rfl Qe (by kernel_rfl) rfl ?_
 intro args p rs ms hr;unfold Qoz at hr;dsimp only at hr;split at hr;rotate_left
 ·cases hr
 rename_i c t m l r;cases hr;refine⟨rfl,rfl,nLe rfl,?_⟩
 have hm:=mxE;rintro⟨h1,hask⟩ bs;obtain⟨rs,rfl,hx,hy⟩:=h1.ex;clear h1;rw[QG]at hask ⊢;obtain⟨ht,⟨l0,l1⟩,r0,r1⟩:=Qdg hask;obtain⟨c,rfl,c1,c5,h40,hlen⟩:=QR ht;clear hask;unfold wtO;rw[Int.toNat_natCast];generalize hR:dpI rs c m l r 0 rs.length=R;(repeat' first|refine gA fun _=>?_|apply fkI<;>intro hb<;>try simp only[ew]at hb|simp only[go_sem,simprocAttr, *])
 refine lpI {ι:=Nat,rs:=[(6,8),(9,49)],mods:=[(8,fun i=> .one (.d (.v (.int .i64 i))))],boxes:=[(3,fun _=>[.d (.v (.int .i64 c)),.d (.sl 1 (sL rs))]),(5,fun _=>[.d (.v (.int .i64 l)),.d (.v (.int .i64 r))])],arrs:=[],ok:=fun i=>i≤rs.length∧dpI rs c m l r i (rs.length-i)=R,mu:=fun i=>rs.length-i} rfl 0 ⟨Nat.zero_le _,hR⟩ ?_ fun i hi=>?_
 ·exact gQ
 ·dsimp only at i hi
  obtain⟨hi,hd⟩:=hi
  by_cases h5:i<rs.length
  ·rw[show rs.length-i=(rs.length-(i+1))+1 by omega,dpI]at hd
   generalize hK:dpK rs c m l r i (i+1) (rs.length-(i+1))=K at hd;(repeat' first|refine gA fun _=>?_|apply fkI<;>intro hb<;>try simp only[ew]at hb|simp only[go_sem,simprocAttr, *])
   refine lpI {ι:=Nat,rs:=[(6,8),(10,11),(20,49)],mods:=[(9,fun k=> .one (.d (.v (.int .i64 k))))],boxes:=[(3,fun _=>[.d (.v (.int .i64 c)),.d (.sl 1 (sL rs))]),(5,fun _=>[.d (.v (.int .i64 l)),.d (.v (.int .i64 r))])],arrs:=[],ok:=fun k=>i+1≤k∧k≤rs.length∧dpK rs c m l r i k (rs.length-k)=K,mu:=fun k=>rs.length-k} rfl (i+1) ⟨Nat.le_refl _,h5,hK⟩ ?_ fun k hk=>?_
   ·exact gQ
   ·dsimp only at k hk
    obtain⟨hk0,hk,hdk⟩:=hk
    by_cases h6:k<rs.length
    ·rw[show rs.length-k=(rs.length-(k+1))+1 by omega,dpK]at hdk
     cases hb:dpC rs c m l r i k
     ·rw[hb,if_neg (by decide)]at hdk
      simp only[dpC,Qp6]at hb
      (repeat' first|refine gA fun _=>?_|apply fkI<;>intro hb<;>try simp only[ew,Qq]at hb|simp only[go_sem,simprocAttr, *,Qq])
      refine lpN (k+1) ⟨by omega,by omega,hdk⟩ (by dsimp only;omega) ?_
      clear hdk hd;exact gQ
     ·rw[hb,if_pos rfl]at hdk
      simp only[dpC,Qp6]at hb
      subst hdk;subst hd;(repeat' first|refine gA fun _=>?_|apply fkI<;>intro hb<;>try simp only[ew,Qq]at hb|simp only[go_sem,simprocAttr, *,Qq])
      all_goals first|exact⟨rfl,rfl⟩|skip
    ·rw[show rs.length-k=0 by omega,dpK]at hdk
     subst hdk;(repeat' first|refine gA fun _=>?_|apply fkI<;>intro hb<;>try simp only[ew]at hb|simp only[go_sem,simprocAttr, *])
     refine lpN (i+1) ⟨by omega,hd⟩ (by dsimp only;omega) ?_
     clear hd;exact gQ
  ·rw[show rs.length-i=0 by omega,dpI]at hd
   subst hd;(repeat' first|refine gA fun _=>?_|apply fkI<;>intro hb<;>try simp only[ew]at hb|simp only[go_sem,simprocAttr, *])
   all_goals first|exact⟨rfl,rfl⟩|skip
def Qqj:Qb:=⟨[],false,fun
 | [.agg [.v (.int .i64 c),.sl 1 t],.one (.v (.int .i64 m)),.agg [.v (.int .i64 l),.v (.int .i64 r)]]=>some (WfS t∧ -9223372036854775808≤c∧c≤9223372036854775807,[⟨false,[.d (.v (.bool (hdB c (unS t) m l r)))]⟩],[])
 | _=>none⟩
attribute [local go_sem] Qqj
def Qzi:Qb:=⟨[],false,fun
 | [.agg [.v (.int .i64 c),.sl 1 t],.one (.v (.int .i64 m)),.agg [.v (.int .i64 l),.v (.int .i64 r)]]=>some (WfS t∧ -9223372036854775808≤c∧c≤9223372036854775807,
   [⟨false,[.d (.v (.int .i64 (prI (wtR c (unS t) m l r)).1))]⟩,⟨false,[.d (.v (.int .i64 (prI (wtR c (unS t) m l r)).2))]⟩,⟨false,[.d (.v (.bool (wtR c (unS t) m l r).isSome))]⟩],[])
 | _=>none⟩
attribute [local go_sem] Qzi
theorem QsV:Qa E0 161 Qzi:=by
 refine QV (E:=E0) (T:=mkT Tryz.prog [(160,Qs1),(144,Qdh),(157,Qaj),(149,Qcf)] false (fun _=>false) true (fun _=>false)) (Qf (E:=E0) (.cons QmL (.cons Qgi (.cons QaN (.cons Qb8 .nil))))) (fn:=Tryz.f161) Tryz.func161 (by kernel_rfl) rfl Qe (by kernel_rfl) rfl ?_
 intro args p rs ms hr;unfold Qzi at hr;dsimp only at hr;split at hr;rotate_left
 ·cases hr
 rename_i c t m l r;cases hr;refine⟨rfl,rfl,nLe rfl,?_⟩
 have hm:=mxE;rintro⟨h1,hc1,hc2⟩ bs;obtain⟨rs,rfl,hx,hy⟩:=h1.ex;clear h1;rw[QG];cases hask:Qbe c rs m l r
 ·have e:wtR c rs m l r=none:=by unfold wtR;rw[hask];rfl
  rw[e];clear e;(repeat' first|refine gA fun _=>?_|apply fkI<;>intro hb<;>try simp only[ew]at hb|simp only[go_sem,simprocAttr, *])
  all_goals first|exact⟨rfl,rfl,rfl⟩|exact⟨rfl,rfl⟩|skip
 ·have e:wtR c rs m l r=wtO c rs m l r:=by unfold wtR;rw[hask];rfl
  rw[e];clear e;obtain⟨ht,⟨l0,l1⟩,r0,r1⟩:=Qdg hask;obtain⟨c,rfl,c1,c5,h40,hlen⟩:=QR ht;unfold wtO;rw[Int.toNat_natCast];generalize hR:dpI rs c m l r 0 rs.length=R;(repeat' first|refine gA fun _=>?_|apply fkI<;>intro hb<;>try simp only[ew]at hb|simp only[go_sem,simprocAttr, *])
  clear hask;refine lpI {ι:=Nat,rs:=[(6,13),(22,57)],mods:=[(21,fun i=> .one (.d (.v (.int .i64 i))))],boxes:=[(3,fun _=>[.d (.v (.int .i64 c)),.d (.sl 1 (sL rs))]),(5,fun _=>[.d (.v (.int .i64 l)),.d (.v (.int .i64 r))])],arrs:=[],ok:=fun i=>i≤rs.length∧dpI rs c m l r i (rs.length-i)=R,mu:=fun i=>rs.length-i} rfl 0 ⟨Nat.zero_le _,hR⟩ ?_ fun i hi=>?_
  ·exact gQ
  ·dsimp only at i hi
   obtain⟨hi,hd⟩:=hi
   by_cases h5:i<rs.length
   ·rw[show rs.length-i=(rs.length-(i+1))+1 by omega,dpI]at hd
    generalize hK:dpK rs c m l r i (i+1) (rs.length-(i+1))=K at hd;have li:=hlen i h5
    have lm:=QdK hy i
    (repeat' first|refine gA fun _=>?_|apply fkI<;>intro hb<;>try simp only[ew]at hb|simp only[go_sem,simprocAttr, *])
    refine lpI {ι:=Nat,rs:=[(6,9),(12,13),(28,56)],mods:=[(11,fun k=> .one (.d (.v (.int .i64 k))))],boxes:=[(3,fun _=>[.d (.v (.int .i64 c)),.d (.sl 1 (sL rs))]),(5,fun _=>[.d (.v (.int .i64 l)),.d (.v (.int .i64 r))])],arrs:=[],ok:=fun k=>i+1≤k∧k≤rs.length∧dpK rs c m l r i k (rs.length-k)=K,mu:=fun k=>rs.length-k} rfl (i+1) ⟨Nat.le_refl _,h5,hK⟩ ?_ fun k hk=>?_
    ·exact gQ
    ·dsimp only at k hk
     obtain⟨hk0,hk,hdk⟩:=hk
     by_cases h6:k<rs.length
     ·rw[show rs.length-k=(rs.length-(k+1))+1 by omega,dpK]at hdk
      have lk:=hlen k h6
      have lm2:=QdK hy k
      have hag:=@QaW m (rs.getD i []) (rs.getD k []) c c5
      cases hb:dpC rs c m l r i k
      ·rw[hb,if_neg (by decide)]at hdk
       simp only[dpC]at hb
       rw[←Qkd hag ⟨l0,l1⟩ ⟨r0,r1⟩,Qzd]at hb;clear hag;(repeat' first|refine gA fun _=>?_|apply fkI<;>intro hb<;>try simp only[ew,Qq]at hb|simp only[go_sem,simprocAttr, *,Qq])
       refine lpN (k+1) ⟨by omega,by omega,hdk⟩ (by dsimp only;omega) ?_
       clear hdk hd hb lm2 lk li lm;exact gQ
      ·rw[hb,if_pos rfl]at hdk
       simp only[dpC]at hb
       rw[←Qkd hag ⟨l0,l1⟩ ⟨r0,r1⟩,Qzd]at hb;clear hag;subst hdk;subst hd;(repeat' first|refine gA fun _=>?_|apply fkI<;>intro hb<;>try simp only[ew,Qq]at hb|simp only[go_sem,simprocAttr, *,Qq])
       all_goals first|exact⟨rfl,rfl,rfl⟩|exact⟨rfl,rfl⟩|skip
     ·rw[show rs.length-k=0 by omega,dpK]at hdk
      subst hdk;(repeat' first|refine gA fun _=>?_|apply fkI<;>intro hb<;>try simp only[ew]at hb|simp only[go_sem,simprocAttr, *])
      refine lpN (i+1) ⟨by omega,hd⟩ (by dsimp only;omega) ?_
      clear hd li lm;exact gQ
   ·rw[show rs.length-i=0 by omega,dpI]at hd
    subst hd;(repeat' first|refine gA fun _=>?_|apply fkI<;>intro hb<;>try simp only[ew]at hb|simp only[go_sem,simprocAttr, *])
    all_goals first|exact⟨rfl,rfl,rfl⟩|exact⟨rfl,rfl⟩|skip
theorem Qux:Qa E0 187 Qqj:=by
 refine QV (E:=E0) (T:=mkT Tryz.prog [(161,Qzi),(160,Qs1)] false (fun _=>false) true (fun _=>false)) (Qf (E:=E0) (.cons QsV (.cons QmL .nil))) (fn:=Tryz.f187) Tryz.func187 (by kernel_rfl) rfl Qe (by kernel_rfl) rfl ?_
 intro args p rs ms hr;unfold Qqj at hr;dsimp only at hr;split at hr;rotate_left
 ·cases hr
 rename_i c t m l r;cases hr;refine⟨rfl,rfl,nLe rfl,?_⟩
 have hm:=mxE;rintro⟨h1,hc1,hc2⟩ bs;obtain⟨rs,rfl,hx,hy⟩:=h1.ex;clear h1;rw[QG];have e:hdB c rs m l r=(Qbe c rs m l r&& !(wtR c rs m l r).isSome):=by
  unfold hdB wtR;cases Qbe c rs m l r
  ·rfl
  ·simp only[if_true,Bool.true_and];cases wtO c rs m l r<;>rfl
 rw[e];clear e;exact gQ
end Go.Own
namespace Go.Own
open Go Go.Proofs
attribute [local go_sem] Qlw Tryz.results163 QbD Tryz.results126 Qdi Tryz.results185
attribute [local go_sem] Qm Qc QZ Q1 Q0 Q3 QaH Qdb Qr
def Q5(n:Int)(ds:List (Int×Int)):Bool:=ds.all (fun d=>Q2 n d.1 d.2)&&(inB n 1 5&&decide ((ds.length:Int)≤20))
def Qap:Qb:=⟨[],false,fun
 | [.one (.v (.int .i64 n)),.one (.sl 2 l)]=>some (WfD l∧ -9223372036854775808≤n∧n≤9223372036854775807,[⟨false,[.d (.v (.bool (Q5 n (unD l))))]⟩],[])
 | _=>none⟩
attribute [local go_sem] Qap
theorem Qa2:Qa E0 163 Qap:=by
 refine QV (E:=E0) (T:=mkT Tryz.prog [(105,Qlw)] false (fun _=>false) true (fun _=>false)) (Qf (E:=E0) (.cons Qg4 .nil)) (fn:=Tryz.f163) Tryz.func163 (by kernel_rfl) rfl Qe (by kernel_rfl) rfl ?_
 intro args p rs ms hr;unfold Qap at hr;dsimp only at hr;split at hr;rotate_left
 ·cases hr
 rename_i n l;cases hr;refine⟨rfl,rfl,nLe rfl,?_⟩
 have hm:=mxE;rintro⟨h1,hn1,hn2⟩ bs;obtain⟨ds,rfl,hx⟩:=h1.ex;clear h1;rw[Qm];(repeat' first|refine gA fun _=>?_|apply fkI<;>intro hb<;>try simp only[ew]at hb|simp only[go_sem,simprocAttr, *])
 refine lpI {ι:=Nat,rs:=[(4,5),(6,7),(10,18)],mods:=[(9,fun i=> .one (.d (.v (.int .i64 i))))],boxes:=[],arrs:=[],ok:=fun i=>i≤ds.length∧(ds.drop i).all (fun d=>Q2 n d.1 d.2)=ds.all (fun d=>Q2 n d.1 d.2),mu:=fun i=>ds.length-i} rfl 0 ⟨Nat.zero_le _,rfl⟩ ?_ fun i hi=>?_
 ·exact gQ
 ·dsimp only at i hi
  obtain⟨hi,ht⟩:=hi
  by_cases h5:i<ds.length
  ·rw[Qbd h5 (0,0) _]at ht
   cases hq:Q2 n (ds.getD i (0,0)).1 (ds.getD i (0,0)).2
   ·have e:Q5 n ds=false:=by unfold Q5;rw[←ht,hq];rfl
    rw[e];clear e ht;(repeat' first|refine gA fun _=>?_|apply fkI<;>intro hb<;>try simp only[ew,hq]at hb|simp only[go_sem,simprocAttr, *,hq])
   ·rw[hq,Bool.true_and]at ht
    (repeat' first|refine gA fun _=>?_|apply fkI<;>intro hb<;>try simp only[ew,hq]at hb|simp only[go_sem,simprocAttr, *,hq])
    refine lpN (i+1) ⟨by omega,ht⟩ (by dsimp only;omega) ?_
    clear ht;exact gQ
  ·have e5:i=ds.length:=by omega
   subst e5;rw[List.drop_length,List.all_nil]at ht;have e:Q5 n ds=(decide (n≥1)&&decide (n≤5)&&decide ((ds.length:Int)≤20)):=by unfold Q5;rw[←ht];rfl
   rw[e];clear e ht;exact gQ
def Qke:Qb:=⟨[],false,fun
 | [.one (.sl 1 t)]=>some (WfS t∧t.length≤16777216∧∀r∈unS t,r.length≤16777216,[⟨false,[.own 1 t 1]⟩],[])
 | _=>none⟩
attribute [local go_sem] Qke
theorem Qt7:Qa E0 185 Qke:=by
 refine QV (E:=E0) (T:=mkT Tryz.prog [(145,Qdi)] false (fun _=>false) true (fun _=>false)) (Qf (E:=E0) (.cons Qgl .nil)) (fn:=Tryz.f185) Tryz.func185 (by kernel_rfl) rfl Qe (by kernel_rfl) rfl ?_
 intro args p rs ms hr;unfold Qke at hr;dsimp only at hr;split at hr;rotate_left
 ·cases hr
 rename_i t;cases hr;refine⟨rfl,rfl,nLe rfl,?_⟩
 have hm:=mxE;rintro⟨h1,h2,h2'⟩ bs;obtain⟨rs,rfl,hx,hy⟩:=h1.ex;clear h1;rw[QG]at h2';rw[Qas]at h2;(repeat' first|refine gA fun _=>?_|apply fkI<;>intro hb<;>try simp only[ew]at hb|simp only[go_sem,simprocAttr, *])
 refine lpI {ι:=Nat,rs:=[(5,6),(10,19)],mods:=[(9,fun i=> .one (.d (.v (.int .i64 i)))),(3,fun i=> .one (.own 1 (sL (rs.take i)) 1))],boxes:=[],arrs:=[],ok:=fun i=>i≤rs.length,mu:=fun i=>rs.length-i} rfl 0 (Nat.zero_le _) ?_ fun i hi=>?_
 ·exact gQ
 ·dsimp only at i hi
  have q1:=QdK hy i
  have q2:=QdK h2' i
  by_cases h5:i<rs.length
  ·have e:=Qk h5 []
   (repeat' first|refine gA fun _=>?_|apply fkI<;>intro hb<;>try simp only[ew,QfO]at hb|simp only[go_sem,simprocAttr, *,QfO])
   refine lpN (i+1) (by dsimp only;omega) (by dsimp only;omega) ?_
   (repeat' first|refine gA fun _=>?_|apply fkI<;>intro hb<;>try simp only[ew,QfO,e]at hb|simp only[go_sem,simprocAttr, *,QfO])
  ·have e5:i=rs.length:=by omega
   subst e5;(repeat' first|refine gA fun _=>?_|apply fkI<;>intro hb<;>try simp only[ew]at hb|simp only[go_sem,simprocAttr, *])
   all_goals first|(rw[List.take_length];done)|skip
theorem QI{α:Type}{l:List α}{i:Nat}(h:i<l.length)(d:α):l.getD i d∈l:=by simp[List.getD_eq_getElem?_getD,h]
end Go.Own
