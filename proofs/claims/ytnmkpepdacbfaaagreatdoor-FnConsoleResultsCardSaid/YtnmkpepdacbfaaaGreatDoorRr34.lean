/- Own contracts. Conditions: as each theorem states them. -/
import Derived.Test.YtnmkpepdacbfaaaGreatDoorRr23
import Derived.Test.YtnmkpepdacbfaaaGreatDoorRr33
set_option linter.unusedSimpArgs false
set_option linter.unusedVariables false
set_option maxRecDepth 20000
set_option maxHeartbeats 2000000
namespace Go.Own
open Go Go.Proofs
attribute [local go_sem] Qap Qqf QgQ Tryz.results175 Qfe Tryz.results131 Qs3 Tryz.results129 Qk9 QhS Tryz.results172 Qc1 Tryz.results174 Tryz.results130
attribute [local go_sem] Qm Qc QZ Q1 Q0 Q3 QaH Qdb Qr QaG
def kqB(M:Nat)(ds:List (Int×Int))(x:Int):Bool:=clo ds x==(M:Int)-1
def QuL(M:Nat)(ds:List (Int×Int)):List Int:=(rng M).filter (kqB M ds)
def QeS(n:Int)(ds:List (Int×Int)):List Int:=if Q5 n ds then QdG Qaw (QuL (2^n.toNat) ds)else []
def Qlx:Qb:=⟨[],false,fun
 | [.one (.v (.int .i64 n)),.one (.sl 2 l)]=>some (WfD l∧ -9223372036854775808≤n∧n≤9223372036854775807,[⟨false,[.own 1 (iL (QeS n (unD l))) 1]⟩],[])
 | _=>none⟩
attribute [local go_sem] Qlx
theorem Qiq{n:Int}{ds:List (Int×Int)}(h:Q5 n ds=true):1≤n∧n≤5∧ds.length≤20:=by
 simp only[Q5,Bool.and_eq_true,Qh,decide_eq_true_eq]at h
 omega
theorem Qnx:Qa E0 175 Qlx:=by
 refine QV (E:=E0) (T:=mkT Tryz.prog [(163,Qap),(202,Qqf),(171,QgQ)] false (fun _=>false) true (fun _=>false)) (Qf (E:=E0) (.cons Qa2 (.cons QdO (.cons QnG .nil)))) (fn:=Tryz.f175) Tryz.func175 (by kernel_rfl) rfl Qe (by kernel_rfl) rfl ?_
 intro args p rs ms hr;unfold Qlx at hr;dsimp only at hr;split at hr;rotate_left
 ·cases hr
 rename_i n l;cases hr;refine⟨rfl,rfl,nLe rfl,?_⟩
 have hm:=mxE;rintro⟨h1,hn1,hn2⟩ bs;obtain⟨ds,rfl,hx⟩:=h1.ex;clear h1;rw[Qm];cases hv:Q5 n ds
 ·have e:QeS n ds=[]:=by unfold QeS;rw[hv];rfl
  rw[e];clear e;(repeat' first|refine gA fun _=>?_|apply fkI<;>intro hb<;>try simp only[ew,hv]at hb|simp only[go_sem,simprocAttr, *,hv])
  all_goals first|rfl|skip
 ·have hd:=Qbg hv
  obtain⟨n0,n5,_⟩:=Qiq hv;have e:QeS n ds=QdG Qaw (QuL (2^n.toNat) ds):=by unfold QeS;rw[hv];rfl
  rw[e];obtain⟨c,rfl⟩:=Int.eq_ofNat_of_zero_le (show 0≤n by omega)
  rw[Int.toNat_natCast];have hM2:2^c≤32:=Nat.le_trans (Nat.pow_le_pow_right (by omega) (show c≤5 by omega)) (by decide)
  have hM:1*(2:Int)^c=((2^c:Nat):Int):=by simp
  clear e;generalize 2^c=M at hM2 hM ⊢;(repeat' first|refine gA fun _=>?_|apply fkI<;>intro hb<;>try simp only[ew,Qq,hv]at hb|simp only[go_sem,simprocAttr, *,Qq,hv])
  refine lpI {ι:=Nat,rs:=[(13,30)],mods:=[(6,fun x=> .one (.d (.v (.int .i64 x)))),(5,fun x=> .one (.own 1 (iL ((rng x).filter (kqB M ds))) 1))],boxes:=[],arrs:=[],ok:=fun x=>x≤M,mu:=fun x=>M-x} rfl 0 (Nat.zero_le _) ?_ fun x hx=>?_
  ·exact gQ
  ·dsimp only at x hx
   have l1:=@QbA (kqB M ds) x
   by_cases h5:x<M
   ·have l2:((rng x).filter (kqB M ds)).length≤32:=by omega
    have eS:=@QdD (kqB M ds) x
    generalize hZ:(rng x).filter (kqB M ds)=Z at l1 l2 eS;have eq:kqB M ds x=(clo ds x==(M:Int)-1):=rfl
    cases hq:kqB M ds x
    ·rw[hq]at eq eS
     rw[if_neg (by decide),List.append_nil]at eS
     replace eq:=eq.symm;clear hq;(repeat' first|refine gA fun _=>?_|apply fkI<;>intro hb<;>try simp only[ew,hM,Qq,hZ,eq]at hb|simp only[go_sem,simprocAttr, *,Qq])
     refine lpN (x+1) (by dsimp only;omega) (by dsimp only;omega) ?_
     clear eq;(repeat' first|refine gA fun _=>?_|apply fkI<;>intro hb<;>try simp only[ew,eS,hZ]at hb|simp only[go_sem,simprocAttr, *])
    ·rw[hq]at eq eS
     rw[if_pos rfl]at eS;replace eq:=eq.symm;clear hq;(repeat' first|refine gA fun _=>?_|apply fkI<;>intro hb<;>try simp only[ew,hM,Qq,hZ,eq,Ql]at hb|simp only[go_sem,simprocAttr, *,Qq,Ql])
     refine lpN (x+1) (by dsimp only;omega) (by dsimp only;omega) ?_
     clear eq;(repeat' first|refine gA fun _=>?_|apply fkI<;>intro hb<;>try simp only[ew,eS,hZ,Ql]at hb|simp only[go_sem,simprocAttr, *,Ql])
   ·have e5:x=M:=by omega
    subst e5;have l2:((rng x).filter (kqB x ds)).length≤maxLen:=Nat.le_trans l1 (Nat.le_trans hM2 (by decide))
    have e3:(rng x).filter (kqB x ds)=QuL x ds:=rfl
    rw[e3]at l2;clear hd;(repeat' first|refine gA fun _=>?_|apply fkI<;>intro hb<;>try simp only[ew,hM,Qq,e3]at hb|simp only[go_sem,simprocAttr, *,Qq])
def QnX(ds:List (Int×Int))(r x c:Int):Int:=if Qy x c&&Qy (clo ds (Qd6 x c)) r then Qd6 x c else x
def Qs8(ds:List (Int×Int))(r x:Int)(l:List Int):Int:=l.foldl (QnX ds r) x
def Qwn(ds:List (Int×Int))(r x:Int):Nat→Int
 | 0=>x
 | k+1=>QnX ds r (Qwn ds r x k) (k:Nat)
theorem Qwm{ds:List (Int×Int)}{r x c:Int}(hx:R5 x)(hc:0≤c∧c≤4):R5 (QnX ds r x c):=by
 unfold QnX;split
 ·exact QBy hx hc
 ·exact hx
theorem Qyq{ds:List (Int×Int)}{r x c:Int}(hx:R5 x)(hc:0≤c∧c≤4):QnX ds r x c≤x:=by
 unfold QnX;split
 ·exact(Qg3 hx hc).2
 ·exact Int.le_refl _
theorem QnY{ds:List (Int×Int)}{r x c e:Int}(hx:R5 x)(hc:0≤c∧c≤4)(he:0≤e∧e≤4)(hne:e≠c):Qy (QnX ds r x c) e=Qy x e:=by
 unfold QnX;split
 ·rw[QlL hx hc he,beq_eq_false_iff_ne.2 hne];simp
 ·rfl
theorem QfJ{ds:List (Int×Int)}{r x:Int}(hx:R5 x):∀{k:Nat},k≤5→R5 (Qwn ds r x k)∧Qwn ds r x k≤x∧∀e:Int,(k:Int)≤e→e≤4→Qy (Qwn ds r x k) e=Qy x e
 | 0,_=>⟨hx,Int.le_refl _,fun _ _ _=>rfl⟩
 | k+1,h=>by
  obtain⟨h1,h2,h3⟩:=QfJ (ds:=ds) (r:=r) hx (k:=k) (by omega)
  have hc:0≤(k:Int)∧(k:Int)≤4:=⟨by omega,by omega⟩
  refine⟨Qwm h1 hc,Int.le_trans (Qyq h1 hc) h2,fun e he he4=>?_⟩
  rw[Qwn,QnY h1 hc ⟨by omega,he4⟩ (by omega),h3 e (by omega) he4]
theorem QnZ{ds:List (Int×Int)}{r x:Int}(hx:R5 x):∀{k:Nat},k≤5→Qs8 ds r x (QcN x k)=Qwn ds r x k
 | 0,_=>rfl
 | k+1,h=>by
  have ih:=QnZ (ds:=ds) (r:=r) hx (k:=k) (by omega)
  unfold Qs8 at *;rw[QcN,List.foldl_append,ih,Qwn];split
  ·rfl
  ·rename_i hh
   have:=(QfJ (ds:=ds) (r:=r) hx (k:=k) (by omega)).2.2 (k:Nat) (Int.le_refl _) (by omega)
   unfold QnX;rw[this];simp[hh]
theorem QiF{x:Int}:∀{k:Nat},(QcN x k).Nodup
 | 0=>by simp[QcN]
 | k+1=>by
  rw[QcN,List.nodup_append];refine⟨QiF,by split<;>simp,fun a ha b hb=>?_⟩
  have:=QdW a ha
  split at hb
  ·rw[List.mem_singleton]at hb;omega
  ·cases hb
theorem Qpj{ds:List (Int×Int)}{r x:Int}(hx:R5 x):∀{l:List Int},(∀c∈l,0≤c∧c≤4)→R5 (Qs8 ds r x l)∧∀e:Int,0≤e→e≤4→e∉l→Qy (Qs8 ds r x l) e=Qy x e:=by
 intro l;suffices H:∀(l:List Int) (y:Int),R5 y→(∀c∈l,0≤c∧c≤4)→R5 (l.foldl (QnX ds r) y)∧∀e:Int,0≤e→e≤4→e∉l→Qy (l.foldl (QnX ds r) y) e=Qy y e from H l x hx
 intro l;induction l with
 | nil=>intro y hy _;exact⟨hy,fun _ _ _ _=>rfl⟩
 | cons c l ih=>
  intro y hy hl;have hc:=hl c (by simp)
  obtain⟨i1,i2⟩:=ih (QnX ds r y c) (Qwm hy hc) fun c hc=>hl c (by simp[hc])
  refine⟨i1,fun e h0 h4 hm=>?_⟩
  rw[List.foldl_cons,i2 e h0 h4 (fun h=>hm (by simp[h])),QnY hy hc ⟨h0,h4⟩ (fun h=>hm (by simp[h]))]
def QpB(n:Int)(ds:List (Int×Int))(d:Int×Int):Int×Int:=if Qpz n ds d.1 d.2 then(Qwn ds d.2 d.1 5,d.2)else d
def QzL:Qb:=⟨[],false,fun
 | [.one (.v (.int .i64 n)),.one (.sl 2 l),.agg [.v (.int .i64 a),.v (.int .i64 b)]]=>some (WfD l∧ -9223372036854775808≤n∧n≤9223372036854775807,
   [⟨true,[.d (.v (.int .i64 (QpB n (unD l) (a,b)).1)),.d (.v (.int .i64 (QpB n (unD l) (a,b)).2))]⟩],[])
 | _=>none⟩
attribute [local go_sem] QzL
theorem Qys:Qa E0 172 QzL:=by
 refine QV (E:=E0) (T:=mkT Tryz.prog [(109,Qs3),(97,Qk9),(164,QhS)] false (fun _=>false) true (fun d=>d==24||d==29)) (Qf (E:=E0) (.cons QlX (.cons Qho (.cons Qji .nil)))) (fn:=Tryz.f172) Tryz.func172 (by kernel_rfl) rfl Qe (by kernel_rfl) rfl ?_
 intro args p rs ms hr;unfold QzL at hr;dsimp only at hr;split at hr;rotate_left
 ·cases hr
 rename_i n l a b;cases hr;refine⟨rfl,rfl,nLe rfl,?_⟩
 have hm:=mxE;rintro⟨h1,hn1,hn2⟩ bs;obtain⟨ds,rfl,hx⟩:=h1.ex;clear h1;rw[Qm];cases hv:Qpz n ds a b
 ·have e:QpB n ds (a,b)=(a,b):=by unfold QpB;rw[hv];rfl
  rw[e];clear e;(repeat' first|refine gA fun _=>?_|apply fkI<;>intro hb<;>try simp only[ew,hv]at hb|simp only[go_sem,simprocAttr, *,hv])
  all_goals first|rfl|exact⟨rfl,rfl⟩|skip
 ·have hv2:=hv
  simp only[Qpz,Bool.and_eq_true]at hv2
  have hd:=Qbg hv2.1.1
  obtain⟨⟨a1,a2⟩,b1,b2⟩:=QaL hv2.1.2;have ha:Qj 5 a=true:=by
   simp only[Qj,Bool.and_eq_true,Qh,Qd5]
   exact⟨⟨by decide,by decide⟩,a1,a2⟩
  have hm:mem a=QcN a 5:=by unfold mem;rw[ha];rfl
  have e:QpB n ds (a,b)=(Qs8 ds b a (mem a),b):=by unfold QpB;rw[hv,hm,QnZ ⟨a1,a2⟩ (by omega)];rfl
  rw[e];clear e hv2;have hr:∀c∈mem a,0≤c∧c≤4:=fun c hc=>by
   rw[hm]at hc;have:=QdW c hc
   omega
  have hnd:(mem a).Nodup:=by rw[hm];exact QiF
  have hhas:∀c∈mem a,Qy a c=true:=fun c hc=>by
   rw[hm]at hc;have:∀k:Nat,c∈QcN a k→Qy a c=true:=by
    intro k;induction k with
    | zero=>intro h;cases h
    | succ k ih=>
     intro h;rw[QcN]at h;rcases List.mem_append.1 h with h|h
     ·exact ih h
     ·split at h
      ·rename_i hh
       rw[List.mem_singleton]at h;rw[h];exact hh
      ·cases h
   exact this 5 hc
  have hl:=@QfC a
  clear ha hm;generalize hm:mem a=m at hr hnd hhas hl ⊢;have hN:=fun i=>@Qpj ds b a ⟨a1,a2⟩ (m.take i) fun c hc=>hr c (List.mem_of_mem_take hc)
  have hl2:m.length≤maxLen:=Nat.le_trans hl (by decide)
  (repeat' first|refine gA fun _=>?_|apply fkI<;>intro hb<;>try simp only[ew,hv,hm]at hb|simp only[go_sem,simprocAttr, *,hv])
  refine lpI {ι:=Nat,rs:=[(8,10),(21,37)],mods:=[(20,fun i=> .one (.d (.v (.int .i64 i))))],boxes:=[(5,fun i=>[.d (.v (.int .i64 (Qs8 ds b a (m.take i)))),.d (.v (.int .i64 b))]),(6,fun _=>[.d (.v (.int .i64 0)),.d (.v (.int .i64 0))])],arrs:=[(18,fun _=>(1,iL m,1))],ok:=fun i=>i≤m.length,mu:=fun i=>m.length-i} rfl 0 (Nat.zero_le _) ?_ fun i hi=>?_
  ·clear hN
   (repeat' first|refine gA fun _=>?_|apply fkI<;>intro hb<;>try simp only[ew,hm]at hb|simp only[go_sem,simprocAttr, *])
   all_goals first|rfl|skip
  ·dsimp only at i hi
   by_cases h5:i<m.length
   ·have hmem:=QI h5 0
    obtain⟨⟨y0,y31⟩,hb⟩:=hN i;have hk4:=hr _ hmem
    have hnot:m.getD i 0∉m.take i:=by
     intro h;obtain⟨j,hj,e⟩:=List.getElem_of_mem h;rw[List.getElem_take]at e;have hj2:j<i:=by rw[List.length_take]at hj;omega
     have e2:m.getD i 0=m[i]:=by simp[List.getD_eq_getElem?_getD,h5]
     rw[e2]at e;exact(List.pairwise_iff_getElem.1 hnd) j i (by omega) h5 hj2 e
    have hhb:=hb _ hk4.1 hk4.2 hnot
    rw[hhas _ hmem]at hhb;have e1:Qs8 ds b a (m.take (i+1))=QnX ds b (Qs8 ds b a (m.take i)) (m.getD i 0):=by unfold Qs8;rw[Qk h5 0,List.foldl_append];rfl
    generalize hy:Qs8 ds b a (m.take i)=y at y0 y31 e1 hhb;generalize hc:m.getD i 0=c at hk4 e1 hhb;obtain⟨c0,c4⟩:=hk4;have hp:=QBk ⟨c0,c4⟩
    obtain⟨z0,z1⟩:=Qg3 (x:=y) ⟨y0,y31⟩ ⟨c0,c4⟩;have ed:Qax .andNot .i64 y (1*2^c.toNat)=Qd6 y c:=rfl
    unfold QnX at e1;rw[hhb,Bool.true_and]at e1;clear hN hb hr hnd hhas hmem hnot hhb;cases hq:Qy (clo ds (Qd6 y c)) b
    ·rw[hq,if_neg (by decide)]at e1
     (repeat' first|refine gA fun _=>?_|apply fkI<;>intro hb<;>try simp only[ew,Qq,hy,hc,ed,hq]at hb|simp only[go_sem,simprocAttr, *,Qq,hq])
     refine lpN (i+1) (by dsimp only;omega) (by dsimp only;omega) ?_
     (repeat' first|refine gA fun _=>?_|apply fkI<;>intro hb<;>try simp only[ew,hy,e1]at hb|simp only[go_sem,simprocAttr, *])
    ·rw[hq,if_pos rfl]at e1
     (repeat' first|refine gA fun _=>?_|apply fkI<;>intro hb<;>try simp only[ew,Qq,hy,hc,ed,hq]at hb|simp only[go_sem,simprocAttr, *,Qq,hq])
     refine lpN (i+1) (by dsimp only;omega) (by dsimp only;omega) ?_
     (repeat' first|refine gA fun _=>?_|apply fkI<;>intro hb<;>try simp only[ew,hy,e1]at hb|simp only[go_sem,simprocAttr, *])
   ·have e5:i=m.length:=by omega
    subst e5;have e6:m.take m.length=m:=List.take_length
    clear hN hr hnd hhas;(repeat' first|refine gA fun _=>?_|apply fkI<;>intro hb<;>try simp only[ew,e6]at hb|simp only[go_sem,simprocAttr, *])
    all_goals first|rfl|exact⟨rfl,rfl⟩|skip
def wo(ds:List (Int×Int))(i:Nat):List (Int×Int):=ds.take i++ds.drop (i+1)
def cWo:Qb:=⟨[],false,fun
 | [.one (.sl 2 l),.one (.v (.int .i64 i))]=>some (WfD l∧l.length≤16777216∧0≤i∧i<l.length,[⟨false,[.own 2 (dL (wo (unD l) i.toNat)) 1]⟩],[])
 | _=>none⟩
attribute [local go_sem] cWo
theorem QA6:Qa E0 174 cWo:=by
 refine QV (E:=E0) (T:=mkT Tryz.prog [(108,Qc1)] false (fun _=>false) true (fun _=>false)) (Qf (E:=E0) (.cons QeH .nil)) (fn:=Tryz.f174) Tryz.func174 (by kernel_rfl) rfl Qe (by kernel_rfl) rfl ?_
 intro args p rs ms hr;unfold cWo at hr;dsimp only at hr;split at hr;rotate_left
 ·cases hr
 rename_i l i;cases hr;refine⟨rfl,rfl,nLe rfl,?_⟩
 have hm:=mxE;rintro⟨h1,h2,h3,h4⟩ bs;obtain⟨ds,rfl,hx⟩:=h1.ex;clear h1;rw[Qc]at h2 h4;rw[Qm];obtain⟨i,rfl⟩:=Int.eq_ofNat_of_zero_le h3;rw[Int.toNat_natCast];have h4':i<ds.length:=by omega
 have e:((i:Int)+1).toNat=i+1:=by omega
 have e2:ds.take i++ds.drop (i+1)=wo ds i:=rfl
 (repeat' first|refine gA fun _=>?_|apply fkI<;>intro hb<;>try simp only[ew,e,QqL,QqK,QvW,e2,List.take_length,List.length_drop]at hb|simp only[go_sem,simprocAttr, *,QqL,QqK,QvW,List.take_length,List.length_drop])
end Go.Own
