/- Own contracts. Conditions: as each theorem states them. -/
import Derived.Test.YtnmkpepdacbfaaaGreatDoorRr15
import Derived.Test.YtnmkpepdacbfaaaGreatDoorRr17
set_option linter.unusedSimpArgs false
set_option linter.unusedVariables false
set_option maxRecDepth 20000
set_option maxHeartbeats 2000000
namespace Go.Own
open Go Go.Proofs
attribute [local go_sem] Qs3 Qcf Qaj Tryz.results165 Tryz.results128
attribute [local go_sem] Qm Qc QZ Q1 Q0 Q3 QaH Qdb Qr QsO Qio QqJ Qm1 QAQ
def drL(n:Int)(ds:List (Int×Int))(l r:Int):List (Int×Int×Int):=if Qpz n ds l r then der ds r l else []
def QzH:Qb:=⟨[],false,fun
 | [.one (.v (.int .i64 n)),.one (.sl 2 l),.agg [.v (.int .i64 a),.v (.int .i64 b)]]=>some (WfD l∧ -9223372036854775808≤n∧n≤9223372036854775807,
   [⟨false,[.own 3 (d3L (drL n (unD l) a b)) 1]⟩,⟨false,[.d (.v (.bool (Qpz n (unD l) a b)))]⟩],[])
 | _=>none⟩
attribute [local go_sem] QzH
def Qv1(ds:List (Int×Int))(r:Int)(F:List (Int×Int×Int))(i:Nat)(x:Int)(acc:List (Int×Int×Int)):Prop:=i≤ds.length∧R5 x∧(∀j,j<i→QjY x (ds.getD j (0,0))=false)∧acc++der ds r x=F
theorem Qud{ds:List (Int×Int)}{r x:Int}{F acc:List (Int×Int×Int)}{i:Nat}(hd:∀d∈ds,Qbo d)(h:Qv1 ds r F i x acc)(h5:i<ds.length)(h0:Qy x r=false)(ha:QjY x (ds.getD i (0,0))=true):
  Qv1 ds r F 0 (QbI x (ds.getD i (0,0)).2) (acc++[((i:Int),x,QbI x (ds.getD i (0,0)).2)]):=by
 obtain⟨h1,h2,h3,h4⟩:=h;refine⟨Nat.zero_le _,(QdL hd h2 h5 ha).2,fun j hj=>absurd hj (Nat.not_lt_zero _),?_⟩
 rw[Quh hd h2 h0 (Qrf h5 ha h3)]at h4;rw[←h4];simp
theorem QqS{ds:List (Int×Int)}{r x:Int}{F acc:List (Int×Int×Int)}{i:Nat}(h:Qv1 ds r F i x acc)(h5:i<ds.length)(ha:QjY x (ds.getD i (0,0))=false):Qv1 ds r F (i+1) x acc:=by
 obtain⟨h1,h2,h3,h4⟩:=h;refine⟨h5,h2,fun j hj=>?_,h4⟩
 by_cases e:j=i
 ·subst e;exact ha
 ·exact h3 j (by omega)
theorem Que{ds:List (Int×Int)}{r x:Int}{F acc:List (Int×Int×Int)}{i:Nat}(h:Qv1 ds r F i x acc)(h0:Qy x r=true):acc=F:=by
 have:=h.2.2.2
 rw[Qxr h0,List.append_nil]at this;exact this
theorem QqR{ds:List (Int×Int)}{r x:Int}{F acc:List (Int×Int×Int)}(h:Qv1 ds r F ds.length x acc):acc=F:=by
 have:=h.2.2.2
 rw[Qug (Qre h.2.2.1),List.append_nil]at this;exact this
theorem Quf{ds:List (Int×Int)}{r x:Int}{F acc:List (Int×Int×Int)}{i:Nat}(h:Qv1 ds r F i x acc)(hF:F.length≤6):acc.length≤6:=by
 have:=congrArg List.length h.2.2.2
 rw[List.length_append]at this;omega
theorem Qxs{ds:List (Int×Int)}{r x:Int}(hd:∀d∈ds,Qbo d)(hx:R5 x):(der ds r x).length≤6:=(Qi9 hd hx).1
theorem QoN:Qa E0 165 QzH:=by
 refine QV (E:=E0) (T:=mkT Tryz.prog [(109,Qs3),(149,Qcf),(157,Qaj)] false (fun _=>false) true (fun _=>false)) (Qf (E:=E0) (.cons QlX (.cons Qb8 (.cons QaN .nil)))) (fn:=Tryz.f165) Tryz.func165 (by kernel_rfl) rfl Qe (by kernel_rfl) rfl ?_
 intro args p rs ms hr;unfold QzH at hr;dsimp only at hr;split at hr;rotate_left
 ·cases hr
 rename_i n l a b;cases hr;refine⟨rfl,rfl,nLe rfl,?_⟩
 have hm:=mxE;rintro⟨h1,hn1,hn2⟩ bs;obtain⟨ds,rfl,hx⟩:=h1.ex;clear h1;rw[Qm];unfold drL;cases hv:Qpz n ds a b
 ·(repeat' first|refine gA fun _=>?_|apply fkI<;>intro hb<;>try simp only[ew,hv]at hb|simp only[go_sem,simprocAttr, *,hv])
  all_goals first|rfl|exact⟨rfl,rfl⟩|skip
 ·have hv2:=hv
  simp only[Qpz,Bool.and_eq_true]at hv2
  have hd:=Qbg hv2.1.1
  obtain⟨⟨a1,a2⟩,b1,b2⟩:=QaL hv2.1.2;clear hv2;simp only[if_true]
  have hl:=Qxs (r:=b) hd ⟨a1,a2⟩
  (repeat' first|refine gA fun _=>?_|apply fkI<;>intro hb<;>try simp only[ew,hv]at hb|simp only[go_sem,simprocAttr, *,hv])
  clear hv;generalize hF:der ds b a=F at hl;refine lpI {ι:=Nat×Int×List (Int×Int×Int),rs:=[(11,12),(20,66)],mods:=[(10,fun i=> .one (.d (.v (.int .i64 i.1)))),(9,fun i=> .one (.d (.v (.int .i64 i.2.1)))),(8,fun i=> .one (.own 3 (d3L i.2.2) 1))],boxes:=[(5,fun _=>[.d (.v (.int .i64 a)),.d (.v (.int .i64 b))])],arrs:=[],ok:=fun i=>Qv1 ds b F i.1 i.2.1 i.2.2,mu:=fun i=>cmu ds.length i.1 i.2.1} rfl (0,a,[]) ⟨Nat.zero_le _,⟨a1,a2⟩,fun j hj=>absurd hj (Nat.not_lt_zero _),hF⟩ ?_ ?_
  ·exact gQ
  ·rintro⟨i,x,acc⟩ hi
   dsimp only at hi;have hi1:=hi.1
   obtain⟨x1,x2⟩:=hi.2.1;have hal:=Quf hi hl
   clear hF
   by_cases h5:i<ds.length
   ·cases h0:Qy x b
    ·obtain⟨⟨d1,d2⟩,d3,d4⟩:=QqQ hd h5
     have hs:=QBk ⟨d3,d4⟩
     cases ha:QjY x (ds.getD i (0,0))
     ·have hn:=QqS hi h5 ha
      have ha2:(Qal (ds.getD i (0,0)).1 x&& !Qy x (ds.getD i (0,0)).2)=false:=ha
      rw[Qa0]at ha2;clear hi ha hd hs hl;(repeat' first|refine gA fun _=>?_|apply fkI<;>intro hb<;>try simp only[ew,ha2,h0]at hb|simp only[go_sem,simprocAttr, *,h0])
      refine lpN (i+1,x,acc) hn (QmT h5) ?_
      clear hn;(repeat' first|refine gA fun _=>?_|apply fkI<;>intro hb<;>try simp only[ew,ha2]at hb|simp only[go_sem,simprocAttr, *])
     ·have hn:=Qud hd hi h5 h0 ha
      have hc:=(QdL hd ⟨x1,x2⟩ h5 ha).1
      have hb:=QvI ⟨x1,x2⟩ ⟨d3,d4⟩
      have ha2:(Qal (ds.getD i (0,0)).1 x&& !Qy x (ds.getD i (0,0)).2)=true:=ha
      rw[Qa0]at ha2;have e:Qax .or .i64 x (1*2^(ds.getD i (0,0)).2.toNat)=QbI x (ds.getD i (0,0)).2:=rfl
      clear hi ha hd hl;(repeat' first|refine gA fun _=>?_|apply fkI<;>intro hb<;>try simp only[ew,ha2,h0,e]at hb|simp only[go_sem,simprocAttr, *,h0])
      refine lpN (0,QbI x (ds.getD i (0,0)).2,acc++[((i:Int),x,QbI x (ds.getD i (0,0)).2)]) hn (Qqw hc h5) ?_
      clear hn hc;(repeat' first|refine gA fun _=>?_|apply fkI<;>intro hb<;>try simp only[ew,ha2,e]at hb|simp only[go_sem,simprocAttr, *])
      all_goals first|rfl|skip
    ·have e:=Que hi h0
     clear hi hd;subst e;(repeat' first|refine gA fun _=>?_|apply fkI<;>intro hb<;>try simp only[ew,h0]at hb|simp only[go_sem,simprocAttr, *,h0])
     all_goals first|rfl|exact⟨rfl,rfl⟩|skip
   ·have e5:i=ds.length:=by omega
    subst e5;have e:=QqR hi
    clear hi hd;subst e;(repeat' first|refine gA fun _=>?_|apply fkI<;>intro hb<;>try simp only[ew]at hb|simp only[go_sem,simprocAttr, *])
    all_goals first|rfl|exact⟨rfl,rfl⟩|skip
theorem Qrj{x r:Int}(hr:0≤r∧r≤4)(hx:R5 x):(Qax .and .i64 (x.fdiv (2^r.toNat)) 1==0)= !Qy x r:=by
 obtain⟨r,rfl⟩:=c5 hr;obtain⟨x,rfl⟩:=hx.fin;have:∀x:Fin 32,∀r:Fin 5,(Qax .and .i64 (((x.val:Nat):Int).fdiv (2^((r.val:Nat):Int).toNat)) 1==0)= !Qy ((x.val:Nat):Int) ((r.val:Nat):Int):=by decide+kernel
 exact this x r
end Go.Own

namespace Go.Own
open Go Go.Proofs
attribute [local go_sem] Qaj Tryz.results198 Tryz.results121 Qap Qak Qkh Qqf Tryz.results228
def QbQ:Qb:=⟨[],false,fun
 | [.one (.sl 1 l),.one (.v (.int .i64 x))]=>some (WfI l,[⟨false,[.d (.v (.bool (Qcz (unI l) x)))]⟩],[])
 | _=>none⟩
attribute [local go_sem] QbQ
theorem Qkc{α:Type}{xs:List α}{i:Nat}(h:i<xs.length)(d:α)(f:α→Bool):(xs.drop i).any f=(f (xs.getD i d)||(xs.drop (i+1)).any f):=by rw[QaX h d,List.any_cons]
theorem Qfy:Qa E0 198 QbQ:=by
 refine QV (E:=E0) (T:=mkT Tryz.prog [(157,Qaj)] false (fun _=>false) true (fun _=>false)) (Qf (E:=E0) (.cons QaN .nil)) (fn:=Tryz.f198) Tryz.func198 (by kernel_rfl) rfl Qe (by kernel_rfl) rfl ?_
 intro args p rs ms hr;unfold QbQ at hr;dsimp only at hr;split at hr;rotate_left
 ·cases hr
 rename_i l x;cases hr;refine⟨rfl,rfl,nLe rfl,?_⟩
 have hm:=mxE;intro h1 bs;obtain⟨xs,rfl,hx⟩:=h1.ex;clear h1;rw[Qay];unfold Qcz;(repeat' first|refine gA fun _=>?_|apply fkI<;>intro hb<;>try simp only[ew]at hb|simp only[go_sem,simprocAttr, *])
 refine lpI {ι:=Nat,rs:=[(4,5),(6,7),(10,17)],mods:=[(9,fun i=> .one (.d (.v (.int .i64 i))))],boxes:=[],arrs:=[],ok:=fun i=>i≤xs.length∧(xs.drop i).any (fun y=>Qal y x)=xs.any (fun y=>Qal y x),mu:=fun i=>xs.length-i} rfl 0 ⟨Nat.zero_le _,rfl⟩ ?_ fun i hi=>?_
 ·exact gQ
 ·dsimp only at i hi
  obtain⟨hi,ht⟩:=hi
  by_cases h5:i<xs.length
  ·rw[Qkc h5 0]at ht
   cases hq:Qal (xs.getD i 0) x
   ·rw[hq,Bool.false_or]at ht
    rw[Qa0]at hq;(repeat' first|refine gA fun _=>?_|apply fkI<;>intro hb<;>try simp only[ew,hq]at hb|simp only[go_sem,simprocAttr, *,hq])
    refine lpN (i+1) ⟨by omega,ht⟩ (by dsimp only;omega) ?_
    clear ht;(repeat' first|refine gA fun _=>?_|apply fkI<;>intro hb<;>try simp only[ew,hq]at hb|simp only[go_sem,simprocAttr, *,hq])
   ·rw[hq,Bool.true_or]at ht
    rw[←ht];rw[Qa0]at hq;clear ht;(repeat' first|refine gA fun _=>?_|apply fkI<;>intro hb<;>try simp only[ew,hq]at hb|simp only[go_sem,simprocAttr, *,hq])
  ·have e5:i=xs.length:=by omega
   subst e5;rw[List.drop_length,List.any_nil]at ht;rw[←ht];clear ht;exact gQ
attribute [local go_sem] Qm Qc QZ Q1 Q0 Q3 QaH Qdb Qr
def cPd:Qb:=⟨[],false,fun
 | [.one (.v (.int .i64 n)),.one (.sl 2 l),.one (.v (.int .i64 x))]=>some (WfD l∧ -9223372036854775808≤n∧n≤9223372036854775807,[⟨false,[.own 2 (dL (pdL n (unD l) x)) 1]⟩],[])
 | _=>none⟩
attribute [local go_sem] cPd
def pdI(p:Int→Int→Bool)(n:Int)(r:Nat)(i:Nat)(tk:List Int):Prop:=i≤(Q9 n).length∧(∀y∈tk,0≤y∧y≤31)∧tk.length≤i∧QiG p r tk ((Q9 n).drop i)=QiG p r [] (Q9 n)
theorem QkR{p:Int→Int→Bool}{n:Int}{r:Nat}:pdI p n r 0 []:=⟨Nat.zero_le _,by simp,Nat.le_refl _,rfl⟩
theorem QnU{p:Int→Int→Bool}{n:Int}{r i:Nat}{tk:List Int}(h:pdI p n r i tk)(h5:i<(Q9 n).length)(hc:(!Qy ((Q9 n).getD i 0) r&& !Qcz tk ((Q9 n).getD i 0)&&p ((Q9 n).getD i 0) r)=false):pdI p n r (i+1) tk:=by
 obtain⟨h1,h2,h3,h4⟩:=h;refine⟨h5,h2,by omega,?_⟩
 rw[QrK h5,hc,if_neg (by decide)]at h4
 exact h4
theorem QnV{p:Int→Int→Bool}{n:Int}{r i:Nat}{tk:List Int}(h:pdI p n r i tk)(h5:i<(Q9 n).length)(hc:(!Qy ((Q9 n).getD i 0) r&& !Qcz tk ((Q9 n).getD i 0)&&p ((Q9 n).getD i 0) r)=true):pdI p n r (i+1) (tk++[(Q9 n).getD i 0]):=by
 obtain⟨h1,h2,h3,h4⟩:=h;refine⟨h5,fun y hy=>?_,by rw[List.length_append];simp;omega,?_⟩
 ·rcases List.mem_append.1 hy with hy|hy
  ·exact h2 y hy
  ·rw[List.mem_singleton]at hy
   subst hy;exact(@QM n).2.2 i h5
 ·rw[QrK h5,hc,if_pos rfl]at h4
  exact h4
theorem Qyh{p:Int→Int→Bool}{n:Int}{r:Nat}{tk:List Int}(h:pdI p n r (Q9 n).length tk):tk.map (fun x=>(x,(r:Int)))=QrJ p n r:=by
 obtain⟨h1,h2,h3,h4⟩:=h;rw[List.drop_length,QiG]at h4;unfold QrJ;rw[←h4]
theorem QkI{p:Int→Int→Bool}{n:Int}{r:Nat}{tk:List Int}(h:pdI p n r (Q9 n).length tk):Qda p n r++tk.map (fun x=>(x,(r:Int)))=Qda p n (r+1):=by rw[Qyh h];rfl
theorem QmH{T:List (Int×Int)}{tk:List Int}{x r:Int}:T++(tk++[x]).map (fun x=>(x,r))=(T++tk.map fun x=>(x,r))++[(x,r)]:=by simp
theorem QpR{p:Int→Int→Bool}{n:Int}{r i:Nat}{tk:List Int}(hr:r<5)(h:pdI p n r i tk):(Qda p n r++tk.map fun x=>(x,(r:Int))).length≤256∧tk.length≤32:=by
 have h1:=@Qa6 p n r
 have h2:=(@QM n).1
 have h3:=h.1
 have h4:=h.2.2.1
 rw[List.length_append,List.length_map];omega
end Go.Own
