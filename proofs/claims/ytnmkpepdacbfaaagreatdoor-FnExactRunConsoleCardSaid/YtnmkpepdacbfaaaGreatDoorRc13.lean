/-
  How many rows to remove, the reference's side. Conditions: as each theorem states them.
-/
import Derived.Test.YtnmkpepdacbfaaaGreatDoorRc12
set_option linter.unusedSimpArgs false
set_option linter.unusedVariables false
set_option maxRecDepth 20000
set_option maxHeartbeats 4000000
namespace Go.Own
open Go Go.Proofs
attribute [local go_sem] Qdh Qhh QyL QqF Tryz.results125
def QuV(rs:List (List Int))(m r:Int)(x y:Int):Bool:=eqc m ((rs.getD x.toNat []).getD r.toNat 0) ((rs.getD y.toNat []).getD r.toNat 0)
def Qg5(c:Int)(rs:List (List Int))(m l:Int):List (List Int):=(ouK (sam c.toNat rs m l) rs.length rs.length).1
def Qj5(c:Int)(rs:List (List Int))(m l r:Int):Int:=if QaP c rs m l r then Qlf (QuV rs m r) (Qg5 c rs m l) (Qg5 c rs m l).length else -1
def QDP(N:Nat)(xs:List Int):Prop:=xs.length≤N∧xs.Nodup∧∀k,k<xs.length→0≤xs.getD k 0∧xs.getD k 0<N
theorem Qh4{c:Int}{rs:List (List Int)}{m l:Int}(hc:c.toNat≤5)(hl:R5 l):(Qg5 c rs m l).length≤rs.length∧QiW (Qg5 c rs m l)≤rs.length∧∀i,i<(Qg5 c rs m l).length→QDP rs.length ((Qg5 c rs m l).getD i []):=by
 have hS:=@Qog c.toNat rs m l hc hl
 unfold Qg5;refine⟨Qez,by rw[QpQ];exact QtY hS (Nat.le_refl _),fun i hi=>?_⟩
 obtain⟨j,hj,e⟩:=Qt0 (QP hi []);rw[e];have hk:(cl (sam c.toNat rs m l) rs.length j).length≤rs.length:=by
  unfold cl;have:=@Qkt (sam c.toNat rs m l) j (rs.length-(j+1))
  omega
 refine⟨hk,Qh3,fun k hk=>?_⟩
 have:=QP hk 0
 rw[QgK hj]at this;rcases this with h|⟨q,h1,h2,_,h4⟩
 ·omega
 ·omega
theorem Qt8{c:Int}{rs:List (List Int)}{m l r:Int}(h:QaP c rs m l r=true):0≤Qj5 c rs m l r∧Qj5 c rs m l r≤40:=by
 unfold Qj5;rw[h,if_pos rfl];unfold QaP at h;simp only[Bool.and_eq_true]at h
 have ht:=h.1.1
 have hd:=h.2
 unfold QJ at hd;simp only[Bool.and_eq_true]at hd
 have hl5:=Qp hd.1.2
 obtain⟨n,rfl,n1,n5,h40,_⟩:=QL ht;obtain⟨f1,f2,f3⟩:=@Qh4 (n:Nat) rs m l (by rw[Int.toNat_natCast];exact n5) ⟨hl5.2.2.1,hl5.2.2.2⟩
 have:=@Qlg (QuV rs m r) (Qg5 (n:Nat) rs m l) (Qg5 (n:Nat) rs m l).length (Nat.le_refl _)
 rw[List.take_length]at this;omega
def Qvv:Qb:=⟨[],false,fun
 | [.agg [.v (.int .i64 c),.sl 1 t],.one (.v (.int .i64 m)),.agg [.v (.int .i64 l),.v (.int .i64 r)]]=>some (WfS t∧ -9223372036854775808≤c∧c≤9223372036854775807,[⟨false,[.d (.v (.int .i64 (Qj5 c (unS t) m l r)))]⟩],[])
 | _=>none⟩
attribute [local go_sem] Qvv
theorem QAf:Qa E0 125 Qvv:=by
 refine QE (E:=E0) (T:=mkT Tryz.prog [(27,Qdh),(82,Qhh),(67,QyL),(79,QqF)] false (fun _=>false) true (fun _=>false)) (Qd (E:=E0) (.cons Qdn (.cons Qe2 (.cons Qsv (.cons Qmn .nil))))) (fn:=Tryz.f125) Tryz.func125 (by kernel_rfl) rfl Qc (by kernel_rfl) rfl ?_
 intro args p rs ms hr;unfold Qvv at hr;dsimp only at hr;split at hr;rotate_left
 ·cases hr
 rename_i c t m l r;cases hr;refine⟨rfl,rfl,nLe rfl,?_⟩
 have hm:=mxE;rintro⟨h1,hc1,hc2⟩ bs;obtain⟨rs,rfl,hx,hy⟩:=h1.ex;clear h1;rw[Qz];cases hask:QaP c rs m l r
 ·have e:Qj5 c rs m l r= -1:=by unfold Qj5;rw[hask,if_neg (by decide)]
  have e0:(!(QK c rs&&QH m)|| !QJ c l r)=true:=by
   unfold QaP at hask;rw[←Bool.not_and,hask];rfl
  rw[e];clear e hask;(repeat' first|refine gA fun _=>?_|apply fkI<;>intro hb<;>try simp only[ew,e0]at hb|simp only[go_sem,simprocAttr, *])
  all_goals first|rfl|skip
 ·have e:Qj5 c rs m l r=Qlf (QuV rs m r) (Qg5 c rs m l) (Qg5 c rs m l).length:=by unfold Qj5;rw[hask,if_pos rfl]
  rw[e];clear e;have hask0:=hask
  unfold QaP at hask0;simp only[Bool.and_eq_true]at hask0
  obtain⟨⟨ht,hmo⟩,hd⟩:=hask0;have hd0:=hd
  unfold QJ at hd;simp only[Bool.and_eq_true,Qi]at hd
  obtain⟨⟨hn,hat⟩,r0,r1⟩:=hd;have hl5:=Qp hat
  have e0:(!(QK c rs&&QH m)|| !QJ c l r)=false:=by rw[ht,hmo,hd0];rfl
  have ht0:=ht
  obtain⟨C,rfl,c1,c5,h40,hlen⟩:=QL ht;obtain⟨f1,f2,f3⟩:=@Qh4 (C:Nat) rs m l (by rw[Int.toNat_natCast];exact c5) ⟨hl5.2.2.1,hl5.2.2.2⟩
  obtain⟨r,rfl⟩:=Int.eq_ofNat_of_zero_le r0;have hE:∀x y:Int,(Q6 .and .i64 ((agL m (rs.getD x.toNat []) (rs.getD y.toNat []) C).fdiv (2^r)) 1==1)=QuV rs m (r:Nat) x y:=fun x y=>by
   have h:=(@Qnj m (rs.getD x.toNat []) (rs.getD y.toNat []) C c5).2 r (by omega)
   rw[decide_eq_true (show r<C by omega),Bool.true_and]at h
   unfold QuV;rw[Int.toNat_natCast,←h];unfold Qt;rw[Int.toNat_natCast]
  have ecl:(ouK (sam C rs m l) rs.length rs.length).1=Qg5 (C:Int) rs m l:=by unfold Qg5;rw[Int.toNat_natCast]
  generalize hCS:Qg5 (C:Int) rs m l=cs at f1 f2 f3 ecl ⊢;generalize hEE:QuV rs m (r:Nat)=E at hE ⊢;have hrl:=fun k (hk:k≤cs.length)=>@Qlg E cs k hk
  have htt:∀k,QiW (cs.take k)≤40:=fun k=>by
   have:QiW (cs.take k)≤QiW cs:=by
    clear hrl f1 f2 f3 ecl hCS;induction cs generalizing k with
    | nil=>simp
    | cons x xs ih=>cases k with
     | zero=>simp[QiW]
     | succ k=>rw[List.take_succ_cons,QiW,QiW];have:=ih k;omega
   omega
  have c40:cs.length≤maxLen:=Nat.le_trans (show cs.length≤40 by omega) (by decide)
  have crl:∀q∈cs,q.length≤maxLen:=fun q hq=>by
   obtain⟨i,hi,rfl⟩:=List.getElem_of_mem hq;have:=(f3 i hi).1
   simp only[List.getD_eq_getElem?_getD,List.getElem?_eq_getElem hi,Option.getD_some]at this
   exact Nat.le_trans (show _≤40 by omega) (by decide)
  clear hlen ht hn;(repeat' first|refine gA fun _=>?_|apply fkI<;>intro hb<;>try simp only[ew,e0,ecl]at hb|simp only[go_sem,simprocAttr, *])
  refine lpI {ι:=Nat,rs:=[(10,14),(30,95)],mods:=[(9,fun i=> .one (.d (.v (.int .i64 i)))),(7,fun i=> .one (.d (.v (.int .i64 (Qlf E cs i)))))],boxes:=[(3,fun _=>[.d (.v (.int .i64 C)),.d (.sl 1 (sL rs))]),(5,fun _=>[.d (.v (.int .i64 l)),.d (.v (.int .i64 (r:Nat)))])],arrs:=[(8,fun _=>(1,sL cs,2))],ok:=fun i=>i≤cs.length,mu:=fun i=>cs.length-i} rfl 0 (Nat.zero_le _) ?_ fun i hi=>?_
  ·have e1:Qlf E cs 0=0:=rfl
   clear hE f3 hrl htt;(repeat' first|refine gA fun _=>?_|apply fkI<;>intro hb<;>try simp only[ew,e1]at hb|simp only[go_sem,simprocAttr, *])
   all_goals first|rfl|skip
  ·dsimp only at i hi
   have r2:=hrl i hi
   have r3:=htt i
   clear hrl htt
   by_cases h5:i<cs.length
   ·obtain⟨g1,g2,g3⟩:=f3 i h5
    clear f3;have eS:∀z:Int,Qlf E cs i+((cs.getD i []).length:Int)-QdI E (cs.getD i []) (cs.getD i []).length=Qlf E cs (i+1):=fun _=>by rw[Qlf];omega
    have eS:=eS 0
    have hml:=fun p (hp:p≤(cs.getD i []).length)=>@Qhx E (cs.getD i []) p hp
    have hcl:=fun p q=>@Qku E (cs.getD i []) p q
    generalize hN:Qlf E cs i=n0 at r2 eS;generalize hQ:cs.getD i []=Q at g1 g2 g3 eS hml hcl;have q40:Q.length≤40:=by omega
    have qml:Q.length≤maxLen:=Nat.le_trans q40 (by decide)
    (repeat' first|refine gA fun _=>?_|apply fkI<;>intro hb<;>try simp only[ew,hN,hQ]at hb|simp only[go_sem,simprocAttr, *])
    refine lpI {ι:=Nat,rs:=[(12,14),(36,86)],mods:=[(11,fun k=> .one (.d (.v (.int .i64 k)))),(10,fun k=> .one (.d (.v (.int .i64 (QdI E Q k)))))],boxes:=[(3,fun _=>[.d (.v (.int .i64 C)),.d (.sl 1 (sL rs))]),(5,fun _=>[.d (.v (.int .i64 l)),.d (.v (.int .i64 (r:Nat)))])],arrs:=[(8,fun _=>(1,sL cs,2))],ok:=fun k=>k≤Q.length,mu:=fun k=>Q.length-k} rfl 0 (Nat.zero_le _) ?_ fun k hk=>?_
    ·have e1:QdI E Q 0=0:=rfl
     clear hE hml hcl;(repeat' first|refine gA fun _=>?_|apply fkI<;>intro hb<;>try simp only[ew,e1]at hb|simp only[go_sem,simprocAttr, *])
     all_goals first|rfl|skip
    ·dsimp only at k hk
     have m2:=hml k hk
     clear hml
     by_cases h6:k<Q.length
     ·have eM:QdI E Q (k+1)=max (QdI E Q k) (QjC E Q k Q.length):=rfl
      have g4:=g3 k h6
      have hclk:=fun q=>hcl k q
      clear hcl;generalize hM:QdI E Q k=m0 at m2 eM;(repeat' first|refine gA fun _=>?_|apply fkI<;>intro hb<;>try simp only[ew,hM,hQ]at hb|simp only[go_sem,simprocAttr, *])
      refine lpI {ι:=Nat,rs:=[(45,83)],mods:=[(13,fun j=> .one (.d (.v (.int .i64 j)))),(12,fun j=> .one (.d (.v (.int .i64 (QjC E Q k j)))))],boxes:=[(3,fun _=>[.d (.v (.int .i64 C)),.d (.sl 1 (sL rs))]),(5,fun _=>[.d (.v (.int .i64 l)),.d (.v (.int .i64 (r:Nat)))])],arrs:=[(8,fun _=>(1,sL cs,2))],ok:=fun j=>j≤Q.length,mu:=fun j=>Q.length-j} rfl 0 (Nat.zero_le _) ?_ fun j hj=>?_
      ·have e1:QjC E Q k 0=1:=rfl
       clear hE hclk;(repeat' first|refine gA fun _=>?_|apply fkI<;>intro hb<;>try simp only[ew,e1]at hb|simp only[go_sem,simprocAttr, *])
       all_goals first|rfl|skip
      ·dsimp only at j hj
       have m3:=hclk j
       clear hclk
       by_cases h7:j<Q.length
       ·have g5:=g3 j h7
        have eC:QjC E Q k (j+1)=QjC E Q k j+(if(j !=k&&E (Q.getD k 0) (Q.getD j 0))then 1 else 0):=rfl
        have hEk:=hE (Q.getD k 0) (Q.getD j 0)
        clear hE;generalize hc0:QjC E Q k j=n1 at m3 eC
        by_cases e:j=k
        ·have e1:(((j:Nat):Int)!=((k:Nat):Int))=false:=by rw[e];simp
         have e2:(j !=k)=false:=by rw[e];simp
         rw[e2,Bool.false_and,if_neg (by decide),Int.add_zero]at eC
         clear e2 e;generalize hx0:Q.getD k 0=x at g4 g5 hEk;generalize hy0:Q.getD j 0=y at g5 hEk;(repeat' first|refine gA fun _=>?_|apply fkI<;>intro hb<;>try simp only[ew,hQ,hc0,e1,hx0,hy0,hEk,Qj]at hb|simp only[go_sem,simprocAttr, *,Qj])
         all_goals (try (refine lpN (j+1) (by dsimp only;omega) (by dsimp only;omega) ?_))
         all_goals
          (repeat' first|refine gA fun _=>?_|apply fkI<;>intro hb<;>try simp only[ew,eC]at hb|simp only[go_sem,simprocAttr, *])
         all_goals first|rfl|skip
        ·have e1:(((j:Nat):Int)!=((k:Nat):Int))=true:=by rw[bne_iff_ne];omega
         have e2:(j !=k)=true:=by rw[bne_iff_ne];exact e
         rw[e2,Bool.true_and]at eC;clear e2 e;generalize hx0:Q.getD k 0=x at g4 hEk eC;generalize hy0:Q.getD j 0=y at g5 hEk eC;cases hb:E x y
         ·rw[hb,if_neg (by decide),Int.add_zero]at eC
          rw[hb]at hEk;(repeat' first|refine gA fun _=>?_|apply fkI<;>intro hb<;>try simp only[ew,hQ,hc0,e1,hx0,hy0,hEk,Qj]at hb|simp only[go_sem,simprocAttr, *,Qj])
          refine lpN (j+1) (by dsimp only;omega) (by dsimp only;omega) ?_
          (repeat' first|refine gA fun _=>?_|apply fkI<;>intro hb<;>try simp only[ew,eC]at hb|simp only[go_sem,simprocAttr, *])
          all_goals first|rfl|skip
         ·rw[hb,if_pos rfl]at eC
          rw[hb]at hEk;(repeat' first|refine gA fun _=>?_|apply fkI<;>intro hb<;>try simp only[ew,hQ,hc0,e1,hx0,hy0,hEk,Qj]at hb|simp only[go_sem,simprocAttr, *,Qj])
          refine lpN (j+1) (by dsimp only;omega) (by dsimp only;omega) ?_
          (repeat' first|refine gA fun _=>?_|apply fkI<;>intro hb<;>try simp only[ew,eC]at hb|simp only[go_sem,simprocAttr, *])
          all_goals first|rfl|skip
       ·have e7:j=Q.length:=by omega
        subst e7;clear hE g3;(repeat' first|refine gA fun _=>?_|apply fkI<;>intro hb<;>try simp only[ew,hQ]at hb|simp only[go_sem,simprocAttr, *])
        refine lpN (k+1) (by dsimp only;omega) (by dsimp only;omega) ?_
        (repeat' first|refine gA fun _=>?_|apply fkI<;>intro hb<;>try simp only[ew,eM]at hb|simp only[go_sem,simprocAttr, *])
        all_goals first|rfl|skip
     ·have e6:k=Q.length:=by omega
      subst e6;clear hE hcl g3;(repeat' first|refine gA fun _=>?_|apply fkI<;>intro hb<;>try simp only[ew,hQ]at hb|simp only[go_sem,simprocAttr, *])
      refine lpN (i+1) (by dsimp only;omega) (by dsimp only;omega) ?_
      (repeat' first|refine gA fun _=>?_|apply fkI<;>intro hb<;>try simp only[ew,eS]at hb|simp only[go_sem,simprocAttr, *])
      all_goals first|rfl|skip
   ·have e5:i=cs.length:=by omega
    subst e5;clear hE f3;exact gQ
end Go.Own
