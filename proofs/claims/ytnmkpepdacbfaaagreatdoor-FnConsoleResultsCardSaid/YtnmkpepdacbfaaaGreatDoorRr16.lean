/-
  Rows to remove, the program's side; lines of witnesses. Conditions: as each theorem states them.
-/
import Derived.Test.YtnmkpepdacbfaaaGreatDoorRr14
import Derived.Test.YtnmkpepdacbfaaaGreatDoorRr15
set_option linter.unusedSimpArgs false
set_option linter.unusedVariables false
set_option maxRecDepth 20000
set_option maxHeartbeats 4000000
namespace Go.Own
open Go Go.Proofs
attribute [local go_sem] Qs Qcg Qak Qqg Tryz.results201 Qzg Qs1 QtF Tryz.results162
def QoA:Qb:=⟨[],false,fun
 | [.agg [.v (.int .i64 c),.sl 1 t],.one (.v (.int .i64 m)),.one (.v (.int .i64 set))]=>some (WfS t∧QC c (unS t)=true∧QJ m=true∧Qj c set=true,[⟨false,[.own 1 (sL (Qik c (unS t) m set)) 1]⟩],[])
 | _=>none⟩
attribute [local go_sem] QoA
theorem QnQ:Qa E0 201 QoA:=by
 refine QV (E:=E0) (T:=mkT Tryz.prog [(138,Qs),(139,Qcg),(154,Qak),(220,Qqg)] false (fun _=>false) true (fun _=>false)) (Qf (E:=E0) (.cons QaO (.cons QbV (.cons Qbv (.cons Qxf .nil))))) (fn:=Tryz.f201) Tryz.func201 (by kernel_rfl) rfl Qe (by kernel_rfl) rfl ?_
 intro args p rs ms hr;unfold QoA at hr;dsimp only at hr;split at hr;rotate_left
 ·cases hr
 rename_i c t m set;cases hr;refine⟨rfl,rfl,nLe rfl,?_⟩
 have hm:=mxE;rintro⟨h1,ht,hmo,hat⟩ bs;obtain⟨rs,rfl,hx,hy⟩:=h1.ex;clear h1;rw[QG]at ht ⊢;have hc:=QyS ht
 (repeat' first|refine gA fun _=>?_|apply fkI<;>intro hb<;>try simp only[ew,ht,hmo,hat]at hb|simp only[go_sem,simprocAttr, *,ht,hmo,hat])
 all_goals first|rfl|skip
theorem QuW{xs:List Int}(h:xs.Nodup){j k:Nat}(hj:j<xs.length)(hk:k<xs.length)(e:j≠k):xs.getD j 0≠xs.getD k 0:=by
 intro he;simp only[List.getD_eq_getElem?_getD,List.getElem?_eq_getElem hj,List.getElem?_eq_getElem hk,Option.getD_some]at he
 exact e ((List.getElem_inj h).1 he)
theorem Qyu:Qa E0 162 Qzg:=by
 refine QV (E:=E0) (T:=mkT Tryz.prog [(160,Qs1),(201,QoA),(191,QtF)] false (fun d=>d==25) true (fun d=>d==999)) (Qf (E:=E0) (.cons QmL (.cons QnQ (.cons Qq1 .nil)))) (fn:=Tryz.f162) Tryz.func162 (by kernel_rfl) rfl Qe (by kernel_rfl) rfl ?_
 intro args p rs ms hr;unfold Qzg at hr;dsimp only at hr;split at hr;rotate_left
 ·cases hr
 rename_i c t m l r;cases hr;refine⟨rfl,rfl,nLe rfl,?_⟩
 have hm:=mxE;rintro⟨h1,hc1,hc2⟩ bs;obtain⟨rs,rfl,hx,hy⟩:=h1.ex;clear h1;rw[QG];cases hask:Qbe c rs m l r
 ·have e:Qpk c rs m l r= -1:=by unfold Qpk;rw[hask,if_neg (by decide)]
  rw[e];clear e;(repeat' first|refine gA fun _=>?_|apply fkI<;>intro hb<;>try simp only[ew,hask]at hb|simp only[go_sem,simprocAttr, *,hask])
  all_goals first|rfl|skip
 ·have e:Qpk c rs m l r=QpC (Qzn rs m r) (Qik c rs m l) (Qik c rs m l).length:=by unfold Qpk;rw[hask,if_pos rfl]
  rw[e];clear e;have hask0:=hask
  unfold Qbe at hask0;simp only[Bool.and_eq_true]at hask0
  obtain⟨⟨ht,hmo⟩,hd⟩:=hask0;unfold Q2 at hd;simp only[Bool.and_eq_true,Qh]at hd
  obtain⟨⟨hn,hat⟩,r0,r1⟩:=hd;have hl5:=Qt hat
  have ht0:=ht
  obtain⟨C,rfl,c1,c5,h40,hlen⟩:=QR ht;obtain⟨f1,f2,f3⟩:=@Qkk (C:Nat) rs m l (by rw[Int.toNat_natCast];exact c5) ⟨hl5.2.2.1,hl5.2.2.2⟩
  obtain⟨r,rfl⟩:=Int.eq_ofNat_of_zero_le r0;have hE:∀x y:Int,eqc m ((rs.getD x.toNat []).getD r 0) ((rs.getD y.toNat []).getD r 0)=Qzn rs m (r:Nat) x y:=fun x y=>by
   unfold Qzn;rw[Int.toNat_natCast]
  have hrow:∀x:Int,0≤x→x<rs.length→r<(rs.getD x.toNat []).length∧(rs.getD x.toNat []).length≤maxLen:=fun x h1 h2=>by
   have:=hlen x.toNat (by omega)
   exact⟨by omega,Nat.le_trans (show _≤5 by omega) (by decide)⟩
  generalize hCS:Qik (C:Int) rs m l=cs at f1 f2 f3 ⊢;generalize hEE:Qzn rs m (r:Nat)=E at hE ⊢;have hrl:=fun k (hk:k≤cs.length)=>@Qmm E cs k hk
  have htt:∀k,Qk7 (cs.take k)≤40:=fun k=>by
   have:Qk7 (cs.take k)≤Qk7 cs:=by
    clear hrl f1 f2 f3 hCS;induction cs generalizing k with
    | nil=>simp
    | cons x xs ih=>cases k with
     | zero=>simp[Qk7]
     | succ k=>rw[List.take_succ_cons,Qk7,Qk7];have:=ih k;omega
   omega
  have c40:cs.length≤maxLen:=Nat.le_trans (show cs.length≤40 by omega) (by decide)
  clear hlen ht hn;(repeat' first|refine gA fun _=>?_|apply fkI<;>intro hb<;>try simp only[ew,hask,hCS]at hb|simp only[go_sem,simprocAttr, *,hask])
  refine lpI {ι:=Nat,rs:=[(9,11),(12,14),(15,16),(28,82)],mods:=[(27,fun i=> .one (.d (.v (.int .i64 i)))),(7,fun i=> .one (.d (.v (.int .i64 (QpC E cs i)))))],boxes:=[(3,fun _=>[.d (.v (.int .i64 C)),.d (.sl 1 (sL rs))]),(5,fun _=>[.d (.v (.int .i64 l)),.d (.v (.int .i64 (r:Nat)))])],arrs:=[],ok:=fun i=>i≤cs.length,mu:=fun i=>cs.length-i} rfl 0 (Nat.zero_le _) ?_ fun i hi=>?_
  ·have e1:QpC E cs 0=0:=rfl
   clear hE f3 hrl htt hrow;(repeat' first|refine gA fun _=>?_|apply fkI<;>intro hb<;>try simp only[ew,e1]at hb|simp only[go_sem,simprocAttr, *])
   all_goals first|rfl|skip
  ·dsimp only at i hi
   have r2:=hrl i hi
   have r3:=htt i
   clear hrl htt
   by_cases h5:i<cs.length
   ·obtain⟨g1,g2,g3⟩:=f3 i h5
    clear f3;have eS:QpC E cs i+(((cs.getD i []).length:Int)-Qge E (cs.getD i []) (cs.getD i []).length)=QpC E cs (i+1):=rfl
    have hml:=fun p (hp:p≤(cs.getD i []).length)=>@QjC E (cs.getD i []) p hp
    have hcl:=fun p q=>@QlG E (cs.getD i []) p q
    generalize hN:QpC E cs i=n0 at r2 eS;generalize hQ:cs.getD i []=Q at g1 g2 g3 eS hml hcl;have q40:Q.length≤40:=by omega
    have qml:Q.length≤maxLen:=Nat.le_trans q40 (by decide)
    (repeat' first|refine gA fun _=>?_|apply fkI<;>intro hb<;>try simp only[ew,hN,hQ]at hb|simp only[go_sem,simprocAttr, *])
    refine lpI {ι:=Nat,rs:=[(12,14),(15,16),(34,75)],mods:=[(33,fun k=> .one (.d (.v (.int .i64 k)))),(10,fun k=> .one (.d (.v (.int .i64 (Qge E Q k)))))],boxes:=[(3,fun _=>[.d (.v (.int .i64 C)),.d (.sl 1 (sL rs))]),(5,fun _=>[.d (.v (.int .i64 l)),.d (.v (.int .i64 (r:Nat)))])],arrs:=[],ok:=fun k=>k≤Q.length,mu:=fun k=>Q.length-k} rfl 0 (Nat.zero_le _) ?_ fun k hk=>?_
    ·have e1:Qge E Q 0=0:=rfl
     clear hE hml hcl hrow;(repeat' first|refine gA fun _=>?_|apply fkI<;>intro hb<;>try simp only[ew,e1]at hb|simp only[go_sem,simprocAttr, *])
     all_goals first|rfl|skip
    ·dsimp only at k hk
     have m2:=hml k hk
     clear hml
     by_cases h6:k<Q.length
     ·have eM:Qge E Q (k+1)=max (Qge E Q k) (QmU E Q k Q.length):=rfl
      have g4:=g3 k h6
      obtain⟨w1,w2⟩:=hrow _ g4.1 g4.2;have hclk:=fun q=>hcl k q
      clear hcl;generalize hM:Qge E Q k=m0 at m2 eM;generalize hx0:Q.getD k 0=x at g4 w1 w2;have xn:x.toNat<rs.length:=by omega
      (repeat' first|refine gA fun _=>?_|apply fkI<;>intro hb<;>try simp only[ew,hM,hQ,hx0]at hb|simp only[go_sem,simprocAttr, *])
      refine lpI {ι:=Nat,rs:=[(15,16),(40,71)],mods:=[(39,fun j=> .one (.d (.v (.int .i64 j)))),(13,fun j=> .one (.d (.v (.int .i64 (QmU E Q k j)))))],boxes:=[(3,fun _=>[.d (.v (.int .i64 C)),.d (.sl 1 (sL rs))]),(5,fun _=>[.d (.v (.int .i64 l)),.d (.v (.int .i64 (r:Nat)))])],arrs:=[],ok:=fun j=>j≤Q.length,mu:=fun j=>Q.length-j} rfl 0 (Nat.zero_le _) ?_ fun j hj=>?_
      ·have e1:QmU E Q k 0=1:=rfl
       clear hE hclk hrow;(repeat' first|refine gA fun _=>?_|apply fkI<;>intro hb<;>try simp only[ew,e1]at hb|simp only[go_sem,simprocAttr, *])
       all_goals first|rfl|skip
      ·dsimp only at j hj
       have m3:=hclk j
       clear hclk
       by_cases h7:j<Q.length
       ·have g5:=g3 j h7
        obtain⟨u1,u2⟩:=hrow _ g5.1 g5.2;have eC:QmU E Q k (j+1)=QmU E Q k j+(if(j !=k&&E (Q.getD k 0) (Q.getD j 0))then 1 else 0):=rfl
        have hEk:=hE (Q.getD k 0) (Q.getD j 0)
        have hne:=fun(e:k≠j)=>QuW g2 h6 h7 e
        rw[hx0]at eC hEk;clear hE hrow g3;generalize hc0:QmU E Q k j=n1 at m3 eC
        by_cases e:j=k
        ·have e1:(x !=Q.getD j 0)=false:=by rw[e,hx0];simp
         have e2:(j !=k)=false:=by rw[e];simp
         rw[e2,Bool.false_and,if_neg (by decide),Int.add_zero]at eC
         clear e2 e hne;generalize hy0:Q.getD j 0=y at g5 hEk u1 u2 e1;have yn:y.toNat<rs.length:=by omega
         (repeat' first|refine gA fun _=>?_|apply fkI<;>intro hb<;>try simp only[ew,hQ,hc0,hy0,e1]at hb|simp only[go_sem,simprocAttr, *])
         refine lpN (j+1) (by dsimp only;omega) (by dsimp only;omega) ?_
         (repeat' first|refine gA fun _=>?_|apply fkI<;>intro hb<;>try simp only[ew,eC]at hb|simp only[go_sem,simprocAttr, *])
         all_goals first|rfl|skip
        ·have e1:(x !=Q.getD j 0)=true:=by rw[bne_iff_ne,←hx0];exact hne (Ne.symm e)
         have e2:(j !=k)=true:=by rw[bne_iff_ne];exact e
         rw[e2,Bool.true_and]at eC;clear e2 e hne;generalize hy0:Q.getD j 0=y at g5 hEk eC u1 u2 e1;have yn:y.toNat<rs.length:=by omega
         cases hb:E x y
         ·rw[hb,if_neg (by decide),Int.add_zero]at eC
          rw[hb]at hEk;(repeat' first|refine gA fun _=>?_|apply fkI<;>intro hb<;>try simp only[ew,hQ,hc0,hy0,e1,hEk]at hb|simp only[go_sem,simprocAttr, *])
          refine lpN (j+1) (by dsimp only;omega) (by dsimp only;omega) ?_
          (repeat' first|refine gA fun _=>?_|apply fkI<;>intro hb<;>try simp only[ew,eC]at hb|simp only[go_sem,simprocAttr, *])
          all_goals first|rfl|skip
         ·rw[hb,if_pos rfl]at eC
          rw[hb]at hEk;(repeat' first|refine gA fun _=>?_|apply fkI<;>intro hb<;>try simp only[ew,hQ,hc0,hy0,e1,hEk]at hb|simp only[go_sem,simprocAttr, *])
          refine lpN (j+1) (by dsimp only;omega) (by dsimp only;omega) ?_
          (repeat' first|refine gA fun _=>?_|apply fkI<;>intro hb<;>try simp only[ew,eC]at hb|simp only[go_sem,simprocAttr, *])
          all_goals first|rfl|skip
       ·have e7:j=Q.length:=by omega
        subst e7;clear hE g3 hrow;(repeat' first|refine gA fun _=>?_|apply fkI<;>intro hb<;>try simp only[ew,hQ]at hb|simp only[go_sem,simprocAttr, *])
        refine lpN (k+1) (by dsimp only;omega) (by dsimp only;omega) ?_
        (repeat' first|refine gA fun _=>?_|apply fkI<;>intro hb<;>try simp only[ew,eM]at hb|simp only[go_sem,simprocAttr, *])
        all_goals first|rfl|skip
     ·have e6:k=Q.length:=by omega
      subst e6;clear hE hcl g3 hrow;(repeat' first|refine gA fun _=>?_|apply fkI<;>intro hb<;>try simp only[ew,hQ]at hb|simp only[go_sem,simprocAttr, *])
      refine lpN (i+1) (by dsimp only;omega) (by dsimp only;omega) ?_
      (repeat' first|refine gA fun _=>?_|apply fkI<;>intro hb<;>try simp only[ew,eS]at hb|simp only[go_sem,simprocAttr, *])
      all_goals first|rfl|skip
   ·have e5:i=cs.length:=by omega
    subst e5;clear hE f3 hrow;exact gQ
end Go.Own
