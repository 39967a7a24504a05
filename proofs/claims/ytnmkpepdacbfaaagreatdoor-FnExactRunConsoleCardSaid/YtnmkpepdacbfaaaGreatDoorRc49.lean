/-
  The reference's console: a line, and a script. Conditions: as each theorem states them.
-/
import Derived.Test.YtnmkpepdacbfaaaGreatDoorRc47
import Derived.Test.YtnmkpepdacbfaaaGreatDoorRc48
set_option linter.unusedSimpArgs false
set_option linter.unusedVariables false
set_option maxRecDepth 20000
set_option maxHeartbeats 4000000
namespace Go.Own
open Go Go.Proofs
attribute [local go_sem] QlO Qsj QgI Qsm QqE QlP QrB cPA QqD Qlu Qvy cPD Qsf Qsk Tryz.results19 cRC Tryz.results6
attribute [local go_sem] QDC cOr QsB Qc1 Qc2 QbP QfC QdY QdZ QjP Qz Qh Qe Qaa Qac Qab Qaf QaX QdJ Qu Qbh QC Qbs Qct QfX QgX QgW Qee
theorem u32:UInt8.ofNat (Int.toNat 32)=32:=rfl
theorem QeG:UInt8.ofNat 32=32:=rfl
theorem u10:UInt8.ofNat (Int.toNat 10)=10:=rfl
theorem QCC:UInt8.ofNat 10=10:=rfl
def QoE:Qb:=⟨[true],false,fun
 | [.mbx [.inl (.v (.int .i64 c)),.inl (.sl 1 l),.inl (.v (.int .i64 m)),.inl (.sl 2 q),.inl (.v (.bool h)),.inr (2,g,_)],.one (.v (.string s))]=>some ((WfS l∧WfD q∧WfD g)∧QcY ⟨c,unS l,m,unD q,unD g⟩∧h=(!(c==0))∧s.size≤1073741824,[⟨false,[.d (.v (.string (QgV ⟨c,unS l,m,unD q,unD g⟩ (Qbm 32 s)).2))]⟩],
   [.mbx [.inl (.v (.int .i64 (QgV ⟨c,unS l,m,unD q,unD g⟩ (Qbm 32 s)).1.c)),.inl (.sl 1 (sL (QgV ⟨c,unS l,m,unD q,unD g⟩ (Qbm 32 s)).1.rs)),.inl (.v (.int .i64 (QgV ⟨c,unS l,m,unD q,unD g⟩ (Qbm 32 s)).1.m)),.inl (.sl 2 (dL (QgV ⟨c,unS l,m,unD q,unD g⟩ (Qbm 32 s)).1.ds)),.inl (.v (.bool (!((QgV ⟨c,unS l,m,unD q,unD g⟩ (Qbm 32 s)).1.c==0)))),.inr (2,dL (QgV ⟨c,unS l,m,unD q,unD g⟩ (Qbm 32 s)).1.gv,1)]])
 | _=>none⟩
attribute [local go_sem] QoE
theorem Qxj{σ:Con}{s:ByteArray}(h:(Qbm 32 s).length≠1):QlA σ s=(σ,QmM):=by
 have hn:∀k:ByteArray,32∉k.data.toList→isW s k=false:=fun k hk=>by
  rw[Qtl];refine decide_eq_false fun e=>h ?_
  unfold Qbm;rw[List.length_map,Qhl (by rw[e];exact hk)]
  rfl
 unfold QlA;rw[hn QzF (by decide),hn QzG (by decide),hn Qto (by decide),hn QzH (by decide),hn QwD (by decide),hn Qpq (by decide),hn QjU (by decide),hn Qgs (by decide)]
 rfl
theorem Qy3{s:ByteArray}(h:(Qbm 32 s).length=1):(Qbm 32 s).getD 0 ⟨#[]⟩=s:=by
 unfold Qbm at h ⊢;rw[List.length_map]at h;rcases @Qia 32 s.data.toList with⟨a,b,_,_,h3,_⟩|⟨_,h2,_⟩
 ·rw[h3]at h
  have:=@Qdm 32 b
  cases hc:QeI 32 b with
  | nil=>exact absurd hc this
  | cons=>rw[hc]at h;simp at h
 ·rw[h2];rfl
section
attribute[local go_sem]u32 QeG QbW QaU cnt
theorem QwH:Qa E0 19 QoE:=by
 refine Qbl (E:=E0) (T:=mkT Tryz.prog [(18,QlO),(38,Qsj),(39,QgI),(41,Qsm),(40,QqE),(42,QlP),(43,QrB),(44,cPA),(45,QqD),(47,Qlu),(46,Qvy),(48,cPD),(49,Qsf),(50,Qsk)] false (fun d=>d==45||d==81||d==82||d==106||d==145||d==150) false (fun d=>d==996)) (Qd (E:=E0) (.cons Qtq (.cons QzQ (.cons QtO (.cons QAh (.cons Qtg (.cons Qv9 (.cons QsO (.cons Qx2 (.cons Qny (.cons Qn1 (.cons QAJ (.cons Qz3 (.cons Qzb (.cons QzR .nil))))))))))))))) rfl (fn:=Tryz.f19) Tryz.func19 (by kernel_rfl) rfl Qc (by kernel_rfl) rfl rfl (nLe rfl) ?_
 intro args p rs ms hr;unfold QoE at hr;dsimp only at hr;split at hr;rotate_left
 ·cases hr
 rename_i c l m q h g dp s;cases hr;refine⟨_,_,_,rfl,rfl,rfl,⟨rfl,rfl⟩,nLe rfl,?_⟩
 have hm:=mxE;rintro⟨⟨h1,h2,h3⟩,hc,hh,hsz0⟩ bs;obtain⟨rs,rfl,hx,hy⟩:=h1.ex;obtain⟨ds,rfl,hd⟩:=h2.ex;obtain⟨gv,rfl,hg⟩:=h3.ex;clear h1 h2 h3;rw[Qz,Qh,Qh]at hc ⊢;obtain⟨⟨c0,c5⟩,r40,r5,d160,g20⟩:=Qbz hc;dsimp only at c0 c5 r40 r5 d160 g20;have r6:∀r∈rs,r.length≤16777216:=fun r hr=>Nat.le_trans (r5 r hr) (by decide)
 clear r5;have l0:=@Qkx 32 s
 have l1:=@Qhm 32 s
 have hs:∀w∈Qbm 32 s,w.size≤1073741824:=fun w hw=>Nat.le_trans (Qky w hw) hsz0
 have hone:=@Qy3 s
 have hwhat:=@Qxj ⟨c,rs,m,ds,gv⟩ s
 generalize hC:Qbm 32 s=ws at l0 l1 hs hone hwhat;have hwm:ws.length≤maxLen:=Nat.le_trans (show _≤1073741825 by omega) (by decide)
 have hw2:ws.length≤2147483648:=by omega
 clear l1;have hsz:=fun i=>Qd0 hs i
 have n3:=@Qil ws.length 3
 have n4:=@Qil ws.length 4
 have n2:=@Qil ws.length 2
 have n0:=@QxQ ws.length 1
 have z0:=hsz 0
 have z1:=hsz 1
 have z2:=hsz 2
 have z3:=hsz 3
 clear hsz;generalize hZ:QgV ⟨c,rs,m,ds,gv⟩ ws=Z;unfold QgV at hZ;dsimp only at hZ;generalize hW0:ws.getD 0 ⟨#[]⟩=w0 at hZ z0 hone;generalize hW1:ws.getD 1 ⟨#[]⟩=w1 at hZ z1;generalize hW2:ws.getD 2 ⟨#[]⟩=w2 at hZ z2;generalize hW3:ws.getD 3 ⟨#[]⟩=w3 at hZ z3;split at hZ
 ·rename_i k1
  rw[Bool.and_eq_true,beq_iff_eq]at k1;obtain⟨k1,k2⟩:=k1;have a3:(((ws.length:Nat):Int)==3)=true:=n3.trans (by rw[k2];rfl)
  have i1:1<ws.length:=by omega
  have i2:2<ws.length:=by omega
  have i3:(1:Int)<((ws.length:Nat):Int):=by omega
  clear n0 n2 n3 n4 k2 hc hone hwhat;unfold Qxs at hZ;(try dsimp only at hZ)
  have hl3: -9223372036854775808≤l3V w1∧l3V w1≤9223372036854775807:=by
   have:=@Qut w1.data.toList
   unfold l3V;split
   ·decide
   ·split
    ·decide
    ·omega
  cases p1:isW w2 Qpp
  ·cases p2:isW w2 Qmk
   ·have hm:Qn5 w2= -1:=by unfold Qn5;rw[p1,p2];rfl
    rw[hm]at hZ;cases hn:nmB (l3V w1) [] (-1)
    ·rw[hn,if_neg (by decide)]at hZ
     subst hZ;exact gQ
    ·rw[Qfa]at hn
     simp[QH]at hn
   ·have hm:Qn5 w2=0:=by unfold Qn5;rw[p1,p2];rfl
    rw[hm]at hZ;cases hn:nmB (l3V w1) [] 0
    ·rw[hn,if_neg (by decide)]at hZ
     subst hZ;exact gQ
    ·have hc0:(l3V w1==0)=false:=by
      rw[Qfa,Bool.and_eq_true,Qi]at hn;exact beq_eq_false_iff_ne.2 (by omega)
     obtain⟨e2,e3,e4⟩:=QpL hn;rw[hn,if_pos rfl]at hZ;subst hZ;exact gQ
  ·have hm:Qn5 w2=1:=by unfold Qn5;rw[p1];rfl
   have p2:=Qd3 p1 (b:=Qmk) (by decide)
   rw[hm]at hZ;cases hn:nmB (l3V w1) [] 1
   ·rw[hn,if_neg (by decide)]at hZ
    subst hZ;exact gQ
   ·have hc0:(l3V w1==0)=false:=by
     rw[Qfa,Bool.and_eq_true,Qi]at hn;exact beq_eq_false_iff_ne.2 (by omega)
    obtain⟨e2,e3,e4⟩:=QpL hn;rw[hn,if_pos rfl]at hZ;subst hZ;exact gQ
 rename_i k1;rw[Bool.not_eq_true]at k1;have a1:((((ws.length:Nat):Int)==3)&&isW w0 Qht)=false:=by rw[show(((ws.length:Nat):Int)==3)=(ws.length==3)from n3,Bool.and_comm];exact k1
 clear k1 n3;split at hZ
 ·rename_i k2
  rw[k2]at hh;subst hZ;clear n0 n2 n4 hc hone hwhat;exact gQ
 rename_i k2;rw[Bool.not_eq_true]at k2;rw[k2]at hh;split at hZ
 ·rename_i k3
  rw[Bool.and_eq_true,decide_eq_true_eq]at k3;obtain⟨k3,k4⟩:=k3;have a2:decide (((ws.length:Nat):Int)>1)=true:=n0.trans (decide_eq_true k4)
  have i1:1≤ws.length:=by omega
  have hl2:((ws.drop 1).map l3V).length≤maxLen:=by rw[List.length_map,List.length_drop];omega
  clear n0 n2 n4 k4 hone hwhat hc;unfold QuW at hZ;dsimp only at hZ;generalize hV:(ws.drop 1).map l3V=V at hZ hl2;cases hv:Qip c rs m ds V
  ·rw[hv,if_neg (by decide)]at hZ
   subst hZ;have q0:=@QlC;exact gQ
  ·rw[hv,if_pos rfl]at hZ
   subst hZ;have q0:=@QlC;exact gQ
 rename_i k3;rw[Bool.not_eq_true]at k3;have a2:(decide (((ws.length:Nat):Int)>1)&&isW w0 QAZ)=false:=by rw[show decide (((ws.length:Nat):Int)>1)=decide (ws.length>1)from n0,Bool.and_comm];exact k3
 clear k3 n0;split at hZ
 ·rename_i k4
  rw[Bool.and_eq_true,beq_iff_eq]at k4;obtain⟨k4,k5⟩:=k4;have a3:(((ws.length:Nat):Int)==4)=true:=n4.trans (by rw[k5];rfl)
  have a4:(((ws.length:Nat):Int)==2)=false:=n2.trans (by rw[k5];rfl)
  have i1:1<ws.length:=by omega
  have i2:2<ws.length:=by omega
  have i3:3<ws.length:=by omega
  have j1:(1:Int)<((ws.length:Nat):Int):=by omega
  have j3:(3:Int)<((ws.length:Nat):Int):=by omega
  have hl:=@Qd8 (paF w2).1
  have k0:=Qd3 k4 (b:=QAZ) (by decide)
  clear n2 n4 k5 hone hwhat hc a2;cases p1:(paF w2).2
  ·rw[QoH (by rw[p1];rfl)]at hZ
   subst hZ;exact gQ
  ·by_cases p3:((mem (paF w2).1).length:Int)=1
   ·have p3':(((mem (paF w2).1).length:Int)!=1)=false:=by rw[p3];rfl
    have hok:((paF w2).2&&decide (((mem (paF w2).1).length:Int)=1))=true:=by rw[p1,decide_eq_true p3];rfl
    have j0:0<(mem (paF w2).1).length:=by omega
    have hg0:=QkN j0
    unfold QrD at hZ;rw[hok,if_pos rfl]at hZ;dsimp only at hZ;generalize (mem (paF w2).1).getD 0 0=k at hZ hg0;clear hok;cases hv:Qm1 c rs m ds (l3V w1) k (l3V w3)
    ·rw[hv,if_neg (by decide)]at hZ
     subst hZ;have q1:=@QlC;exact gQ
    ·rw[hv,if_pos rfl]at hZ
     subst hZ;have q1:=@QlC;exact gQ
   ·have p3':(((mem (paF w2).1).length:Int)!=1)=true:=by rw[bne_iff_ne];exact p3
    rw[QoH (by rw[decide_eq_false p3];simp)]at hZ
    subst hZ;exact gQ
 rename_i k4;rw[Bool.not_eq_true]at k4;have a3:((((ws.length:Nat):Int)==4)&&isW w0 QwB)=false:=by rw[show(((ws.length:Nat):Int)==4)=(ws.length==4)from n4,Bool.and_comm];exact k4
 clear k4 n4;split at hZ
 ·rename_i k5
  rw[Bool.and_eq_true,beq_iff_eq]at k5;obtain⟨k5,k6⟩:=k5;have a4:(((ws.length:Nat):Int)==2)=true:=n2.trans (by rw[k6];rfl)
  have i1:1<ws.length:=by omega
  have j1:(1:Int)<((ws.length:Nat):Int):=by omega
  have k0:=Qd3 k5 (b:=QAZ) (by decide)
  clear n2 k6 hone hwhat hc a2;unfold QxK at hZ;dsimp only at hZ;cases hv:Qg9 c rs m ds (l3V w1)
  ·rw[hv,if_neg (by decide)]at hZ
   subst hZ;have q0:=@QlC;exact gQ
  ·rw[hv,if_pos rfl]at hZ
   subst hZ;have q0:=@QlC;exact gQ
 rename_i k5;rw[Bool.not_eq_true]at k5;have a4:((((ws.length:Nat):Int)==2)&&isW w0 QwC)=false:=by rw[show(((ws.length:Nat):Int)==2)=(ws.length==2)from n2,Bool.and_comm];exact k5
 clear k5;split at hZ
 ·rename_i k6
  have a5:(((ws.length:Nat):Int)==2)=true:=n2.trans k6
  rw[a5,Bool.true_and]at a4;rw[beq_iff_eq]at k6;have i1:1<ws.length:=by omega
  have ht:=hwhat (by omega)
  clear n2 k6 hone hwhat;cases q1:(pdF c w1).2
  ·rw[q1,if_neg (by decide)]at hZ
   subst hZ;exact gQ
  ·rw[q1,if_pos rfl]at hZ
   have eA:(Qm4 ⟨c,rs,m,ds,gv⟩ w0 (pdF c w1).1).1.c=c∧(Qm4 ⟨c,rs,m,ds,gv⟩ w0 (pdF c w1).1).1.rs=rs∧(Qm4 ⟨c,rs,m,ds,gv⟩ w0 (pdF c w1).1).1.m=m∧(Qm4 ⟨c,rs,m,ds,gv⟩ w0 (pdF c w1).1).1.ds=ds:=by
    unfold Qm4;repeat' split
    all_goals exact⟨rfl,rfl,rfl,rfl⟩
   obtain⟨e1,e2,e3,e4⟩:=eA;generalize hA:Qm4 ⟨c,rs,m,ds,gv⟩ w0 (pdF c w1).1=A at hZ e1 e2 e3 e4;subst hZ;clear ht;exact gQ
 rename_i k6;rw[Bool.not_eq_true]at k6;have a5:(((ws.length:Nat):Int)==2)=false:=n2.trans k6
 clear n2 k6 a4;have hT:QlA ⟨c,rs,m,ds,gv⟩ s=Z:=by
  by_cases h7:ws.length=1
  ·rw[if_pos (by rw[h7];rfl),hone h7]at hZ
   exact hZ
  ·rw[if_neg (by rw[beq_iff_eq];exact h7)]at hZ
   exact(hwhat h7).trans hZ
 have eA:(QlA ⟨c,rs,m,ds,gv⟩ s).1.c=c∧(QlA ⟨c,rs,m,ds,gv⟩ s).1.rs=rs∧(QlA ⟨c,rs,m,ds,gv⟩ s).1.m=m∧(QlA ⟨c,rs,m,ds,gv⟩ s).1.ds=ds:=by
  unfold QlA;repeat' split
  all_goals exact⟨rfl,rfl,rfl,rfl⟩
 rw[hT]at eA;obtain⟨e1,e2,e3,e4⟩:=eA;clear hZ hone hwhat;exact gQ
end
theorem QB6:Qa E0 6 cRC:=by
  refine QE (E:=E0) (T:=mkT Tryz.prog [(18,QlO),(19,QoE)] false (fun d=>d==11) true (fun _=>false)) (Qd (E:=E0) (.cons Qtq (.cons QwH .nil))) (fn:=Tryz.f6) Tryz.func6 (by kernel_rfl) rfl Qc (by kernel_rfl) rfl ?_
  intro args p rs ms hr;unfold cRC at hr;dsimp only at hr;split at hr;rotate_left
  · cases hr
  rename_i s;cases hr;refine⟨rfl,rfl,nLe rfl,?_⟩
  have hm:=mxE;intro h1 bs;have l0:=@Qkx 10 s
  have l1:=@Qhm 10 s
  have l2:=@Qky 10 s
  have eZ:rcF s=if(decide (s.size>3000)||decide ((Qis (Qbm 10 s)).length>60))=true then⟨#[]⟩else(QZ Qge (Qis (Qbm 10 s))).2:=rfl
  have hlc:=Qit l0
  generalize hC:Qbm 10 s=C at l0 l1 l2 eZ hlc;generalize hZ:rcF s=Z at eZ;generalize hL:Qis C=L at eZ hlc;clear hL;have hm1:C.length≤maxLen:=Nat.le_trans (show _≤1073741825 by omega) (by decide)
  have iz:C.length-1<C.length:=by omega
  have hi0:(((C.length:Nat):Int)-1)=((C.length-1:Nat):Int):=by omega
  have hLs:(∀w∈L,w.size≤1073741824)∧L.length≤maxLen:=by
    rcases hlc with⟨_,e⟩|⟨_,e⟩<;>rw[e]
    · exact⟨fun w hw=>Nat.le_trans (l2 w (List.mem_of_mem_take hw)) h1,by rw[List.length_take];omega⟩
    · exact⟨fun w hw=>Nat.le_trans (l2 w hw) h1,hm1⟩
  obtain⟨hLs,hLm⟩:=hLs;have hgs:=fun i=>Qd0 hLs i
  clear l1 l2 hLs
  by_cases hs3:s.size>3000
  · have hs4:decide (((s.size:Nat):Int)>3000)=true:=decide_eq_true (by omega)
    rw[decide_eq_true hs3,Bool.true_or,if_pos rfl]at eZ;subst eZ;clear hgs hlc hs3;exact gQ
  have hs4:decide (((s.size:Nat):Int)>3000)=false:=decide_eq_false (by omega)
  rw[decide_eq_false hs3,Bool.false_or]at eZ;clear hs3;generalize hD:C.getD (C.length-1) ⟨#[]⟩=D0 at hlc;rcases hlc with⟨q1,e⟩|⟨q1,e⟩
  all_goals
    first
    | (have e2:L=C:=e
       clear e;subst e2)
    | replace e:=e.symm
    by_cases h60:L.length>60
    · have hq:decide (((L.length:Nat):Int)>60)=true:=decide_eq_true (by omega)
      rw[decide_eq_true h60,if_pos rfl]at eZ;subst eZ;clear hgs h60;(repeat' first|refine gA fun _=>?_|apply fkI<;>intro hb<;>try simp only[ew,u10,QCC,hC,hi0,hD,Qef,Int.toNat_natCast,List.drop_zero]at hb|simp only[go_sem,simprocAttr, *,u10,QCC,hC,hi0,hD,Qef,Int.toNat_natCast,List.drop_zero])
      all_goals first|rfl|skip
    · have hq:decide (((L.length:Nat):Int)>60)=false:=decide_eq_false (by omega)
      rw[decide_eq_false h60,if_neg (by decide)]at eZ
      (repeat' first|refine gA fun _=>?_|apply fkI<;>intro hb<;>try simp only[ew,u10,QCC,hC,hi0,hD,Qef,Int.toNat_natCast,List.drop_zero]at hb|simp only[go_sem,simprocAttr, *,u10,QCC,hC,hi0,hD,Qef,Int.toNat_natCast,List.drop_zero])
      refine lpI {ι:=Nat,rs:=[(28,47)],mods:=[(6,fun k=> .one (.d (.v (.int .i64 k)))),(5,fun k=> .one (.d (.v (.string (QZ Qge (L.take k)).2))))],boxes:=[(4,fun k=>[.n (.v (.int .i64 (QZ Qge (L.take k)).1.c)),.n (.sl 1 (sL (QZ Qge (L.take k)).1.rs)),.n (.v (.int .i64 (QZ Qge (L.take k)).1.m)),.n (.sl 2 (dL (QZ Qge (L.take k)).1.ds)),.n (.v (.bool (!((QZ Qge (L.take k)).1.c==0)))),.own 2 (dL (QZ Qge (L.take k)).1.gv) 1])],arrs:=[],ok:=fun k=>k≤L.length,mu:=fun k=>L.length-k} rfl 0 (Nat.zero_le _) ?_ fun k hk=>?_
      · have e3:QZ Qge []=(⟨0,[],0,[],[]⟩,⟨#[]⟩):=rfl
        clear hgs;(repeat' first|refine gA fun _=>?_|apply fkI<;>intro hb<;>try simp only[ew,e3,List.take_zero,QbW,QaU]at hb|simp only[go_sem,simprocAttr, *,e3,List.take_zero,QbW,QaU])
        all_goals first|rfl|skip
      · dsimp only at k hk
        by_cases h5:k<L.length
        · have hz:=hgs k
          have hT:L.take (k+1)=L.take k++[L.getD k ⟨#[]⟩]:=Qf h5 _
          have hok:=@Qhu (L.take k) Qge Qkv
          have hos:=@QjW (L.take k) Qge Qkv
          have hlt:(L.take k).length≤60:=by rw[List.length_take];omega
          generalize hB:L.getD k ⟨#[]⟩=b at hz hT;have hN:=@QjX (L.take k) b Qge
          rw[←hT]at hN;clear hgs hT eZ hq h60;generalize hS:QZ Qge (L.take k)=S at hok hos hN;cases hb:isW b ⟨#[]⟩
          · rw[hb,if_neg (by decide)]at hN
            have hr:=@Qlj S.1 (Qbm 32 b) hok
            obtain⟨w1,w2,w3,w4⟩:=QxG hok;generalize hR:QgV S.1 (Qbm 32 b)=R at hN hr;have z1:ByteArray.size ⟨#[10]⟩=1:=rfl
            have o1:S.2.size≤600060:=by omega
            have hA:(S.2++R.2)++⟨#[10]⟩=S.2++(R.2++⟨#[10]⟩):=Qcg (by simp only[QdO,List.append_assoc])
            clear hos;(repeat' first|refine gA fun _=>?_|apply fkI<;>intro hb<;>try simp only[ew,hB,hS,hR,Qg,z1]at hb|simp only[go_sem,simprocAttr, *,hB,hS,hR,Qg,z1])
            refine lpN (k+1) (by omega) (by dsimp only;omega) ?_
            (repeat' first|refine gA fun _=>?_|apply fkI<;>intro hb<;>try simp only[ew,hN,hA]at hb|simp only[go_sem,simprocAttr, *,hN,hA])
          · rw[hb,if_pos rfl]at hN
            (repeat' first|refine gA fun _=>?_|apply fkI<;>intro hb<;>try simp only[ew,hB,hS]at hb|simp only[go_sem,simprocAttr, *,hB,hS])
            refine lpN (k+1) (by omega) (by dsimp only;omega) ?_
            (repeat' first|refine gA fun _=>?_|apply fkI<;>intro hb<;>try simp only[ew,hN]at hb|simp only[go_sem,simprocAttr, *,hN])
        · have e5:k=L.length:=by omega
          subst e5;have hT:L.take L.length=L:=List.take_length
          clear hgs;(repeat' first|refine gA fun _=>?_|apply fkI<;>intro hb<;>try simp only[ew,hT,eZ]at hb|simp only[go_sem,simprocAttr, *,hT,eZ])
          all_goals first|rfl|skip
end Go.Own
