/- Contracts. Conditions: as stated. -/
import Derived.Test.YtnmkpepdacbfaaaGreatDoorRp47
import Derived.Test.YtnmkpepdacbfaaaGreatDoorRp45
set_option linter.all false
set_option maxRecDepth 20000
set_option maxHeartbeats 4000000
namespace Go.Own
open Go Go.Proofs
attribute [local go_sem] QmB QtE Qhg QtH QrN QmC QsQ cPA QrM Qmg Qw6 cPD Qtz QtF Tryz.results19 cRC Tryz.results6 QFL cOr QtY Qdi Qdj Qb4 Qf1 Qeg Qeh Qkw QB Qh Qg Qae Qag Qaf Qaj Qa7 Qd1 Qv Qa1 Qz QbD QbT Qfc Qht Qez QcJ
theorem u32:UInt8.ofNat (Int.toNat 32)=32:=rfl
theorem Qe3:UInt8.ofNat 32=32:=rfl
theorem u10:UInt8.ofNat (Int.toNat 10)=10:=rfl
theorem QEL:UInt8.ofNat 10=10:=rfl
def QpE:Qb:=⟨[true],false,fun
 | [.mbx [.inl (.v (.int .i64 c)),.inl (.sl 1 l),.inl (.v (.int .i64 m)),.inl (.sl 2 q),.inl (.v (.bool h)),.inr (2,g,_)],.one (.v (.string s))]=>some ((WfS l∧WfD q∧WfD g)∧Qdf ⟨c,unS l,m,unD q,unD g⟩∧h=(!(c==0))∧s.size≤1073741824,[⟨false,[.d (.v (.string (Qgr ⟨c,unS l,m,unD q,unD g⟩ (Qa9 32 s)).2))]⟩],
   [.mbx [.inl (.v (.int .i64 (Qgr ⟨c,unS l,m,unD q,unD g⟩ (Qa9 32 s)).1.c)),.inl (.sl 1 (sL (Qgr ⟨c,unS l,m,unD q,unD g⟩ (Qa9 32 s)).1.rs)),.inl (.v (.int .i64 (Qgr ⟨c,unS l,m,unD q,unD g⟩ (Qa9 32 s)).1.m)),.inl (.sl 2 (dL (Qgr ⟨c,unS l,m,unD q,unD g⟩ (Qa9 32 s)).1.ds)),.inl (.v (.bool (!((Qgr ⟨c,unS l,m,unD q,unD g⟩ (Qa9 32 s)).1.c==0)))),.inr (2,dL (Qgr ⟨c,unS l,m,unD q,unD g⟩ (Qa9 32 s)).1.gv,1)]])
 | _=>none⟩
attribute [local go_sem] QpE
theorem QyW{σ:Con}{s:ByteArray}(h:(Qa9 32 s).length≠1):Qmb σ s=(σ,Ql5):=by
 have hn:∀k:ByteArray,32∉k.data.toList→isW s k=false:=fun k hk=>by
  rw[QoT];refine KW fun e=>h ?_
  unfold Qa9;rw[KV,QfX (by rw[e];exact hk)]
  rfl
 unfold Qmb;rw[hn QBo (by decide),hn QBp (by decide),hn QuK (by decide),hn QBq (by decide),hn Qyf (by decide),hn Qqv (by decide),hn QkB (by decide),hn QgT (by decide)]
 rfl
theorem QAK{s:ByteArray}(h:(Qa9 32 s).length=1):(Qa9 32 s).getD 0 ⟨#[]⟩=s:=by
 unfold Qa9 at h ⊢;rw[KV]at h;rcases @QiL 32 s.data.toList with⟨a,b,_,_,h3,_⟩|⟨_,h2,_⟩
 ·rw[h3]at h
  have:=@QdG 32 b
  cases hc:QeI 32 b with
  | nil=>exact absurd hc this
  | cons=>rw[hc]at h;simp at h
 ·rw[h2];rfl
theorem Qyj:Qa E0 19 QpE:=by
 refine Qbu (E:=E0) (T:=mkT Tryz.prog [(18,QmB),(38,QtE),(39,Qhg),(41,QtH),(40,QrN),(42,QmC),(43,QsQ),(44,cPA),(45,QrM),(47,Qmg),(46,Qw6),(48,cPD),(49,Qtz),(50,QtF)] false (fun d=>d==45||d==81||d==82||d==106||d==145||d==150) false (fun d=>d==996)) (Qd (E:=E0) (.cons QuM (.cons QBA (.cons Qvb (.cons QB3 (.cons QuC (.cons QxI (.cons Qua (.cons QzD (.cons Qov (.cons QoZ (.cons QCw (.cons QBN (.cons QAT (.cons QBB .nil))))))))))))))) rfl (fn:=Tryz.f19) Tryz.func19 kR rfl Qc kR rfl rfl (nLe rfl) ?_
 intro args p rs ms hr;unfold QpE at hr;dsimp only at hr;split at hr;rotate_left
 ·cases hr
 rename_i c l m q h g dp s;cases hr;refine⟨_,_,_,rfl,rfl,rfl,⟨rfl,rfl⟩,nLe rfl,?_⟩
 have hm:=mxE;rintro⟨⟨h1,h2,h3⟩,hc,hh,hsz0⟩ bs;obtain⟨rs,rfl,hx,hy⟩:=h1.ex;obtain⟨ds,rfl,hd⟩:=h2.ex;obtain⟨gv,rfl,hg⟩:=h3.ex;clear h1 h2 h3;rw[QB,Qh,Qh]at hc ⊢;obtain⟨⟨c0,c5⟩,r40,r5,d160,g20⟩:=QbN hc;dsimp only at c0 c5 r40 r5 d160 g20;have r6:∀r∈rs,r.length≤16777216:=fun r hr=>KF (r5 r hr) (by decide)
 clear r5;have l0:=@Qle 32 s
 have l1:=@QhS 32 s
 have hs:∀w∈Qa9 32 s,w.size≤1073741824:=fun w hw=>KF (Qlf w hw) hsz0
 have hone:=@QAK s
 have hwhat:=@QyW ⟨c,rs,m,ds,gv⟩ s
 generalize hC:Qa9 32 s=ws at l0 l1 hs hone hwhat;have hwm:ws.length≤maxLen:=KF (show _≤1073741825 by omega) (by decide)
 have hw2:ws.length≤2147483648:=by omega
 clear l1;have hsz:=fun i=>Qei hs i
 have n3:=@QiY ws.length 3
 have n4:=@QiY ws.length 4
 have n2:=@QiY ws.length 2
 have n0:=@Qzr ws.length 1
 have z0:=hsz 0
 have z1:=hsz 1
 have z2:=hsz 2
 have z3:=hsz 3
 clear hsz;generalize hZ:Qgr ⟨c,rs,m,ds,gv⟩ ws=Z;unfold Qgr at hZ;dsimp only at hZ;generalize hW0:ws.getD 0 ⟨#[]⟩=w0 at hZ z0 hone;generalize hW1:ws.getD 1 ⟨#[]⟩=w1 at hZ z1;generalize hW2:ws.getD 2 ⟨#[]⟩=w2 at hZ z2;generalize hW3:ws.getD 3 ⟨#[]⟩=w3 at hZ z3;split at hZ
 ·rename_i k1
  rw[KB,Kh]at k1;obtain⟨k1,k2⟩:=k1;have a3:(((ws.length:Nat):Int)==3)=true:=n3.trans (by rw[k2];rfl)
  have i1:1<ws.length:=by omega
  have i2:2<ws.length:=by omega
  have i3:(1:Int)<((ws.length:Nat):Int):=by omega
  clear n0 n2 n3 n4 k2 hc hone hwhat;unfold QwS at hZ;(try dsimp only at hZ)
  have hl3: -9223372036854775808≤l3V w1∧l3V w1≤9223372036854775807:=by
   have:=@QvY w1.data.toList
   unfold l3V;split
   ·decide
   ·split
    ·decide
    ·omega
  cases p1:isW w2 Qqu
  ·cases p2:isW w2 Qne
   ·have hm:Qo3 w2= -1:=by unfold Qo3;rw[p1,p2];rfl
    rw[hm]at hZ;cases hn:nmB (l3V w1) [] (-1)
    ·rw[hn,if_neg (by decide)]at hZ
     subst hZ;(repeat' first|refine gA fun _=>?_|apply fkI<;>intro hb<;>try simp only[ew,u32,Qe3,hC,hW0,hW1,hW2]at hb|simp only[go_sem,simprocAttr, *,u32,Qe3,hC,hW0,hW1,hW2])
     all_goals first|rfl|skip
    ·rw[Qfu]at hn
     simp[QN]at hn
   ·have hm:Qo3 w2=0:=by unfold Qo3;rw[p1,p2];rfl
    rw[hm]at hZ;cases hn:nmB (l3V w1) [] 0
    ·rw[hn,if_neg (by decide)]at hZ
     subst hZ;(repeat' first|refine gA fun _=>?_|apply fkI<;>intro hb<;>try simp only[ew,u32,Qe3,hC,hW0,hW1,hW2]at hb|simp only[go_sem,simprocAttr, *,u32,Qe3,hC,hW0,hW1,hW2])
     all_goals first|rfl|skip
    ·have hc0:(l3V w1==0)=false:=by
      rw[Qfu,KB,Qj]at hn;exact KU.2 (by omega)
     obtain⟨e2,e3,e4⟩:=QqQ hn;rw[hn,if_pos rfl]at hZ;subst hZ;(repeat' first|refine gA fun _=>?_|apply fkI<;>intro hb<;>try simp only[ew,u32,Qe3,hC,hW0,hW1,hW2,Qcc,Qa5]at hb|simp only[go_sem,simprocAttr, *,u32,Qe3,hC,hW0,hW1,hW2,Qcc,Qa5])
     all_goals first|rfl|skip
  ·have hm:Qo3 w2=1:=by unfold Qo3;rw[p1];rfl
   have p2:=Qem p1 (b:=Qne) (by decide)
   rw[hm]at hZ;cases hn:nmB (l3V w1) [] 1
   ·rw[hn,if_neg (by decide)]at hZ
    subst hZ;(repeat' first|refine gA fun _=>?_|apply fkI<;>intro hb<;>try simp only[ew,u32,Qe3,hC,hW0,hW1,hW2]at hb|simp only[go_sem,simprocAttr, *,u32,Qe3,hC,hW0,hW1,hW2])
    all_goals first|rfl|skip
   ·have hc0:(l3V w1==0)=false:=by
     rw[Qfu,KB,Qj]at hn;exact KU.2 (by omega)
    obtain⟨e2,e3,e4⟩:=QqQ hn;rw[hn,if_pos rfl]at hZ;subst hZ;(repeat' first|refine gA fun _=>?_|apply fkI<;>intro hb<;>try simp only[ew,u32,Qe3,hC,hW0,hW1,hW2,Qcc,Qa5]at hb|simp only[go_sem,simprocAttr, *,u32,Qe3,hC,hW0,hW1,hW2,Qcc,Qa5])
    all_goals first|rfl|skip
 rename_i k1;rw[KS]at k1;have a1:((((ws.length:Nat):Int)==3)&&isW w0 QhZ)=false:=by rw[show(((ws.length:Nat):Int)==3)=(ws.length==3)from n3,Bool.and_comm];exact k1
 clear k1 n3;split at hZ
 ·rename_i k2
  rw[k2]at hh;subst hZ;clear n0 n2 n4 hc hone hwhat;(repeat' first|refine gA fun _=>?_|apply fkI<;>intro hb<;>try simp only[ew,u32,Qe3,hC,hW0]at hb|simp only[go_sem,simprocAttr, *,u32,Qe3,hC,hW0])
  all_goals first|rfl|skip
 rename_i k2;rw[KS]at k2;rw[k2]at hh;split at hZ
 ·rename_i k3
  rw[KB,KK]at k3;obtain⟨k3,k4⟩:=k3;have a2:decide (((ws.length:Nat):Int)>1)=true:=n0.trans (KZ k4)
  have i1:1≤ws.length:=by omega
  have hl2:((ws.drop 1).map l3V).length≤maxLen:=by rw[KV,Kk];omega
  clear n0 n2 n4 k4 hone hwhat hc;unfold QvE at hZ;dsimp only at hZ;generalize hV:(ws.drop 1).map l3V=V at hZ hl2;cases hv:Qi2 c rs m ds V
  ·rw[hv,if_neg (by decide)]at hZ
   subst hZ;(repeat' first|refine gA fun _=>?_|apply fkI<;>intro hb<;>try simp only[ew,u32,Qe3,hC,hW0,hV,Qmn]at hb|simp only[go_sem,simprocAttr, *,u32,Qe3,hC,hW0,hV,Qmn])
   all_goals first|rfl|skip
  ·rw[hv,if_pos rfl]at hZ
   subst hZ;(repeat' first|refine gA fun _=>?_|apply fkI<;>intro hb<;>try simp only[ew,u32,Qe3,hC,hW0,hV,Qmn]at hb|simp only[go_sem,simprocAttr, *,u32,Qe3,hC,hW0,hV,Qmn])
   all_goals first|rfl|skip
 rename_i k3;rw[KS]at k3;have a2:(decide (((ws.length:Nat):Int)>1)&&isW w0 QCO)=false:=by rw[show decide (((ws.length:Nat):Int)>1)=decide (ws.length>1)from n0,Bool.and_comm];exact k3
 clear k3 n0;split at hZ
 ·rename_i k4
  rw[KB,Kh]at k4;obtain⟨k4,k5⟩:=k4;have a3:(((ws.length:Nat):Int)==4)=true:=n4.trans (by rw[k5];rfl)
  have a4:(((ws.length:Nat):Int)==2)=false:=n2.trans (by rw[k5];rfl)
  have i1:1<ws.length:=by omega
  have i2:2<ws.length:=by omega
  have i3:3<ws.length:=by omega
  have j1:(1:Int)<((ws.length:Nat):Int):=by omega
  have j3:(3:Int)<((ws.length:Nat):Int):=by omega
  have hl:=@Qet (paF w2).1
  have k0:=Qem k4 (b:=QCO) (by decide)
  clear n2 n4 k5 hone hwhat hc a2;cases p1:(paF w2).2
  ·rw[QpH (by rw[p1];rfl)]at hZ
   subst hZ;(repeat' first|refine gA fun _=>?_|apply fkI<;>intro hb<;>try simp only[ew,u32,Qe3,hC,hW0,hW1,hW2,hW3,cnt]at hb|simp only[go_sem,simprocAttr, *,u32,Qe3,hC,hW0,hW1,hW2,hW3,cnt])
   all_goals first|rfl|skip
  ·by_cases p3:((mem (paF w2).1).length:Int)=1
   ·have p3':(((mem (paF w2).1).length:Int)!=1)=false:=by rw[p3];rfl
    have hok:((paF w2).2&&decide (((mem (paF w2).1).length:Int)=1))=true:=by rw[p1,KZ p3];rfl
    have j0:0<(mem (paF w2).1).length:=by omega
    have hg0:=Qlv j0
    unfold QrT at hZ;rw[hok,if_pos rfl]at hZ;dsimp only at hZ;generalize (mem (paF w2).1).getD 0 0=k at hZ hg0;clear hok;cases hv:QnU c rs m ds (l3V w1) k (l3V w3)
    ·rw[hv,if_neg (by decide)]at hZ
     subst hZ;(repeat' first|refine gA fun _=>?_|apply fkI<;>intro hb<;>try simp only[ew,u32,Qe3,hC,hW0,hW1,hW2,hW3,cnt,Qmn]at hb|simp only[go_sem,simprocAttr, *,u32,Qe3,hC,hW0,hW1,hW2,hW3,cnt,Qmn])
     all_goals first|rfl|skip
    ·rw[hv,if_pos rfl]at hZ
     subst hZ;(repeat' first|refine gA fun _=>?_|apply fkI<;>intro hb<;>try simp only[ew,u32,Qe3,hC,hW0,hW1,hW2,hW3,cnt,Qmn]at hb|simp only[go_sem,simprocAttr, *,u32,Qe3,hC,hW0,hW1,hW2,hW3,cnt,Qmn])
     all_goals first|rfl|skip
   ·have p3':(((mem (paF w2).1).length:Int)!=1)=true:=by rw[bne_iff_ne];exact p3
    rw[QpH (by rw[KW p3];simp)]at hZ
    subst hZ;(repeat' first|refine gA fun _=>?_|apply fkI<;>intro hb<;>try simp only[ew,u32,Qe3,hC,hW0,hW1,hW2,hW3,cnt]at hb|simp only[go_sem,simprocAttr, *,u32,Qe3,hC,hW0,hW1,hW2,hW3,cnt])
    all_goals first|rfl|skip
 rename_i k4;rw[KS]at k4;have a3:((((ws.length:Nat):Int)==4)&&isW w0 Qyd)=false:=by rw[show(((ws.length:Nat):Int)==4)=(ws.length==4)from n4,Bool.and_comm];exact k4
 clear k4 n4;split at hZ
 ·rename_i k5
  rw[KB,Kh]at k5;obtain⟨k5,k6⟩:=k5;have a4:(((ws.length:Nat):Int)==2)=true:=n2.trans (by rw[k6];rfl)
  have i1:1<ws.length:=by omega
  have j1:(1:Int)<((ws.length:Nat):Int):=by omega
  have k0:=Qem k5 (b:=QCO) (by decide)
  clear n2 k6 hone hwhat hc a2;unfold QxJ at hZ;dsimp only at hZ;cases hv:QhG c rs m ds (l3V w1)
  ·rw[hv,if_neg (by decide)]at hZ
   subst hZ;(repeat' first|refine gA fun _=>?_|apply fkI<;>intro hb<;>try simp only[ew,u32,Qe3,hC,hW0,hW1,Qmn]at hb|simp only[go_sem,simprocAttr, *,u32,Qe3,hC,hW0,hW1,Qmn])
   all_goals first|rfl|skip
  ·rw[hv,if_pos rfl]at hZ
   subst hZ;(repeat' first|refine gA fun _=>?_|apply fkI<;>intro hb<;>try simp only[ew,u32,Qe3,hC,hW0,hW1,Qmn]at hb|simp only[go_sem,simprocAttr, *,u32,Qe3,hC,hW0,hW1,Qmn])
   all_goals first|rfl|skip
 rename_i k5;rw[KS]at k5;have a4:((((ws.length:Nat):Int)==2)&&isW w0 Qye)=false:=by rw[show(((ws.length:Nat):Int)==2)=(ws.length==2)from n2,Bool.and_comm];exact k5
 clear k5;split at hZ
 ·rename_i k6
  have a5:(((ws.length:Nat):Int)==2)=true:=n2.trans k6
  rw[a5,KY]at a4;rw[Kh]at k6;have i1:1<ws.length:=by omega
  have ht:=hwhat (by omega)
  clear n2 k6 hone hwhat;cases q1:(pdF c w1).2
  ·rw[q1,if_neg (by decide)]at hZ
   subst hZ;(repeat' first|refine gA fun _=>?_|apply fkI<;>intro hb<;>try simp only[ew,u32,Qe3,hC,hW0,hW1,ht]at hb|simp only[go_sem,simprocAttr, *,u32,Qe3,hC,hW0,hW1,ht])
   all_goals first|rfl|skip
  ·rw[q1,if_pos rfl]at hZ
   have eA:(Qmy ⟨c,rs,m,ds,gv⟩ w0 (pdF c w1).1).1.c=c∧(Qmy ⟨c,rs,m,ds,gv⟩ w0 (pdF c w1).1).1.rs=rs∧(Qmy ⟨c,rs,m,ds,gv⟩ w0 (pdF c w1).1).1.m=m∧(Qmy ⟨c,rs,m,ds,gv⟩ w0 (pdF c w1).1).1.ds=ds:=by
    unfold Qmy;repeat' split
    all_goals exact⟨rfl,rfl,rfl,rfl⟩
   obtain⟨e1,e2,e3,e4⟩:=eA;generalize hA:Qmy ⟨c,rs,m,ds,gv⟩ w0 (pdF c w1).1=A at hZ e1 e2 e3 e4;subst hZ;clear ht;(repeat' first|refine gA fun _=>?_|apply fkI<;>intro hb<;>try simp only[ew,u32,Qe3,hC,hW0,hW1,hA]at hb|simp only[go_sem,simprocAttr, *,u32,Qe3,hC,hW0,hW1,hA])
   all_goals first|rfl|skip
 rename_i k6;rw[KS]at k6;have a5:(((ws.length:Nat):Int)==2)=false:=n2.trans k6
 clear n2 k6 a4;have hT:Qmb ⟨c,rs,m,ds,gv⟩ s=Z:=by
  by_cases h7:ws.length=1
  ·rw[if_pos (by rw[h7];rfl),hone h7]at hZ
   exact hZ
  ·rw[if_neg (by rw[Kh];exact h7)]at hZ
   exact(hwhat h7).trans hZ
 have eA:(Qmb ⟨c,rs,m,ds,gv⟩ s).1.c=c∧(Qmb ⟨c,rs,m,ds,gv⟩ s).1.rs=rs∧(Qmb ⟨c,rs,m,ds,gv⟩ s).1.m=m∧(Qmb ⟨c,rs,m,ds,gv⟩ s).1.ds=ds:=by
  unfold Qmb;repeat' split
  all_goals exact⟨rfl,rfl,rfl,rfl⟩
 rw[hT]at eA;obtain⟨e1,e2,e3,e4⟩:=eA;clear hZ hone hwhat;(repeat' first|refine gA fun _=>?_|apply fkI<;>intro hb<;>try simp only[ew,u32,Qe3,hC,hW0,hT]at hb|simp only[go_sem,simprocAttr, *,u32,Qe3,hC,hW0,hT])
 all_goals first|rfl|skip
theorem QD9:Qa E0 6 cRC:=by
  refine QG (E:=E0) (T:=mkT Tryz.prog [(18,QmB),(19,QpE)] false (fun d=>d==11) true (fun _=>false)) (Qd (E:=E0) (.cons QuM (.cons Qyj .nil))) (fn:=Tryz.f6) Tryz.func6 kR rfl Qc kR rfl ?_
  intro args p rs ms hr;unfold cRC at hr;dsimp only at hr;split at hr;rotate_left
  · cases hr
  rename_i s;cases hr;refine⟨rfl,rfl,nLe rfl,?_⟩
  have hm:=mxE;intro h1 bs;have l0:=@Qle 10 s
  have l1:=@QhS 10 s
  have l2:=@Qlf 10 s
  have eZ:rcF s=if(decide (s.size>3000)||decide ((Qc2 (Qa9 10 s)).length>60))=true then⟨#[]⟩else(QF QfD (Qc2 (Qa9 10 s))).2:=rfl
  have hlc:=Qi5 l0
  generalize hC:Qa9 10 s=C at l0 l1 l2 eZ hlc;generalize hZ:rcF s=Z at eZ;generalize hL:Qc2 C=L at eZ hlc;clear hL;have hm1:C.length≤maxLen:=KF (show _≤1073741825 by omega) (by decide)
  have iz:C.length-1<C.length:=by omega
  have hi0:(((C.length:Nat):Int)-1)=((C.length-1:Nat):Int):=by omega
  have hLs:(∀w∈L,w.size≤1073741824)∧L.length≤maxLen:=by
    rcases hlc with⟨_,e⟩|⟨_,e⟩<;>rw[e]
    · exact⟨fun w hw=>KF (l2 w (Ks hw)) h1,by rw[KO];omega⟩
    · exact⟨fun w hw=>KF (l2 w hw) h1,hm1⟩
  obtain⟨hLs,hLm⟩:=hLs;have hgs:=fun i=>Qei hLs i
  clear l1 l2 hLs
  by_cases hs3:s.size>3000
  · have hs4:decide (((s.size:Nat):Int)>3000)=true:=KZ (by omega)
    rw[KZ hs3,YC,if_pos rfl]at eZ;subst eZ;clear hgs hlc hs3;exact gQ
  have hs4:decide (((s.size:Nat):Int)>3000)=false:=KW (by omega)
  rw[KW hs3,K8]at eZ;clear hs3;generalize hD:C.getD (C.length-1) ⟨#[]⟩=D0 at hlc;rcases hlc with⟨q1,e⟩|⟨q1,e⟩
  all_goals
    first
    | (have e2:L=C:=e
       clear e;subst e2)
    | replace e:=e.symm
    by_cases h60:L.length>60
    · have hq:decide (((L.length:Nat):Int)>60)=true:=KZ (by omega)
      rw[KZ h60,if_pos rfl]at eZ;subst eZ;clear hgs h60;(repeat' first|refine gA fun _=>?_|apply fkI<;>intro hb<;>try simp only[ew,u10,QEL,hC,hi0,hD,QeA,KE,K1]at hb|simp only[go_sem,simprocAttr, *,u10,QEL,hC,hi0,hD,QeA,KE,K1])
      all_goals first|rfl|skip
    · have hq:decide (((L.length:Nat):Int)>60)=false:=KW (by omega)
      rw[KW h60,if_neg (by decide)]at eZ
      (repeat' first|refine gA fun _=>?_|apply fkI<;>intro hb<;>try simp only[ew,u10,QEL,hC,hi0,hD,QeA,KE,K1]at hb|simp only[go_sem,simprocAttr, *,u10,QEL,hC,hi0,hD,QeA,KE,K1])
      refine lpI {ι:=Nat,rs:=[(28,47)],mods:=[(6,fun k=> .one (.d (.v (.int .i64 k)))),(5,fun k=> .one (.d (.v (.string (QF QfD (L.take k)).2))))],boxes:=[(4,fun k=>[.n (.v (.int .i64 (QF QfD (L.take k)).1.c)),.n (.sl 1 (sL (QF QfD (L.take k)).1.rs)),.n (.v (.int .i64 (QF QfD (L.take k)).1.m)),.n (.sl 2 (dL (QF QfD (L.take k)).1.ds)),.n (.v (.bool (!((QF QfD (L.take k)).1.c==0)))),.own 2 (dL (QF QfD (L.take k)).1.gv) 1])],arrs:=[],ok:=fun k=>k≤L.length,mu:=fun k=>L.length-k} rfl 0 (KJ _) ?_ fun k hk=>?_
      · have e3:QF QfD []=(⟨0,[],0,[],[]⟩,⟨#[]⟩):=rfl
        clear hgs;(repeat' first|refine gA fun _=>?_|apply fkI<;>intro hb<;>try simp only[ew,e3,Kw,Qcc,Qa5]at hb|simp only[go_sem,simprocAttr, *,e3,Kw,Qcc,Qa5])
        all_goals first|rfl|skip
      · dsimp only at k hk
        by_cases h5:k<L.length
        · have hz:=hgs k
          have hT:L.take (k+1)=L.take k++[L.getD k ⟨#[]⟩]:=Qf h5 _
          have hok:=@Qh0 (L.take k) QfD QiG
          have hos:=@QgX (L.take k) QfD QiG
          have hlt:(L.take k).length≤60:=by rw[KO];omega
          generalize hB:L.getD k ⟨#[]⟩=b at hz hT;have hN:=@QkD (L.take k) b QfD
          rw[←hT]at hN;clear hgs hT eZ hq h60;generalize hS:QF QfD (L.take k)=S at hok hos hN;cases hb:isW b ⟨#[]⟩
          · rw[hb,if_neg (by decide)]at hN
            have hr:=@Ql2 S.1 (Qa9 32 b) hok
            obtain⟨w1,w2,w3,w4⟩:=Qzh hok;generalize hR:Qgr S.1 (Qa9 32 b)=R at hN hr;have z1:ByteArray.size ⟨#[10]⟩=1:=rfl
            have o1:S.2.size≤600060:=by omega
            have hA:(S.2++R.2)++⟨#[10]⟩=S.2++(R.2++⟨#[10]⟩):=QbG (by simp only[Qb2,Kn])
            clear hos;(repeat' first|refine gA fun _=>?_|apply fkI<;>intro hb<;>try simp only[ew,hB,hS,hR,Qe,z1]at hb|simp only[go_sem,simprocAttr, *,hB,hS,hR,Qe,z1])
            refine lpN (k+1) (by omega) (by dsimp only;omega) ?_
            (repeat' first|refine gA fun _=>?_|apply fkI<;>intro hb<;>try simp only[ew,hN,hA]at hb|simp only[go_sem,simprocAttr, *,hN,hA])
          · rw[hb,if_pos rfl]at hN
            (repeat' first|refine gA fun _=>?_|apply fkI<;>intro hb<;>try simp only[ew,hB,hS]at hb|simp only[go_sem,simprocAttr, *,hB,hS])
            refine lpN (k+1) (by omega) (by dsimp only;omega) ?_
            (repeat' first|refine gA fun _=>?_|apply fkI<;>intro hb<;>try simp only[ew,hN]at hb|simp only[go_sem,simprocAttr, *,hN])
        · have e5:k=L.length:=by omega
          subst e5;have hT:L.take L.length=L:=KR
          clear hgs;(repeat' first|refine gA fun _=>?_|apply fkI<;>intro hb<;>try simp only[ew,hT,eZ]at hb|simp only[go_sem,simprocAttr, *,hT,eZ])
          all_goals first|rfl|skip
end Go.Own
