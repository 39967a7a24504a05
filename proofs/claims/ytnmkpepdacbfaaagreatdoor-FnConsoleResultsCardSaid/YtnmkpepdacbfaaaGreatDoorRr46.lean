/- Own contracts. Conditions: as each theorem states them. -/
import Derived.Test.YtnmkpepdacbfaaaGreatDoorRr45
set_option linter.unusedSimpArgs false
set_option linter.unusedVariables false
set_option maxRecDepth 20000
set_option maxHeartbeats 4000000
namespace Go.Own
open Go Go.Proofs
def Quv(sep:ByteArray):UInt8:=sep.data.toList.headD 0
@[go_sem] theorem QBh {c:UInt8}:Quv ⟨#[c]⟩=c:=rfl
theorem Qws{s sep:ByteArray}(h:sep.size=1):Lib.splitB sep 0 (Lib.countB s sep) s=QbO (Quv sep) s:=by
 obtain⟨c,rfl⟩:=Lib.one_byte sep h;exact Qpr
def QtL:Qb:=⟨[],false,fun
 | [.one (.v (.string s)),.one (.v (.string sep))]=>some (s.size<4294967281∧sep.size=1,[⟨false,[.own 1 (tL (QbO (Quv sep) s)) 1]⟩],[])
 | _=>none⟩
theorem Qod{W:Bool}{h:QT}:∀{ss:List ByteArray},Qi W h (tL ss).flatten (ss.map Value.string) []
 | []=> .nil
 | s::ss=> .v rfl Qod
theorem QyL:Qa E0 20 QtL:=by
 refine⟨⟨Tryz.f20,Tryz.func20,by kernel_rfl,rfl⟩,?_⟩
 intro args p rs ms hr hp w vals F Ms ha hnd hF hJ hN hMN;unfold QtL at hr;dsimp only at hr;split at hr
 ·rename_i s sep
  cases hr;obtain⟨hs,h1⟩:=hp;cases ha with
  | cons g1 g2=>
   cases g2 with
   | cons g2 g3=>
    cases g3
    cases g1 with
    | one r1=>
     cases r1 with
     | v _ r1=>
      cases r1
      cases g2 with
      | one r2=>
       cases r2 with
       | v _ r2=>
        cases r2
        obtain⟨m,hm⟩:=QCm hJ;have hlen:Lib.countB s sep+1=(QbO (Quv sep) s).length:=by
         rw[←Qws h1];exact(Lib.splitB_all sep (by omega) 0 _ s rfl).symm
        have hle:(QbO (Quv sep) s).length≤s.size+1:=by
         have:=@Qi5 (Quv sep) s.data.toList
         unfold QbO;rw[List.length_map];rw[bsz]at this;exact this
        have hc:=Any.strings_Split Tryz.lays146 (by kernel_rfl) s sep m w hs hm (by omega)
        rw[hlen,Qws h1]at hc;generalize QbO (Quv sep) s=ss at hc hle ⊢;refine hc.mono ?_
        rintro e w' ⟨rfl,rfl⟩;refine⟨_,rfl,⟨rfl,rfl,rfl,by show _≤(w.heap.push _).size;rw[Array.size_push];omega,fun b hb _=>by show(w.heap.push _)[b]? =_;rw[Array.getElem?_push,if_neg (Nat.ne_of_lt hb)],[],[[w.heap.size]],[],[],?_,.nil,by simp,fun b hb=>?_,by simp,by simp,by simp,by simp⟩⟩
        rotate_left
        ·have hb2:b=w.heap.size:=by simpa using hb
         subst hb2;exact⟨.inl (Nat.le_refl _),by show _<(w.heap.push _).size;rw[Array.size_push];omega⟩
        have ha:Qaa (w.alloc (.cells (ss.map Value.string).toArray (9))).heap [w.heap.size] [] 1 (tL ss) 1 (.slice (some ⟨w.heap.size,0,none⟩) ss.length ss.length):=by
         refine .inr ⟨w.heap.size,ss.length,(ss.map Value.string).toArray,9,[],by rw[Qz],rfl,rfl,by show(w.heap.push _)[w.heap.size]? =_;rw[Array.getElem?_push,if_pos rfl],by rw[Qz];exact Nat.le_refl _,by unfold maxLen;omega,by simp,?_,?_⟩
         ·intro x hx
          simp only[tL,List.mem_map]at hx
          obtain⟨y,_,rfl⟩:=hx;rfl
         ·rw[Qz,Nat.mul_one,List.take_of_length_le (by simp)]
          simpa using Qod
        exact(by simpa using Qat.own ha .nil:Qat _ [.own 1 (tL ss) 1] [_] [] [[w.heap.size]])
 ·cases hr
end Go.Own

namespace Go.Own
open Go Go.Proofs
attribute [local go_sem] Qqc Qql Qqe cPI QvJ Qw9 cPD Qqb QzP Tryz.results21
theorem QCj{a b:Bool}:cond a b false=(a&&b):=by cases a<;>rfl
attribute [local go_sem] QCj QdP QdQ Qcj Qgo QeL QeM Qs7 Qm Qc QZ Q1 Q0 Q3 QaH Qdb Qr Qbp Qz Qbm Qcu Qf3 QhJ QhI Qew
theorem Qnm{n k:Nat}:(((n:Nat):Int)==((k:Nat):Int))=(n==k):=by
 rw[Bool.eq_iff_iff,beq_iff_eq,beq_iff_eq];omega
theorem QAb{n k:Nat}:decide (((n:Nat):Int)>((k:Nat):Int))=decide (n>k):=by
 rw[Bool.eq_iff_iff,decide_eq_true_eq,decide_eq_true_eq];omega
theorem Qoc{ws:List ByteArray}:((tL ws).take ws.length).drop 1=tL (ws.drop 1):=by
 rw[List.take_of_length_le (by rw[Qz];exact Nat.le_refl _)]
 simp[tL,List.map_drop]
def Qqm:Qb:=⟨[],true,fun
 | [.agg [.v (.int .i64 c),.sl 1 l,.v (.int .i64 m),.sl 2 q,.sl 2 g],.one (.sl 1 t)]=>some ((WfS l∧WfD q∧WfD g)∧Qdm ⟨c,unS l,m,unD q,unD g⟩∧(WfL t∧∀w∈unT t,w.size≤1073741824)∧0<t.length∧t.length≤2147483648,Qs7 (QfN ⟨c,unS l,m,unD q,unD g⟩ (unT t)),[])
 | _=>none⟩
attribute [local go_sem] Qqm
theorem Qyy:Qa E0 21 Qqm:=by
 refine QV (E:=E0) (T:=mkT Tryz.prog [(52,Qqc),(53,Qql),(54,Qqe),(55,cPI),(56,QvJ),(57,Qw9),(58,cPD),(59,Qqb),(60,QzP)] false (fun d=>d==99) true (fun d=>d==998||d==996)) (Qf (E:=E0) (.cons QwZ (.cons Qyx (.cons Qxc (.cons QnW (.cons QqO (.cons Qs0 (.cons Qyi (.cons QwQ (.cons QA1 .nil)))))))))) (fn:=Tryz.f21) Tryz.func21 (by kernel_rfl) rfl Qe (by kernel_rfl) rfl ?_
 intro args p rs ms hr;unfold Qqm at hr;dsimp only at hr;split at hr;rotate_left
 ·cases hr
 rename_i c l m q g t;cases hr;refine⟨rfl,rfl,nLe rfl,?_⟩
 have hm:=mxE;rintro⟨⟨h1,h2,h3⟩,hc,⟨h4,hs⟩,h0,hw2⟩ bs;obtain⟨rs,rfl,hx,hy⟩:=h1.ex;obtain⟨ds,rfl,hd⟩:=h2.ex;obtain⟨gv,rfl,hg⟩:=h3.ex;obtain⟨ws,rfl,hw⟩:=h4.ex;clear h1 h2 h3 h4;rw[QG,Qm,Qm]at hc ⊢;rw[Qbp]at hs ⊢;rw[Qz]at h0 hw2;obtain⟨⟨c0,c5⟩,r40,r5,d160,g20⟩:=QcF hc;dsimp only at c0 c5 r40 r5 d160 g20;have r6:∀r∈rs,r.length≤16777216:=fun r hr=>Nat.le_trans (r5 r hr) (by decide)
 clear r5;have hsz:=fun i=>QlU hs i
 have n3:=@Qnm ws.length 3
 have n4:=@Qnm ws.length 4
 have n2:=@Qnm ws.length 2
 have n1:=@Qnm ws.length 1
 have n0:=@QAb ws.length 1
 have z0:=hsz 0
 have z1:=hsz 1
 have z2:=hsz 2
 have z3:=hsz 3
 clear hsz;generalize hZ:QfN ⟨c,rs,m,ds,gv⟩ ws=Z;unfold QfN at hZ;dsimp only at hZ;generalize hW0:ws.getD 0 ⟨#[]⟩=w0 at hZ z0;generalize hW1:ws.getD 1 ⟨#[]⟩=w1 at hZ z1;generalize hW2:ws.getD 2 ⟨#[]⟩=w2 at hZ z2;generalize hW3:ws.getD 3 ⟨#[]⟩=w3 at hZ z3;split at hZ
 ·rename_i k1
  rw[Bool.and_eq_true,beq_iff_eq]at k1;obtain⟨k1,k2⟩:=k1;have a3:(((ws.length:Nat):Int)==3)=true:=n3.trans (by rw[k2];rfl)
  have i1:1<ws.length:=by omega
  have i2:2<ws.length:=by omega
  clear n0 n1 n2 n3 n4 k2 hc;subst hZ;(repeat' first|refine gA fun _=>?_|apply fkI<;>intro hb<;>try simp only[ew,hW0,hW1,hW2]at hb|simp only[go_sem,simprocAttr, *,hW0,hW1,hW2])
  all_goals first|rfl|skip
 rename_i k1;rw[Bool.not_eq_true]at k1;have a1:(isW w0 Qbz&&(((ws.length:Nat):Int)==3))=false:=by rw[show(((ws.length:Nat):Int)==3)=(ws.length==3)from n3];exact k1
 clear k1 n3;split at hZ
 ·rename_i k2
  clear n0 n1 n2 n4 hc;subst hZ;(repeat' first|refine gA fun _=>?_|apply fkI<;>intro hb<;>try simp only[ew,hW0]at hb|simp only[go_sem,simprocAttr, *,hW0])
  all_goals first|rfl|skip
 rename_i k2;rw[Bool.not_eq_true]at k2;split at hZ
 ·rename_i k3
  rw[Bool.and_eq_true,decide_eq_true_eq]at k3;obtain⟨k3,k4⟩:=k3;have a2:decide (((ws.length:Nat):Int)>1)=true:=n0.trans (decide_eq_true k4)
  have hs2:∀w∈ws.drop 1,w.size≤1073741824:=fun w hw=>hs w (List.mem_of_mem_drop hw)
  have hl2:(ws.drop 1).length≤maxLen:=by rw[List.length_drop];omega
  have hl4:(ws.drop 1).length≤2147483648:=by rw[List.length_drop];omega
  have i1:1≤ws.length:=by omega
  clear n0 n1 n2 n4 k4 hs;subst hZ;(repeat' first|refine gA fun _=>?_|apply fkI<;>intro hb<;>try simp only[ew,hW0,Qoc]at hb|simp only[go_sem,simprocAttr, *,hW0,Qoc])
  all_goals first|rfl|skip
 rename_i k3;rw[Bool.not_eq_true]at k3;have a2:(isW w0 Qla&&decide (((ws.length:Nat):Int)>1))=false:=by rw[show decide (((ws.length:Nat):Int)>1)=decide (ws.length>1)from n0];exact k3
 clear k3 n0;split at hZ
 ·rename_i k4
  rw[Bool.and_eq_true,beq_iff_eq]at k4;obtain⟨k4,k5⟩:=k4;have a3:(((ws.length:Nat):Int)==4)=true:=n4.trans (by rw[k5];rfl)
  have i1:1<ws.length:=by omega
  have i2:2<ws.length:=by omega
  have i3:3<ws.length:=by omega
  clear n1 n2 n4 k5 hs;subst hZ;(repeat' first|refine gA fun _=>?_|apply fkI<;>intro hb<;>try simp only[ew,hW0,hW1,hW2,hW3]at hb|simp only[go_sem,simprocAttr, *,hW0,hW1,hW2,hW3])
  all_goals first|rfl|skip
 rename_i k4;rw[Bool.not_eq_true]at k4;have a3:(isW w0 Qry&&(((ws.length:Nat):Int)==4))=false:=by rw[show(((ws.length:Nat):Int)==4)=(ws.length==4)from n4];exact k4
 clear k4 n4;split at hZ
 ·rename_i k5
  rw[Bool.and_eq_true,beq_iff_eq]at k5;obtain⟨k5,k6⟩:=k5;have a4:(((ws.length:Nat):Int)==2)=true:=n2.trans (by rw[k6];rfl)
  have i1:1<ws.length:=by omega
  clear n1 n2 k6 hs hc;cases q1:(spF w1.data.toList).2
  ·rw[Qz0 q1]at hZ
   subst hZ;(repeat' first|refine gA fun _=>?_|apply fkI<;>intro hb<;>try simp only[ew,hW0,hW1]at hb|simp only[go_sem,simprocAttr, *,hW0,hW1])
   all_goals first|rfl|skip
  ·rw[Qxu q1]at hZ
   dsimp only at hZ;have hy:(if QhP c rs m ds (spF w1.data.toList).1 then sOk else sNo)=QA9 (QhP c rs m ds (spF w1.data.toList).1):=rfl
   rw[hy]at hZ;subst hZ;clear hy;(repeat' first|refine gA fun _=>?_|apply fkI<;>intro hb<;>try simp only[ew,hW0,hW1]at hb|simp only[go_sem,simprocAttr, *,hW0,hW1])
   all_goals first|rfl|skip
 rename_i k5;rw[Bool.not_eq_true]at k5;have a4:(isW w0 QeQ&&(((ws.length:Nat):Int)==2))=false:=by rw[show(((ws.length:Nat):Int)==2)=(ws.length==2)from n2];exact k5
 clear k5;split at hZ
 ·rename_i k6
  have a5:(((ws.length:Nat):Int)==2)=true:=n2.trans k6
  rw[a5]at a4;rw[beq_iff_eq]at k6;have i1:1<ws.length:=by omega
  rw[Bool.and_true]at a4;clear n1 n2 k6 hs;cases q1:(pdF c w1).2
  ·rw[q1,if_neg (by decide)]at hZ
   subst hZ;clear hc;(repeat' first|refine gA fun _=>?_|apply fkI<;>intro hb<;>try simp only[ew,hW0,hW1]at hb|simp only[go_sem,simprocAttr, *,hW0,hW1])
   all_goals first|rfl|skip
  ·rw[q1,if_pos rfl]at hZ
   subst hZ;(repeat' first|refine gA fun _=>?_|apply fkI<;>intro hb<;>try simp only[ew,hW0,hW1]at hb|simp only[go_sem,simprocAttr, *,hW0,hW1])
   all_goals first|rfl|skip
 rename_i k6;rw[Bool.not_eq_true]at k6;have a5:(((ws.length:Nat):Int)==2)=false:=n2.trans k6
 rw[a5]at a4;rw[Bool.and_false]at a4;clear n2 k6 a4;split at hZ
 ·rename_i k7
  have a6:(((ws.length:Nat):Int)==1)=true:=n1.trans k7
  clear n1 k7 hs;subst hZ;(repeat' first|refine gA fun _=>?_|apply fkI<;>intro hb<;>try simp only[ew,hW0]at hb|simp only[go_sem,simprocAttr, *,hW0])
  all_goals first|rfl|skip
 ·rename_i k7
  rw[Bool.not_eq_true]at k7;have a6:(((ws.length:Nat):Int)==1)=false:=n1.trans k7
  clear n1 k7 hs hc;subst hZ;(repeat' first|refine gA fun _=>?_|apply fkI<;>intro hb<;>try simp only[ew,hW0]at hb|simp only[go_sem,simprocAttr, *,hW0])
  all_goals first|rfl|skip
theorem Qjs:∀{ls:List ByteArray} {σ:Con},Qdm σ→Qdm (QN σ ls).1
 | [],σ,h=>h
 | l::r,σ,h=>by
  rw[QN];split
  ·exact Qjs h
  ·exact Qjs (Qwo h)
theorem Qo9{ls:List ByteArray}{l:ByteArray}{σ:Con}:QN σ (ls++[l])=if isW l ⟨#[]⟩then QN σ ls else((QfN (QN σ ls).1 (QbO 32 l)).1,(QN σ ls).2++((QfN (QN σ ls).1 (QbO 32 l)).2++⟨#[10]⟩)):=by
 induction ls generalizing σ with
 | nil=>
  have e1:QN σ []=(σ,⟨#[]⟩):=rfl
  have e2:QN σ [l]=if isW l ⟨#[]⟩then QN σ []else((QN (QfN σ (QbO 32 l)).1 []).1,((QfN σ (QbO 32 l)).2++⟨#[10]⟩)++(QN (QfN σ (QbO 32 l)).1 []).2):=rfl
  rw[List.nil_append,e2,e1]
  by_cases h:isW l ⟨#[]⟩=true
  ·rw[if_pos h,if_pos h]
  ·rw[if_neg h,if_neg h]
   refine Prod.ext rfl ?_
   have e3:∀τ:Con,(QN τ []).2=⟨#[]⟩:=fun _=>rfl
   dsimp only;rw[e3];exact Qa8 (by simp only[Qav];rw[List.append_nil,List.nil_append])
 | cons x r ih=>
  rw[List.cons_append,QN,QN]
  by_cases hx:isW x ⟨#[]⟩=true
  ·rw[if_pos hx,if_pos hx,ih]
  ·rw[if_neg hx,if_neg hx,ih]
   by_cases h:isW l ⟨#[]⟩=true
   ·rw[if_pos h,if_pos h]
   ·rw[if_neg h,if_neg h]
    refine Prod.ext rfl ?_
    dsimp only;exact Qa8 (by simp only[Qav,List.append_assoc])
theorem Qo8{ls:List ByteArray}{σ:Con}(h:Qdm σ):(QN σ ls).2.size≤ls.length*10001:=by
 induction ls generalizing σ with
 | nil=>exact Nat.zero_le _
 | cons x r ih=>
  rw[QN];split
  ·have:=ih h;rw[List.length_cons,Nat.add_mul,Nat.one_mul];exact Nat.le_trans this (Nat.le_add_right _ _)
  ·have h1:=@Qn3 σ (QbO 32 x) h
   have h2:=ih (@Qwo σ (QbO 32 x) h)
   dsimp only;rw[Qd,Qd];have:ByteArray.size ⟨#[10]⟩=1:=rfl
   rw[List.length_cons,Nat.add_mul,Nat.one_mul];generalize r.length*10001=q at h2 ⊢;omega
theorem QqI{c:UInt8}{s:ByteArray}:∀w∈QbO c s,w.size≤s.size:=fun w hw=>by
 unfold QbO at hw;obtain⟨l,hl,rfl⟩:=List.mem_map.1 hw;have:=Qkr l hl
 rw[bsz]at this;exact this
theorem QqH{c:UInt8}{s:ByteArray}:0<(QbO c s).length:=by
 unfold QbO;rw[List.length_map];exact List.length_pos_iff.2 Qg1
theorem QmZ{c:UInt8}{s:ByteArray}:(QbO c s).length≤s.size+1:=by
 unfold QbO;rw[List.length_map];have:=@Qi5 c s.data.toList
 rw[bsz]at this;exact this
theorem Qiw{w:ByteArray}:(w.toList==ByteArray.toList ⟨#[]⟩)=isW w ⟨#[]⟩:=rfl
theorem Ql6{ls:List ByteArray}(h:0<ls.length):(isW (ls.getD (ls.length-1) ⟨#[]⟩) ⟨#[]⟩=true∧Qhk ls=ls.take (ls.length-1))∨(isW (ls.getD (ls.length-1) ⟨#[]⟩) ⟨#[]⟩=false∧Qhk ls=ls):=by
 unfold Qhk;cases hq:isW (ls.getD (ls.length-1) ⟨#[]⟩) ⟨#[]⟩
 ·exact .inr ⟨rfl,if_neg (by decide)⟩
 ·exact .inl ⟨rfl,if_pos rfl⟩
theorem QCw:Quv ⟨#[10]⟩=10:=rfl
theorem QCx:Quv ⟨#[32]⟩=32:=rfl
theorem QCD:ByteArray.size ⟨#[10]⟩=1:=rfl
theorem QCE:ByteArray.size ⟨#[32]⟩=1:=rfl
theorem QjV{ws:List ByteArray}{n:Nat}:(tL ws).take n=tL (ws.take n):=by simp[tL,List.map_take]
end Go.Own
