/- Own contracts. Conditions: as each theorem states them. -/
import Derived.Test.YtnmkpepdacbfaaaGreatDoorRc46
set_option linter.unusedSimpArgs false
set_option linter.unusedVariables false
set_option maxRecDepth 20000
set_option maxHeartbeats 4000000
namespace Go.Own
open Go Go.Proofs
def Qwj(sep:ByteArray):UInt8:=sep.data.toList.headD 0
@[go_sem] theorem QCA {c:UInt8}:Qwj ⟨#[c]⟩=c:=rfl
theorem Qya{s sep:ByteArray}(h:sep.size=1):Lib.splitB sep 0 (Lib.countB s sep) s=Qbm (Qwj sep) s:=by
 obtain⟨c,rfl⟩:=Lib.one_byte sep h;exact Qrq
def Qvx:Qb:=⟨[],false,fun
 | [.one (.v (.string s)),.one (.v (.string sep))]=>some (s.size<4294967281∧sep.size=1,[⟨false,[.own 1 (tL (Qbm (Qwj sep) s)) 1]⟩],[])
 | _=>none⟩
theorem Qqh{W:Bool}{h:Q5}:∀{ss:List ByteArray},Qn W h (tL ss).flatten (ss.map Value.string) []
 | []=> .nil
 | s::ss=> .v rfl Qqh
theorem QAt:Qa E0 20 Qvx:=by
 refine⟨⟨Tryz.f20,Tryz.func20,by kernel_rfl,rfl⟩,?_⟩
 intro args p rs ms hr hp w vals F Ms ha hnd hF hJ hN hMN;unfold Qvx at hr;dsimp only at hr;split at hr
 ·rename_i s sep
  cases hr;obtain⟨hs,h1⟩:=hp;cases ha with
  | cons g1 g2=>
   cases g2 with
   | cons g2 g3=>
    cases g3
    cases g1 with
    | one r1=>
     cases r1 with
     | v _ r1=>
      cases r1
      cases g2 with
      | one r2=>
       cases r2 with
       | v _ r2=>
        cases r2
        obtain⟨m,hm⟩:=QDF hJ;have hlen:Lib.countB s sep+1=(Qbm (Qwj sep) s).length:=by
         rw[←Qya h1];exact(Lib.splitB_all sep (by omega) 0 _ s rfl).symm
        have hle:(Qbm (Qwj sep) s).length≤s.size+1:=by
         have:=@Qfy (Qwj sep) s.data.toList
         unfold Qbm;rw[List.length_map];rw[bsz]at this;exact this
        have hc:=Any.strings_Split Tryz.lays146 (by kernel_rfl) s sep m w hs hm (by omega)
        rw[hlen,Qya h1]at hc;generalize Qbm (Qwj sep) s=ss at hc hle ⊢;refine hc.mono ?_
        rintro e w' ⟨rfl,rfl⟩;refine⟨_,rfl,⟨rfl,rfl,rfl,by show _≤(w.heap.push _).size;rw[Array.size_push];omega,fun b hb _=>by show(w.heap.push _)[b]? =_;rw[Array.getElem?_push,if_neg (Nat.ne_of_lt hb)],[],[[w.heap.size]],[],[],?_,.nil,by simp,fun b hb=>?_,by simp,by simp,by simp,by simp⟩⟩
        rotate_left
        ·have hb2:b=w.heap.size:=by simpa using hb
         subst hb2;exact⟨.inl (Nat.le_refl _),by show _<(w.heap.push _).size;rw[Array.size_push];omega⟩
        have ha:Qal (w.alloc (.cells (ss.map Value.string).toArray (9))).heap [w.heap.size] [] 1 (tL ss) 1 (.slice (some ⟨w.heap.size,0,none⟩) ss.length ss.length):=by
         refine .inr ⟨w.heap.size,ss.length,(ss.map Value.string).toArray,9,[],by rw[QC],rfl,rfl,by show(w.heap.push _)[w.heap.size]? =_;rw[Array.getElem?_push,if_pos rfl],by rw[QC];exact Nat.le_refl _,by unfold maxLen;omega,by simp,?_,?_⟩
         ·intro x hx
          simp only[tL,List.mem_map]at hx
          obtain⟨y,_,rfl⟩:=hx;rfl
         ·rw[QC,Nat.mul_one,List.take_of_length_le (by simp)]
          simpa using Qqh
        exact(by simpa using QaG.own ha .nil:QaG _ [.own 1 (tL ss) 1] [_] [] [[w.heap.size]])
 ·cases hr
end Go.Own

namespace Go.Own
open Go Go.Proofs
attribute [local go_sem] Qsc Qsl Qsd cPI QrB QyR cPD Qsb QBl Tryz.results21
theorem QDC{a b:Bool}:cond a b false=(a&&b):=by cases a<;>rfl
attribute [local go_sem] QDC Qc1 Qc2 QbP QfC QdY QdZ QuT Qh Qe Qaa Qac Qab Qaf QaX QdJ Qu Qbh QC Qbs Qct QfX QgX QgW Qee
theorem Qil{n k:Nat}:(((n:Nat):Int)==((k:Nat):Int))=(n==k):=by
 rw[Bool.eq_iff_iff,beq_iff_eq,beq_iff_eq];omega
theorem QxQ{n k:Nat}:decide (((n:Nat):Int)>((k:Nat):Int))=decide (n>k):=by
 rw[Bool.eq_iff_iff,decide_eq_true_eq,decide_eq_true_eq];omega
theorem Qqg{ws:List ByteArray}:((tL ws).take ws.length).drop 1=tL (ws.drop 1):=by
 rw[List.take_of_length_le (by rw[QC];exact Nat.le_refl _)]
 simp[tL,List.map_drop]
def Qsn:Qb:=⟨[],true,fun
 | [.agg [.v (.int .i64 c),.sl 1 l,.v (.int .i64 m),.sl 2 q,.sl 2 g],.one (.sl 1 t)]=>some ((WfS l∧WfD q∧WfD g)∧QcY ⟨c,unS l,m,unD q,unD g⟩∧(WfL t∧∀w∈unT t,w.size≤1073741824)∧0<t.length∧t.length≤2147483648,QuT (QgV ⟨c,unS l,m,unD q,unD g⟩ (unT t)),[])
 | _=>none⟩
attribute [local go_sem] Qsn
theorem QAk:Qa E0 21 Qsn:=by
 refine QE (E:=E0) (T:=mkT Tryz.prog [(52,Qsc),(53,Qsl),(54,Qsd),(55,cPI),(56,QrB),(57,QyR),(58,cPD),(59,Qsb),(60,QBl)] false (fun d=>d==99) true (fun d=>d==998||d==996)) (Qd (E:=E0) (.cons QyJ (.cons QAj (.cons QyU (.cons QpX (.cons QsN (.cons QuP (.cons Qz2 (.cons QyB (.cons QCl .nil)))))))))) (fn:=Tryz.f21) Tryz.func21 (by kernel_rfl) rfl Qc (by kernel_rfl) rfl ?_
 intro args p rs ms hr;unfold Qsn at hr;dsimp only at hr;split at hr;rotate_left
 ·cases hr
 rename_i c l m q g t;cases hr;refine⟨rfl,rfl,nLe rfl,?_⟩
 have hm:=mxE;rintro⟨⟨h1,h2,h3⟩,hc,⟨h4,hs⟩,h0,hw2⟩ bs;obtain⟨rs,rfl,hx,hy⟩:=h1.ex;obtain⟨ds,rfl,hd⟩:=h2.ex;obtain⟨gv,rfl,hg⟩:=h3.ex;obtain⟨ws,rfl,hw⟩:=h4.ex;clear h1 h2 h3 h4;rw[Qz,Qh,Qh]at hc ⊢;rw[Qbh]at hs ⊢;rw[QC]at h0 hw2;obtain⟨⟨c0,c5⟩,r40,r5,d160,g20⟩:=Qbz hc;dsimp only at c0 c5 r40 r5 d160 g20;have r6:∀r∈rs,r.length≤16777216:=fun r hr=>Nat.le_trans (r5 r hr) (by decide)
 clear r5;have hsz:=fun i=>Qd0 hs i
 have n3:=@Qil ws.length 3
 have n4:=@Qil ws.length 4
 have n2:=@Qil ws.length 2
 have n1:=@Qil ws.length 1
 have n0:=@QxQ ws.length 1
 have z0:=hsz 0
 have z1:=hsz 1
 have z2:=hsz 2
 have z3:=hsz 3
 clear hsz;generalize hZ:QgV ⟨c,rs,m,ds,gv⟩ ws=Z;unfold QgV at hZ;dsimp only at hZ;generalize hW0:ws.getD 0 ⟨#[]⟩=w0 at hZ z0;generalize hW1:ws.getD 1 ⟨#[]⟩=w1 at hZ z1;generalize hW2:ws.getD 2 ⟨#[]⟩=w2 at hZ z2;generalize hW3:ws.getD 3 ⟨#[]⟩=w3 at hZ z3;split at hZ
 ·rename_i k1
  rw[Bool.and_eq_true,beq_iff_eq]at k1;obtain⟨k1,k2⟩:=k1;have a3:(((ws.length:Nat):Int)==3)=true:=n3.trans (by rw[k2];rfl)
  have i1:1<ws.length:=by omega
  have i2:2<ws.length:=by omega
  clear n0 n1 n2 n3 n4 k2 hc;subst hZ;(repeat' first|refine gA fun _=>?_|apply fkI<;>intro hb<;>try simp only[ew,hW0,hW1,hW2]at hb|simp only[go_sem,simprocAttr, *,hW0,hW1,hW2])
  all_goals first|rfl|skip
 rename_i k1;rw[Bool.not_eq_true]at k1;have a1:(isW w0 Qht&&(((ws.length:Nat):Int)==3))=false:=by rw[show(((ws.length:Nat):Int)==3)=(ws.length==3)from n3];exact k1
 clear k1 n3;split at hZ
 ·rename_i k2
  clear n0 n1 n2 n4 hc;subst hZ;(repeat' first|refine gA fun _=>?_|apply fkI<;>intro hb<;>try simp only[ew,hW0]at hb|simp only[go_sem,simprocAttr, *,hW0])
  all_goals first|rfl|skip
 rename_i k2;rw[Bool.not_eq_true]at k2;split at hZ
 ·rename_i k3
  rw[Bool.and_eq_true,decide_eq_true_eq]at k3;obtain⟨k3,k4⟩:=k3;have a2:decide (((ws.length:Nat):Int)>1)=true:=n0.trans (decide_eq_true k4)
  have hs2:∀w∈ws.drop 1,w.size≤1073741824:=fun w hw=>hs w (List.mem_of_mem_drop hw)
  have hl2:(ws.drop 1).length≤maxLen:=by rw[List.length_drop];omega
  have hl4:(ws.drop 1).length≤2147483648:=by rw[List.length_drop];omega
  have i1:1≤ws.length:=by omega
  clear n0 n1 n2 n4 k4 hs;subst hZ;(repeat' first|refine gA fun _=>?_|apply fkI<;>intro hb<;>try simp only[ew,hW0,Qqg]at hb|simp only[go_sem,simprocAttr, *,hW0,Qqg])
  all_goals first|rfl|skip
 rename_i k3;rw[Bool.not_eq_true]at k3;have a2:(isW w0 QAZ&&decide (((ws.length:Nat):Int)>1))=false:=by rw[show decide (((ws.length:Nat):Int)>1)=decide (ws.length>1)from n0];exact k3
 clear k3 n0;split at hZ
 ·rename_i k4
  rw[Bool.and_eq_true,beq_iff_eq]at k4;obtain⟨k4,k5⟩:=k4;have a3:(((ws.length:Nat):Int)==4)=true:=n4.trans (by rw[k5];rfl)
  have i1:1<ws.length:=by omega
  have i2:2<ws.length:=by omega
  have i3:3<ws.length:=by omega
  clear n1 n2 n4 k5 hs;subst hZ;(repeat' first|refine gA fun _=>?_|apply fkI<;>intro hb<;>try simp only[ew,hW0,hW1,hW2,hW3]at hb|simp only[go_sem,simprocAttr, *,hW0,hW1,hW2,hW3])
  all_goals first|rfl|skip
 rename_i k4;rw[Bool.not_eq_true]at k4;have a3:(isW w0 QwB&&(((ws.length:Nat):Int)==4))=false:=by rw[show(((ws.length:Nat):Int)==4)=(ws.length==4)from n4];exact k4
 clear k4 n4;split at hZ
 ·rename_i k5
  rw[Bool.and_eq_true,beq_iff_eq]at k5;obtain⟨k5,k6⟩:=k5;have a4:(((ws.length:Nat):Int)==2)=true:=n2.trans (by rw[k6];rfl)
  have i1:1<ws.length:=by omega
  clear n1 n2 k6 hs hc;cases q1:(spF w1.data.toList).2
  ·rw[QBv q1]at hZ
   subst hZ;(repeat' first|refine gA fun _=>?_|apply fkI<;>intro hb<;>try simp only[ew,hW0,hW1]at hb|simp only[go_sem,simprocAttr, *,hW0,hW1])
   all_goals first|rfl|skip
  ·rw[Qzg q1]at hZ
   dsimp only at hZ;have hy:(if Qg9 c rs m ds (spF w1.data.toList).1 then sOk else sNo)=QlC (Qg9 c rs m ds (spF w1.data.toList).1):=rfl
   rw[hy]at hZ;subst hZ;clear hy;(repeat' first|refine gA fun _=>?_|apply fkI<;>intro hb<;>try simp only[ew,hW0,hW1]at hb|simp only[go_sem,simprocAttr, *,hW0,hW1])
   all_goals first|rfl|skip
 rename_i k5;rw[Bool.not_eq_true]at k5;have a4:(isW w0 QwC&&(((ws.length:Nat):Int)==2))=false:=by rw[show(((ws.length:Nat):Int)==2)=(ws.length==2)from n2];exact k5
 clear k5;split at hZ
 ·rename_i k6
  have a5:(((ws.length:Nat):Int)==2)=true:=n2.trans k6
  rw[a5]at a4;rw[beq_iff_eq]at k6;have i1:1<ws.length:=by omega
  rw[Bool.and_true]at a4;clear n1 n2 k6 hs;cases q1:(pdF c w1).2
  ·rw[q1,if_neg (by decide)]at hZ
   subst hZ;clear hc;(repeat' first|refine gA fun _=>?_|apply fkI<;>intro hb<;>try simp only[ew,hW0,hW1]at hb|simp only[go_sem,simprocAttr, *,hW0,hW1])
   all_goals first|rfl|skip
  ·rw[q1,if_pos rfl]at hZ
   subst hZ;(repeat' first|refine gA fun _=>?_|apply fkI<;>intro hb<;>try simp only[ew,hW0,hW1]at hb|simp only[go_sem,simprocAttr, *,hW0,hW1])
   all_goals first|rfl|skip
 rename_i k6;rw[Bool.not_eq_true]at k6;have a5:(((ws.length:Nat):Int)==2)=false:=n2.trans k6
 rw[a5]at a4;rw[Bool.and_false]at a4;clear n2 k6 a4;split at hZ
 ·rename_i k7
  have a6:(((ws.length:Nat):Int)==1)=true:=n1.trans k7
  clear n1 k7 hs;subst hZ;(repeat' first|refine gA fun _=>?_|apply fkI<;>intro hb<;>try simp only[ew,hW0]at hb|simp only[go_sem,simprocAttr, *,hW0])
  all_goals first|rfl|skip
 ·rename_i k7
  rw[Bool.not_eq_true]at k7;have a6:(((ws.length:Nat):Int)==1)=false:=n1.trans k7
  clear n1 k7 hs hc;subst hZ;(repeat' first|refine gA fun _=>?_|apply fkI<;>intro hb<;>try simp only[ew,hW0]at hb|simp only[go_sem,simprocAttr, *,hW0])
  all_goals first|rfl|skip
theorem Qhu:∀{ls:List ByteArray} {σ:Con},QcY σ→QcY (QZ σ ls).1
 | [],σ,h=>h
 | l::r,σ,h=>by
  rw[QZ];split
  ·exact Qhu h
  ·exact Qhu (Qx5 h)
theorem QjX{ls:List ByteArray}{l:ByteArray}{σ:Con}:QZ σ (ls++[l])=if isW l ⟨#[]⟩then QZ σ ls else((QgV (QZ σ ls).1 (Qbm 32 l)).1,(QZ σ ls).2++((QgV (QZ σ ls).1 (Qbm 32 l)).2++⟨#[10]⟩)):=by
 induction ls generalizing σ with
 | nil=>
  have e1:QZ σ []=(σ,⟨#[]⟩):=rfl
  have e2:QZ σ [l]=if isW l ⟨#[]⟩then QZ σ []else((QZ (QgV σ (Qbm 32 l)).1 []).1,((QgV σ (Qbm 32 l)).2++⟨#[10]⟩)++(QZ (QgV σ (Qbm 32 l)).1 []).2):=rfl
  rw[List.nil_append,e2,e1]
  by_cases h:isW l ⟨#[]⟩=true
  ·rw[if_pos h,if_pos h]
  ·rw[if_neg h,if_neg h]
   refine Prod.ext rfl ?_
   have e3:∀τ:Con,(QZ τ []).2=⟨#[]⟩:=fun _=>rfl
   dsimp only;rw[e3];exact Qcg (by simp only[QdO];rw[List.append_nil,List.nil_append])
 | cons x r ih=>
  rw[List.cons_append,QZ,QZ]
  by_cases hx:isW x ⟨#[]⟩=true
  ·rw[if_pos hx,if_pos hx,ih]
  ·rw[if_neg hx,if_neg hx,ih]
   by_cases h:isW l ⟨#[]⟩=true
   ·rw[if_pos h,if_pos h]
   ·rw[if_neg h,if_neg h]
    refine Prod.ext rfl ?_
    dsimp only;exact Qcg (by simp only[QdO,List.append_assoc])
theorem QjW{ls:List ByteArray}{σ:Con}(h:QcY σ):(QZ σ ls).2.size≤ls.length*10001:=by
 induction ls generalizing σ with
 | nil=>exact Nat.zero_le _
 | cons x r ih=>
  rw[QZ];split
  ·have:=ih h;rw[List.length_cons,Nat.add_mul,Nat.one_mul];exact Nat.le_trans this (Nat.le_add_right _ _)
  ·have h1:=@Qlj σ (Qbm 32 x) h
   have h2:=ih (@Qx5 σ (Qbm 32 x) h)
   dsimp only;rw[Qg,Qg];have:ByteArray.size ⟨#[10]⟩=1:=rfl
   rw[List.length_cons,Nat.add_mul,Nat.one_mul];generalize r.length*10001=q at h2 ⊢;omega
theorem Qky{c:UInt8}{s:ByteArray}:∀w∈Qbm c s,w.size≤s.size:=fun w hw=>by
 unfold Qbm at hw;obtain⟨l,hl,rfl⟩:=List.mem_map.1 hw;have:=Qh9 l hl
 rw[bsz]at this;exact this
theorem Qkx{c:UInt8}{s:ByteArray}:0<(Qbm c s).length:=by
 unfold Qbm;rw[List.length_map];exact List.length_pos_iff.2 Qdm
theorem Qhm{c:UInt8}{s:ByteArray}:(Qbm c s).length≤s.size+1:=by
 unfold Qbm;rw[List.length_map];have:=@Qfy c s.data.toList
 rw[bsz]at this;exact this
theorem QjP{w:ByteArray}:(w.toList==ByteArray.toList ⟨#[]⟩)=isW w ⟨#[]⟩:=rfl
theorem Qit{ls:List ByteArray}(h:0<ls.length):(isW (ls.getD (ls.length-1) ⟨#[]⟩) ⟨#[]⟩=true∧Qis ls=ls.take (ls.length-1))∨(isW (ls.getD (ls.length-1) ⟨#[]⟩) ⟨#[]⟩=false∧Qis ls=ls):=by
 unfold Qis;cases hq:isW (ls.getD (ls.length-1) ⟨#[]⟩) ⟨#[]⟩
 ·exact .inr ⟨rfl,if_neg (by decide)⟩
 ·exact .inl ⟨rfl,if_pos rfl⟩
theorem QDN:Qwj ⟨#[10]⟩=10:=rfl
theorem QDO:Qwj ⟨#[32]⟩=32:=rfl
theorem QDU:ByteArray.size ⟨#[10]⟩=1:=rfl
theorem QDV:ByteArray.size ⟨#[32]⟩=1:=rfl
theorem Qef{ws:List ByteArray}{n:Nat}:(tL ws).take n=tL (ws.take n):=by simp[tL,List.map_take]
end Go.Own

namespace Go.Own
open Go Go.Proofs
attribute [local go_sem] Qvx Qsn Tryz.results7
theorem cOr{a b:Bool}:cond a true b=(a||b):=by cases a<;>rfl
theorem QsB{σ:Con}:Con.mk σ.c σ.rs σ.m σ.ds σ.gv=σ:=rfl
theorem QxG{σ:Con}(h:QcY σ):σ.rs.length≤maxLen∧(∀r∈σ.rs,r.length≤maxLen)∧σ.ds.length≤maxLen∧σ.gv.length≤maxLen:=by
 obtain⟨_,h1,h2,h3,h4⟩:=Qbz h;exact⟨Nat.le_trans h1 (by decide),fun r hr=>Nat.le_trans (h2 r hr) (by decide),Nat.le_trans h3 (by decide),Nat.le_trans h4 (by decide)⟩
def cRC:Qb:=⟨[],false,fun
 | [.one (.v (.string s))]=>some (s.size≤1073741824,[⟨false,[.d (.v (.string (rcF s)))]⟩],[])
 | _=>none⟩
attribute [local go_sem] cRC
attribute [local go_sem] cOr QsB QjP QuT Qz Qh Qe Qaa Qac Qab Qaf QaX QdJ Qu Qbh QC Qbs Qct QfX QgX QgW Qee QDN QDO QDU QDV
theorem QB5:Qa E0 7 cRC:=by
  refine QE (E:=E0) (T:=mkT Tryz.prog [(20,Qvx),(21,Qsn)] false (fun d=>d==11||d==44) true (fun d=>d==996)) (Qd (E:=E0) (.cons QAt (.cons QAk .nil))) (fn:=Tryz.f7) Tryz.func7 (by kernel_rfl) rfl Qc (by kernel_rfl) rfl ?_
  intro args p rs ms hr;unfold cRC at hr;dsimp only at hr;split at hr;rotate_left
  · cases hr
  rename_i s;cases hr;refine⟨rfl,rfl,nLe rfl,?_⟩
  have hm:=mxE;intro h1 bs;have hlt:s.size<4294967281:=by omega
  have l0:=@Qkx 10 s
  have l1:=@Qhm 10 s
  have l2:=@Qky 10 s
  have eZ:rcF s=if(decide (s.size>3000)||decide ((Qis (Qbm 10 s)).length>60))=true then⟨#[]⟩else(QZ Qge (Qis (Qbm 10 s))).2:=rfl
  have hlc:=Qit l0
  generalize hC:Qbm 10 s=C at l0 l1 l2 eZ hlc;generalize hZ:rcF s=Z at eZ;generalize hL:Qis C=L at eZ hlc;clear hL;have hm1:C.length≤maxLen:=Nat.le_trans (show _≤1073741825 by omega) (by decide)
  have iz:C.length-1<C.length:=by omega
  have hi0:(((C.length:Nat):Int)-1)=((C.length-1:Nat):Int):=by omega
  have hLs:(∀w∈L,w.size≤1073741824)∧L.length≤maxLen:=by
    rcases hlc with⟨_,e⟩|⟨_,e⟩<;>rw[e]
    · exact⟨fun w hw=>Nat.le_trans (l2 w (List.mem_of_mem_take hw)) h1,by rw[List.length_take];omega⟩
    · exact⟨fun w hw=>Nat.le_trans (l2 w hw) h1,hm1⟩
  obtain⟨hLs,hLm⟩:=hLs;have hgs:=fun i=>Qd0 hLs i
  clear l1 l2 hLs;have hs3:decide (s.size>3000)=decide (((s.size:Nat):Int)>3000):=by
    rw[Bool.eq_iff_iff,decide_eq_true_eq,decide_eq_true_eq];omega
  have hl6:decide (L.length>60)=decide (((L.length:Nat):Int)>60):=by
    rw[Bool.eq_iff_iff,decide_eq_true_eq,decide_eq_true_eq];omega
  rw[hs3,hl6]at eZ;clear hs3 hl6;generalize hD:C.getD (C.length-1) ⟨#[]⟩=D0 at hlc;rcases hlc with⟨q1,e⟩|⟨q1,e⟩
  all_goals
    first
    | (have e2:L=C:=e
       clear e;subst e2)
    | replace e:=e.symm
    cases hq:(decide (((s.size:Nat):Int)>3000)||decide (((L.length:Nat):Int)>60))
    rotate_left
    · rw[hq,if_pos rfl]at eZ
      subst eZ;clear hgs;(repeat' first|refine gA fun _=>?_|apply fkI<;>intro hb<;>try simp only[ew,hC,hi0,hD,Qef,Int.toNat_natCast,List.drop_zero]at hb|simp only[go_sem,simprocAttr, *,hC,hi0,hD,Qef,Int.toNat_natCast,List.drop_zero])
      all_goals first|rfl|skip
    · rw[hq,if_neg (by decide)]at eZ
      have h60:L.length≤60:=by
        rw[Bool.or_eq_false_iff]at hq;have:=of_decide_eq_false hq.2
        omega
      (repeat' first|refine gA fun _=>?_|apply fkI<;>intro hb<;>try simp only[ew,hC,hi0,hD,Qef,Int.toNat_natCast,List.drop_zero]at hb|simp only[go_sem,simprocAttr, *,hC,hi0,hD,Qef,Int.toNat_natCast,List.drop_zero])
      refine lpI {ι:=Nat,rs:=[(7,10),(36,54)],mods:=[(35,fun k=> .one (.d (.v (.int .i64 k)))),(5,fun k=> .one (.d (.v (.string (QZ Qge (L.take k)).2))))],boxes:=[(4,fun k=>[.d (.v (.int .i64 (QZ Qge (L.take k)).1.c)),.d (.sl 1 (sL (QZ Qge (L.take k)).1.rs)),.d (.v (.int .i64 (QZ Qge (L.take k)).1.m)),.d (.sl 2 (dL (QZ Qge (L.take k)).1.ds)),.d (.sl 2 (dL (QZ Qge (L.take k)).1.gv))])],arrs:=[],ok:=fun k=>k≤L.length,mu:=fun k=>L.length-k} rfl 0 (Nat.zero_le _) ?_ fun k hk=>?_
      · have e3:QZ Qge []=(⟨0,[],0,[],[]⟩,⟨#[]⟩):=rfl
        clear hgs;(repeat' first|refine gA fun _=>?_|apply fkI<;>intro hb<;>try simp only[ew,e3,List.take_zero,QbW,QaU]at hb|simp only[go_sem,simprocAttr, *,e3,List.take_zero,QbW,QaU])
        all_goals first|rfl|skip
      · dsimp only at k hk
        by_cases h5:k<L.length
        · have hz:=hgs k
          have hT:L.take (k+1)=L.take k++[L.getD k ⟨#[]⟩]:=Qf h5 _
          have hok:=@Qhu (L.take k) Qge Qkv
          have hos:=@QjW (L.take k) Qge Qkv
          have hlt:(L.take k).length≤60:=by rw[List.length_take];omega
          generalize hB:L.getD k ⟨#[]⟩=b at hz hT;have hN:=@QjX (L.take k) b Qge
          rw[←hT]at hN;clear hgs hT eZ hq;generalize hS:QZ Qge (L.take k)=S at hok hos hN;cases hb:isW b ⟨#[]⟩
          · rw[hb,if_neg (by decide)]at hN
            have hr:=@Qlj S.1 (Qbm 32 b) hok
            obtain⟨w1,w2,w3,w4⟩:=QxG hok;have v0:=@Qkx 32 b
            have v1:=@Qhm 32 b
            have v2:∀w∈Qbm 32 b,w.size≤1073741824:=fun w hw=>Nat.le_trans (Qky w hw) hz
            generalize hW:Qbm 32 b=ws at hN hr v0 v1 v2;have v3:ws.length≤maxLen:=Nat.le_trans (show _≤1073741825 by omega) (by decide)
            have v4:ws.length≤2147483648:=by omega
            have v5:b.size<4294967281:=by omega
            generalize hR:QgV S.1 ws=R at hN hr;have z1:ByteArray.size ⟨#[10]⟩=1:=rfl
            have o1:S.2.size≤600060:=by omega
            clear hos;(repeat' first|refine gA fun _=>?_|apply fkI<;>intro hb<;>try simp only[ew,hB,hS,hW,hR,Qg,z1]at hb|simp only[go_sem,simprocAttr, *,hB,hS,hW,hR,Qg,z1])
            refine lpN (k+1) (by omega) (by dsimp only;omega) ?_
            (repeat' first|refine gA fun _=>?_|apply fkI<;>intro hb<;>try simp only[ew,hN]at hb|simp only[go_sem,simprocAttr, *,hN])
          · rw[hb,if_pos rfl]at hN
            (repeat' first|refine gA fun _=>?_|apply fkI<;>intro hb<;>try simp only[ew,hB,hS]at hb|simp only[go_sem,simprocAttr, *,hB,hS])
            refine lpN (k+1) (by omega) (by dsimp only;omega) ?_
            (repeat' first|refine gA fun _=>?_|apply fkI<;>intro hb<;>try simp only[ew,hN]at hb|simp only[go_sem,simprocAttr, *,hN])
        · have e5:k=L.length:=by omega
          subst e5;have hT:L.take L.length=L:=List.take_length
          clear hgs;(repeat' first|refine gA fun _=>?_|apply fkI<;>intro hb<;>try simp only[ew,hT,eZ]at hb|simp only[go_sem,simprocAttr, *,hT,eZ])
          all_goals first|rfl|skip
end Go.Own
