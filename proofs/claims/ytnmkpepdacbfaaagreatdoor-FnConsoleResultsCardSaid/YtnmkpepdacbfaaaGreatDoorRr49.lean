/- Own contracts. Conditions: as each theorem states them. -/
import Derived.Test.YtnmkpepdacbfaaaGreatDoorRr48
set_option linter.unusedSimpArgs false
set_option linter.unusedVariables false
set_option maxRecDepth 20000
set_option maxHeartbeats 4000000
namespace Go.Own
open Go Go.Proofs
structure CR where
  i:Nat
  s:ByteArray
  w:ByteArray
  rs:List (List Int)
def Qyp(m:Int)(z:CR):Prop:=QjS z.s z.w (1+3*z.i) z.rs m∧QC 3 z.rs=true∧z.rs.length≤z.i∧z.s.size≤30+90*z.i∧z.w.size≤3+3000*z.i
def Qj2(a b c:Int):ByteArray:=(((Qbs a++⟨#[32]⟩)++Qbs b)++⟨#[32]⟩)++Qbs c++⟨#[10]⟩
def nxS(s:ByteArray):ByteArray:=s++⟨#[100,101,112,115,10,107,101,121,115,10]⟩
def nxW(w:ByteArray)(rs:List (List Int))(m:Int):ByteArray:=((((w++⟨#[111,107,10]⟩)++dlL (mdL 3 rs m))++⟨#[10]⟩)++slL (Qj0 3 rs m))++⟨#[10]⟩
def stR(z:CR)(m a b c:Int):CR:=⟨z.i+1,nxS ((z.s++⟨#[114,111,119,32]⟩)++Qj2 a b c),nxW z.w (z.rs++[[a,b,c]]) m,z.rs++[[a,b,c]]⟩
def stD(z:CR)(m:Int)(k:Nat):CR:=⟨z.i+1,nxS (((z.s++⟨#[100,114,111,112,32]⟩)++Qdc k)++⟨#[10]⟩),nxW z.w (z.rs.take k++z.rs.drop (k+1)) m,z.rs.take k++z.rs.drop (k+1)⟩
theorem Qt1{m:Int}(hm:m=0∨m=1){md:ByteArray}(h:md=if m=1 then Qea else Qeb):(((⟨#[99,111,108,117,109,110,115,32,51,32]⟩:ByteArray)++md)++⟨#[10]⟩).data.toList=QvT m++[10]:=by
 subst h;rw[Qav,Qav];rcases hm with rfl|rfl<;>rfl
theorem Qv8{a b c:Int}:ftF [a,b,c]=ftH++Qj2 a b c:=by
 refine Qa8 ?_
 unfold ftF Qj2;simp only[ftW,Qav,List.getD_cons_zero,List.getD_cons_succ,if_pos rfl,Nat.succ_ne_zero,if_false,List.append_assoc,Nat.reduceEqDiff,if_true]
theorem QyT{a b c:Int}(ha: -1≤a∧a≤40)(hb: -1≤b∧b≤40)(hc: -1≤c∧c≤40):QC 3 [[a,b,c]]=true:=by
 have:=Qog (c:=3) (rs:=[]) (row:=[a,b,c]) rfl (by
  unfold Qbx;simp only[List.all_cons,List.all_nil,Bool.and_true,Bool.and_eq_true,Qh,List.length_cons,List.length_nil,decide_eq_true_eq]
  exact⟨⟨ha,hb,hc⟩,by decide⟩) (by decide)
 exact this
theorem QxB{a b c:Int}:(ftF [a,b,c]).extract 4 (ftF [a,b,c]).size=Qj2 a b c:=by
 have e:=@Qv8 a b c
 rw[e];refine Qa8 ?_
 have hz:(ftH++Qj2 a b c).size=4+(Qj2 a b c).size:=by rw[Qd];rfl
 rw[hz];have:((ftH++Qj2 a b c).extract 4 (4+(Qj2 a b c).size)).data.toList=((ftH++Qj2 a b c).data.toList.drop 4).take (4+(Qj2 a b c).size-4):=by
  rw[ByteArray.data_extract,Array.toList_extract,List.extract_eq_take_drop]
 rw[this,Qav];have e2:(ftH.data.toList++(Qj2 a b c).data.toList).drop 4=(Qj2 a b c).data.toList:=rfl
 rw[e2,List.take_of_length_le (by rw[bsz];omega)]
theorem QkV{a b c:Int}(ha: -1≤a∧a≤40)(hb: -1≤b∧b≤40)(hc: -1≤c∧c≤40):(Qj2 a b c).size≤63:=by
 have h1:=QbZ ha.1 ha.2
 have h2:=QbZ hb.1 hb.2
 have h3:=QbZ hc.1 hc.2
 unfold Qj2;simp only[Qd,QbK]
 have:ByteArray.size ⟨#[10]⟩=1:=rfl
 omega
theorem QnJ{s:ByteArray}:(nxS s).size=s.size+10:=by unfold nxS;rw[Qd];rfl
theorem Qjb{rs:List (List Int)}{m:Int}:(dlL (mdL 3 rs m)).size≤1930∧(slL (Qj0 3 rs m)).size≤607:=by
 have h1:=@Qca 3 rs m
 have h2:=@Qhg 3 rs m
 refine⟨?_,?_⟩
 ·unfold dlL
  split
  ·decide
  ·have:=@Qjm (mdL 3 rs m);omega
 ·unfold slL
  split
  ·decide
  ·have:=@QeP (Qj0 3 rs m);omega
theorem QnK{w:ByteArray}{rs:List (List Int)}{m:Int}:(nxW w rs m).size≤w.size+2980:=by
 obtain⟨h3,h4⟩:=@Qjb rs m;unfold nxW;simp only[Qd]
 have e1:ByteArray.size ⟨#[10]⟩=1:=rfl
 have e2:ByteArray.size ⟨#[111,107,10]⟩=3:=rfl
 omega
theorem Qk4{w s1 w1:ByteArray}{n:Nat}{rs:List (List Int)}{m:Int}(h:QjS s1 w1 (n+1) rs m)(hw:w1=w++⟨#[111,107,10]⟩):QjS (nxS s1) (nxW w rs m) (n+3) rs m:=by
 have h2:QjS (s1++⟨#[100,101,112,115,10]⟩) ((w1++dlL (mdL 3 rs m))++⟨#[10]⟩) (n+2) rs m:=QsF h (by rw[Qav];rfl) (by simp only[Qav,List.append_assoc])
 have h3:QjS ((s1++⟨#[100,101,112,115,10]⟩)++⟨#[107,101,121,115,10]⟩) ((((w1++dlL (mdL 3 rs m))++⟨#[10]⟩)++slL (Qj0 3 rs m))++⟨#[10]⟩) (n+3) rs m:=QsH h2 (by rw[Qav];rfl) (by simp only[Qav,List.append_assoc])
 subst hw;have e:nxS s1=(s1++⟨#[100,101,112,115,10]⟩)++⟨#[107,101,121,115,10]⟩:=Qa8 (by unfold nxS;simp only[Qav,List.append_assoc];rfl)
 rw[e];exact h3
theorem Qva{m:Int}(hm:m=0∨m=1){z:CR}(hz:z.i<7)(h:Qyp m z){a b c:Int}(ha: -1≤a∧a≤40)(hb: -1≤b∧b≤40)(hc: -1≤c∧c≤40):Qyp m (stR z m a b c):=by
 obtain⟨h1,h2,h3,h4,h5⟩:=h;have hmo:QJ m=true:=by rcases hm with rfl|rfl<;>rfl
 obtain⟨k1,k2⟩:=Qvw (t:=(z.s++⟨#[114,111,119,32]⟩)++Qj2 a b c) (w2:=z.w++⟨#[111,107,10]⟩) h1 h2 hmo (by omega) ha hb hc (by
  unfold Qj2;simp only[Qav,List.append_assoc,List.cons_append,List.nil_append]
  rfl) (by rw[Qav];rfl)
 have hs:=QkV ha hb hc
 refine⟨?_,k2,?_,?_,?_⟩
 ·have:=Qk4 k1 rfl
  show QjS _ _ (1+3*(z.i+1)) _ _
  rw[show 1+3*(z.i+1)=1+3*z.i+3 by omega]
  exact this
 ·show(z.rs++[[a,b,c]]).length≤z.i+1
  rw[List.length_append];simp;omega
 ·show(nxS _).size≤30+90*(z.i+1)
  rw[QnJ,Qd,Qd];have:ByteArray.size ⟨#[114,111,119,32]⟩=4:=rfl
  omega
 ·show(nxW _ _ _).size≤3+3000*(z.i+1)
  have:=@QnK z.w (z.rs++[[a,b,c]]) m
  omega
theorem QiH{k:Nat}(hk:k≤40):(Qdc (k:Nat)).size≤20:=by
 have:=@QbZ (k:Nat) (by omega) (by omega)
 unfold Qbs at this;rwa [if_neg (by omega)]at this
theorem Qsf{m:Int}(hm:m=0∨m=1){z:CR}(hz:z.i<7)(h:Qyp m z){k:Nat}(hk:k<z.rs.length):Qyp m (stD z m k):=by
 obtain⟨h1,h2,h3,h4,h5⟩:=h;have hmo:QJ m=true:=by rcases hm with rfl|rfl<;>rfl
 obtain⟨k1,k2⟩:=QsG (t:=((z.s++⟨#[100,114,111,112,32]⟩)++Qdc (k:Nat))++⟨#[10]⟩) (w2:=z.w++⟨#[111,107,10]⟩) (k:=k) h1 h2 hmo hk (by
  simp only[Qav,List.append_assoc,List.cons_append,List.nil_append]
  rfl) (by rw[Qav];rfl)
 have hs:=@QiH k (by omega)
 refine⟨?_,k2,?_,?_,?_⟩
 ·have:=Qk4 k1 rfl
  show QjS _ _ (1+3*(z.i+1)) _ _
  rw[show 1+3*(z.i+1)=1+3*z.i+3 by omega]
  exact this
 ·show(z.rs.take k++z.rs.drop (k+1)).length≤z.i+1
  rw[List.length_append,List.length_take,List.length_drop];omega
 ·show(nxS _).size≤30+90*(z.i+1)
  rw[QnJ,Qd,Qd,Qd];have e1:ByteArray.size ⟨#[100,114,111,112,32]⟩=5:=rfl
  have e2:ByteArray.size ⟨#[10]⟩=1:=rfl
  omega
 ·show(nxW _ _ _).size≤3+3000*(z.i+1)
  have:=@QnK z.w (z.rs.take k++z.rs.drop (k+1)) m
  omega
theorem Qu9{m:Int}{z:CR}(hz:z.i=7)(h:Qyp m z):rcF z.s=z.w:=by
 obtain⟨h1,h2,h3,h4,h5⟩:=h;exact Qvv h1 (by omega) (by omega)
theorem Qpi{m:Int}(hm:m=0∨m=1){md:ByteArray}(h:md=if m=1 then Qea else Qeb):Qyp m ⟨0,((⟨#[99,111,108,117,109,110,115,32,51,32]⟩:ByteArray)++md)++⟨#[10]⟩,⟨#[111,107,10]⟩,[]⟩:=by
 obtain⟨k1,k2,k3⟩:=Qvu hm (Qt1 hm h);refine⟨k1,k2,Nat.le_refl _,?_,by show ByteArray.size ⟨#[111,107,10]⟩≤3+3000*0;decide⟩
 show(((⟨#[99,111,108,117,109,110,115,32,51,32]⟩:ByteArray)++md)++⟨#[10]⟩).size≤30+90*0
 subst h;rcases hm with rfl|rfl<;>decide
end Go.Own

namespace Go.Own
open Go Go.Proofs
attribute [local go_sem] Qig QtH QvJ cPA Qqh Qk9 Qzh cPD Tryz.results19 cRC Tryz.results6
attribute [local go_sem] QCj cOr QqC QdP QdQ Qcj Qgo QeL QeM Qiw QG Qm Qc QZ Q1 Q0 Q3 QaH Qdb Qr Qbp Qz Qbm Qcu Qf3 QhJ QhI Qew
theorem u32:UInt8.ofNat (Int.toNat 32)=32:=rfl
end Go.Own

namespace Go.Own
open Go Go.Proofs
attribute [local go_sem] Qqd QzE Qkg QzJ cMD cDL QtJ cSL cRC Tryz.results4
theorem QCF:(true==false)=false:=rfl
theorem QCv:(false==true)=false:=rfl
attribute [local go_sem] QCF QCv QbP Qab Qon QG Qm Qc QZ Q1 Q0 Q3 QaH Qdb Qr QaG
theorem Qn4{rs:List (List Int)}{r:List Int}:sL rs++[[D.sl 1 (iL r)]]=sL (rs++[r]):=by simp[sL]
theorem Qft{a b c:Int}:[[D.v (.int .i64 a)],[D.v (.int .i64 b)],[D.v (.int .i64 c)]]=iL [a,b,c]:=rfl
theorem Qje{r:List Int}:[[D.sl 1 (iL r)]]=sL [r]:=rfl
theorem Qra{a b:ByteArray}:[[D.v (.string a)],[D.v (.string b)]]=tL [a,b]:=rfl
def Qqk:Qb:=⟨[],false,fun
 | [.one (.sl 1 l)]=>some (WfB l∧∀b∈unB l,0≤b∧b≤255,[⟨false,[.d (.v (.bool true))]⟩],[])
 | _=>none⟩
attribute [local go_sem] Qqk
theorem gB{T:QH}{s:St}{p:Prop}{v:AV}{us:List (Id×Ob)}{ops:Array Oper}{K:St→Prop}{d:Option Nat}{r:List Oper}(k:p→TL T ops K r (s.put d v us))
  (h:p:=by first|omega|((repeat' (first|apply And.intro|assumption|omega|intro _));done)|(simp only[maxLen];omega)|(simp_all[maxLen];done)|(simp_all[maxLen];omega)):Qy6 p T ops K d r s v us:=Qfv h k
theorem QuO:Qa E0 4 Qqk:=by
 refine QV (E:=E0) (T:=mkT Tryz.prog [(8,Qqd),(9,QzE),(10,Qkg),(11,QzJ),(13,cMD),(12,cDL),(15,QtJ),(14,cSL),(7,cRC)] false (fun d=>d==17||d==48||d==89) true (fun d=>d==997||d==81)) (Qf (E:=E0) (.cons Qw1 (.cons QzA (.cons Qnh (.cons Qz5 (.cons QAr (.cons QzZ (.cons Qx3 (.cons QAU (.cons QAJ .nil)))))))))) (fn:=Tryz.f4) Tryz.func4 (by kernel_rfl) rfl Qe (by kernel_rfl) rfl ?_
 intro args p rs ms hr;unfold Qqk at hr;dsimp only at hr;split at hr;rotate_left
 ·cases hr
 rename_i l;cases hr;refine⟨rfl,rfl,nLe rfl,?_⟩
 have hm:=mxE;rintro⟨h1,h3⟩ bs0;obtain⟨bs,rfl,hx⟩:=h1.ex;clear h1;rw[QbP]at h3
 by_cases hb:bs.length>1048576
 ·have hb':decide (bs.length>1048576)=true:=decide_eq_true hb
  clear h3;(repeat' first|refine gA fun _=>?_|apply fkI<;>intro hb<;>try simp only[ew,hb']at hb|simp only[go_sem,simprocAttr, *,hb'])
  all_goals first|rfl|skip
 have hb':decide (bs.length>1048576)=false:=decide_eq_false hb
 have hb2:bs.length≤1048576:=by omega
 have hr:=fun i h0=>@Qp3 bs i h3 h0
 have hm0:=hr 0 (by decide)
 have em:Int.tmod (atI bs 0) 2=atI bs 0%2:=Int.tmod_eq_emod_of_nonneg hm0.1
 have hmm:atI bs 0%2=0∨atI bs 0%2=1:=by omega
 generalize hM:atI bs 0%2=m at hmm em;have hm1:0≤m:=by omega
 have hm2:m<2:=by omega
 obtain⟨md,hmd⟩:∃md,md=if m=1 then Qea else Qeb:=⟨_,rfl⟩;have hD:([⟨#[101,113,117,97,108]⟩,⟨#[97,112,97,114,116]⟩]:List ByteArray).getD m.toNat ⟨#[]⟩=md:=by
  subst hmd;rcases hmm with rfl|rfl<;>rfl
 have hg:(tL [⟨#[101,113,117,97,108]⟩,⟨#[97,112,97,114,116]⟩]).getD m.toNat []=[D.v (.string md)]:=by
  subst hmd;rcases hmm with rfl|rfl<;>rfl
 have hz:md.size=5:=by
  subst hmd;rcases hmm with rfl|rfl<;>rfl
 have hI:=Qpi hmm hmd
 generalize hS:((⟨#[99,111,108,117,109,110,115,32,51,32]⟩:ByteArray)++md)++⟨#[10]⟩=s0 at hI;have z10:ByteArray.size ⟨#[10]⟩=1:=rfl
 have zc:ByteArray.size ⟨#[99,111,108,117,109,110,115,32,51,32]⟩=10:=rfl
 clear hmd hD;(repeat' first|refine gA fun _=>?_|apply fkI<;>intro hb<;>try simp only[ew,hb',em,Qra,Qz,hg,hS,Qd,z10,zc]at hb|simp only[go_sem,simprocAttr, *,hb',em,Qra,Qz,hg,hS,Qd,z10,zc])
 clear hg hz hS zc hm0;refine lpI {ι:=CR,rs:=[(8,11),(23,121)],mods:=[(7,fun z=> .one (.d (.v (.int .i64 ((z.i:Nat):Int))))),(5,fun z=> .one (.d (.v (.string z.s)))),(6,fun z=> .one (.d (.v (.string z.w))))],boxes:=[(4,fun z=>[.d (.v (.int .i64 3)),.d (.sl 1 (sL z.rs))])],arrs:=[],ok:=fun z=>z.i≤7∧Qyp m z,mu:=fun z=>7-z.i} rfl ⟨0,s0,⟨#[111,107,10]⟩,[]⟩ ⟨Nat.zero_le _,hI⟩ ?_ fun z hz=>?_
 ·clear hI hr
  (repeat' first|refine gA fun _=>?_|apply fkI<;>intro hb<;>try simp only[ew,QdE]at hb|simp only[go_sem,simprocAttr, *,QdE])
  all_goals first|rfl|skip
 obtain⟨i,s,w,rs⟩:=z;obtain⟨hi,hJ⟩:=hz;dsimp only at hi;clear hI;have hJ':=hJ
 obtain⟨_,ht,hl,hsz,hwz⟩:=hJ';dsimp only at ht hl hsz hwz
 by_cases h5:i<7
 ·obtain⟨_,hrl⟩:=Qcd ht
  have hx2:rs.length≤maxLen:=by omega
  have hy2:∀r∈rs,r.length≤maxLen:=fun r hr=>by have:=hrl r hr;omega
  clear hrl;have r1:=hr (3*(i:Int)+1) (by omega)
  have r2:=hr (3*(i:Int)+2) (by omega)
  have r3:=hr (3*(i:Int)+3) (by omega)
  have r4:=hr (30+(i:Int)) (by omega)
  have r5:=hr (40+(i:Int)) (by omega)
  clear hr;have e1:Int.tmod (atI bs (3*(i:Int)+1)) 4=atI bs (3*(i:Int)+1)%4:=Int.tmod_eq_emod_of_nonneg r1.1
  have e2:Int.tmod (atI bs (3*(i:Int)+2)) 4=atI bs (3*(i:Int)+2)%4:=Int.tmod_eq_emod_of_nonneg r2.1
  have e3:Int.tmod (atI bs (3*(i:Int)+3)) 4=atI bs (3*(i:Int)+3)%4:=Int.tmod_eq_emod_of_nonneg r3.1
  have q1:0≤atI bs (3*(i:Int)+1)%4∧atI bs (3*(i:Int)+1)%4≤3:=by omega
  have q2:0≤atI bs (3*(i:Int)+2)%4∧atI bs (3*(i:Int)+2)%4≤3:=by omega
  have q3:0≤atI bs (3*(i:Int)+3)%4∧atI bs (3*(i:Int)+3)%4≤3:=by omega
  generalize atI bs (3*(i:Int)+1)%4=a at e1 q1;generalize atI bs (3*(i:Int)+2)%4=b at e2 q2;generalize atI bs (3*(i:Int)+3)%4=c at e3 q3;clear r1 r2 r3 r4;have hs7:s.size≤700:=by omega
  have hw7:w.size≤22000:=by omega
  have hl7:rs.length≤7:=by omega
  have h6:decide (((i:Nat):Int)<7)=true:=decide_eq_true (by omega)
  clear hsz hwz;have zd:ByteArray.size ⟨#[100,101,112,115,10,107,101,121,115,10]⟩=10:=rfl
  have zo:ByteArray.size ⟨#[111,107,10]⟩=3:=rfl
  by_cases hdr:(Int.tmod (atI bs (30+(i:Int))) 4==0)=true∧0<rs.length
  ·obtain⟨hq,hlen⟩:=hdr
   have e5:Int.tmod (atI bs (40+(i:Int))) (rs.length:Int)=atI bs (40+(i:Int))%(rs.length:Int):=Int.tmod_eq_emod_of_nonneg r5.1
   have k0:0≤atI bs (40+(i:Int))%(rs.length:Int):=Int.emod_nonneg _ (by omega)
   have k1:atI bs (40+(i:Int))%(rs.length:Int)<rs.length:=Int.emod_lt_of_pos _ (by omega)
   generalize atI bs (40+(i:Int))%(rs.length:Int)=kk at e5 k0 k1;obtain⟨k,rfl⟩:=Int.eq_ofNat_of_zero_le k0;have hk:k<rs.length:=by omega
   have hN:=Qsf hmm (z:=⟨i,s,w,rs⟩) h5 hJ hk
   have nb:=@QiH k (by omega)
   have nw:QuY (k:Nat)=Qdc (k:Nat):=QrV (by omega) (by omega)
   have ek:((k:Nat):Int)+1=((k+1:Nat):Int):=by omega
   have hlz:¬((rs.length:Nat):Int)=0:=by omega
   have hne:((rs.length:Nat):Int)>0:=by omega
   unfold stD at hN;dsimp only at hN;have zp:ByteArray.size ⟨#[100,114,111,112,32]⟩=5:=rfl
   have t2:=hN.2.1
   dsimp only at t2;obtain⟨d1,d2⟩:=@Qjb (rs.take k++rs.drop (k+1)) m;have m1:=(@Qca 3 (rs.take k++rs.drop (k+1)) m).1
   have m2:=@Qhg 3 (rs.take k++rs.drop (k+1)) m
   obtain⟨l40,hrl⟩:=Qcd t2;have hx3:(rs.take k++rs.drop (k+1)).length≤maxLen:=by omega
   have hy3:∀r∈rs.take k++rs.drop (k+1),r.length≤maxLen:=fun r hr=>by have:=hrl r hr;omega
   clear hrl hJ ht t2;generalize hR:rs.take k++rs.drop (k+1)=R at hN d1 d2 m1 m2 l40 hx3 hy3;generalize hP:Qdc (k:Nat)=P at hN nb nw;clear hlen;have hk':k≤rs.length:=by omega
   have hk2:k+1≤rs.length:=by omega
   (repeat' first|refine gB fun _=>?_|apply fkI<;>intro hb<;>try simp only[ew,h6,e1,e2,e3,e5,hq,hne,nw,ek,Qd,z10,zd,zo,zp,Qft,Qcs,Qgv,QjO,hR]at hb|simp only[go_sem,simprocAttr, *,h6,List.take_length,e1,e2,e3,e5,hq,hne,nw,ek,Qd,z10,zd,zo,zp,Qft,Qcs,Qgv,QjO,hR])
   refine lpN ⟨i+1,nxS (((s++⟨#[100,114,111,112,32]⟩)++P)++⟨#[10]⟩),nxW w R m,R⟩ ⟨by dsimp only;omega,hN⟩ (by dsimp only;omega) ?_
   clear hN;(repeat' first|refine gB fun _=>?_|apply fkI<;>intro hb<;>try simp only[ew,nxS,nxW]at hb|simp only[go_sem,simprocAttr, *,nxS,nxW])
   all_goals first|rfl|skip
  ·have hN:=Qva hmm (z:=⟨i,s,w,rs⟩) h5 hJ (a:=a-1) (b:=b-1) (c:=c-1) ⟨by omega,by omega⟩ ⟨by omega,by omega⟩ ⟨by omega,by omega⟩
   have hT1:=QyT (a:=a-1) (b:=b-1) (c:=c-1) ⟨by omega,by omega⟩ ⟨by omega,by omega⟩ ⟨by omega,by omega⟩
   have hcut:=@QxB (a-1) (b-1) (c-1)
   have hYz:=QkV (a:=a-1) (b:=b-1) (c:=c-1) ⟨by omega,by omega⟩ ⟨by omega,by omega⟩ ⟨by omega,by omega⟩
   have hXz:(ftF [a-1,b-1,c-1]).size=4+(Qj2 (a-1) (b-1) (c-1)).size:=by rw[Qv8,Qd];rfl
   have g0:([[a-1,b-1,c-1]]:List (List Int)).getD 0 []=[a-1,b-1,c-1]:=rfl
   unfold stR at hN;dsimp only at hN;have zr:ByteArray.size ⟨#[114,111,119,32]⟩=4:=rfl
   have t2:=hN.2.1
   dsimp only at t2;obtain⟨d1,d2⟩:=@Qjb (rs++[[a-1,b-1,c-1]]) m;have m1:=(@Qca 3 (rs++[[a-1,b-1,c-1]]) m).1
   have m2:=@Qhg 3 (rs++[[a-1,b-1,c-1]]) m
   obtain⟨l40,hrl⟩:=Qcd t2;have hx3:(rs++[[a-1,b-1,c-1]]).length≤maxLen:=by omega
   have hy3:∀r∈rs++[[a-1,b-1,c-1]],r.length≤maxLen:=fun r hr=>by have:=hrl r hr;omega
   clear hrl hJ ht t2;generalize hR:rs++[[a-1,b-1,c-1]]=R at hN d1 d2 m1 m2 l40 hx3 hy3;generalize hY:Qj2 (a-1) (b-1) (c-1)=Y at hN hcut hYz hXz;generalize hX:ftF [a-1,b-1,c-1]=X at hcut hXz;have hX4:4≤X.size:=by omega
   have hX67:X.size≤67:=by omega
   clear hY hXz;cases hq:(Int.tmod (atI bs (30+(i:Int))) 4==0)
   ·clear hdr
    (repeat' first|refine gB fun _=>?_|apply fkI<;>intro hb<;>try simp only[ew,h6,e1,e2,e3,hq,Qft,Qje,hT1,g0,hX,hcut,Qd,z10,zd,zo,zr,Qn4,hR]at hb|simp only[go_sem,simprocAttr, *,h6,QjO,e1,e2,e3,hq,Qft,Qje,hT1,g0,hX,hcut,Qd,z10,zd,zo,zr,Qn4,hR])
    refine lpN ⟨i+1,nxS ((s++⟨#[114,111,119,32]⟩)++Y),nxW w R m,R⟩ ⟨by dsimp only;omega,hN⟩ (by dsimp only;omega) ?_
    clear hN;(repeat' first|refine gB fun _=>?_|apply fkI<;>intro hb<;>try simp only[ew,nxS,nxW]at hb|simp only[go_sem,simprocAttr, *,nxS,nxW])
    all_goals first|rfl|skip
   ·have hlen:¬0<rs.length:=fun h=>hdr ⟨hq,h⟩
    have hn2:decide (((rs.length:Nat):Int)>0)=false:=decide_eq_false (by omega)
    clear hdr;(repeat' first|refine gB fun _=>?_|apply fkI<;>intro hb<;>try simp only[ew,h6,e1,e2,e3,hq,hn2,Qft,Qje,hT1,g0,hX,hcut,Qd,z10,zd,zo,zr,Qn4,hR]at hb|simp only[go_sem,simprocAttr, *,h6,QjO,e1,e2,e3,hq,hn2,Qft,Qje,hT1,g0,hX,hcut,Qd,z10,zd,zo,zr,Qn4,hR])
    refine lpN ⟨i+1,nxS ((s++⟨#[114,111,119,32]⟩)++Y),nxW w R m,R⟩ ⟨by dsimp only;omega,hN⟩ (by dsimp only;omega) ?_
    clear hN;(repeat' first|refine gB fun _=>?_|apply fkI<;>intro hb<;>try simp only[ew,nxS,nxW]at hb|simp only[go_sem,simprocAttr, *,nxS,nxW])
    all_goals first|rfl|skip
 ·have e7:i=7:=by omega
  subst e7;have hE:=Qu9 (z:=⟨7,s,w,rs⟩) rfl hJ
  dsimp only at hE;clear hr hJ ht;(repeat' first|refine gB fun _=>?_|apply fkI<;>intro hb<;>try simp only[ew,hE]at hb|simp only[go_sem,simprocAttr, *,hE])
  all_goals first|rfl|skip
end Go.Own
