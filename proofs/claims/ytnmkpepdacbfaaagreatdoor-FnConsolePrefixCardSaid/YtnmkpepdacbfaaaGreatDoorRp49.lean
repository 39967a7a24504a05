/- Contracts. Conditions: as stated. -/
import Derived.Test.YtnmkpepdacbfaaaGreatDoorRp48
import Derived.Test.YtnmkpepdacbfaaaGreatDoorRp46
set_option linter.all false
set_option maxRecDepth 20000
set_option maxHeartbeats 4000000
namespace Go.Own
open Go Go.Proofs
section
attribute [local go_sem] cRC Tryz.results3
theorem QqO(b:ByteArray):(!(b.toList==b.toList))=false:=by simp
end
attribute [local go_sem] Tryz.results17 Qtv QDb cRC QC8 Tryz.results5 QEK QEH QaK QZ QjD
def Qtp(a b:ByteArray):Bool:=decide ((a.size:Int)≤b.size)&&(b.extract 0 a.size).toList==a.toList
theorem QwT{a t:ByteArray}:Qtp a (a++t)=true:=by
 unfold Qtp;rw[KZ (by rw[Qe];omega),KY,Kh]
 congr 1
 refine QbG ?_
 have:((a++t).extract 0 a.size).data.toList=(a++t).data.toList.take a.size:=by
  rw[ByteArray.data_extract,Array.toList_extract,List.extract_eq_take_drop,K1,Nat.sub_zero]
 rw[this,Qb2,←bsz,List.take_left]
def QEF:Qb:=⟨[],false,fun
 | [.one (.v (.string a)),.one (.v (.string b))]=>some (True,[⟨false,[.d (.v (.bool (Qtp a b)))]⟩],[])
 | _=>none⟩
attribute [local go_sem] QEF
theorem QAm:Qa E0 17 QEF:=by
 refine QG (E:=E0) (T:=mkT Tryz.prog [] false (fun _=>false) true (fun _=>false)) (Qd (E:=E0) .nil) (fn:=Tryz.f17) Tryz.func17 kR rfl Qc kR rfl ?_
 intro args p rs ms hr;unfold QEF at hr;dsimp only at hr;split at hr;rotate_left
 ·cases hr
 rename_i a b;cases hr;refine⟨rfl,rfl,nLe rfl,?_⟩
 have hm:=mxE;intro _ bs;unfold Qtp
 by_cases h:a.size≤b.size
 ·have hd:decide ((a.size:Int)≤b.size)=true:=KZ (by omega)
  (repeat' first|refine gA fun _=>?_|apply fkI<;>intro hb<;>try simp only[ew,hd,Option.toArray]at hb|simp only[go_sem,simprocAttr, *,hd,Option.toArray])
  all_goals first|rfl|skip
 ·have hd:decide ((a.size:Int)≤b.size)=false:=KW (by omega)
  (repeat' first|refine gA fun _=>?_|apply fkI<;>intro hb<;>try simp only[ew,hd,Option.toArray]at hb|simp only[go_sem,simprocAttr, *,hd,Option.toArray])
  all_goals first|rfl|skip
theorem QzF{k:Nat}{l:List UInt8}:∀{i:Nat},(pst k l i).cut≤i∧(pst k l i).lines≤i∧(pst k l i).full≤i∧(pst k l i).frm≤i
 | 0=>⟨KP _,KP _,KP _,KP _⟩
 | i+1=>by
  have ih:=@QzF k l i
  rw[pst,Qvw];split
  ·dsimp only
   refine⟨?_,by omega,?_,by omega⟩<;>split<;>omega
  ·omega
theorem Qxp{l:List UInt8}{j:Nat}(h:j<l.length):(l.take (j+1)).count 10=(l.take j).count 10+(if l.getD j 0=10 then 1 else 0):=by
 rw[Qf h 0,List.count_append,List.count_singleton];congr 1
 simp only[Kh]
theorem QBV{s:ByteArray}:(rcF s).size≤600060:=by
 unfold rcF;split
 ·exact KJ _
 ·rename_i h
  simp only[Kq,KK,not_or]at h
  have:=QgX (ls:=Qc2 (Qa9 10 s)) QiG
  omega
theorem QxN{s:ByteArray}{l:List UInt8}{n:Nat}(hl:s.data.toList=l):s.extract 0 n=toS (l.take n):=by
 refine QbG ?_
 rw[Qmc,←hl,ByteArray.data_extract,Array.toList_extract,List.extract_eq_take_drop,K1,Nat.sub_zero]
def okP(K:Nat)(l:List UInt8)(z:Nat×PS):Prop:=z.1≤l.length+1∧(z.1≤l.length→z.2=pst K l z.1)∧(z.1=l.length+1→z.2.cut=(Qwp K l).cut∧z.2.lines=(Qwp K l).lines∧z.2.full=(Qwp K l).full)
def QtC:Qb:=⟨[],false,fun
 | [.one (.sl 1 l)]=>some (WfB l∧∀b∈unB l,0≤b∧b≤255,[⟨false,[.d (.v (.bool true))]⟩],[])
 | _=>none⟩
attribute [local go_sem] QtC
theorem Qyi:Qa E0 5 QtC:=by
 refine QG (E:=E0) (T:=mkT Tryz.prog [(8,Qtv),(16,QDb),(7,cRC),(6,cRC),(9,QC8),(17,QEF)] false (fun _=>false) true (fun d=>d==999)) (Qd (E:=E0) (.cons QAo (.cons QDv (.cons QD8 (.cons QD9 (.cons QC3 (.cons QAm .nil))))))) (fn:=Tryz.f5) Tryz.func5 kR rfl Qc kR rfl ?_
 intro args p rs ms hr;unfold QtC at hr;dsimp only at hr;split at hr;rotate_left
 ·cases hr
 rename_i l;cases hr;refine⟨rfl,rfl,nLe rfl,?_⟩
 have hm:=mxE;rintro⟨h1,h3⟩ bs0;obtain⟨bs,rfl,hx⟩:=h1.ex;clear h1;rw[QaK]at h3
 by_cases hb:bs.length>1048576
 ·have hb':decide (bs.length>1048576)=true:=KZ hb
  clear h3;(repeat' first|refine gA fun _=>?_|apply fkI<;>intro hb<;>try simp only[ew,hb']at hb|simp only[go_sem,simprocAttr, *,hb'])
  all_goals first|rfl|skip
 have hb':decide (bs.length>1048576)=false:=KW hb
 have hb2:bs.length≤1048576:=by omega
 have hm0:=@Qti bs 0 h3 (by decide)
 have em:Int.tmod (atI bs 0) 9=atI bs 0%9:=Int.tmod_eq_emod_of_nonneg hm0.1
 obtain⟨K,hK,hK1⟩:∃K:Nat,(1:Int)+atI bs 0%9=K∧1≤K:=⟨(1+atI bs 0%9).toNat,by omega,by omega⟩
 have hK9:K≤9:=by omega
 obtain⟨_,_,_,_,_,r1⟩:=QmW bs;generalize hS:Qr7 bs=s at r1;have hlaw:=@QBQ s K hK1 _ rfl
 have hbz:=@bsz s
 generalize hR:rcF s=R at hlaw;have hbr:=@bsz R
 have hRz:R.size≤600060:=hR▸QBV
 (repeat' first|refine gA fun _=>?_|apply fkI<;>intro hb<;>try simp only[ew,hb',hS,hR,QqO,em,hK]at hb|simp only[go_sem,simprocAttr, *,hb',hS,hR,QqO,em,hK])
 generalize hl:s.data.toList=l at hlaw hbz;have hl2:=hl
 have hat:∀i,i<s.size→Qdr s i=((l.getD i 0).toNat:Nat):=fun i _=>by rw[←hl];exact Qgo
 clear hm0 em hK hS hR hl;have hm2:maxLen=9223372036854775807:=hm;refine lpI {ι:=Nat×PS,rs:=[(27,74)],mods:=[(10,fun z=> .one (.d (.v (.int .i64 ((z.1:Nat):Int))))),(5,fun z=> .one (.d (.v (.int .i64 ((z.2.cut:Nat):Int))))),(6,fun z=> .one (.d (.v (.int .i64 ((z.2.lines:Nat):Int))))),(7,fun z=> .one (.d (.v (.int .i64 ((z.2.full:Nat):Int))))),(9,fun z=> .one (.d (.v (.int .i64 ((z.2.frm:Nat):Int)))))],boxes:=[],arrs:=[],ok:=okP K l,mu:=fun z=>s.size+1-z.1} rfl (0,⟨0,0,0,0⟩) ⟨by dsimp only;omega,fun _=>rfl,fun h=>by dsimp only at h;omega⟩ ?_ fun z hz=>?_
 ·clear hlaw hat
  exact gQ
 obtain⟨i,P⟩:=z;obtain⟨hi1,hi2,hi3⟩:=hz;dsimp only at hi1 hi2 hi3 ⊢
 by_cases h5:i≤s.size
 ·have hP:=hi2 (by omega)
  have bd:=@QzF K l i
  rw[←hP]at bd;clear hi2 hi3 hlaw;obtain⟨b1,b2,b3,b4⟩:=bd;have hrl:l.length=s.size:=hbz
  by_cases h6:i=s.size
  ·have e6:(((i:Nat):Int)==((s.size:Nat):Int))=true:=by rw[h6];exact beq_self_eq_true _
   have e6b:¬i<s.size:=by omega
   have hil:i=l.length:=by omega
   have hst:=True.intro
   clear hat
   by_cases h7:P.frm=i
   ·have e7:(((P.frm:Nat):Int)==((i:Nat):Int))=true:=by rw[h7];exact beq_self_eq_true _
    have hE:Qwp K l=P:=by unfold Qwp;rw[←hil,←hP,if_pos h7]
    have hok:okP K l (i+1,P):=⟨by dsimp only;omega,fun h=>by dsimp only at h;omega,fun _=>by rw[hE];exact⟨rfl,rfl,rfl⟩⟩
    clear hst hP hE hbz hrl;clear h7 hil h6;(repeat' first|refine gA fun _=>?_|apply fkI<;>intro hb<;>try simp only[ew,e6,e7]at hb|simp only[go_sem,simprocAttr, *,e6,e7])
    refine lpN (i+1,P) hok (by dsimp only;omega) ?_
    clear hok;exact gQ
   ·have e7:(((P.frm:Nat):Int)==((i:Nat):Int))=false:=KU.2 (by omega)
    have e8:P.frm<i:=by omega
    have hE:Qwp K l=⟨P.cut,P.lines+1,P.full+1,P.frm⟩:=by unfold Qwp;rw[←hil,←hP,if_neg h7]
    have hok:okP K l (i+1,⟨P.cut,P.lines+1,P.full+1,i+1⟩):=⟨by dsimp only;omega,fun h=>by dsimp only at h;omega,fun _=>by rw[hE];exact⟨rfl,rfl,rfl⟩⟩
    clear hst hP hE hbz hrl;clear h7 hil h6
    by_cases h10:P.lines+1=K
    ·have e10:(((P.lines:Nat):Int)+1==((K:Nat):Int))=true:=Kh.2 (by omega)
     have e10b:(((P.lines+1:Nat):Int)==((K:Nat):Int))=true:=Kh.2 (by omega)
     clear h10;(repeat' first|refine gA fun _=>?_|apply fkI<;>intro hb<;>try simp only[ew,e6,e7,e10,e10b]at hb|simp only[go_sem,simprocAttr, *,e6,e7,e10,e10b])
     refine lpN (i+1,⟨P.cut,P.lines+1,P.full+1,i+1⟩) hok (by dsimp only;omega) ?_
     clear hok;exact gQ
    ·have e10:(((P.lines:Nat):Int)+1==((K:Nat):Int))=false:=KU.2 (by omega)
     have e10b:(((P.lines+1:Nat):Int)==((K:Nat):Int))=false:=KU.2 (by omega)
     clear h10;(repeat' first|refine gA fun _=>?_|apply fkI<;>intro hb<;>try simp only[ew,e6,e7,e10,e10b]at hb|simp only[go_sem,simprocAttr, *,e6,e7,e10,e10b])
     refine lpN (i+1,⟨P.cut,P.lines+1,P.full+1,i+1⟩) hok (by dsimp only;omega) ?_
     clear hok;exact gQ
  ·have e6:(((i:Nat):Int)==((s.size:Nat):Int))=false:=KU.2 (by omega)
   have e6b:i<s.size:=by omega
   have hc:=hat i e6b
   have hst:pst K l (i+1)=Qvw K i (l.getD i 0) P:=by rw[hP];rfl
   have hE:=True.intro
   clear hat;unfold Qvw at hst
   by_cases h8:l.getD i 0=10
   ·rw[if_pos h8]at hst
    have e8:(Qdr s i !=10)=false:=by rw[hc,h8];rfl
    clear hc h8 h6
    by_cases h9:P.frm<i
    ·rw[if_pos h9]at hst
     by_cases h10:P.lines+1=K
     ·rw[if_pos h10]at hst
      have e10:(((P.lines:Nat):Int)+1==((K:Nat):Int))=true:=Kh.2 (by omega)
      have e10b:(((P.lines+1:Nat):Int)==((K:Nat):Int))=true:=Kh.2 (by omega)
      have hok:okP K l (i+1,⟨i+1,P.lines+1,P.full+1,i+1⟩):=⟨by dsimp only;omega,fun _=>hst.symm,fun h=>by dsimp only at h;omega⟩
      clear hst hP hE hbz hrl;clear h10;(repeat' first|refine gA fun _=>?_|apply fkI<;>intro hb<;>try simp only[ew,e6,e8,e10,e10b]at hb|simp only[go_sem,simprocAttr, *,e6,e8,e10,e10b])
      refine lpN (i+1,⟨i+1,P.lines+1,P.full+1,i+1⟩) hok (by dsimp only;omega) ?_
      clear hok;exact gQ
     ·rw[if_neg h10]at hst
      have e10:(((P.lines:Nat):Int)+1==((K:Nat):Int))=false:=KU.2 (by omega)
      have e10b:(((P.lines+1:Nat):Int)==((K:Nat):Int))=false:=KU.2 (by omega)
      have hok:okP K l (i+1,⟨P.cut,P.lines+1,P.full+1,i+1⟩):=⟨by dsimp only;omega,fun _=>hst.symm,fun h=>by dsimp only at h;omega⟩
      clear hst hP hE hbz hrl;clear h10;(repeat' first|refine gA fun _=>?_|apply fkI<;>intro hb<;>try simp only[ew,e6,e8,e10,e10b]at hb|simp only[go_sem,simprocAttr, *,e6,e8,e10,e10b])
      refine lpN (i+1,⟨P.cut,P.lines+1,P.full+1,i+1⟩) hok (by dsimp only;omega) ?_
      clear hok;exact gQ
    ·rw[if_neg h9,Nat.add_zero]at hst
     by_cases h10:P.lines+1=K
     ·rw[if_pos h10]at hst
      have e10:(((P.lines:Nat):Int)+1==((K:Nat):Int))=true:=Kh.2 (by omega)
      have e10b:(((P.lines+1:Nat):Int)==((K:Nat):Int))=true:=Kh.2 (by omega)
      have hok:okP K l (i+1,⟨i+1,P.lines+1,P.full,i+1⟩):=⟨by dsimp only;omega,fun _=>hst.symm,fun h=>by dsimp only at h;omega⟩
      clear hst hP hE hbz hrl;clear h10;(repeat' first|refine gA fun _=>?_|apply fkI<;>intro hb<;>try simp only[ew,e6,e8,e10,e10b]at hb|simp only[go_sem,simprocAttr, *,e6,e8,e10,e10b])
      refine lpN (i+1,⟨i+1,P.lines+1,P.full,i+1⟩) hok (by dsimp only;omega) ?_
      clear hok;exact gQ
     ·rw[if_neg h10]at hst
      have e10:(((P.lines:Nat):Int)+1==((K:Nat):Int))=false:=KU.2 (by omega)
      have e10b:(((P.lines+1:Nat):Int)==((K:Nat):Int))=false:=KU.2 (by omega)
      have hok:okP K l (i+1,⟨P.cut,P.lines+1,P.full,i+1⟩):=⟨by dsimp only;omega,fun _=>hst.symm,fun h=>by dsimp only at h;omega⟩
      clear hst hP hE hbz hrl;clear h10;(repeat' first|refine gA fun _=>?_|apply fkI<;>intro hb<;>try simp only[ew,e6,e8,e10,e10b]at hb|simp only[go_sem,simprocAttr, *,e6,e8,e10,e10b])
      refine lpN (i+1,⟨P.cut,P.lines+1,P.full,i+1⟩) hok (by dsimp only;omega) ?_
      clear hok;exact gQ
   ·rw[if_neg h8]at hst
    have e8:(Qdr s i !=10)=true:=by
     rw[hc,bne_iff_ne];intro e;apply h8
     rw[←UInt8.toNat_inj];show(l.getD i 0).toNat=10
     omega
    clear hc h8 h6;have hok:okP K l (i+1,P):=⟨by dsimp only;omega,fun _=>hst.symm,fun h=>by dsimp only at h;omega⟩
    clear hst hP hE hbz hrl;(repeat' first|refine gA fun _=>?_|apply fkI<;>intro hb<;>try simp only[ew,e6,e8]at hb|simp only[go_sem,simprocAttr, *,e6,e8])
    refine lpN (i+1,P) hok (by dsimp only;omega) ?_
    clear hok;exact gQ
 ·have hil:i=l.length+1:=by omega
  obtain⟨q1,q2,q3⟩:=hi3 hil;have d5:decide (((i:Nat):Int)≤((s.size:Nat):Int))=false:=KW (by omega)
  clear hi1 hi2 hi3 hat hil;obtain⟨w1,w2⟩:=hlaw;generalize Qwp K l=E at *;obtain⟨cut,lines,full,frm⟩:=P;dsimp only at q1 q2 q3 ⊢;subst q1 q2 q3;cases hA:decide (E.lines>60)
  ·have hA':decide (((E.lines:Nat):Int)>60)=false:=by rw[←hA,decide_eq_decide];omega
   cases hB:decide (s.size>3000)
   ·have hB':decide (((s.size:Nat):Int)>3000)=false:=by rw[←hB,decide_eq_decide];omega
    obtain⟨v1,⟨t,v2⟩,v3⟩:=w2 (by rw[hA,hB];rfl)
    have hbg:Qtp (rcF (toS (l.take E.cut))) R=true:=by rw[v2];exact QwT
    clear w1 w2 v2;(repeat' first|refine gA fun _=>?_|apply fkI<;>intro hb<;>try simp only[ew,d5,hA',hB']at hb|simp only[go_sem,simprocAttr, *,d5,hA',hB'])
    refine lpI {ι:=Nat,rs:=[(83,95)],mods:=[(12,fun z=> .one (.d (.v (.int .i64 ((z:Nat):Int))))),(11,fun z=> .one (.d (.v (.int .i64 (((R.data.toList.take z).count 10:Nat):Int)))))],boxes:=[],arrs:=[],ok:=fun z=>z≤R.size,mu:=fun z=>R.size-z} rfl 0 (KJ _) ?_ fun j hj=>?_
    ·have e0:((R.data.toList.take 0).count 10:Nat)=0:=rfl
     (repeat' first|refine gA fun _=>?_|apply fkI<;>intro hb<;>try simp only[ew,e0]at hb|simp only[go_sem,simprocAttr, *,e0])
     all_goals first|rfl|skip
    ·dsimp only at j hj
     have cb:(R.data.toList.take j).count 10≤j:=KF List.count_le_length (by rw[KO];omega)
     by_cases h6:j<R.size
     ·have hc:=@Qgo R j
      have hs:=Qxp (l:=R.data.toList) (j:=j) (by omega)
      clear v3 hbg;generalize hN:(R.data.toList.take j).count 10=n at hs cb
      by_cases h7:R.data.toList.getD j 0=10
      ·rw[if_pos h7]at hs
       have e7:(Qdr R j==10)=true:=by rw[hc,h7];rfl
       clear hc;clear h7;(repeat' first|refine gA fun _=>?_|apply fkI<;>intro hb<;>try simp only[ew,e7,hN]at hb|simp only[go_sem,simprocAttr, *,e7,hN])
       refine lpQ (j+1) ?_
       (repeat' first|refine gA fun _=>?_|apply fkI<;>intro hb<;>try simp only[ew,hs]at hb|simp only[go_sem,simprocAttr, *,hs])
       all_goals first|rfl|skip
      ·rw[if_neg h7,Nat.add_zero]at hs
       have e7:(Qdr R j==10)=false:=by
        rw[hc,KU];intro e;apply h7
        rw[←UInt8.toNat_inj];show(R.data.toList.getD j 0).toNat=10
        omega
       clear hc;clear h7;(repeat' first|refine gA fun _=>?_|apply fkI<;>intro hb<;>try simp only[ew,e7,hN]at hb|simp only[go_sem,simprocAttr, *,e7,hN])
       refine lpQ (j+1) ?_
       (repeat' first|refine gA fun _=>?_|apply fkI<;>intro hb<;>try simp only[ew,hs]at hb|simp only[go_sem,simprocAttr, *,hs])
       all_goals first|rfl|skip
     ·have e5:j=R.size:=by omega
      subst e5;have hn:(R.data.toList.take R.size).count 10=E.full:=by rw[←v3,Kj (by omega)];rfl
      have hx:s.extract 0 E.cut=toS (l.take E.cut):=QxN hl2
      have hxz:(toS (l.take E.cut)).size≤1073741824:=by rw[Qmd,KO];omega
      have heq:(((E.full:Nat):Int)==((E.full:Nat):Int))=true:=beq_self_eq_true _
      clear v3 cb;(repeat' first|refine gA fun _=>?_|apply fkI<;>intro hb<;>try simp only[ew,hn,hx,hbg,heq,Option.toArray]at hb|simp only[go_sem,simprocAttr, *,hn,hx,hbg,heq,Option.toArray])
      all_goals first|rfl|skip
   ·have hB':decide (((s.size:Nat):Int)>3000)=true:=by rw[←hB,decide_eq_decide];omega
    have hE:=w1 (by rw[hB,Bool.or_true])
    clear w1 w2;subst hE;(repeat' first|refine gA fun _=>?_|apply fkI<;>intro hb<;>try simp only[ew,d5,hA',hB']at hb|simp only[go_sem,simprocAttr, *,d5,hA',hB'])
    all_goals first|rfl|skip
  ·have hA':decide (((E.lines:Nat):Int)>60)=true:=by rw[←hA,decide_eq_decide];omega
   have hE:=w1 (by rw[hA,YC])
   clear w1 w2;subst hE;(repeat' first|refine gA fun _=>?_|apply fkI<;>intro hb<;>try simp only[ew,d5,hA']at hb|simp only[go_sem,simprocAttr, *,d5,hA'])
   all_goals first|rfl|skip
end Go.Own
