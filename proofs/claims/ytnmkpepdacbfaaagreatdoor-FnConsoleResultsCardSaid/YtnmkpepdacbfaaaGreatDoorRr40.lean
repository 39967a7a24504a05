/-
  The console: what a line does. Conditions: as each theorem states them.
-/
import Derived.Test.YtnmkpepdacbfaaaGreatDoorRr24
import Derived.Test.YtnmkpepdacbfaaaGreatDoorRr39
set_option linter.unusedSimpArgs false
set_option linter.unusedVariables false
namespace Go.Own
open Go Go.Proofs
structure Con where
  c:Int
  rs:List (List Int)
  m:Int
  ds:List (Int×Int)
  gv:List (Int×Int)
def Qkm:Con:=⟨0,[],0,[],[]⟩
def QrM(b:ByteArray):Int:=if isW b Qea then 1 else if isW b Qeb then 0 else -1
def QtB(σ:Con)(a b:ByteArray):Con×ByteArray:=
 if nmB (l3V a) [] (QrM b)then(⟨l3V a,[],QrM b,mdL (l3V a) [] (QrM b),[]⟩,sOk)else(σ,sNo)
def Qsj(σ:Con)(ws:List ByteArray):Con×ByteArray:=
 if Qiz σ.c σ.rs σ.m σ.ds (ws.map l3V)then({σ with rs:=QlZ σ.c σ.rs σ.m σ.ds (ws.map l3V),ds:=Qo1 σ.c σ.rs σ.m σ.ds (ws.map l3V)},sOk)else(σ,sNo)
def Quj(σ:Con)(a:ByteArray):Con×ByteArray:=
 if QhP σ.c σ.rs σ.m σ.ds (l3V a)then({σ with rs:=QfX σ.c σ.rs σ.m σ.ds (l3V a),ds:=QhU σ.c σ.rs σ.m σ.ds (l3V a)},sOk)else(σ,sNo)
def Qqs(σ:Con)(p l v:ByteArray):Con×ByteArray:=
 if((paF l).2&&decide (((mem (paF l).1).length:Int)=1))=true then
  if QpF σ.c σ.rs σ.m σ.ds (l3V p) ((mem (paF l).1).getD 0 0) (l3V v)then({σ with rs:=Qtb σ.c σ.rs σ.m σ.ds (l3V p) ((mem (paF l).1).getD 0 0) (l3V v),ds:=Qta σ.c σ.rs σ.m σ.ds (l3V p) ((mem (paF l).1).getD 0 0) (l3V v)},sOk)else(σ,sNo)
 else(σ,Qmr)
def Qzc(σ:Con)(w:ByteArray)(d:Int×Int):Con×ByteArray:=
 if isW w Qwc then(σ,wlB σ.c σ.rs σ.m d.1 d.2)
 else if isW w Qwf then(if decide ((σ.gv.length:Int)≥20)=true then(σ,sNo)else({σ with gv:=σ.gv++[d]},Qdc ((σ.gv.length+1:Nat):Int)))
 else if isW w Qnt then(if Qpz σ.c σ.gv d.1 d.2 then(if(Qui σ.c σ.gv d.1 d.2).isEmpty then(σ,QAP)else(σ,jb ⟨#[59,32]⟩ (Qui σ.c σ.gv d.1 d.2)))else(σ,sNo))
 else(σ,Qmr)
def QvA(σ:Con)(w:ByteArray):Con×ByteArray:=
 if isW w Qhe then(σ,dlL σ.ds)
 else if isW w Qhf then(σ,slL (Qj0 σ.c σ.rs σ.m))
 else if isW w Qwb then(σ,slL (Qk8 σ.c σ.rs σ.m))
 else if isW w QAj then(σ,Qdc (σ.rs.length:Nat))
 else if isW w QAk then(if decide ((σ.ds.length:Int)>20)=true then(σ,sNo)else({σ with gv:=σ.ds},sOk))
 else if isW w Qwd then({σ with gv:=[]},sOk)
 else if isW w Qwe then(σ,dlL (QjZ σ.c σ.gv))
 else if isW w Qrz then(σ,QAS σ.c σ.gv)
 else(σ,Qmr)
def QfN(σ:Con)(ws:List ByteArray):Con×ByteArray:=
 if(isW (ws.getD 0 ⟨#[]⟩) Qbz&&ws.length==3)=true then QtB σ (ws.getD 1 ⟨#[]⟩) (ws.getD 2 ⟨#[]⟩)
 else if(σ.c==0)=true then(σ,Qwp)
 else if(isW (ws.getD 0 ⟨#[]⟩) Qla&&decide (ws.length>1))=true then Qsj σ (ws.drop 1)
 else if(isW (ws.getD 0 ⟨#[]⟩) Qry&&ws.length==4)=true then Qqs σ (ws.getD 1 ⟨#[]⟩) (ws.getD 2 ⟨#[]⟩) (ws.getD 3 ⟨#[]⟩)
 else if(isW (ws.getD 0 ⟨#[]⟩) QeQ&&ws.length==2)=true then Quj σ (ws.getD 1 ⟨#[]⟩)
 else if(ws.length==2)=true then(if(pdF σ.c (ws.getD 1 ⟨#[]⟩)).2 then Qzc σ (ws.getD 0 ⟨#[]⟩) (pdF σ.c (ws.getD 1 ⟨#[]⟩)).1 else(σ,Qmr))
 else if(ws.length==1)=true then QvA σ (ws.getD 0 ⟨#[]⟩)
 else(σ,Qmr)
def QN:Con→List ByteArray→Con×ByteArray
 | σ,[]=>(σ,⟨#[]⟩)
 | σ,l::r=>if isW l ⟨#[]⟩then QN σ r else((QN (QfN σ (QbO 32 l)).1 r).1,((QfN σ (QbO 32 l)).2++⟨#[10]⟩)++(QN (QfN σ (QbO 32 l)).1 r).2)
def Qhk(ls:List ByteArray):List ByteArray:=if isW (ls.getD (ls.length-1) ⟨#[]⟩) ⟨#[]⟩then ls.take (ls.length-1)else ls
def rcF(text:ByteArray):ByteArray:=if(decide (text.size>3000)||decide ((Qhk (QbO 10 text)).length>60))=true then⟨#[]⟩else(QN Qkm (Qhk (QbO 10 text))).2
def Qdm(σ:Con):Prop:=((σ.c=0∧σ.rs=[]∧σ.m=0∧σ.ds=[]∧σ.gv=[])∨isM σ.c σ.rs σ.m σ.ds=true)∧σ.gv.length≤20∧∀d∈σ.gv,Q2 σ.c d.1 d.2=true
theorem QqB:Qdm Qkm:=⟨.inl ⟨rfl,rfl,rfl,rfl,rfl⟩,by decide,fun d hd=>by cases hd⟩
theorem QxR{c:Int}{rs:List (List Int)}{m:Int}{ds:List (Int×Int)}(h:isM c rs m ds=true):∀d∈ds,Q2 c d.1 d.2=true:=by
 obtain⟨ht,hm,rfl⟩:=QaD h;obtain⟨n,rfl,n1,n5,_,_⟩:=QR ht;intro d hd;have e:mdL n rs m=QaJ (hdB n rs m) n:=by unfold mdL;rw[ht,hm];rfl
 rw[e]at hd;obtain⟨h1,h2⟩:=(QeW ⟨n1,n5⟩ (QrN n5)).1 hd;exact Qgm ⟨n1,n5⟩ h2.1 h1
theorem QAK{c:Int}{rs:List (List Int)}(h:QC c rs=true){r:List Int}(hr:r∈rs):Qbx r c=true:=by
 unfold QC at h;rw[Bool.and_eq_true,List.all_eq_true]at h;exact h.1 r hr
theorem QsS{c:Int}{rs:List (List Int)}{m:Int}{ds:List (Int×Int)}{a k v:Int}:QpF c rs m ds a k v=Qol c rs m ds a k v:=by
 unfold QpF;cases hv:Qol c rs m ds a k v
 ·rfl
 ·rw[Bool.true_and]
  unfold Qol at hv;rw[Bool.and_eq_true,Bool.and_eq_true,Bool.and_eq_true]at hv;obtain⟨⟨⟨h1,h2⟩,h3⟩,h4⟩:=hv;have hd:QhP c rs m ds a=true:=by unfold QhP;rw[h1,h2];rfl
  obtain⟨d1,d2⟩:=QlM hd;obtain⟨ht,hm,_⟩:=QaD h1;obtain⟨n,rfl,n1,n5,h40,_⟩:=QR ht;rw[Qh]at h2 h3;obtain⟨i,rfl⟩:=Int.eq_ofNat_of_zero_le h2.1;have hi:i<rs.length:=by omega
  have hr:=QAK ht (QI hi [])
  unfold Qiz;rw[d1,Bool.true_and,Bool.and_eq_true];refine⟨?_,decide_eq_true (by omega)⟩
  unfold Qf4;rw[Int.toNat_natCast];unfold Qbx at hr ⊢;rw[Bool.and_eq_true,List.all_eq_true,decide_eq_true_eq]at hr ⊢;refine⟨fun x hx=>?_,by rw[List.length_set];exact hr.2⟩
  rcases List.mem_or_eq_of_mem_set hx with hx|hx
  ·exact hr.1 x hx
  ·rw[hx];exact h4
theorem QjD{n m:Int}:nmB n [] m=(inB n 1 5&&QJ m):=by
 unfold nmB QC;simp
theorem QzB{a:ByteArray}{m:Int}:nmB (l3V a) [] m=((spF a.data.toList).2&&nmB (spF a.data.toList).1 [] m):=by
 rw[QjD,QjD];cases h:(spF a.data.toList).2
 ·rw[Bool.false_and]
  cases hb:inB (l3V a) 1 5
  ·rfl
  ·rw[Qh]at hb
   have:=(Qer (s:=a) (by omega)).1
   rw[h]at this;cases this
 ·rw[Bool.true_and]
  by_cases h0:0≤(spF a.data.toList).1
  ·rw[Qny h h0]
  ·have e1:inB (spF a.data.toList).1 1 5=false:=by
    cases hb:inB (spF a.data.toList).1 1 5
    ·rfl
    ·rw[Qh]at hb;omega
   have e2:inB (l3V a) 1 5=false:=by
    cases hb:inB (l3V a) 1 5
    ·rfl
    ·rw[Qh]at hb
     have:=(Qer (s:=a) (by omega)).2
     omega
   rw[e1,e2]
theorem QwY{a:ByteArray}{m:Int}(h:nmB (l3V a) [] m=true):(spF a.data.toList).1=l3V a:=by
 rw[QjD,Bool.and_eq_true,Qh]at h;exact(Qer (by omega)).2
def rvF:List ByteArray→List Int×Bool
 | []=>([],true)
 | w::r=>if(pvF w).2 then((pvF w).1::(rvF r).1,(rvF r).2)else([],false)
theorem Qmp{c:Int}:∀{ws:List ByteArray},(rvF ws).2=(ws.map l3V).all (fun v=>inB v (-1) 40)∧((rvF ws).2=true→(rvF ws).1=ws.map l3V)
 | []=>⟨rfl,fun _=>rfl⟩
 | w::r=>by
  obtain⟨i1,i2⟩:=@Qmp c r;obtain⟨p1,p2⟩:=@Qse w;rw[rvF,List.map_cons,List.all_cons,←p1];cases hp:(pvF w).2
  ·simp only[Bool.false_eq_true,if_false,Bool.false_and]
   exact⟨trivial,fun h=>by cases h⟩
  ·simp only[if_true,Bool.true_and]
   exact⟨i1,fun h=>by rw[p2 hp,i2 h]⟩
theorem QAL{σ:Con}{ws:List ByteArray}(h:(rvF ws).2=false):Qsj σ ws=(σ,sNo):=by
 unfold Qsj;rw[if_neg];intro hv;unfold Qiz at hv;rw[Bool.and_eq_true,Bool.and_eq_true]at hv;have hr:=hv.1.2
 unfold Qbx at hr;rw[Bool.and_eq_true,←(@Qmp 0 ws).1,h]at hr;exact absurd hr.1 (by decide)
theorem Qyw{σ:Con}{ws:List ByteArray}(h:(rvF ws).2=true):Qsj σ ws=({σ with rs:=QlZ σ.c σ.rs σ.m σ.ds (rvF ws).1,ds:=Qo1 σ.c σ.rs σ.m σ.ds (rvF ws).1},if Qiz σ.c σ.rs σ.m σ.ds (rvF ws).1 then sOk else sNo):=by
 rw[(@Qmp 0 ws).2 h];unfold Qsj;split
 ·rfl
 ·rename_i hv
  obtain⟨e1,e2⟩:=QuG (show Qiz σ.c σ.rs σ.m σ.ds (ws.map l3V)=false by simpa using hv)
  rw[e1,e2]
theorem QlN{c:Int}{rs:List (List Int)}{m:Int}{ds:List (Int×Int)}{a:Int}(h:a<0):QhP c rs m ds a=false:=by
 unfold QhP;cases hb:inB a 0 ((rs.length:Int)-1)
 ·rw[Bool.and_false]
 ·rw[Qh]at hb;omega
theorem Qz0{σ:Con}{a:ByteArray}(h:(spF a.data.toList).2=false):Quj σ a=(σ,sNo):=by
 unfold Quj;rw[if_neg];intro hv
 by_cases h0:0≤l3V a
 ·rw[(Qer h0).1]at h;cases h
 ·rw[QlN (by omega)]at hv;cases hv
theorem Qxu{σ:Con}{a:ByteArray}(h:(spF a.data.toList).2=true):Quj σ a=({σ with rs:=QfX σ.c σ.rs σ.m σ.ds (spF a.data.toList).1,ds:=QhU σ.c σ.rs σ.m σ.ds (spF a.data.toList).1},if QhP σ.c σ.rs σ.m σ.ds (spF a.data.toList).1 then sOk else sNo):=by
 have key:∀x:Int,QhP σ.c σ.rs σ.m σ.ds x=false→QfX σ.c σ.rs σ.m σ.ds x=σ.rs∧QhU σ.c σ.rs σ.m σ.ds x=σ.ds:=fun x hx=>by
  unfold QfX QhU;rw[hx];exact⟨rfl,rfl⟩
 unfold Quj
 by_cases h0:0≤(spF a.data.toList).1
 ·rw[Qny h h0]
  split
  ·rfl
  ·rename_i hv
   obtain⟨e1,e2⟩:=key _ (show QhP σ.c σ.rs σ.m σ.ds (spF a.data.toList).1=false by simpa using hv)
   rw[e1,e2]
 ·have hv:QhP σ.c σ.rs σ.m σ.ds (spF a.data.toList).1=false:=QlN (by omega)
  obtain⟨e1,e2⟩:=key _ hv;rw[if_neg,hv,e1,e2]
  ·rfl
  ·intro hv2
   have h1:¬0≤l3V a:=fun h1=>by have:=(Qer h1).2;omega
   rw[QlN (by omega)]at hv2;cases hv2
theorem QjW{c:Int}{rs:List (List Int)}{m:Int}{ds:List (Int×Int)}{a k v:Int}(h:a<0∨inB v (-1) 40=false):Qol c rs m ds a k v=false:=by
 unfold Qol;rcases h with h|h
 ·cases hb:inB a 0 ((rs.length:Int)-1)
  ·rw[Bool.and_false,Bool.false_and,Bool.false_and]
  ·rw[Qh]at hb;omega
 ·rw[h,Bool.and_false]
theorem QvM{σ:Con}{p l v:ByteArray}(hl:((paF l).2&&decide (((mem (paF l).1).length:Int)=1))=true)(h:((spF p.data.toList).2&&(pvF v).2)=false):Qqs σ p l v=(σ,sNo):=by
 unfold Qqs;rw[if_pos hl,QsS,if_neg];rw[QjW]
 ·decide
 ·rw[Bool.and_eq_false_iff]at h
  rcases h with h|h
  ·left
   by_cases h0:0≤l3V p
   ·rw[(Qer h0).1]at h;cases h
   ·omega
  ·right
   rw[←Qse.1];exact h
theorem Qxb{σ:Con}{p l v:ByteArray}(hl:((paF l).2&&decide (((mem (paF l).1).length:Int)=1))=true)(h:((spF p.data.toList).2&&(pvF v).2)=true):
  Qqs σ p l v=({σ with rs:=Qtb σ.c σ.rs σ.m σ.ds (spF p.data.toList).1 ((mem (paF l).1).getD 0 0) (pvF v).1,ds:=Qta σ.c σ.rs σ.m σ.ds (spF p.data.toList).1 ((mem (paF l).1).getD 0 0) (pvF v).1},if QpF σ.c σ.rs σ.m σ.ds (spF p.data.toList).1 ((mem (paF l).1).getD 0 0) (pvF v).1 then sOk else sNo):=by
 rw[Bool.and_eq_true]at h;have key:∀x y z:Int,Qol σ.c σ.rs σ.m σ.ds x y z=false→Qtb σ.c σ.rs σ.m σ.ds x y z=σ.rs∧Qta σ.c σ.rs σ.m σ.ds x y z=σ.ds:=fun x y z hx=>by
  unfold Qtb Qta;rw[hx];exact⟨rfl,rfl⟩
 rw[Qse.2 h.2];unfold Qqs;rw[if_pos hl,QsS,QsS];generalize (mem (paF l).1).getD 0 0=q
 by_cases h0:0≤(spF p.data.toList).1
 ·rw[Qny h.1 h0]
  split
  ·rfl
  ·rename_i hv
   obtain⟨e1,e2⟩:=key _ _ _ (show Qol σ.c σ.rs σ.m σ.ds (spF p.data.toList).1 q (l3V v)=false by simpa using hv)
   rw[e1,e2]
 ·have hv:Qol σ.c σ.rs σ.m σ.ds (spF p.data.toList).1 q (l3V v)=false:=QjW (.inl (by omega))
  obtain⟨e1,e2⟩:=key _ _ _ hv;rw[if_neg,hv,e1,e2]
  ·rfl
  ·intro hv2
   have h1:¬0≤l3V p:=fun h1=>by have:=(Qer h1).2;omega
   rw[QjW (.inl (by omega))]at hv2;cases hv2
theorem QzC{σ:Con}{a b:ByteArray}(h:Qdm σ):Qdm (QtB σ a b).1:=by
 unfold QtB;split
 ·rename_i hn
  refine⟨.inr ?_,by simp,fun d hd=>by cases hd⟩
  unfold nmB at hn;rw[Bool.and_eq_true]at hn;dsimp only;unfold isM;rw[hn.1,hn.2];simp
 ·exact h
theorem Qwo{σ:Con}{ws:List ByteArray}(h:Qdm σ):Qdm (QfN σ ws).1:=by
  unfold QfN;split
  · exact QzC h
  split
  · exact h
  rename_i hc;have hM:isM σ.c σ.rs σ.m σ.ds=true:=by
    rcases h.1 with h|h
    · rw[h.1]at hc;exact absurd rfl hc
    · exact h
  split
  · unfold Qsj
    split
    · rename_i hv
      exact⟨.inr (Ql0 hv),h.2⟩
    · exact h
  split
  · unfold Qqs
    split
    · split
      · rename_i hv
        rw[QsS]at hv;refine⟨.inr ?_,h.2⟩
        dsimp only;unfold Qtb Qta;rw[if_pos hv,if_pos hv];have hb:=@QsS σ.c σ.rs σ.m σ.ds (l3V (ws.getD 1 ⟨#[]⟩)) ((mem (paF (ws.getD 2 ⟨#[]⟩)).1).getD 0 0) (l3V (ws.getD 3 ⟨#[]⟩))
        rw[hv]at hb;unfold QpF at hb;rw[Bool.and_eq_true]at hb;exact Ql0 hb.2
      · exact h
    · exact h
  split
  · unfold Quj
    split
    · rename_i hv
      exact⟨.inr (QlM hv).1,h.2⟩
    · exact h
  split
  · split
    · rename_i hd
      unfold Qzc;split
      · exact h
      split
      · split
        · exact h
        · rename_i hl
          refine⟨.inr hM,?_,fun d hd'=>?_⟩
          · simp only[decide_eq_true_eq]at hl
            dsimp only;simp
            omega
          · dsimp only at hd'
            rcases List.mem_append.1 hd' with hd'|hd'
            · exact h.2.2 d hd'
            · rw[List.mem_singleton]at hd'
              subst hd';unfold pdF Qch at hd ⊢;split at hd
              · rename_i h2
                rw[if_pos h2];split at hd
                · rename_i h3
                  rw[if_pos h3];simp only[Bool.and_eq_true]at h3
                  exact h3.2
                · cases hd
              · cases hd
      split
      · split
        · split
          · exact h
          · exact h
        · exact h
      · exact h
    · exact h
  split
  · unfold QvA
    repeat' split
    all_goals first
      | exact h
      | (refine⟨.inr hM,by simp,fun d hd=>by cases hd⟩;done)
      | (rename_i hl
         refine⟨.inr hM,by simp only[decide_eq_true_eq]at hl;dsimp only;omega,QxR hM⟩)
  · exact h
end Go.Own
