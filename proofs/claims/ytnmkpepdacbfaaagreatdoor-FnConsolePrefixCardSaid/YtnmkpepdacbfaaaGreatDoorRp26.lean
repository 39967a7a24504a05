/- Contracts. Conditions: as stated. -/
import Derived.Test.YtnmkpepdacbfaaaGreatDoorRp25
set_option linter.all false
set_option maxRecDepth 20000
set_option maxHeartbeats 2000000
namespace Go.Own
open Go Go.Proofs
attribute [local go_sem] Qke Tryz.results122 Qh Qg Qae Qag Qaf Qaj Qa7 Qd1 Qv Qa6
def QkW(K:St→Prop):St→Prop:=K
theorem QkW.mk{T:QS}{ops:Array Oper}{K:St→Prop}{l:List Oper}{s:St}(h:TL T ops (QkW K) l s):TL T ops K l s:=h
theorem QkW.out{K:St→Prop}{s:St}(h:K s):QkW K s:=h
attribute [irreducible] QkW
def Qmk(L:List (Int×Int))(r:Int)(xs:List Int):List (Int×Int):=(xs.filter fun x=>L.any fun e=>e==(x,r)).map fun x=>(x,r)
def s17(L:List (Int×Int))(xs:List Int):Nat→List (Int×Int)
 | 0=>[]
 | r+1=>s17 L xs r++Qmk L (r:Nat) xs
theorem Qrc{L:List (Int×Int)}{r:Int}{xs:List Int}:(Qmk L r xs).length≤xs.length:=by
 unfold Qmk;rw[KV];exact K3 _ _
theorem Qpd{L:List (Int×Int)}{xs:List Int}(h:xs.length≤32):∀{r:Nat},(s17 L xs r).length≤r*32
 | 0=>KP _
 | r+1=>by
  have h1:=@Qpd L xs h r
  have h2:=@Qrc L (r:Nat) xs
  rw[s17,KN];omega
theorem QvK{L:List (Int×Int)}{r:Int}{xs:List Int}{i:Nat}(h:i<xs.length):Qmk L r (xs.take (i+1))=Qmk L r (xs.take i)++(if(L.any fun e=>e==(xs.getD i 0,r))then [(xs.getD i 0,r)]else []):=by
 unfold Qmk;rw[Qf h 0,List.filter_append,Kv,List.filter_cons,List.filter_nil];split<;>rfl
def QDf:Qb:=⟨[],false,fun
 | [.one (.sl 2 l),.one (.v (.int .i64 n))]=>some (WfD l∧0≤n∧n≤5,[⟨false,[.own 2 (dL (s17 (unD l) (Q8 n) n.toNat)) 1]⟩],[])
 | _=>none⟩
attribute [local go_sem] QDf
theorem QEe:Qa E0 122 QDf:=by
 refine QG (E:=E0) (T:=mkT Tryz.prog [(28,Qke)] false (fun _=>false) true (fun _=>false)) (Qd (E:=E0) (.cons QlW .nil)) (fn:=Tryz.f122) Tryz.func122 kR rfl Qc kR rfl ?_
 intro args p rs ms hr;unfold QDf at hr;dsimp only at hr;split at hr;rotate_left
 ·cases hr
 rename_i l n;cases hr;refine⟨rfl,rfl,nLe rfl,?_⟩
 have hm:=mxE;rintro⟨h1,n0,n5⟩ bs;obtain⟨L,rfl,hx⟩:=h1.ex;clear h1;rw[Qh];obtain⟨m,rfl⟩:=KL n0;rw[KE];obtain⟨P1,_,P3⟩:=@QH (m:Int);generalize hX:Q8 (m:Int)=X at P1 P3 ⊢;have P1':X.length≤maxLen:=KF P1 (by decide)
 have hsl:=fun r=>@Qpd L X P1 r
 have e0:s17 L X 0=[]:=rfl
 (repeat' first|refine gA fun _=>?_|apply fkI<;>intro hb<;>try simp only[ew,hX]at hb|simp only[go_sem,simprocAttr, *])
 refine lpI {ι:=Nat,rs:=[(8,10),(13,56)],mods:=[(7,fun r=> .one (.d (.v (.int .i64 r)))),(5,fun r=> .one (.own 2 (dL (s17 L X r)) 1))],boxes:=[],arrs:=[(6,fun _=>(1,iL X,1))],ok:=fun r=>r≤m,mu:=fun r=>m-r} rfl 0 (KJ _) ?_ fun r hr=>?_
 ·clear hsl P3
  (repeat' first|refine gA fun _=>?_|apply fkI<;>intro hb<;>try simp only[ew,hX,e0]at hb|simp only[go_sem,simprocAttr, *])
  all_goals first|rfl|skip
 ·dsimp only at r hr
  have l1:=hsl r
  have l2:(s17 L X r).length≤160:=by omega
  have l3:(s17 L X r).length≤maxLen:=KF l2 (by decide)
  clear hsl l1
  by_cases h5:r<m
  ·have eR:s17 L X (r+1)=s17 L X r++Qmk L (r:Nat) X:=rfl
   generalize hA:s17 L X r=A at l2 l3 eR;have e1:A++Qmk L (r:Nat) (X.take 0)=A:=by simp[Qmk]
   have hcl:=fun i=>@Qrc L (r:Nat) (X.take i)
   (repeat' first|refine gA fun _=>?_|apply fkI<;>intro hb<;>try simp only[ew,hA]at hb|simp only[go_sem,simprocAttr, *])
   refine lpI {ι:=Nat,rs:=[(9,10),(18,56)],mods:=[(8,fun i=> .one (.d (.v (.int .i64 i)))),(5,fun i=> .one (.own 2 (dL (A++Qmk L (r:Nat) (X.take i))) 1))],boxes:=[],arrs:=[(6,fun _=>(1,iL X,1))],ok:=fun i=>i≤X.length,mu:=fun i=>X.length-i} rfl 0 (KJ _) ?_ fun i hi=>?_
   ·clear hcl P3
    (repeat' first|refine gA fun _=>?_|apply fkI<;>intro hb<;>try simp only[ew,hA,e1]at hb|simp only[go_sem,simprocAttr, *])
    all_goals first|rfl|(simp[Qmk];done)|skip
   ·dsimp only at i hi
    have c1:=hcl i
    rw[KO]at c1;have c2:(A++Qmk L (r:Nat) (X.take i)).length≤192:=by rw[KN];omega
    have c3:(A++Qmk L (r:Nat) (X.take i)).length≤maxLen:=KF c2 (by decide)
    clear hcl c1
    by_cases h6:i<X.length
    ·have eC:=congrArg (fun z=>A++z) (QvK (L:=L) (r:=(r:Nat)) h6)
     try dsimp only at eC
     rw[←Kn]at eC;generalize hB:A++Qmk L (r:Nat) (X.take i)=B at c2 c3 eC;generalize hx0:X.getD i 0=x at eC;generalize hF:(L.any fun e=>e==(x,(r:Int)))=F at eC
     clear P3;(repeat' first|refine gA fun _=>?_|apply fkI<;>intro hb<;>try simp only[ew,hB,hx0]at hb|simp only[go_sem,simprocAttr, *])
     refine lpI {ι:=Nat,rs:=[(5,6),(24,56)],mods:=[(9,fun k=> .one (.d (.v (.int .i64 k))))],boxes:=[],arrs:=[(5,fun _=>(2,dL B,1)),(6,fun _=>(1,iL X,1))],ok:=fun k=>k≤L.length∧((L.drop k).any fun e=>e==(x,(r:Int)))=F,mu:=fun k=>L.length-k} rfl 0 ⟨KJ _,hF⟩ ?_ fun k hk=>?_
     ·clear hF
      (repeat' first|refine gA fun _=>?_|apply fkI<;>intro hb<;>try simp only[ew,hB,hx0]at hb|simp only[go_sem,simprocAttr, *])
      all_goals first|rfl|skip
     ·as_aux_lemma=>
      dsimp only at k hk;obtain⟨hk,ht⟩:=hk;clear hF
      by_cases h7:k<L.length
      ·rw[QfI h7 (0,0)]at ht
       generalize hg:L.getD k (0,0)=g at ht;obtain⟨u,v⟩:=g;cases q1:(v==(r:Int))
       ·have q3:((u,v)==(x,(r:Int)))=false:=by rw[←KS,Kh,KC];rw[KU]at q1;exact fun h=>q1 h.2
        rw[q3,K8]at ht;as_aux_lemma=>
        (repeat' first|refine gA fun _=>?_|apply fkI<;>intro hb<;>try simp only[ew,hg,q1]at hb|simp only[go_sem,simprocAttr, *,q1])
        refine lpN (k+1) ⟨by omega,ht⟩ (by dsimp only;omega) ?_
        clear ht;(repeat' first|refine gA fun _=>?_|apply fkI<;>intro hb<;>try simp only[ew,hg,q1]at hb|simp only[go_sem,simprocAttr, *,q1])
       ·cases q2:(u==x)
        ·have q3:((u,v)==(x,(r:Int)))=false:=by rw[←KS,Kh,KC];rw[KU]at q2;exact fun h=>q2 h.1
         rw[q3,K8]at ht;as_aux_lemma=>
         (repeat' first|refine gA fun _=>?_|apply fkI<;>intro hb<;>try simp only[ew,hg,q1,q2]at hb|simp only[go_sem,simprocAttr, *,q1,q2])
         refine lpN (k+1) ⟨by omega,ht⟩ (by dsimp only;omega) ?_
         clear ht;(repeat' first|refine gA fun _=>?_|apply fkI<;>intro hb<;>try simp only[ew,hg,q1,q2]at hb|simp only[go_sem,simprocAttr, *,q1,q2])
        ·have q4:(u,v)=(x,(r:Int)):=by rw[Kh]at q1 q2;rw[q1,q2]
         rw[q4,beq_self_eq_true,YC]at ht;subst ht;rw[if_pos rfl,←q4]at eC;clear q4;(iterate 1 (try first|(refine gA fun _=>?_)|(refine fkI (fun hb=>?_) (fun hb=>?_)<;>(try simp only[ew,hg,q1,q2,Qm]at hb))|(simp only[go_sem,simprocAttr, *,hg,q1,q2,Qm])))
         (iterate 1 (try first|(refine gA fun _=>?_)|(refine fkI (fun hb=>?_) (fun hb=>?_)<;>(try simp only[ew,hg,q1,q2,Qm]at hb))|(simp only[go_sem,simprocAttr, *,hg,q1,q2,Qm])))
         refine QkW.mk ?_
         (repeat' first|refine gA fun _=>?_|apply fkI<;>intro hb<;>try simp only[ew,hg,q1,q2,Qm]at hb|simp only[go_sem,simprocAttr, *,q1,q2,Qm])
         refine QkW.out ?_
         dsimp only[Qjq,QnL,Qry,Qwi,QkV,QnV,Qit,QfL,Nat.reduceEqDiff,reduceIte,reduceCtorEq];refine QkW.mk ?_
         as_aux_lemma=>
         (repeat' first|refine gA fun _=>?_|apply fkI<;>intro hb<;>try simp only[ew,hg,q1,q2]at hb|simp only[go_sem,simprocAttr, *,q1,q2])
         refine QkW.out ?_
         as_aux_lemma=>
         (repeat' first|refine gA fun _=>?_|apply fkI<;>intro hb<;>try simp only[ew,hg,q1,q2]at hb|simp only[go_sem,simprocAttr, *,q1,q2])
         refine lpQ (i+1) ?_
         as_aux_lemma=>
         (repeat' first|refine gA fun _=>?_|apply fkI<;>intro hb<;>try simp only[ew,hB,eC,Qm]at hb|simp only[go_sem,simprocAttr, *,Qm])
      ·have e7:k=L.length:=by omega
       subst e7;rw[K7,List.any_nil]at ht;subst ht;rw[if_neg (by decide),KM]at eC
       as_aux_lemma=>
       (repeat' first|refine gA fun _=>?_|apply fkI<;>intro hb<;>try simp only[ew]at hb|simp only[go_sem,simprocAttr, *])
       refine lpQ (i+1) ?_
       (repeat' first|refine gA fun _=>?_|apply fkI<;>intro hb<;>try simp only[ew,hB,eC]at hb|simp only[go_sem,simprocAttr, *])
    ·have e6:i=X.length:=by omega
     subst e6;have eT:X.take X.length=X:=KR
     clear P3;(repeat' first|refine gA fun _=>?_|apply fkI<;>intro hb<;>try simp only[ew,eT]at hb|simp only[go_sem,simprocAttr, *])
     refine lpQ (r+1) ?_
     (repeat' first|refine gA fun _=>?_|apply fkI<;>intro hb<;>try simp only[ew,eR,eT]at hb|simp only[go_sem,simprocAttr, *])
  ·have e5:r=m:=by omega
   subst e5;clear P3;exact gQ
end Go.Own
