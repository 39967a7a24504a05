/- Contracts. Conditions: as stated. -/
import Derived.Test.YtnmkpepdacbfaaaGreatDoorRp05
set_option linter.all false
set_option maxRecDepth 20000
set_option maxHeartbeats 2000000
namespace Go.Own
open Go Go.Proofs
section
attribute [local go_sem] Qcw QcL Tryz.results97 Tryz.results146 Tryz.results23
theorem Qtl(ns:List Int):Qca ns=⟨(ns.map fun n=>UInt8.ofNat n.toNat).toArray⟩:=by
 have:∀(ns:List Int) (b:ByteArray),ns.foldl (fun r n=>r.push (UInt8.ofNat n.toNat)) b=⟨(b.data.toList++ns.map fun n=>UInt8.ofNat n.toNat).toArray⟩:=by
  intro ns;induction ns with
  | nil=>intro b;simp
  | cons n ns ih=>
   intro b;rw[List.foldl_cons,ih];simp[ByteArray.push]
 unfold Qca;rw[this];simp
theorem QbG{a b:ByteArray}(h:a.data.toList=b.data.toList):a=b:=by
 obtain⟨⟨x⟩⟩:=a;obtain⟨⟨y⟩⟩:=b;simp at h
 rw[h]
theorem Qd6(ns:List Int):(Qca ns).data.toList=ns.map fun n=>UInt8.ofNat n.toNat:=by rw[Qtl]
theorem Qb2(a b:ByteArray):(a++b).data.toList=a.data.toList++b.data.toList:=by simp
theorem Qcu(xs ys:List Int):Qca xs++Qca ys=Qca (xs++ys):=QbG (by rw[Qb2,Qd6,Qd6,Qd6,Kv])
theorem QL(ns:List Int):(Qca ns).size=ns.length:=by rw[Qtl];simp[ByteArray.size]
theorem Qk5{ns:List Int}:((Qca ns).toList==ByteArray.toList ⟨#[]⟩)=ns.isEmpty:=by
 rw[ByteArray.toList_eq,ByteArray.toList_eq,Qd6];cases ns<;>simp
theorem QaK(ns:List Int):unB (bL ns)=ns:=by simp[unB,bL,Function.comp_def]
theorem QZ(ns:List Int):(bL ns).length=ns.length:=by simp[bL]
theorem Qdz(ns:List Int)(n:Int):bL ns++[[D.v (.int .u8 n)]]=bL (ns++[n]):=by simp[bL]
attribute [local go_sem] QaK QZ Qdz
def Qdw(x:Int):Nat→List Int
 | 0=>[]
 | n+1=>Qdw x n++(if Qu x (n:Nat)then [(n:Int)]else [])
def mem(x:Int):List Int:=if Ql 5 x then Qdw x 5 else []
theorem QbX{x:Int}:∀{n:Nat},(Qdw x n).length≤n
 | 0=>KP _
 | n+1=>by
  have:=@QbX x n
  simp only[Qdw,KN]
  split<;>simp<;>omega
theorem Qdm{x:Int}:∀{n:Nat},∀m∈Qdw x n,0≤m∧m<n
 | 0,m,h=>by cases h
 | n+1,m,h=>by
  simp only[Qdw,KG]at h
  rcases h with h|h
  ·have:=Qdm m h;omega
  ·split at h
   ·simp at h;omega
   ·cases h
def Qmg:Qb:=⟨[],false,fun
 | [.one (.v (.int .i64 x))]=>some (True,[⟨false,[.own 1 (iL (mem x)) 1]⟩],[])
 | _=>none⟩
attribute [local go_sem] Qmg
theorem Qjb:Qa E0 97 Qmg:=by
 refine QG (E:=E0) (T:=mkT Tryz.prog [(148,Qcw),(149,QcL)] false (fun _=>false) true (fun _=>false)) (Qd (E:=E0) (.cons QjB (.cons QcA .nil))) (fn:=Tryz.f97) Tryz.func97 kR rfl Qc kR rfl ?_
 intro args p rs ms hr;unfold Qmg at hr;dsimp only at hr;split at hr;rotate_left
 ·cases hr
 rename_i x;cases hr;refine⟨rfl,rfl,nLe rfl,?_⟩
 have hm:=mxE;intro _ bs;unfold mem;cases hv:Ql 5 x
 ·refine gR ?_
  refine lpI {ι:=Unit,rs:=[(6,21)],mods:=[(4,fun _=> .one (.d (.v (.int .i64 0)))),(3,fun _=> .one (.own 1 [] 1))],boxes:=[],arrs:=[],ok:=fun _=>True,mu:=fun i=>0} rfl () trivial ?_ fun i hi=>?_
  ·exact gQ
  ·dsimp only at i hi
   refine gR ?_
   rfl
 ·simp only[if_true]
  refine gR ?_
  refine lpI {ι:=Nat,rs:=[(6,21)],mods:=[(4,fun i=> .one (.d (.v (.int .i64 i)))),(3,fun i=> .one (.own 1 (iL (Qdw x i)) 1))],boxes:=[],arrs:=[],ok:=fun i=>i≤5,mu:=fun i=>5-i} rfl 0 (KJ _) ?_ fun i hi=>?_
  ·exact gQ
  ·dsimp only at i hi
   have hl:=@QbX x i
   (repeat' first|refine gA fun _=>?_|apply fkI<;>intro hb<;>try simp only[ew]at hb|simp only[go_sem,simprocAttr, *])
   ·have hh:=‹Qu x (i:Nat)=true›
    have e:iL (Qdw x i)++[[D.v (.int .i64 i)]]=iL (Qdw x (i+1)):=by simp[Qdw,hh,iL]
    refine lpQ (i+1) ?_
    clear hh;exact gP
   ·have hh:=‹Qu x (i:Nat)=false›
    have e:Qdw x (i+1)=Qdw x i:=by simp[Qdw,hh]
    refine lpQ (i+1) ?_
    clear hh;exact gP
   ·have e:i=5:=by omega
    subst e;rfl
def faL(x:Int):List Int:=if Ql 5 x then(if x=0 then [110,111,110,101]else(Qdw x 5).map (65+·))else []
def fa(x:Int):ByteArray:=Qca (faL x)
def cFA:Qb:=⟨[],false,fun
 | [.one (.v (.int .i64 x))]=>some (True,[⟨false,[.d (.v (.string (fa x)))]⟩],[])
 | _=>none⟩
attribute [local go_sem] cFA
theorem QEy{m:Int}(h0:0≤m)(h5:m<5):IntKind.wrap .u8 (65+m)=65+m:=by
 have:m=0∨m=1∨m=2∨m=3∨m=4:=by omega
 rcases this with rfl|rfl|rfl|rfl|rfl<;>rfl
theorem Qqq:Ql 5 0=true:=by decide
theorem Qet{x:Int}:(mem x).length≤5:=by
 unfold mem;split
 ·exact QbX
 ·simp
theorem mem_range{x:Int}{i:Nat}(h:i<(mem x).length):0≤(mem x).getD i 0∧(mem x).getD i 0<5:=by
 have hm:(mem x).getD i 0∈mem x:=by simp[KD,h]
 unfold mem at hm ⊢;split at hm
 ·rename_i hv
  rw[if_pos hv];exact Qdm (n:=5) _ hm
 ·cases hm
theorem Qqd:Qa E0 146 cFA:=by
 refine QG (E:=E0) (T:=mkT Tryz.prog [(97,Qmg)] false (fun _=>false) true (fun _=>false)) (Qd (E:=E0) (.cons Qjb .nil)) (fn:=Tryz.f146) Tryz.func146 kR rfl Qc kR rfl ?_
 intro args p rs ms hr;unfold cFA at hr;dsimp only at hr;split at hr;rotate_left
 ·cases hr
 rename_i x;cases hr;refine⟨rfl,rfl,nLe rfl,?_⟩
 have hm:=mxE;intro _ bs
 by_cases hx:x=0
 ·subst hx
  have e:fa 0=⟨#[110,111,110,101]⟩:=by unfold fa faL;rw[Qqq];rfl
  exact gP
 ·have e:fa x=Qca ((mem x).map (65+·)):=by
   unfold fa faL mem;split<;>simp[hx]
  rw[e];have e0:(x==0)=false:=by simpa using hx
  have hl:=@Qet x
  clear e;refine gR ?_
  refine lpI {ι:=Nat,rs:=[(5,6),(13,23)],mods:=[(12,fun i=> .one (.d (.v (.int .i64 i)))),(3,fun i=> .one (.own 1 (bL (((mem x).take i).map (65+·))) 1))],boxes:=[],arrs:=[(10,fun _=>(1,iL (mem x),1))],ok:=fun i=>i≤(mem x).length,mu:=fun i=>(mem x).length-i} rfl 0 (KJ _) ?_ fun i hi=>?_
  ·exact gQ
  ·dsimp only at i hi
   have hr:=fun h=>@mem_range x i h
   by_cases h5:i<(mem x).length
   ·obtain⟨r0,r5⟩:=hr h5
    have ew:=QEy r0 r5
    clear hr;(repeat' first|refine gA fun _=>?_|apply fkI<;>intro hb<;>try simp only[ew,KV,ew]at hb|simp only[go_sem,simprocAttr, *,KV])
    refine lpQ (i+1) ?_
    have e2:((mem x).take (i+1)).map (65+·)=((mem x).take i).map (65+·)++[65+(mem x).getD i 0]:=by
     rw[Qf h5 0];simp
    clear r0 r5 hl;exact gP
   ·clear hr
    (repeat' first|refine gA fun _=>?_|apply fkI<;>intro hb<;>try simp only[ew,KV]at hb|simp only[go_sem,simprocAttr, *,KV])
    rw[Kj (by omega)]
theorem QqJ{x:Int}(h:Ql 5 x=true):Qdw x 5=[]↔x=0:=by
 have h:=Qq h
 have key:∀n:Fin 32,(Qdw ((n.val:Nat):Int) 5=[]↔((n.val:Nat):Int)=0):=by decide+kernel
 have:=key ⟨x.toNat,by omega⟩
 rwa [show((x.toNat:Nat):Int)=x by omega]at this
theorem QEQ{i:Nat}(h:i<5):ByteArray.extract ⟨#[65,66,67,68,69]⟩ i (i+1)=Qca [65+(i:Nat)]:=by
 have:i=0∨i=1∨i=2∨i=3∨i=4:=by omega
 rcases this with rfl|rfl|rfl|rfl|rfl<;>decide
theorem Qj3:ByteArray.size ⟨#[65,66,67,68,69]⟩=5:=rfl
theorem QmY:Qa E0 23 cFA:=by
 refine QG (E:=E0) (T:=mkT Tryz.prog [(63,Qcw)] false (fun _=>false) true (fun _=>false)) (Qd (E:=E0) (.cons QjC .nil)) (fn:=Tryz.f23) Tryz.func23 kR rfl Qc kR rfl ?_
 intro args p rs ms hr;unfold cFA at hr;dsimp only at hr;split at hr;rotate_left
 ·cases hr
 rename_i x;cases hr;refine⟨rfl,rfl,nLe rfl,?_⟩
 have hm:=mxE;intro _ bs;cases hv:Ql 5 x
 ·have e:fa x=⟨#[]⟩:=by unfold fa faL;rw[hv];rfl
  exact gP
 ·refine gR ?_
  refine lpI {ι:=Nat,rs:=[(8,23)],mods:=[(4,fun i=> .one (.d (.v (.int .i64 i)))),(3,fun i=> .one (.d (.v (.string (Qca ((Qdw x i).map (65+·)))))))],boxes:=[],arrs:=[],ok:=fun i=>i≤5,mu:=fun i=>5-i} rfl 0 (KJ _) ?_ fun i hi=>?_
  ·exact gQ
  ·dsimp only at i hi
   have hl:=@QbX x i
   by_cases h5:i<5
   ·have he:ByteArray.extract ⟨#[65,66,67,68,69]⟩ i ((i:Int)+1).toNat=Qca [65+(i:Nat)]:=by
     rw[show((i:Int)+1).toNat=i+1 by omega];exact QEQ h5
    (repeat' first|refine gA fun _=>?_|apply fkI<;>intro hb<;>try simp only[ew,Qi,Qj3,QL,KV,he]at hb|simp only[go_sem,simprocAttr, *,Qi,Qj3,QL,KV])
    ·have hb:=‹QV BinOp.and IntKind.i64 (x.fdiv (2^i)) 1=1›
     have hh:Qu x (i:Nat)=true:=by unfold Qu;rw[KE,hb];rfl
     have e2:Qca ((Qdw x i).map (65+·))++Qca [65+(i:Nat)]=Qca ((Qdw x (i+1)).map (65+·)):=by rw[Qcu];simp[Qdw,hh]
     refine lpQ (i+1) ?_
     clear hh hb hl;exact gP
    ·have hb:=‹¬QV BinOp.and IntKind.i64 (x.fdiv (2^i)) 1=1›
     have hh:Qu x (i:Nat)=false:=by unfold Qu;rw[KE];exact beq_false_of_ne hb
     have e2:Qdw x (i+1)=Qdw x i:=by simp[Qdw,hh]
     refine lpQ (i+1) ?_
     clear hh hb hl;exact gP
    all_goals (exfalso;omega)
   ·have e5:i=5:=by omega
    subst e5;have hmn:=QqJ hv;(repeat' first|refine gA fun _=>?_|apply fkI<;>intro hb<;>try simp only[ew,Qk5]at hb|simp only[go_sem,simprocAttr, *,Qk5])
    ·have h0:=‹(List.map (fun x=>65+x) (Qdw x 5)).isEmpty=true›
     rw[List.isEmpty_iff,List.map_eq_nil_iff,hmn]at h0;subst h0;unfold fa faL;rw[Qqq];rfl
    ·have h0:=‹(List.map (fun x=>65+x) (Qdw x 5)).isEmpty=false›
     have h1:¬x=0:=fun e=>by
      rw[List.isEmpty_eq_false_iff,ne_eq,List.map_eq_nil_iff,hmn]at h0;exact h0 e
     unfold fa faL;rw[hv,if_neg h1];rfl
end
attribute [local go_sem] cFA Qbr Tryz.results26 Qcw Tryz.results106 QaK QZ Qdz
def tL(ss:List ByteArray):List (List D):=ss.map fun s=>[D.v (.string s)]
def unT(l:List (List D)):List ByteArray:=l.map fun
 | [.v (.string s)]=>s
 | _=>⟨#[]⟩
theorem Qa1(ss:List ByteArray):unT (tL ss)=ss:=by simp[unT,tL,Function.comp_def]
theorem Qz(ss:List ByteArray):(tL ss).length=ss.length:=by simp[tL]
theorem QbD(ss:List ByteArray)(s:ByteArray):tL ss++[[D.v (.string s)]]=tL (ss++[s]):=by simp[tL]
def WfL(l:List (List D)):Prop:=l=tL (unT l)∧l.length≤maxLen
theorem QbT{ss:List ByteArray}:WfL (tL ss)↔ss.length≤maxLen:=by simp[WfL,Qa1,Qz]
attribute [local go_sem] QaK QZ Qdz Qa1 Qz QbD QbT
theorem QA4{x:Int}:(faL x).length≤5:=by
 unfold faL;split
 ·split
  ·decide
  ·rw[KV];exact QbX
 ·simp
theorem QaP{x:Int}:(fa x).size≤5:=by unfold fa;rw[QL];exact QA4
theorem Quk{s:ByteArray}:(⟨#[]⟩:ByteArray)++s=s:=QbG (by rw[Qb2];rfl)
theorem QbS:ByteArray.size ⟨#[32]⟩=1:=rfl
theorem Qe{a b:ByteArray}:(a++b).size=a.size+b.size:=by simp
def Qzo(q:Int×Int):Bool:=Ql 5 q.1&&inB q.2 0 4
def fd(q:Int×Int):ByteArray:=if Qzo q then(fa q.1++⟨#[62]⟩)++fa (1*2^q.2.toNat)else⟨#[]⟩
def cFD:Qb:=⟨[],false,fun
 | [.agg [.v (.int .i64 a),.v (.int .i64 b)]]=>some (True,[⟨false,[.d (.v (.string (fd (a,b))))]⟩],[])
 | _=>none⟩
attribute [local go_sem] cFD
theorem Qkp{x:Int}:((fa x).toList==ByteArray.toList ⟨#[]⟩)= !Ql 5 x:=by
 unfold fa;rw[Qk5];unfold faL;cases hv:Ql 5 x
 ·rfl
 ·simp only[if_true,YV]
  split
  ·rfl
  ·rename_i h
   rw[List.isEmpty_eq_false_iff,ne_eq,List.map_eq_nil_iff,QqJ hv];exact h
theorem Qfp:ByteArray.size ⟨#[62]⟩=1:=rfl
theorem Qqf:Qa E0 26 cFD:=by
 refine QG (E:=E0) (T:=mkT Tryz.prog [(23,cFA),(62,Qbr)] false (fun _=>false) true (fun _=>false)) (Qd (E:=E0) (.cons QmY (.cons QcD .nil))) (fn:=Tryz.f26) Tryz.func26 kR rfl Qc kR rfl ?_
 intro args p rs ms hr;unfold cFD at hr;dsimp only at hr;split at hr;rotate_left
 ·cases hr
 rename_i a b;cases hr;refine⟨rfl,rfl,nLe rfl,?_⟩
 have hm:=mxE;intro _ bs;have s1:=@QaP a
 have s2:=@QaP (1*2^b.toNat)
 cases h1:Ql 5 a
 ·have e:fd (a,b)=⟨#[]⟩:=by simp[fd,Qzo,h1]
  rw[e];clear e s1 s2;have q0:=@Qkp;exact gP
 ·cases h2:inB b 0 4
  ·have e:fd (a,b)=⟨#[]⟩:=by simp[fd,Qzo,h1,h2]
   rw[e];clear e s1 s2;have q0:=@Qkp;exact gP
  ·have e:fd (a,b)=(fa a++⟨#[62]⟩)++fa (1*2^b.toNat):=by simp[fd,Qzo,h1,h2]
   rw[e];clear e;have h3:=Qj.1 h2
   have h4:=QBO (n:=b) h3.1 (by omega)
   have q0:=@Qkp;have q1:=@Qi;have q2:=@Qfp;have q3:=@Qe;exact gP
theorem Qqe:Qa E0 106 cFD:=by
 refine QG (E:=E0) (T:=mkT Tryz.prog [(148,Qcw),(146,cFA)] false (fun _=>false) true (fun _=>false)) (Qd (E:=E0) (.cons QjB (.cons Qqd .nil))) (fn:=Tryz.f106) Tryz.func106 kR rfl Qc kR rfl ?_
 intro args p rs ms hr;unfold cFD at hr;dsimp only at hr;split at hr;rotate_left
 ·cases hr
 rename_i a b;cases hr;refine⟨rfl,rfl,nLe rfl,?_⟩
 have hm:=mxE;intro _ bs;have s1:=@QaP a
 have s2:=@QaP (1*2^b.toNat)
 by_cases h:Ql 5 a=true∧0≤b∧b≤4
 ·obtain⟨h1,h2,h3⟩:=h
  have e:fd (a,b)=(fa a++⟨#[62]⟩)++fa (1*2^b.toNat):=by simp[fd,Qzo,h1,Qj.2 ⟨h2,h3⟩]
  rw[e];clear e;have h4:=QBO (n:=b) h2 (by omega)
  have e1:decide (b<0)=false:=KW (by omega)
  have e2:decide (b≥5)=false:=KW (by omega)
  have q0:=@Qi;have q1:=@Qfp;have q2:=@Qe;exact gP
 ·have e:fd (a,b)=⟨#[]⟩:=by
   unfold fd Qzo;rw[if_neg];intro q;simp only[KB,Qj]at q
   exact h ⟨q.1,q.2.1,q.2.2⟩
  have e0:(!Ql 5 a||decide (b<0)||decide (b≥5))=true:=by
   cases q:(!Ql 5 a||decide (b<0)||decide (b≥5))with
   | true=>rfl
   | false=>
    simp only[Kt,YL,Kl]at q
    exact absurd ⟨q.1.1,by omega,by omega⟩ h
  rw[e];clear e h s1 s2;exact gP
end Go.Own
