/- Own contracts. Conditions: as each theorem states them. -/
import Derived.Test.YtnmkpepdacbfaaaGreatDoorRc05
set_option linter.unusedSimpArgs false
set_option linter.unusedVariables false
set_option maxRecDepth 20000
set_option maxHeartbeats 2000000
namespace Go.Own
open Go Go.Proofs
attribute [local go_sem] Qci Qcv Tryz.results97 Tryz.results146 Tryz.results23
theorem Qr5(ns:List Int):QbY ns=⟨(ns.map fun n=>UInt8.ofNat n.toNat).toArray⟩:=by
 have:∀(ns:List Int) (b:ByteArray),ns.foldl (fun r n=>r.push (UInt8.ofNat n.toNat)) b=⟨(b.data.toList++ns.map fun n=>UInt8.ofNat n.toNat).toArray⟩:=by
  intro ns;induction ns with
  | nil=>intro b;simp
  | cons n ns ih=>
   intro b;rw[List.foldl_cons,ih];simp[ByteArray.push]
 unfold QbY;rw[this];simp
theorem Qcg{a b:ByteArray}(h:a.data.toList=b.data.toList):a=b:=by
 obtain⟨⟨x⟩⟩:=a;obtain⟨⟨y⟩⟩:=b;simp at h
 rw[h]
theorem Qfo(ns:List Int):(QbY ns).data.toList=ns.map fun n=>UInt8.ofNat n.toNat:=by rw[Qr5]
theorem QdO(a b:ByteArray):(a++b).data.toList=a.data.toList++b.data.toList:=by simp
theorem Qcf(xs ys:List Int):QbY xs++QbY ys=QbY (xs++ys):=Qcg (by rw[QdO,Qfo,Qfo,Qfo,List.map_append])
theorem Q1(ns:List Int):(QbY ns).size=ns.length:=by rw[Qr5];simp[ByteArray.size]
theorem Qko{ns:List Int}:((QbY ns).toList==ByteArray.toList ⟨#[]⟩)=ns.isEmpty:=by
 rw[ByteArray.toList_eq,ByteArray.toList_eq,Qfo];cases ns<;>simp
theorem QdG(ns:List Int):unB (bL ns)=ns:=by simp[unB,bL,Function.comp_def]
theorem QaI(ns:List Int):(bL ns).length=ns.length:=by simp[bL]
theorem Qdg(ns:List Int)(n:Int):bL ns++[[D.v (.int .u8 n)]]=bL (ns++[n]):=by simp[bL]
attribute [local go_sem] QdG QaI Qdg
def Qdd(x:Int):Nat→List Int
 | 0=>[]
 | n+1=>Qdd x n++(if Qt x (n:Nat)then [(n:Int)]else [])
def mem(x:Int):List Int:=if Ql 5 x then Qdd x 5 else []
theorem QbJ{x:Int}:∀{n:Nat},(Qdd x n).length≤n
 | 0=>Nat.le_refl _
 | n+1=>by
  have:=@QbJ x n
  simp only[Qdd,List.length_append]
  split<;>simp<;>omega
theorem Qew{x:Int}:∀{n:Nat},∀m∈Qdd x n,0≤m∧m<n
 | 0,m,h=>by cases h
 | n+1,m,h=>by
  simp only[Qdd,List.mem_append]at h
  rcases h with h|h
  ·have:=Qew m h;omega
  ·split at h
   ·simp at h;omega
   ·cases h
def Qlu:Qb:=⟨[],false,fun
 | [.one (.v (.int .i64 x))]=>some (True,[⟨false,[.own 1 (iL (mem x)) 1]⟩],[])
 | _=>none⟩
attribute [local go_sem] Qlu
theorem Qix:Qa E0 97 Qlu:=by
 refine QE (E:=E0) (T:=mkT Tryz.prog [(148,Qci),(149,Qcv)] false (fun _=>false) true (fun _=>false)) (Qd (E:=E0) (.cons QiY (.cons Qcm .nil))) (fn:=Tryz.f97) Tryz.func97 (by kernel_rfl) rfl Qc (by kernel_rfl) rfl ?_
 intro args p rs ms hr;unfold Qlu at hr;dsimp only at hr;split at hr;rotate_left
 ·cases hr
 rename_i x;cases hr;refine⟨rfl,rfl,nLe rfl,?_⟩
 have hm:=mxE;intro _ bs;unfold mem;cases hv:Ql 5 x
 ·(repeat' first|refine gA fun _=>?_|apply fkI<;>intro hb<;>try simp only[ew]at hb|simp only[go_sem,simprocAttr, *])
  refine lpI {ι:=Unit,rs:=[(6,21)],mods:=[(4,fun _=> .one (.d (.v (.int .i64 0)))),(3,fun _=> .one (.own 1 [] 1))],boxes:=[],arrs:=[],ok:=fun _=>True,mu:=fun i=>0} rfl () trivial ?_ fun i hi=>?_
  ·exact gQ
  ·dsimp only at i hi
   (repeat' first|refine gA fun _=>?_|apply fkI<;>intro hb<;>try simp only[ew]at hb|simp only[go_sem,simprocAttr, *])
   rfl
 ·simp only[if_true]
  (repeat' first|refine gA fun _=>?_|apply fkI<;>intro hb<;>try simp only[ew]at hb|simp only[go_sem,simprocAttr, *])
  refine lpI {ι:=Nat,rs:=[(6,21)],mods:=[(4,fun i=> .one (.d (.v (.int .i64 i)))),(3,fun i=> .one (.own 1 (iL (Qdd x i)) 1))],boxes:=[],arrs:=[],ok:=fun i=>i≤5,mu:=fun i=>5-i} rfl 0 (Nat.zero_le _) ?_ fun i hi=>?_
  ·exact gQ
  ·dsimp only at i hi
   have hl:=@QbJ x i
   (repeat' first|refine gA fun _=>?_|apply fkI<;>intro hb<;>try simp only[ew]at hb|simp only[go_sem,simprocAttr, *])
   ·have hh:=‹Qt x (i:Nat)=true›
    have e:iL (Qdd x i)++[[D.v (.int .i64 i)]]=iL (Qdd x (i+1)):=by simp[Qdd,hh,iL]
    refine lpN (i+1) (by dsimp only;omega) (by dsimp only;omega) ?_
    clear hh;(repeat' first|refine gA fun _=>?_|apply fkI<;>intro hb<;>try simp only[ew,e]at hb|simp only[go_sem,simprocAttr, *])
   ·have hh:=‹Qt x (i:Nat)=false›
    have e:Qdd x (i+1)=Qdd x i:=by simp[Qdd,hh]
    refine lpN (i+1) (by dsimp only;omega) (by dsimp only;omega) ?_
    clear hh;(repeat' first|refine gA fun _=>?_|apply fkI<;>intro hb<;>try simp only[ew,e]at hb|simp only[go_sem,simprocAttr, *])
   ·have e:i=5:=by omega
    subst e;rfl
def faL(x:Int):List Int:=if Ql 5 x then(if x=0 then [110,111,110,101]else(Qdd x 5).map (65+·))else []
def fa(x:Int):ByteArray:=QbY (faL x)
def cFA:Qb:=⟨[],false,fun
 | [.one (.v (.int .i64 x))]=>some (True,[⟨false,[.d (.v (.string (fa x)))]⟩],[])
 | _=>none⟩
attribute [local go_sem] cFA
theorem QCs{m:Int}(h0:0≤m)(h5:m<5):IntKind.wrap .u8 (65+m)=65+m:=by
 have:m=0∨m=1∨m=2∨m=3∨m=4:=by omega
 rcases this with rfl|rfl|rfl|rfl|rfl<;>rfl
theorem Qpl:Ql 5 0=true:=by decide
theorem Qd8{x:Int}:(mem x).length≤5:=by
 unfold mem;split
 ·exact QbJ
 ·simp
theorem mem_range{x:Int}{i:Nat}(h:i<(mem x).length):0≤(mem x).getD i 0∧(mem x).getD i 0<5:=by
 have hm:(mem x).getD i 0∈mem x:=by simp[List.getD_eq_getElem?_getD,h]
 unfold mem at hm ⊢;split at hm
 ·rename_i hv
  rw[if_pos hv];exact Qew (n:=5) _ hm
 ·cases hm
theorem Qo9:Qa E0 146 cFA:=by
 refine QE (E:=E0) (T:=mkT Tryz.prog [(97,Qlu)] false (fun _=>false) true (fun _=>false)) (Qd (E:=E0) (.cons Qix .nil)) (fn:=Tryz.f146) Tryz.func146 (by kernel_rfl) rfl Qc (by kernel_rfl) rfl ?_
 intro args p rs ms hr;unfold cFA at hr;dsimp only at hr;split at hr;rotate_left
 ·cases hr
 rename_i x;cases hr;refine⟨rfl,rfl,nLe rfl,?_⟩
 have hm:=mxE;intro _ bs
 by_cases hx:x=0
 ·subst hx
  have e:fa 0=⟨#[110,111,110,101]⟩:=by unfold fa faL;rw[Qpl];rfl
  (repeat' first|refine gA fun _=>?_|apply fkI<;>intro hb<;>try simp only[ew,e]at hb|simp only[go_sem,simprocAttr, *])
 ·have e:fa x=QbY ((mem x).map (65+·)):=by
   unfold fa faL mem;split<;>simp[hx]
  rw[e];have e0:(x==0)=false:=by simpa using hx
  have hl:=@Qd8 x
  clear e;(repeat' first|refine gA fun _=>?_|apply fkI<;>intro hb<;>try simp only[ew]at hb|simp only[go_sem,simprocAttr, *])
  refine lpI {ι:=Nat,rs:=[(5,6),(13,23)],mods:=[(12,fun i=> .one (.d (.v (.int .i64 i)))),(3,fun i=> .one (.own 1 (bL (((mem x).take i).map (65+·))) 1))],boxes:=[],arrs:=[(10,fun _=>(1,iL (mem x),1))],ok:=fun i=>i≤(mem x).length,mu:=fun i=>(mem x).length-i} rfl 0 (Nat.zero_le _) ?_ fun i hi=>?_
  ·exact gQ
  ·dsimp only at i hi
   have hr:=fun h=>@mem_range x i h
   by_cases h5:i<(mem x).length
   ·obtain⟨r0,r5⟩:=hr h5
    have ew:=QCs r0 r5
    clear hr;(repeat' first|refine gA fun _=>?_|apply fkI<;>intro hb<;>try simp only[ew,List.length_map,ew]at hb|simp only[go_sem,simprocAttr, *,List.length_map])
    refine lpN (i+1) (by dsimp only;omega) (by dsimp only;omega) ?_
    have e2:((mem x).take (i+1)).map (65+·)=((mem x).take i).map (65+·)++[65+(mem x).getD i 0]:=by
     rw[Qf h5 0];simp
    clear r0 r5 hl;(repeat' first|refine gA fun _=>?_|apply fkI<;>intro hb<;>try simp only[ew,e2]at hb|simp only[go_sem,simprocAttr, *])
   ·clear hr
    (repeat' first|refine gA fun _=>?_|apply fkI<;>intro hb<;>try simp only[ew,List.length_map]at hb|simp only[go_sem,simprocAttr, *,List.length_map])
    rw[List.take_of_length_le (by omega)]
theorem QpE{x:Int}(h:Ql 5 x=true):Qdd x 5=[]↔x=0:=by
 have h:=Qp h
 have key:∀n:Fin 32,(Qdd ((n.val:Nat):Int) 5=[]↔((n.val:Nat):Int)=0):=by decide+kernel
 have:=key ⟨x.toNat,by omega⟩
 rwa [show((x.toNat:Nat):Int)=x by omega]at this
theorem QCI{i:Nat}(h:i<5):ByteArray.extract ⟨#[65,66,67,68,69]⟩ i (i+1)=QbY [65+(i:Nat)]:=by
 have:i=0∨i=1∨i=2∨i=3∨i=4:=by omega
 rcases this with rfl|rfl|rfl|rfl|rfl<;>decide
theorem Qjn:ByteArray.size ⟨#[65,66,67,68,69]⟩=5:=rfl
theorem Qpa:Qa E0 23 cFA:=by
 refine QE (E:=E0) (T:=mkT Tryz.prog [(63,Qci)] false (fun _=>false) true (fun _=>false)) (Qd (E:=E0) (.cons QiZ .nil)) (fn:=Tryz.f23) Tryz.func23 (by kernel_rfl) rfl Qc (by kernel_rfl) rfl ?_
 intro args p rs ms hr;unfold cFA at hr;dsimp only at hr;split at hr;rotate_left
 ·cases hr
 rename_i x;cases hr;refine⟨rfl,rfl,nLe rfl,?_⟩
 have hm:=mxE;intro _ bs;cases hv:Ql 5 x
 ·have e:fa x=⟨#[]⟩:=by unfold fa faL;rw[hv];rfl
  (repeat' first|refine gA fun _=>?_|apply fkI<;>intro hb<;>try simp only[ew,e]at hb|simp only[go_sem,simprocAttr, *])
 ·(repeat' first|refine gA fun _=>?_|apply fkI<;>intro hb<;>try simp only[ew]at hb|simp only[go_sem,simprocAttr, *])
  refine lpI {ι:=Nat,rs:=[(8,23)],mods:=[(4,fun i=> .one (.d (.v (.int .i64 i)))),(3,fun i=> .one (.d (.v (.string (QbY ((Qdd x i).map (65+·)))))))],boxes:=[],arrs:=[],ok:=fun i=>i≤5,mu:=fun i=>5-i} rfl 0 (Nat.zero_le _) ?_ fun i hi=>?_
  ·exact gQ
  ·dsimp only at i hi
   have hl:=@QbJ x i
   by_cases h5:i<5
   ·have he:ByteArray.extract ⟨#[65,66,67,68,69]⟩ i ((i:Int)+1).toNat=QbY [65+(i:Nat)]:=by
     rw[show((i:Int)+1).toNat=i+1 by omega];exact QCI h5
    (repeat' first|refine gA fun _=>?_|apply fkI<;>intro hb<;>try simp only[ew,Qj,Qjn,Q1,List.length_map,he]at hb|simp only[go_sem,simprocAttr, *,Qj,Qjn,Q1,List.length_map])
    ·have hb:=‹Q6 BinOp.and IntKind.i64 (x.fdiv (2^i)) 1=1›
     have hh:Qt x (i:Nat)=true:=by unfold Qt;rw[Int.toNat_natCast,hb];rfl
     have e2:QbY ((Qdd x i).map (65+·))++QbY [65+(i:Nat)]=QbY ((Qdd x (i+1)).map (65+·)):=by rw[Qcf];simp[Qdd,hh]
     refine lpN (i+1) (by dsimp only;omega) (by dsimp only;omega) ?_
     clear hh hb hl;(repeat' first|refine gA fun _=>?_|apply fkI<;>intro hb<;>try simp only[ew,he,e2]at hb|simp only[go_sem,simprocAttr, *])
    ·have hb:=‹¬Q6 BinOp.and IntKind.i64 (x.fdiv (2^i)) 1=1›
     have hh:Qt x (i:Nat)=false:=by unfold Qt;rw[Int.toNat_natCast];exact beq_false_of_ne hb
     have e2:Qdd x (i+1)=Qdd x i:=by simp[Qdd,hh]
     refine lpN (i+1) (by dsimp only;omega) (by dsimp only;omega) ?_
     clear hh hb hl;(repeat' first|refine gA fun _=>?_|apply fkI<;>intro hb<;>try simp only[ew,he,e2]at hb|simp only[go_sem,simprocAttr, *])
    all_goals (exfalso;omega)
   ·have e5:i=5:=by omega
    subst e5;have hmn:=QpE hv;(repeat' first|refine gA fun _=>?_|apply fkI<;>intro hb<;>try simp only[ew,Qko]at hb|simp only[go_sem,simprocAttr, *,Qko])
    ·have h0:=‹(List.map (fun x=>65+x) (Qdd x 5)).isEmpty=true›
     rw[List.isEmpty_iff,List.map_eq_nil_iff,hmn]at h0;subst h0;unfold fa faL;rw[Qpl];rfl
    ·have h0:=‹(List.map (fun x=>65+x) (Qdd x 5)).isEmpty=false›
     have h1:¬x=0:=fun e=>by
      rw[List.isEmpty_eq_false_iff,ne_eq,List.map_eq_nil_iff,hmn]at h0;exact h0 e
     unfold fa faL;rw[hv,if_neg h1];rfl
end Go.Own
namespace Go.Own
open Go Go.Proofs
attribute [local go_sem] cFA Qbf Tryz.results26 Qci Tryz.results106
attribute [local go_sem] QdG QaI Qdg
def tL(ss:List ByteArray):List (List D):=ss.map fun s=>[D.v (.string s)]
def unT(l:List (List D)):List ByteArray:=l.map fun
 | [.v (.string s)]=>s
 | _=>⟨#[]⟩
theorem Qbh(ss:List ByteArray):unT (tL ss)=ss:=by simp[unT,tL,Function.comp_def]
theorem QC(ss:List ByteArray):(tL ss).length=ss.length:=by simp[tL]
theorem Qbs(ss:List ByteArray)(s:ByteArray):tL ss++[[D.v (.string s)]]=tL (ss++[s]):=by simp[tL]
def WfL(l:List (List D)):Prop:=l=tL (unT l)∧l.length≤maxLen
theorem Qct{ss:List ByteArray}:WfL (tL ss)↔ss.length≤maxLen:=by simp[WfL,Qbh,QC]
attribute [local go_sem] QdG QaI Qdg Qbh QC Qbs Qct
theorem Qzl{x:Int}:(faL x).length≤5:=by
 unfold faL;split
 ·split
  ·decide
  ·rw[List.length_map];exact QbJ
 ·simp
theorem QaW{x:Int}:(fa x).size≤5:=by unfold fa;rw[Q1];exact Qzl
theorem QsW{s:ByteArray}:(⟨#[]⟩:ByteArray)++s=s:=Qcg (by rw[QdO];rfl)
theorem Qec:ByteArray.size ⟨#[32]⟩=1:=rfl
theorem Qg{a b:ByteArray}:(a++b).size=a.size+b.size:=by simp
def QxN(q:Int×Int):Bool:=Ql 5 q.1&&inB q.2 0 4
def fd(q:Int×Int):ByteArray:=if QxN q then(fa q.1++⟨#[62]⟩)++fa (1*2^q.2.toNat)else⟨#[]⟩
def cFD:Qb:=⟨[],false,fun
 | [.agg [.v (.int .i64 a),.v (.int .i64 b)]]=>some (True,[⟨false,[.d (.v (.string (fd (a,b))))]⟩],[])
 | _=>none⟩
attribute [local go_sem] cFD
theorem QjJ{x:Int}:((fa x).toList==ByteArray.toList ⟨#[]⟩)= !Ql 5 x:=by
 unfold fa;rw[Qko];unfold faL;cases hv:Ql 5 x
 ·rfl
 ·simp only[if_true,Bool.not_true]
  split
  ·rfl
  ·rename_i h
   rw[List.isEmpty_eq_false_iff,ne_eq,List.map_eq_nil_iff,QpE hv];exact h
theorem Qe5:ByteArray.size ⟨#[62]⟩=1:=rfl
theorem Qs0:Qa E0 26 cFD:=by
 refine QE (E:=E0) (T:=mkT Tryz.prog [(23,cFA),(62,Qbf)] false (fun _=>false) true (fun _=>false)) (Qd (E:=E0) (.cons Qpa (.cons Qcp .nil))) (fn:=Tryz.f26) Tryz.func26 (by kernel_rfl) rfl Qc (by kernel_rfl) rfl ?_
 intro args p rs ms hr;unfold cFD at hr;dsimp only at hr;split at hr;rotate_left
 ·cases hr
 rename_i a b;cases hr;refine⟨rfl,rfl,nLe rfl,?_⟩
 have hm:=mxE;intro _ bs;have s1:=@QaW a
 have s2:=@QaW (1*2^b.toNat)
 cases h1:Ql 5 a
 ·have e:fd (a,b)=⟨#[]⟩:=by simp[fd,QxN,h1]
  rw[e];clear e s1 s2;(repeat' first|refine gA fun _=>?_|apply fkI<;>intro hb<;>try simp only[ew,QjJ]at hb|simp only[go_sem,simprocAttr, *,QjJ])
 ·cases h2:inB b 0 4
  ·have e:fd (a,b)=⟨#[]⟩:=by simp[fd,QxN,h1,h2]
   rw[e];clear e s1 s2;(repeat' first|refine gA fun _=>?_|apply fkI<;>intro hb<;>try simp only[ew,QjJ]at hb|simp only[go_sem,simprocAttr, *,QjJ])
  ·have e:fd (a,b)=(fa a++⟨#[62]⟩)++fa (1*2^b.toNat):=by simp[fd,QxN,h1,h2]
   rw[e];clear e;have h3:=Qi.1 h2
   have h4:=Qz4 (n:=b) h3.1 (by omega)
   (repeat' first|refine gA fun _=>?_|apply fkI<;>intro hb<;>try simp only[ew,QjJ,Qj,Qe5,Qg]at hb|simp only[go_sem,simprocAttr, *,QjJ,Qj,Qe5,Qg])
theorem Qpb:Qa E0 106 cFD:=by
 refine QE (E:=E0) (T:=mkT Tryz.prog [(148,Qci),(146,cFA)] false (fun _=>false) true (fun _=>false)) (Qd (E:=E0) (.cons QiY (.cons Qo9 .nil))) (fn:=Tryz.f106) Tryz.func106 (by kernel_rfl) rfl Qc (by kernel_rfl) rfl ?_
 intro args p rs ms hr;unfold cFD at hr;dsimp only at hr;split at hr;rotate_left
 ·cases hr
 rename_i a b;cases hr;refine⟨rfl,rfl,nLe rfl,?_⟩
 have hm:=mxE;intro _ bs;have s1:=@QaW a
 have s2:=@QaW (1*2^b.toNat)
 by_cases h:Ql 5 a=true∧0≤b∧b≤4
 ·obtain⟨h1,h2,h3⟩:=h
  have e:fd (a,b)=(fa a++⟨#[62]⟩)++fa (1*2^b.toNat):=by simp[fd,QxN,h1,Qi.2 ⟨h2,h3⟩]
  rw[e];clear e;have h4:=Qz4 (n:=b) h2 (by omega)
  have e1:decide (b<0)=false:=decide_eq_false (by omega)
  have e2:decide (b≥5)=false:=decide_eq_false (by omega)
  (repeat' first|refine gA fun _=>?_|apply fkI<;>intro hb<;>try simp only[ew,Qj,Qe5,Qg]at hb|simp only[go_sem,simprocAttr, *,Qj,Qe5,Qg])
 ·have e:fd (a,b)=⟨#[]⟩:=by
   unfold fd QxN;rw[if_neg];intro q;simp only[Bool.and_eq_true,Qi]at q
   exact h ⟨q.1,q.2.1,q.2.2⟩
  have e0:(!Ql 5 a||decide (b<0)||decide (b≥5))=true:=by
   cases q:(!Ql 5 a||decide (b<0)||decide (b≥5))with
   | true=>rfl
   | false=>
    simp only[Bool.or_eq_false_iff,Bool.not_eq_false',decide_eq_false_iff_not]at q
    exact absurd ⟨q.1.1,by omega,by omega⟩ h
  rw[e];clear e h s1 s2;(repeat' first|refine gA fun _=>?_|apply fkI<;>intro hb<;>try simp only[ew,e0]at hb|simp only[go_sem,simprocAttr, *])
end Go.Own
