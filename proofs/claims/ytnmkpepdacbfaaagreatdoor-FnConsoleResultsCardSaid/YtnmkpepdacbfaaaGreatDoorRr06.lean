/- Own contracts. Conditions: as each theorem states them. -/
import Derived.Test.YtnmkpepdacbfaaaGreatDoorRr05
set_option linter.unusedSimpArgs false
set_option linter.unusedVariables false
set_option maxRecDepth 20000
set_option maxHeartbeats 2000000
namespace Go.Own
open Go Go.Proofs
attribute [local go_sem] Qb5 Qcf Tryz.results97 Tryz.results146 Tryz.results23
theorem Qp5(ns:List Int):Qcv ns=⟨(ns.map fun n=>UInt8.ofNat n.toNat).toArray⟩:=by
 have:∀(ns:List Int) (b:ByteArray),ns.foldl (fun r n=>r.push (UInt8.ofNat n.toNat)) b=⟨(b.data.toList++ns.map fun n=>UInt8.ofNat n.toNat).toArray⟩:=by
  intro ns;induction ns with
  | nil=>intro b;simp
  | cons n ns ih=>
   intro b;rw[List.foldl_cons,ih];simp[ByteArray.push]
 unfold Qcv;rw[this];simp
theorem Qa8{a b:ByteArray}(h:a.data.toList=b.data.toList):a=b:=by
 obtain⟨⟨x⟩⟩:=a;obtain⟨⟨y⟩⟩:=b;simp at h
 rw[h]
theorem QeC(ns:List Int):(Qcv ns).data.toList=ns.map fun n=>UInt8.ofNat n.toNat:=by rw[Qp5]
theorem Qav(a b:ByteArray):(a++b).data.toList=a.data.toList++b.data.toList:=by simp
theorem QcP(xs ys:List Int):Qcv xs++Qcv ys=Qcv (xs++ys):=Qa8 (by rw[Qav,QeC,QeC,QeC,List.map_append])
theorem Qai(ns:List Int):(Qcv ns).size=ns.length:=by rw[Qp5];simp[ByteArray.size]
theorem QiX{ns:List Int}:((Qcv ns).toList==ByteArray.toList ⟨#[]⟩)=ns.isEmpty:=by
 rw[ByteArray.toList_eq,ByteArray.toList_eq,QeC];cases ns<;>simp
theorem QbP(ns:List Int):unB (bL ns)=ns:=by simp[unB,bL,Function.comp_def]
theorem Qab(ns:List Int):(bL ns).length=ns.length:=by simp[bL]
theorem QcO(ns:List Int)(n:Int):bL ns++[[D.v (.int .u8 n)]]=bL (ns++[n]):=by simp[bL]
attribute [local go_sem] QbP Qab QcO
def QcN(x:Int):Nat→List Int
 | 0=>[]
 | n+1=>QcN x n++(if Qy x (n:Nat)then [(n:Int)]else [])
def mem(x:Int):List Int:=if Qj 5 x then QcN x 5 else []
theorem Qbw{x:Int}:∀{n:Nat},(QcN x n).length≤n
 | 0=>Nat.le_refl _
 | n+1=>by
  have:=@Qbw x n
  simp only[QcN,List.length_append]
  split<;>simp<;>omega
theorem QdW{x:Int}:∀{n:Nat},∀m∈QcN x n,0≤m∧m<n
 | 0,m,h=>by cases h
 | n+1,m,h=>by
  simp only[QcN,List.mem_append]at h
  rcases h with h|h
  ·have:=QdW m h;omega
  ·split at h
   ·simp at h;omega
   ·cases h
def Qk9:Qb:=⟨[],false,fun
 | [.one (.v (.int .i64 x))]=>some (True,[⟨false,[.own 1 (iL (mem x)) 1]⟩],[])
 | _=>none⟩
attribute [local go_sem] Qk9
theorem Qho:Qa E0 97 Qk9:=by
 refine QV (E:=E0) (T:=mkT Tryz.prog [(148,Qb5),(149,Qcf)] false (fun _=>false) true (fun _=>false)) (Qf (E:=E0) (.cons QhN (.cons Qb8 .nil))) (fn:=Tryz.f97) Tryz.func97 (by kernel_rfl) rfl Qe (by kernel_rfl) rfl ?_
 intro args p rs ms hr;unfold Qk9 at hr;dsimp only at hr;split at hr;rotate_left
 ·cases hr
 rename_i x;cases hr;refine⟨rfl,rfl,nLe rfl,?_⟩
 have hm:=mxE;intro _ bs;unfold mem;cases hv:Qj 5 x
 ·(repeat' first|refine gA fun _=>?_|apply fkI<;>intro hb<;>try simp only[ew]at hb|simp only[go_sem,simprocAttr, *])
  refine lpI {ι:=Unit,rs:=[(6,21)],mods:=[(4,fun _=> .one (.d (.v (.int .i64 0)))),(3,fun _=> .one (.own 1 [] 1))],boxes:=[],arrs:=[],ok:=fun _=>True,mu:=fun i=>0} rfl () trivial ?_ fun i hi=>?_
  ·exact gQ
  ·dsimp only at i hi
   (repeat' first|refine gA fun _=>?_|apply fkI<;>intro hb<;>try simp only[ew]at hb|simp only[go_sem,simprocAttr, *])
   rfl
 ·simp only[if_true]
  (repeat' first|refine gA fun _=>?_|apply fkI<;>intro hb<;>try simp only[ew]at hb|simp only[go_sem,simprocAttr, *])
  refine lpI {ι:=Nat,rs:=[(6,21)],mods:=[(4,fun i=> .one (.d (.v (.int .i64 i)))),(3,fun i=> .one (.own 1 (iL (QcN x i)) 1))],boxes:=[],arrs:=[],ok:=fun i=>i≤5,mu:=fun i=>5-i} rfl 0 (Nat.zero_le _) ?_ fun i hi=>?_
  ·exact gQ
  ·dsimp only at i hi
   have hl:=@Qbw x i
   (repeat' first|refine gA fun _=>?_|apply fkI<;>intro hb<;>try simp only[ew]at hb|simp only[go_sem,simprocAttr, *])
   ·have hh:=‹Qy x (i:Nat)=true›
    have e:iL (QcN x i)++[[D.v (.int .i64 i)]]=iL (QcN x (i+1)):=by simp[QcN,hh,iL]
    refine lpN (i+1) (by dsimp only;omega) (by dsimp only;omega) ?_
    clear hh;(repeat' first|refine gA fun _=>?_|apply fkI<;>intro hb<;>try simp only[ew,e]at hb|simp only[go_sem,simprocAttr, *])
   ·have hh:=‹Qy x (i:Nat)=false›
    have e:QcN x (i+1)=QcN x i:=by simp[QcN,hh]
    refine lpN (i+1) (by dsimp only;omega) (by dsimp only;omega) ?_
    clear hh;(repeat' first|refine gA fun _=>?_|apply fkI<;>intro hb<;>try simp only[ew,e]at hb|simp only[go_sem,simprocAttr, *])
   ·have e:i=5:=by omega
    subst e;rfl
def faL(x:Int):List Int:=if Qj 5 x then(if x=0 then [110,111,110,101]else(QcN x 5).map (65+·))else []
def fa(x:Int):ByteArray:=Qcv (faL x)
def cFA:Qb:=⟨[],false,fun
 | [.one (.v (.int .i64 x))]=>some (True,[⟨false,[.d (.v (.string (fa x)))]⟩],[])
 | _=>none⟩
attribute [local go_sem] cFA
theorem QA7{m:Int}(h0:0≤m)(h5:m<5):IntKind.wrap .u8 (65+m)=65+m:=by
 have:m=0∨m=1∨m=2∨m=3∨m=4:=by omega
 rcases this with rfl|rfl|rfl|rfl|rfl<;>rfl
theorem Qnp:Qj 5 0=true:=by decide
theorem QfC{x:Int}:(mem x).length≤5:=by
 unfold mem;split
 ·exact Qbw
 ·simp
theorem mem_range{x:Int}{i:Nat}(h:i<(mem x).length):0≤(mem x).getD i 0∧(mem x).getD i 0<5:=by
 have hm:(mem x).getD i 0∈mem x:=by simp[List.getD_eq_getElem?_getD,h]
 unfold mem at hm ⊢;split at hm
 ·rename_i hv
  rw[if_pos hv];exact QdW (n:=5) _ hm
 ·cases hm
theorem Qnc:Qa E0 146 cFA:=by
 refine QV (E:=E0) (T:=mkT Tryz.prog [(97,Qk9)] false (fun _=>false) true (fun _=>false)) (Qf (E:=E0) (.cons Qho .nil)) (fn:=Tryz.f146) Tryz.func146 (by kernel_rfl) rfl Qe (by kernel_rfl) rfl ?_
 intro args p rs ms hr;unfold cFA at hr;dsimp only at hr;split at hr;rotate_left
 ·cases hr
 rename_i x;cases hr;refine⟨rfl,rfl,nLe rfl,?_⟩
 have hm:=mxE;intro _ bs
 by_cases hx:x=0
 ·subst hx
  have e:fa 0=⟨#[110,111,110,101]⟩:=by unfold fa faL;rw[Qnp];rfl
  (repeat' first|refine gA fun _=>?_|apply fkI<;>intro hb<;>try simp only[ew,e]at hb|simp only[go_sem,simprocAttr, *])
 ·have e:fa x=Qcv ((mem x).map (65+·)):=by
   unfold fa faL mem;split<;>simp[hx]
  rw[e];have e0:(x==0)=false:=by simpa using hx
  have hl:=@QfC x
  clear e;(repeat' first|refine gA fun _=>?_|apply fkI<;>intro hb<;>try simp only[ew]at hb|simp only[go_sem,simprocAttr, *])
  refine lpI {ι:=Nat,rs:=[(5,6),(13,23)],mods:=[(12,fun i=> .one (.d (.v (.int .i64 i)))),(3,fun i=> .one (.own 1 (bL (((mem x).take i).map (65+·))) 1))],boxes:=[],arrs:=[(10,fun _=>(1,iL (mem x),1))],ok:=fun i=>i≤(mem x).length,mu:=fun i=>(mem x).length-i} rfl 0 (Nat.zero_le _) ?_ fun i hi=>?_
  ·exact gQ
  ·dsimp only at i hi
   have hr:=fun h=>@mem_range x i h
   by_cases h5:i<(mem x).length
   ·obtain⟨r0,r5⟩:=hr h5
    have ew:=QA7 r0 r5
    clear hr;(repeat' first|refine gA fun _=>?_|apply fkI<;>intro hb<;>try simp only[ew,List.length_map,ew]at hb|simp only[go_sem,simprocAttr, *,List.length_map])
    refine lpN (i+1) (by dsimp only;omega) (by dsimp only;omega) ?_
    have e2:((mem x).take (i+1)).map (65+·)=((mem x).take i).map (65+·)++[65+(mem x).getD i 0]:=by
     rw[Qk h5 0];simp
    clear r0 r5 hl;(repeat' first|refine gA fun _=>?_|apply fkI<;>intro hb<;>try simp only[ew,e2]at hb|simp only[go_sem,simprocAttr, *])
   ·clear hr
    (repeat' first|refine gA fun _=>?_|apply fkI<;>intro hb<;>try simp only[ew,List.length_map]at hb|simp only[go_sem,simprocAttr, *,List.length_map])
    rw[List.take_of_length_le (by omega)]
theorem QnD{x:Int}(h:Qj 5 x=true):QcN x 5=[]↔x=0:=by
 have h:=Qt h
 have key:∀n:Fin 32,(QcN ((n.val:Nat):Int) 5=[]↔((n.val:Nat):Int)=0):=by decide+kernel
 have:=key ⟨x.toNat,by omega⟩
 rwa [show((x.toNat:Nat):Int)=x by omega]at this
theorem QBr{i:Nat}(h:i<5):ByteArray.extract ⟨#[65,66,67,68,69]⟩ i (i+1)=Qcv [65+(i:Nat)]:=by
 have:i=0∨i=1∨i=2∨i=3∨i=4:=by omega
 rcases this with rfl|rfl|rfl|rfl|rfl<;>decide
theorem Qh4:ByteArray.size ⟨#[65,66,67,68,69]⟩=5:=rfl
theorem Qq3:Qa E0 23 cFA:=by
 refine QV (E:=E0) (T:=mkT Tryz.prog [(63,Qb5)] false (fun _=>false) true (fun _=>false)) (Qf (E:=E0) (.cons QhO .nil)) (fn:=Tryz.f23) Tryz.func23 (by kernel_rfl) rfl Qe (by kernel_rfl) rfl ?_
 intro args p rs ms hr;unfold cFA at hr;dsimp only at hr;split at hr;rotate_left
 ·cases hr
 rename_i x;cases hr;refine⟨rfl,rfl,nLe rfl,?_⟩
 have hm:=mxE;intro _ bs;cases hv:Qj 5 x
 ·have e:fa x=⟨#[]⟩:=by unfold fa faL;rw[hv];rfl
  (repeat' first|refine gA fun _=>?_|apply fkI<;>intro hb<;>try simp only[ew,e]at hb|simp only[go_sem,simprocAttr, *])
 ·(repeat' first|refine gA fun _=>?_|apply fkI<;>intro hb<;>try simp only[ew]at hb|simp only[go_sem,simprocAttr, *])
  refine lpI {ι:=Nat,rs:=[(8,23)],mods:=[(4,fun i=> .one (.d (.v (.int .i64 i)))),(3,fun i=> .one (.d (.v (.string (Qcv ((QcN x i).map (65+·)))))))],boxes:=[],arrs:=[],ok:=fun i=>i≤5,mu:=fun i=>5-i} rfl 0 (Nat.zero_le _) ?_ fun i hi=>?_
  ·exact gQ
  ·dsimp only at i hi
   have hl:=@Qbw x i
   by_cases h5:i<5
   ·have he:ByteArray.extract ⟨#[65,66,67,68,69]⟩ i ((i:Int)+1).toNat=Qcv [65+(i:Nat)]:=by
     rw[show((i:Int)+1).toNat=i+1 by omega];exact QBr h5
    (repeat' first|refine gA fun _=>?_|apply fkI<;>intro hb<;>try simp only[ew,Qq,Qh4,Qai,List.length_map,he]at hb|simp only[go_sem,simprocAttr, *,Qq,Qh4,Qai,List.length_map])
    ·have hb:=‹Qax BinOp.and IntKind.i64 (x.fdiv (2^i)) 1=1›
     have hh:Qy x (i:Nat)=true:=by unfold Qy;rw[Int.toNat_natCast,hb];rfl
     have e2:Qcv ((QcN x i).map (65+·))++Qcv [65+(i:Nat)]=Qcv ((QcN x (i+1)).map (65+·)):=by rw[QcP];simp[QcN,hh]
     refine lpN (i+1) (by dsimp only;omega) (by dsimp only;omega) ?_
     clear hh hb hl;(repeat' first|refine gA fun _=>?_|apply fkI<;>intro hb<;>try simp only[ew,he,e2]at hb|simp only[go_sem,simprocAttr, *])
    ·have hb:=‹¬Qax BinOp.and IntKind.i64 (x.fdiv (2^i)) 1=1›
     have hh:Qy x (i:Nat)=false:=by unfold Qy;rw[Int.toNat_natCast];exact beq_false_of_ne hb
     have e2:QcN x (i+1)=QcN x i:=by simp[QcN,hh]
     refine lpN (i+1) (by dsimp only;omega) (by dsimp only;omega) ?_
     clear hh hb hl;(repeat' first|refine gA fun _=>?_|apply fkI<;>intro hb<;>try simp only[ew,he,e2]at hb|simp only[go_sem,simprocAttr, *])
    all_goals (exfalso;omega)
   ·have e5:i=5:=by omega
    subst e5;have hmn:=QnD hv;(repeat' first|refine gA fun _=>?_|apply fkI<;>intro hb<;>try simp only[ew,QiX]at hb|simp only[go_sem,simprocAttr, *,QiX])
    ·have h0:=‹(List.map (fun x=>65+x) (QcN x 5)).isEmpty=true›
     rw[List.isEmpty_iff,List.map_eq_nil_iff,hmn]at h0;subst h0;unfold fa faL;rw[Qnp];rfl
    ·have h0:=‹(List.map (fun x=>65+x) (QcN x 5)).isEmpty=false›
     have h1:¬x=0:=fun e=>by
      rw[List.isEmpty_eq_false_iff,ne_eq,List.map_eq_nil_iff,hmn]at h0;exact h0 e
     unfold fa faL;rw[hv,if_neg h1];rfl
end Go.Own
namespace Go.Own
open Go Go.Proofs
attribute [local go_sem] cFA QbD Tryz.results26 Qb5 Tryz.results106
attribute [local go_sem] QbP Qab QcO
def tL(ss:List ByteArray):List (List D):=ss.map fun s=>[D.v (.string s)]
def unT(l:List (List D)):List ByteArray:=l.map fun
 | [.v (.string s)]=>s
 | _=>⟨#[]⟩
theorem Qbp(ss:List ByteArray):unT (tL ss)=ss:=by simp[unT,tL,Function.comp_def]
theorem Qz(ss:List ByteArray):(tL ss).length=ss.length:=by simp[tL]
theorem Qbm(ss:List ByteArray)(s:ByteArray):tL ss++[[D.v (.string s)]]=tL (ss++[s]):=by simp[tL]
def WfL(l:List (List D)):Prop:=l=tL (unT l)∧l.length≤maxLen
theorem Qcu{ss:List ByteArray}:WfL (tL ss)↔ss.length≤maxLen:=by simp[WfL,Qbp,Qz]
attribute [local go_sem] QbP Qab QcO Qbp Qz Qbm Qcu
theorem Qxz{x:Int}:(faL x).length≤5:=by
 unfold faL;split
 ·split
  ·decide
  ·rw[List.length_map];exact Qbw
 ·simp
theorem QaM{x:Int}:(fa x).size≤5:=by unfold fa;rw[Qai];exact Qxz
theorem QqZ{s:ByteArray}:(⟨#[]⟩:ByteArray)++s=s:=Qa8 (by rw[Qav];rfl)
theorem QbK:ByteArray.size ⟨#[32]⟩=1:=rfl
theorem Qd{a b:ByteArray}:(a++b).size=a.size+b.size:=by simp
def Qv5(q:Int×Int):Bool:=Qj 5 q.1&&inB q.2 0 4
def fd(q:Int×Int):ByteArray:=if Qv5 q then(fa q.1++⟨#[62]⟩)++fa (1*2^q.2.toNat)else⟨#[]⟩
def cFD:Qb:=⟨[],false,fun
 | [.agg [.v (.int .i64 a),.v (.int .i64 b)]]=>some (True,[⟨false,[.d (.v (.string (fd (a,b))))]⟩],[])
 | _=>none⟩
attribute [local go_sem] cFD
theorem Qiu{x:Int}:((fa x).toList==ByteArray.toList ⟨#[]⟩)= !Qj 5 x:=by
 unfold fa;rw[QiX];unfold faL;cases hv:Qj 5 x
 ·rfl
 ·simp only[if_true,Bool.not_true]
  split
  ·rfl
  ·rename_i h
   rw[List.isEmpty_eq_false_iff,ne_eq,List.map_eq_nil_iff,QnD hv];exact h
theorem Qeo:ByteArray.size ⟨#[62]⟩=1:=rfl
theorem Qz4:Qa E0 26 cFD:=by
 refine QV (E:=E0) (T:=mkT Tryz.prog [(23,cFA),(62,QbD)] false (fun _=>false) true (fun _=>false)) (Qf (E:=E0) (.cons Qq3 (.cons Qhj .nil))) (fn:=Tryz.f26) Tryz.func26 (by kernel_rfl) rfl Qe (by kernel_rfl) rfl ?_
 intro args p rs ms hr;unfold cFD at hr;dsimp only at hr;split at hr;rotate_left
 ·cases hr
 rename_i a b;cases hr;refine⟨rfl,rfl,nLe rfl,?_⟩
 have hm:=mxE;intro _ bs;have s1:=@QaM a
 have s2:=@QaM (1*2^b.toNat)
 cases h1:Qj 5 a
 ·have e:fd (a,b)=⟨#[]⟩:=by simp[fd,Qv5,h1]
  rw[e];clear e s1 s2;(repeat' first|refine gA fun _=>?_|apply fkI<;>intro hb<;>try simp only[ew,Qiu]at hb|simp only[go_sem,simprocAttr, *,Qiu])
 ·cases h2:inB b 0 4
  ·have e:fd (a,b)=⟨#[]⟩:=by simp[fd,Qv5,h1,h2]
   rw[e];clear e s1 s2;(repeat' first|refine gA fun _=>?_|apply fkI<;>intro hb<;>try simp only[ew,Qiu]at hb|simp only[go_sem,simprocAttr, *,Qiu])
  ·have e:fd (a,b)=(fa a++⟨#[62]⟩)++fa (1*2^b.toNat):=by simp[fd,Qv5,h1,h2]
   rw[e];clear e;have h3:=Qh.1 h2
   have h4:=Qyj (n:=b) h3.1 (by omega)
   (repeat' first|refine gA fun _=>?_|apply fkI<;>intro hb<;>try simp only[ew,Qiu,Qq,Qeo,Qd]at hb|simp only[go_sem,simprocAttr, *,Qiu,Qq,Qeo,Qd])
theorem Qnd:Qa E0 106 cFD:=by
 refine QV (E:=E0) (T:=mkT Tryz.prog [(148,Qb5),(146,cFA)] false (fun _=>false) true (fun _=>false)) (Qf (E:=E0) (.cons QhN (.cons Qnc .nil))) (fn:=Tryz.f106) Tryz.func106 (by kernel_rfl) rfl Qe (by kernel_rfl) rfl ?_
 intro args p rs ms hr;unfold cFD at hr;dsimp only at hr;split at hr;rotate_left
 ·cases hr
 rename_i a b;cases hr;refine⟨rfl,rfl,nLe rfl,?_⟩
 have hm:=mxE;intro _ bs;have s1:=@QaM a
 have s2:=@QaM (1*2^b.toNat)
 by_cases h:Qj 5 a=true∧0≤b∧b≤4
 ·obtain⟨h1,h2,h3⟩:=h
  have e:fd (a,b)=(fa a++⟨#[62]⟩)++fa (1*2^b.toNat):=by simp[fd,Qv5,h1,Qh.2 ⟨h2,h3⟩]
  rw[e];clear e;have h4:=Qyj (n:=b) h2 (by omega)
  have e1:decide (b<0)=false:=decide_eq_false (by omega)
  have e2:decide (b≥5)=false:=decide_eq_false (by omega)
  (repeat' first|refine gA fun _=>?_|apply fkI<;>intro hb<;>try simp only[ew,Qq,Qeo,Qd]at hb|simp only[go_sem,simprocAttr, *,Qq,Qeo,Qd])
 ·have e:fd (a,b)=⟨#[]⟩:=by
   unfold fd Qv5;rw[if_neg];intro q;simp only[Bool.and_eq_true,Qh]at q
   exact h ⟨q.1,q.2.1,q.2.2⟩
  have e0:(!Qj 5 a||decide (b<0)||decide (b≥5))=true:=by
   cases q:(!Qj 5 a||decide (b<0)||decide (b≥5))with
   | true=>rfl
   | false=>
    simp only[Bool.or_eq_false_iff,Bool.not_eq_false',decide_eq_false_iff_not]at q
    exact absurd ⟨q.1.1,by omega,by omega⟩ h
  rw[e];clear e h s1 s2;(repeat' first|refine gA fun _=>?_|apply fkI<;>intro hb<;>try simp only[ew,e0]at hb|simp only[go_sem,simprocAttr, *])
end Go.Own
