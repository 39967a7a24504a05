/- Own contracts. Conditions: as each theorem states them. -/
import Derived.Test.YtnmkpepdacbfaaaGreatDoorRc40
set_option linter.unusedSimpArgs false
set_option linter.unusedVariables false
set_option maxRecDepth 20000
set_option maxHeartbeats 2000000
namespace Go.Own
open Go Go.Proofs
attribute [local go_sem] cFD QlR Tryz.results112 Tryz.results12
attribute [local go_sem] Qh Qe Qaa Qac Qab Qaf QaX Qu Qbh QC Qbs Qct
theorem Qs1{q:Int×Int}:(fd q).size≤11:=by
 have s1:=@QaW q.1
 have s2:=@QaW (1*2^q.2.toNat)
 unfold fd;split
 ·rw[Qg,Qg,Qe5];omega
 ·exact Nat.zero_le _
theorem Qpo{xs:List (Int×Int)}:(jb ⟨#[32]⟩ (xs.map fd)).size≤xs.length*12:=by
 have:=Qiq (sep:=⟨#[32]⟩) (B:=11) (ss:=xs.map fd) (fun s hs=>by obtain⟨x,_,rfl⟩:=List.mem_map.1 hs;exact Qs1)
 rw[List.length_map]at this;exact this
theorem QwA{xs:List (Int×Int)}{i:Nat}:(jb ⟨#[32]⟩ ((xs.take i).map fd)).size≤i*12:=by
 have:=@Qpo (xs.take i)
 rw[List.length_take]at this;have h2:min i xs.length*12≤i*12:=Nat.mul_le_mul_right _ (Nat.min_le_left _ _)
 omega
def dlL(xs:List (Int×Int)):ByteArray:=if(jb ⟨#[32]⟩ (xs.map fd)).toList==ByteArray.toList ⟨#[]⟩then⟨#[110,111,110,101]⟩else jb ⟨#[32]⟩ (xs.map fd)
def cDL:Qb:=⟨[],false,fun
 | [.one (.sl 2 l)]=>some (WfD l∧l.length≤1048576,[⟨false,[.d (.v (.string (dlL (unD l))))]⟩],[])
 | _=>none⟩
attribute [local go_sem] cDL
theorem QBt:Qa E0 112 cDL:=by
 refine QE (E:=E0) (T:=mkT Tryz.prog [(106,cFD),(111,QlR)] false (fun _=>false) true (fun _=>false)) (Qd (E:=E0) (.cons Qpb (.cons QnX .nil))) (fn:=Tryz.f112) Tryz.func112 (by kernel_rfl) rfl Qc (by kernel_rfl) rfl ?_
 intro args p rs ms hr;unfold cDL at hr;dsimp only at hr;split at hr;rotate_left
 ·cases hr
 rename_i l;cases hr;refine⟨rfl,rfl,nLe rfl,?_⟩
 have hm:=mxE;rintro⟨h1,h2⟩ bs;obtain⟨xs,rfl,hx⟩:=h1.ex;clear h1;rw[Qe]at h2;rw[Qh];(repeat' first|refine gA fun _=>?_|apply fkI<;>intro hb<;>try simp only[ew]at hb|simp only[go_sem,simprocAttr, *])
 refine lpI {ι:=Nat,rs:=[(5,6),(11,20)],mods:=[(10,fun i=> .one (.d (.v (.int .i64 i)))),(3,fun i=> .one (.own 1 (tL ((xs.take i).map fd)) 1))],boxes:=[],arrs:=[],ok:=fun i=>i≤xs.length,mu:=fun i=>xs.length-i} rfl 0 (Nat.zero_le _) ?_ fun i hi=>?_
 ·exact gQ
 ·dsimp only at i hi
  have hsz:=@Qpo xs
  by_cases h5:i<xs.length
  ·clear hsz
   (repeat' first|refine gA fun _=>?_|apply fkI<;>intro hb<;>try simp only[ew,List.length_map]at hb|simp only[go_sem,simprocAttr, *,List.length_map])
   ·have e2:(xs.take (i+1)).map fd=(xs.take i).map fd++[fd (xs.getD i (0,0))]:=by rw[Qf h5 (0,0)];simp
    refine lpN (i+1) (by dsimp only;omega) (by dsimp only;omega) ?_
    (repeat' first|refine gA fun _=>?_|apply fkI<;>intro hb<;>try simp only[ew,e2]at hb|simp only[go_sem,simprocAttr, *])
  ·have e5:i=xs.length:=by omega
   subst e5;have e6:xs.take xs.length=xs:=List.take_length
   (repeat' first|refine gA fun _=>?_|apply fkI<;>intro hb<;>try simp only[ew,List.length_map,e6]at hb|simp only[go_sem,simprocAttr, *,List.length_map])
   ·have hq:=‹(jb ⟨#[32]⟩ (xs.map fd)).toList=ByteArray.toList ⟨#[]⟩›
    unfold dlL;rw[if_pos (beq_iff_eq.2 hq)]
   ·have hq:=‹¬(jb ⟨#[32]⟩ (xs.map fd)).toList=ByteArray.toList ⟨#[]⟩›
    unfold dlL;rw[if_neg (fun h=>hq (beq_iff_eq.1 h))]
theorem QBu:Qa E0 12 cDL:=by
 refine QE (E:=E0) (T:=mkT Tryz.prog [(26,cFD)] false (fun _=>false) true (fun _=>false)) (Qd (E:=E0) (.cons Qs0 .nil)) (fn:=Tryz.f12) Tryz.func12 (by kernel_rfl) rfl Qc (by kernel_rfl) rfl ?_
 intro args p rs ms hr;unfold cDL at hr;dsimp only at hr;split at hr;rotate_left
 ·cases hr
 rename_i l;cases hr;refine⟨rfl,rfl,nLe rfl,?_⟩
 have hm:=mxE;rintro⟨h1,h2⟩ bs;obtain⟨xs,rfl,hx⟩:=h1.ex;clear h1;rw[Qe]at h2;rw[Qh];(repeat' first|refine gA fun _=>?_|apply fkI<;>intro hb<;>try simp only[ew]at hb|simp only[go_sem,simprocAttr, *])
 refine lpI {ι:=Nat,rs:=[(5,22)],mods:=[(4,fun i=> .one (.d (.v (.int .i64 i)))),(3,fun i=> .one (.d (.v (.string (jb ⟨#[32]⟩ ((xs.take i).map fd))))))],boxes:=[],arrs:=[],ok:=fun i=>i≤xs.length,mu:=fun i=>xs.length-i} rfl 0 (Nat.zero_le _) ?_ fun i hi=>?_
 ·exact gQ
 ·dsimp only at i hi
  have hsz:=@QwA xs i
  have hf:=@Qs1 (xs.getD i (0,0))
  by_cases h5:i<xs.length
  ·have hs:=QnW (sep:=⟨#[32]⟩) (f:=fd) (d:=(0,0)) h5
   by_cases h0:i=0
   ·subst h0
    rw[if_pos rfl]at hs;have e0:decide ((0:Int)>0)=false:=by decide
    have z0:(jb ⟨#[32]⟩ []).size=0:=rfl
    rw[List.take_zero,List.map_nil]at hs;rw[Nat.zero_add]at hs;clear hsz;(repeat' first|refine gA fun _=>?_|apply fkI<;>intro hb<;>try simp only[ew,e0,Qec,Qg,z0]at hb|simp only[go_sem,simprocAttr, *,Qec,Qg])
    ·refine lpN 1 (by dsimp only;omega) (by dsimp only;omega) ?_
     clear hf;(repeat' first|refine gA fun _=>?_|apply fkI<;>intro hb<;>try simp only[ew,hs]at hb|simp only[go_sem,simprocAttr, *])
     all_goals first|omega|skip
    all_goals (exfalso;omega)
   ·rw[if_neg h0]at hs
    have e0:decide ((i:Int)>0)=true:=decide_eq_true (by omega)
    (repeat' first|refine gA fun _=>?_|apply fkI<;>intro hb<;>try simp only[ew,e0,Qec,Qg]at hb|simp only[go_sem,simprocAttr, *,Qec,Qg])
    ·refine lpN (i+1) (by dsimp only;omega) (by dsimp only;omega) ?_
     clear hsz hf e0;(repeat' first|refine gA fun _=>?_|apply fkI<;>intro hb<;>try simp only[ew,hs]at hb|simp only[go_sem,simprocAttr, *])
    all_goals (exfalso;omega)
  ·have e5:i=xs.length:=by omega
   subst e5;have e6:xs.take xs.length=xs:=List.take_length
   clear hsz hf;(repeat' first|refine gA fun _=>?_|apply fkI<;>intro hb<;>try simp only[ew,e6]at hb|simp only[go_sem,simprocAttr, *])
   ·have hq:=‹(jb ⟨#[32]⟩ (xs.map fd)).toList=ByteArray.toList ⟨#[]⟩›
    unfold dlL;rw[if_pos (beq_iff_eq.2 hq)]
   ·have hq:=‹¬(jb ⟨#[32]⟩ (xs.map fd)).toList=ByteArray.toList ⟨#[]⟩›
    unfold dlL;rw[if_neg (fun h=>hq (beq_iff_eq.1 h))]
end Go.Own

namespace Go.Own
open Go Go.Proofs
structure Con where
  c:Int
  rs:List (List Int)
  m:Int
  ds:List (Int×Int)
  gv:List (Int×Int)
def Qge:Con:=⟨0,[],0,[],[]⟩
def Qn5(b:ByteArray):Int:=if isW b Qpp then 1 else if isW b Qmk then 0 else -1
def Qxs(σ:Con)(a b:ByteArray):Con×ByteArray:=
 if nmB (l3V a) [] (Qn5 b)then(⟨l3V a,[],Qn5 b,mdL (l3V a) [] (Qn5 b),[]⟩,sOk)else(σ,sNo)
def QuW(σ:Con)(ws:List ByteArray):Con×ByteArray:=
 if Qip σ.c σ.rs σ.m σ.ds (ws.map l3V)then({σ with rs:=Qlw σ.c σ.rs σ.m σ.ds (ws.map l3V),ds:=Qlv σ.c σ.rs σ.m σ.ds (ws.map l3V)},sOk)else(σ,sNo)
def QxK(σ:Con)(a:ByteArray):Con×ByteArray:=
 if Qg9 σ.c σ.rs σ.m σ.ds (l3V a)then({σ with rs:=Qeo σ.c σ.rs σ.m σ.ds (l3V a),ds:=Qfi σ.c σ.rs σ.m σ.ds (l3V a)},sOk)else(σ,sNo)
def QrD(σ:Con)(p l v:ByteArray):Con×ByteArray:=
 if((paF l).2&&decide (((mem (paF l).1).length:Int)=1))=true then
  if Qm1 σ.c σ.rs σ.m σ.ds (l3V p) ((mem (paF l).1).getD 0 0) (l3V v)then({σ with rs:=Qqq σ.c σ.rs σ.m σ.ds (l3V p) ((mem (paF l).1).getD 0 0) (l3V v),ds:=Qqo σ.c σ.rs σ.m σ.ds (l3V p) ((mem (paF l).1).getD 0 0) (l3V v)},sOk)else(σ,sNo)
 else(σ,QmM)
def Qm4(σ:Con)(w:ByteArray)(d:Int×Int):Con×ByteArray:=
 if isW w QxT then(σ,wlB σ.c σ.rs σ.m d.1 d.2)
 else if isW w QxU then(if decide ((σ.gv.length:Int)≥20)=true then(σ,sNo)else({σ with gv:=σ.gv++[d]},QiB ((σ.gv.length+1:Nat):Int)))
 else if isW w Qpr then(if QjS σ.c σ.gv d.1 d.2 then(if(QnI σ.c σ.gv d.1 d.2).isEmpty then(σ,QCc)else(σ,jb ⟨#[59,32]⟩ (QnI σ.c σ.gv d.1 d.2)))else(σ,sNo))
 else(σ,QmM)
def QlA(σ:Con)(w:ByteArray):Con×ByteArray:=
 if isW w QzF then(σ,dlL σ.ds)
 else if isW w QzG then(σ,slL (Qpu σ.c σ.rs σ.m))
 else if isW w Qto then(σ,slL (QhM σ.c σ.rs σ.m))
 else if isW w QzH then(σ,QiB (σ.rs.length:Nat))
 else if isW w QwD then(if decide ((σ.ds.length:Int)>20)=true then(σ,sNo)else({σ with gv:=σ.ds},sOk))
 else if isW w Qpq then({σ with gv:=[]},sOk)
 else if isW w QjU then(σ,dlL (Qgf σ.c σ.gv))
 else if isW w Qgs then(σ,QA1 σ.c σ.gv)
 else(σ,QmM)
def QgV(σ:Con)(ws:List ByteArray):Con×ByteArray:=
 if(isW (ws.getD 0 ⟨#[]⟩) Qht&&ws.length==3)=true then Qxs σ (ws.getD 1 ⟨#[]⟩) (ws.getD 2 ⟨#[]⟩)
 else if(σ.c==0)=true then(σ,Qx6)
 else if(isW (ws.getD 0 ⟨#[]⟩) QAZ&&decide (ws.length>1))=true then QuW σ (ws.drop 1)
 else if(isW (ws.getD 0 ⟨#[]⟩) QwB&&ws.length==4)=true then QrD σ (ws.getD 1 ⟨#[]⟩) (ws.getD 2 ⟨#[]⟩) (ws.getD 3 ⟨#[]⟩)
 else if(isW (ws.getD 0 ⟨#[]⟩) QwC&&ws.length==2)=true then QxK σ (ws.getD 1 ⟨#[]⟩)
 else if(ws.length==2)=true then(if(pdF σ.c (ws.getD 1 ⟨#[]⟩)).2 then Qm4 σ (ws.getD 0 ⟨#[]⟩) (pdF σ.c (ws.getD 1 ⟨#[]⟩)).1 else(σ,QmM))
 else if(ws.length==1)=true then QlA σ (ws.getD 0 ⟨#[]⟩)
 else(σ,QmM)
def QZ:Con→List ByteArray→Con×ByteArray
 | σ,[]=>(σ,⟨#[]⟩)
 | σ,l::r=>if isW l ⟨#[]⟩then QZ σ r else((QZ (QgV σ (Qbm 32 l)).1 r).1,((QgV σ (Qbm 32 l)).2++⟨#[10]⟩)++(QZ (QgV σ (Qbm 32 l)).1 r).2)
def Qis(ls:List ByteArray):List ByteArray:=if isW (ls.getD (ls.length-1) ⟨#[]⟩) ⟨#[]⟩then ls.take (ls.length-1)else ls
def rcF(text:ByteArray):ByteArray:=if(decide (text.size>3000)||decide ((Qis (Qbm 10 text)).length>60))=true then⟨#[]⟩else(QZ Qge (Qis (Qbm 10 text))).2
def QcY(σ:Con):Prop:=((σ.c=0∧σ.rs=[]∧σ.m=0∧σ.ds=[]∧σ.gv=[])∨isM σ.c σ.rs σ.m σ.ds=true)∧σ.gv.length≤20∧∀d∈σ.gv,QJ σ.c d.1 d.2=true
theorem Qkv:QcY Qge:=⟨.inl ⟨rfl,rfl,rfl,rfl,rfl⟩,by decide,fun d hd=>by cases hd⟩
theorem QzC{c:Int}{rs:List (List Int)}{m:Int}{ds:List (Int×Int)}(h:isM c rs m ds=true):∀d∈ds,QJ c d.1 d.2=true:=by
 obtain⟨ht,hm,rfl⟩:=QaD h;obtain⟨n,rfl,n1,n5,_,_⟩:=QL ht;intro d hd;have e:mdL n rs m=QaR (hdB n rs m) n:=by unfold mdL;rw[ht,hm];rfl
 rw[e]at hd;obtain⟨h1,h2⟩:=(QfJ ⟨n1,n5⟩ (QtI n5)).1 hd;exact Qhn ⟨n1,n5⟩ h2.1 h1
theorem QB7{c:Int}{rs:List (List Int)}(h:QK c rs=true){r:List Int}(hr:r∈rs):QbS r c=true:=by
 unfold QK at h;rw[Bool.and_eq_true,List.all_eq_true]at h;exact h.1 r hr
theorem QuG{c:Int}{rs:List (List Int)}{m:Int}{ds:List (Int×Int)}{a k v:Int}:Qm1 c rs m ds a k v=QlB c rs m ds a k v:=by
 unfold Qm1;cases hv:QlB c rs m ds a k v
 ·rfl
 ·rw[Bool.true_and]
  unfold QlB at hv;rw[Bool.and_eq_true,Bool.and_eq_true,Bool.and_eq_true]at hv;obtain⟨⟨⟨h1,h2⟩,h3⟩,h4⟩:=hv;have hd:Qg9 c rs m ds a=true:=by unfold Qg9;rw[h1,h2];rfl
  obtain⟨d1,d2⟩:=QsP hd;obtain⟨ht,hm,_⟩:=QaD h1;obtain⟨n,rfl,n1,n5,h40,_⟩:=QL ht;rw[Qi]at h2 h3;obtain⟨i,rfl⟩:=Int.eq_ofNat_of_zero_le h2.1;have hi:i<rs.length:=by omega
  have hr:=QB7 ht (QP hi [])
  unfold Qip;rw[d1,Bool.true_and,Bool.and_eq_true];refine⟨?_,decide_eq_true (by omega)⟩
  unfold QdH;rw[Int.toNat_natCast];unfold QbS at hr ⊢;rw[Bool.and_eq_true,List.all_eq_true,decide_eq_true_eq]at hr ⊢;refine⟨fun x hx=>?_,by rw[List.length_set];exact hr.2⟩
  rcases List.mem_or_eq_of_mem_set hx with hx|hx
  ·exact hr.1 x hx
  ·rw[hx];exact h4
theorem Qfa{n m:Int}:nmB n [] m=(inB n 1 5&&QH m):=by
 unfold nmB QK;simp
theorem QBe{a:ByteArray}{m:Int}:nmB (l3V a) [] m=((spF a.data.toList).2&&nmB (spF a.data.toList).1 [] m):=by
 rw[Qfa,Qfa];cases h:(spF a.data.toList).2
 ·rw[Bool.false_and]
  cases hb:inB (l3V a) 1 5
  ·rfl
  ·rw[Qi]at hb
   have:=(Qe8 (s:=a) (by omega)).1
   rw[h]at this;cases this
 ·rw[Bool.true_and]
  by_cases h0:0≤(spF a.data.toList).1
  ·rw[Qtr h h0]
  ·have e1:inB (spF a.data.toList).1 1 5=false:=by
    cases hb:inB (spF a.data.toList).1 1 5
    ·rfl
    ·rw[Qi]at hb;omega
   have e2:inB (l3V a) 1 5=false:=by
    cases hb:inB (l3V a) 1 5
    ·rfl
    ·rw[Qi]at hb
     have:=(Qe8 (s:=a) (by omega)).2
     omega
   rw[e1,e2]
theorem QyI{a:ByteArray}{m:Int}(h:nmB (l3V a) [] m=true):(spF a.data.toList).1=l3V a:=by
 rw[Qfa,Bool.and_eq_true,Qi]at h;exact(Qe8 (by omega)).2
def rvF:List ByteArray→List Int×Bool
 | []=>([],true)
 | w::r=>if(pvF w).2 then((pvF w).1::(rvF r).1,(rvF r).2)else([],false)
theorem Qod{c:Int}:∀{ws:List ByteArray},(rvF ws).2=(ws.map l3V).all (fun v=>inB v (-1) 40)∧((rvF ws).2=true→(rvF ws).1=ws.map l3V)
 | []=>⟨rfl,fun _=>rfl⟩
 | w::r=>by
  obtain⟨i1,i2⟩:=@Qod c r;obtain⟨p1,p2⟩:=@Qt7 w;rw[rvF,List.map_cons,List.all_cons,←p1];cases hp:(pvF w).2
  ·simp only[Bool.false_eq_true,if_false,Bool.false_and]
   exact⟨trivial,fun h=>by cases h⟩
  ·simp only[if_true,Bool.true_and]
   exact⟨i1,fun h=>by rw[p2 hp,i2 h]⟩
theorem QB8{σ:Con}{ws:List ByteArray}(h:(rvF ws).2=false):QuW σ ws=(σ,sNo):=by
 unfold QuW;rw[if_neg];intro hv;unfold Qip at hv;rw[Bool.and_eq_true,Bool.and_eq_true]at hv;have hr:=hv.1.2
 unfold QbS at hr;rw[Bool.and_eq_true,←(@Qod 0 ws).1,h]at hr;exact absurd hr.1 (by decide)
theorem QAi{σ:Con}{ws:List ByteArray}(h:(rvF ws).2=true):QuW σ ws=({σ with rs:=Qlw σ.c σ.rs σ.m σ.ds (rvF ws).1,ds:=Qlv σ.c σ.rs σ.m σ.ds (rvF ws).1},if Qip σ.c σ.rs σ.m σ.ds (rvF ws).1 then sOk else sNo):=by
 rw[(@Qod 0 ws).2 h];unfold QuW;split
 ·rfl
 ·rename_i hv
  obtain⟨e1,e2⟩:=Qwu (show Qip σ.c σ.rs σ.m σ.ds (ws.map l3V)=false by simpa using hv)
  rw[e1,e2]
theorem QnF{c:Int}{rs:List (List Int)}{m:Int}{ds:List (Int×Int)}{a:Int}(h:a<0):Qg9 c rs m ds a=false:=by
 unfold Qg9;cases hb:inB a 0 ((rs.length:Int)-1)
 ·rw[Bool.and_false]
 ·rw[Qi]at hb;omega
theorem QBv{σ:Con}{a:ByteArray}(h:(spF a.data.toList).2=false):QxK σ a=(σ,sNo):=by
 unfold QxK;rw[if_neg];intro hv
 by_cases h0:0≤l3V a
 ·rw[(Qe8 h0).1]at h;cases h
 ·rw[QnF (by omega)]at hv;cases hv
theorem Qzg{σ:Con}{a:ByteArray}(h:(spF a.data.toList).2=true):QxK σ a=({σ with rs:=Qeo σ.c σ.rs σ.m σ.ds (spF a.data.toList).1,ds:=Qfi σ.c σ.rs σ.m σ.ds (spF a.data.toList).1},if Qg9 σ.c σ.rs σ.m σ.ds (spF a.data.toList).1 then sOk else sNo):=by
 have key:∀x:Int,Qg9 σ.c σ.rs σ.m σ.ds x=false→Qeo σ.c σ.rs σ.m σ.ds x=σ.rs∧Qfi σ.c σ.rs σ.m σ.ds x=σ.ds:=fun x hx=>by
  unfold Qeo Qfi;rw[hx];exact⟨rfl,rfl⟩
 unfold QxK
 by_cases h0:0≤(spF a.data.toList).1
 ·rw[Qtr h h0]
  split
  ·rfl
  ·rename_i hv
   obtain⟨e1,e2⟩:=key _ (show Qg9 σ.c σ.rs σ.m σ.ds (spF a.data.toList).1=false by simpa using hv)
   rw[e1,e2]
 ·have hv:Qg9 σ.c σ.rs σ.m σ.ds (spF a.data.toList).1=false:=QnF (by omega)
  obtain⟨e1,e2⟩:=key _ hv;rw[if_neg,hv,e1,e2]
  ·rfl
  ·intro hv2
   have h1:¬0≤l3V a:=fun h1=>by have:=(Qe8 h1).2;omega
   rw[QnF (by omega)]at hv2;cases hv2
theorem Qlr{c:Int}{rs:List (List Int)}{m:Int}{ds:List (Int×Int)}{a k v:Int}(h:a<0∨inB v (-1) 40=false):QlB c rs m ds a k v=false:=by
 unfold QlB;rcases h with h|h
 ·cases hb:inB a 0 ((rs.length:Int)-1)
  ·rw[Bool.and_false,Bool.false_and,Bool.false_and]
  ·rw[Qi]at hb;omega
 ·rw[h,Bool.and_false]
theorem Qxz{σ:Con}{p l v:ByteArray}(hl:((paF l).2&&decide (((mem (paF l).1).length:Int)=1))=true)(h:((spF p.data.toList).2&&(pvF v).2)=false):QrD σ p l v=(σ,sNo):=by
 unfold QrD;rw[if_pos hl,QuG,if_neg];rw[Qlr]
 ·decide
 ·rw[Bool.and_eq_false_iff]at h
  rcases h with h|h
  ·left
   by_cases h0:0≤l3V p
   ·rw[(Qe8 h0).1]at h;cases h
   ·omega
  ·right
   rw[←Qt7.1];exact h
theorem QyT{σ:Con}{p l v:ByteArray}(hl:((paF l).2&&decide (((mem (paF l).1).length:Int)=1))=true)(h:((spF p.data.toList).2&&(pvF v).2)=true):
  QrD σ p l v=({σ with rs:=Qqq σ.c σ.rs σ.m σ.ds (spF p.data.toList).1 ((mem (paF l).1).getD 0 0) (pvF v).1,ds:=Qqo σ.c σ.rs σ.m σ.ds (spF p.data.toList).1 ((mem (paF l).1).getD 0 0) (pvF v).1},if Qm1 σ.c σ.rs σ.m σ.ds (spF p.data.toList).1 ((mem (paF l).1).getD 0 0) (pvF v).1 then sOk else sNo):=by
 rw[Bool.and_eq_true]at h;have key:∀x y z:Int,QlB σ.c σ.rs σ.m σ.ds x y z=false→Qqq σ.c σ.rs σ.m σ.ds x y z=σ.rs∧Qqo σ.c σ.rs σ.m σ.ds x y z=σ.ds:=fun x y z hx=>by
  unfold Qqq Qqo;rw[hx];exact⟨rfl,rfl⟩
 rw[Qt7.2 h.2];unfold QrD;rw[if_pos hl,QuG,QuG];generalize (mem (paF l).1).getD 0 0=q
 by_cases h0:0≤(spF p.data.toList).1
 ·rw[Qtr h.1 h0]
  split
  ·rfl
  ·rename_i hv
   obtain⟨e1,e2⟩:=key _ _ _ (show QlB σ.c σ.rs σ.m σ.ds (spF p.data.toList).1 q (l3V v)=false by simpa using hv)
   rw[e1,e2]
 ·have hv:QlB σ.c σ.rs σ.m σ.ds (spF p.data.toList).1 q (l3V v)=false:=Qlr (.inl (by omega))
  obtain⟨e1,e2⟩:=key _ _ _ hv;rw[if_neg,hv,e1,e2]
  ·rfl
  ·intro hv2
   have h1:¬0≤l3V p:=fun h1=>by have:=(Qe8 h1).2;omega
   rw[Qlr (.inl (by omega))]at hv2;cases hv2
theorem QBf{σ:Con}{a b:ByteArray}(h:QcY σ):QcY (Qxs σ a b).1:=by
 unfold Qxs;split
 ·rename_i hn
  refine⟨.inr ?_,by simp,fun d hd=>by cases hd⟩
  unfold nmB at hn;rw[Bool.and_eq_true]at hn;dsimp only;unfold isM;rw[hn.1,hn.2];simp
 ·exact h
theorem Qx5{σ:Con}{ws:List ByteArray}(h:QcY σ):QcY (QgV σ ws).1:=by
  unfold QgV;split
  · exact QBf h
  split
  · exact h
  rename_i hc;have hM:isM σ.c σ.rs σ.m σ.ds=true:=by
    rcases h.1 with h|h
    · rw[h.1]at hc;exact absurd rfl hc
    · exact h
  split
  · unfold QuW
    split
    · rename_i hv
      exact⟨.inr (Qti hv),h.2⟩
    · exact h
  split
  · unfold QrD
    split
    · split
      · rename_i hv
        rw[QuG]at hv;refine⟨.inr ?_,h.2⟩
        dsimp only;unfold Qqq Qqo;rw[if_pos hv,if_pos hv];have hb:=@QuG σ.c σ.rs σ.m σ.ds (l3V (ws.getD 1 ⟨#[]⟩)) ((mem (paF (ws.getD 2 ⟨#[]⟩)).1).getD 0 0) (l3V (ws.getD 3 ⟨#[]⟩))
        rw[hv]at hb;unfold Qm1 at hb;rw[Bool.and_eq_true]at hb;exact Qti hb.2
      · exact h
    · exact h
  split
  · unfold QxK
    split
    · rename_i hv
      exact⟨.inr (QsP hv).1,h.2⟩
    · exact h
  split
  · split
    · rename_i hd
      unfold Qm4;split
      · exact h
      split
      · split
        · exact h
        · rename_i hl
          refine⟨.inr hM,?_,fun d hd'=>?_⟩
          · simp only[decide_eq_true_eq]at hl
            dsimp only;simp
            omega
          · dsimp only at hd'
            rcases List.mem_append.1 hd' with hd'|hd'
            · exact h.2.2 d hd'
            · rw[List.mem_singleton]at hd'
              subst hd';unfold pdF Qcx at hd ⊢;split at hd
              · rename_i h2
                rw[if_pos h2];split at hd
                · rename_i h3
                  rw[if_pos h3];simp only[Bool.and_eq_true]at h3
                  exact h3.2
                · cases hd
              · cases hd
      split
      · split
        · split
          · exact h
          · exact h
        · exact h
      · exact h
    · exact h
  split
  · unfold QlA
    repeat' split
    all_goals first
      | exact h
      | (refine⟨.inr hM,by simp,fun d hd=>by cases hd⟩;done)
      | (rename_i hl
         refine⟨.inr hM,by simp only[decide_eq_true_eq]at hl;dsimp only;omega,QzC hM⟩)
  · exact h
end Go.Own
