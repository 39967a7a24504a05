/- Contracts. Conditions: as stated. -/
import Derived.Test.YtnmkpepdacbfaaaGreatDoorRp38
set_option linter.all false
set_option maxRecDepth 20000
set_option maxHeartbeats 2000000
namespace Go.Own
open Go Go.Proofs
section
attribute [local go_sem] cFD QmE Tryz.results112 Tryz.results12 Qh Qg Qae Qag Qaf Qaj Qa7 Qv Qa1 Qz QbD QbT
theorem Qlq{q:Int×Int}:(fd q).size≤11:=by
 have s1:=@QaP q.1
 have s2:=@QaP (1*2^q.2.toNat)
 unfold fd;split
 ·rw[Qe,Qe,Qfp];omega
 ·exact KJ _
theorem Qqt{xs:List (Int×Int)}:(jb ⟨#[32]⟩ (xs.map fd)).size≤xs.length*12:=by
 have:=Qi3 (sep:=⟨#[32]⟩) (B:=11) (ss:=xs.map fd) (fun s hs=>by obtain⟨x,_,rfl⟩:=KQ.1 hs;exact Qlq)
 rw[KV]at this;exact this
theorem Qyc{xs:List (Int×Int)}{i:Nat}:(jb ⟨#[32]⟩ ((xs.take i).map fd)).size≤i*12:=by
 have:=@Qqt (xs.take i)
 rw[KO]at this;have h2:min i xs.length*12≤i*12:=Ka _ (Nat.min_le_left _ _)
 omega
def dlL(xs:List (Int×Int)):ByteArray:=if(jb ⟨#[32]⟩ (xs.map fd)).toList==ByteArray.toList ⟨#[]⟩then⟨#[110,111,110,101]⟩else jb ⟨#[32]⟩ (xs.map fd)
def cDL:Qb:=⟨[],false,fun
 | [.one (.sl 2 l)]=>some (WfD l∧l.length≤1048576,[⟨false,[.d (.v (.string (dlL (unD l))))]⟩],[])
 | _=>none⟩
attribute [local go_sem] cDL
theorem QDt:Qa E0 112 cDL:=by
 refine QG (E:=E0) (T:=mkT Tryz.prog [(106,cFD),(111,QmE)] false (fun _=>false) true (fun _=>false)) (Qd (E:=E0) (.cons Qqe (.cons QoV .nil))) (fn:=Tryz.f112) Tryz.func112 kR rfl Qc kR rfl ?_
 intro args p rs ms hr;unfold cDL at hr;dsimp only at hr;split at hr;rotate_left
 ·cases hr
 rename_i l;cases hr;refine⟨rfl,rfl,nLe rfl,?_⟩
 have hm:=mxE;rintro⟨h1,h2⟩ bs;obtain⟨xs,rfl,hx⟩:=h1.ex;clear h1;rw[Qg]at h2;rw[Qh];(repeat' first|refine gA fun _=>?_|apply fkI<;>intro hb<;>try simp only[ew]at hb|simp only[go_sem,simprocAttr, *])
 refine lpI {ι:=Nat,rs:=[(5,6),(11,20)],mods:=[(10,fun i=> .one (.d (.v (.int .i64 i)))),(3,fun i=> .one (.own 1 (tL ((xs.take i).map fd)) 1))],boxes:=[],arrs:=[],ok:=fun i=>i≤xs.length,mu:=fun i=>xs.length-i} rfl 0 (KJ _) ?_ fun i hi=>?_
 ·exact gQ
 ·dsimp only at i hi
  have hsz:=@Qqt xs
  by_cases h5:i<xs.length
  ·clear hsz
   (repeat' first|refine gA fun _=>?_|apply fkI<;>intro hb<;>try simp only[ew,KV]at hb|simp only[go_sem,simprocAttr, *,KV])
   ·have e2:(xs.take (i+1)).map fd=(xs.take i).map fd++[fd (xs.getD i (0,0))]:=by rw[Qf h5 (0,0)];simp
    refine lpQ (i+1) ?_
    (repeat' first|refine gA fun _=>?_|apply fkI<;>intro hb<;>try simp only[ew,e2]at hb|simp only[go_sem,simprocAttr, *])
  ·have e5:i=xs.length:=by omega
   subst e5;have e6:xs.take xs.length=xs:=KR
   (repeat' first|refine gA fun _=>?_|apply fkI<;>intro hb<;>try simp only[ew,KV,e6]at hb|simp only[go_sem,simprocAttr, *,KV])
   ·have hq:=‹(jb ⟨#[32]⟩ (xs.map fd)).toList=ByteArray.toList ⟨#[]⟩›
    unfold dlL;rw[if_pos (Kh.2 hq)]
   ·have hq:=‹¬(jb ⟨#[32]⟩ (xs.map fd)).toList=ByteArray.toList ⟨#[]⟩›
    unfold dlL;rw[if_neg (fun h=>hq (Kh.1 h))]
theorem QDu:Qa E0 12 cDL:=by
 refine QG (E:=E0) (T:=mkT Tryz.prog [(26,cFD)] false (fun _=>false) true (fun _=>false)) (Qd (E:=E0) (.cons Qqf .nil)) (fn:=Tryz.f12) Tryz.func12 kR rfl Qc kR rfl ?_
 intro args p rs ms hr;unfold cDL at hr;dsimp only at hr;split at hr;rotate_left
 ·cases hr
 rename_i l;cases hr;refine⟨rfl,rfl,nLe rfl,?_⟩
 have hm:=mxE;rintro⟨h1,h2⟩ bs;obtain⟨xs,rfl,hx⟩:=h1.ex;clear h1;rw[Qg]at h2;rw[Qh];(repeat' first|refine gA fun _=>?_|apply fkI<;>intro hb<;>try simp only[ew]at hb|simp only[go_sem,simprocAttr, *])
 refine lpI {ι:=Nat,rs:=[(5,22)],mods:=[(4,fun i=> .one (.d (.v (.int .i64 i)))),(3,fun i=> .one (.d (.v (.string (jb ⟨#[32]⟩ ((xs.take i).map fd))))))],boxes:=[],arrs:=[],ok:=fun i=>i≤xs.length,mu:=fun i=>xs.length-i} rfl 0 (KJ _) ?_ fun i hi=>?_
 ·exact gQ
 ·dsimp only at i hi
  have hsz:=@Qyc xs i
  have hf:=@Qlq (xs.getD i (0,0))
  by_cases h5:i<xs.length
  ·have hs:=QoU (sep:=⟨#[32]⟩) (f:=fd) (d:=(0,0)) h5
   by_cases h0:i=0
   ·subst h0
    rw[if_pos rfl]at hs;have e0:decide ((0:Int)>0)=false:=by decide
    have z0:(jb ⟨#[32]⟩ []).size=0:=rfl
    rw[Kw,List.map_nil]at hs;rw[Ya]at hs;clear hsz;(repeat' first|refine gA fun _=>?_|apply fkI<;>intro hb<;>try simp only[ew,e0,QbS,Qe,z0]at hb|simp only[go_sem,simprocAttr, *,QbS,Qe])
    ·refine lpN 1 (by dsimp only;omega) (by dsimp only;omega) ?_
     clear hf;(repeat' first|refine gA fun _=>?_|apply fkI<;>intro hb<;>try simp only[ew,hs]at hb|simp only[go_sem,simprocAttr, *])
     all_goals first|omega|skip
    all_goals (exfalso;omega)
   ·rw[if_neg h0]at hs
    have e0:decide ((i:Int)>0)=true:=KZ (by omega)
    (repeat' first|refine gA fun _=>?_|apply fkI<;>intro hb<;>try simp only[ew,e0,QbS,Qe]at hb|simp only[go_sem,simprocAttr, *,QbS,Qe])
    ·refine lpQ (i+1) ?_
     clear hsz hf e0;(repeat' first|refine gA fun _=>?_|apply fkI<;>intro hb<;>try simp only[ew,hs]at hb|simp only[go_sem,simprocAttr, *])
    all_goals (exfalso;omega)
  ·have e5:i=xs.length:=by omega
   subst e5;have e6:xs.take xs.length=xs:=KR
   clear hsz hf;(repeat' first|refine gA fun _=>?_|apply fkI<;>intro hb<;>try simp only[ew,e6]at hb|simp only[go_sem,simprocAttr, *])
   ·have hq:=‹(jb ⟨#[32]⟩ (xs.map fd)).toList=ByteArray.toList ⟨#[]⟩›
    unfold dlL;rw[if_pos (Kh.2 hq)]
   ·have hq:=‹¬(jb ⟨#[32]⟩ (xs.map fd)).toList=ByteArray.toList ⟨#[]⟩›
    unfold dlL;rw[if_neg (fun h=>hq (Kh.1 h))]
end
structure Con where
  c:Int
  rs:List (List Int)
  m:Int
  ds:List (Int×Int)
  gv:List (Int×Int)
def QfD:Con:=⟨0,[],0,[],[]⟩
def Qo3(b:ByteArray):Int:=if isW b Qqu then 1 else if isW b Qne then 0 else -1
def QwS(σ:Con)(a b:ByteArray):Con×ByteArray:=
 if nmB (l3V a) [] (Qo3 b)then(⟨l3V a,[],Qo3 b,mdL (l3V a) [] (Qo3 b),[]⟩,sOk)else(σ,sNo)
def QvE(σ:Con)(ws:List ByteArray):Con×ByteArray:=
 if Qi2 σ.c σ.rs σ.m σ.ds (ws.map l3V)then({σ with rs:=Qmi σ.c σ.rs σ.m σ.ds (ws.map l3V),ds:=Qmh σ.c σ.rs σ.m σ.ds (ws.map l3V)},sOk)else(σ,sNo)
def QxJ(σ:Con)(a:ByteArray):Con×ByteArray:=
 if QhG σ.c σ.rs σ.m σ.ds (l3V a)then({σ with rs:=QeK σ.c σ.rs σ.m σ.ds (l3V a),ds:=QfE σ.c σ.rs σ.m σ.ds (l3V a)},sOk)else(σ,sNo)
def QrT(σ:Con)(p l v:ByteArray):Con×ByteArray:=
 if((paF l).2&&decide (((mem (paF l).1).length:Int)=1))=true then
  if QnU σ.c σ.rs σ.m σ.ds (l3V p) ((mem (paF l).1).getD 0 0) (l3V v)then({σ with rs:=Qrw σ.c σ.rs σ.m σ.ds (l3V p) ((mem (paF l).1).getD 0 0) (l3V v),ds:=Qru σ.c σ.rs σ.m σ.ds (l3V p) ((mem (paF l).1).getD 0 0) (l3V v)},sOk)else(σ,sNo)
 else(σ,Ql5)
def Qmy(σ:Con)(w:ByteArray)(d:Int×Int):Con×ByteArray:=
 if isW w Qzu then(σ,wlB σ.c σ.rs σ.m d.1 d.2)
 else if isW w Qzv then(if decide ((σ.gv.length:Int)≥20)=true then(σ,sNo)else({σ with gv:=σ.gv++[d]},Qg1 ((σ.gv.length+1:Nat):Int)))
 else if isW w Qqw then(if Qkz σ.c σ.gv d.1 d.2 then(if(QnY σ.c σ.gv d.1 d.2).isEmpty then(σ,QB7)else(σ,jb ⟨#[59,32]⟩ (QnY σ.c σ.gv d.1 d.2)))else(σ,sNo))
 else(σ,Ql5)
def Qmb(σ:Con)(w:ByteArray):Con×ByteArray:=
 if isW w QBo then(σ,dlL σ.ds)
 else if isW w QBp then(σ,slL (Qqz σ.c σ.rs σ.m))
 else if isW w QuK then(σ,slL (Qii σ.c σ.rs σ.m))
 else if isW w QBq then(σ,Qg1 (σ.rs.length:Nat))
 else if isW w Qyf then(if decide ((σ.ds.length:Int)>20)=true then(σ,sNo)else({σ with gv:=σ.ds},sOk))
 else if isW w Qqv then({σ with gv:=[]},sOk)
 else if isW w QkB then(σ,dlL (QgG σ.c σ.gv))
 else if isW w QgT then(σ,QzI σ.c σ.gv)
 else(σ,Ql5)
def Qgr(σ:Con)(ws:List ByteArray):Con×ByteArray:=
 if(isW (ws.getD 0 ⟨#[]⟩) QhZ&&ws.length==3)=true then QwS σ (ws.getD 1 ⟨#[]⟩) (ws.getD 2 ⟨#[]⟩)
 else if(σ.c==0)=true then(σ,QvM)
 else if(isW (ws.getD 0 ⟨#[]⟩) QCO&&decide (ws.length>1))=true then QvE σ (ws.drop 1)
 else if(isW (ws.getD 0 ⟨#[]⟩) Qyd&&ws.length==4)=true then QrT σ (ws.getD 1 ⟨#[]⟩) (ws.getD 2 ⟨#[]⟩) (ws.getD 3 ⟨#[]⟩)
 else if(isW (ws.getD 0 ⟨#[]⟩) Qye&&ws.length==2)=true then QxJ σ (ws.getD 1 ⟨#[]⟩)
 else if(ws.length==2)=true then(if(pdF σ.c (ws.getD 1 ⟨#[]⟩)).2 then Qmy σ (ws.getD 0 ⟨#[]⟩) (pdF σ.c (ws.getD 1 ⟨#[]⟩)).1 else(σ,Ql5))
 else if(ws.length==1)=true then Qmb σ (ws.getD 0 ⟨#[]⟩)
 else(σ,Ql5)
def QF:Con→List ByteArray→Con×ByteArray
 | σ,[]=>(σ,⟨#[]⟩)
 | σ,l::r=>if isW l ⟨#[]⟩then QF σ r else((QF (Qgr σ (Qa9 32 l)).1 r).1,((Qgr σ (Qa9 32 l)).2++⟨#[10]⟩)++(QF (Qgr σ (Qa9 32 l)).1 r).2)
def Qc2(ls:List ByteArray):List ByteArray:=if isW (ls.getD (ls.length-1) ⟨#[]⟩) ⟨#[]⟩then ls.take (ls.length-1)else ls
def rcF(text:ByteArray):ByteArray:=if(decide (text.size>3000)||decide ((Qc2 (Qa9 10 text)).length>60))=true then⟨#[]⟩else(QF QfD (Qc2 (Qa9 10 text))).2
def Qdf(σ:Con):Prop:=((σ.c=0∧σ.rs=[]∧σ.m=0∧σ.ds=[]∧σ.gv=[])∨isM σ.c σ.rs σ.m σ.ds=true)∧σ.gv.length≤20∧∀d∈σ.gv,QO σ.c d.1 d.2=true
theorem QiG:Qdf QfD:=⟨.inl ⟨rfl,rfl,rfl,rfl,rfl⟩,by decide,fun d hd=>by cases hd⟩
theorem QBl{c:Int}{rs:List (List Int)}{m:Int}{ds:List (Int×Int)}(h:isM c rs m ds=true):∀d∈ds,QO c d.1 d.2=true:=by
 obtain⟨ht,hm,rfl⟩:=QaJ h;obtain⟨n,rfl,n1,n5,_,_⟩:=QQ ht;intro d hd;have e:mdL n rs m=Qa0 (hdB n rs m) n:=by unfold mdL;rw[ht,hm];rfl
 rw[e]at hd;obtain⟨h1,h2⟩:=(Qf8 ⟨n1,n5⟩ (Qu5 n5)).1 hd;exact QhT ⟨n1,n5⟩ h2.1 h1
theorem QEa{c:Int}{rs:List (List Int)}(h:QP c rs=true){r:List Int}(hr:r∈rs):Qb7 r c=true:=by
 unfold QP at h;rw[KB,Kg]at h;exact h.1 r hr
theorem Qwc{c:Int}{rs:List (List Int)}{m:Int}{ds:List (Int×Int)}{a k v:Int}:QnU c rs m ds a k v=Qmm c rs m ds a k v:=by
 unfold QnU;cases hv:Qmm c rs m ds a k v
 ·rfl
 ·rw[KY]
  unfold Qmm at hv;rw[KB,KB,KB]at hv;obtain⟨⟨⟨h1,h2⟩,h3⟩,h4⟩:=hv;have hd:QhG c rs m ds a=true:=by unfold QhG;rw[h1,h2];rfl
  obtain⟨d1,d2⟩:=Qub hd;obtain⟨ht,hm,_⟩:=QaJ h1;obtain⟨n,rfl,n1,n5,h40,_⟩:=QQ ht;rw[Qj]at h2 h3;obtain⟨i,rfl⟩:=KL h2.1;have hi:i<rs.length:=by omega
  have hr:=QEa ht (QE hi [])
  unfold Qi2;rw[d1,KY,KB];refine⟨?_,KZ (by omega)⟩
  unfold QdZ;rw[KE];unfold Qb7 at hr ⊢;rw[KB,Kg,KK]at hr ⊢;refine⟨fun x hx=>?_,by rw[List.length_set];exact hr.2⟩
  rcases List.mem_or_eq_of_mem_set hx with hx|hx
  ·exact hr.1 x hx
  ·rw[hx];exact h4
theorem Qfu{n m:Int}:nmB n [] m=(inB n 1 5&&QN m):=by
 unfold nmB QP;simp
theorem QC5{a:ByteArray}{m:Int}:nmB (l3V a) [] m=((spF a.data.toList).2&&nmB (spF a.data.toList).1 [] m):=by
 rw[Qfu,Qfu];cases h:(spF a.data.toList).2
 ·rw[KT]
  cases hb:inB (l3V a) 1 5
  ·rfl
  ·rw[Qj]at hb
   have:=(Qfs (s:=a) (by omega)).1
   rw[h]at this;cases this
 ·rw[KY]
  by_cases h0:0≤(spF a.data.toList).1
  ·rw[QuN h h0]
  ·have e1:inB (spF a.data.toList).1 1 5=false:=by
    cases hb:inB (spF a.data.toList).1 1 5
    ·rfl
    ·rw[Qj]at hb;omega
   have e2:inB (l3V a) 1 5=false:=by
    cases hb:inB (l3V a) 1 5
    ·rfl
    ·rw[Qj]at hb
     have:=(Qfs (s:=a) (by omega)).2
     omega
   rw[e1,e2]
theorem QAk{a:ByteArray}{m:Int}(h:nmB (l3V a) [] m=true):(spF a.data.toList).1=l3V a:=by
 rw[Qfu,KB,Qj]at h;exact(Qfs (by omega)).2
def rvF:List ByteArray→List Int×Bool
 | []=>([],true)
 | w::r=>if(pvF w).2 then((pvF w).1::(rvF r).1,(rvF r).2)else([],false)
theorem Qpc{c:Int}:∀{ws:List ByteArray},(rvF ws).2=(ws.map l3V).all (fun v=>inB v (-1) 40)∧((rvF ws).2=true→(rvF ws).1=ws.map l3V)
 | []=>⟨rfl,fun _=>rfl⟩
 | w::r=>by
  obtain⟨i1,i2⟩:=@Qpc c r;obtain⟨p1,p2⟩:=@QvA w;rw[rvF,List.map_cons,List.all_cons,←p1];cases hp:(pvF w).2
  ·simp only[KX,if_false,KT]
   exact⟨trivial,fun h=>by cases h⟩
  ·simp only[if_true,KY]
   exact⟨i1,fun h=>by rw[p2 hp,i2 h]⟩
theorem QEb{σ:Con}{ws:List ByteArray}(h:(rvF ws).2=false):QvE σ ws=(σ,sNo):=by
 unfold QvE;rw[if_neg];intro hv;unfold Qi2 at hv;rw[KB,KB]at hv;have hr:=hv.1.2
 unfold Qb7 at hr;rw[KB,←(@Qpc 0 ws).1,h]at hr;exact absurd hr.1 (by decide)
theorem QB4{σ:Con}{ws:List ByteArray}(h:(rvF ws).2=true):QvE σ ws=({σ with rs:=Qmi σ.c σ.rs σ.m σ.ds (rvF ws).1,ds:=Qmh σ.c σ.rs σ.m σ.ds (rvF ws).1},if Qi2 σ.c σ.rs σ.m σ.ds (rvF ws).1 then sOk else sNo):=by
 rw[(@Qpc 0 ws).2 h];unfold QvE;split
 ·rfl
 ·rename_i hv
  obtain⟨e1,e2⟩:=Qx6 (show Qi2 σ.c σ.rs σ.m σ.ds (ws.map l3V)=false by simpa using hv)
  rw[e1,e2]
theorem QoE{c:Int}{rs:List (List Int)}{m:Int}{ds:List (Int×Int)}{a:Int}(h:a<0):QhG c rs m ds a=false:=by
 unfold QhG;cases hb:inB a 0 ((rs.length:Int)-1)
 ·rw[YM]
 ·rw[Qj]at hb;omega
theorem QDw{σ:Con}{a:ByteArray}(h:(spF a.data.toList).2=false):QxJ σ a=(σ,sNo):=by
 unfold QxJ;rw[if_neg];intro hv
 by_cases h0:0≤l3V a
 ·rw[(Qfs h0).1]at h;cases h
 ·rw[QoE (by omega)]at hv;cases hv
theorem QAY{σ:Con}{a:ByteArray}(h:(spF a.data.toList).2=true):QxJ σ a=({σ with rs:=QeK σ.c σ.rs σ.m σ.ds (spF a.data.toList).1,ds:=QfE σ.c σ.rs σ.m σ.ds (spF a.data.toList).1},if QhG σ.c σ.rs σ.m σ.ds (spF a.data.toList).1 then sOk else sNo):=by
 have key:∀x:Int,QhG σ.c σ.rs σ.m σ.ds x=false→QeK σ.c σ.rs σ.m σ.ds x=σ.rs∧QfE σ.c σ.rs σ.m σ.ds x=σ.ds:=fun x hx=>by
  unfold QeK QfE;rw[hx];exact⟨rfl,rfl⟩
 unfold QxJ
 by_cases h0:0≤(spF a.data.toList).1
 ·rw[QuN h h0]
  split
  ·rfl
  ·rename_i hv
   obtain⟨e1,e2⟩:=key _ (show QhG σ.c σ.rs σ.m σ.ds (spF a.data.toList).1=false by simpa using hv)
   rw[e1,e2]
 ·have hv:QhG σ.c σ.rs σ.m σ.ds (spF a.data.toList).1=false:=QoE (by omega)
  obtain⟨e1,e2⟩:=key _ hv;rw[if_neg,hv,e1,e2]
  ·rfl
  ·intro hv2
   have h1:¬0≤l3V a:=fun h1=>by have:=(Qfs h1).2;omega
   rw[QoE (by omega)]at hv2;cases hv2
theorem Qme{c:Int}{rs:List (List Int)}{m:Int}{ds:List (Int×Int)}{a k v:Int}(h:a<0∨inB v (-1) 40=false):Qmm c rs m ds a k v=false:=by
 unfold Qmm;rcases h with h|h
 ·cases hb:inB a 0 ((rs.length:Int)-1)
  ·rw[YM,KT,KT]
  ·rw[Qj]at hb;omega
 ·rw[h,YM]
theorem Qza{σ:Con}{p l v:ByteArray}(hl:((paF l).2&&decide (((mem (paF l).1).length:Int)=1))=true)(h:((spF p.data.toList).2&&(pvF v).2)=false):QrT σ p l v=(σ,sNo):=by
 unfold QrT;rw[if_pos hl,Qwc,if_neg];rw[Qme]
 ·decide
 ·rw[Bool.and_eq_false_iff]at h
  rcases h with h|h
  ·left
   by_cases h0:0≤l3V p
   ·rw[(Qfs h0).1]at h;cases h
   ·omega
  ·right
   rw[←QvA.1];exact h
theorem QAx{σ:Con}{p l v:ByteArray}(hl:((paF l).2&&decide (((mem (paF l).1).length:Int)=1))=true)(h:((spF p.data.toList).2&&(pvF v).2)=true):
  QrT σ p l v=({σ with rs:=Qrw σ.c σ.rs σ.m σ.ds (spF p.data.toList).1 ((mem (paF l).1).getD 0 0) (pvF v).1,ds:=Qru σ.c σ.rs σ.m σ.ds (spF p.data.toList).1 ((mem (paF l).1).getD 0 0) (pvF v).1},if QnU σ.c σ.rs σ.m σ.ds (spF p.data.toList).1 ((mem (paF l).1).getD 0 0) (pvF v).1 then sOk else sNo):=by
 rw[KB]at h;have key:∀x y z:Int,Qmm σ.c σ.rs σ.m σ.ds x y z=false→Qrw σ.c σ.rs σ.m σ.ds x y z=σ.rs∧Qru σ.c σ.rs σ.m σ.ds x y z=σ.ds:=fun x y z hx=>by
  unfold Qrw Qru;rw[hx];exact⟨rfl,rfl⟩
 rw[QvA.2 h.2];unfold QrT;rw[if_pos hl,Qwc,Qwc];generalize (mem (paF l).1).getD 0 0=q
 by_cases h0:0≤(spF p.data.toList).1
 ·rw[QuN h.1 h0]
  split
  ·rfl
  ·rename_i hv
   obtain⟨e1,e2⟩:=key _ _ _ (show Qmm σ.c σ.rs σ.m σ.ds (spF p.data.toList).1 q (l3V v)=false by simpa using hv)
   rw[e1,e2]
 ·have hv:Qmm σ.c σ.rs σ.m σ.ds (spF p.data.toList).1 q (l3V v)=false:=Qme (.inl (by omega))
  obtain⟨e1,e2⟩:=key _ _ _ hv;rw[if_neg,hv,e1,e2]
  ·rfl
  ·intro hv2
   have h1:¬0≤l3V p:=fun h1=>by have:=(Qfs h1).2;omega
   rw[Qme (.inl (by omega))]at hv2;cases hv2
theorem QC6{σ:Con}{a b:ByteArray}(h:Qdf σ):Qdf (QwS σ a b).1:=by
 unfold QwS;split
 ·rename_i hn
  refine⟨.inr ?_,by simp,fun d hd=>by cases hd⟩
  unfold nmB at hn;rw[KB]at hn;dsimp only;unfold isM;rw[hn.1,hn.2];simp
 ·exact h
theorem QzH{σ:Con}{ws:List ByteArray}(h:Qdf σ):Qdf (Qgr σ ws).1:=by
  unfold Qgr;split
  · exact QC6 h
  split
  · exact h
  rename_i hc;have hM:isM σ.c σ.rs σ.m σ.ds=true:=by
    rcases h.1 with h|h
    · rw[h.1]at hc;exact absurd rfl hc
    · exact h
  split
  · unfold QvE
    split
    · rename_i hv
      exact⟨.inr (QuE hv),h.2⟩
    · exact h
  split
  · unfold QrT
    split
    · split
      · rename_i hv
        rw[Qwc]at hv;refine⟨.inr ?_,h.2⟩
        dsimp only;unfold Qrw Qru;rw[if_pos hv,if_pos hv];have hb:=@Qwc σ.c σ.rs σ.m σ.ds (l3V (ws.getD 1 ⟨#[]⟩)) ((mem (paF (ws.getD 2 ⟨#[]⟩)).1).getD 0 0) (l3V (ws.getD 3 ⟨#[]⟩))
        rw[hv]at hb;unfold QnU at hb;rw[KB]at hb;exact QuE hb.2
      · exact h
    · exact h
  split
  · unfold QxJ
    split
    · rename_i hv
      exact⟨.inr (Qub hv).1,h.2⟩
    · exact h
  split
  · split
    · rename_i hd
      unfold Qmy;split
      · exact h
      split
      · split
        · exact h
        · rename_i hl
          refine⟨.inr hM,?_,fun d hd'=>?_⟩
          · simp only[KK]at hl
            dsimp only;simp
            omega
          · dsimp only at hd'
            rcases KG.1 hd' with hd'|hd'
            · exact h.2.2 d hd'
            · rw[KH]at hd'
              subst hd';unfold pdF QcO at hd ⊢;split at hd
              · rename_i h2
                rw[if_pos h2];split at hd
                · rename_i h3
                  rw[if_pos h3];simp only[KB]at h3
                  exact h3.2
                · cases hd
              · cases hd
      split
      · split
        · split
          · exact h
          · exact h
        · exact h
      · exact h
    · exact h
  split
  · unfold Qmb
    repeat' split
    all_goals first
      | exact h
      | (refine⟨.inr hM,by simp,fun d hd=>by cases hd⟩;done)
      | (rename_i hl
         refine⟨.inr hM,by simp only[KK]at hl;dsimp only;omega,QBl hM⟩)
  · exact h
end Go.Own
