/- Contracts. Conditions: as stated. -/
import Derived.Test.YtnmkpepdacbfaaaGreatDoorRp45
set_option linter.all false
set_option maxRecDepth 20000
set_option maxHeartbeats 4000000
namespace Go.Own
open Go Go.Proofs
section
attribute [local go_sem] QcQ Tryz.results72 Tryz.results34 QrL Tryz.results37
theorem QEK:(true==false)=false:=rfl
theorem QEH:(false==true)=false:=rfl
attribute [local go_sem] QEK QEH cuO rI rB cuP QaK QZ QjD Qa1 Qz QbT Qez QcJ
def QjN(n:Int):Dr (Int×Int):=fun bs s=>(((Qp (1*2^n.toNat) bs s).1,(Qp n bs (Qp (1*2^n.toNat) bs s).2).1),(Qp n bs (Qp (1*2^n.toNat) bs s).2).2)
def Qty:Qb:=⟨[true],false,fun
 | [.box [.sl 1 l,.v (.int .i64 i),.v (.int .i64 h)],.one (.v (.int .i64 n))]=>some (WfB l∧0≤i∧1≤n∧n≤5,[⟨true,[.d (.v (.int .i64 (QjN n (unB l) (i.toNat,h)).1.1)),.d (.v (.int .i64 (QjN n (unB l) (i.toNat,h)).1.2))]⟩],cuO l (QjN n (unB l) (i.toNat,h)).2)
 | _=>none⟩
attribute [local go_sem] Qty
theorem QAS:Qa E0 72 Qty:=by
 refine Qaa (E:=E0) (T:=mkT Tryz.prog [(33,QcQ)] false (fun _=>false) false (fun _=>false)) (Qd (E:=E0) (.cons QdA .nil)) rfl (fn:=Tryz.f72) Tryz.func72 kR rfl Qc kR rfl rfl (nLe rfl) ?_
 intro args p rs ms hr;unfold Qty at hr;dsimp only at hr;split at hr;rotate_left
 ·cases hr
 rename_i l i h n;cases hr;refine⟨_,_,_,rfl,rfl,rfl,rfl,nLe rfl,?_⟩
 have hm:=mxE;rintro⟨h1,h2,n1,n5⟩ bs0;obtain⟨bs,rfl,hx⟩:=h1.ex;clear h1;rw[QaK];obtain⟨i,rfl⟩:=KL h2;rw[KE];obtain⟨n,rfl⟩:=KL (show 0≤n by omega)
 have hp:1≤(2:Int)^n∧(2:Int)^n≤32:=by
  have:n=1∨n=2∨n=3∨n=4∨n=5:=by omega
  rcases this with rfl|rfl|rfl|rfl|rfl<;>decide
 have e:QjN ((n:Nat):Int) bs (i,h)=(((Qp (1*2^n) bs (i,h)).1,(Qp ((n:Nat):Int) bs (Qp (1*2^n) bs (i,h)).2).1),(Qp ((n:Nat):Int) bs (Qp (1*2^n) bs (i,h)).2).2):=rfl
 rw[e];clear e;generalize hA:Qp (1*2^n) bs (i,h)=A;generalize hB:Qp ((n:Nat):Int) bs A.2=B;(repeat' first|refine gA fun _=>?_|apply fkI<;>intro hb<;>try simp only[ew,hA,hB]at hb|simp only[go_sem,simprocAttr, *,hA,hB])
 all_goals first|rfl|skip
def rT(b:ByteArray):List RV:=[⟨false,[.d (.v (.string b))]⟩]
def Qfy(xs:List ByteArray):Dr ByteArray:=fun bs s=>(xs.getD (Qp xs.length bs s).1.toNat ⟨#[]⟩,(Qp xs.length bs s).2)
def Qiw:Qb:=⟨[true],false,fun
 | [.box [.sl 1 l,.v (.int .i64 i),.v (.int .i64 h)],.one (.sl 1 x)]=>some (WfB l∧0≤i∧WfL x∧x≠[],rT (Qfy (unT x) (unB l) (i.toNat,h)).1,cuO l (Qfy (unT x) (unB l) (i.toNat,h)).2)
 | _=>none⟩
attribute [local go_sem] Qiw
theorem Qq3:Qa E0 34 Qiw:=by
 refine Qaa (E:=E0) (T:=mkT Tryz.prog [(33,QcQ)] false (fun _=>false) false (fun _=>false)) (Qd (E:=E0) (.cons QdA .nil)) rfl (fn:=Tryz.f34) Tryz.func34 kR rfl Qc kR rfl rfl (nLe rfl) ?_
 intro args p rs ms hr;unfold Qiw at hr;dsimp only at hr;split at hr;rotate_left
 ·cases hr
 rename_i l i h x;cases hr;refine⟨_,_,_,rfl,rfl,rfl,rfl,nLe rfl,?_⟩
 have hm:=mxE;rintro⟨h1,h2,h3,h4⟩ bs0;obtain⟨bs,rfl,hx⟩:=h1.ex;obtain⟨xs,rfl,hxs⟩:=h3.ex;clear h1 h3;rw[QaK,Qa1];obtain⟨i,rfl⟩:=KL h2;rw[KE];have e:Qfy xs bs (i,h)=(xs.getD (Qp xs.length bs (i,h)).1.toNat ⟨#[]⟩,(Qp xs.length bs (i,h)).2):=rfl
 rw[e];clear e;have hl:0<xs.length:=by
  cases xs with
  | nil=>exact absurd rfl h4
  | cons=>simp
 have r1:=@Q2 xs.length bs (i,h) (by omega)
 generalize hA:Qp xs.length bs (i,h)=A at r1 ⊢;have hg:=Qfc (ss:=xs) (i:=A.1.toNat) (by omega)
 clear h4;(repeat' first|refine gA fun _=>?_|apply fkI<;>intro hb<;>try simp only[ew,hA,hg,rT]at hb|simp only[go_sem,simprocAttr, *,hA,hg,rT])
 all_goals first|rfl|skip
def byB(n:Int):ByteArray:=Qca [IntKind.wrap .u8 n]
def QyQ(t:ByteArray):Dr ByteArray:=fun bs s=>
 let k:=Qp t.size bs s
 let q:=Qp 4 bs k.2
 if(q.1==0)=true then(t.extract 0 k.1.toNat++t.extract (k.1.toNat+1) t.size,q.2)
 else if(q.1==1)=true then((t.extract 0 k.1.toNat++byB (QaI bs q.2).1)++t.extract k.1.toNat t.size,(QaI bs q.2).2)
 else if(q.1==2)=true then(t.extract 0 k.1.toNat,q.2)
 else((t.extract 0 k.1.toNat++byB (QV .xor .i64 (IntKind.wrap .i64 (Qdr t k.1.toNat)) (1+(Qp 255 bs q.2).1)))++t.extract (k.1.toNat+1) t.size,(Qp 255 bs q.2).2)
def QDh:Qb:=⟨[true],false,fun
 | [.box [.sl 1 l,.v (.int .i64 i),.v (.int .i64 h)],.one (.v (.string t))]=>some (WfB l∧0≤i∧0<t.size∧t.size≤1000000,rT (QyQ t (unB l) (i.toNat,h)).1,cuO l (QyQ t (unB l) (i.toNat,h)).2)
 | _=>none⟩
attribute [local go_sem] QDh
theorem Qqc{t:ByteArray}{a b:Nat}:(t.extract a b).size≤t.size:=by
 rw[ByteArray.size_extract];omega
theorem QpD{n:Int}:(byB n).size=1:=by unfold byB;rw[QL];rfl
theorem Qv1{t:ByteArray}{bs:List Int}{s:Cu}:(QyQ t bs s).1.size≤2*t.size+1:=by
 have h1:=fun a b=>@Qqc t a b
 unfold QyQ;dsimp only;split
 ·have:=h1 0 (Qp t.size bs s).1.toNat
  have:=h1 ((Qp t.size bs s).1.toNat+1) t.size
  simp only[Qe];omega
 ·split
  ·have:=h1 0 (Qp t.size bs s).1.toNat
   have:=h1 (Qp t.size bs s).1.toNat t.size
   simp only[Qe,QpD];omega
  ·split
   ·have:=h1 0 (Qp t.size bs s).1.toNat
    dsimp only;omega
   ·have:=h1 0 (Qp t.size bs s).1.toNat
    have:=h1 ((Qp t.size bs s).1.toNat+1) t.size
    simp only[Qe,QpD];omega
theorem QEm:Qa E0 37 QDh:=by
 refine Qaa (E:=E0) (T:=mkT Tryz.prog [(33,QcQ),(70,QrL)] false (fun _=>false) false (fun _=>false)) (Qd (E:=E0) (.cons QdA (.cons Qts .nil))) rfl (fn:=Tryz.f37) Tryz.func37 kR rfl Qc kR rfl rfl (nLe rfl) ?_
 intro args p rs ms hr;unfold QDh at hr;dsimp only at hr;split at hr;rotate_left
 ·cases hr
 rename_i l i h t;cases hr;refine⟨_,_,_,rfl,rfl,rfl,rfl,nLe rfl,?_⟩
 have hm:=mxE;rintro⟨h1,h2,h3,h4⟩ bs0;obtain⟨bs,rfl,hx⟩:=h1.ex;clear h1;rw[QaK];obtain⟨i,rfl⟩:=KL h2;rw[KE];have hn0:(((t.size:Nat):Int)==0)=false:=KU.2 (by omega)
 have r1:=@Q2 t.size bs (i,h) (by omega)
 have hsx:=fun a b=>@Qqc t a b
 generalize hZ:QyQ t bs (i,h)=Z;unfold QyQ at hZ;dsimp only at hZ;generalize hK:Qp t.size bs (i,h)=K at r1 hZ;obtain⟨k,hk⟩:=KL r1.1;rw[hk,KE]at hZ;rw[hk]at r1;have k1:k<t.size:=by omega
 have z1:=hsx 0 k
 have z2:=hsx (k+1) t.size
 have z3:=hsx k t.size
 have ek:((k:Nat):Int)+1=((k+1:Nat):Int):=by omega
 clear hsx;generalize hQ:Qp 4 bs K.2=Q at hZ;cases q0:(Q.1==0)
 ·rw[q0,if_neg (by decide)]at hZ
  cases q1:(Q.1==1)
  ·rw[q1,if_neg (by decide)]at hZ
   cases q2:(Q.1==2)
   ·rw[q2,if_neg (by decide)]at hZ
    have ry:=@Q2 255 bs Q.2 (by decide)
    generalize hY:Qp 255 bs Q.2=Y at hZ ry;subst hZ;(repeat' first|refine gA fun _=>?_|apply fkI<;>intro hb<;>try simp only[ew,hn0,hK,hk,ek,hQ,q0,q1,q2,hY,byB,QL,Qe,rT]at hb|simp only[go_sem,simprocAttr, *,hn0,hK,hk,ek,hQ,q0,q1,q2,hY,byB,QL,Qe,rT])
    all_goals first|rfl|skip
   ·rw[q2,if_pos rfl]at hZ
    subst hZ;(repeat' first|refine gA fun _=>?_|apply fkI<;>intro hb<;>try simp only[ew,hn0,hK,hk,hQ,q0,q1,q2,rT]at hb|simp only[go_sem,simprocAttr, *,hn0,hK,hk,hQ,q0,q1,q2,rT])
    all_goals first|rfl|skip
  ·rw[q1,if_pos rfl]at hZ
   generalize hY:QaI bs Q.2=Y at hZ;subst hZ;(repeat' first|refine gA fun _=>?_|apply fkI<;>intro hb<;>try simp only[ew,hn0,hK,hk,ek,hQ,q0,q1,hY,byB,QL,Qe,rT]at hb|simp only[go_sem,simprocAttr, *,hn0,hK,hk,ek,hQ,q0,q1,hY,byB,QL,Qe,rT])
   all_goals first|rfl|skip
 ·rw[q0,if_pos rfl]at hZ
  subst hZ;(repeat' first|refine gA fun _=>?_|apply fkI<;>intro hb<;>try simp only[ew,hn0,hK,hk,ek,hQ,q0,Qe,rT]at hb|simp only[go_sem,simprocAttr, *,hn0,hK,hk,ek,hQ,q0,Qe,rT])
  all_goals first|rfl|skip
end
section
attribute [local go_sem] QcQ QDe QDc Qiw Qty cFD QfP cFA Tryz.results35 QEK QEH cuO rI rB rT cuP QaK QZ QjD Qa1 Qz QbT Qez QcJ
def rwT(r:List Int):Nat→ByteArray
 | 0=>⟨#[114,111,119]⟩
 | k+1=>(rwT r k++⟨#[32]⟩)++QmI (r.getD k 0)
theorem QfR{v:Int}(h0: -1≤v)(h1:v≤40):(QmI v).size≤20:=by
 unfold QmI;split
 ·decide
 ·rw[←bsz,Qyt (by omega) (by omega)]
  exact KF (QoB (k:=1) (by omega)) (by omega)
theorem Qg2{v:Int}(h0:0≤v)(h1:v≤40):(Qst v).size≤20:=by
 have:=QfR (v:=v) (by omega) h1
 unfold QmI at this;rw[Qve h0 (by omega)]
 rwa [if_neg (by omega)]at this
theorem Ql3{r:List Int}(h:∀v∈r,-1≤v∧v≤40):∀{k:Nat},k≤r.length→(rwT r k).size≤3+k*21
 | 0,_=>by show ByteArray.size ⟨#[114,111,119]⟩≤3+0*21;decide
 | k+1,hk=>by
  have ih:=@Ql3 r h k (by omega)
  have hc:=h _ (QE (show k<r.length by omega) 0)
  have hs:=QfR hc.1 hc.2
  rw[rwT,Qe,Qe,QbS];omega
def ws4:List ByteArray:=[⟨#[99,104,101,99,107,32]⟩,⟨#[103,105,118,101,110,32]⟩,⟨#[105,109,112,108,105,101,100,32]⟩,⟨#[119,104,97,116,32]⟩]
def QCC:List ByteArray:=[⟨#[100,101,112,115]⟩,⟨#[107,101,121,115]⟩,⟨#[97,103,114,101,101]⟩,⟨#[99,111,118,101,114]⟩,⟨#[115,99,104,101,109,97]⟩,⟨#[116,97,107,101]⟩,⟨#[99,108,101,97,114]⟩,⟨#[115,105,122,101]⟩,⟨#[119,104,97,116]⟩,⟨#[]⟩,⟨#[114,111,119]⟩,⟨#[99,104,101,99,107,32,65,62,90]⟩,⟨#[99,101,108,108,32,48,32,65,66,32,49]⟩,⟨#[99,111,108,117,109,110,115,32,57,32,101,113,117,97,108]⟩]
theorem QeW{xs:List ByteArray}{bs:List Int}{s:Cu}{B:Nat}(h:∀x∈xs,x.size≤B):(Qfy xs bs s).1.size≤B:=by
 unfold Qfy;dsimp only
 by_cases hi:(Qp xs.length bs s).1.toNat<xs.length
 ·exact h _ (QE hi _)
 ·rw[KD,K6 (by omega)];exact KJ _
def QuP(n:Int):Dr ByteArray:=fun bs s=>
 let q:=Qp 8 bs s
 if(q.1==0||q.1==1||q.1==2)=true then(rwT (Qgk 3 n.toNat bs q.2).1 (Qgk 3 n.toNat bs q.2).1.length,(Qgk 3 n.toNat bs q.2).2)
 else if(q.1==3)=true then((Qfy ws4 bs q.2).1++fd ((QjN n bs (Qfy ws4 bs q.2).2).1.1,(QjN n bs (Qfy ws4 bs q.2).2).1.2),(QjN n bs (Qfy ws4 bs q.2).2).2)
 else if(q.1==4)=true then(⟨#[100,114,111,112,32]⟩++Qst (Qp 4 bs q.2).1,(Qp 4 bs q.2).2)
 else if(q.1==5)=true then
  let a:=Qp 4 bs q.2
  let b:=Qp n bs a.2
  let c:=Qp 4 bs b.2
  (((((⟨#[99,101,108,108,32]⟩++Qst a.1)++⟨#[32]⟩)++fa (1*2^b.1.toNat))++⟨#[32]⟩)++QmI (c.1-1),c.2)
 else Qfy QCC bs q.2
theorem Qi6{n:Int}{bs:List Int}{s:Cu}(h1:1≤n)(h5:n≤5):(QuP n bs s).1.size≤200:=by
 unfold QuP;dsimp only;split
 ·have hl:=@Qia 3 bs (Qp 8 bs s).2 n.toNat
  have:=@Ql3 (Qgk 3 n.toNat bs (Qp 8 bs s).2).1 (fun v hv=>by have:=Qg9 (by decide) v hv;omega) (Qgk 3 n.toNat bs (Qp 8 bs s).2).1.length (KP _)
  dsimp only;rw[hl]at this ⊢;omega
 ·split
  ·have k1:=@QeW ws4 bs (Qp 8 bs s).2 8 (by decide)
   have k2:=@Qlq ((QjN n bs (Qfy ws4 bs (Qp 8 bs s).2).2).1.1,(QjN n bs (Qfy ws4 bs (Qp 8 bs s).2).2).1.2)
   dsimp only;rw[Qe];omega
  ·split
   ·have k1:=@Q2 4 bs (Qp 8 bs s).2 (by decide)
    have k2:=Qg2 k1.1 (by omega)
    have k3:ByteArray.size ⟨#[100,114,111,112,32]⟩=5:=rfl
    dsimp only;rw[Qe];omega
   ·split
    ·have k1:=@Q2 4 bs (Qp 8 bs s).2 (by decide)
     have k2:=Qg2 k1.1 (by omega)
     have k3:ByteArray.size ⟨#[99,101,108,108,32]⟩=5:=rfl
     have k4:=@QaP (1*2^(Qp n bs (Qp 4 bs (Qp 8 bs s).2).2).1.toNat)
     have k5:=@Q2 4 bs (Qp n bs (Qp 4 bs (Qp 8 bs s).2).2).2 (by decide)
     have k6:=QfR (v:=(Qp 4 bs (Qp n bs (Qp 4 bs (Qp 8 bs s).2).2).2).1-1) (by omega) (by omega)
     dsimp only;simp only[Qe,QbS];omega
    ·have:=@QeW QCC bs (Qp 8 bs s).2 20 (by decide)
     omega
def QDd:Qb:=⟨[true],false,fun
 | [.box [.sl 1 l,.v (.int .i64 i),.v (.int .i64 h)],.one (.v (.int .i64 n))]=>some (WfB l∧0≤i∧1≤n∧n≤5,rT (QuP n (unB l) (i.toNat,h)).1,cuO l (QuP n (unB l) (i.toNat,h)).2)
 | _=>none⟩
attribute [local go_sem] QDd
theorem Qql:[[D.v (.string ⟨#[99,104,101,99,107,32]⟩)],[D.v (.string ⟨#[103,105,118,101,110,32]⟩)],[D.v (.string ⟨#[105,109,112,108,105,101,100,32]⟩)],[D.v (.string ⟨#[119,104,97,116,32]⟩)]]=tL ws4:=rfl
theorem Qm4:[[D.v (.string ⟨#[100,101,112,115]⟩)],[D.v (.string ⟨#[107,101,121,115]⟩)],[D.v (.string ⟨#[97,103,114,101,101]⟩)],[D.v (.string ⟨#[99,111,118,101,114]⟩)],[D.v (.string ⟨#[115,99,104,101,109,97]⟩)],[D.v (.string ⟨#[116,97,107,101]⟩)],[D.v (.string ⟨#[99,108,101,97,114]⟩)],[D.v (.string ⟨#[115,105,122,101]⟩)],[D.v (.string ⟨#[119,104,97,116]⟩)],[D.v (.string ⟨#[]⟩)],[D.v (.string ⟨#[114,111,119]⟩)],[D.v (.string ⟨#[99,104,101,99,107,32,65,62,90]⟩)],[D.v (.string ⟨#[99,101,108,108,32,48,32,65,66,32,49]⟩)],[D.v (.string ⟨#[99,111,108,117,109,110,115,32,57,32,101,113,117,97,108]⟩)]]=tL QCC:=rfl
theorem QDN:Qa E0 35 QDd:=by
 refine Qaa (E:=E0) (T:=mkT Tryz.prog [(33,QcQ),(71,QDe),(25,QDc),(34,Qiw),(72,Qty),(26,cFD),(10,QfP),(23,cFA)] false (fun d=>d==35||d==68) false (fun _=>false)) (Qd (E:=E0) (.cons QdA (.cons QEc (.cons QDK (.cons Qq3 (.cons QAS (.cons Qqf (.cons QeL (.cons QmY .nil))))))))) rfl (fn:=Tryz.f35) Tryz.func35 kR rfl Qc kR rfl rfl (nLe rfl) ?_
 intro args p rs ms hr;unfold QDd at hr;dsimp only at hr;split at hr;rotate_left
 ·cases hr
 rename_i l i h n;cases hr;refine⟨_,_,_,rfl,rfl,rfl,rfl,nLe rfl,?_⟩
 have hm:=mxE;rintro⟨h1,h2,n1,n5⟩ bs0;obtain⟨bs,rfl,hx⟩:=h1.ex;clear h1;rw[QaK];obtain⟨i,rfl⟩:=KL h2;rw[KE];have hzz:=@Qi6 n bs (i,h) n1 n5
 generalize hZ:QuP n bs (i,h)=Z at hzz;unfold QuP at hZ;dsimp only at hZ;generalize hQ:Qp 8 bs (i,h)=Q at hZ;have nB4:¬tL ws4=[]:=by simp[tL,ws4]
 have nB14:¬tL QCC=[]:=by simp[tL,QCC]
 have z4:ws4.length=4:=rfl
 have z14:QCC.length=14:=rfl
 have m4:ws4.length≤maxLen:=by rw[z4];decide
 have m14:QCC.length≤maxLen:=by rw[z14];decide
 cases qq:(Q.1==0||Q.1==1||Q.1==2)
 ·rw[qq,if_neg (by decide)]at hZ
  simp only[Kt]at qq
  obtain⟨⟨q0,q1⟩,q2⟩:=qq;cases q3:(Q.1==3)
  ·rw[q3,if_neg (by decide)]at hZ
   cases q4:(Q.1==4)
   ·rw[q4,if_neg (by decide)]at hZ
    cases q5:(Q.1==5)
    ·rw[q5,if_neg (by decide)]at hZ
     (repeat' first|refine gA fun _=>?_|apply fkI<;>intro hb<;>try simp only[ew,hQ,q0,q1,q2,q3,q4,q5,Qm4,hZ]at hb|simp only[go_sem,simprocAttr, *,hQ,q0,q1,q2,q3,q4,q5,Qm4,hZ])
     all_goals first|rfl|skip
    ·rw[q5,if_pos rfl]at hZ
     have r1:=@Q2 4 bs Q.2 (by decide)
     generalize hA:Qp 4 bs Q.2=A at hZ r1;have r2:=@Q2 n bs A.2 (by omega)
     generalize hB:Qp n bs A.2=B at hZ r2;have r3:=@Q2 4 bs B.2 (by decide)
     generalize hC:Qp 4 bs B.2=C at hZ r3;have hp:∃b:Nat,B.1=b∧b<5:=⟨B.1.toNat,by omega,by omega⟩
     have hp1:B.1<64:=by omega
     have hp2: -9223372036854775808≤(2:Int)^B.1.toNat∧(2:Int)^B.1.toNat≤9223372036854775807:=by
      obtain⟨b,hb,hb5⟩:=hp;rw[hb,KE];have:b=0∨b=1∨b=2∨b=3∨b=4:=by omega
      rcases this with rfl|rfl|rfl|rfl|rfl<;>decide
     clear hp;have k2:=Qg2 r1.1 (by omega)
     have k4:=@QaP (1*2^B.1.toNat)
     have k6:=QfR (v:=C.1-1) (by omega) (by omega)
     have k7:ByteArray.size ⟨#[99,101,108,108,32]⟩=5:=rfl
     subst hZ;(repeat' first|refine gA fun _=>?_|apply fkI<;>intro hb<;>try simp only[ew,hQ,q0,q1,q2,q3,q4,q5,hA,hB,hC,Qe,QbS,k7]at hb|simp only[go_sem,simprocAttr, *,hQ,q0,q1,q2,q3,q4,q5,hA,hB,hC,Qe,QbS,k7])
     all_goals first|rfl|skip
   ·rw[q4,if_pos rfl]at hZ
    have r1:=@Q2 4 bs Q.2 (by decide)
    generalize hA:Qp 4 bs Q.2=A at hZ r1;have k2:=Qg2 r1.1 (by omega)
    have k7:ByteArray.size ⟨#[100,114,111,112,32]⟩=5:=rfl
    subst hZ;(repeat' first|refine gA fun _=>?_|apply fkI<;>intro hb<;>try simp only[ew,hQ,q0,q1,q2,q3,q4,hA,Qe,k7]at hb|simp only[go_sem,simprocAttr, *,hQ,q0,q1,q2,q3,q4,hA,Qe,k7])
    all_goals first|rfl|skip
  ·rw[q3,if_pos rfl]at hZ
   have k1:=@QeW ws4 bs Q.2 8 (by decide)
   generalize hA:Qfy ws4 bs Q.2=A at hZ k1;generalize hB:QjN n bs A.2=B at hZ;have k2:=@Qlq (B.1.1,B.1.2)
   subst hZ;(repeat' first|refine gA fun _=>?_|apply fkI<;>intro hb<;>try simp only[ew,hQ,q0,q1,q2,q3,Qql,hA,hB,Qe]at hb|simp only[go_sem,simprocAttr, *,hQ,q0,q1,q2,q3,Qql,hA,hB,Qe])
   all_goals first|rfl|skip
 ·rw[qq,if_pos rfl]at hZ
  have hl:=@Qia 3 bs Q.2 n.toNat
  have hv:∀v∈(Qgk 3 n.toNat bs Q.2).1,-1≤v∧v≤40:=fun v hv=>by have:=Qg9 (by decide) v hv;omega
  generalize hR:Qgk 3 n.toNat bs Q.2=R at hZ hl hv;have hw:=fun k=>@Ql3 R.1 hv k
  have hq:((Q.1==0)=true∧(Q.1==1)=false∧(Q.1==2)=false)∨((Q.1==0)=false∧(Q.1==1)=true∧(Q.1==2)=false)∨((Q.1==0)=false∧(Q.1==1)=false∧(Q.1==2)=true):=by
   simp only[Kq,Kh]at qq
   rcases qq with(e|e)|e<;>rw[e]<;>decide
  have hlm:R.1.length≤maxLen:=by rw[hl];exact KF (show n.toNat≤5 by omega) (by decide)
  have hl5:R.1.length≤5:=by omega
  clear qq hl;rcases hq with⟨q0,q1,q2⟩|⟨q0,q1,q2⟩|⟨q0,q1,q2⟩
  all_goals
   (repeat' first|refine gA fun _=>?_|apply fkI<;>intro hb<;>try simp only[ew,hQ,q0,q1,q2,hR]at hb|simp only[go_sem,simprocAttr, *,hQ,q0,q1,q2,hR])
   refine lpI {ι:=Nat,rs:=[(17,31)],mods:=[(7,fun k=> .one (.d (.v (.int .i64 k)))),(5,fun k=> .one (.d (.v (.string (rwT R.1 k)))))],boxes:=[(0,fun _=>cuP bs R.2)],arrs:=[(6,fun _=>(1,iL R.1,1))],ok:=fun k=>k≤R.1.length,mu:=fun k=>R.1.length-k} rfl 0 (KJ _) ?_ fun k hk=>?_
   ·have e0:rwT R.1 0=⟨#[114,111,119]⟩:=rfl
    clear hw hv;(repeat' first|refine gA fun _=>?_|apply fkI<;>intro hb<;>try simp only[ew,e0]at hb|simp only[go_sem,simprocAttr, *,e0])
    all_goals first|rfl|skip
   ·dsimp only at k hk
    by_cases h5:k<R.1.length
    ·have w1:=hw k hk
     have v1:=hv _ (QE h5 0)
     have v2:=QfR v1.1 v1.2
     have v3:R.1.getD k 0≤999999:=by omega
     have eS:rwT R.1 (k+1)=(rwT R.1 k++⟨#[32]⟩)++QmI (R.1.getD k 0):=rfl
     clear hw hv;generalize hT:rwT R.1 k=T at w1 eS;generalize hV:R.1.getD k 0=v at v1 v2 v3 eS;(repeat' first|refine gA fun _=>?_|apply fkI<;>intro hb<;>try simp only[ew,hT,hV,Qe,QbS]at hb|simp only[go_sem,simprocAttr, *,hT,hV,Qe,QbS])
     refine lpQ (k+1) ?_
     (repeat' first|refine gA fun _=>?_|apply fkI<;>intro hb<;>try simp only[ew,eS]at hb|simp only[go_sem,simprocAttr, *,eS])
    ·have e5:k=R.1.length:=by omega
     subst e5;clear hw hv;subst hZ;exact gQ
end
attribute [local go_sem] QtD QcQ QfP Qiw QDd Qol QDh Tryz.results16 QEK QEH cuO rI rB rT cuP QaK QZ QjD Qa1 Qz QbT Qez QcJ
def cuQ(bs:List Int)(s:Cu):List PC:=[.d (.sl 1 (bL bs)),.d (.v (.int .i64 (s.1:Nat))),.d (.v (.int .i64 s.2))]
def QzP:List ByteArray:=[⟨#[32,101,113,117,97,108,10]⟩,⟨#[32,97,112,97,114,116,10]⟩,⟨#[32,111,116,104,101,114,10]⟩,⟨#[32,101,113,117,97,108,10]⟩]
theorem Qm5:[[D.v (.string ⟨#[32,101,113,117,97,108,10]⟩)],[D.v (.string ⟨#[32,97,112,97,114,116,10]⟩)],[D.v (.string ⟨#[32,111,116,104,101,114,10]⟩)],[D.v (.string ⟨#[32,101,113,117,97,108,10]⟩)]]=tL QzP:=rfl
def QlH(n:Int)(t:ByteArray):Nat→Dr ByteArray
 | 0=>fun _ s=>(t,s)
 | j+1=>fun bs s=>(((QlH n t j bs s).1++(QuP n bs (QlH n t j bs s).2).1)++⟨#[10]⟩,(QuP n bs (QlH n t j bs s).2).2)
theorem Qi9{n:Int}{t:ByteArray}{bs:List Int}{s:Cu}(h1:1≤n)(h5:n≤5):∀{j:Nat},t.size≤(QlH n t j bs s).1.size∧(QlH n t j bs s).1.size≤t.size+j*201
 | 0=>by rw[QlH];exact⟨KP _,KP _⟩
 | j+1=>by
  have ih:=@Qi9 n t bs s h1 h5 j
  have:=@Qi6 n bs (QlH n t j bs s).2 h1 h5
  rw[QlH];simp only[Qe]
  have e:ByteArray.size ⟨#[10]⟩=1:=rfl
  omega
def QnZ(bs:List Int):Int×Cu:=Qp 2 bs (QFQ bs)
def Qzl(bs:List Int):ByteArray×Cu:=Qfy QzP bs (QnZ bs).2
def Quj(bs:List Int):ByteArray:=(⟨#[99,111,108,117,109,110,115,32]⟩++Qst (2+(QnZ bs).1))++(Qzl bs).1
def Qr6(bs:List Int):Int×Cu:=Qp 16 bs (Qzl bs).2
def Qp8(bs:List Int):ByteArray×Cu:=QlH (2+(QnZ bs).1) (Quj bs) (2+(Qr6 bs).1).toNat bs (Qr6 bs).2
def QAZ(bs:List Int):Bool×Cu:=QjV 14 bs (Qp8 bs).2
def Qr7(bs:List Int):ByteArray:=if(QAZ bs).1=true then(QyQ (Qp8 bs).1 bs (QAZ bs).2).1 else(Qp8 bs).1
theorem QmW(bs:List Int):(0≤(QnZ bs).1∧(QnZ bs).1<2)∧(Qzl bs).1.size≤7∧(8≤(Quj bs).size∧(Quj bs).size≤40)∧(0≤(Qr6 bs).1∧(Qr6 bs).1<16)∧(8≤(Qp8 bs).1.size∧(Qp8 bs).1.size≤4000)∧(Qr7 bs).size≤10000:=by
 have h1:0≤(QnZ bs).1∧(QnZ bs).1<2:=@Q2 2 bs (QFQ bs) (by decide)
 have h2:(Qzl bs).1.size≤7:=@QeW QzP bs _ 7 (by decide)
 have h3:(8≤(Quj bs).size∧(Quj bs).size≤40):=by
  have k1:=Qg2 (v:=2+(QnZ bs).1) (by omega) (by omega)
  have k2:ByteArray.size ⟨#[99,111,108,117,109,110,115,32]⟩=8:=rfl
  unfold Quj;simp only[Qe]
  omega
 have h4:0≤(Qr6 bs).1∧(Qr6 bs).1<16:=@Q2 16 bs _ (by decide)
 have h5:8≤(Qp8 bs).1.size∧(Qp8 bs).1.size≤4000:=by
  have:=@Qi9 (2+(QnZ bs).1) (Quj bs) bs (Qr6 bs).2 (by omega) (by omega) (2+(Qr6 bs).1).toNat
  unfold Qp8;omega
 refine⟨h1,h2,h3,h4,h5,?_⟩
 unfold Qr7;split
 ·have:=@Qv1 (Qp8 bs).1 bs (QAZ bs).2
  omega
 ·omega
def QDb:Qb:=⟨[],false,fun
 | [.one (.sl 1 l)]=>some (WfB l∧l.length≤1048576∧∀b∈unB l,0≤b∧b≤255,[⟨false,[.d (.v (.string (Qr7 (unB l))))]⟩],[])
 | _=>none⟩
attribute [local go_sem] QDb
theorem QDv:Qa E0 16 QDb:=by
 refine QG (E:=E0) (T:=mkT Tryz.prog [(32,QtD),(33,QcQ),(10,QfP),(34,Qiw),(35,QDd),(36,Qol),(37,QDh)] false (fun d=>d==16) true (fun _=>false)) (Qd (E:=E0) (.cons QBw (.cons QdA (.cons QeL (.cons Qq3 (.cons QDN (.cons Qvf (.cons QEm .nil)))))))) (fn:=Tryz.f16) Tryz.func16 kR rfl Qc kR rfl ?_
 intro args p rs ms hr;unfold QDb at hr;dsimp only at hr;split at hr;rotate_left
 ·cases hr
 rename_i l;cases hr;refine⟨rfl,rfl,nLe rfl,?_⟩
 have hm:=mxE;rintro⟨h1,h2,h3⟩ bs0;obtain⟨bs,rfl,hx⟩:=h1.ex;clear h1;rw[QZ]at h2;rw[QaK]at h3 ⊢;obtain⟨a1,b1,t1,c1,l1,r1⟩:=QmW bs;have eA:Qp 2 bs (0,QCP bs)=QnZ bs:=rfl
 have eB:Qfy QzP bs (QnZ bs).2=Qzl bs:=rfl
 have eT:(⟨#[99,111,108,117,109,110,115,32]⟩++Qst (2+(QnZ bs).1))++(Qzl bs).1=Quj bs:=rfl
 have eC:Qp 16 bs (Qzl bs).2=Qr6 bs:=rfl
 have eL:QlH (2+(QnZ bs).1) (Quj bs) (2+(Qr6 bs).1).toNat bs (Qr6 bs).2=Qp8 bs:=rfl
 have eO:QjV 14 bs (Qp8 bs).2=QAZ bs:=rfl
 have k1:=Qg2 (v:=2+(QnZ bs).1) (by omega) (by omega)
 have k2:ByteArray.size ⟨#[99,111,108,117,109,110,115,32]⟩=8:=rfl
 have nB4:¬tL QzP=[]:=by simp[tL,QzP]
 have z4:QzP.length=4:=rfl
 have m4:QzP.length≤maxLen:=by rw[z4];decide
 have eR:Qr7 bs=if(QAZ bs).1=true then(QyQ (Qp8 bs).1 bs (QAZ bs).2).1 else(Qp8 bs).1:=rfl
 generalize Qr7 bs=Z at eR;have hls:=fun j=>@Qi9 (2+(QnZ bs).1) (Quj bs) bs (Qr6 bs).2 (by omega) (by omega) j
 generalize QnZ bs=A at *;generalize Qzl bs=B at *;generalize Quj bs=T at *;generalize Qr6 bs=C at *;generalize Qp8 bs=L at *;generalize QAZ bs=O at *;obtain⟨c,hc⟩:∃c:Nat,C.1=c:=KL c1.1;have hc2:c<16:=by omega
 have ec:(2+C.1).toNat=c+2:=by omega
 rw[ec]at eL;have hn1:1≤2+A.1:=by omega
 have hn5:2+A.1≤5:=by omega
 have ec2:(2:Int)+((c:Nat):Int)=((c+2-0:Nat):Int):=by omega
 (repeat' first|refine gA fun _=>?_|apply fkI<;>intro hb<;>try simp only[ew,eA,Qm5,eB,eT,eC,Qe,k2,cuQ]at hb|simp only[go_sem,simprocAttr, *,eA,Qm5,eB,eT,eC,Qe,k2,cuQ])
 refine lpI {ι:=Nat,rs:=[(22,32)],mods:=[(6,fun j=> .one (.d (.v (.int .i64 ((c+2-j:Nat):Int))))),(5,fun j=> .one (.d (.v (.string (QlH (2+A.1) T j bs C.2).1))))],boxes:=[(3,fun j=>cuQ bs (QlH (2+A.1) T j bs C.2).2)],arrs:=[],ok:=fun j=>j≤c+2,mu:=fun j=>c+2-j} rfl 0 (KJ _) ?_ fun j hj=>?_
 ·have e0:QlH (2+A.1) T 0 bs C.2=(T,C.2):=rfl
  clear hls;(repeat' first|refine gA fun _=>?_|apply fkI<;>intro hb<;>try simp only[ew,e0,ec2,cuQ]at hb|simp only[go_sem,simprocAttr, *,e0,ec2,cuQ])
  all_goals first|rfl|skip
 ·dsimp only at j hj
  have hs:=hls j
  clear hls
  by_cases h5:j<c+2
  ·have hl:=@Qi6 (2+A.1) bs (QlH (2+A.1) T j bs C.2).2 hn1 hn5
   have eS:QlH (2+A.1) T (j+1) bs C.2=(((QlH (2+A.1) T j bs C.2).1++(QuP (2+A.1) bs (QlH (2+A.1) T j bs C.2).2).1)++⟨#[10]⟩,(QuP (2+A.1) bs (QlH (2+A.1) T j bs C.2).2).2):=rfl
   generalize hM:QlH (2+A.1) T j bs C.2=M at hl hs eS;generalize hN:QuP (2+A.1) bs M.2=N at hl eS;have hj2:((c+2-j:Nat):Int)-1=((c+2-(j+1):Nat):Int):=by omega
   have hj3:decide (((c+2-j:Nat):Int)>0)=true:=KZ (by omega)
   have z10:ByteArray.size ⟨#[10]⟩=1:=rfl
   have hs2:M.1.size≤4000:=by omega
   have hs3:M.1.size+N.1.size≤4611686018427387903:=by omega
   clear hs;(repeat' first|refine gA fun _=>?_|apply fkI<;>intro hb<;>try simp only[ew,hM,hN,hj3,Qe,z10,cuQ]at hb|simp only[go_sem,simprocAttr, *,hM,hN,hj3,Qe,z10,cuQ])
   refine lpQ (j+1) ?_
   (repeat' first|refine gA fun _=>?_|apply fkI<;>intro hb<;>try simp only[ew,eS,hj2,cuQ]at hb|simp only[go_sem,simprocAttr, *,eS,hj2,cuQ])
  ·have e5:j=c+2:=by omega
   subst e5;have hj3:decide (((c-c:Nat):Int)>0)=false:=KW (by omega)
   cases ho:O.1
   ·rw[ho,if_neg (by decide)]at eR
    subst eR;(repeat' first|refine gA fun _=>?_|apply fkI<;>intro hb<;>try simp only[ew,hj3,eL,eO,ho,cuQ]at hb|simp only[go_sem,simprocAttr, *,hj3,eL,eO,ho,cuQ])
    all_goals first|rfl|skip
   ·rw[ho,if_pos rfl]at eR
    generalize hP:QyQ L.1 bs O.2=P at eR;subst eR;(repeat' first|refine gA fun _=>?_|apply fkI<;>intro hb<;>try simp only[ew,hj3,eL,eO,ho,hP,cuQ]at hb|simp only[go_sem,simprocAttr, *,hj3,eL,eO,ho,hP,cuQ])
    all_goals first|rfl|skip
end Go.Own
