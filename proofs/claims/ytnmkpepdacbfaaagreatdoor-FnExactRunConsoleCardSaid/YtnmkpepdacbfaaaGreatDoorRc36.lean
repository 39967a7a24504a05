/- Own contracts. Conditions: as each theorem states them. -/
import Derived.Test.YtnmkpepdacbfaaaGreatDoorRc35
set_option linter.unusedSimpArgs false
set_option linter.unusedVariables false
set_option maxRecDepth 20000
set_option maxHeartbeats 2000000
namespace Go.Own
open Go Go.Proofs
attribute [local go_sem] QBh QrC Qkq Tryz.results179 QO Qfs QhX Tryz.results133 QBi QuR Tryz.results177
attribute [local go_sem] Qh Qe Qaa Qac Qab Qaf QaX QdJ Qu QaV
def sc1(ds:List (Int×Int))(set:Int)(d:Int×Int):Int:=Q6 .and .i64 set (clo ds d.1)
def sc2(ds:List (Int×Int))(set:Int)(d:Int×Int):Int:=Q6 .or .i64 d.1 (Q6 .andNot .i64 set (clo ds d.1))
theorem QlK:∀x y:Fin 32,Q6 .and .i64 ((x.val:Nat):Int) ((y.val:Nat):Int)=Q6 .and .i64 ((y.val:Nat):Int) ((x.val:Nat):Int):=by decide+kernel
theorem Qn8:∀x y:Fin 32,Q6 .or .i64 ((x.val:Nat):Int) ((y.val:Nat):Int)=Q6 .or .i64 ((y.val:Nat):Int) ((x.val:Nat):Int):=by decide+kernel
theorem Qi3:∀s z:Fin 32,Q6 .andNot .i64 ((s.val:Nat):Int) (Q6 .and .i64 ((s.val:Nat):Int) ((z.val:Nat):Int))=Q6 .andNot .i64 ((s.val:Nat):Int) ((z.val:Nat):Int):=by decide+kernel
theorem Qqz:∀s z:Fin 32,0≤Q6 .and .i64 ((s.val:Nat):Int) ((z.val:Nat):Int)∧Q6 .and .i64 ((s.val:Nat):Int) ((z.val:Nat):Int)≤((s.val:Nat):Int)∧(Q7 ((s.val:Nat):Int) ((z.val:Nat):Int)=false→Q6 .and .i64 ((s.val:Nat):Int) ((z.val:Nat):Int)<((s.val:Nat):Int))∧Q7 (Q6 .and .i64 ((s.val:Nat):Int) ((z.val:Nat):Int)) ((s.val:Nat):Int)=true:=by decide+kernel
theorem QqM:∀x y:Fin 32,Q7 ((y.val:Nat):Int) ((x.val:Nat):Int)=true→y≠x→cnt ((y.val:Nat):Int)<cnt ((x.val:Nat):Int):=by decide+kernel
theorem QqL:∀x:Fin 32,cnt ((x.val:Nat):Int)≤5:=by decide+kernel
theorem QyX{x:Int}(hx:R5 x):cnt x≤5:=by
 obtain⟨x,rfl⟩:=hx.fin;exact QqL x
theorem QxE{x y:Int}(hx:R5 x)(hy:R5 y)(h:Q7 y x=true)(hne:y<x):cnt y<cnt x:=by
 obtain⟨x,rfl⟩:=hx.fin;obtain⟨y,rfl⟩:=hy.fin;exact QqM x y h fun e=>by rw[e]at hne;omega
theorem Qf2:∀s z:Fin 32,(0≤Q6 .andNot .i64 ((s.val:Nat):Int) ((z.val:Nat):Int)∧Q6 .andNot .i64 ((s.val:Nat):Int) ((z.val:Nat):Int)≤31)∧∀c:Fin 5,Qt (Q6 .andNot .i64 ((s.val:Nat):Int) ((z.val:Nat):Int)) ((c.val:Nat):Int)=(Qt ((s.val:Nat):Int) ((c.val:Nat):Int)&& !Qt ((z.val:Nat):Int) ((c.val:Nat):Int)):=by decide+kernel
theorem Qj1:∀x y:Fin 32,∀c:Fin 5,Qt (Q6 .or .i64 ((x.val:Nat):Int) ((y.val:Nat):Int)) ((c.val:Nat):Int)=(Qt ((x.val:Nat):Int) ((c.val:Nat):Int)||Qt ((y.val:Nat):Int) ((c.val:Nat):Int)):=by decide+kernel
theorem QCJ{x y:Int}(hx:R5 x)(hy:R5 y):Q6 .and .i64 x y=Q6 .and .i64 y x:=by
 obtain⟨x,rfl⟩:=hx.fin;obtain⟨y,rfl⟩:=hy.fin;exact QlK x y
theorem orc{x y:Int}(hx:R5 x)(hy:R5 y):Q6 .or .i64 x y=Q6 .or .i64 y x:=by
 obtain⟨x,rfl⟩:=hx.fin;obtain⟨y,rfl⟩:=hy.fin;exact Qn8 x y
theorem Qox{x y:Int}(hx:R5 x)(hy:R5 y):R5 (Q6 .andNot .i64 x y):=by
 obtain⟨x,rfl⟩:=hx.fin;obtain⟨y,rfl⟩:=hy.fin;exact(Qf2 x y).1
theorem Qqy{x y:Int}(hx:R5 x)(hy:R5 y):Q6 .andNot .i64 x (Q6 .and .i64 y x)=Q6 .andNot .i64 x y:=by
 rw[QCJ hy hx];obtain⟨x,rfl⟩:=hx.fin;obtain⟨y,rfl⟩:=hy.fin;exact Qi3 x y
theorem Qfq{n:Int}{ds:List (Int×Int)}{set:Int}{d:Int×Int}(h:brk n ds set 0=some d):(QF n ds=true∧Ql n set=true)∧Qbn d∧Q7 set (clo ds d.1)=false∧Q7 d.1 set=true∧Qt set d.2=true∧Qt (clo ds d.1) d.2=true∧Qt d.1 d.2=false:=by
 unfold brk at h;have h1:=List.find?_some h
 have h2:=List.mem_of_find?_eq_some h
 have hR:=(@QiJ n ds set).2.1 d h2
 unfold pdL at h2;split at h2
 ·rename_i hv
  rw[Bool.and_eq_true]at hv;unfold QaR at h2;obtain⟨_,_,m3,m4⟩:=QfK h2;unfold pjB at m4;simp only[Bool.and_eq_true]at m4
  unfold brB at h1;simp only[Bool.and_eq_true,Bool.not_eq_true']at h1
  exact⟨hv,hR,h1.1,m4.1.1,m4.1.2,m4.2,m3⟩
 ·cases h2
theorem Qdx{n:Int}{ds:List (Int×Int)}{set:Int}{d:Int×Int}(h:brk n ds set 0=some d):(0≤sc1 ds set d∧sc1 ds set d<set∧Q7 (sc1 ds set d) set=true)∧0≤sc2 ds set d∧sc2 ds set d<set∧Q7 (sc2 ds set d) set=true:=by
 obtain⟨⟨v1,v2⟩,hR,b1,b2,b3,b4,b5⟩:=Qfq h;have hd:=Qax v1
 obtain⟨_,_,s0,s31⟩:=Qp v2;have hs:R5 set:=⟨s0,s31⟩
 have hz:=Qnx hd hR.1
 unfold sc1 sc2;have hl:=hR.1
 have hr:=hR.2
 generalize clo ds d.1=z at hz b1 b4;constructor
 ·obtain⟨x,rfl⟩:=hs.fin;obtain⟨y,rfl⟩:=hz.fin
  obtain⟨k1,k2,k3,k4⟩:=Qqz x y;exact⟨k1,k3 b1,k4⟩
 ·have hN:=Qox hs hz
  have hO:=QDR hl hN
  have hsub:leB (Q6 .or .i64 d.1 (Q6 .andNot .i64 set z)) set:=by
   intro c hc;have hl2:=(Qak hl hs).1 b2 c
   obtain⟨x,hx⟩:=hs.fin;obtain⟨y,hy⟩:=hz.fin;obtain⟨w,hw⟩:=hl.fin;obtain⟨q,hq⟩:=hN.fin;have e1:=Qj1 w q c
   rw[←hw,←hq]at e1;have e2:=(Qf2 x y).2 c
   rw[←hx,←hy]at e2;rw[e1,e2]at hc;simp only[Bool.or_eq_true,Bool.and_eq_true]at hc
   rcases hc with hc|hc
   ·exact hl2 hc
   ·exact hc.1
  have hne:Q6 .or .i64 d.1 (Q6 .andNot .i64 set z)≠set:=by
   intro e;obtain⟨x,hx⟩:=hs.fin;obtain⟨y,hy⟩:=hz.fin;obtain⟨w,hw⟩:=hl.fin;obtain⟨q,hq⟩:=hN.fin;obtain⟨c,hc⟩:=c5 hr;have e1:=Qj1 w q c
   rw[←hw,←hq,←hc]at e1;have e2:=(Qf2 x y).2 c
   rw[←hx,←hy,←hc]at e2;rw[e,b3,b5,e2,b4]at e1;simp at e1
  have h2:=(Qak hO hs).2 hsub
  have:=Qtj hO hs h2
  exact⟨hO.1,by omega,h2⟩
theorem Quj{n:Int}{ds:List (Int×Int)}{set:Int}{d:Int×Int}(h:brk n ds set 0=some d):Ql n (sc1 ds set d)=true∧Ql n (sc2 ds set d)=true:=by
 obtain⟨h1,h2⟩:=Qdx h;have hv:=(Qfq h).1.2
 simp only[Ql,Bool.and_eq_true,Qi]at hv ⊢
 have h1':=h1.2.1
 have h2':=h2.2.1
 exact⟨⟨hv.1,h1.1,by omega⟩,hv.1,h2.1,by omega⟩
def lvs(n:Int)(ds:List (Int×Int)):Nat→Int→List Int
 | 0,set=>[set]
 | f+1,set=>match brk n ds set 0 with
  | none=>[set]
  | some d=>lvs n ds f (sc1 ds set d)++lvs n ds f (sc2 ds set d)
def lvF(n:Int)(ds:List (Int×Int))(set:Int):List Int:=lvs n ds set.toNat set
theorem QoD{n:Int}{ds:List (Int×Int)}{set:Int}(h:set≤0):brk n ds set 0=none:=by
 cases hb:brk n ds set 0 with
 | none=>rfl
 | some d=>
  have:=(Qdx hb).1
  omega
theorem QfG{n:Int}{ds:List (Int×Int)}:∀{f g:Nat} {set:Int},set.toNat≤f→set.toNat≤g→lvs n ds f set=lvs n ds g set
 | 0,0,set,_,_=>rfl
 | 0,g+1,set,h,_=>by rw[lvs,lvs,QoD (by omega)]
 | f+1,0,set,_,h=>by rw[lvs,lvs,QoD (by omega)]
 | f+1,g+1,set,h1,h2=>by
  rw[lvs,lvs];cases hb:brk n ds set 0 with
  | none=>rfl
  | some d=>
   have:=Qdx hb
   dsimp only;rw[QfG (f:=f) (g:=g) (by omega) (by omega),QfG (f:=f) (g:=g) (set:=sc2 ds set d) (by omega) (by omega)]
theorem Qk0{n:Int}{ds:List (Int×Int)}{set:Int}(h:brk n ds set 0=none):lvF n ds set=[set]:=by
 unfold lvF;cases set.toNat with
 | zero=>rfl
 | succ f=>rw[lvs,h]
theorem QpB{n:Int}{ds:List (Int×Int)}{set:Int}{d:Int×Int}(h:brk n ds set 0=some d):lvF n ds set=lvF n ds (sc1 ds set d)++lvF n ds (sc2 ds set d):=by
 have:=Qdx h
 unfold lvF;rw[QfG (f:=set.toNat) (g:=set.toNat+1) (by omega) (by omega),lvs,h]
 dsimp only;rw[QfG (f:=set.toNat) (g:=(sc1 ds set d).toNat) (by omega) (by omega),QfG (f:=set.toNat) (g:=(sc2 ds set d).toNat) (by omega) (by omega)]
def QoV(n:Int)(ds:List (Int×Int)):List Int:=if QF n ds then Qcb QaL (QaS (lvF n ds (QcQ n)))else []
theorem Qka:∀{l:List Int} {a b:Int},l.Pairwise (·<·)→(∀x∈l,a≤x∧x≤b)→(l.length:Int)≤max 0 (b+1-a)
 | [],a,b,_,_=>by simp;omega
 | x::l,a,b,h,hx=>by
  rw[List.pairwise_cons]at h;have h1:=hx x (by simp)
  have ih:=Qka (l:=l) (a:=x+1) (b:=b) h.2 fun y hy=>by
   have h2:=h.1 y hy
   have h3:=hx y (by simp[hy])
   omega
  rw[List.length_cons];omega
def QuX(l:List Int):Prop:=l.Pairwise (·<·)∧∀x∈l,R5 x
theorem Qln{l:List Int}(h:QuX l):l.length≤32:=by
 have:=Qka (a:=0) (b:=31) h.1 fun x hx=>h.2 x hx
 omega
theorem Qxf{l:List Int}{x:Int}(h:QuX l)(hx:R5 x):QuX (QfZ l x):=by
 refine⟨QiK h.1,fun z hz=>?_⟩
 rcases QpY.1 hz with rfl|hz
 ·exact hx
 ·exact h.2 z hz
theorem QgF:∀{xs l:List Int},QuX l→(∀x∈xs,R5 x)→QuX (xs.foldl QfZ l)
 | [],l,h,_=>h
 | x::xs,l,h,hx=>QgF (xs:=xs) (Qxf h (hx x (by simp))) fun y hy=>hx y (by simp[hy])
theorem QwI{n:Int}{ds:List (Int×Int)}:∀{f:Nat} {set:Int},R5 set→∀x∈lvs n ds f set,R5 x
 | 0,set,h,x,hx=>by rw[lvs,List.mem_singleton]at hx;rw[hx];exact h
 | f+1,set,h,x,hx=>by
  rw[lvs]at hx;cases hb:brk n ds set 0 with
  | none=>rw[hb]at hx;rw[List.mem_singleton]at hx;rw[hx];exact h
  | some d=>
   rw[hb]at hx;have hf:=Qdx hb
   have h':0≤set∧set≤31:=h
   rcases List.mem_append.1 hx with hx|hx
   ·exact QwI (f:=f) ⟨hf.1.1,by omega⟩ x hx
   ·exact QwI (f:=f) ⟨hf.2.1,by omega⟩ x hx
def QeZ(k:Nat):Qb:=⟨[false,false,false,true],true,fun
 | [.one (.v (.int .i64 n)),.one (.sl 2 l),.one (.v (.int .i64 set)),.arr 1 out _]=>some (WfD l∧QF n (unD l)=true∧Ql n set=true∧set.toNat<k∧WfI out∧QuX (unI out),[⟨false,[.own 1 (iL ((lvF n (unD l) set).foldl QfZ (unI out))) 1]⟩],[.gone])
 | _=>none⟩
attribute [local go_sem] QeZ
theorem Qoh{k:Nat}(ih:Qa E0 179 (QeZ k)):Qa E0 179 (QeZ (k+1)):=by
 refine Qg7 (E:=E0) (T:=mkT Tryz.prog [(179,(QeZ k)),(210,QBh),(69,QrC),(127,Qkq)] false (fun _=>false) false (fun _=>false)) (Qd (E:=E0) (.cons ih (.cons QBd (.cons QmF (.cons Qb7 .nil))))) rfl (fn:=Tryz.f179) Tryz.func179 (by kernel_rfl) rfl Qc (by kernel_rfl) rfl (nLe rfl) ?_
 intro args p rs ms hr;unfold QeZ at hr;dsimp only at hr;split at hr;rotate_left
 ·cases hr
 rename_i n l set out dp;cases hr;refine⟨_,[.one (.v (.int .i64 n)),.one (.sl 2 l),.one (.v (.int .i64 set))],rfl,by simp,rfl,rfl,rfl,rfl,nLe rfl,?_⟩
 have hm:=mxE;rintro⟨h1,hv1,hv2,hk,h4,h5⟩ bs;obtain⟨ds,rfl,hx⟩:=h1.ex;obtain⟨os,rfl,hy⟩:=h4.ex;clear h1 h4;rw[QaC]at h5 ⊢;rw[Qh]at hv1 ⊢;obtain⟨n0,n5,s0,s31⟩:=Qp hv2;have o32:=Qln h5
 have omx:os.length≤maxLen:=Nat.le_trans o32 (by decide)
 cases hb:brk n ds set 0 with
 | none=>
  have e1:(brk n ds set 0).isSome=false:=by rw[hb];rfl
  have e2:=Qk0 hb
  rw[e2];clear e2 hv1 hv2;have e3:[set].foldl QfZ os=QfZ os set:=rfl
  rw[e3];clear e3;(repeat' first|refine gA fun _=>?_|apply fkI<;>intro hb<;>try simp only[ew,e1]at hb|simp only[go_sem,simprocAttr, *])
  all_goals first|rfl|skip
 | some d=>
  obtain⟨_,⟨⟨d0,d31⟩,r0,r4⟩,_⟩:=Qfq hb;obtain⟨⟨p0,p1,_⟩,q0,q1,_⟩:=Qdx hb;obtain⟨a1,a2⟩:=Quj hb;have e1:(brk n ds set 0).isSome=true:=by rw[hb];rfl
  have e4:Qx0 (brk n ds set 0)=d:=by rw[hb];rfl
  have e2:=QpB hb
  rw[e2,List.foldl_append];clear e2;have hd:=Qax hv1
  have hcl:=Qnx hd (show R5 d.1 from⟨d0,d31⟩)
  have hS:R5 set:=⟨s0,s31⟩
  have eA:Q6 .and .i64 (clo ds d.1) set=sc1 ds set d:=QCJ hcl hS
  have eB:Q6 .or .i64 (Q6 .andNot .i64 set (sc1 ds set d)) d.1=sc2 ds set d:=by
   unfold sc1 sc2;rw[QCJ hS hcl,Qqy hS hcl,orc (Qox hS hcl) ⟨d0,d31⟩]
  have z1:=QgF h5 (QwI (n:=n) (ds:=ds) (f:=(sc1 ds set d).toNat) (set:=sc1 ds set d) ⟨p0,by omega⟩)
  have z1l:=Qln z1
  have z1m:((lvF n ds (sc1 ds set d)).foldl QfZ os).length≤maxLen:=Nat.le_trans z1l (by decide)
  clear z1l;generalize hu1:sc1 ds set d=u1 at *;generalize hu2:sc2 ds set d=u2 at *;generalize hg:(lvF n ds u1).foldl QfZ os=os1 at z1m ⊢;have z1':QuX os1:=by rw[←hg];exact z1
  have t1:u1.toNat<k:=by omega
  have t2:u2.toNat<k:=by omega
  have t3:u1<(k:Int):=by omega
  have t4:u2<(k:Int):=by omega
  clear z1 hu1 hu2 hb;(repeat' first|refine gA fun _=>?_|apply fkI<;>intro hb<;>try simp only[ew,Qj,e1,e4,eA,eB,hg]at hb|simp only[go_sem,simprocAttr, *,Qj])
  all_goals first|rfl|skip
theorem QmV:∀k,Qa E0 179 (QeZ k):=by
 intro k;induction k with
 | zero=>
  refine⟨⟨Tryz.f179,Tryz.func179,by kernel_rfl,rfl⟩,?_⟩
  intro args p rs ms hr hp;exfalso
  unfold QeZ at hr;dsimp only at hr;split at hr
  ·simp only[Option.some.injEq,Prod.mk.injEq]at hr
   obtain⟨rfl,_,_⟩:=hr;have:=hp.2.2.2.1
   omega
  ·cases hr
 | succ k ih=>exact Qoh ih
def QoF:Qb:=⟨[false,false,false,true],true,fun
 | [.one (.v (.int .i64 n)),.one (.sl 2 l),.one (.v (.int .i64 set)),.arr 1 out _]=>some (WfD l∧QF n (unD l)=true∧Ql n set=true∧WfI out∧QuX (unI out),[⟨false,[.own 1 (iL ((lvF n (unD l) set).foldl QfZ (unI out))) 1]⟩],[.gone])
 | _=>none⟩
attribute [local go_sem] QoF
theorem Qxd:Qa E0 179 QoF:=by
 refine⟨(QmV 32).1,?_⟩
 intro args p rs ms hr hp;unfold QoF at hr;dsimp only at hr;split at hr
 ·rename_i n l set out dp
  cases hr;obtain⟨h1,h2,h3,h4⟩:=hp;have:=Qp h3
  exact(QmV 32).2 _ _ _ _ rfl ⟨h1,h2,h3,by omega,h4⟩
 ·cases hr
def Qxu:Qb:=⟨[],false,fun
 | [.one (.v (.int .i64 n)),.one (.sl 2 l)]=>some (WfD l∧ -9223372036854775808≤n∧n≤9223372036854775807,[⟨false,[.own 1 (iL (QoV n (unD l))) 1]⟩],[])
 | _=>none⟩
attribute [local go_sem] Qxu
theorem QhO{n:Int}(h:1≤n∧n≤5):Ql n (QcQ n)=true:=by
 obtain⟨c,rfl⟩:=Int.eq_ofNat_of_zero_le (show 0≤n by omega)
 have:∀c:Fin 6,Ql ((c.val:Nat):Int) (QcQ ((c.val:Nat):Int))=true:=by decide+kernel
 exact this ⟨c,by omega⟩
theorem Qy9:Qa E0 133 Qxu:=by
 refine QE (E:=E0) (T:=mkT Tryz.prog [(126,QO),(24,Qfs),(179,QoF),(178,QhX)] false (fun _=>false) true (fun _=>false)) (Qd (E:=E0) (.cons Qbr (.cons Qf0 (.cons Qxd (.cons QtC .nil))))) (fn:=Tryz.f133) Tryz.func133 (by kernel_rfl) rfl Qc (by kernel_rfl) rfl ?_
 intro args p rs ms hr;unfold Qxu at hr;dsimp only at hr;split at hr;rotate_left
 ·cases hr
 rename_i n l;cases hr;refine⟨rfl,rfl,nLe rfl,?_⟩
 have hm:=mxE;rintro⟨h1,hn1,hn2⟩ bs;obtain⟨ds,rfl,hx⟩:=h1.ex;clear h1;rw[Qh];cases hv:QF n ds
 ·have e:QoV n ds=[]:=by unfold QoV;rw[hv];rfl
  rw[e];clear e;(repeat' first|refine gA fun _=>?_|apply fkI<;>intro hb<;>try simp only[ew,hv]at hb|simp only[go_sem,simprocAttr, *,hv])
  all_goals first|rfl|skip
 ·have e:QoV n ds=Qcb QaL (QaS (lvF n ds (QcQ n))):=by unfold QoV;rw[hv];rfl
  rw[e];clear e;obtain⟨n1,n5,_⟩:=Qfz hv;have ha:=QhO ⟨n1,n5⟩
  obtain⟨_,_,s0,s31⟩:=Qp ha;have hz:QuX (QaS (lvF n ds (QcQ n))):=QgF ⟨.nil,by simp⟩ (QwI ⟨s0,s31⟩)
  have hl:=Qln hz
  have hlm:(QaS (lvF n ds (QcQ n))).length≤maxLen:=Nat.le_trans hl (by decide)
  have e1:(lvF n ds (QcQ n)).foldl QfZ []=QaS (lvF n ds (QcQ n)):=rfl
  have e2:QuX ([]:List Int):=⟨.nil,by simp⟩
  have e3:unI []=[]:=rfl
  have e4:(iL []:List (List D))=[]:=rfl
  have e5:WfI ([]:List (List D)):=(Qyd (xs:=[])).2 (Nat.zero_le _)
  clear hz;generalize hZ:QaS (lvF n ds (QcQ n))=Z at hl hlm e1 ⊢;generalize hA:QcQ n=A at ha s0 s31 e1;(repeat' first|refine gA fun _=>?_|apply fkI<;>intro hb<;>try simp only[ew,hv,hA,e1,e3]at hb|simp only[go_sem,simprocAttr, *,hv])
  all_goals first|rfl|skip
def wt(x:Int):Nat:=2*2^cnt x-1
def wtL(R:List Int):Nat:=(R.map wt).sum
theorem Qye{x:Int}:1≤wt x:=by
 unfold wt;have:=Nat.one_le_two_pow (n:=cnt x)
 omega
theorem QuO:∀{R:List Int},R.length≤wtL R
 | []=>Nat.le_refl _
 | x::R=>by
  have h1:=@QuO R
  have h2:=@Qye x
  unfold wtL at *;rw[List.map_cons,List.sum_cons,List.length_cons];omega
theorem Qon{R S:List Int}:wtL (R++S)=wtL R+wtL S:=by
 unfold wtL;rw[List.map_append,List.sum_append]
theorem QCt{x a b:Int}(ha:cnt a<cnt x)(hb:cnt b<cnt x):wt a+wt b<wt x:=by
 unfold wt;have h1:2^cnt a≤2^(cnt x-1):=Nat.pow_le_pow_right (by omega) (by omega)
 have h2:2^cnt b≤2^(cnt x-1):=Nat.pow_le_pow_right (by omega) (by omega)
 have h3:2^cnt x=2^(cnt x-1)*2:=by rw[←Nat.pow_succ];congr 1;omega
 have:=Nat.one_le_two_pow (n:=cnt a)
 have:=Nat.one_le_two_pow (n:=cnt b)
 omega
def Qy7(n:Int)(ds:List (Int×Int))(R D:List Int):Prop:=(∀x∈R,Ql n x=true)∧D.length+wtL R≤63∧∀z,(z∈D∨∃x∈R,z∈lvF n ds x)↔z∈lvF n ds (QcQ n)
theorem QqS{n:Int}{ds:List (Int×Int)}(h:1≤n∧n≤5):Qy7 n ds [QcQ n] []:=by
 have ha:=QhO h
 refine⟨fun x hx=>by rw[List.mem_singleton]at hx;rw[hx];exact ha,?_,fun z=>by simp⟩
 have:=QyX (x:=QcQ n) (Qp ha).2.2
 have h2:2^cnt (QcQ n)≤2^5:=Nat.pow_le_pow_right (by omega) this
 simp only[wtL,wt,List.map_cons,List.map_nil,List.sum_cons,List.sum_nil,List.length_nil]
 omega
theorem QsL{n:Int}{ds:List (Int×Int)}{R D:List Int}{x:Int}(h:Qy7 n ds (R++[x]) D)(hb:brk n ds x 0=none):Qy7 n ds R (D++[x])∧wtL R<wtL (R++[x]):=by
 obtain⟨h1,h2,h3⟩:=h;have hp:=@Qye x
 have e:wtL (R++[x])=wtL R+wt x:=by rw[Qon];simp[wtL]
 rw[e]at h2 ⊢;refine⟨⟨fun y hy=>h1 y (by simp[hy]),by rw[List.length_append];simp;omega,fun z=>?_⟩,by omega⟩
 rw[←h3 z];constructor
 ·rintro(hz|⟨y,hy,hz⟩)
  ·rcases List.mem_append.1 hz with hz|hz
   ·exact .inl hz
   ·exact .inr ⟨x,by simp,by rw[Qk0 hb];exact hz⟩
  ·exact .inr ⟨y,by simp[hy],hz⟩
 ·rintro(hz|⟨y,hy,hz⟩)
  ·exact .inl (by simp[hz])
  ·rcases List.mem_append.1 hy with hy|hy
   ·exact .inr ⟨y,hy,hz⟩
   ·rw[List.mem_singleton]at hy
    subst hy;rw[Qk0 hb]at hz;exact .inl (by simp at hz;simp[hz])
theorem QqR{n:Int}{ds:List (Int×Int)}{R D:List Int}{x:Int}{d:Int×Int}(h:Qy7 n ds (R++[x]) D)(hb:brk n ds x 0=some d):Qy7 n ds (R++[sc1 ds x d,sc2 ds x d]) D∧wtL (R++[sc1 ds x d,sc2 ds x d])<wtL (R++[x]):=by
 obtain⟨h1,h2,h3⟩:=h;obtain⟨⟨p0,p1,p2⟩,q0,q1,q2⟩:=Qdx hb;obtain⟨a1,a2⟩:=Quj hb;have hx:=(Qp (h1 x (by simp))).2.2
 have hw:=QCt (QxE hx ⟨p0,by omega⟩ p2 p1) (QxE hx ⟨q0,by omega⟩ q2 q1)
 have e:wtL (R++[x])=wtL R+wt x:=by rw[Qon];simp[wtL]
 have e2:wtL (R++[sc1 ds x d,sc2 ds x d])=wtL R+(wt (sc1 ds x d)+wt (sc2 ds x d)):=by rw[Qon];simp[wtL]
 rw[e]at h2 ⊢;rw[e2];refine⟨⟨fun y hy=>?_,by rw[e2];omega,fun z=>?_⟩,by omega⟩
 ·rcases List.mem_append.1 hy with hy|hy
  ·exact h1 y (by simp[hy])
  ·simp only[List.mem_cons,List.not_mem_nil,or_false]at hy
   rcases hy with rfl|rfl
   ·exact a1
   ·exact a2
 ·rw[←h3 z]
  have es:=QpB hb
  constructor
  ·rintro(hz|⟨y,hy,hz⟩)
   ·exact .inl hz
   ·rcases List.mem_append.1 hy with hy|hy
    ·exact .inr ⟨y,by simp[hy],hz⟩
    ·refine .inr ⟨x,by simp,?_⟩
     rw[es,List.mem_append];simp only[List.mem_cons,List.not_mem_nil,or_false]at hy
     rcases hy with rfl|rfl
     ·exact .inl hz
     ·exact .inr hz
  ·rintro(hz|⟨y,hy,hz⟩)
   ·exact .inl hz
   ·rcases List.mem_append.1 hy with hy|hy
    ·exact .inr ⟨y,by simp[hy],hz⟩
    ·rw[List.mem_singleton]at hy
     subst hy;rw[es,List.mem_append]at hz;rcases hz with hz|hz
     ·exact .inr ⟨_,by simp,hz⟩
     ·exact .inr ⟨_,by simp,hz⟩
theorem Qv1{n:Int}{ds:List (Int×Int)}{D:List Int}(h:Qy7 n ds [] D):QaS D=QaS (lvF n ds (QcQ n)):=by
 refine QbL Qat Qat fun z=>?_
 rw[Qai,Qai,←h.2.2 z];simp
theorem Qd2{xs:List Int}{i:Nat}:(iL xs).take i=iL (xs.take i):=by simp[iL,List.map_take]
theorem Qpi{xs:List Int}{a b:Int}:iL xs++[[D.v (.int .i64 a)],[D.v (.int .i64 b)]]=iL (xs++[a,b]):=by simp[iL]
theorem Qy8:Qa E0 177 Qxu:=by
 refine QE (E:=E0) (T:=mkT Tryz.prog [(163,QO),(209,QBi),(202,Qkq),(158,QuR),(208,QhX)] false (fun _=>false) true (fun d=>d==29)) (Qd (E:=E0) (.cons Qbq (.cons QBg (.cons Qem (.cons Qo6 (.cons QpD .nil)))))) (fn:=Tryz.f177) Tryz.func177 (by kernel_rfl) rfl Qc (by kernel_rfl) rfl ?_
 intro args p rs ms hr;unfold Qxu at hr;dsimp only at hr;split at hr;rotate_left
 ·cases hr
 rename_i n l;cases hr;refine⟨rfl,rfl,nLe rfl,?_⟩
 have hm:=mxE;rintro⟨h1,hn1,hn2⟩ bs;obtain⟨ds,rfl,hx⟩:=h1.ex;clear h1;rw[Qh];cases hv:QF n ds
 ·have e:QoV n ds=[]:=by unfold QoV;rw[hv];rfl
  rw[e];clear e;(repeat' first|refine gA fun _=>?_|apply fkI<;>intro hb<;>try simp only[ew,hv]at hb|simp only[go_sem,simprocAttr, *,hv])
  all_goals first|rfl|skip
 ·have e:QoV n ds=Qcb QaL (QaS (lvF n ds (QcQ n))):=by unfold QoV;rw[hv];rfl
  rw[e];clear e;obtain⟨n1,n5,_⟩:=Qfz hv;have hst:=@QqS n ds ⟨n1,n5⟩
  obtain⟨_,_,s0,s31⟩:=Qp (QhO ⟨n1,n5⟩);have hend:=@Qv1 n ds
  have hlf:=@QsL n ds
  have hsp:=@QqR n ds
  have hd:=Qax hv
  obtain⟨c,rfl⟩:=Int.eq_ofNat_of_zero_le (show 0≤n by omega)
  have hA:QcQ c=1*2^c-1:=by unfold QcQ;rw[Int.toNat_natCast]
  have hpw:=Qz4 (n:=(c:Int)) (by omega) n5
  rw[Int.toNat_natCast]at hpw;generalize hL:QaS (lvF (c:Int) ds (QcQ c))=L at hend ⊢;generalize hA2:QcQ (c:Int)=A at hA hst s0 s31;replace hA:=hA.symm;clear hL;(repeat' first|refine gA fun _=>?_|apply fkI<;>intro hb<;>try simp only[ew,Qj,hv,hA]at hb|simp only[go_sem,simprocAttr, *,Qj,hv])
  refine lpI {ι:=List Int×List Int,rs:=[(7,11),(20,63)],mods:=[(5,fun i=> .one (.own 1 (iL i.2) 1)),(6,fun i=> .one (.own 1 (iL i.1) 1))],boxes:=[],arrs:=[],ok:=fun i=>Qy7 c ds i.1 i.2,mu:=fun i=>wtL i.1} rfl ([A],[]) hst ?_ ?_
  ·clear hst hend hlf hsp
   (repeat' first|refine gA fun _=>?_|apply fkI<;>intro hb<;>try simp only[ew,hA]at hb|simp only[go_sem,simprocAttr, *])
   all_goals first|rfl|exact⟨rfl,rfl⟩|skip
  ·rintro⟨R,D⟩ hi
   dsimp only at hi;have w1:=@QuO R
   have w2:=hi.2.1
   have w3:R.length≤63:=by omega
   have w4:D.length≤63:=by omega
   clear w1 w2 hst;rcases List.eq_nil_or_concat R with rfl|⟨S,x,rfl⟩
   ·have e1:=hend hi
    have e2:iL ([]:List Int)=[]:=rfl
    have e3:=@QaE D
    rw[e1]at e3;have e5:L.length≤maxLen:=Nat.le_trans e3 (Nat.le_trans w4 (by decide))
    clear hlf hsp hi;(repeat' first|refine gA fun _=>?_|apply fkI<;>intro hb<;>try simp only[ew,e1,e2]at hb|simp only[go_sem,simprocAttr, *])
    all_goals first|rfl|skip
   ·rw[List.concat_eq_append]at *
    have hx:=hi.1 x (by simp)
    obtain⟨_,_,x0,x31⟩:=Qp hx;have eG:(S++[x]).getD S.length 0=x:=by simp[List.getD_eq_getElem?_getD]
    have eT:(S++[x]).take S.length=S:=by simp
    have eL:(S++[x]).length=S.length+1:=by simp
    generalize hR:S++[x]=R at *;have eN:((R.length:Int)-1).toNat=S.length:=by omega
    have hSl:S.length<R.length:=by omega
    have hR0:0<R.length:=by omega
    have hgt:decide ((R.length:Int)>0)=true:=decide_eq_true (by omega)
    clear eL;cases hb:brk c ds x 0 with
    | none=>
     have e1:(brk c ds x 0).isSome=false:=by rw[hb];rfl
     have hq:=@hlf S D x (by rw[hR];exact hi) hb
     rw[hR]at hq;clear hlf hsp hend hi hb;(repeat' first|refine gA fun _=>?_|apply fkI<;>intro hb<;>try simp only[ew,hv,hx,hgt,eN,eG,eT,e1,Qd2,Qo]at hb|simp only[go_sem,simprocAttr, *,hv,Qd2,Qo])
     refine lpN (S,D++[x]) hq.1 hq.2 ?_
     clear hq;(repeat' first|refine gA fun _=>?_|apply fkI<;>intro hb<;>try simp only[ew,eT,Qd2,Qo]at hb|simp only[go_sem,simprocAttr, *,Qd2,Qo])
    | some d=>
     have e1:(brk c ds x 0).isSome=true:=by rw[hb];rfl
     have e4:Qx0 (brk c ds x 0)=d:=by rw[hb];rfl
     obtain⟨_,⟨⟨d0,d31⟩,r0,r4⟩,_⟩:=Qfq hb;have hq:=@hsp S D x d (by rw[hR];exact hi) hb
     rw[hR]at hq;have eA:Q6 .and .i64 x (clo ds d.1)=sc1 ds x d:=rfl
     have eB:Q6 .or .i64 d.1 (Q6 .andNot .i64 x (clo ds d.1))=sc2 ds x d:=rfl
     clear hlf hsp hend hi hb;(repeat' first|refine gA fun _=>?_|apply fkI<;>intro hb<;>try simp only[ew,Qj,hv,hx,hgt,eN,eG,eT,e1,e4,eA,eB,Qd2,Qpi]at hb|simp only[go_sem,simprocAttr, *,Qj,hv,Qd2,Qpi])
     refine lpN (S++[sc1 ds x d,sc2 ds x d],D) hq.1 hq.2 ?_
     clear hq;(repeat' first|refine gA fun _=>?_|apply fkI<;>intro hb<;>try simp only[ew,eT,Qd2,Qpi,eA,eB]at hb|simp only[go_sem,simprocAttr, *,Qd2,Qpi])
theorem QkB{n:Int}{ds:List (Int×Int)}:(QoV n ds).length≤100:=by
 unfold QoV;split
 ·exact Qdy
 ·simp
end Go.Own
