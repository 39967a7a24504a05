/- Contracts. Conditions: as stated. -/
import Derived.Test.YtnmkpepdacbfaaaGreatDoorRp34
set_option linter.all false
set_option maxRecDepth 20000
set_option maxHeartbeats 2000000
namespace Go.Own
open Go Go.Proofs
attribute [local go_sem] QC9 QsR Qk7 Tryz.results179 QT QfO Qiv Tryz.results133 QDa Qwn Tryz.results177 Qh Qg Qae Qag Qaf Qaj Qa7 Qd1 Qv Qa6
def sc1(ds:List (Int×Int))(set:Int)(d:Int×Int):Int:=QV .and .i64 set (clo ds d.1)
def sc2(ds:List (Int×Int))(set:Int)(d:Int×Int):Int:=QV .or .i64 d.1 (QV .andNot .i64 set (clo ds d.1))
theorem Qmw:∀x y:Fin 32,QV .and .i64 ((x.val:Nat):Int) ((y.val:Nat):Int)=QV .and .i64 ((y.val:Nat):Int) ((x.val:Nat):Int):=by decide+kernel
theorem Qo8:∀x y:Fin 32,QV .or .i64 ((x.val:Nat):Int) ((y.val:Nat):Int)=QV .or .i64 ((y.val:Nat):Int) ((x.val:Nat):Int):=by decide+kernel
theorem QjH:∀s z:Fin 32,QV .andNot .i64 ((s.val:Nat):Int) (QV .and .i64 ((s.val:Nat):Int) ((z.val:Nat):Int))=QV .andNot .i64 ((s.val:Nat):Int) ((z.val:Nat):Int):=by decide+kernel
theorem QrG:∀s z:Fin 32,0≤QV .and .i64 ((s.val:Nat):Int) ((z.val:Nat):Int)∧QV .and .i64 ((s.val:Nat):Int) ((z.val:Nat):Int)≤((s.val:Nat):Int)∧(Qab ((s.val:Nat):Int) ((z.val:Nat):Int)=false→QV .and .i64 ((s.val:Nat):Int) ((z.val:Nat):Int)<((s.val:Nat):Int))∧Qab (QV .and .i64 ((s.val:Nat):Int) ((z.val:Nat):Int)) ((s.val:Nat):Int)=true:=by decide+kernel
theorem QrW:∀x y:Fin 32,Qab ((y.val:Nat):Int) ((x.val:Nat):Int)=true→y≠x→cnt ((y.val:Nat):Int)<cnt ((x.val:Nat):Int):=by decide+kernel
theorem QrV:∀x:Fin 32,cnt ((x.val:Nat):Int)≤5:=by decide+kernel
theorem QAF{x:Int}(hx:R5 x):cnt x≤5:=by
 obtain⟨x,rfl⟩:=hx.fin;exact QrV x
theorem Qzf{x y:Int}(hx:R5 x)(hy:R5 y)(h:Qab y x=true)(hne:y<x):cnt y<cnt x:=by
 obtain⟨x,rfl⟩:=hx.fin;obtain⟨y,rfl⟩:=hy.fin;exact QrW x y h fun e=>by rw[e]at hne;omega
theorem Qgu:∀s z:Fin 32,(0≤QV .andNot .i64 ((s.val:Nat):Int) ((z.val:Nat):Int)∧QV .andNot .i64 ((s.val:Nat):Int) ((z.val:Nat):Int)≤31)∧∀c:Fin 5,Qu (QV .andNot .i64 ((s.val:Nat):Int) ((z.val:Nat):Int)) ((c.val:Nat):Int)=(Qu ((s.val:Nat):Int) ((c.val:Nat):Int)&& !Qu ((z.val:Nat):Int) ((c.val:Nat):Int)):=by decide+kernel
theorem QkI:∀x y:Fin 32,∀c:Fin 5,Qu (QV .or .i64 ((x.val:Nat):Int) ((y.val:Nat):Int)) ((c.val:Nat):Int)=(Qu ((x.val:Nat):Int) ((c.val:Nat):Int)||Qu ((y.val:Nat):Int) ((c.val:Nat):Int)):=by decide+kernel
theorem QER{x y:Int}(hx:R5 x)(hy:R5 y):QV .and .i64 x y=QV .and .i64 y x:=by
 obtain⟨x,rfl⟩:=hx.fin;obtain⟨y,rfl⟩:=hy.fin;exact Qmw x y
theorem orc{x y:Int}(hx:R5 x)(hy:R5 y):QV .or .i64 x y=QV .or .i64 y x:=by
 obtain⟨x,rfl⟩:=hx.fin;obtain⟨y,rfl⟩:=hy.fin;exact Qo8 x y
theorem Qpw{x y:Int}(hx:R5 x)(hy:R5 y):R5 (QV .andNot .i64 x y):=by
 obtain⟨x,rfl⟩:=hx.fin;obtain⟨y,rfl⟩:=hy.fin;exact(Qgu x y).1
theorem QrF{x y:Int}(hx:R5 x)(hy:R5 y):QV .andNot .i64 x (QV .and .i64 y x)=QV .andNot .i64 x y:=by
 rw[QER hy hx];obtain⟨x,rfl⟩:=hx.fin;obtain⟨y,rfl⟩:=hy.fin;exact QjH x y
theorem QfM{n:Int}{ds:List (Int×Int)}{set:Int}{d:Int×Int}(h:brk n ds set 0=some d):(QJ n ds=true∧Ql n set=true)∧Qbv d∧Qab set (clo ds d.1)=false∧Qab d.1 set=true∧Qu set d.2=true∧Qu (clo ds d.1) d.2=true∧Qu d.1 d.2=false:=by
 unfold brk at h;have h1:=List.find?_some h
 have h2:=List.mem_of_find?_eq_some h
 have hR:=(@Qjl n ds set).2.1 d h2
 unfold pdL at h2;split at h2
 ·rename_i hv
  rw[KB]at hv;unfold Qa0 at h2;obtain⟨_,_,m3,m4⟩:=Qf9 h2;unfold pjB at m4;simp only[KB]at m4
  unfold brB at h1;simp only[KB,Ko]at h1
  exact⟨hv,hR,h1.1,m4.1.1,m4.1.2,m4.2,m3⟩
 ·cases h2
theorem QdP{n:Int}{ds:List (Int×Int)}{set:Int}{d:Int×Int}(h:brk n ds set 0=some d):(0≤sc1 ds set d∧sc1 ds set d<set∧Qab (sc1 ds set d) set=true)∧0≤sc2 ds set d∧sc2 ds set d<set∧Qab (sc2 ds set d) set=true:=by
 obtain⟨⟨v1,v2⟩,hR,b1,b2,b3,b4,b5⟩:=QfM h;have hd:=QaE v1
 obtain⟨_,_,s0,s31⟩:=Qq v2;have hs:R5 set:=⟨s0,s31⟩
 have hz:=Qou hd hR.1
 unfold sc1 sc2;have hl:=hR.1
 have hr:=hR.2
 generalize clo ds d.1=z at hz b1 b4;constructor
 ·obtain⟨x,rfl⟩:=hs.fin;obtain⟨y,rfl⟩:=hz.fin
  obtain⟨k1,k2,k3,k4⟩:=QrG x y;exact⟨k1,k3 b1,k4⟩
 ·have hN:=Qpw hs hz
  have hO:=QF0 hl hN
  have hsub:leB (QV .or .i64 d.1 (QV .andNot .i64 set z)) set:=by
   intro c hc;have hl2:=(Qaq hl hs).1 b2 c
   obtain⟨x,hx⟩:=hs.fin;obtain⟨y,hy⟩:=hz.fin;obtain⟨w,hw⟩:=hl.fin;obtain⟨q,hq⟩:=hN.fin;have e1:=QkI w q c
   rw[←hw,←hq]at e1;have e2:=(Qgu x y).2 c
   rw[←hx,←hy]at e2;rw[e1,e2]at hc;simp only[Kq,KB]at hc
   rcases hc with hc|hc
   ·exact hl2 hc
   ·exact hc.1
  have hne:QV .or .i64 d.1 (QV .andNot .i64 set z)≠set:=by
   intro e;obtain⟨x,hx⟩:=hs.fin;obtain⟨y,hy⟩:=hz.fin;obtain⟨w,hw⟩:=hl.fin;obtain⟨q,hq⟩:=hN.fin;obtain⟨c,hc⟩:=c5 hr;have e1:=QkI w q c
   rw[←hw,←hq,←hc]at e1;have e2:=(Qgu x y).2 c
   rw[←hx,←hy,←hc]at e2;rw[e,b3,b5,e2,b4]at e1;simp at e1
  have h2:=(Qaq hO hs).2 hsub
  have:=QuF hO hs h2
  exact⟨hO.1,by omega,h2⟩
theorem QvO{n:Int}{ds:List (Int×Int)}{set:Int}{d:Int×Int}(h:brk n ds set 0=some d):Ql n (sc1 ds set d)=true∧Ql n (sc2 ds set d)=true:=by
 obtain⟨h1,h2⟩:=QdP h;have hv:=(QfM h).1.2
 simp only[Ql,KB,Qj]at hv ⊢
 have h1':=h1.2.1
 have h2':=h2.2.1
 exact⟨⟨hv.1,h1.1,by omega⟩,hv.1,h2.1,by omega⟩
def lvs(n:Int)(ds:List (Int×Int)):Nat→Int→List Int
 | 0,set=>[set]
 | f+1,set=>match brk n ds set 0 with
  | none=>[set]
  | some d=>lvs n ds f (sc1 ds set d)++lvs n ds f (sc2 ds set d)
def lvF(n:Int)(ds:List (Int×Int))(set:Int):List Int:=lvs n ds set.toNat set
theorem QpC{n:Int}{ds:List (Int×Int)}{set:Int}(h:set≤0):brk n ds set 0=none:=by
 cases hb:brk n ds set 0 with
 | none=>rfl
 | some d=>
  have:=(QdP hb).1
  omega
theorem Qf5{n:Int}{ds:List (Int×Int)}:∀{f g:Nat} {set:Int},set.toNat≤f→set.toNat≤g→lvs n ds f set=lvs n ds g set
 | 0,0,set,_,_=>rfl
 | 0,g+1,set,h,_=>by rw[lvs,lvs,QpC (by omega)]
 | f+1,0,set,_,h=>by rw[lvs,lvs,QpC (by omega)]
 | f+1,g+1,set,h1,h2=>by
  rw[lvs,lvs];cases hb:brk n ds set 0 with
  | none=>rfl
  | some d=>
   have:=QdP hb
   dsimp only;rw[Qf5 (f:=f) (g:=g) (by omega) (by omega),Qf5 (f:=f) (g:=g) (set:=sc2 ds set d) (by omega) (by omega)]
theorem QlJ{n:Int}{ds:List (Int×Int)}{set:Int}(h:brk n ds set 0=none):lvF n ds set=[set]:=by
 unfold lvF;cases set.toNat with
 | zero=>rfl
 | succ f=>rw[lvs,h]
theorem QqG{n:Int}{ds:List (Int×Int)}{set:Int}{d:Int×Int}(h:brk n ds set 0=some d):lvF n ds set=lvF n ds (sc1 ds set d)++lvF n ds (sc2 ds set d):=by
 have:=QdP h
 unfold lvF;rw[Qf5 (f:=set.toNat) (g:=set.toNat+1) (by omega) (by omega),lvs,h]
 dsimp only;rw[Qf5 (f:=set.toNat) (g:=(sc1 ds set d).toNat) (by omega) (by omega),Qf5 (f:=set.toNat) (g:=(sc2 ds set d).toNat) (by omega) (by omega)]
def QpX(n:Int)(ds:List (Int×Int)):List Int:=if QJ n ds then Qcs QaU (Qa2 (lvF n ds (Qc7 n)))else []
theorem QkS:∀{l:List Int} {a b:Int},l.Pairwise (·<·)→(∀x∈l,a≤x∧x≤b)→(l.length:Int)≤max 0 (b+1-a)
 | [],a,b,_,_=>by simp;omega
 | x::l,a,b,h,hx=>by
  rw[YZ]at h;have h1:=hx x (by simp)
  have ih:=QkS (l:=l) (a:=x+1) (b:=b) h.2 fun y hy=>by
   have h2:=h.1 y hy
   have h3:=hx y (by simp[hy])
   omega
  rw[List.length_cons];omega
def Qwt(l:List Int):Prop:=l.Pairwise (·<·)∧∀x∈l,R5 x
theorem Ql7{l:List Int}(h:Qwt l):l.length≤32:=by
 have:=QkS (a:=0) (b:=31) h.1 fun x hx=>h.2 x hx
 omega
theorem QyS{l:List Int}{x:Int}(h:Qwt l)(hx:R5 x):Qwt (Qgq l x):=by
 refine⟨Qjm h.1,fun z hz=>?_⟩
 rcases Qq4.1 hz with rfl|hz
 ·exact hx
 ·exact h.2 z hz
theorem Qhd:∀{xs l:List Int},Qwt l→(∀x∈xs,R5 x)→Qwt (xs.foldl Qgq l)
 | [],l,h,_=>h
 | x::xs,l,h,hx=>Qhd (xs:=xs) (QyS h (hx x (by simp))) fun y hy=>hx y (by simp[hy])
theorem Qyk{n:Int}{ds:List (Int×Int)}:∀{f:Nat} {set:Int},R5 set→∀x∈lvs n ds f set,R5 x
 | 0,set,h,x,hx=>by rw[lvs,KH]at hx;rw[hx];exact h
 | f+1,set,h,x,hx=>by
  rw[lvs]at hx;cases hb:brk n ds set 0 with
  | none=>rw[hb]at hx;rw[KH]at hx;rw[hx];exact h
  | some d=>
   rw[hb]at hx;have hf:=QdP hb
   have h':0≤set∧set≤31:=h
   rcases KG.1 hx with hx|hx
   ·exact Qyk (f:=f) ⟨hf.1.1,by omega⟩ x hx
   ·exact Qyk (f:=f) ⟨hf.2.1,by omega⟩ x hx
def Qfj(k:Nat):Qb:=⟨[false,false,false,true],true,fun
 | [.one (.v (.int .i64 n)),.one (.sl 2 l),.one (.v (.int .i64 set)),.arr 1 out _]=>some (WfD l∧QJ n (unD l)=true∧Ql n set=true∧set.toNat<k∧WfI out∧Qwt (unI out),[⟨false,[.own 1 (iL ((lvF n (unD l) set).foldl Qgq (unI out))) 1]⟩],[.gone])
 | _=>none⟩
attribute [local go_sem] Qfj
theorem Qpg{k:Nat}(ih:Qa E0 179 (Qfj k)):Qa E0 179 (Qfj (k+1)):=by
 refine QhE (E:=E0) (T:=mkT Tryz.prog [(179,(Qfj k)),(210,QC9),(69,QsR),(127,Qk7)] false (fun _=>false) false (fun _=>false)) (Qd (E:=E0) (.cons ih (.cons QC4 (.cons Qny (.cons Qco .nil))))) rfl (fn:=Tryz.f179) Tryz.func179 kR rfl Qc kR rfl (nLe rfl) ?_
 intro args p rs ms hr;unfold Qfj at hr;dsimp only at hr;split at hr;rotate_left
 ·cases hr
 rename_i n l set out dp;cases hr;refine⟨_,[.one (.v (.int .i64 n)),.one (.sl 2 l),.one (.v (.int .i64 set))],rfl,by simp,rfl,rfl,rfl,rfl,nLe rfl,?_⟩
 have hm:=mxE;rintro⟨h1,hv1,hv2,hk,h4,h5⟩ bs;obtain⟨ds,rfl,hx⟩:=h1.ex;obtain⟨os,rfl,hy⟩:=h4.ex;clear h1 h4;rw[QaH]at h5 ⊢;rw[Qh]at hv1 ⊢;obtain⟨n0,n5,s0,s31⟩:=Qq hv2;have o32:=Ql7 h5
 have omx:os.length≤maxLen:=KF o32 (by decide)
 cases hb:brk n ds set 0 with
 | none=>
  have e1:(brk n ds set 0).isSome=false:=by rw[hb];rfl
  have e2:=QlJ hb
  rw[e2];clear e2 hv1 hv2;have e3:[set].foldl Qgq os=Qgq os set:=rfl
  rw[e3];clear e3;(repeat' first|refine gA fun _=>?_|apply fkI<;>intro hb<;>try simp only[ew,e1]at hb|simp only[go_sem,simprocAttr, *])
  all_goals first|rfl|skip
 | some d=>
  obtain⟨_,⟨⟨d0,d31⟩,r0,r4⟩,_⟩:=QfM hb;obtain⟨⟨p0,p1,_⟩,q0,q1,_⟩:=QdP hb;obtain⟨a1,a2⟩:=QvO hb;have e1:(brk n ds set 0).isSome=true:=by rw[hb];rfl
  have e4:QzB (brk n ds set 0)=d:=by rw[hb];rfl
  have e2:=QqG hb
  rw[e2,YW];clear e2;have hd:=QaE hv1
  have hcl:=Qou hd (show R5 d.1 from⟨d0,d31⟩)
  have hS:R5 set:=⟨s0,s31⟩
  have eA:QV .and .i64 (clo ds d.1) set=sc1 ds set d:=QER hcl hS
  have eB:QV .or .i64 (QV .andNot .i64 set (sc1 ds set d)) d.1=sc2 ds set d:=by
   unfold sc1 sc2;rw[QER hS hcl,QrF hS hcl,orc (Qpw hS hcl) ⟨d0,d31⟩]
  have z1:=Qhd h5 (Qyk (n:=n) (ds:=ds) (f:=(sc1 ds set d).toNat) (set:=sc1 ds set d) ⟨p0,by omega⟩)
  have z1l:=Ql7 z1
  have z1m:((lvF n ds (sc1 ds set d)).foldl Qgq os).length≤maxLen:=KF z1l (by decide)
  clear z1l;generalize hu1:sc1 ds set d=u1 at *;generalize hu2:sc2 ds set d=u2 at *;generalize hg:(lvF n ds u1).foldl Qgq os=os1 at z1m ⊢;have z1':Qwt os1:=by rw[←hg];exact z1
  have t1:u1.toNat<k:=by omega
  have t2:u2.toNat<k:=by omega
  have t3:u1<(k:Int):=by omega
  have t4:u2<(k:Int):=by omega
  clear z1 hu1 hu2 hb;(repeat' first|refine gA fun _=>?_|apply fkI<;>intro hb<;>try simp only[ew,Qi,e1,e4,eA,eB,hg]at hb|simp only[go_sem,simprocAttr, *,Qi])
  all_goals first|rfl|skip
theorem QnP:∀k,Qa E0 179 (Qfj k):=by
 intro k;induction k with
 | zero=>
  refine⟨⟨Tryz.f179,Tryz.func179,by kernel_rfl,rfl⟩,?_⟩
  intro args p rs ms hr hp;exfalso
  unfold Qfj at hr;dsimp only at hr;split at hr
  ·simp only[KA,KC]at hr
   obtain⟨rfl,_,_⟩:=hr;have:=hp.2.2.2.1
   omega
  ·cases hr
 | succ k ih=>exact Qpg ih
def QpF:Qb:=⟨[false,false,false,true],true,fun
 | [.one (.v (.int .i64 n)),.one (.sl 2 l),.one (.v (.int .i64 set)),.arr 1 out _]=>some (WfD l∧QJ n (unD l)=true∧Ql n set=true∧WfI out∧Qwt (unI out),[⟨false,[.own 1 (iL ((lvF n (unD l) set).foldl Qgq (unI out))) 1]⟩],[.gone])
 | _=>none⟩
attribute [local go_sem] QpF
theorem QyP:Qa E0 179 QpF:=by
 refine⟨(QnP 32).1,?_⟩
 intro args p rs ms hr hp;unfold QpF at hr;dsimp only at hr;split at hr
 ·rename_i n l set out dp
  cases hr;obtain⟨h1,h2,h3,h4⟩:=hp;have:=Qq h3
  exact(QnP 32).2 _ _ _ _ rfl ⟨h1,h2,h3,by omega,h4⟩
 ·cases hr
def Qy5:Qb:=⟨[],false,fun
 | [.one (.v (.int .i64 n)),.one (.sl 2 l)]=>some (WfD l∧ -9223372036854775808≤n∧n≤9223372036854775807,[⟨false,[.own 1 (iL (QpX n (unD l))) 1]⟩],[])
 | _=>none⟩
attribute [local go_sem] Qy5
theorem Qik{n:Int}(h:1≤n∧n≤5):Ql n (Qc7 n)=true:=by
 obtain⟨c,rfl⟩:=KL (show 0≤n by omega)
 have:∀c:Fin 6,Ql ((c.val:Nat):Int) (Qc7 ((c.val:Nat):Int))=true:=by decide+kernel
 exact this ⟨c,by omega⟩
theorem QAQ:Qa E0 133 Qy5:=by
 refine QG (E:=E0) (T:=mkT Tryz.prog [(126,QT),(24,QfO),(179,QpF),(178,Qiv)] false (fun _=>false) true (fun _=>false)) (Qd (E:=E0) (.cons Qbz (.cons Qgs (.cons QyP (.cons QuZ .nil))))) (fn:=Tryz.f133) Tryz.func133 kR rfl Qc kR rfl ?_
 intro args p rs ms hr;unfold Qy5 at hr;dsimp only at hr;split at hr;rotate_left
 ·cases hr
 rename_i n l;cases hr;refine⟨rfl,rfl,nLe rfl,?_⟩
 have hm:=mxE;rintro⟨h1,hn1,hn2⟩ bs;obtain⟨ds,rfl,hx⟩:=h1.ex;clear h1;rw[Qh];cases hv:QJ n ds
 ·have e:QpX n ds=[]:=by unfold QpX;rw[hv];rfl
  rw[e];clear e;(repeat' first|refine gA fun _=>?_|apply fkI<;>intro hb<;>try simp only[ew,hv]at hb|simp only[go_sem,simprocAttr, *,hv])
  all_goals first|rfl|skip
 ·have e:QpX n ds=Qcs QaU (Qa2 (lvF n ds (Qc7 n))):=by unfold QpX;rw[hv];rfl
  rw[e];clear e;obtain⟨n1,n5,_⟩:=QfY hv;have ha:=Qik ⟨n1,n5⟩
  obtain⟨_,_,s0,s31⟩:=Qq ha;have hz:Qwt (Qa2 (lvF n ds (Qc7 n))):=Qhd ⟨.nil,by simp⟩ (Qyk ⟨s0,s31⟩)
  have hl:=Ql7 hz
  have hlm:(Qa2 (lvF n ds (Qc7 n))).length≤maxLen:=KF hl (by decide)
  have e1:(lvF n ds (Qc7 n)).foldl Qgq []=Qa2 (lvF n ds (Qc7 n)):=rfl
  have e2:Qwt ([]:List Int):=⟨.nil,by simp⟩
  have e3:unI []=[]:=rfl
  have e4:(iL []:List (List D))=[]:=rfl
  have e5:WfI ([]:List (List D)):=(QzO (xs:=[])).2 (KJ _)
  clear hz;generalize hZ:Qa2 (lvF n ds (Qc7 n))=Z at hl hlm e1 ⊢;generalize hA:Qc7 n=A at ha s0 s31 e1;(repeat' first|refine gA fun _=>?_|apply fkI<;>intro hb<;>try simp only[ew,hv,hA,e1,e3]at hb|simp only[go_sem,simprocAttr, *,hv])
  all_goals first|rfl|skip
def wt(x:Int):Nat:=2*2^cnt x-1
def wtL(R:List Int):Nat:=(R.map wt).sum
theorem QzQ{x:Int}:1≤wt x:=by
 unfold wt;have:=Nat.one_le_two_pow (n:=cnt x)
 omega
theorem Qwk:∀{R:List Int},R.length≤wtL R
 | []=>KP _
 | x::R=>by
  have h1:=@Qwk R
  have h2:=@QzQ x
  unfold wtL at *;rw[List.map_cons,List.sum_cons,List.length_cons];omega
theorem Qpm{R S:List Int}:wtL (R++S)=wtL R+wtL S:=by
 unfold wtL;rw[Kv,List.sum_append]
theorem QEz{x a b:Int}(ha:cnt a<cnt x)(hb:cnt b<cnt x):wt a+wt b<wt x:=by
 unfold wt;have h1:2^cnt a≤2^(cnt x-1):=K2 (by omega) (by omega)
 have h2:2^cnt b≤2^(cnt x-1):=K2 (by omega) (by omega)
 have h3:2^cnt x=2^(cnt x-1)*2:=by rw[←Nat.pow_succ];congr 1;omega
 have:=Nat.one_le_two_pow (n:=cnt a)
 have:=Nat.one_le_two_pow (n:=cnt b)
 omega
def QAO(n:Int)(ds:List (Int×Int))(R D:List Int):Prop:=(∀x∈R,Ql n x=true)∧D.length+wtL R≤63∧∀z,(z∈D∨∃x∈R,z∈lvF n ds x)↔z∈lvF n ds (Qc7 n)
theorem Qr2{n:Int}{ds:List (Int×Int)}(h:1≤n∧n≤5):QAO n ds [Qc7 n] []:=by
 have ha:=Qik h
 refine⟨fun x hx=>by rw[KH]at hx;rw[hx];exact ha,?_,fun z=>by simp⟩
 have:=QAF (x:=Qc7 n) (Qq ha).2.2
 have h2:2^cnt (Qc7 n)≤2^5:=K2 (by omega) this
 simp only[wtL,wt,List.map_cons,List.map_nil,List.sum_cons,List.sum_nil,Yb]
 omega
theorem Qt8{n:Int}{ds:List (Int×Int)}{R D:List Int}{x:Int}(h:QAO n ds (R++[x]) D)(hb:brk n ds x 0=none):QAO n ds R (D++[x])∧wtL R<wtL (R++[x]):=by
 obtain⟨h1,h2,h3⟩:=h;have hp:=@QzQ x
 have e:wtL (R++[x])=wtL R+wt x:=by rw[Qpm];simp[wtL]
 rw[e]at h2 ⊢;refine⟨⟨fun y hy=>h1 y (by simp[hy]),by rw[KN];simp;omega,fun z=>?_⟩,by omega⟩
 rw[←h3 z];constructor
 ·rintro(hz|⟨y,hy,hz⟩)
  ·rcases KG.1 hz with hz|hz
   ·exact .inl hz
   ·exact .inr ⟨x,by simp,by rw[QlJ hb];exact hz⟩
  ·exact .inr ⟨y,by simp[hy],hz⟩
 ·rintro(hz|⟨y,hy,hz⟩)
  ·exact .inl (by simp[hz])
  ·rcases KG.1 hy with hy|hy
   ·exact .inr ⟨y,hy,hz⟩
   ·rw[KH]at hy
    subst hy;rw[QlJ hb]at hz;exact .inl (by simp at hz;simp[hz])
theorem Qr1{n:Int}{ds:List (Int×Int)}{R D:List Int}{x:Int}{d:Int×Int}(h:QAO n ds (R++[x]) D)(hb:brk n ds x 0=some d):QAO n ds (R++[sc1 ds x d,sc2 ds x d]) D∧wtL (R++[sc1 ds x d,sc2 ds x d])<wtL (R++[x]):=by
 obtain⟨h1,h2,h3⟩:=h;obtain⟨⟨p0,p1,p2⟩,q0,q1,q2⟩:=QdP hb;obtain⟨a1,a2⟩:=QvO hb;have hx:=(Qq (h1 x (by simp))).2.2
 have hw:=QEz (Qzf hx ⟨p0,by omega⟩ p2 p1) (Qzf hx ⟨q0,by omega⟩ q2 q1)
 have e:wtL (R++[x])=wtL R+wt x:=by rw[Qpm];simp[wtL]
 have e2:wtL (R++[sc1 ds x d,sc2 ds x d])=wtL R+(wt (sc1 ds x d)+wt (sc2 ds x d)):=by rw[Qpm];simp[wtL]
 rw[e]at h2 ⊢;rw[e2];refine⟨⟨fun y hy=>?_,by rw[e2];omega,fun z=>?_⟩,by omega⟩
 ·rcases KG.1 hy with hy|hy
  ·exact h1 y (by simp[hy])
  ·simp only[KI,YK,or_false]at hy
   rcases hy with rfl|rfl
   ·exact a1
   ·exact a2
 ·rw[←h3 z]
  have es:=QqG hb
  constructor
  ·rintro(hz|⟨y,hy,hz⟩)
   ·exact .inl hz
   ·rcases KG.1 hy with hy|hy
    ·exact .inr ⟨y,by simp[hy],hz⟩
    ·refine .inr ⟨x,by simp,?_⟩
     rw[es,KG];simp only[KI,YK,or_false]at hy
     rcases hy with rfl|rfl
     ·exact .inl hz
     ·exact .inr hz
  ·rintro(hz|⟨y,hy,hz⟩)
   ·exact .inl hz
   ·rcases KG.1 hy with hy|hy
    ·exact .inr ⟨y,by simp[hy],hz⟩
    ·rw[KH]at hy
     subst hy;rw[es,KG]at hz;rcases hz with hz|hz
     ·exact .inr ⟨_,by simp,hz⟩
     ·exact .inr ⟨_,by simp,hz⟩
theorem QxA{n:Int}{ds:List (Int×Int)}{D:List Int}(h:QAO n ds [] D):Qa2 D=Qa2 (lvF n ds (Qc7 n)):=by
 refine QbY QaA QaA fun z=>?_
 rw[Qan,Qan,←h.2.2 z];simp
theorem Qel{xs:List Int}{i:Nat}:(iL xs).take i=iL (xs.take i):=by simp[iL,List.map_take]
theorem Qqn{xs:List Int}{a b:Int}:iL xs++[[D.v (.int .i64 a)],[D.v (.int .i64 b)]]=iL (xs++[a,b]):=by simp[iL]
theorem QAP:Qa E0 177 Qy5:=by
 refine QG (E:=E0) (T:=mkT Tryz.prog [(163,QT),(209,QDa),(202,Qk7),(158,Qwn),(208,Qiv)] false (fun _=>false) true (fun d=>d==29)) (Qd (E:=E0) (.cons Qby (.cons QC7 (.cons QeH (.cons Qp9 (.cons QqI .nil)))))) (fn:=Tryz.f177) Tryz.func177 kR rfl Qc kR rfl ?_
 intro args p rs ms hr;unfold Qy5 at hr;dsimp only at hr;split at hr;rotate_left
 ·cases hr
 rename_i n l;cases hr;refine⟨rfl,rfl,nLe rfl,?_⟩
 have hm:=mxE;rintro⟨h1,hn1,hn2⟩ bs;obtain⟨ds,rfl,hx⟩:=h1.ex;clear h1;rw[Qh];cases hv:QJ n ds
 ·have e:QpX n ds=[]:=by unfold QpX;rw[hv];rfl
  rw[e];clear e;(repeat' first|refine gA fun _=>?_|apply fkI<;>intro hb<;>try simp only[ew,hv]at hb|simp only[go_sem,simprocAttr, *,hv])
  all_goals first|rfl|skip
 ·have e:QpX n ds=Qcs QaU (Qa2 (lvF n ds (Qc7 n))):=by unfold QpX;rw[hv];rfl
  rw[e];clear e;obtain⟨n1,n5,_⟩:=QfY hv;have hst:=@Qr2 n ds ⟨n1,n5⟩
  obtain⟨_,_,s0,s31⟩:=Qq (Qik ⟨n1,n5⟩);have hend:=@QxA n ds
  have hlf:=@Qt8 n ds
  have hsp:=@Qr1 n ds
  have hd:=QaE hv
  obtain⟨c,rfl⟩:=KL (show 0≤n by omega)
  have hA:Qc7 c=1*2^c-1:=by unfold Qc7;rw[KE]
  have hpw:=QBO (n:=(c:Int)) (by omega) n5
  rw[KE]at hpw;generalize hL:Qa2 (lvF (c:Int) ds (Qc7 c))=L at hend ⊢;generalize hA2:Qc7 (c:Int)=A at hA hst s0 s31;replace hA:=hA.symm;clear hL;(repeat' first|refine gA fun _=>?_|apply fkI<;>intro hb<;>try simp only[ew,Qi,hv,hA]at hb|simp only[go_sem,simprocAttr, *,Qi,hv])
  refine lpI {ι:=List Int×List Int,rs:=[(7,11),(20,63)],mods:=[(5,fun i=> .one (.own 1 (iL i.2) 1)),(6,fun i=> .one (.own 1 (iL i.1) 1))],boxes:=[],arrs:=[],ok:=fun i=>QAO c ds i.1 i.2,mu:=fun i=>wtL i.1} rfl ([A],[]) hst ?_ ?_
  ·clear hst hend hlf hsp
   (repeat' first|refine gA fun _=>?_|apply fkI<;>intro hb<;>try simp only[ew,hA]at hb|simp only[go_sem,simprocAttr, *])
   all_goals first|rfl|exact⟨rfl,rfl⟩|skip
  ·rintro⟨R,D⟩ hi
   dsimp only at hi;have w1:=@Qwk R
   have w2:=hi.2.1
   have w3:R.length≤63:=by omega
   have w4:D.length≤63:=by omega
   clear w1 w2 hst;rcases List.eq_nil_or_concat R with rfl|⟨S,x,rfl⟩
   ·have e1:=hend hi
    have e2:iL ([]:List Int)=[]:=rfl
    have e3:=@QaL D
    rw[e1]at e3;have e5:L.length≤maxLen:=KF e3 (KF w4 (by decide))
    clear hlf hsp hi;(repeat' first|refine gA fun _=>?_|apply fkI<;>intro hb<;>try simp only[ew,e1,e2]at hb|simp only[go_sem,simprocAttr, *])
    all_goals first|rfl|skip
   ·rw[List.concat_eq_append]at *
    have hx:=hi.1 x (by simp)
    obtain⟨_,_,x0,x31⟩:=Qq hx;have eG:(S++[x]).getD S.length 0=x:=by simp[KD]
    have eT:(S++[x]).take S.length=S:=by simp
    have eL:(S++[x]).length=S.length+1:=by simp
    generalize hR:S++[x]=R at *;have eN:((R.length:Int)-1).toNat=S.length:=by omega
    have hSl:S.length<R.length:=by omega
    have hR0:0<R.length:=by omega
    have hgt:decide ((R.length:Int)>0)=true:=KZ (by omega)
    clear eL;cases hb:brk c ds x 0 with
    | none=>
     have e1:(brk c ds x 0).isSome=false:=by rw[hb];rfl
     have hq:=@hlf S D x (by rw[hR];exact hi) hb
     rw[hR]at hq;clear hlf hsp hend hi hb;(repeat' first|refine gA fun _=>?_|apply fkI<;>intro hb<;>try simp only[ew,hv,hx,hgt,eN,eG,eT,e1,Qel,Qo]at hb|simp only[go_sem,simprocAttr, *,hv,Qel,Qo])
     refine lpN (S,D++[x]) hq.1 hq.2 ?_
     clear hq;(repeat' first|refine gA fun _=>?_|apply fkI<;>intro hb<;>try simp only[ew,eT,Qel,Qo]at hb|simp only[go_sem,simprocAttr, *,Qel,Qo])
    | some d=>
     have e1:(brk c ds x 0).isSome=true:=by rw[hb];rfl
     have e4:QzB (brk c ds x 0)=d:=by rw[hb];rfl
     obtain⟨_,⟨⟨d0,d31⟩,r0,r4⟩,_⟩:=QfM hb;have hq:=@hsp S D x d (by rw[hR];exact hi) hb
     rw[hR]at hq;have eA:QV .and .i64 x (clo ds d.1)=sc1 ds x d:=rfl
     have eB:QV .or .i64 d.1 (QV .andNot .i64 x (clo ds d.1))=sc2 ds x d:=rfl
     clear hlf hsp hend hi hb;(repeat' first|refine gA fun _=>?_|apply fkI<;>intro hb<;>try simp only[ew,Qi,hv,hx,hgt,eN,eG,eT,e1,e4,eA,eB,Qel,Qqn]at hb|simp only[go_sem,simprocAttr, *,Qi,hv,Qel,Qqn])
     refine lpN (S++[sc1 ds x d,sc2 ds x d],D) hq.1 hq.2 ?_
     clear hq;(repeat' first|refine gA fun _=>?_|apply fkI<;>intro hb<;>try simp only[ew,eT,Qel,Qqn,eA,eB]at hb|simp only[go_sem,simprocAttr, *,Qel,Qqn])
theorem Qlj{n:Int}{ds:List (Int×Int)}:(QpX n ds).length≤100:=by
 unfold QpX;split
 ·exact QdQ
 ·simp
end Go.Own
