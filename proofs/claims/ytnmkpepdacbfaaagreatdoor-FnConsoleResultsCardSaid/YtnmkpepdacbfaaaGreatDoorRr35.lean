/- Own contracts. Conditions: as each theorem states them. -/
import Derived.Test.YtnmkpepdacbfaaaGreatDoorRr34
set_option linter.unusedSimpArgs false
set_option linter.unusedVariables false
set_option maxRecDepth 20000
set_option maxHeartbeats 2000000
namespace Go.Own
open Go Go.Proofs
attribute [local go_sem] QvL Qqf Tryz.results179 Qap Qfe Qly Tryz.results133 QzF Qs2 Tryz.results177
attribute [local go_sem] Qm Qc QZ Q1 Q0 Q3 QaH Qdb Qr QaG
def sc1(ds:List (Int×Int))(set:Int)(d:Int×Int):Int:=Qax .and .i64 set (clo ds d.1)
def sc2(ds:List (Int×Int))(set:Int)(d:Int×Int):Int:=Qax .or .i64 d.1 (Qax .andNot .i64 set (clo ds d.1))
theorem Qou:∀s z:Fin 32,0≤Qax .and .i64 ((s.val:Nat):Int) ((z.val:Nat):Int)∧Qax .and .i64 ((s.val:Nat):Int) ((z.val:Nat):Int)≤((s.val:Nat):Int)∧(Qal ((s.val:Nat):Int) ((z.val:Nat):Int)=false→Qax .and .i64 ((s.val:Nat):Int) ((z.val:Nat):Int)<((s.val:Nat):Int))∧Qal (Qax .and .i64 ((s.val:Nat):Int) ((z.val:Nat):Int)) ((s.val:Nat):Int)=true:=by decide+kernel
theorem QoF:∀x y:Fin 32,Qal ((y.val:Nat):Int) ((x.val:Nat):Int)=true→y≠x→cnt ((y.val:Nat):Int)<cnt ((x.val:Nat):Int):=by decide+kernel
theorem QoE:∀x:Fin 32,cnt ((x.val:Nat):Int)≤5:=by decide+kernel
theorem Qxi{x:Int}(hx:R5 x):cnt x≤5:=by
 obtain⟨x,rfl⟩:=hx.fin;exact QoE x
theorem QvS{x y:Int}(hx:R5 x)(hy:R5 y)(h:Qal y x=true)(hne:y<x):cnt y<cnt x:=by
 obtain⟨x,rfl⟩:=hx.fin;obtain⟨y,rfl⟩:=hy.fin;exact QoF x y h fun e=>by rw[e]at hne;omega
theorem Qfb:∀s z:Fin 32,(0≤Qax .andNot .i64 ((s.val:Nat):Int) ((z.val:Nat):Int)∧Qax .andNot .i64 ((s.val:Nat):Int) ((z.val:Nat):Int)≤31)∧∀c:Fin 5,Qy (Qax .andNot .i64 ((s.val:Nat):Int) ((z.val:Nat):Int)) ((c.val:Nat):Int)=(Qy ((s.val:Nat):Int) ((c.val:Nat):Int)&& !Qy ((z.val:Nat):Int) ((c.val:Nat):Int)):=by decide+kernel
theorem QiJ:∀x y:Fin 32,∀c:Fin 5,Qy (Qax .or .i64 ((x.val:Nat):Int) ((y.val:Nat):Int)) ((c.val:Nat):Int)=(Qy ((x.val:Nat):Int) ((c.val:Nat):Int)||Qy ((y.val:Nat):Int) ((c.val:Nat):Int)):=by decide+kernel
theorem Qto{x y:Int}(hx:R5 x)(hy:R5 y):R5 (Qax .andNot .i64 x y):=by
 obtain⟨x,rfl⟩:=hx.fin;obtain⟨y,rfl⟩:=hy.fin;exact(Qfb x y).1
theorem QgN{n:Int}{ds:List (Int×Int)}{set:Int}{d:Int×Int}(h:brk n ds set 0=some d):(Q5 n ds=true∧Qj n set=true)∧Qbo d∧Qal set (clo ds d.1)=false∧Qal d.1 set=true∧Qy set d.2=true∧Qy (clo ds d.1) d.2=true∧Qy d.1 d.2=false:=by
 unfold brk at h;have h1:=List.find?_some h
 have h2:=List.mem_of_find?_eq_some h
 have hR:=(@QkS n ds set).2.1 d h2
 unfold pdL at h2;split at h2
 ·rename_i hv
  rw[Bool.and_eq_true]at hv;unfold QaJ at h2;obtain⟨_,_,m3,m4⟩:=QjB h2;unfold pjB at m4;simp only[Bool.and_eq_true]at m4
  unfold brB at h1;simp only[Bool.and_eq_true,Bool.not_eq_true']at h1
  exact⟨hv,hR,h1.1,m4.1.1,m4.1.2,m4.2,m3⟩
 ·cases h2
theorem Qe4{n:Int}{ds:List (Int×Int)}{set:Int}{d:Int×Int}(h:brk n ds set 0=some d):(0≤sc1 ds set d∧sc1 ds set d<set∧Qal (sc1 ds set d) set=true)∧0≤sc2 ds set d∧sc2 ds set d<set∧Qal (sc2 ds set d) set=true:=by
 obtain⟨⟨v1,v2⟩,hR,b1,b2,b3,b4,b5⟩:=QgN h;have hd:=Qbg v1
 obtain⟨_,_,s0,s31⟩:=Qt v2;have hs:R5 set:=⟨s0,s31⟩
 have hz:=Qxe hd hR.1
 unfold sc1 sc2;have hl:=hR.1
 have hr:=hR.2
 generalize clo ds d.1=z at hz b1 b4;constructor
 ·obtain⟨x,rfl⟩:=hs.fin;obtain⟨y,rfl⟩:=hz.fin
  obtain⟨k1,k2,k3,k4⟩:=Qou x y;exact⟨k1,k3 b1,k4⟩
 ·have hN:=Qto hs hz
  have hO:=QCA hl hN
  have hsub:leB (Qax .or .i64 d.1 (Qax .andNot .i64 set z)) set:=by
   intro c hc;have hl2:=(Q8 hl hs).1 b2 c
   obtain⟨x,hx⟩:=hs.fin;obtain⟨y,hy⟩:=hz.fin;obtain⟨w,hw⟩:=hl.fin;obtain⟨q,hq⟩:=hN.fin;have e1:=QiJ w q c
   rw[←hw,←hq]at e1;have e2:=(Qfb x y).2 c
   rw[←hx,←hy]at e2;rw[e1,e2]at hc;simp only[Bool.or_eq_true,Bool.and_eq_true]at hc
   rcases hc with hc|hc
   ·exact hl2 hc
   ·exact hc.1
  have hne:Qax .or .i64 d.1 (Qax .andNot .i64 set z)≠set:=by
   intro e;obtain⟨x,hx⟩:=hs.fin;obtain⟨y,hy⟩:=hz.fin;obtain⟨w,hw⟩:=hl.fin;obtain⟨q,hq⟩:=hN.fin;obtain⟨c,hc⟩:=c5 hr;have e1:=QiJ w q c
   rw[←hw,←hq,←hc]at e1;have e2:=(Qfb x y).2 c
   rw[←hx,←hy,←hc]at e2;rw[e,b3,b5,e2,b4]at e1;simp at e1
  have h2:=(Q8 hO hs).2 hsub
  have:=Qrr hO hs h2
  exact⟨hO.1,by omega,h2⟩
theorem QyC{n:Int}{ds:List (Int×Int)}{set:Int}{d:Int×Int}(h:brk n ds set 0=some d):Qj n (sc1 ds set d)=true∧Qj n (sc2 ds set d)=true:=by
 obtain⟨h1,h2⟩:=Qe4 h;have hv:=(QgN h).1.2
 simp only[Qj,Bool.and_eq_true,Qh]at hv ⊢
 have h1':=h1.2.1
 have h2':=h2.2.1
 exact⟨⟨hv.1,h1.1,by omega⟩,hv.1,h2.1,by omega⟩
def lvs(n:Int)(ds:List (Int×Int)):Nat→Int→List Int
 | 0,set=>[set]
 | f+1,set=>match brk n ds set 0 with
  | none=>[set]
  | some d=>lvs n ds f (sc1 ds set d)++lvs n ds f (sc2 ds set d)
def lvF(n:Int)(ds:List (Int×Int))(set:Int):List Int:=lvs n ds set.toNat set
theorem QmN{n:Int}{ds:List (Int×Int)}{set:Int}(h:set≤0):brk n ds set 0=none:=by
 cases hb:brk n ds set 0 with
 | none=>rfl
 | some d=>
  have:=(Qe4 hb).1
  omega
theorem QeT{n:Int}{ds:List (Int×Int)}:∀{f g:Nat} {set:Int},set.toNat≤f→set.toNat≤g→lvs n ds f set=lvs n ds g set
 | 0,0,set,_,_=>rfl
 | 0,g+1,set,h,_=>by rw[lvs,lvs,QmN (by omega)]
 | f+1,0,set,_,h=>by rw[lvs,lvs,QmN (by omega)]
 | f+1,g+1,set,h1,h2=>by
  rw[lvs,lvs];cases hb:brk n ds set 0 with
  | none=>rfl
  | some d=>
   have:=Qe4 hb
   dsimp only;rw[QeT (f:=f) (g:=g) (by omega) (by omega),QeT (f:=f) (g:=g) (set:=sc2 ds set d) (by omega) (by omega)]
theorem QnA{n:Int}{ds:List (Int×Int)}{set:Int}(h:brk n ds set 0=none):lvF n ds set=[set]:=by
 unfold lvF;cases set.toNat with
 | zero=>rfl
 | succ f=>rw[lvs,h]
theorem QuP{n:Int}{ds:List (Int×Int)}{set:Int}{d:Int×Int}(h:brk n ds set 0=some d):lvF n ds set=lvF n ds (sc1 ds set d)++lvF n ds (sc2 ds set d):=by
 have:=Qe4 h
 unfold lvF;rw[QeT (f:=set.toNat) (g:=set.toNat+1) (by omega) (by omega),lvs,h]
 dsimp only;rw[QeT (f:=set.toNat) (g:=(sc1 ds set d).toNat) (by omega) (by omega),QeT (f:=set.toNat) (g:=(sc2 ds set d).toNat) (by omega) (by omega)]
def Qub(n:Int)(ds:List (Int×Int)):List Int:=if Q5 n ds then QdG Qc9 (Qdq (lvF n ds (Qd5 n)))else []
def QzG:Qb:=⟨[],false,fun
 | [.one (.v (.int .i64 n)),.one (.sl 2 l)]=>some (WfD l∧ -9223372036854775808≤n∧n≤9223372036854775807,[⟨false,[.own 1 (iL (Qub n (unD l))) 1]⟩],[])
 | _=>none⟩
attribute [local go_sem] QzG
theorem Qj9{n:Int}(h:1≤n∧n≤5):Qj n (Qd5 n)=true:=by
 obtain⟨c,rfl⟩:=Int.eq_ofNat_of_zero_le (show 0≤n by omega)
 have:∀c:Fin 6,Qj ((c.val:Nat):Int) (Qd5 ((c.val:Nat):Int))=true:=by decide+kernel
 exact this ⟨c,by omega⟩
def wt(x:Int):Nat:=2*2^cnt x-1
def wtL(R:List Int):Nat:=(R.map wt).sum
theorem Qwv{x:Int}:1≤wt x:=by
 unfold wt;have:=Nat.one_le_two_pow (n:=cnt x)
 omega
theorem QsZ:∀{R:List Int},R.length≤wtL R
 | []=>Nat.le_refl _
 | x::R=>by
  have h1:=@QsZ R
  have h2:=@Qwv x
  unfold wtL at *;rw[List.map_cons,List.sum_cons,List.length_cons];omega
theorem QmA{R S:List Int}:wtL (R++S)=wtL R+wtL S:=by
 unfold wtL;rw[List.map_append,List.sum_append]
theorem QA8{x a b:Int}(ha:cnt a<cnt x)(hb:cnt b<cnt x):wt a+wt b<wt x:=by
 unfold wt;have h1:2^cnt a≤2^(cnt x-1):=Nat.pow_le_pow_right (by omega) (by omega)
 have h2:2^cnt b≤2^(cnt x-1):=Nat.pow_le_pow_right (by omega) (by omega)
 have h3:2^cnt x=2^(cnt x-1)*2:=by rw[←Nat.pow_succ];congr 1;omega
 have:=Nat.one_le_two_pow (n:=cnt a)
 have:=Nat.one_le_two_pow (n:=cnt b)
 omega
def Qxo(n:Int)(ds:List (Int×Int))(R D:List Int):Prop:=(∀x∈R,Qj n x=true)∧D.length+wtL R≤63∧∀z,(z∈D∨∃x∈R,z∈lvF n ds x)↔z∈lvF n ds (Qd5 n)
theorem QoK{n:Int}{ds:List (Int×Int)}(h:1≤n∧n≤5):Qxo n ds [Qd5 n] []:=by
 have ha:=Qj9 h
 refine⟨fun x hx=>by rw[List.mem_singleton]at hx;rw[hx];exact ha,?_,fun z=>by simp⟩
 have:=Qxi (x:=Qd5 n) (Qt ha).2.2
 have h2:2^cnt (Qd5 n)≤2^5:=Nat.pow_le_pow_right (by omega) this
 simp only[wtL,wt,List.map_cons,List.map_nil,List.sum_cons,List.sum_nil,List.length_nil]
 omega
theorem QqN{n:Int}{ds:List (Int×Int)}{R D:List Int}{x:Int}(h:Qxo n ds (R++[x]) D)(hb:brk n ds x 0=none):Qxo n ds R (D++[x])∧wtL R<wtL (R++[x]):=by
 obtain⟨h1,h2,h3⟩:=h;have hp:=@Qwv x
 have e:wtL (R++[x])=wtL R+wt x:=by rw[QmA];simp[wtL]
 rw[e]at h2 ⊢;refine⟨⟨fun y hy=>h1 y (by simp[hy]),by rw[List.length_append];simp;omega,fun z=>?_⟩,by omega⟩
 rw[←h3 z];constructor
 ·rintro(hz|⟨y,hy,hz⟩)
  ·rcases List.mem_append.1 hz with hz|hz
   ·exact .inl hz
   ·exact .inr ⟨x,by simp,by rw[QnA hb];exact hz⟩
  ·exact .inr ⟨y,by simp[hy],hz⟩
 ·rintro(hz|⟨y,hy,hz⟩)
  ·exact .inl (by simp[hz])
  ·rcases List.mem_append.1 hy with hy|hy
   ·exact .inr ⟨y,hy,hz⟩
   ·rw[List.mem_singleton]at hy
    subst hy;rw[QnA hb]at hz;exact .inl (by simp at hz;simp[hz])
theorem QoJ{n:Int}{ds:List (Int×Int)}{R D:List Int}{x:Int}{d:Int×Int}(h:Qxo n ds (R++[x]) D)(hb:brk n ds x 0=some d):Qxo n ds (R++[sc1 ds x d,sc2 ds x d]) D∧wtL (R++[sc1 ds x d,sc2 ds x d])<wtL (R++[x]):=by
 obtain⟨h1,h2,h3⟩:=h;obtain⟨⟨p0,p1,p2⟩,q0,q1,q2⟩:=Qe4 hb;obtain⟨a1,a2⟩:=QyC hb;have hx:=(Qt (h1 x (by simp))).2.2
 have hw:=QA8 (QvS hx ⟨p0,by omega⟩ p2 p1) (QvS hx ⟨q0,by omega⟩ q2 q1)
 have e:wtL (R++[x])=wtL R+wt x:=by rw[QmA];simp[wtL]
 have e2:wtL (R++[sc1 ds x d,sc2 ds x d])=wtL R+(wt (sc1 ds x d)+wt (sc2 ds x d)):=by rw[QmA];simp[wtL]
 rw[e]at h2 ⊢;rw[e2];refine⟨⟨fun y hy=>?_,by rw[e2];omega,fun z=>?_⟩,by omega⟩
 ·rcases List.mem_append.1 hy with hy|hy
  ·exact h1 y (by simp[hy])
  ·simp only[List.mem_cons,List.not_mem_nil,or_false]at hy
   rcases hy with rfl|rfl
   ·exact a1
   ·exact a2
 ·rw[←h3 z]
  have es:=QuP hb
  constructor
  ·rintro(hz|⟨y,hy,hz⟩)
   ·exact .inl hz
   ·rcases List.mem_append.1 hy with hy|hy
    ·exact .inr ⟨y,by simp[hy],hz⟩
    ·refine .inr ⟨x,by simp,?_⟩
     rw[es,List.mem_append];simp only[List.mem_cons,List.not_mem_nil,or_false]at hy
     rcases hy with rfl|rfl
     ·exact .inl hz
     ·exact .inr hz
  ·rintro(hz|⟨y,hy,hz⟩)
   ·exact .inl hz
   ·rcases List.mem_append.1 hy with hy|hy
    ·exact .inr ⟨y,by simp[hy],hz⟩
    ·rw[List.mem_singleton]at hy
     subst hy;rw[es,List.mem_append]at hz;rcases hz with hz|hz
     ·exact .inr ⟨_,by simp,hz⟩
     ·exact .inr ⟨_,by simp,hz⟩
theorem Quc{n:Int}{ds:List (Int×Int)}{D:List Int}(h:Qxo n ds [] D):Qdq D=Qdq (lvF n ds (Qd5 n)):=by
 refine QcL Qa3 Qa3 fun z=>?_
 rw[Qbh,Qbh,←h.2.2 z];simp
theorem Qds{xs:List Int}{i:Nat}:(iL xs).take i=iL (xs.take i):=by simp[iL,List.map_take]
theorem Qnl{xs:List Int}{a b:Int}:iL xs++[[D.v (.int .i64 a)],[D.v (.int .i64 b)]]=iL (xs++[a,b]):=by simp[iL]
theorem Qxp:Qa E0 177 QzG:=by
 refine QV (E:=E0) (T:=mkT Tryz.prog [(163,Qap),(209,QzF),(202,Qqf),(158,Qs2),(208,Qly)] false (fun _=>false) true (fun d=>d==29)) (Qf (E:=E0) (.cons Qa2 (.cons QzD (.cons QdO (.cons Qm9 (.cons QnC .nil)))))) (fn:=Tryz.f177) Tryz.func177 (by kernel_rfl) rfl Qe (by kernel_rfl) rfl ?_
 intro args p rs ms hr;unfold QzG at hr;dsimp only at hr;split at hr;rotate_left
 ·cases hr
 rename_i n l;cases hr;refine⟨rfl,rfl,nLe rfl,?_⟩
 have hm:=mxE;rintro⟨h1,hn1,hn2⟩ bs;obtain⟨ds,rfl,hx⟩:=h1.ex;clear h1;rw[Qm];cases hv:Q5 n ds
 ·have e:Qub n ds=[]:=by unfold Qub;rw[hv];rfl
  rw[e];clear e;(repeat' first|refine gA fun _=>?_|apply fkI<;>intro hb<;>try simp only[ew,hv]at hb|simp only[go_sem,simprocAttr, *,hv])
  all_goals first|rfl|skip
 ·have e:Qub n ds=QdG Qc9 (Qdq (lvF n ds (Qd5 n))):=by unfold Qub;rw[hv];rfl
  rw[e];clear e;obtain⟨n1,n5,_⟩:=Qiq hv;have hst:=@QoK n ds ⟨n1,n5⟩
  obtain⟨_,_,s0,s31⟩:=Qt (Qj9 ⟨n1,n5⟩);have hend:=@Quc n ds
  have hlf:=@QqN n ds
  have hsp:=@QoJ n ds
  have hd:=Qbg hv
  obtain⟨c,rfl⟩:=Int.eq_ofNat_of_zero_le (show 0≤n by omega)
  have hA:Qd5 c=1*2^c-1:=by unfold Qd5;rw[Int.toNat_natCast]
  have hpw:=Qyj (n:=(c:Int)) (by omega) n5
  rw[Int.toNat_natCast]at hpw;generalize hL:Qdq (lvF (c:Int) ds (Qd5 c))=L at hend ⊢;generalize hA2:Qd5 (c:Int)=A at hA hst s0 s31;replace hA:=hA.symm;clear hL;(repeat' first|refine gA fun _=>?_|apply fkI<;>intro hb<;>try simp only[ew,Qq,hv,hA]at hb|simp only[go_sem,simprocAttr, *,Qq,hv])
  refine lpI {ι:=List Int×List Int,rs:=[(7,11),(20,63)],mods:=[(5,fun i=> .one (.own 1 (iL i.2) 1)),(6,fun i=> .one (.own 1 (iL i.1) 1))],boxes:=[],arrs:=[],ok:=fun i=>Qxo c ds i.1 i.2,mu:=fun i=>wtL i.1} rfl ([A],[]) hst ?_ ?_
  ·clear hst hend hlf hsp
   (repeat' first|refine gA fun _=>?_|apply fkI<;>intro hb<;>try simp only[ew,hA]at hb|simp only[go_sem,simprocAttr, *])
   all_goals first|rfl|exact⟨rfl,rfl⟩|skip
  ·rintro⟨R,D⟩ hi
   dsimp only at hi;have w1:=@QsZ R
   have w2:=hi.2.1
   have w3:R.length≤63:=by omega
   have w4:D.length≤63:=by omega
   clear w1 w2 hst;rcases List.eq_nil_or_concat R with rfl|⟨S,x,rfl⟩
   ·have e1:=hend hi
    have e2:iL ([]:List Int)=[]:=rfl
    have e3:=@Qbu D
    rw[e1]at e3;have e5:L.length≤maxLen:=Nat.le_trans e3 (Nat.le_trans w4 (by decide))
    clear hlf hsp hi;(repeat' first|refine gA fun _=>?_|apply fkI<;>intro hb<;>try simp only[ew,e1,e2]at hb|simp only[go_sem,simprocAttr, *])
    all_goals first|rfl|skip
   ·rw[List.concat_eq_append]at *
    have hx:=hi.1 x (by simp)
    obtain⟨_,_,x0,x31⟩:=Qt hx;have eG:(S++[x]).getD S.length 0=x:=by simp[List.getD_eq_getElem?_getD]
    have eT:(S++[x]).take S.length=S:=by simp
    have eL:(S++[x]).length=S.length+1:=by simp
    generalize hR:S++[x]=R at *;have eN:((R.length:Int)-1).toNat=S.length:=by omega
    have hSl:S.length<R.length:=by omega
    have hR0:0<R.length:=by omega
    have hgt:decide ((R.length:Int)>0)=true:=decide_eq_true (by omega)
    clear eL;cases hb:brk c ds x 0 with
    | none=>
     have e1:(brk c ds x 0).isSome=false:=by rw[hb];rfl
     have hq:=@hlf S D x (by rw[hR];exact hi) hb
     rw[hR]at hq;clear hlf hsp hend hi hb;(repeat' first|refine gA fun _=>?_|apply fkI<;>intro hb<;>try simp only[ew,hv,hx,hgt,eN,eG,eT,e1,Qds,Ql]at hb|simp only[go_sem,simprocAttr, *,hv,Qds,Ql])
     refine lpN (S,D++[x]) hq.1 hq.2 ?_
     clear hq;(repeat' first|refine gA fun _=>?_|apply fkI<;>intro hb<;>try simp only[ew,eT,Qds,Ql]at hb|simp only[go_sem,simprocAttr, *,Qds,Ql])
    | some d=>
     have e1:(brk c ds x 0).isSome=true:=by rw[hb];rfl
     have e4:QBj (brk c ds x 0)=d:=by rw[hb];rfl
     obtain⟨_,⟨⟨d0,d31⟩,r0,r4⟩,_⟩:=QgN hb;have hq:=@hsp S D x d (by rw[hR];exact hi) hb
     rw[hR]at hq;have eA:Qax .and .i64 x (clo ds d.1)=sc1 ds x d:=rfl
     have eB:Qax .or .i64 d.1 (Qax .andNot .i64 x (clo ds d.1))=sc2 ds x d:=rfl
     clear hlf hsp hend hi hb;(repeat' first|refine gA fun _=>?_|apply fkI<;>intro hb<;>try simp only[ew,Qq,hv,hx,hgt,eN,eG,eT,e1,e4,eA,eB,Qds,Qnl]at hb|simp only[go_sem,simprocAttr, *,Qq,hv,Qds,Qnl])
     refine lpN (S++[sc1 ds x d,sc2 ds x d],D) hq.1 hq.2 ?_
     clear hq;(repeat' first|refine gA fun _=>?_|apply fkI<;>intro hb<;>try simp only[ew,eT,Qds,Qnl,eA,eB]at hb|simp only[go_sem,simprocAttr, *,Qds,Qnl])
theorem Qm2{n:Int}{ds:List (Int×Int)}:(Qub n ds).length≤100:=by
 unfold Qub;split
 ·exact Qc0
 ·simp
end Go.Own
