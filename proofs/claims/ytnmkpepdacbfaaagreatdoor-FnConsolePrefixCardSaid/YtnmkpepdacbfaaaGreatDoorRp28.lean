/- Contracts. Conditions: as stated. -/
import Derived.Test.YtnmkpepdacbfaaaGreatDoorRp27
set_option linter.all false
set_option maxRecDepth 20000
set_option maxHeartbeats 2000000
namespace Go.Own
open Go
section
open Go.Proofs
def Qg0(p:Int→Int→Bool)(n:Nat)(r:Int):Prop:=∀x∈Q8 (n:Nat),∀y∈Q8 (n:Nat),Qab x y=true→p x r=true→p y r=true
def Qsl(p:Int→Int→Bool)(n:Nat)(r x:Int):Prop:=x∈Q8 (n:Nat)∧Qu x r=false∧p x r=true∧∀y∈Q8 (n:Nat),Qab y x=true→p y r=true→y=x
theorem Qdp{n x:Int}(h:x∈Q8 n):R5 x:=(@QH n).2.1 x h
theorem Qo2{p:Int→Int→Bool}{n:Nat}{r x:Int}(hn:1≤n∧n≤5)(hr:0≤r∧r≤4)(mono:Qg0 p n r):(x∈Q8 (n:Nat)∧Qnj p n r x=true)↔Qsl p n r x:=by
 unfold Qnj;simp only[KB,Ko,QeP]
 constructor
 ·rintro⟨h1,⟨h2,h3⟩,h4⟩
  refine⟨h1,h2,h3,fun y hy hi hp=>?_⟩
  obtain⟨x',rfl⟩:=(Qdp h1).fin;obtain⟨y',rfl⟩:=(Qdp hy).fin
  by_cases e:y'=x'
  ·rw[e]
  ·obtain⟨i,hi1,hi2⟩:=QiM x' y' hi e
   have hx31:=(Qq ((Qcj (by omega)).1 h1))
   have hlt:i.val<n:=by
    have hA:=(Qcj (by omega)).1 h1
    simp only[Ql,KB,Qj,Qc7,KE]at hA
    refine Qtq ⟨n,by omega⟩ x' i ?_ hi1
    have e2:((2^n:Nat):Int)=(2:Int)^n:=by simp
    have h5:=hA.2.2
    dsimp only;omega
   have hmem:Qdv ((x'.val:Nat):Int) ((i.val:Nat):Int)∈Q8 (n:Nat):=by
    have:=(Qg6 ⟨n,by omega⟩).2.2 ((x'.val:Nat):Int) (by rw[←QaW (by omega)];exact h1) i
    rw[QaW (by omega)];exact this
   have:=mono _ hy _ hmem hi2 hp
   rw[h4 i.val hlt hi1]at this;cases this
 ·rintro⟨h1,h2,h3,h4⟩
  refine⟨h1,⟨h2,h3⟩,fun i hi hb=>?_⟩
  obtain⟨x',rfl⟩:=(Qdp h1).fin;have hmem:Qdv ((x'.val:Nat):Int) ((i:Nat):Int)∈Q8 (n:Nat):=by
   have:=(Qg6 ⟨n,by omega⟩).2.2 ((x'.val:Nat):Int) (by rw[←QaW (by omega)];exact h1) ⟨i,by omega⟩
   rw[QaW (by omega)];exact this
  have hd:=Qll x' ⟨i,by omega⟩
  cases hp:p (Qdv ((x'.val:Nat):Int) (i:Nat)) r with
  | false=>rfl
  | true=>
   have:=h4 _ hmem hd.1 hp
   have h5:=hd.2 hb
   dsimp only at h5;omega
theorem QqK{p:Int→Int→Bool}{n:Nat}{r:Int}{d:Int×Int}(hn:1≤n∧n≤5)(hr:0≤r∧r≤4)(mono:Qg0 p n r):d∈Qss p n r↔d.2=r∧Qsl p n r d.1:=by
 rw[QlQ hn.2 hr mono,KQ];constructor
 ·rintro⟨x,hx,rfl⟩
  rw[Ku]at hx;exact⟨rfl,(Qo2 hn hr mono).1 hx⟩
 ·rintro⟨rfl,h⟩
  exact⟨d.1,Ku.2 ((Qo2 hn hr mono).2 h),rfl⟩
theorem QlR{p:Int→Int→Bool}{n:Nat}{d:Int×Int}(hn:1≤n∧n≤5)(mono:∀r:Int,0≤r∧r≤4→Qg0 p n r):∀{k:Nat},k≤n→(d∈QbJ p n k↔(0≤d.2∧d.2<k)∧Qsl p n d.2 d.1)
 | 0,_=>by simp only[QbJ,YK,false_iff];rintro⟨h,_⟩;omega
 | k+1,hk=>by
  rw[QbJ,KG,@QlR p n d hn mono k (by omega),QqK hn ⟨by omega,by omega⟩ (mono _ ⟨by omega,by omega⟩)]
  constructor
  ·rintro(⟨h1,h2⟩|⟨h1,h2⟩)
   ·exact⟨by omega,h2⟩
   ·rw[h1];exact⟨by omega,h2⟩
  ·rintro⟨h1,h2⟩
   by_cases e:d.2=(k:Nat)
   ·right;rw[←e];exact⟨rfl,h2⟩
   ·left;exact⟨by omega,h2⟩
theorem Qf8{p:Int→Int→Bool}{n:Nat}{d:Int×Int}(hn:1≤n∧n≤5)(mono:∀r:Int,0≤r∧r≤4→Qg0 p n r):d∈Qa0 p n↔(0≤d.2∧d.2<n)∧Qsl p n d.2 d.1:=by
 unfold Qa0;rw[KE];exact QlR hn mono (KP _)
theorem Qje{p:Int→Int→Bool}{n:Nat}(hn:1≤n∧n≤5)(mono:∀r:Int,0≤r∧r≤4→Qg0 p n r):∀{k:Nat},k≤n→(QbJ p n k).Pairwise fun d e=>QjS d<QjS e
 | 0,_=> .nil
 | k+1,hk=>by
  rw[QbJ,List.pairwise_append];have hk4:(0:Int)≤(k:Nat)∧((k:Nat):Int)≤4:=⟨by omega,by omega⟩
  refine⟨@Qje p n hn mono k (by omega),?_,fun d hd e he=>?_⟩
  ·rw[QlQ hn.2 hk4 (mono _ hk4),List.pairwise_map]
   refine((QkK (n:=(n:Nat)) (by omega)).filter _).imp fun {x y} h=>?_
   rw[Qen hk4,Qen hk4];omega
  ·rw[QlR hn mono (by omega)]at hd
   rw[QqK hn hk4 (mono _ hk4)]at he;obtain⟨d1,d2⟩:=d;obtain⟨e1,e2⟩:=e;obtain⟨rfl,he⟩:=he;obtain⟨hd1,hd⟩:=hd;dsimp only at *;rw[Qen (by omega),Qen hk4]
   have:=Qfr (toF d1)
   have:d2.toNat<k:=by omega
   rw[KE];omega
theorem Qnm{p:Int→Int→Bool}{n:Nat}(hn:1≤n∧n≤5)(mono:∀r:Int,0≤r∧r≤4→Qg0 p n r):(Qa0 p n).Pairwise fun d e=>QjS d<QjS e:=by
 unfold Qa0;rw[KE];exact Qje hn mono (KP _)
theorem Qnl{p q:Int→Int→Bool}{n:Nat}(h:∀r:Int,0≤r∧r<n→∀x∈Q8 (n:Nat),p x r=q x r):Qa0 p n=Qa0 q n:=by
 have key:∀k:Nat,k≤n→QbJ p n k=QbJ q n k:=by
  intro k;induction k with
  | zero=>intro _;rfl
  | succ k ih=>
   intro hk;rw[QbJ,QbJ,ih (by omega)]
   congr 1
   unfold Qss;congr 1
   have:∀(xs:List Int) (tk:List Int),(∀x∈xs,x∈Q8 (n:Nat))→QjG p (k:Nat) tk xs=QjG q (k:Nat) tk xs:=by
    intro xs;induction xs with
    | nil=>intro tk _;rfl
    | cons x xs ih2=>
     intro tk hx;rw[QjG,QjG,h (k:Nat) ⟨by omega,by omega⟩ x (hx x (by simp))]
     split
     ·exact ih2 _ fun y hy=>hx y (by simp[hy])
     ·exact ih2 _ fun y hy=>hx y (by simp[hy])
   exact this _ _ fun x h=>h
 unfold Qa0;rw[KE];exact key n (KP _)
theorem Qko{p:Int→Int→Bool}{n:Nat}{r z:Int}(hn:1≤n∧n≤5)(hr:0≤r∧r≤4)(mono:Qg0 p n r)(hz:z∈Q8 (n:Nat))(hp:p z r=true)(hh:Qu z r=false):∃y,Qab y z=true∧Qsl p n r y:=by
 obtain⟨y,h1,h2,h3⟩:=Qkn hn.2 hr hz (KP _) hp hh;exact⟨y,h2,(Qo2 hn hr mono).1 ⟨h1,h3⟩⟩
def Qfg(ag:Int)(p:Int→Int→Bool)(x r:Int):Bool:=p x r&&(!Qab x ag||Qu ag r)
theorem Qj6{p:Int→Int→Bool}{n:Nat}{r ag:Int}(hag:R5 ag)(mono:Qg0 p n r):Qg0 (Qfg ag p) n r:=by
 intro x hx y hy hxy h;unfold Qfg at *;rw[KB,Kq,Ko]at *;refine⟨mono x hx y hy hxy h.1,h.2.imp (fun h1=>?_) id⟩
 cases h2:Qab y ag with
 | false=>rfl
 | true=>rw[Qcp (Qdp hx) (Qdp hy) hag hxy h2]at h1;cases h1
theorem QA7{x c r:Int}(h:Qu x c=true)(hr:Qu x r=false):c≠r:=fun e=>by rw[e,hr]at h;cases h
theorem QoX{x y:Int}(hx:R5 x)(hy:R5 y)(h:Qab x y=true){c:Int}(hc:0≤c∧c≤4)(hb:Qu x c=true):Qu y c=true:=by
 obtain⟨k,rfl⟩:=KL hc.1;exact(Qaq hx hy).1 h ⟨k,by omega⟩ hb
theorem QBx{x y:Int}(hx:R5 x)(hy:R5 y)(h:Qab x y=false):∃k:Nat,k<5∧Qu x (k:Nat)=true∧Qu y (k:Nat)=false:=by
 by_cases q:∃k:Nat,k<5∧Qu x (k:Nat)=true∧Qu y (k:Nat)=false
 ·exact q
 ·have:Qab x y=true:=(Qaq hx hy).2 fun c hc=>by
   cases hb:Qu y (c.val:Nat)with
   | true=>rfl
   | false=>exact absurd ⟨c.val,c.isLt,hc,hb⟩ q
  rw[this]at h;cases h
theorem QfH{x:Int}(hx:R5 x){k c:Nat}(hk:k<5)(hc:c<5):Qu (Qbp x (k:Nat)) (c:Nat)=(Qu x (c:Nat)||c==k):=by
 have:=Qk0 (r:=⟨k,hk⟩) hx ⟨c,hc⟩
 rw[this];congr 1
 by_cases e:c=k
 ·subst e;simp
 ·rw[KU.2 e,KU.2 (by simp[Fin.ext_iff,e])]
theorem QuD{x:Int}(hx:R5 x){k:Nat}(hk:k<5):Qab x (Qbp x (k:Nat))=true:=(Qaq hx (Qd4 hx ⟨by omega,by omega⟩)).2 fun c hc=>by rw[QfH hx hk c.isLt,hc,YC]
theorem Qz6{x y:Int}(hx:R5 x)(hy:R5 y){k:Nat}(hk:k<5)(h:Qab x y=true)(hb:Qu y (k:Nat)=true):Qab (Qbp x (k:Nat)) y=true:=(Qaq (Qd4 hx ⟨by omega,by omega⟩) hy).2 fun c hc=>by
 rw[QfH hx hk c.isLt,Kq,Kh]at hc;rcases hc with hc|hc
 ·exact(Qaq hx hy).1 h c hc
 ·rw[hc];exact hb
theorem Qsi{n:Nat}{x:Int}(hn:n≤5)(h:Ql (n:Nat) x=true){k:Nat}(hk:k<5)(hb:Qu x (k:Nat)=true):k<n:=by
 have h1:=Qq h
 obtain⟨x',rfl⟩:=(show R5 x from⟨h1.2.2.1,h1.2.2.2⟩).fin
 simp only[Ql,KB,Qj,Qc7,KE]at h
 refine Qtq ⟨n,by omega⟩ x' ⟨k,hk⟩ ?_ hb
 have e2:((2^n:Nat):Int)=(2:Int)^n:=by simp
 dsimp only;omega
theorem QwR:∀n:Fin 6,∀x:Fin 32,∀k:Fin 5,x.val<2^n.val→k.val<n.val→Qbp ((x.val:Nat):Int) ((k.val:Nat):Int)≤2^n.val-1:=by decide+kernel
theorem QkA{n:Nat}{x:Int}(hn:n≤5)(h:Ql (n:Nat) x=true){k:Nat}(hk:k<n):Ql (n:Nat) (Qbp x (k:Nat))=true:=by
 have h1:=Qq h
 obtain⟨x',rfl⟩:=(show R5 x from⟨h1.2.2.1,h1.2.2.2⟩).fin
 have h2:=Qd4 (x:=((x'.val:Nat):Int)) (r:=(k:Nat)) ⟨by omega,by omega⟩ ⟨by omega,by omega⟩
 simp only[Ql,KB,Qj,Qc7,KE]at h ⊢
 have e2:((2^n:Nat):Int)=(2:Int)^n:=by simp
 have:=QwR ⟨n,by omega⟩ x' ⟨k,by omega⟩ (by dsimp only;omega) hk
 dsimp only at this;exact⟨by omega,h2.1,by omega⟩
theorem QhT{n:Nat}{x r:Int}(hn:1≤n∧n≤5)(hx:x∈Q8 (n:Nat))(hr:0≤r∧r<n):QO (n:Nat) x r=true:=by
 unfold QO;rw[KB,KB,Qj,Qj];exact⟨⟨by omega,(Qcj (by omega)).1 hx⟩,by omega⟩
theorem QDz{x y:Int}(hx:R5 x)(hy:R5 y)(h1:Qab x y=true)(h2:Qab y x=true):x=y:=QcU hx hy ((Qaq hx hy).1 h1) ((Qaq hy hx).1 h2)
theorem QCf{p:Int→Int→Bool}{n:Nat}{ag:Int}(hn:1≤n∧n≤5)(hag:Ql (n:Nat) ag=true)(mono:∀r:Int,0≤r∧r≤4→Qg0 p n r):QsS (n:Nat) ag (Qa0 p n)=Qa0 (Qfg ag p) n:=by
 have hag5:R5 ag:=by have:=Qq hag;exact⟨this.2.2.1,this.2.2.2⟩
 have mono2:∀r:Int,0≤r∧r≤4→Qg0 (Qfg ag p) n r:=fun r hr=>Qj6 hag5 (mono r hr)
 unfold QsS;rw[if_pos (by unfold QsT;rw[hag,Yd,KK];omega)]
 unfold QEl;obtain⟨L1,L2⟩:=@Qhb (n:Nat) ag (by omega) (Qa0 p n)
 obtain⟨S1,S2⟩:=QmO L2;have mem:∀d:Int×Int,d∈QfF (n:Nat) ag (Qa0 p n)→(0≤d.2∧d.2<n)∧d.1∈Q8 (n:Nat)∧Qu d.1 d.2=false∧Qfg ag p d.1 d.2=true:=by
  intro d hd;unfold QfF at hd;rw[List.mem_flatMap]at hd;obtain⟨e,he,hd⟩:=hd;rw[Qf8 hn mono]at he;obtain⟨e1,e2,e3,e4,_⟩:=he;unfold Qv0 at hd;rw[if_pos (QhT hn e2 e1)]at hd;split at hd
  ·rename_i hb
   rw[KH]at hd;subst hd;refine⟨e1,e2,e3,?_⟩
   unfold Qfg;rw[e4,hb];rfl
  ·rename_i hb
   rw[Kq,not_or,Ko,Bool.not_eq_false,KS]at hb;rw[KE,Qf0]at hd;obtain⟨k,k1,k2,k3,rfl⟩:=hd;have he5:=Qdp e2
   have hA:=(Qcj (n:=(n:Nat)) (by omega)).1 e2
   have hx:Qbp e.1 (k:Nat)∈Q8 (n:Nat):=(Qcj (by omega)).2 (QkA hn.2 hA k1)
   refine⟨e1,hx,?_,?_⟩
   ·obtain⟨j,hj⟩:=KL e1.1
    dsimp only;rw[hj]at e3 k3 e1 ⊢;rw[QfH he5 (by omega) (by omega),e3,K8,KU]
    intro h;exact k3 (by rw[h])
   ·unfold Qfg
    dsimp only;rw[mono _ ⟨by omega,by omega⟩ _ e2 _ hx (QuD he5 (by omega)) e4,KY,Kq,Ko]
    left
    cases hq:Qab (Qbp e.1 (k:Nat)) ag with
    | false=>rfl
    | true=>
     have:=QoX (Qdp hx) hag5 hq (c:=(k:Nat)) ⟨by omega,by omega⟩ (by rw[QfH he5 (by omega) (by omega)];simp)
     rw[k2]at this;cases this
 have least:∀(x r:Int),(0≤r∧r<n)→Qsl (Qfg ag p) n r x→(x,r)∈QfF (n:Nat) ag (Qa0 p n):=by
  rintro x r hr ⟨hx,hb,hq,hl⟩;have hr4:0≤r∧r≤4:=⟨by omega,by omega⟩
  have hq0:=hq
  unfold Qfg at hq;rw[KB,Kq,Ko]at hq;obtain⟨y,hyx,hy⟩:=Qko hn hr4 (mono r hr4) hx hq.1 hb;have hyd:(y,r)∈Qa0 p n:=(Qf8 hn mono).2 ⟨hr,hy⟩
  obtain⟨y1,y2,y3,y4⟩:=hy;unfold QfF;rw[List.mem_flatMap];refine⟨(y,r),hyd,?_⟩
  unfold Qv0;rw[if_pos (QhT hn y1 hr)]
  by_cases hbk:(!Qab y ag||Qu ag r)=true
  ·rw[if_pos hbk,KH]
   have:y=x:=hl y y1 hyx (by unfold Qfg;rw[y3,hbk];rfl)
   rw[this]
  ·rw[if_neg hbk,KE,Qf0]
   rw[Kq,not_or,Ko,Bool.not_eq_false,KS]at hbk;have hxa:Qab x ag=false:=by
    rcases hq.2 with h|h
    ·exact h
    ·rw[hbk.2]at h;cases h
   obtain⟨k,k5,kx,kag⟩:=QBx (Qdp hx) hag5 hxa;have kn:=Qsi hn.2 ((Qcj (n:=(n:Nat)) (by omega)).1 hx) k5 kx
   have y5:=Qdp y1
   have hA:=(Qcj (n:=(n:Nat)) (by omega)).1 y1
   have hm:Qbp y (k:Nat)∈Q8 (n:Nat):=(Qcj (by omega)).2 (QkA hn.2 hA kn)
   have hin:Qab (Qbp y (k:Nat)) x=true:=Qz6 y5 (Qdp hx) k5 hyx kx
   have:Qbp y (k:Nat)=x:=hl _ hm hin (by
    unfold Qfg;rw[mono r hr4 y y1 _ hm (QuD y5 k5) y3,KY,Kq,Ko];left
    cases hz:Qab (Qbp y (k:Nat)) ag with
    | false=>rfl
    | true=>
     have:=QoX (Qdp hm) hag5 hz (c:=(k:Nat)) ⟨by omega,by omega⟩ (by rw[QfH y5 k5 k5];simp)
     rw[kag]at this;cases this)
   refine⟨k,kn,kag,QA7 kx hb,?_⟩
   rw[this]
 refine Qi4 (key:=QjS) (S1.filter _) (Qnm hn mono2) fun d=>?_
 rw[Ku,S2,Qf8 hn mono2,Kg];constructor
 ·rintro⟨h1,h2⟩
  obtain⟨m1,m2,m3,m4⟩:=mem d h1;refine⟨m1,m2,m3,m4,fun y hy hyd hq=>?_⟩
  have hr4:0≤d.2∧d.2≤4:=⟨by omega,by omega⟩
  have hyb:Qu y d.2=false:=by
   cases hb:Qu y d.2 with
   | false=>rfl
   | true=>rw[QoX (Qdp hy) (Qdp m2) hyd hr4 hb]at m3;cases m3
  obtain⟨z,hzy,hz⟩:=Qko hn hr4 (mono2 _ hr4) hy hq hyb;have hzl:=least z d.2 m1 hz
  have ht:=h2 (z,d.2) ((S2 _).2 hzl)
  unfold Qmj at ht;have hzd:=Qcp (Qdp hz.1) (Qdp hy) (Qdp m2) hzy hyd
  dsimp only at ht;rw[hzd,YV,Bool.or_false,Kq,Kh,bne_self_eq_false,KX,or_false]at ht;have e:z=d.1:=congrArg Prod.fst ht
  rw[e]at hzy;exact QDz (Qdp hy) (Qdp m2) hyd hzy
 ·rintro⟨h1,h2⟩
  refine⟨least d.1 d.2 h1 h2,fun e he=>?_⟩
  rw[S2]at he;obtain⟨m1,m2,m3,m4⟩:=mem e he;unfold Qmj
  by_cases q1:e.2=d.2
  ·cases q2:Qab e.1 d.1 with
   | false=>simp
   | true=>
    have:=h2.2.2.2 e.1 m2 q2 (by rw[←q1];exact m4)
    have:e=d:=Prod.ext this q1
    rw[this];simp
  ·simp[q1]
end
section
open Go.Proofs
attribute [local go_sem] QA QcM cMD Qd9 Tryz.results101 QdB Tryz.results77 Qh Qg Qae Qag Qaf Qaj Qa7 Qd1 Qv Qa6
def isM(c:Int)(rs:List (List Int))(m:Int)(qs:List (Int×Int)):Bool:=(QP c rs&&QN m)&&qs==mdL c rs m
def Qoi:Qb:=⟨[],false,fun
 | [.agg [.v (.int .i64 c),.sl 1 l,.v (.int .i64 m),.sl 2 q]]=>some (WfS l∧WfD q∧ -9223372036854775808≤c∧c≤9223372036854775807,[⟨false,[.d (.v (.bool (isM c (unS l) m (unD q))))]⟩],[])
 | _=>none⟩
attribute [local go_sem] Qoi
theorem QoP:Qa E0 101 Qoi:=by
 refine QG (E:=E0) (T:=mkT Tryz.prog [(138,QA),(139,QcM),(141,cMD),(153,Qd9)] false (fun _=>false) true (fun _=>false)) (Qd (E:=E0) (.cons Qbf (.cons Qci (.cons Qzy (.cons QnG .nil))))) (fn:=Tryz.f101) Tryz.func101 kR rfl Qc kR rfl ?_
 intro args p rs ms hr;unfold Qoi at hr;dsimp only at hr;split at hr;rotate_left
 ·cases hr
 rename_i c l m q;cases hr;refine⟨rfl,rfl,nLe rfl,?_⟩
 have hm:=mxE;rintro⟨h1,h2,hc1,hc2⟩ bs;obtain⟨rs,rfl,hx,hy⟩:=h1.ex;obtain⟨ds,rfl,hd⟩:=h2.ex;clear h1 h2;rw[QB,Qh];unfold isM;have h3:=(@QcE c rs m).1
 cases h4:QP c rs
 ·rw[KT,KT]
  (repeat' first|refine gA fun _=>?_|apply fkI<;>intro hb<;>try simp only[ew,h4]at hb|simp only[go_sem,simprocAttr, *,h4])
 ·cases h5:QN m
  ·rw[YM,KT]
   (repeat' first|refine gA fun _=>?_|apply fkI<;>intro hb<;>try simp only[ew,h4,h5]at hb|simp only[go_sem,simprocAttr, *,h4,h5])
  ·rw[Yd,KY]
   generalize hz:mdL c rs m=zs at h3 ⊢;(repeat' first|refine gA fun _=>?_|apply fkI<;>intro hb<;>try simp only[ew,h4,h5,hz]at hb|simp only[go_sem,simprocAttr, *,h4,h5])
theorem QoQ:Qa E0 77 Qoi:=by
 refine QG (E:=E0) (T:=mkT Tryz.prog [(27,QdB),(13,cMD),(120,Qd9)] false (fun _=>false) true (fun _=>false)) (Qd (E:=E0) (.cons QdH (.cons Qzz (.cons QnH .nil)))) (fn:=Tryz.f77) Tryz.func77 kR rfl Qc kR rfl ?_
 intro args p rs ms hr;unfold Qoi at hr;dsimp only at hr;split at hr;rotate_left
 ·cases hr
 rename_i c l m q;cases hr;refine⟨rfl,rfl,nLe rfl,?_⟩
 have hm:=mxE;rintro⟨h1,h2,hc1,hc2⟩ bs;obtain⟨rs,rfl,hx,hy⟩:=h1.ex;obtain⟨ds,rfl,hd⟩:=h2.ex;clear h1 h2;rw[QB,Qh];unfold isM;have h3:=(@QcE c rs m).1
 cases h4:(QP c rs&&QN m)
 ·rw[KT]
  (repeat' first|refine gA fun _=>?_|apply fkI<;>intro hb<;>try simp only[ew,h4]at hb|simp only[go_sem,simprocAttr, *,h4])
 ·rw[KY]
  generalize hz:mdL c rs m=zs at h3 ⊢;(repeat' first|refine gA fun _=>?_|apply fkI<;>intro hb<;>try simp only[ew,h4,hz]at hb|simp only[go_sem,simprocAttr, *,h4])
end
section
open Go.Proofs
attribute [local go_sem] QmA Tryz.results140 Tryz.results75 QA QcM cMD Tryz.results91 QdB Tryz.results39 Qh Qg Qae Qag Qaf Qaj Qa7 Qd1 Qv Qa6
def Qe9:Qb:=⟨[],false,fun
 | [.agg [.v (.int .i64 c),.sl 1 l]]=>some (WfS l∧l.length≤16777216∧∀r∈unS l,r.length≤16777216,[⟨true,[.d (.v (.int .i64 c)),.own 1 l 1]⟩],[])
 | _=>none⟩
attribute [local go_sem] Qe9
theorem QmP:Qa E0 140 Qe9:=by
 refine QG (E:=E0) (T:=mkT Tryz.prog [(185,QmA)] false (fun _=>false) true (fun _=>false)) (Qd (E:=E0) (.cons Qxv .nil)) (fn:=Tryz.f140) Tryz.func140 kR rfl Qc kR rfl ?_
 intro args p rs ms hr;unfold Qe9 at hr;dsimp only at hr;split at hr;rotate_left
 ·cases hr
 rename_i c l;cases hr;refine⟨rfl,rfl,nLe rfl,?_⟩
 have hm:=mxE;rintro⟨h1,h2,h3⟩ bs;obtain⟨rs,rfl,hx,hy⟩:=h1.ex;clear h1;rw[QB]at h3;rw[Qai]at h2;exact gQ
theorem QmQ:Qa E0 75 Qe9:=by
 refine QG (E:=E0) (T:=mkT Tryz.prog [] false (fun _=>false) true (fun d=>d==15)) (Qd (E:=E0) .nil) (fn:=Tryz.f75) Tryz.func75 kR rfl Qc kR rfl ?_
 intro args p rs ms hr;unfold Qe9 at hr;dsimp only at hr;split at hr;rotate_left
 ·cases hr
 rename_i c l;cases hr;refine⟨rfl,rfl,nLe rfl,?_⟩
 have hm:=mxE;rintro⟨h1,h2,h3⟩ bs;obtain⟨rs,rfl,hx,hy⟩:=h1.ex;clear h1;rw[QB]at h3;rw[Qai]at h2;(repeat' first|refine gA fun _=>?_|apply fkI<;>intro hb<;>try simp only[ew]at hb|simp only[go_sem,simprocAttr, *])
 refine lpI {ι:=Nat,rs:=[(8,27)],mods:=[(4,fun i=> .one (.d (.v (.int .i64 i))))],boxes:=[(1,fun _=>[.d (.v (.int .i64 c)),.d (.sl 1 (sL rs))]),(2,fun _=>[.d (.v (.int .i64 0)),.d (.v (.slice none 0 0))]),(3,fun i=>[.d (.v (.int .i64 c)),.own 1 (sL (rs.take i)) 1])],arrs:=[],ok:=fun i=>i≤rs.length,mu:=fun i=>rs.length-i} rfl 0 (KJ _) ?_ fun i hi=>?_
 ·exact gQ
 ·dsimp only at i hi
  have q1:=QbZ hy i
  have q2:=QbZ h3 i
  by_cases h5:i<rs.length
  ·have e:=Qf h5 []
   (repeat' first|refine gA fun _=>?_|apply fkI<;>intro hb<;>try simp only[ew,Qbo,Q9]at hb|simp only[go_sem,simprocAttr, *,Qbo,Q9])
   refine lpQ (i+1) ?_
   (repeat' first|refine gA fun _=>?_|apply fkI<;>intro hb<;>try simp only[ew,Qbo,e]at hb|simp only[go_sem,simprocAttr, *,Qbo])
  ·have e5:i=rs.length:=by omega
   subst e5;have e6:rs.take rs.length=rs:=KR
   (repeat' first|refine gA fun _=>?_|apply fkI<;>intro hb<;>try simp only[ew,e6]at hb|simp only[go_sem,simprocAttr, *])
   all_goals first|rfl|skip
def nmB(c:Int)(rs:List (List Int))(m:Int):Bool:=QP c rs&&QN m
def nmC(c:Int)(rs:List (List Int))(m:Int):Int:=if nmB c rs m then c else 0
def nmR(c:Int)(rs:List (List Int))(m:Int):List (List Int):=if nmB c rs m then rs else []
def nmM(c:Int)(rs:List (List Int))(m:Int):Int:=if nmB c rs m then m else 0
theorem Qds{c:Int}{rs:List (List Int)}(h:QP c rs=true):rs.length≤40∧∀r∈rs,r.length≤5:=by
 obtain⟨n,rfl,n1,n5,h40,hl⟩:=QQ h;refine⟨h40,fun r hr=>?_⟩
 obtain⟨i,hi,rfl⟩:=YA hr;have:=hl i hi
 simp only[KD,Kc hi,YF]at this
 omega
def QrP:Qb:=⟨[],false,fun
 | [.agg [.v (.int .i64 c),.sl 1 l],.one (.v (.int .i64 m))]=>some (WfS l∧ -9223372036854775808≤c∧c≤9223372036854775807,
   [⟨true,[.d (.v (.int .i64 (nmC c (unS l) m))),.own 1 (sL (nmR c (unS l) m)) 1,.d (.v (.int .i64 (nmM c (unS l) m))),.own 2 (dL (mdL c (unS l) m)) 1]⟩,⟨false,[.d (.v (.bool (nmB c (unS l) m)))]⟩],[])
 | _=>none⟩
attribute [local go_sem] QrP
theorem Qyp:Qa E0 91 QrP:=by
 refine QG (E:=E0) (T:=mkT Tryz.prog [(138,QA),(139,QcM),(140,Qe9),(141,cMD)] false (fun _=>false) true (fun _=>false)) (Qd (E:=E0) (.cons Qbf (.cons Qci (.cons QmP (.cons Qzy .nil))))) (fn:=Tryz.f91) Tryz.func91 kR rfl Qc kR rfl ?_
 intro args p rs ms hr;unfold QrP at hr;dsimp only at hr;split at hr;rotate_left
 ·cases hr
 rename_i c l m;cases hr;refine⟨rfl,rfl,nLe rfl,?_⟩
 have hm:=mxE;rintro⟨h1,hc1,hc2⟩ bs;obtain⟨rs,rfl,hx,hy⟩:=h1.ex;clear h1;rw[QB];cases hv:(QP c rs&&QN m)
 ·have e1:nmC c rs m=0:=by unfold nmC nmB;rw[hv];rfl
  have e2:nmR c rs m=[]:=by unfold nmR nmB;rw[hv];rfl
  have e3:nmM c rs m=0:=by unfold nmM nmB;rw[hv];rfl
  have e4:nmB c rs m=false:=hv
  have e5:mdL c rs m=[]:=by unfold mdL;rw[hv];rfl
  have e6:(!QP c rs|| !QN m)=true:=by rw[←YS,hv];rfl
  have e0:dL []=[]:=rfl
  have e7:sL []=[]:=rfl
  rw[e1,e2,e3,e4,e5];clear e1 e2 e3 e4 e5 hv;(repeat' first|refine gA fun _=>?_|apply fkI<;>intro hb<;>try simp only[ew,e6,e0,e7]at hb|simp only[go_sem,simprocAttr, *])
  all_goals first|rfl|skip
 ·have e1:nmC c rs m=c:=by unfold nmC nmB;rw[hv];rfl
  have e2:nmR c rs m=rs:=by unfold nmR nmB;rw[hv];rfl
  have e3:nmM c rs m=m:=by unfold nmM nmB;rw[hv];rfl
  have e4:nmB c rs m=true:=hv
  have e6:(!QP c rs|| !QN m)=false:=by rw[←YS,hv];rfl
  rw[e1,e2,e3,e4];clear e1 e2 e3 e4;rw[KB]at hv;obtain⟨t1,t2⟩:=Qds hv.1;have t3:∀r∈rs,r.length≤16777216:=fun r hr=>KF (t2 r hr) (by decide)
  clear hv t2;have h3:=(@QcE c rs m).1
  generalize hz:mdL c rs m=zs at h3 ⊢;(repeat' first|refine gA fun _=>?_|apply fkI<;>intro hb<;>try simp only[ew,e6,hz]at hb|simp only[go_sem,simprocAttr, *])
  all_goals first|rfl|skip
theorem Qyq:Qa E0 39 QrP:=by
 refine QG (E:=E0) (T:=mkT Tryz.prog [(27,QdB),(75,Qe9),(13,cMD)] false (fun _=>false) true (fun _=>false)) (Qd (E:=E0) (.cons QdH (.cons QmQ (.cons Qzz .nil)))) (fn:=Tryz.f39) Tryz.func39 kR rfl Qc kR rfl ?_
 intro args p rs ms hr;unfold QrP at hr;dsimp only at hr;split at hr;rotate_left
 ·cases hr
 rename_i c l m;cases hr;refine⟨rfl,rfl,nLe rfl,?_⟩
 have hm:=mxE;rintro⟨h1,hc1,hc2⟩ bs;obtain⟨rs,rfl,hx,hy⟩:=h1.ex;clear h1;rw[QB];cases hv:(QP c rs&&QN m)
 ·have e1:nmC c rs m=0:=by unfold nmC nmB;rw[hv];rfl
  have e2:nmR c rs m=[]:=by unfold nmR nmB;rw[hv];rfl
  have e3:nmM c rs m=0:=by unfold nmM nmB;rw[hv];rfl
  have e4:nmB c rs m=false:=hv
  have e5:mdL c rs m=[]:=by unfold mdL;rw[hv];rfl
  have e0:dL []=[]:=rfl
  have e7:sL []=[]:=rfl
  rw[e1,e2,e3,e4,e5];clear e1 e2 e3 e4 e5;(repeat' first|refine gA fun _=>?_|apply fkI<;>intro hb<;>try simp only[ew,hv,e0,e7]at hb|simp only[go_sem,simprocAttr, *,hv])
  all_goals first|rfl|skip
 ·have e1:nmC c rs m=c:=by unfold nmC nmB;rw[hv];rfl
  have e2:nmR c rs m=rs:=by unfold nmR nmB;rw[hv];rfl
  have e3:nmM c rs m=m:=by unfold nmM nmB;rw[hv];rfl
  have e4:nmB c rs m=true:=hv
  rw[e1,e2,e3,e4];clear e1 e2 e3 e4;have hv2:=hv
  rw[KB]at hv2;obtain⟨t1,t2⟩:=Qds hv2.1;have t3:∀r∈rs,r.length≤16777216:=fun r hr=>KF (t2 r hr) (by decide)
  clear hv2 t2;have h3:=(@QcE c rs m).1
  generalize hz:mdL c rs m=zs at h3 ⊢;(repeat' first|refine gA fun _=>?_|apply fkI<;>intro hb<;>try simp only[ew,hv,hz]at hb|simp only[go_sem,simprocAttr, *,hv])
  all_goals first|rfl|skip
end
section
variable {T:QS} {Q:Exit→St→Prop} {s:St}
def RS(T:QS)(ops:Array Oper)(K:St→Prop)(l:List Oper)(s:St):Prop:=TL T ops K l s
theorem Qpl{i:Nat}{ops:Array Oper}{dr:Bool}:wpc T (.region i ops dr) Q s=RS T ops (Q .normal) ops.toList s:=rfl
theorem Qbb{ops:Array Oper}{K:St→Prop}{l:List Oper}(h:let Kx:=K;TL T ops Kx l s):RS T ops K l s:=h
attribute [irreducible] RS
theorem QvD{c:Code}{nm:Bool}{I:QY}{i:I.ι}{rs:List (Nat×Nat)}{ps:List (Nat×Pat)}{al:List (Nat×Nat)}(h:let Qx:=Q;let sx:=s;wpc T c (QlI nm I i Qx) (Qbd rs sx ps al)):wpc T c (QlI nm I i Q) (Qbd rs s ps al):=h
end
end Go.Own
