/- Own contracts. Conditions: as each theorem states them. -/
import Derived.Test.YtnmkpepdacbfaaaGreatDoorRr29
set_option linter.unusedSimpArgs false
set_option linter.unusedVariables false
set_option maxRecDepth 20000
set_option maxHeartbeats 2000000
namespace Go.Own
open Go Go.Proofs
def QfE(p:Int→Int→Bool)(n:Nat)(r:Int):Prop:=∀x∈Q9 (n:Nat),∀y∈Q9 (n:Nat),Qal x y=true→p x r=true→p y r=true
def Qo6(p:Int→Int→Bool)(n:Nat)(r x:Int):Prop:=x∈Q9 (n:Nat)∧Qy x r=false∧p x r=true∧∀y∈Q9 (n:Nat),Qal y x=true→p y r=true→y=x
theorem QcJ{n x:Int}(h:x∈Q9 n):R5 x:=(@QM n).2.1 x h
theorem Qmd{p:Int→Int→Bool}{n:Nat}{r x:Int}(hn:1≤n∧n≤5)(hr:0≤r∧r≤4)(mono:QfE p n r):(x∈Q9 (n:Nat)∧QkF p n r x=true)↔Qo6 p n r x:=by
 unfold QkF;simp only[Bool.and_eq_true,Bool.not_eq_true',QdT]
 constructor
 ·rintro⟨h1,⟨h2,h3⟩,h4⟩
  refine⟨h1,h2,h3,fun y hy hi hp=>?_⟩
  obtain⟨x',rfl⟩:=(QcJ h1).fin;obtain⟨y',rfl⟩:=(QcJ hy).fin
  by_cases e:y'=x'
  ·rw[e]
  ·obtain⟨i,hi1,hi2⟩:=Qg2 x' y' hi e
   have hx31:=(Qt ((QbW (by omega)).1 h1))
   have hlt:i.val<n:=by
    have hA:=(QbW (by omega)).1 h1
    simp only[Qj,Bool.and_eq_true,Qh,Qd5,Int.toNat_natCast]at hA
    refine Qp9 ⟨n,by omega⟩ x' i ?_ hi1
    have e2:((2^n:Nat):Int)=(2:Int)^n:=by simp
    have h5:=hA.2.2
    dsimp only;omega
   have hmem:Qd6 ((x'.val:Nat):Int) ((i.val:Nat):Int)∈Q9 (n:Nat):=by
    have:=(QfI ⟨n,by omega⟩).2.2 ((x'.val:Nat):Int) (by rw[←QaB (by omega)];exact h1) i
    rw[QaB (by omega)];exact this
   have:=mono _ hy _ hmem hi2 hp
   rw[h4 i.val hlt hi1]at this;cases this
 ·rintro⟨h1,h2,h3,h4⟩
  refine⟨h1,⟨h2,h3⟩,fun i hi hb=>?_⟩
  obtain⟨x',rfl⟩:=(QcJ h1).fin;have hmem:Qd6 ((x'.val:Nat):Int) ((i:Nat):Int)∈Q9 (n:Nat):=by
   have:=(QfI ⟨n,by omega⟩).2.2 ((x'.val:Nat):Int) (by rw[←QaB (by omega)];exact h1) ⟨i,by omega⟩
   rw[QaB (by omega)];exact this
  have hd:=Qi8 x' ⟨i,by omega⟩
  cases hp:p (Qd6 ((x'.val:Nat):Int) (i:Nat)) r with
  | false=>rfl
  | true=>
   have:=h4 _ hmem hd.1 hp
   have h5:=hd.2 hb
   dsimp only at h5;omega
theorem QnE{p:Int→Int→Bool}{n:Nat}{r:Int}{d:Int×Int}(hn:1≤n∧n≤5)(hr:0≤r∧r≤4)(mono:QfE p n r):d∈QrJ p n r↔d.2=r∧Qo6 p n r d.1:=by
 rw[Qjz hn.2 hr mono,List.mem_map];constructor
 ·rintro⟨x,hx,rfl⟩
  rw[List.mem_filter]at hx;exact⟨rfl,(Qmd hn hr mono).1 hx⟩
 ·rintro⟨rfl,h⟩
  exact⟨d.1,List.mem_filter.2 ((Qmd hn hr mono).2 h),rfl⟩
theorem QjA{p:Int→Int→Bool}{n:Nat}{d:Int×Int}(hn:1≤n∧n≤5)(mono:∀r:Int,0≤r∧r≤4→QfE p n r):∀{k:Nat},k≤n→(d∈Qda p n k↔(0≤d.2∧d.2<k)∧Qo6 p n d.2 d.1)
 | 0,_=>by simp only[Qda,List.not_mem_nil,false_iff];rintro⟨h,_⟩;omega
 | k+1,hk=>by
  rw[Qda,List.mem_append,@QjA p n d hn mono k (by omega),QnE hn ⟨by omega,by omega⟩ (mono _ ⟨by omega,by omega⟩)]
  constructor
  ·rintro(⟨h1,h2⟩|⟨h1,h2⟩)
   ·exact⟨by omega,h2⟩
   ·rw[h1];exact⟨by omega,h2⟩
  ·rintro⟨h1,h2⟩
   by_cases e:d.2=(k:Nat)
   ·right;rw[←e];exact⟨rfl,h2⟩
   ·left;exact⟨by omega,h2⟩
theorem QeW{p:Int→Int→Bool}{n:Nat}{d:Int×Int}(hn:1≤n∧n≤5)(mono:∀r:Int,0≤r∧r≤4→QfE p n r):d∈QaJ p n↔(0≤d.2∧d.2<n)∧Qo6 p n d.2 d.1:=by
 unfold QaJ;rw[Int.toNat_natCast];exact QjA hn mono (Nat.le_refl _)
theorem Qhr{p:Int→Int→Bool}{n:Nat}(hn:1≤n∧n≤5)(mono:∀r:Int,0≤r∧r≤4→QfE p n r):∀{k:Nat},k≤n→(Qda p n k).Pairwise fun d e=>QhW d<QhW e
 | 0,_=> .nil
 | k+1,hk=>by
  rw[Qda,List.pairwise_append];have hk4:(0:Int)≤(k:Nat)∧((k:Nat):Int)≤4:=⟨by omega,by omega⟩
  refine⟨@Qhr p n hn mono k (by omega),?_,fun d hd e he=>?_⟩
  ·rw[Qjz hn.2 hk4 (mono _ hk4),List.pairwise_map]
   refine((QiL (n:=(n:Nat)) (by omega)).filter _).imp fun {x y} h=>?_
   rw[Qdt hk4,Qdt hk4];omega
  ·rw[QjA hn mono (by omega)]at hd
   rw[QnE hn hk4 (mono _ hk4)]at he;obtain⟨d1,d2⟩:=d;obtain⟨e1,e2⟩:=e;obtain⟨rfl,he⟩:=he;obtain⟨hd1,hd⟩:=hd;dsimp only at *;rw[Qdt (by omega),Qdt hk4]
   have:=Qep (toF d1)
   have:d2.toNat<k:=by omega
   rw[Int.toNat_natCast];omega
theorem QkH{p:Int→Int→Bool}{n:Nat}(hn:1≤n∧n≤5)(mono:∀r:Int,0≤r∧r≤4→QfE p n r):(QaJ p n).Pairwise fun d e=>QhW d<QhW e:=by
 unfold QaJ;rw[Int.toNat_natCast];exact Qhr hn mono (Nat.le_refl _)
theorem QkG{p q:Int→Int→Bool}{n:Nat}(h:∀r:Int,0≤r∧r<n→∀x∈Q9 (n:Nat),p x r=q x r):QaJ p n=QaJ q n:=by
 have key:∀k:Nat,k≤n→Qda p n k=Qda q n k:=by
  intro k;induction k with
  | zero=>intro _;rfl
  | succ k ih=>
   intro hk;rw[Qda,Qda,ih (by omega)]
   congr 1
   unfold QrJ;congr 1
   have:∀(xs:List Int) (tk:List Int),(∀x∈xs,x∈Q9 (n:Nat))→QiG p (k:Nat) tk xs=QiG q (k:Nat) tk xs:=by
    intro xs;induction xs with
    | nil=>intro tk _;rfl
    | cons x xs ih2=>
     intro tk hx;rw[QiG,QiG,h (k:Nat) ⟨by omega,by omega⟩ x (hx x (by simp))]
     split
     ·exact ih2 _ fun y hy=>hx y (by simp[hy])
     ·exact ih2 _ fun y hy=>hx y (by simp[hy])
   exact this _ _ fun x h=>h
 unfold QaJ;rw[Int.toNat_natCast];exact key n (Nat.le_refl _)
theorem Qit{p:Int→Int→Bool}{n:Nat}{r z:Int}(hn:1≤n∧n≤5)(hr:0≤r∧r≤4)(mono:QfE p n r)(hz:z∈Q9 (n:Nat))(hp:p z r=true)(hh:Qy z r=false):∃y,Qal y z=true∧Qo6 p n r y:=by
 obtain⟨y,h1,h2,h3⟩:=Qis hn.2 hr hz (Nat.le_refl _) hp hh;exact⟨y,h2,(Qmd hn hr mono).1 ⟨h1,h3⟩⟩
def Qeg(ag:Int)(p:Int→Int→Bool)(x r:Int):Bool:=p x r&&(!Qal x ag||Qy ag r)
theorem Qh7{p:Int→Int→Bool}{n:Nat}{r ag:Int}(hag:R5 ag)(mono:QfE p n r):QfE (Qeg ag p) n r:=by
 intro x hx y hy hxy h;unfold Qeg at *;rw[Bool.and_eq_true,Bool.or_eq_true,Bool.not_eq_true']at *;refine⟨mono x hx y hy hxy h.1,h.2.imp (fun h1=>?_) id⟩
 cases h2:Qal y ag with
 | false=>rfl
 | true=>rw[Qb1 (QcJ hx) (QcJ hy) hag hxy h2]at h1;cases h1
theorem QxD{x c r:Int}(h:Qy x c=true)(hr:Qy x r=false):c≠r:=fun e=>by rw[e,hr]at h;cases h
theorem Ql8{x y:Int}(hx:R5 x)(hy:R5 y)(h:Qal x y=true){c:Int}(hc:0≤c∧c≤4)(hb:Qy x c=true):Qy y c=true:=by
 obtain⟨k,rfl⟩:=Int.eq_ofNat_of_zero_le hc.1;exact(Q8 hx hy).1 h ⟨k,by omega⟩ hb
theorem Qx5{x y:Int}(hx:R5 x)(hy:R5 y)(h:Qal x y=false):∃k:Nat,k<5∧Qy x (k:Nat)=true∧Qy y (k:Nat)=false:=by
 by_cases q:∃k:Nat,k<5∧Qy x (k:Nat)=true∧Qy y (k:Nat)=false
 ·exact q
 ·have:Qal x y=true:=(Q8 hx hy).2 fun c hc=>by
   cases hb:Qy y (c.val:Nat)with
   | true=>rfl
   | false=>exact absurd ⟨c.val,c.isLt,hc,hb⟩ q
  rw[this]at h;cases h
theorem QeA{x:Int}(hx:R5 x){k c:Nat}(hk:k<5)(hc:c<5):Qy (QbI x (k:Nat)) (c:Nat)=(Qy x (c:Nat)||c==k):=by
 have:=QiV (r:=⟨k,hk⟩) hx ⟨c,hc⟩
 rw[this];congr 1
 by_cases e:c=k
 ·subst e;simp
 ·rw[beq_eq_false_iff_ne.2 e,beq_eq_false_iff_ne.2 (by simp[Fin.ext_iff,e])]
theorem Qrq{x:Int}(hx:R5 x){k:Nat}(hk:k<5):Qal x (QbI x (k:Nat))=true:=(Q8 hx (Qdf hx ⟨by omega,by omega⟩)).2 fun c hc=>by rw[QeA hx hk c.isLt,hc,Bool.true_or]
theorem QwK{x y:Int}(hx:R5 x)(hy:R5 y){k:Nat}(hk:k<5)(h:Qal x y=true)(hb:Qy y (k:Nat)=true):Qal (QbI x (k:Nat)) y=true:=(Q8 (Qdf hx ⟨by omega,by omega⟩) hy).2 fun c hc=>by
 rw[QeA hx hk c.isLt,Bool.or_eq_true,beq_iff_eq]at hc;rcases hc with hc|hc
 ·exact(Q8 hx hy).1 h c hc
 ·rw[hc];exact hb
theorem Qo3{n:Nat}{x:Int}(hn:n≤5)(h:Qj (n:Nat) x=true){k:Nat}(hk:k<5)(hb:Qy x (k:Nat)=true):k<n:=by
 have h1:=Qt h
 obtain⟨x',rfl⟩:=(show R5 x from⟨h1.2.2.1,h1.2.2.2⟩).fin
 simp only[Qj,Bool.and_eq_true,Qh,Qd5,Int.toNat_natCast]at h
 refine Qp9 ⟨n,by omega⟩ x' ⟨k,hk⟩ ?_ hb
 have e2:((2^n:Nat):Int)=(2:Int)^n:=by simp
 dsimp only;omega
theorem QtA:∀n:Fin 6,∀x:Fin 32,∀k:Fin 5,x.val<2^n.val→k.val<n.val→QbI ((x.val:Nat):Int) ((k.val:Nat):Int)≤2^n.val-1:=by decide+kernel
theorem QiB{n:Nat}{x:Int}(hn:n≤5)(h:Qj (n:Nat) x=true){k:Nat}(hk:k<n):Qj (n:Nat) (QbI x (k:Nat))=true:=by
 have h1:=Qt h
 obtain⟨x',rfl⟩:=(show R5 x from⟨h1.2.2.1,h1.2.2.2⟩).fin
 have h2:=Qdf (x:=((x'.val:Nat):Int)) (r:=(k:Nat)) ⟨by omega,by omega⟩ ⟨by omega,by omega⟩
 simp only[Qj,Bool.and_eq_true,Qh,Qd5,Int.toNat_natCast]at h ⊢
 have e2:((2^n:Nat):Int)=(2:Int)^n:=by simp
 have:=QtA ⟨n,by omega⟩ x' ⟨k,by omega⟩ (by dsimp only;omega) hk
 dsimp only at this;exact⟨by omega,h2.1,by omega⟩
theorem Qgm{n:Nat}{x r:Int}(hn:1≤n∧n≤5)(hx:x∈Q9 (n:Nat))(hr:0≤r∧r<n):Q2 (n:Nat) x r=true:=by
 unfold Q2;rw[Bool.and_eq_true,Bool.and_eq_true,Qh,Qh];exact⟨⟨by omega,(QbW (by omega)).1 hx⟩,by omega⟩
theorem Qz3{x y:Int}(hx:R5 x)(hy:R5 y)(h1:Qal x y=true)(h2:Qal y x=true):x=y:=Qcm hx hy ((Q8 hx hy).1 h1) ((Q8 hy hx).1 h2)
theorem QyK{p:Int→Int→Bool}{n:Nat}{ag:Int}(hn:1≤n∧n≤5)(hag:Qj (n:Nat) ag=true)(mono:∀r:Int,0≤r∧r≤4→QfE p n r):QpD (n:Nat) ag (QaJ p n)=QaJ (Qeg ag p) n:=by
 have hag5:R5 ag:=by have:=Qt hag;exact⟨this.2.2.1,this.2.2.2⟩
 have mono2:∀r:Int,0≤r∧r≤4→QfE (Qeg ag p) n r:=fun r hr=>Qh7 hag5 (mono r hr)
 unfold QpD;rw[if_pos (by unfold Qvr;rw[hag,Bool.and_true,decide_eq_true_eq];omega)]
 unfold QAV;obtain⟨L1,L2⟩:=@QfQ (n:Nat) ag (by omega) (QaJ p n)
 obtain⟨S1,S2⟩:=Qkl L2;have mem:∀d:Int×Int,d∈Qey (n:Nat) ag (QaJ p n)→(0≤d.2∧d.2<n)∧d.1∈Q9 (n:Nat)∧Qy d.1 d.2=false∧Qeg ag p d.1 d.2=true:=by
  intro d hd;unfold Qey at hd;rw[List.mem_flatMap]at hd;obtain⟨e,he,hd⟩:=hd;rw[QeW hn mono]at he;obtain⟨e1,e2,e3,e4,_⟩:=he;unfold QsD at hd;rw[if_pos (Qgm hn e2 e1)]at hd;split at hd
  ·rename_i hb
   rw[List.mem_singleton]at hd;subst hd;refine⟨e1,e2,e3,?_⟩
   unfold Qeg;rw[e4,hb];rfl
  ·rename_i hb
   rw[Bool.or_eq_true,not_or,Bool.not_eq_true',Bool.not_eq_false,Bool.not_eq_true]at hb;rw[Int.toNat_natCast,QeK]at hd;obtain⟨k,k1,k2,k3,rfl⟩:=hd;have he5:=QcJ e2
   have hA:=(QbW (n:=(n:Nat)) (by omega)).1 e2
   have hx:QbI e.1 (k:Nat)∈Q9 (n:Nat):=(QbW (by omega)).2 (QiB hn.2 hA k1)
   refine⟨e1,hx,?_,?_⟩
   ·obtain⟨j,hj⟩:=Int.eq_ofNat_of_zero_le e1.1
    dsimp only;rw[hj]at e3 k3 e1 ⊢;rw[QeA he5 (by omega) (by omega),e3,Bool.false_or,beq_eq_false_iff_ne]
    intro h;exact k3 (by rw[h])
   ·unfold Qeg
    dsimp only;rw[mono _ ⟨by omega,by omega⟩ _ e2 _ hx (Qrq he5 (by omega)) e4,Bool.true_and,Bool.or_eq_true,Bool.not_eq_true']
    left
    cases hq:Qal (QbI e.1 (k:Nat)) ag with
    | false=>rfl
    | true=>
     have:=Ql8 (QcJ hx) hag5 hq (c:=(k:Nat)) ⟨by omega,by omega⟩ (by rw[QeA he5 (by omega) (by omega)];simp)
     rw[k2]at this;cases this
 have least:∀(x r:Int),(0≤r∧r<n)→Qo6 (Qeg ag p) n r x→(x,r)∈Qey (n:Nat) ag (QaJ p n):=by
  rintro x r hr ⟨hx,hb,hq,hl⟩;have hr4:0≤r∧r≤4:=⟨by omega,by omega⟩
  have hq0:=hq
  unfold Qeg at hq;rw[Bool.and_eq_true,Bool.or_eq_true,Bool.not_eq_true']at hq;obtain⟨y,hyx,hy⟩:=Qit hn hr4 (mono r hr4) hx hq.1 hb;have hyd:(y,r)∈QaJ p n:=(QeW hn mono).2 ⟨hr,hy⟩
  obtain⟨y1,y2,y3,y4⟩:=hy;unfold Qey;rw[List.mem_flatMap];refine⟨(y,r),hyd,?_⟩
  unfold QsD;rw[if_pos (Qgm hn y1 hr)]
  by_cases hbk:(!Qal y ag||Qy ag r)=true
  ·rw[if_pos hbk,List.mem_singleton]
   have:y=x:=hl y y1 hyx (by unfold Qeg;rw[y3,hbk];rfl)
   rw[this]
  ·rw[if_neg hbk,Int.toNat_natCast,QeK]
   rw[Bool.or_eq_true,not_or,Bool.not_eq_true',Bool.not_eq_false,Bool.not_eq_true]at hbk;have hxa:Qal x ag=false:=by
    rcases hq.2 with h|h
    ·exact h
    ·rw[hbk.2]at h;cases h
   obtain⟨k,k5,kx,kag⟩:=Qx5 (QcJ hx) hag5 hxa;have kn:=Qo3 hn.2 ((QbW (n:=(n:Nat)) (by omega)).1 hx) k5 kx
   have y5:=QcJ y1
   have hA:=(QbW (n:=(n:Nat)) (by omega)).1 y1
   have hm:QbI y (k:Nat)∈Q9 (n:Nat):=(QbW (by omega)).2 (QiB hn.2 hA kn)
   have hin:Qal (QbI y (k:Nat)) x=true:=QwK y5 (QcJ hx) k5 hyx kx
   have:QbI y (k:Nat)=x:=hl _ hm hin (by
    unfold Qeg;rw[mono r hr4 y y1 _ hm (Qrq y5 k5) y3,Bool.true_and,Bool.or_eq_true,Bool.not_eq_true'];left
    cases hz:Qal (QbI y (k:Nat)) ag with
    | false=>rfl
    | true=>
     have:=Ql8 (QcJ hm) hag5 hz (c:=(k:Nat)) ⟨by omega,by omega⟩ (by rw[QeA y5 k5 k5];simp)
     rw[kag]at this;cases this)
   refine⟨k,kn,kag,QxD kx hb,?_⟩
   rw[this]
 refine Qhh (key:=QhW) (S1.filter _) (QkH hn mono2) fun d=>?_
 rw[List.mem_filter,S2,QeW hn mono2,List.all_eq_true];constructor
 ·rintro⟨h1,h2⟩
  obtain⟨m1,m2,m3,m4⟩:=mem d h1;refine⟨m1,m2,m3,m4,fun y hy hyd hq=>?_⟩
  have hr4:0≤d.2∧d.2≤4:=⟨by omega,by omega⟩
  have hyb:Qy y d.2=false:=by
   cases hb:Qy y d.2 with
   | false=>rfl
   | true=>rw[Ql8 (QcJ hy) (QcJ m2) hyd hr4 hb]at m3;cases m3
  obtain⟨z,hzy,hz⟩:=Qit hn hr4 (mono2 _ hr4) hy hq hyb;have hzl:=least z d.2 m1 hz
  have ht:=h2 (z,d.2) ((S2 _).2 hzl)
  unfold Qj1 at ht;have hzd:=Qb1 (QcJ hz.1) (QcJ hy) (QcJ m2) hzy hyd
  dsimp only at ht;rw[hzd,Bool.not_true,Bool.or_false,Bool.or_eq_true,beq_iff_eq,bne_self_eq_false,Bool.false_eq_true,or_false]at ht;have e:z=d.1:=congrArg Prod.fst ht
  rw[e]at hzy;exact Qz3 (QcJ hy) (QcJ m2) hyd hzy
 ·rintro⟨h1,h2⟩
  refine⟨least d.1 d.2 h1 h2,fun e he=>?_⟩
  rw[S2]at he;obtain⟨m1,m2,m3,m4⟩:=mem e he;unfold Qj1
  by_cases q1:e.2=d.2
  ·cases q2:Qal e.1 d.1 with
   | false=>simp
   | true=>
    have:=h2.2.2.2 e.1 m2 q2 (by rw[←q1];exact m4)
    have:e=d:=Prod.ext this q1
    rw[this];simp
  ·simp[q1]
end Go.Own

namespace Go.Own
open Go Go.Proofs
attribute [local go_sem] Qs Qcg cMD QgP Tryz.results101 Qff Tryz.results77
attribute [local go_sem] Qm Qc QZ Q1 Q0 Q3 QaH Qdb Qr QaG
def isM(c:Int)(rs:List (List Int))(m:Int)(qs:List (Int×Int)):Bool:=(QC c rs&&QJ m)&&qs==mdL c rs m
def Qs4:Qb:=⟨[],false,fun
 | [.agg [.v (.int .i64 c),.sl 1 l,.v (.int .i64 m),.sl 2 q]]=>some (WfS l∧WfD q∧ -9223372036854775808≤c∧c≤9223372036854775807,[⟨false,[.d (.v (.bool (isM c (unS l) m (unD q))))]⟩],[])
 | _=>none⟩
attribute [local go_sem] Qs4
theorem Ql1:Qa E0 101 Qs4:=by
 refine QV (E:=E0) (T:=mkT Tryz.prog [(138,Qs),(139,Qcg),(141,cMD),(153,QgP)] false (fun _=>false) true (fun _=>false)) (Qf (E:=E0) (.cons QaO (.cons QbV (.cons Qwi (.cons QkY .nil))))) (fn:=Tryz.f101) Tryz.func101 (by kernel_rfl) rfl Qe (by kernel_rfl) rfl ?_
 intro args p rs ms hr;unfold Qs4 at hr;dsimp only at hr;split at hr;rotate_left
 ·cases hr
 rename_i c l m q;cases hr;refine⟨rfl,rfl,nLe rfl,?_⟩
 have hm:=mxE;rintro⟨h1,h2,hc1,hc2⟩ bs;obtain⟨rs,rfl,hx,hy⟩:=h1.ex;obtain⟨ds,rfl,hd⟩:=h2.ex;clear h1 h2;rw[QG,Qm];unfold isM;have h3:=(@Qca c rs m).1
 cases h4:QC c rs
 ·rw[Bool.false_and,Bool.false_and]
  (repeat' first|refine gA fun _=>?_|apply fkI<;>intro hb<;>try simp only[ew,h4]at hb|simp only[go_sem,simprocAttr, *,h4])
 ·cases h5:QJ m
  ·rw[Bool.and_false,Bool.false_and]
   (repeat' first|refine gA fun _=>?_|apply fkI<;>intro hb<;>try simp only[ew,h4,h5]at hb|simp only[go_sem,simprocAttr, *,h4,h5])
  ·rw[Bool.and_true,Bool.true_and]
   generalize hz:mdL c rs m=zs at h3 ⊢;(repeat' first|refine gA fun _=>?_|apply fkI<;>intro hb<;>try simp only[ew,h4,h5,hz]at hb|simp only[go_sem,simprocAttr, *,h4,h5])
end Go.Own
namespace Go.Own
open Go Go.Proofs
attribute [local go_sem] Qke Tryz.results140 Tryz.results75 Qs Qcg cMD Tryz.results91 Qff Tryz.results39
attribute [local go_sem] Qm Qc QZ Q1 Q0 Q3 QaH Qdb Qr QaG
def Qif:Qb:=⟨[],false,fun
 | [.agg [.v (.int .i64 c),.sl 1 l]]=>some (WfS l∧l.length≤16777216∧∀r∈unS l,r.length≤16777216,[⟨true,[.d (.v (.int .i64 c)),.own 1 l 1]⟩],[])
 | _=>none⟩
attribute [local go_sem] Qif
theorem Qkn:Qa E0 140 Qif:=by
 refine QV (E:=E0) (T:=mkT Tryz.prog [(185,Qke)] false (fun _=>false) true (fun _=>false)) (Qf (E:=E0) (.cons Qt7 .nil)) (fn:=Tryz.f140) Tryz.func140 (by kernel_rfl) rfl Qe (by kernel_rfl) rfl ?_
 intro args p rs ms hr;unfold Qif at hr;dsimp only at hr;split at hr;rotate_left
 ·cases hr
 rename_i c l;cases hr;refine⟨rfl,rfl,nLe rfl,?_⟩
 have hm:=mxE;rintro⟨h1,h2,h3⟩ bs;obtain⟨rs,rfl,hx,hy⟩:=h1.ex;clear h1;rw[QG]at h3;rw[Qas]at h2;exact gQ
def nmB(c:Int)(rs:List (List Int))(m:Int):Bool:=QC c rs&&QJ m
def nmC(c:Int)(rs:List (List Int))(m:Int):Int:=if nmB c rs m then c else 0
def nmR(c:Int)(rs:List (List Int))(m:Int):List (List Int):=if nmB c rs m then rs else []
def nmM(c:Int)(rs:List (List Int))(m:Int):Int:=if nmB c rs m then m else 0
theorem Qcd{c:Int}{rs:List (List Int)}(h:QC c rs=true):rs.length≤40∧∀r∈rs,r.length≤5:=by
 obtain⟨n,rfl,n1,n5,h40,hl⟩:=QR h;refine⟨h40,fun r hr=>?_⟩
 obtain⟨i,hi,rfl⟩:=List.getElem_of_mem hr;have:=hl i hi
 simp only[List.getD_eq_getElem?_getD,List.getElem?_eq_getElem hi,Option.getD_some]at this
 omega
def QtK:Qb:=⟨[],false,fun
 | [.agg [.v (.int .i64 c),.sl 1 l],.one (.v (.int .i64 m))]=>some (WfS l∧ -9223372036854775808≤c∧c≤9223372036854775807,
   [⟨true,[.d (.v (.int .i64 (nmC c (unS l) m))),.own 1 (sL (nmR c (unS l) m)) 1,.d (.v (.int .i64 (nmM c (unS l) m))),.own 2 (dL (mdL c (unS l) m)) 1]⟩,⟨false,[.d (.v (.bool (nmB c (unS l) m)))]⟩],[])
 | _=>none⟩
attribute [local go_sem] QtK
theorem QuV:Qa E0 91 QtK:=by
 refine QV (E:=E0) (T:=mkT Tryz.prog [(138,Qs),(139,Qcg),(140,Qif),(141,cMD)] false (fun _=>false) true (fun _=>false)) (Qf (E:=E0) (.cons QaO (.cons QbV (.cons Qkn (.cons Qwi .nil))))) (fn:=Tryz.f91) Tryz.func91 (by kernel_rfl) rfl Qe (by kernel_rfl) rfl ?_
 intro args p rs ms hr;unfold QtK at hr;dsimp only at hr;split at hr;rotate_left
 ·cases hr
 rename_i c l m;cases hr;refine⟨rfl,rfl,nLe rfl,?_⟩
 have hm:=mxE;rintro⟨h1,hc1,hc2⟩ bs;obtain⟨rs,rfl,hx,hy⟩:=h1.ex;clear h1;rw[QG];cases hv:(QC c rs&&QJ m)
 ·have e1:nmC c rs m=0:=by unfold nmC nmB;rw[hv];rfl
  have e2:nmR c rs m=[]:=by unfold nmR nmB;rw[hv];rfl
  have e3:nmM c rs m=0:=by unfold nmM nmB;rw[hv];rfl
  have e4:nmB c rs m=false:=hv
  have e5:mdL c rs m=[]:=by unfold mdL;rw[hv];rfl
  have e6:(!QC c rs|| !QJ m)=true:=by rw[←Bool.not_and,hv];rfl
  have e0:dL []=[]:=rfl
  have e7:sL []=[]:=rfl
  rw[e1,e2,e3,e4,e5];clear e1 e2 e3 e4 e5 hv;(repeat' first|refine gA fun _=>?_|apply fkI<;>intro hb<;>try simp only[ew,e6,e0,e7]at hb|simp only[go_sem,simprocAttr, *])
  all_goals first|rfl|skip
 ·have e1:nmC c rs m=c:=by unfold nmC nmB;rw[hv];rfl
  have e2:nmR c rs m=rs:=by unfold nmR nmB;rw[hv];rfl
  have e3:nmM c rs m=m:=by unfold nmM nmB;rw[hv];rfl
  have e4:nmB c rs m=true:=hv
  have e6:(!QC c rs|| !QJ m)=false:=by rw[←Bool.not_and,hv];rfl
  rw[e1,e2,e3,e4];clear e1 e2 e3 e4;rw[Bool.and_eq_true]at hv;obtain⟨t1,t2⟩:=Qcd hv.1;have t3:∀r∈rs,r.length≤16777216:=fun r hr=>Nat.le_trans (t2 r hr) (by decide)
  clear hv t2;have h3:=(@Qca c rs m).1
  generalize hz:mdL c rs m=zs at h3 ⊢;(repeat' first|refine gA fun _=>?_|apply fkI<;>intro hb<;>try simp only[ew,e6,hz]at hb|simp only[go_sem,simprocAttr, *])
  all_goals first|rfl|skip
end Go.Own

namespace Go.Own
open Go
section
variable {T:QH} {Q:Exit→St→Prop} {s:St}
def RS(T:QH)(ops:Array Oper)(K:St→Prop)(l:List Oper)(s:St):Prop:=TL T ops K l s
theorem Qmz{i:Nat}{ops:Array Oper}{dr:Bool}:wpc T (.region i ops dr) Q s=RS T ops (Q .normal) ops.toList s:=rfl
attribute [irreducible] RS
end
end Go.Own
