/- Own contracts. Conditions: as each theorem states them. -/
import Derived.Test.YtnmkpepdacbfaaaGreatDoorRc28
set_option linter.unusedSimpArgs false
set_option linter.unusedVariables false
set_option maxRecDepth 20000
set_option maxHeartbeats 2000000
namespace Go.Own
open Go Go.Proofs
def Qgv(p:Int→Int→Bool)(n:Nat)(r:Int):Prop:=∀x∈Q3 (n:Nat),∀y∈Q3 (n:Nat),Q7 x y=true→p x r=true→p y r=true
def Qq6(p:Int→Int→Bool)(n:Nat)(r x:Int):Prop:=x∈Q3 (n:Nat)∧Qt x r=false∧p x r=true∧∀y∈Q3 (n:Nat),Q7 y x=true→p y r=true→y=x
theorem Qc7{n x:Int}(h:x∈Q3 n):R5 x:=(@QD n).2.1 x h
theorem Qn4{p:Int→Int→Bool}{n:Nat}{r x:Int}(hn:1≤n∧n≤5)(hr:0≤r∧r≤4)(mono:Qgv p n r):(x∈Q3 (n:Nat)∧Qmp p n r x=true)↔Qq6 p n r x:=by
 unfold Qmp;simp only[Bool.and_eq_true,Bool.not_eq_true',Qes]
 constructor
 ·rintro⟨h1,⟨h2,h3⟩,h4⟩
  refine⟨h1,h2,h3,fun y hy hi hp=>?_⟩
  obtain⟨x',rfl⟩:=(Qc7 h1).fin;obtain⟨y',rfl⟩:=(Qc7 hy).fin
  by_cases e:y'=x'
  ·rw[e]
  ·obtain⟨i,hi1,hi2⟩:=Qib x' y' hi e
   have hx31:=(Qp ((Qb3 (by omega)).1 h1))
   have hlt:i.val<n:=by
    have hA:=(Qb3 (by omega)).1 h1
    simp only[Ql,Bool.and_eq_true,Qi,QcQ,Int.toNat_natCast]at hA
    refine Qr9 ⟨n,by omega⟩ x' i ?_ hi1
    have e2:((2^n:Nat):Int)=(2:Int)^n:=by simp
    have h5:=hA.2.2
    dsimp only;omega
   have hmem:Qdc ((x'.val:Nat):Int) ((i.val:Nat):Int)∈Q3 (n:Nat):=by
    have:=(Qgz ⟨n,by omega⟩).2.2 ((x'.val:Nat):Int) (by rw[←QaN (by omega)];exact h1) i
    rw[QaN (by omega)];exact this
   have:=mono _ hy _ hmem hi2 hp
   rw[h4 i.val hlt hi1]at this;cases this
 ·rintro⟨h1,h2,h3,h4⟩
  refine⟨h1,⟨h2,h3⟩,fun i hi hb=>?_⟩
  obtain⟨x',rfl⟩:=(Qc7 h1).fin;have hmem:Qdc ((x'.val:Nat):Int) ((i:Nat):Int)∈Q3 (n:Nat):=by
   have:=(Qgz ⟨n,by omega⟩).2.2 ((x'.val:Nat):Int) (by rw[←QaN (by omega)];exact h1) ⟨i,by omega⟩
   rw[QaN (by omega)];exact this
  have hd:=QkD x' ⟨i,by omega⟩
  cases hp:p (Qdc ((x'.val:Nat):Int) (i:Nat)) r with
  | false=>rfl
  | true=>
   have:=h4 _ hmem hd.1 hp
   have h5:=hd.2 hb
   dsimp only at h5;omega
theorem QpF{p:Int→Int→Bool}{n:Nat}{r:Int}{d:Int×Int}(hn:1≤n∧n≤5)(hr:0≤r∧r≤4)(mono:Qgv p n r):d∈Qrd p n r↔d.2=r∧Qq6 p n r d.1:=by
 rw[Qk7 hn.2 hr mono,List.mem_map];constructor
 ·rintro⟨x,hx,rfl⟩
  rw[List.mem_filter]at hx;exact⟨rfl,(Qn4 hn hr mono).1 hx⟩
 ·rintro⟨rfl,h⟩
  exact⟨d.1,List.mem_filter.2 ((Qn4 hn hr mono).2 h),rfl⟩
theorem Qk8{p:Int→Int→Bool}{n:Nat}{d:Int×Int}(hn:1≤n∧n≤5)(mono:∀r:Int,0≤r∧r≤4→Qgv p n r):∀{k:Nat},k≤n→(d∈Qbx p n k↔(0≤d.2∧d.2<k)∧Qq6 p n d.2 d.1)
 | 0,_=>by simp only[Qbx,List.not_mem_nil,false_iff];rintro⟨h,_⟩;omega
 | k+1,hk=>by
  rw[Qbx,List.mem_append,@Qk8 p n d hn mono k (by omega),QpF hn ⟨by omega,by omega⟩ (mono _ ⟨by omega,by omega⟩)]
  constructor
  ·rintro(⟨h1,h2⟩|⟨h1,h2⟩)
   ·exact⟨by omega,h2⟩
   ·rw[h1];exact⟨by omega,h2⟩
  ·rintro⟨h1,h2⟩
   by_cases e:d.2=(k:Nat)
   ·right;rw[←e];exact⟨rfl,h2⟩
   ·left;exact⟨by omega,h2⟩
theorem QfJ{p:Int→Int→Bool}{n:Nat}{d:Int×Int}(hn:1≤n∧n≤5)(mono:∀r:Int,0≤r∧r≤4→Qgv p n r):d∈QaR p n↔(0≤d.2∧d.2<n)∧Qq6 p n d.2 d.1:=by
 unfold QaR;rw[Int.toNat_natCast];exact Qk8 hn mono (Nat.le_refl _)
theorem QiA{p:Int→Int→Bool}{n:Nat}(hn:1≤n∧n≤5)(mono:∀r:Int,0≤r∧r≤4→Qgv p n r):∀{k:Nat},k≤n→(Qbx p n k).Pairwise fun d e=>Qjd d<Qjd e
 | 0,_=> .nil
 | k+1,hk=>by
  rw[Qbx,List.pairwise_append];have hk4:(0:Int)≤(k:Nat)∧((k:Nat):Int)≤4:=⟨by omega,by omega⟩
  refine⟨@QiA p n hn mono k (by omega),?_,fun d hd e he=>?_⟩
  ·rw[Qk7 hn.2 hk4 (mono _ hk4),List.pairwise_map]
   refine((Qj3 (n:=(n:Nat)) (by omega)).filter _).imp fun {x y} h=>?_
   rw[Qd4 hk4,Qd4 hk4];omega
  ·rw[Qk8 hn mono (by omega)]at hd
   rw[QpF hn hk4 (mono _ hk4)]at he;obtain⟨d1,d2⟩:=d;obtain⟨e1,e2⟩:=e;obtain⟨rfl,he⟩:=he;obtain⟨hd1,hd⟩:=hd;dsimp only at *;rw[Qd4 (by omega),Qd4 hk4]
   have:=Qe7 (toF d1)
   have:d2.toNat<k:=by omega
   rw[Int.toNat_natCast];omega
theorem Qms{p:Int→Int→Bool}{n:Nat}(hn:1≤n∧n≤5)(mono:∀r:Int,0≤r∧r≤4→Qgv p n r):(QaR p n).Pairwise fun d e=>Qjd d<Qjd e:=by
 unfold QaR;rw[Int.toNat_natCast];exact QiA hn mono (Nat.le_refl _)
theorem Qmr{p q:Int→Int→Bool}{n:Nat}(h:∀r:Int,0≤r∧r<n→∀x∈Q3 (n:Nat),p x r=q x r):QaR p n=QaR q n:=by
 have key:∀k:Nat,k≤n→Qbx p n k=Qbx q n k:=by
  intro k;induction k with
  | zero=>intro _;rfl
  | succ k ih=>
   intro hk;rw[Qbx,Qbx,ih (by omega)]
   congr 1
   unfold Qrd;congr 1
   have:∀(xs:List Int) (tk:List Int),(∀x∈xs,x∈Q3 (n:Nat))→Qi2 p (k:Nat) tk xs=Qi2 q (k:Nat) tk xs:=by
    intro xs;induction xs with
    | nil=>intro tk _;rfl
    | cons x xs ih2=>
     intro tk hx;rw[Qi2,Qi2,h (k:Nat) ⟨by omega,by omega⟩ x (hx x (by simp))]
     split
     ·exact ih2 _ fun y hy=>hx y (by simp[hy])
     ·exact ih2 _ fun y hy=>hx y (by simp[hy])
   exact this _ _ fun x h=>h
 unfold QaR;rw[Int.toNat_natCast];exact key n (Nat.le_refl _)
theorem QjI{p:Int→Int→Bool}{n:Nat}{r z:Int}(hn:1≤n∧n≤5)(hr:0≤r∧r≤4)(mono:Qgv p n r)(hz:z∈Q3 (n:Nat))(hp:p z r=true)(hh:Qt z r=false):∃y,Q7 y z=true∧Qq6 p n r y:=by
 obtain⟨y,h1,h2,h3⟩:=QjH hn.2 hr hz (Nat.le_refl _) hp hh;exact⟨y,h2,(Qn4 hn hr mono).1 ⟨h1,h3⟩⟩
def QeW(ag:Int)(p:Int→Int→Bool)(x r:Int):Bool:=p x r&&(!Q7 x ag||Qt ag r)
theorem Qjq{p:Int→Int→Bool}{n:Nat}{r ag:Int}(hag:R5 ag)(mono:Qgv p n r):Qgv (QeW ag p) n r:=by
 intro x hx y hy hxy h;unfold QeW at *;rw[Bool.and_eq_true,Bool.or_eq_true,Bool.not_eq_true']at *;refine⟨mono x hx y hy hxy h.1,h.2.imp (fun h1=>?_) id⟩
 cases h2:Q7 y ag with
 | false=>rfl
 | true=>rw[Qb8 (Qc7 hx) (Qc7 hy) hag hxy h2]at h1;cases h1
theorem Qzo{x c r:Int}(h:Qt x c=true)(hr:Qt x r=false):c≠r:=fun e=>by rw[e,hr]at h;cases h
theorem QnZ{x y:Int}(hx:R5 x)(hy:R5 y)(h:Q7 x y=true){c:Int}(hc:0≤c∧c≤4)(hb:Qt x c=true):Qt y c=true:=by
 obtain⟨k,rfl⟩:=Int.eq_ofNat_of_zero_le hc.1;exact(Qak hx hy).1 h ⟨k,by omega⟩ hb
theorem QzN{x y:Int}(hx:R5 x)(hy:R5 y)(h:Q7 x y=false):∃k:Nat,k<5∧Qt x (k:Nat)=true∧Qt y (k:Nat)=false:=by
 by_cases q:∃k:Nat,k<5∧Qt x (k:Nat)=true∧Qt y (k:Nat)=false
 ·exact q
 ·have:Q7 x y=true:=(Qak hx hy).2 fun c hc=>by
   cases hb:Qt y (c.val:Nat)with
   | true=>rfl
   | false=>exact absurd ⟨c.val,c.isLt,hc,hb⟩ q
  rw[this]at h;cases h
theorem Qfl{x:Int}(hx:R5 x){k c:Nat}(hk:k<5)(hc:c<5):Qt (Qbd x (k:Nat)) (c:Nat)=(Qt x (c:Nat)||c==k):=by
 have:=Qkh (r:=⟨k,hk⟩) hx ⟨c,hc⟩
 rw[this];congr 1
 by_cases e:c=k
 ·subst e;simp
 ·rw[beq_eq_false_iff_ne.2 e,beq_eq_false_iff_ne.2 (by simp[Fin.ext_iff,e])]
theorem Qth{x:Int}(hx:R5 x){k:Nat}(hk:k<5):Q7 x (Qbd x (k:Nat))=true:=(Qak hx (QdL hx ⟨by omega,by omega⟩)).2 fun c hc=>by rw[Qfl hx hk c.isLt,hc,Bool.true_or]
theorem Qyv{x y:Int}(hx:R5 x)(hy:R5 y){k:Nat}(hk:k<5)(h:Q7 x y=true)(hb:Qt y (k:Nat)=true):Q7 (Qbd x (k:Nat)) y=true:=(Qak (QdL hx ⟨by omega,by omega⟩) hy).2 fun c hc=>by
 rw[Qfl hx hk c.isLt,Bool.or_eq_true,beq_iff_eq]at hc;rcases hc with hc|hc
 ·exact(Qak hx hy).1 h c hc
 ·rw[hc];exact hb
theorem Qq3{n:Nat}{x:Int}(hn:n≤5)(h:Ql (n:Nat) x=true){k:Nat}(hk:k<5)(hb:Qt x (k:Nat)=true):k<n:=by
 have h1:=Qp h
 obtain⟨x',rfl⟩:=(show R5 x from⟨h1.2.2.1,h1.2.2.2⟩).fin
 simp only[Ql,Bool.and_eq_true,Qi,QcQ,Int.toNat_natCast]at h
 refine Qr9 ⟨n,by omega⟩ x' ⟨k,hk⟩ ?_ hb
 have e2:((2^n:Nat):Int)=(2:Int)^n:=by simp
 dsimp only;omega
theorem Qvl:∀n:Fin 6,∀x:Fin 32,∀k:Fin 5,x.val<2^n.val→k.val<n.val→Qbd ((x.val:Nat):Int) ((k.val:Nat):Int)≤2^n.val-1:=by decide+kernel
theorem QjT{n:Nat}{x:Int}(hn:n≤5)(h:Ql (n:Nat) x=true){k:Nat}(hk:k<n):Ql (n:Nat) (Qbd x (k:Nat))=true:=by
 have h1:=Qp h
 obtain⟨x',rfl⟩:=(show R5 x from⟨h1.2.2.1,h1.2.2.2⟩).fin
 have h2:=QdL (x:=((x'.val:Nat):Int)) (r:=(k:Nat)) ⟨by omega,by omega⟩ ⟨by omega,by omega⟩
 simp only[Ql,Bool.and_eq_true,Qi,QcQ,Int.toNat_natCast]at h ⊢
 have e2:((2^n:Nat):Int)=(2:Int)^n:=by simp
 have:=Qvl ⟨n,by omega⟩ x' ⟨k,by omega⟩ (by dsimp only;omega) hk
 dsimp only at this;exact⟨by omega,h2.1,by omega⟩
theorem Qhn{n:Nat}{x r:Int}(hn:1≤n∧n≤5)(hx:x∈Q3 (n:Nat))(hr:0≤r∧r<n):QJ (n:Nat) x r=true:=by
 unfold QJ;rw[Bool.and_eq_true,Bool.and_eq_true,Qi,Qi];exact⟨⟨by omega,(Qb3 (by omega)).1 hx⟩,by omega⟩
theorem QBy{x y:Int}(hx:R5 x)(hy:R5 y)(h1:Q7 x y=true)(h2:Q7 y x=true):x=y:=QcD hx hy ((Qak hx hy).1 h1) ((Qak hy hx).1 h2)
theorem QAs{p:Int→Int→Bool}{n:Nat}{ag:Int}(hn:1≤n∧n≤5)(hag:Ql (n:Nat) ag=true)(mono:∀r:Int,0≤r∧r≤4→Qgv p n r):QrE (n:Nat) ag (QaR p n)=QaR (QeW ag p) n:=by
 have hag5:R5 ag:=by have:=Qp hag;exact⟨this.2.2.1,this.2.2.2⟩
 have mono2:∀r:Int,0≤r∧r≤4→Qgv (QeW ag p) n r:=fun r hr=>Qjq hag5 (mono r hr)
 unfold QrE;rw[if_pos (by unfold QrF;rw[hag,Bool.and_true,decide_eq_true_eq];omega)]
 unfold QCg;obtain⟨L1,L2⟩:=@QgD (n:Nat) ag (by omega) (QaR p n)
 obtain⟨S1,S2⟩:=QlY L2;have mem:∀d:Int×Int,d∈Qfj (n:Nat) ag (QaR p n)→(0≤d.2∧d.2<n)∧d.1∈Q3 (n:Nat)∧Qt d.1 d.2=false∧QeW ag p d.1 d.2=true:=by
  intro d hd;unfold Qfj at hd;rw[List.mem_flatMap]at hd;obtain⟨e,he,hd⟩:=hd;rw[QfJ hn mono]at he;obtain⟨e1,e2,e3,e4,_⟩:=he;unfold Quv at hd;rw[if_pos (Qhn hn e2 e1)]at hd;split at hd
  ·rename_i hb
   rw[List.mem_singleton]at hd;subst hd;refine⟨e1,e2,e3,?_⟩
   unfold QeW;rw[e4,hb];rfl
  ·rename_i hb
   rw[Bool.or_eq_true,not_or,Bool.not_eq_true',Bool.not_eq_false,Bool.not_eq_true]at hb;rw[Int.toNat_natCast,QfB]at hd;obtain⟨k,k1,k2,k3,rfl⟩:=hd;have he5:=Qc7 e2
   have hA:=(Qb3 (n:=(n:Nat)) (by omega)).1 e2
   have hx:Qbd e.1 (k:Nat)∈Q3 (n:Nat):=(Qb3 (by omega)).2 (QjT hn.2 hA k1)
   refine⟨e1,hx,?_,?_⟩
   ·obtain⟨j,hj⟩:=Int.eq_ofNat_of_zero_le e1.1
    dsimp only;rw[hj]at e3 k3 e1 ⊢;rw[Qfl he5 (by omega) (by omega),e3,Bool.false_or,beq_eq_false_iff_ne]
    intro h;exact k3 (by rw[h])
   ·unfold QeW
    dsimp only;rw[mono _ ⟨by omega,by omega⟩ _ e2 _ hx (Qth he5 (by omega)) e4,Bool.true_and,Bool.or_eq_true,Bool.not_eq_true']
    left
    cases hq:Q7 (Qbd e.1 (k:Nat)) ag with
    | false=>rfl
    | true=>
     have:=QnZ (Qc7 hx) hag5 hq (c:=(k:Nat)) ⟨by omega,by omega⟩ (by rw[Qfl he5 (by omega) (by omega)];simp)
     rw[k2]at this;cases this
 have least:∀(x r:Int),(0≤r∧r<n)→Qq6 (QeW ag p) n r x→(x,r)∈Qfj (n:Nat) ag (QaR p n):=by
  rintro x r hr ⟨hx,hb,hq,hl⟩;have hr4:0≤r∧r≤4:=⟨by omega,by omega⟩
  have hq0:=hq
  unfold QeW at hq;rw[Bool.and_eq_true,Bool.or_eq_true,Bool.not_eq_true']at hq;obtain⟨y,hyx,hy⟩:=QjI hn hr4 (mono r hr4) hx hq.1 hb;have hyd:(y,r)∈QaR p n:=(QfJ hn mono).2 ⟨hr,hy⟩
  obtain⟨y1,y2,y3,y4⟩:=hy;unfold Qfj;rw[List.mem_flatMap];refine⟨(y,r),hyd,?_⟩
  unfold Quv;rw[if_pos (Qhn hn y1 hr)]
  by_cases hbk:(!Q7 y ag||Qt ag r)=true
  ·rw[if_pos hbk,List.mem_singleton]
   have:y=x:=hl y y1 hyx (by unfold QeW;rw[y3,hbk];rfl)
   rw[this]
  ·rw[if_neg hbk,Int.toNat_natCast,QfB]
   rw[Bool.or_eq_true,not_or,Bool.not_eq_true',Bool.not_eq_false,Bool.not_eq_true]at hbk;have hxa:Q7 x ag=false:=by
    rcases hq.2 with h|h
    ·exact h
    ·rw[hbk.2]at h;cases h
   obtain⟨k,k5,kx,kag⟩:=QzN (Qc7 hx) hag5 hxa;have kn:=Qq3 hn.2 ((Qb3 (n:=(n:Nat)) (by omega)).1 hx) k5 kx
   have y5:=Qc7 y1
   have hA:=(Qb3 (n:=(n:Nat)) (by omega)).1 y1
   have hm:Qbd y (k:Nat)∈Q3 (n:Nat):=(Qb3 (by omega)).2 (QjT hn.2 hA kn)
   have hin:Q7 (Qbd y (k:Nat)) x=true:=Qyv y5 (Qc7 hx) k5 hyx kx
   have:Qbd y (k:Nat)=x:=hl _ hm hin (by
    unfold QeW;rw[mono r hr4 y y1 _ hm (Qth y5 k5) y3,Bool.true_and,Bool.or_eq_true,Bool.not_eq_true'];left
    cases hz:Q7 (Qbd y (k:Nat)) ag with
    | false=>rfl
    | true=>
     have:=QnZ (Qc7 hm) hag5 hz (c:=(k:Nat)) ⟨by omega,by omega⟩ (by rw[Qfl y5 k5 k5];simp)
     rw[kag]at this;cases this)
   refine⟨k,kn,kag,Qzo kx hb,?_⟩
   rw[this]
 refine Qir (key:=Qjd) (S1.filter _) (Qms hn mono2) fun d=>?_
 rw[List.mem_filter,S2,QfJ hn mono2,List.all_eq_true];constructor
 ·rintro⟨h1,h2⟩
  obtain⟨m1,m2,m3,m4⟩:=mem d h1;refine⟨m1,m2,m3,m4,fun y hy hyd hq=>?_⟩
  have hr4:0≤d.2∧d.2≤4:=⟨by omega,by omega⟩
  have hyb:Qt y d.2=false:=by
   cases hb:Qt y d.2 with
   | false=>rfl
   | true=>rw[QnZ (Qc7 hy) (Qc7 m2) hyd hr4 hb]at m3;cases m3
  obtain⟨z,hzy,hz⟩:=QjI hn hr4 (mono2 _ hr4) hy hq hyb;have hzl:=least z d.2 m1 hz
  have ht:=h2 (z,d.2) ((S2 _).2 hzl)
  unfold Qlx at ht;have hzd:=Qb8 (Qc7 hz.1) (Qc7 hy) (Qc7 m2) hzy hyd
  dsimp only at ht;rw[hzd,Bool.not_true,Bool.or_false,Bool.or_eq_true,beq_iff_eq,bne_self_eq_false,Bool.false_eq_true,or_false]at ht;have e:z=d.1:=congrArg Prod.fst ht
  rw[e]at hzy;exact QBy (Qc7 hy) (Qc7 m2) hyd hzy
 ·rintro⟨h1,h2⟩
  refine⟨least d.1 d.2 h1 h2,fun e he=>?_⟩
  rw[S2]at he;obtain⟨m1,m2,m3,m4⟩:=mem e he;unfold Qlx
  by_cases q1:e.2=d.2
  ·cases q2:Q7 e.1 d.1 with
   | false=>simp
   | true=>
    have:=h2.2.2.2 e.1 m2 q2 (by rw[←q1];exact m4)
    have:e=d:=Prod.ext this q1
    rw[this];simp
  ·simp[q1]
end Go.Own

namespace Go.Own
open Go Go.Proofs
attribute [local go_sem] Qy Qcw cMD QdR Tryz.results101 Qdh Tryz.results77
attribute [local go_sem] Qh Qe Qaa Qac Qab Qaf QaX QdJ Qu QaV
def isM(c:Int)(rs:List (List Int))(m:Int)(qs:List (Int×Int)):Bool:=(QK c rs&&QH m)&&qs==mdL c rs m
def Qnn:Qb:=⟨[],false,fun
 | [.agg [.v (.int .i64 c),.sl 1 l,.v (.int .i64 m),.sl 2 q]]=>some (WfS l∧WfD q∧ -9223372036854775808≤c∧c≤9223372036854775807,[⟨false,[.d (.v (.bool (isM c (unS l) m (unD q))))]⟩],[])
 | _=>none⟩
attribute [local go_sem] Qnn
theorem QnR:Qa E0 101 Qnn:=by
 refine QE (E:=E0) (T:=mkT Tryz.prog [(138,Qy),(139,Qcw),(141,cMD),(153,QdR)] false (fun _=>false) true (fun _=>false)) (Qd (E:=E0) (.cons Qa5 (.cons Qb2 (.cons QxX (.cons QmN .nil))))) (fn:=Tryz.f101) Tryz.func101 (by kernel_rfl) rfl Qc (by kernel_rfl) rfl ?_
 intro args p rs ms hr;unfold Qnn at hr;dsimp only at hr;split at hr;rotate_left
 ·cases hr
 rename_i c l m q;cases hr;refine⟨rfl,rfl,nLe rfl,?_⟩
 have hm:=mxE;rintro⟨h1,h2,hc1,hc2⟩ bs;obtain⟨rs,rfl,hx,hy⟩:=h1.ex;obtain⟨ds,rfl,hd⟩:=h2.ex;clear h1 h2;rw[Qz,Qh];unfold isM;have h3:=(@Qcq c rs m).1
 cases h4:QK c rs
 ·rw[Bool.false_and,Bool.false_and]
  (repeat' first|refine gA fun _=>?_|apply fkI<;>intro hb<;>try simp only[ew,h4]at hb|simp only[go_sem,simprocAttr, *,h4])
 ·cases h5:QH m
  ·rw[Bool.and_false,Bool.false_and]
   (repeat' first|refine gA fun _=>?_|apply fkI<;>intro hb<;>try simp only[ew,h4,h5]at hb|simp only[go_sem,simprocAttr, *,h4,h5])
  ·rw[Bool.and_true,Bool.true_and]
   generalize hz:mdL c rs m=zs at h3 ⊢;(repeat' first|refine gA fun _=>?_|apply fkI<;>intro hb<;>try simp only[ew,h4,h5,hz]at hb|simp only[go_sem,simprocAttr, *,h4,h5])
theorem QnS:Qa E0 77 Qnn:=by
 refine QE (E:=E0) (T:=mkT Tryz.prog [(27,Qdh),(13,cMD),(120,QdR)] false (fun _=>false) true (fun _=>false)) (Qd (E:=E0) (.cons Qdn (.cons QxY (.cons QmO .nil)))) (fn:=Tryz.f77) Tryz.func77 (by kernel_rfl) rfl Qc (by kernel_rfl) rfl ?_
 intro args p rs ms hr;unfold Qnn at hr;dsimp only at hr;split at hr;rotate_left
 ·cases hr
 rename_i c l m q;cases hr;refine⟨rfl,rfl,nLe rfl,?_⟩
 have hm:=mxE;rintro⟨h1,h2,hc1,hc2⟩ bs;obtain⟨rs,rfl,hx,hy⟩:=h1.ex;obtain⟨ds,rfl,hd⟩:=h2.ex;clear h1 h2;rw[Qz,Qh];unfold isM;have h3:=(@Qcq c rs m).1
 cases h4:(QK c rs&&QH m)
 ·rw[Bool.false_and]
  (repeat' first|refine gA fun _=>?_|apply fkI<;>intro hb<;>try simp only[ew,h4]at hb|simp only[go_sem,simprocAttr, *,h4])
 ·rw[Bool.true_and]
  generalize hz:mdL c rs m=zs at h3 ⊢;(repeat' first|refine gA fun _=>?_|apply fkI<;>intro hb<;>try simp only[ew,h4,hz]at hb|simp only[go_sem,simprocAttr, *,h4])
end Go.Own
namespace Go.Own
open Go Go.Proofs
attribute [local go_sem] QlN Tryz.results140 Tryz.results75 Qy Qcw cMD Tryz.results91 Qdh Tryz.results39
attribute [local go_sem] Qh Qe Qaa Qac Qab Qaf QaX QdJ Qu QaV
def QeN:Qb:=⟨[],false,fun
 | [.agg [.v (.int .i64 c),.sl 1 l]]=>some (WfS l∧l.length≤16777216∧∀r∈unS l,r.length≤16777216,[⟨true,[.d (.v (.int .i64 c)),.own 1 l 1]⟩],[])
 | _=>none⟩
attribute [local go_sem] QeN
theorem QlZ:Qa E0 140 QeN:=by
 refine QE (E:=E0) (T:=mkT Tryz.prog [(185,QlN)] false (fun _=>false) true (fun _=>false)) (Qd (E:=E0) (.cons QvW .nil)) (fn:=Tryz.f140) Tryz.func140 (by kernel_rfl) rfl Qc (by kernel_rfl) rfl ?_
 intro args p rs ms hr;unfold QeN at hr;dsimp only at hr;split at hr;rotate_left
 ·cases hr
 rename_i c l;cases hr;refine⟨rfl,rfl,nLe rfl,?_⟩
 have hm:=mxE;rintro⟨h1,h2,h3⟩ bs;obtain⟨rs,rfl,hx,hy⟩:=h1.ex;clear h1;rw[Qz]at h3;rw[Qae]at h2;exact gQ
theorem Ql0:Qa E0 75 QeN:=by
 refine QE (E:=E0) (T:=mkT Tryz.prog [] false (fun _=>false) true (fun d=>d==15)) (Qd (E:=E0) .nil) (fn:=Tryz.f75) Tryz.func75 (by kernel_rfl) rfl Qc (by kernel_rfl) rfl ?_
 intro args p rs ms hr;unfold QeN at hr;dsimp only at hr;split at hr;rotate_left
 ·cases hr
 rename_i c l;cases hr;refine⟨rfl,rfl,nLe rfl,?_⟩
 have hm:=mxE;rintro⟨h1,h2,h3⟩ bs;obtain⟨rs,rfl,hx,hy⟩:=h1.ex;clear h1;rw[Qz]at h3;rw[Qae]at h2;(repeat' first|refine gA fun _=>?_|apply fkI<;>intro hb<;>try simp only[ew]at hb|simp only[go_sem,simprocAttr, *])
 refine lpI {ι:=Nat,rs:=[(8,27)],mods:=[(4,fun i=> .one (.d (.v (.int .i64 i))))],boxes:=[(1,fun _=>[.d (.v (.int .i64 c)),.d (.sl 1 (sL rs))]),(2,fun _=>[.d (.v (.int .i64 0)),.d (.v (.slice none 0 0))]),(3,fun i=>[.d (.v (.int .i64 c)),.own 1 (sL (rs.take i)) 1])],arrs:=[],ok:=fun i=>i≤rs.length,mu:=fun i=>rs.length-i} rfl 0 (Nat.zero_le _) ?_ fun i hi=>?_
 ·exact gQ
 ·dsimp only at i hi
  have q1:=QbM hy i
  have q2:=QbM h3 i
  by_cases h5:i<rs.length
  ·have e:=Qf h5 []
   (repeat' first|refine gA fun _=>?_|apply fkI<;>intro hb<;>try simp only[ew,Qbb,Q4]at hb|simp only[go_sem,simprocAttr, *,Qbb,Q4])
   refine lpN (i+1) (by dsimp only;omega) (by dsimp only;omega) ?_
   (repeat' first|refine gA fun _=>?_|apply fkI<;>intro hb<;>try simp only[ew,Qbb,e]at hb|simp only[go_sem,simprocAttr, *,Qbb])
  ·have e5:i=rs.length:=by omega
   subst e5;have e6:rs.take rs.length=rs:=List.take_length
   (repeat' first|refine gA fun _=>?_|apply fkI<;>intro hb<;>try simp only[ew,e6]at hb|simp only[go_sem,simprocAttr, *])
   all_goals first|rfl|skip
def nmB(c:Int)(rs:List (List Int))(m:Int):Bool:=QK c rs&&QH m
def nmC(c:Int)(rs:List (List Int))(m:Int):Int:=if nmB c rs m then c else 0
def nmR(c:Int)(rs:List (List Int))(m:Int):List (List Int):=if nmB c rs m then rs else []
def nmM(c:Int)(rs:List (List Int))(m:Int):Int:=if nmB c rs m then m else 0
theorem Qc9{c:Int}{rs:List (List Int)}(h:QK c rs=true):rs.length≤40∧∀r∈rs,r.length≤5:=by
 obtain⟨n,rfl,n1,n5,h40,hl⟩:=QL h;refine⟨h40,fun r hr=>?_⟩
 obtain⟨i,hi,rfl⟩:=List.getElem_of_mem hr;have:=hl i hi
 simp only[List.getD_eq_getElem?_getD,List.getElem?_eq_getElem hi,Option.getD_some]at this
 omega
def QqG:Qb:=⟨[],false,fun
 | [.agg [.v (.int .i64 c),.sl 1 l],.one (.v (.int .i64 m))]=>some (WfS l∧ -9223372036854775808≤c∧c≤9223372036854775807,
   [⟨true,[.d (.v (.int .i64 (nmC c (unS l) m))),.own 1 (sL (nmR c (unS l) m)) 1,.d (.v (.int .i64 (nmM c (unS l) m))),.own 2 (dL (mdL c (unS l) m)) 1]⟩,⟨false,[.d (.v (.bool (nmB c (unS l) m)))]⟩],[])
 | _=>none⟩
attribute [local go_sem] QqG
theorem QwN:Qa E0 91 QqG:=by
 refine QE (E:=E0) (T:=mkT Tryz.prog [(138,Qy),(139,Qcw),(140,QeN),(141,cMD)] false (fun _=>false) true (fun _=>false)) (Qd (E:=E0) (.cons Qa5 (.cons Qb2 (.cons QlZ (.cons QxX .nil))))) (fn:=Tryz.f91) Tryz.func91 (by kernel_rfl) rfl Qc (by kernel_rfl) rfl ?_
 intro args p rs ms hr;unfold QqG at hr;dsimp only at hr;split at hr;rotate_left
 ·cases hr
 rename_i c l m;cases hr;refine⟨rfl,rfl,nLe rfl,?_⟩
 have hm:=mxE;rintro⟨h1,hc1,hc2⟩ bs;obtain⟨rs,rfl,hx,hy⟩:=h1.ex;clear h1;rw[Qz];cases hv:(QK c rs&&QH m)
 ·have e1:nmC c rs m=0:=by unfold nmC nmB;rw[hv];rfl
  have e2:nmR c rs m=[]:=by unfold nmR nmB;rw[hv];rfl
  have e3:nmM c rs m=0:=by unfold nmM nmB;rw[hv];rfl
  have e4:nmB c rs m=false:=hv
  have e5:mdL c rs m=[]:=by unfold mdL;rw[hv];rfl
  have e6:(!QK c rs|| !QH m)=true:=by rw[←Bool.not_and,hv];rfl
  have e0:dL []=[]:=rfl
  have e7:sL []=[]:=rfl
  rw[e1,e2,e3,e4,e5];clear e1 e2 e3 e4 e5 hv;(repeat' first|refine gA fun _=>?_|apply fkI<;>intro hb<;>try simp only[ew,e6,e0,e7]at hb|simp only[go_sem,simprocAttr, *])
  all_goals first|rfl|skip
 ·have e1:nmC c rs m=c:=by unfold nmC nmB;rw[hv];rfl
  have e2:nmR c rs m=rs:=by unfold nmR nmB;rw[hv];rfl
  have e3:nmM c rs m=m:=by unfold nmM nmB;rw[hv];rfl
  have e4:nmB c rs m=true:=hv
  have e6:(!QK c rs|| !QH m)=false:=by rw[←Bool.not_and,hv];rfl
  rw[e1,e2,e3,e4];clear e1 e2 e3 e4;rw[Bool.and_eq_true]at hv;obtain⟨t1,t2⟩:=Qc9 hv.1;have t3:∀r∈rs,r.length≤16777216:=fun r hr=>Nat.le_trans (t2 r hr) (by decide)
  clear hv t2;have h3:=(@Qcq c rs m).1
  generalize hz:mdL c rs m=zs at h3 ⊢;(repeat' first|refine gA fun _=>?_|apply fkI<;>intro hb<;>try simp only[ew,e6,hz]at hb|simp only[go_sem,simprocAttr, *])
  all_goals first|rfl|skip
theorem QwO:Qa E0 39 QqG:=by
 refine QE (E:=E0) (T:=mkT Tryz.prog [(27,Qdh),(75,QeN),(13,cMD)] false (fun _=>false) true (fun _=>false)) (Qd (E:=E0) (.cons Qdn (.cons Ql0 (.cons QxY .nil)))) (fn:=Tryz.f39) Tryz.func39 (by kernel_rfl) rfl Qc (by kernel_rfl) rfl ?_
 intro args p rs ms hr;unfold QqG at hr;dsimp only at hr;split at hr;rotate_left
 ·cases hr
 rename_i c l m;cases hr;refine⟨rfl,rfl,nLe rfl,?_⟩
 have hm:=mxE;rintro⟨h1,hc1,hc2⟩ bs;obtain⟨rs,rfl,hx,hy⟩:=h1.ex;clear h1;rw[Qz];cases hv:(QK c rs&&QH m)
 ·have e1:nmC c rs m=0:=by unfold nmC nmB;rw[hv];rfl
  have e2:nmR c rs m=[]:=by unfold nmR nmB;rw[hv];rfl
  have e3:nmM c rs m=0:=by unfold nmM nmB;rw[hv];rfl
  have e4:nmB c rs m=false:=hv
  have e5:mdL c rs m=[]:=by unfold mdL;rw[hv];rfl
  have e0:dL []=[]:=rfl
  have e7:sL []=[]:=rfl
  rw[e1,e2,e3,e4,e5];clear e1 e2 e3 e4 e5;(repeat' first|refine gA fun _=>?_|apply fkI<;>intro hb<;>try simp only[ew,hv,e0,e7]at hb|simp only[go_sem,simprocAttr, *,hv])
  all_goals first|rfl|skip
 ·have e1:nmC c rs m=c:=by unfold nmC nmB;rw[hv];rfl
  have e2:nmR c rs m=rs:=by unfold nmR nmB;rw[hv];rfl
  have e3:nmM c rs m=m:=by unfold nmM nmB;rw[hv];rfl
  have e4:nmB c rs m=true:=hv
  rw[e1,e2,e3,e4];clear e1 e2 e3 e4;have hv2:=hv
  rw[Bool.and_eq_true]at hv2;obtain⟨t1,t2⟩:=Qc9 hv2.1;have t3:∀r∈rs,r.length≤16777216:=fun r hr=>Nat.le_trans (t2 r hr) (by decide)
  clear hv2 t2;have h3:=(@Qcq c rs m).1
  generalize hz:mdL c rs m=zs at h3 ⊢;(repeat' first|refine gA fun _=>?_|apply fkI<;>intro hb<;>try simp only[ew,hv,hz]at hb|simp only[go_sem,simprocAttr, *,hv])
  all_goals first|rfl|skip
end Go.Own

namespace Go.Own
open Go
section
variable {T:QR} {Q:Exit→St→Prop} {s:St}
def RS(T:QR)(ops:Array Oper)(K:St→Prop)(l:List Oper)(s:St):Prop:=TL T ops K l s
theorem Qom{i:Nat}{ops:Array Oper}{dr:Bool}:wpc T (.region i ops dr) Q s=RS T ops (Q .normal) ops.toList s:=rfl
theorem Qa0{ops:Array Oper}{K:St→Prop}{l:List Oper}(h:let Kx:=K;TL T ops Kx l s):RS T ops K l s:=h
attribute [irreducible] RS
theorem Qua{c:Code}{nm:Bool}{I:QU}{i:I.ι}{rs:List (Nat×Nat)}{ps:List (Nat×Pat)}{al:List (Nat×Nat)}(h:let Qx:=Q;let sx:=s;wpc T c (QkZ nm I i Qx) (Qa3 rs sx ps al)):wpc T c (QkZ nm I i Q) (Qa3 rs s ps al):=h
end
end Go.Own
