/- Contracts. Conditions: as stated. -/
import Derived.Test.YtnmkpepdacbfaaaGreatDoorRp10
set_option linter.all false
set_option maxRecDepth 20000
set_option maxHeartbeats 2000000
namespace Go.Own
open Go Go.Proofs
attribute [local go_sem] Qmg Qcw Tryz.results47 Tryz.results45 Qbr QfO Tryz.results28
def cnt(x:Int):Nat:=(mem x).length
def Qn1(s:Nat):Nat→List Int
 | 0=>[]
 | x+1=>Qn1 s x++(if cnt (x:Nat)=s then [(x:Int)]else [])
def Qn2(M:Nat):Nat→List Int
 | 0=>[]
 | s+1=>Qn2 M s++Qn1 s M
def pbs(n:Nat):List Int:=Qn2 (2^n) (n+1)
def Q8(n:Int):List Int:=if inB n 0 5 then pbs n.toNat else []
theorem Qfx{s:Nat}:∀{x:Nat},(Qn1 s x).length≤x
 | 0=>KP _
 | x+1=>by
  have:=@Qfx s x
  rw[Qn1,KN];split<;>simp<;>omega
theorem Qjk{M:Nat}:∀{s:Nat},(Qn2 M s).length≤s*M
 | 0=>KJ _
 | s+1=>by
  have h1:=@Qjk M s
  have h2:=@Qfx s M
  rw[Qn2,KN,Nat.succ_mul];omega
theorem QlX:∀n:Fin 6,(pbs n.val).length=2^n.val∧∀x∈pbs n.val,0≤x∧x<2^n.val:=by decide+kernel
theorem QH{n:Int}:(Q8 n).length≤32∧(∀x∈Q8 n,0≤x∧x≤31)∧∀i,i<(Q8 n).length→0≤(Q8 n).getD i 0∧(Q8 n).getD i 0≤31:=by
 have h:(Q8 n).length≤32∧∀x∈Q8 n,0≤x∧x≤31:=by
  unfold Q8;split
  ·rename_i h
   rw[Qj]at h;have hn:n.toNat<6:=by omega
   obtain⟨h1,h2⟩:=QlX ⟨n.toNat,hn⟩;dsimp only at h1 h2;have h3:(2:Nat)^n.toNat≤2^5:=K2 (by omega) (by omega)
   have h4:(2:Int)^n.toNat≤32:=(QBO h.1 h.2).2
   refine⟨by omega,fun x hx=>?_⟩
   have:=h2 x hx
   omega
  ·simp
 exact⟨h.1,h.2,fun i hi=>h.2 _ (QE hi 0)⟩
def Qbc(tk:List Int)(x:Int):Bool:=tk.any fun y=>Qab y x
def QjG(p:Int→Int→Bool)(r:Int):List Int→List Int→List Int
 | tk,[]=>tk
 | tk,x::xs=>QjG p r (if(!Qu x r&& !Qbc tk x&&p x r)=true then tk++[x]else tk) xs
def Qss(p:Int→Int→Bool)(n r:Int):List (Int×Int):=(QjG p r [] (Q8 n)).map fun x=>(x,r)
def QbJ(p:Int→Int→Bool)(n:Int):Nat→List (Int×Int)
 | 0=>[]
 | r+1=>QbJ p n r++Qss p n (r:Nat)
def Qa0(p:Int→Int→Bool)(n:Int):List (Int×Int):=QbJ p n n.toNat
theorem Qjd{p:Int→Int→Bool}{r:Int}:∀{xs tk:List Int},(QjG p r tk xs).length≤tk.length+xs.length
 | [],tk=>by simp[QjG]
 | x::xs,tk=>by
  rw[QjG];have:=@Qjd p r xs (if(!Qu x r&& !Qbc tk x&&p x r)=true then tk++[x]else tk)
  have h2:(if(!Qu x r&& !Qbc tk x&&p x r)=true then tk++[x]else tk).length≤tk.length+1:=by split<;>simp
  simp only[List.length_cons]
  omega
theorem QqL{p:Int→Int→Bool}{r:Int}:∀{xs tk:List Int} {y:Int},y∈QjG p r tk xs→y∈tk∨(y∈xs∧Qu y r=false∧p y r=true)
 | [],tk,y,h=>Or.inl h
 | x::xs,tk,y,h=>by
  rw[QjG]at h;rcases QqL h with h|⟨h,h2⟩
  ·split at h
   ·rename_i hc
    simp only[KB,Ko]at hc
    rcases KG.1 h with h|h
    ·exact Or.inl h
    ·rw[KH]at h
     subst h;exact Or.inr ⟨by simp,hc.1.1,hc.2⟩
   ·exact Or.inl h
  ·exact Or.inr ⟨by simp[h],h2⟩
theorem Qo0{p:Int→Int→Bool}{n r:Int}:(Qss p n r).length≤32:=by
 unfold Qss;rw[KV];have:=@Qjd p r (Q8 n) []
 have h2:=(@QH n).1
 simp only[Yb]at this
 omega
theorem QaV{p:Int→Int→Bool}{n:Int}:∀{r:Nat},(QbJ p n r).length≤r*32
 | 0=>KJ _
 | r+1=>by
  have h1:=@QaV p n r
  have h2:=@Qo0 p n (r:Nat)
  rw[QbJ,KN,Nat.succ_mul];omega
theorem Qf9{p:Int→Int→Bool}{n:Int}:∀{k:Nat} {d:Int×Int},d∈QbJ p n k→(0≤d.1∧d.1≤31)∧(0≤d.2∧d.2<k)∧Qu d.1 d.2=false∧p d.1 d.2=true
 | 0,d,h=>by cases h
 | k+1,d,h=>by
  rw[QbJ]at h;rcases KG.1 h with h|h
  ·obtain⟨h1,h2,h3⟩:=Qf9 h
   exact⟨h1,by omega,h3⟩
  ·unfold Qss at h
   obtain⟨x,hx,rfl⟩:=KQ.1 h;rcases QqL hx with hx|⟨hx,h2,h3⟩
   ·cases hx
   ·exact⟨(@QH n).2.1 x hx,by dsimp only;omega,h2,h3⟩
theorem Qjc{p:Int→Int→Bool}{n:Int}(h5:n≤5):(Qa0 p n).length≤160∧∀d∈Qa0 p n,Qbv d:=by
 have h1:=@QaV p n n.toNat
 refine⟨by unfold Qa0;omega,fun d hd=>?_⟩
 obtain⟨h2,h3,_⟩:=Qf9 hd;exact⟨h2,by omega,by omega⟩
theorem Qu1{p:Int→Int→Bool}{r:Int}{L tk:List Int}{i:Nat}(h:i<L.length):QjG p r tk (L.drop i)=QjG p r (if(!Qu (L.getD i 0) r&& !Qbc tk (L.getD i 0)&&p (L.getD i 0) r)=true then tk++[L.getD i 0]else tk) (L.drop (i+1)):=by
 rw[QaZ h 0,QjG]
def pjB(ds:List (Int×Int))(set:Int)(x r:Int):Bool:=Qab x set&&Qu set r&&Qu (clo ds x) r
def pdL(n:Int)(ds:List (Int×Int))(set:Int):List (Int×Int):=if QJ n ds&&Ql n set then Qa0 (pjB ds set) n else []
theorem Qjl{n:Int}{ds:List (Int×Int)}{set:Int}:(pdL n ds set).length≤160∧(∀d∈pdL n ds set,Qbv d)∧∀i,i<(pdL n ds set).length→(0≤((pdL n ds set).getD i (0,0)).1∧((pdL n ds set).getD i (0,0)).1≤31)∧0≤((pdL n ds set).getD i (0,0)).2∧((pdL n ds set).getD i (0,0)).2≤4:=by
 have h:(pdL n ds set).length≤160∧∀d∈pdL n ds set,Qbv d:=by
  unfold pdL;split
  ·rename_i h
   rw[KB]at h;exact Qjc (Qq h.2).2.1
  ·simp
 exact⟨h.1,h.2,fun i hi=>h.2 _ (QE hi (0,0))⟩
theorem Qnn{p:Int→Int→Bool}{r:Int}(h:∀x,p x r=false):∀{xs tk:List Int},QjG p r tk xs=tk
 | [],tk=>rfl
 | x::xs,tk=>by rw[QjG,h x,YM,if_neg (by decide)];exact Qnn h
theorem Qu0{p:Int→Int→Bool}{n r:Int}(h:∀x,p x r=false):Qss p n r=[]:=by unfold Qss;rw[Qnn h];rfl
def QhF(a:Int×Int)(e:Int×Int):Bool:=e.2==a.2&&(QV .and .i64 e.1 a.1==e.1)
def cov(ds:List (Int×Int))(a:Int×Int):Bool:=ds.any (QhF a)
theorem Qt4{T:List (Int×Int)}{tk:List Int}{x:Int}{r:Nat}(hT:∀d∈T,d.2<(r:Int))(ht:∀y∈tk,0≤y∧y≤31)(hx:0≤x∧x≤31):cov (T++tk.map fun y=>(y,(r:Int))) (x,(r:Int))=Qbc tk x:=by
 unfold cov Qbc;rw[List.any_append,List.any_map];have e:T.any (QhF (x,(r:Int)))=false:=by
  rw[List.any_eq_false];intro d hd;have:=hT d hd
  simp only[QhF,KB,Kh]
  omega
 rw[e,K8];rw[Kp,List.any_eq_true,List.any_eq_true];have key:∀y∈tk,(QhF (x,(r:Int))∘fun y=>(y,(r:Int))) y=Qab y x:=fun y hy=>by
  simp only[Function.comp,QhF,beq_self_eq_true,KY]
  exact Qdx (ht y hy) hx
 constructor
 ·rintro⟨y,hy,h⟩
  exact⟨y,hy,by rw[←key y hy];exact h⟩
 ·rintro⟨y,hy,h⟩
  exact⟨y,hy,by rw[key y hy];exact h⟩
theorem QoZ:Qa E0 47 Qmg:=by
 refine QG (E:=E0) (T:=mkT Tryz.prog [(63,Qcw)] false (fun _=>false) true (fun _=>false)) (Qd (E:=E0) (.cons QjC .nil)) (fn:=Tryz.f47) Tryz.func47 kR rfl Qc kR rfl ?_
 intro args p rs ms hr;unfold Qmg at hr;dsimp only at hr;split at hr;rotate_left
 ·cases hr
 rename_i x;cases hr;refine⟨rfl,rfl,nLe rfl,?_⟩
 have hm:=mxE;intro _ bs;unfold mem;cases hv:Ql 5 x
 ·refine gR ?_
  refine lpI {ι:=Unit,rs:=[(6,23)],mods:=[(4,fun _=> .one (.d (.v (.int .i64 0)))),(3,fun _=> .one (.own 1 [] 1))],boxes:=[],arrs:=[],ok:=fun _=>True,mu:=fun i=>0} rfl () trivial ?_ fun i hi=>?_
  ·exact gQ
  ·dsimp only at i hi
   exact gQ
 ·simp only[if_true]
  refine gR ?_
  refine lpI {ι:=Nat,rs:=[(6,23)],mods:=[(4,fun i=> .one (.d (.v (.int .i64 i)))),(3,fun i=> .one (.own 1 (iL (Qdw x i)) 1))],boxes:=[],arrs:=[],ok:=fun i=>i≤5,mu:=fun i=>5-i} rfl 0 (KJ _) ?_ fun i hi=>?_
  ·exact gQ
  ·dsimp only at i hi
   have hl:=@QbX x i
   by_cases h5:i<5
   ·have hp:=p5 (c:=i) h5
    have h5':decide ((i:Int)<5)=true:=KZ (by omega)
    cases hh:Qu x (i:Nat)
    ·have hb:(QV .and .i64 (x.fdiv (2^i)) 1==1)=false:=by rw[←hh];unfold Qu;rw[KE]
     have e:Qdw x (i+1)=Qdw x i:=by simp[Qdw,hh]
     clear hh;have q0:=@Qi;refine gR ?_;clear q0;intros
     refine lpQ (i+1) ?_
     exact gP
    ·have hb:(QV .and .i64 (x.fdiv (2^i)) 1==1)=true:=by rw[←hh];unfold Qu;rw[KE]
     have e:iL (Qdw x i)++[[D.v (.int .i64 i)]]=iL (Qdw x (i+1)):=by simp[Qdw,hh,iL]
     clear hh;have q0:=@Qi;refine gR ?_;clear q0;intros
     refine lpQ (i+1) ?_
     exact gP
   ·have e:i=5:=by omega
    subst e;exact gQ
def QrM:Qb:=⟨[],false,fun
 | [.one (.v (.int .i64 x))]=>some (True,[⟨false,[.d (.v (.int .i64 (cnt x)))]⟩],[])
 | _=>none⟩
attribute [local go_sem] QrM
theorem Qov:Qa E0 45 QrM:=by
 refine QG (E:=E0) (T:=mkT Tryz.prog [(47,Qmg)] false (fun _=>false) true (fun _=>false)) (Qd (E:=E0) (.cons QoZ .nil)) (fn:=Tryz.f45) Tryz.func45 kR rfl Qc kR rfl ?_
 intro args p rs ms hr;unfold QrM at hr;dsimp only at hr;split at hr;rotate_left
 ·cases hr
 rename_i x;cases hr;refine⟨rfl,rfl,nLe rfl,?_⟩
 have hm:=mxE;intro _ bs;unfold cnt;have hl:=@Qet x
 exact gQ
def Qke:Qb:=⟨[],false,fun
 | [.one (.v (.int .i64 n))]=>some (-9223372036854775808≤n∧n≤9223372036854775807,[⟨false,[.own 1 (iL (Q8 n)) 1]⟩],[])
 | _=>none⟩
attribute [local go_sem] Qke
theorem Qo{xs:List Int}{n:Int}:iL xs++[[D.v (.int .i64 n)]]=iL (xs++[n]):=by simp[iL]
theorem QlW:Qa E0 28 Qke:=by
 refine QG (E:=E0) (T:=mkT Tryz.prog [(62,Qbr),(24,QfO),(45,QrM)] false (fun _=>false) true (fun _=>false)) (Qd (E:=E0) (.cons QcD (.cons Qgs (.cons Qov .nil)))) (fn:=Tryz.f28) Tryz.func28 kR rfl Qc kR rfl ?_
 intro args p rs ms hr;unfold Qke at hr;dsimp only at hr;split at hr;rotate_left
 ·cases hr
 rename_i n;cases hr;refine⟨rfl,rfl,nLe rfl,?_⟩
 have hm:=mxE;rintro⟨hn1,hn2⟩ bs;cases hv:inB n 0 5
 ·have e:Q8 n=[]:=by unfold Q8;rw[hv];rfl
  rw[e];clear e;refine gR ?_
  refine lpI {ι:=Unit,rs:=[(5,6),(7,30)],mods:=[(4,fun _=> .one (.d (.v (.int .i64 0)))),(3,fun _=> .one (.own 1 [] 1))],boxes:=[],arrs:=[],ok:=fun _=>True,mu:=fun i=>0} rfl () trivial ?_ fun i hi=>?_
  ·exact gQ
  ·dsimp only at i hi
   exact gQ
 ·have hn:=Qj.1 hv
  obtain⟨c,rfl⟩:=KL hn.1;have c5:c≤5:=by omega
  have e:Q8 c=Qn2 (2^c) (c+1):=by unfold Q8 pbs;rw[hv,KE];rfl
  rw[e];clear e;have hM:Qc7 c=((2^c:Nat):Int)-1:=by unfold Qc7;rw[KE,Int.one_mul];simp
  have hM2:2^c≤32:=KF (K2 (by omega) c5) (by decide)
  have hM3:1≤2^c:=Nat.one_le_two_pow
  generalize 2^c=M at hM hM2 hM3 ⊢;refine gR ?_
  refine lpI {ι:=Nat,rs:=[(5,6),(7,30)],mods:=[(4,fun s=> .one (.d (.v (.int .i64 s)))),(3,fun s=> .one (.own 1 (iL (Qn2 M s)) 1))],boxes:=[],arrs:=[],ok:=fun s=>s≤c+1,mu:=fun s=>c+1-s} rfl 0 (KJ _) ?_ fun s hs=>?_
  ·exact gQ
  ·dsimp only at s hs
   have l1:=@Qjk M s
   have l2:s*M≤6*32:=Nat.mul_le_mul (by omega) hM2
   have l3:(Qn2 M s).length≤192:=by omega
   clear l1 l2
   by_cases h5:s<c+1
   ·have h5':decide (s≤c)=true:=KZ (by omega)
    refine gR ?_
    refine lpI {ι:=Nat,rs:=[(16,30)],mods:=[(5,fun x=> .one (.d (.v (.int .i64 x)))),(3,fun x=> .one (.own 1 (iL (Qn2 M s++Qn1 s x)) 1))],boxes:=[],arrs:=[],ok:=fun x=>x≤M,mu:=fun x=>M-x} rfl 0 (KJ _) ?_ fun x hx=>?_
    ·have e0:Qn2 M s++Qn1 s 0=Qn2 M s:=by simp[Qn1]
     exact gP
    ·dsimp only at x hx
     have l4:=@Qfx s x
     have l5:(Qn2 M s++Qn1 s x).length≤224:=by rw[KN];omega
     by_cases h6:x<M
     ·have h6':decide ((x:Int)≤(M:Int)-1)=true:=KZ (by omega)
      by_cases hc:cnt x=s
      ·have e1:(((cnt x:Nat):Int)==(s:Int))=true:=by rw[hc];simp
       have e2:Qn2 M s++Qn1 s (x+1)=(Qn2 M s++Qn1 s x)++[(x:Int)]:=by rw[Qn1,if_pos hc,Kn]
       clear hc;generalize hZ:Qn2 M s++Qn1 s x=zs at l5 e2;have q0:=@Qo;refine gR ?_;clear q0;intros
       refine lpQ (x+1) ?_
       have q0:=@Qo;exact gP
      ·have e1:(((cnt x:Nat):Int)==(s:Int))=false:=by rw[KU];omega
       have e2:Qn1 s (x+1)=Qn1 s x:=by rw[Qn1,if_neg hc,KM]
       clear hc;refine gR ?_;intros
       refine lpQ (x+1) ?_
       exact gP
     ·have e5:x=M:=by omega
      subst e5;have h6':decide ((x:Int)≤(x:Int)-1)=false:=KW (by omega)
      have e2:Qn2 x (s+1)=Qn2 x s++Qn1 s x:=rfl
      refine gR ?_;intros
      refine lpQ (s+1) ?_
      exact gP
   ·have e5:s=c+1:=by omega
    subst e5;have h5':decide (c+1≤c)=false:=KW (by omega)
    exact gP
end Go.Own
