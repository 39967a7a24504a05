/- Own contracts. Conditions: as each theorem states them. -/
import Derived.Test.YtnmkpepdacbfaaaGreatDoorRr12
set_option linter.unusedSimpArgs false
set_option linter.unusedVariables false
set_option maxRecDepth 20000
set_option maxHeartbeats 2000000
namespace Go.Own
open Go Go.Proofs
attribute [local go_sem] Qk9 Qb5 Tryz.results47 Tryz.results45 QbD Qfe Tryz.results28
def cnt(x:Int):Nat:=(mem x).length
def Qlc(s:Nat):Nat→List Int
 | 0=>[]
 | x+1=>Qlc s x++(if cnt (x:Nat)=s then [(x:Int)]else [])
def Qld(M:Nat):Nat→List Int
 | 0=>[]
 | s+1=>Qld M s++Qlc s M
def pbs(n:Nat):List Int:=Qld (2^n) (n+1)
def Q9(n:Int):List Int:=if inB n 0 5 then pbs n.toNat else []
theorem Qev{s:Nat}:∀{x:Nat},(Qlc s x).length≤x
 | 0=>Nat.le_refl _
 | x+1=>by
  have:=@Qev s x
  rw[Qlc,List.length_append];split<;>simp<;>omega
theorem Qhy{M:Nat}:∀{s:Nat},(Qld M s).length≤s*M
 | 0=>Nat.zero_le _
 | s+1=>by
  have h1:=@Qhy M s
  have h2:=@Qev s M
  rw[Qld,List.length_append,Nat.succ_mul];omega
theorem QjK:∀n:Fin 6,(pbs n.val).length=2^n.val∧∀x∈pbs n.val,0≤x∧x<2^n.val:=by decide+kernel
theorem QM{n:Int}:(Q9 n).length≤32∧(∀x∈Q9 n,0≤x∧x≤31)∧∀i,i<(Q9 n).length→0≤(Q9 n).getD i 0∧(Q9 n).getD i 0≤31:=by
 have h:(Q9 n).length≤32∧∀x∈Q9 n,0≤x∧x≤31:=by
  unfold Q9;split
  ·rename_i h
   rw[Qh]at h;have hn:n.toNat<6:=by omega
   obtain⟨h1,h2⟩:=QjK ⟨n.toNat,hn⟩;dsimp only at h1 h2;have h3:(2:Nat)^n.toNat≤2^5:=Nat.pow_le_pow_right (by omega) (by omega)
   have h4:(2:Int)^n.toNat≤32:=(Qyj h.1 h.2).2
   refine⟨by omega,fun x hx=>?_⟩
   have:=h2 x hx
   omega
  ·simp
 exact⟨h.1,h.2,fun i hi=>h.2 _ (QI hi 0)⟩
def Qcz(tk:List Int)(x:Int):Bool:=tk.any fun y=>Qal y x
def QiG(p:Int→Int→Bool)(r:Int):List Int→List Int→List Int
 | tk,[]=>tk
 | tk,x::xs=>QiG p r (if(!Qy x r&& !Qcz tk x&&p x r)=true then tk++[x]else tk) xs
def QrJ(p:Int→Int→Bool)(n r:Int):List (Int×Int):=(QiG p r [] (Q9 n)).map fun x=>(x,r)
def Qda(p:Int→Int→Bool)(n:Int):Nat→List (Int×Int)
 | 0=>[]
 | r+1=>Qda p n r++QrJ p n (r:Nat)
def QaJ(p:Int→Int→Bool)(n:Int):List (Int×Int):=Qda p n n.toNat
theorem Qhq{p:Int→Int→Bool}{r:Int}:∀{xs tk:List Int},(QiG p r tk xs).length≤tk.length+xs.length
 | [],tk=>by simp[QiG]
 | x::xs,tk=>by
  rw[QiG];have:=@Qhq p r xs (if(!Qy x r&& !Qcz tk x&&p x r)=true then tk++[x]else tk)
  have h2:(if(!Qy x r&& !Qcz tk x&&p x r)=true then tk++[x]else tk).length≤tk.length+1:=by split<;>simp
  simp only[List.length_cons]
  omega
theorem QnF{p:Int→Int→Bool}{r:Int}:∀{xs tk:List Int} {y:Int},y∈QiG p r tk xs→y∈tk∨(y∈xs∧Qy y r=false∧p y r=true)
 | [],tk,y,h=>Or.inl h
 | x::xs,tk,y,h=>by
  rw[QiG]at h;rcases QnF h with h|⟨h,h2⟩
  ·split at h
   ·rename_i hc
    simp only[Bool.and_eq_true,Bool.not_eq_true']at hc
    rcases List.mem_append.1 h with h|h
    ·exact Or.inl h
    ·rw[List.mem_singleton]at h
     subst h;exact Or.inr ⟨by simp,hc.1.1,hc.2⟩
   ·exact Or.inl h
  ·exact Or.inr ⟨by simp[h],h2⟩
theorem Qmb{p:Int→Int→Bool}{n r:Int}:(QrJ p n r).length≤32:=by
 unfold QrJ;rw[List.length_map];have:=@Qhq p r (Q9 n) []
 have h2:=(@QM n).1
 simp only[List.length_nil]at this
 omega
theorem Qa6{p:Int→Int→Bool}{n:Int}:∀{r:Nat},(Qda p n r).length≤r*32
 | 0=>Nat.zero_le _
 | r+1=>by
  have h1:=@Qa6 p n r
  have h2:=@Qmb p n (r:Nat)
  rw[Qda,List.length_append,Nat.succ_mul];omega
theorem QjB{p:Int→Int→Bool}{n:Int}:∀{k:Nat} {d:Int×Int},d∈Qda p n k→(0≤d.1∧d.1≤31)∧(0≤d.2∧d.2<k)∧Qy d.1 d.2=false∧p d.1 d.2=true
 | 0,d,h=>by cases h
 | k+1,d,h=>by
  rw[Qda]at h;rcases List.mem_append.1 h with h|h
  ·obtain⟨h1,h2,h3⟩:=QjB h
   exact⟨h1,by omega,h3⟩
  ·unfold QrJ at h
   obtain⟨x,hx,rfl⟩:=List.mem_map.1 h;rcases QnF hx with hx|⟨hx,h2,h3⟩
   ·cases hx
   ·exact⟨(@QM n).2.1 x hx,by dsimp only;omega,h2,h3⟩
theorem Qhp{p:Int→Int→Bool}{n:Int}(h5:n≤5):(QaJ p n).length≤160∧∀d∈QaJ p n,Qbo d:=by
 have h1:=@Qa6 p n n.toNat
 refine⟨by unfold QaJ;omega,fun d hd=>?_⟩
 obtain⟨h2,h3,_⟩:=QjB hd;exact⟨h2,by omega,by omega⟩
theorem QrK{p:Int→Int→Bool}{r:Int}{L tk:List Int}{i:Nat}(h:i<L.length):QiG p r tk (L.drop i)=QiG p r (if(!Qy (L.getD i 0) r&& !Qcz tk (L.getD i 0)&&p (L.getD i 0) r)=true then tk++[L.getD i 0]else tk) (L.drop (i+1)):=by
 rw[QaX h 0,QiG]
def pjB(ds:List (Int×Int))(set:Int)(x r:Int):Bool:=Qal x set&&Qy set r&&Qy (clo ds x) r
def pdL(n:Int)(ds:List (Int×Int))(set:Int):List (Int×Int):=if Q5 n ds&&Qj n set then QaJ (pjB ds set) n else []
theorem QkS{n:Int}{ds:List (Int×Int)}{set:Int}:(pdL n ds set).length≤160∧(∀d∈pdL n ds set,Qbo d)∧∀i,i<(pdL n ds set).length→(0≤((pdL n ds set).getD i (0,0)).1∧((pdL n ds set).getD i (0,0)).1≤31)∧0≤((pdL n ds set).getD i (0,0)).2∧((pdL n ds set).getD i (0,0)).2≤4:=by
 have h:(pdL n ds set).length≤160∧∀d∈pdL n ds set,Qbo d:=by
  unfold pdL;split
  ·rename_i h
   rw[Bool.and_eq_true]at h;exact Qhp (Qt h.2).2.1
  ·simp
 exact⟨h.1,h.2,fun i hi=>h.2 _ (QI hi (0,0))⟩
def Qkp(a:Int×Int)(e:Int×Int):Bool:=e.2==a.2&&(Qax .and .i64 e.1 a.1==e.1)
def cov(ds:List (Int×Int))(a:Int×Int):Bool:=ds.any (Qkp a)
theorem Qx0:Qa E0 47 Qk9:=by
 refine QV (E:=E0) (T:=mkT Tryz.prog [(63,Qb5)] false (fun _=>false) true (fun _=>false)) (Qf (E:=E0) (.cons QhO .nil)) (fn:=Tryz.f47) Tryz.func47 (by kernel_rfl) rfl Qe (by kernel_rfl) rfl ?_
 intro args p rs ms hr;unfold Qk9 at hr;dsimp only at hr;split at hr;rotate_left
 ·cases hr
 rename_i x;cases hr;refine⟨rfl,rfl,nLe rfl,?_⟩
 have hm:=mxE;intro _ bs;unfold mem;cases hv:Qj 5 x
 ·(repeat' first|refine gA fun _=>?_|apply fkI<;>intro hb<;>try simp only[ew]at hb|simp only[go_sem,simprocAttr, *])
  refine lpI {ι:=Unit,rs:=[(6,23)],mods:=[(4,fun _=> .one (.d (.v (.int .i64 0)))),(3,fun _=> .one (.own 1 [] 1))],boxes:=[],arrs:=[],ok:=fun _=>True,mu:=fun i=>0} rfl () trivial ?_ fun i hi=>?_
  ·exact gQ
  ·dsimp only at i hi
   exact gQ
 ·simp only[if_true]
  (repeat' first|refine gA fun _=>?_|apply fkI<;>intro hb<;>try simp only[ew]at hb|simp only[go_sem,simprocAttr, *])
  refine lpI {ι:=Nat,rs:=[(6,23)],mods:=[(4,fun i=> .one (.d (.v (.int .i64 i)))),(3,fun i=> .one (.own 1 (iL (QcN x i)) 1))],boxes:=[],arrs:=[],ok:=fun i=>i≤5,mu:=fun i=>5-i} rfl 0 (Nat.zero_le _) ?_ fun i hi=>?_
  ·exact gQ
  ·dsimp only at i hi
   have hl:=@Qbw x i
   by_cases h5:i<5
   ·have hp:=p5 (c:=i) h5
    have h5':decide ((i:Int)<5)=true:=decide_eq_true (by omega)
    cases hh:Qy x (i:Nat)
    ·have hb:(Qax .and .i64 (x.fdiv (2^i)) 1==1)=false:=by rw[←hh];unfold Qy;rw[Int.toNat_natCast]
     have e:QcN x (i+1)=QcN x i:=by simp[QcN,hh]
     clear hh;(repeat' first|refine gA fun _=>?_|apply fkI<;>intro hb<;>try simp only[ew,Qq,hb]at hb|simp only[go_sem,simprocAttr, *,Qq])
     refine lpN (i+1) (by dsimp only;omega) (by dsimp only;omega) ?_
     (repeat' first|refine gA fun _=>?_|apply fkI<;>intro hb<;>try simp only[ew,e]at hb|simp only[go_sem,simprocAttr, *])
    ·have hb:(Qax .and .i64 (x.fdiv (2^i)) 1==1)=true:=by rw[←hh];unfold Qy;rw[Int.toNat_natCast]
     have e:iL (QcN x i)++[[D.v (.int .i64 i)]]=iL (QcN x (i+1)):=by simp[QcN,hh,iL]
     clear hh;(repeat' first|refine gA fun _=>?_|apply fkI<;>intro hb<;>try simp only[ew,Qq,hb]at hb|simp only[go_sem,simprocAttr, *,Qq])
     refine lpN (i+1) (by dsimp only;omega) (by dsimp only;omega) ?_
     (repeat' first|refine gA fun _=>?_|apply fkI<;>intro hb<;>try simp only[ew,e]at hb|simp only[go_sem,simprocAttr, *])
   ·have e:i=5:=by omega
    subst e;exact gQ
def Qqh:Qb:=⟨[],false,fun
 | [.one (.v (.int .i64 x))]=>some (True,[⟨false,[.d (.v (.int .i64 (cnt x)))]⟩],[])
 | _=>none⟩
attribute [local go_sem] Qqh
theorem Qxh:Qa E0 45 Qqh:=by
 refine QV (E:=E0) (T:=mkT Tryz.prog [(47,Qk9)] false (fun _=>false) true (fun _=>false)) (Qf (E:=E0) (.cons Qx0 .nil)) (fn:=Tryz.f45) Tryz.func45 (by kernel_rfl) rfl Qe (by kernel_rfl) rfl ?_
 intro args p rs ms hr;unfold Qqh at hr;dsimp only at hr;split at hr;rotate_left
 ·cases hr
 rename_i x;cases hr;refine⟨rfl,rfl,nLe rfl,?_⟩
 have hm:=mxE;intro _ bs;unfold cnt;have hl:=@QfC x
 exact gQ
def Qkh:Qb:=⟨[],false,fun
 | [.one (.v (.int .i64 n))]=>some (-9223372036854775808≤n∧n≤9223372036854775807,[⟨false,[.own 1 (iL (Q9 n)) 1]⟩],[])
 | _=>none⟩
attribute [local go_sem] Qkh
theorem Ql{xs:List Int}{n:Int}:iL xs++[[D.v (.int .i64 n)]]=iL (xs++[n]):=by simp[iL]
theorem Qye:Qa E0 28 Qkh:=by
 refine QV (E:=E0) (T:=mkT Tryz.prog [(62,QbD),(24,Qfe),(45,Qqh)] false (fun _=>false) true (fun _=>false)) (Qf (E:=E0) (.cons Qhj (.cons QiW (.cons Qxh .nil)))) (fn:=Tryz.f28) Tryz.func28 (by kernel_rfl) rfl Qe (by kernel_rfl) rfl ?_
 intro args p rs ms hr;unfold Qkh at hr;dsimp only at hr;split at hr;rotate_left
 ·cases hr
 rename_i n;cases hr;refine⟨rfl,rfl,nLe rfl,?_⟩
 have hm:=mxE;rintro⟨hn1,hn2⟩ bs;cases hv:inB n 0 5
 ·have e:Q9 n=[]:=by unfold Q9;rw[hv];rfl
  rw[e];clear e;(repeat' first|refine gA fun _=>?_|apply fkI<;>intro hb<;>try simp only[ew]at hb|simp only[go_sem,simprocAttr, *])
  refine lpI {ι:=Unit,rs:=[(5,6),(7,30)],mods:=[(4,fun _=> .one (.d (.v (.int .i64 0)))),(3,fun _=> .one (.own 1 [] 1))],boxes:=[],arrs:=[],ok:=fun _=>True,mu:=fun i=>0} rfl () trivial ?_ fun i hi=>?_
  ·exact gQ
  ·dsimp only at i hi
   exact gQ
 ·have hn:=Qh.1 hv
  obtain⟨c,rfl⟩:=Int.eq_ofNat_of_zero_le hn.1;have c5:c≤5:=by omega
  have e:Q9 c=Qld (2^c) (c+1):=by unfold Q9 pbs;rw[hv,Int.toNat_natCast];rfl
  rw[e];clear e;have hM:Qd5 c=((2^c:Nat):Int)-1:=by unfold Qd5;rw[Int.toNat_natCast,Int.one_mul];simp
  have hM2:2^c≤32:=Nat.le_trans (Nat.pow_le_pow_right (by omega) c5) (by decide)
  have hM3:1≤2^c:=Nat.one_le_two_pow
  generalize 2^c=M at hM hM2 hM3 ⊢;(repeat' first|refine gA fun _=>?_|apply fkI<;>intro hb<;>try simp only[ew]at hb|simp only[go_sem,simprocAttr, *])
  refine lpI {ι:=Nat,rs:=[(5,6),(7,30)],mods:=[(4,fun s=> .one (.d (.v (.int .i64 s)))),(3,fun s=> .one (.own 1 (iL (Qld M s)) 1))],boxes:=[],arrs:=[],ok:=fun s=>s≤c+1,mu:=fun s=>c+1-s} rfl 0 (Nat.zero_le _) ?_ fun s hs=>?_
  ·exact gQ
  ·dsimp only at s hs
   have l1:=@Qhy M s
   have l2:s*M≤6*32:=Nat.mul_le_mul (by omega) hM2
   have l3:(Qld M s).length≤192:=by omega
   clear l1 l2
   by_cases h5:s<c+1
   ·have h5':decide (s≤c)=true:=decide_eq_true (by omega)
    (repeat' first|refine gA fun _=>?_|apply fkI<;>intro hb<;>try simp only[ew,h5']at hb|simp only[go_sem,simprocAttr, *])
    refine lpI {ι:=Nat,rs:=[(16,30)],mods:=[(5,fun x=> .one (.d (.v (.int .i64 x)))),(3,fun x=> .one (.own 1 (iL (Qld M s++Qlc s x)) 1))],boxes:=[],arrs:=[],ok:=fun x=>x≤M,mu:=fun x=>M-x} rfl 0 (Nat.zero_le _) ?_ fun x hx=>?_
    ·have e0:Qld M s++Qlc s 0=Qld M s:=by simp[Qlc]
     (repeat' first|refine gA fun _=>?_|apply fkI<;>intro hb<;>try simp only[ew,e0]at hb|simp only[go_sem,simprocAttr, *])
    ·dsimp only at x hx
     have l4:=@Qev s x
     have l5:(Qld M s++Qlc s x).length≤224:=by rw[List.length_append];omega
     by_cases h6:x<M
     ·have h6':decide ((x:Int)≤(M:Int)-1)=true:=decide_eq_true (by omega)
      by_cases hc:cnt x=s
      ·have e1:(((cnt x:Nat):Int)==(s:Int))=true:=by rw[hc];simp
       have e2:Qld M s++Qlc s (x+1)=(Qld M s++Qlc s x)++[(x:Int)]:=by rw[Qlc,if_pos hc,List.append_assoc]
       clear hc;generalize hZ:Qld M s++Qlc s x=zs at l5 e2;(repeat' first|refine gA fun _=>?_|apply fkI<;>intro hb<;>try simp only[ew,hM,h6',e1,hZ,Ql]at hb|simp only[go_sem,simprocAttr, *,Ql])
       refine lpN (x+1) (by dsimp only;omega) (by dsimp only;omega) ?_
       (repeat' first|refine gA fun _=>?_|apply fkI<;>intro hb<;>try simp only[ew,e2,Ql]at hb|simp only[go_sem,simprocAttr, *,Ql])
      ·have e1:(((cnt x:Nat):Int)==(s:Int))=false:=by rw[beq_eq_false_iff_ne];omega
       have e2:Qlc s (x+1)=Qlc s x:=by rw[Qlc,if_neg hc,List.append_nil]
       clear hc;(repeat' first|refine gA fun _=>?_|apply fkI<;>intro hb<;>try simp only[ew,hM,h6',e1]at hb|simp only[go_sem,simprocAttr, *])
       refine lpN (x+1) (by dsimp only;omega) (by dsimp only;omega) ?_
       (repeat' first|refine gA fun _=>?_|apply fkI<;>intro hb<;>try simp only[ew,e2]at hb|simp only[go_sem,simprocAttr, *])
     ·have e5:x=M:=by omega
      subst e5;have h6':decide ((x:Int)≤(x:Int)-1)=false:=decide_eq_false (by omega)
      have e2:Qld x (s+1)=Qld x s++Qlc s x:=rfl
      (repeat' first|refine gA fun _=>?_|apply fkI<;>intro hb<;>try simp only[ew,hM,h6']at hb|simp only[go_sem,simprocAttr, *])
      refine lpN (s+1) (by dsimp only;omega) (by dsimp only;omega) ?_
      (repeat' first|refine gA fun _=>?_|apply fkI<;>intro hb<;>try simp only[ew,e2]at hb|simp only[go_sem,simprocAttr, *])
   ·have e5:s=c+1:=by omega
    subst e5;have h5':decide (c+1≤c)=false:=decide_eq_false (by omega)
    (repeat' first|refine gA fun _=>?_|apply fkI<;>intro hb<;>try simp only[ew,h5']at hb|simp only[go_sem,simprocAttr, *])
end Go.Own
