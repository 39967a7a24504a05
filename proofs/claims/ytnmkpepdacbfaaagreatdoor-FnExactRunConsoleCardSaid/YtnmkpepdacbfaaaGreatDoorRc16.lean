/- Own contracts. Conditions: as each theorem states them. -/
import Derived.Test.YtnmkpepdacbfaaaGreatDoorRc11
set_option linter.unusedSimpArgs false
set_option linter.unusedVariables false
set_option maxRecDepth 20000
set_option maxHeartbeats 2000000
namespace Go.Own
open Go Go.Proofs
attribute [local go_sem] Qlu Qci Tryz.results47 Tryz.results45 Qbf Qfs Tryz.results28
def cnt(x:Int):Nat:=(mem x).length
def Qm7(s:Nat):Nat→List Int
 | 0=>[]
 | x+1=>Qm7 s x++(if cnt (x:Nat)=s then [(x:Int)]else [])
def Qm8(M:Nat):Nat→List Int
 | 0=>[]
 | s+1=>Qm8 M s++Qm7 s M
def pbs(n:Nat):List Int:=Qm8 (2^n) (n+1)
def Q3(n:Int):List Int:=if inB n 0 5 then pbs n.toNat else []
theorem Qfd{s:Nat}:∀{x:Nat},(Qm7 s x).length≤x
 | 0=>Nat.le_refl _
 | x+1=>by
  have:=@Qfd s x
  rw[Qm7,List.length_append];split<;>simp<;>omega
theorem QiI{M:Nat}:∀{s:Nat},(Qm8 M s).length≤s*M
 | 0=>Nat.zero_le _
 | s+1=>by
  have h1:=@QiI M s
  have h2:=@Qfd s M
  rw[Qm8,List.length_append,Nat.succ_mul];omega
theorem Qle:∀n:Fin 6,(pbs n.val).length=2^n.val∧∀x∈pbs n.val,0≤x∧x<2^n.val:=by decide+kernel
theorem QD{n:Int}:(Q3 n).length≤32∧(∀x∈Q3 n,0≤x∧x≤31)∧∀i,i<(Q3 n).length→0≤(Q3 n).getD i 0∧(Q3 n).getD i 0≤31:=by
 have h:(Q3 n).length≤32∧∀x∈Q3 n,0≤x∧x≤31:=by
  unfold Q3;split
  ·rename_i h
   rw[Qi]at h;have hn:n.toNat<6:=by omega
   obtain⟨h1,h2⟩:=Qle ⟨n.toNat,hn⟩;dsimp only at h1 h2;have h3:(2:Nat)^n.toNat≤2^5:=Nat.pow_le_pow_right (by omega) (by omega)
   have h4:(2:Int)^n.toNat≤32:=(Qz4 h.1 h.2).2
   refine⟨by omega,fun x hx=>?_⟩
   have:=h2 x hx
   omega
  ·simp
 exact⟨h.1,h.2,fun i hi=>h.2 _ (QP hi 0)⟩
def Qa2(tk:List Int)(x:Int):Bool:=tk.any fun y=>Q7 y x
def Qi2(p:Int→Int→Bool)(r:Int):List Int→List Int→List Int
 | tk,[]=>tk
 | tk,x::xs=>Qi2 p r (if(!Qt x r&& !Qa2 tk x&&p x r)=true then tk++[x]else tk) xs
def Qrd(p:Int→Int→Bool)(n r:Int):List (Int×Int):=(Qi2 p r [] (Q3 n)).map fun x=>(x,r)
def Qbx(p:Int→Int→Bool)(n:Int):Nat→List (Int×Int)
 | 0=>[]
 | r+1=>Qbx p n r++Qrd p n (r:Nat)
def QaR(p:Int→Int→Bool)(n:Int):List (Int×Int):=Qbx p n n.toNat
theorem Qiz{p:Int→Int→Bool}{r:Int}:∀{xs tk:List Int},(Qi2 p r tk xs).length≤tk.length+xs.length
 | [],tk=>by simp[Qi2]
 | x::xs,tk=>by
  rw[Qi2];have:=@Qiz p r xs (if(!Qt x r&& !Qa2 tk x&&p x r)=true then tk++[x]else tk)
  have h2:(if(!Qt x r&& !Qa2 tk x&&p x r)=true then tk++[x]else tk).length≤tk.length+1:=by split<;>simp
  simp only[List.length_cons]
  omega
theorem QpG{p:Int→Int→Bool}{r:Int}:∀{xs tk:List Int} {y:Int},y∈Qi2 p r tk xs→y∈tk∨(y∈xs∧Qt y r=false∧p y r=true)
 | [],tk,y,h=>Or.inl h
 | x::xs,tk,y,h=>by
  rw[Qi2]at h;rcases QpG h with h|⟨h,h2⟩
  ·split at h
   ·rename_i hc
    simp only[Bool.and_eq_true,Bool.not_eq_true']at hc
    rcases List.mem_append.1 h with h|h
    ·exact Or.inl h
    ·rw[List.mem_singleton]at h
     subst h;exact Or.inr ⟨by simp,hc.1.1,hc.2⟩
   ·exact Or.inl h
  ·exact Or.inr ⟨by simp[h],h2⟩
theorem Qn2{p:Int→Int→Bool}{n r:Int}:(Qrd p n r).length≤32:=by
 unfold Qrd;rw[List.length_map];have:=@Qiz p r (Q3 n) []
 have h2:=(@QD n).1
 simp only[List.length_nil]at this
 omega
theorem QaM{p:Int→Int→Bool}{n:Int}:∀{r:Nat},(Qbx p n r).length≤r*32
 | 0=>Nat.zero_le _
 | r+1=>by
  have h1:=@QaM p n r
  have h2:=@Qn2 p n (r:Nat)
  rw[Qbx,List.length_append,Nat.succ_mul];omega
theorem QfK{p:Int→Int→Bool}{n:Int}:∀{k:Nat} {d:Int×Int},d∈Qbx p n k→(0≤d.1∧d.1≤31)∧(0≤d.2∧d.2<k)∧Qt d.1 d.2=false∧p d.1 d.2=true
 | 0,d,h=>by cases h
 | k+1,d,h=>by
  rw[Qbx]at h;rcases List.mem_append.1 h with h|h
  ·obtain⟨h1,h2,h3⟩:=QfK h
   exact⟨h1,by omega,h3⟩
  ·unfold Qrd at h
   obtain⟨x,hx,rfl⟩:=List.mem_map.1 h;rcases QpG hx with hx|⟨hx,h2,h3⟩
   ·cases hx
   ·exact⟨(@QD n).2.1 x hx,by dsimp only;omega,h2,h3⟩
theorem Qiy{p:Int→Int→Bool}{n:Int}(h5:n≤5):(QaR p n).length≤160∧∀d∈QaR p n,Qbn d:=by
 have h1:=@QaM p n n.toNat
 refine⟨by unfold QaR;omega,fun d hd=>?_⟩
 obtain⟨h2,h3,_⟩:=QfK hd;exact⟨h2,by omega,by omega⟩
theorem QtE{p:Int→Int→Bool}{r:Int}{L tk:List Int}{i:Nat}(h:i<L.length):Qi2 p r tk (L.drop i)=Qi2 p r (if(!Qt (L.getD i 0) r&& !Qa2 tk (L.getD i 0)&&p (L.getD i 0) r)=true then tk++[L.getD i 0]else tk) (L.drop (i+1)):=by
 rw[QaQ h 0,Qi2]
def pjB(ds:List (Int×Int))(set:Int)(x r:Int):Bool:=Q7 x set&&Qt set r&&Qt (clo ds x) r
def pdL(n:Int)(ds:List (Int×Int))(set:Int):List (Int×Int):=if QF n ds&&Ql n set then QaR (pjB ds set) n else []
theorem QiJ{n:Int}{ds:List (Int×Int)}{set:Int}:(pdL n ds set).length≤160∧(∀d∈pdL n ds set,Qbn d)∧∀i,i<(pdL n ds set).length→(0≤((pdL n ds set).getD i (0,0)).1∧((pdL n ds set).getD i (0,0)).1≤31)∧0≤((pdL n ds set).getD i (0,0)).2∧((pdL n ds set).getD i (0,0)).2≤4:=by
 have h:(pdL n ds set).length≤160∧∀d∈pdL n ds set,Qbn d:=by
  unfold pdL;split
  ·rename_i h
   rw[Bool.and_eq_true]at h;exact Qiy (Qp h.2).2.1
  ·simp
 exact⟨h.1,h.2,fun i hi=>h.2 _ (QP hi (0,0))⟩
theorem Qmt{p:Int→Int→Bool}{r:Int}(h:∀x,p x r=false):∀{xs tk:List Int},Qi2 p r tk xs=tk
 | [],tk=>rfl
 | x::xs,tk=>by rw[Qi2,h x,Bool.and_false,if_neg (by decide)];exact Qmt h
theorem QtD{p:Int→Int→Bool}{n r:Int}(h:∀x,p x r=false):Qrd p n r=[]:=by unfold Qrd;rw[Qmt h];rfl
def Qg8(a:Int×Int)(e:Int×Int):Bool:=e.2==a.2&&(Q6 .and .i64 e.1 a.1==e.1)
def cov(ds:List (Int×Int))(a:Int×Int):Bool:=ds.any (Qg8 a)
theorem QsH{T:List (Int×Int)}{tk:List Int}{x:Int}{r:Nat}(hT:∀d∈T,d.2<(r:Int))(ht:∀y∈tk,0≤y∧y≤31)(hx:0≤x∧x≤31):cov (T++tk.map fun y=>(y,(r:Int))) (x,(r:Int))=Qa2 tk x:=by
 unfold cov Qa2;rw[List.any_append,List.any_map];have e:T.any (Qg8 (x,(r:Int)))=false:=by
  rw[List.any_eq_false];intro d hd;have:=hT d hd
  simp only[Qg8,Bool.and_eq_true,beq_iff_eq]
  omega
 rw[e,Bool.false_or];rw[Bool.eq_iff_iff,List.any_eq_true,List.any_eq_true];have key:∀y∈tk,(Qg8 (x,(r:Int))∘fun y=>(y,(r:Int))) y=Q7 y x:=fun y hy=>by
  simp only[Function.comp,Qg8,beq_self_eq_true,Bool.true_and]
  exact Qde (ht y hy) hx
 constructor
 ·rintro⟨y,hy,h⟩
  exact⟨y,hy,by rw[←key y hy];exact h⟩
 ·rintro⟨y,hy,h⟩
  exact⟨y,hy,by rw[key y hy];exact h⟩
theorem Qn1:Qa E0 47 Qlu:=by
 refine QE (E:=E0) (T:=mkT Tryz.prog [(63,Qci)] false (fun _=>false) true (fun _=>false)) (Qd (E:=E0) (.cons QiZ .nil)) (fn:=Tryz.f47) Tryz.func47 (by kernel_rfl) rfl Qc (by kernel_rfl) rfl ?_
 intro args p rs ms hr;unfold Qlu at hr;dsimp only at hr;split at hr;rotate_left
 ·cases hr
 rename_i x;cases hr;refine⟨rfl,rfl,nLe rfl,?_⟩
 have hm:=mxE;intro _ bs;unfold mem;cases hv:Ql 5 x
 ·(repeat' first|refine gA fun _=>?_|apply fkI<;>intro hb<;>try simp only[ew]at hb|simp only[go_sem,simprocAttr, *])
  refine lpI {ι:=Unit,rs:=[(6,23)],mods:=[(4,fun _=> .one (.d (.v (.int .i64 0)))),(3,fun _=> .one (.own 1 [] 1))],boxes:=[],arrs:=[],ok:=fun _=>True,mu:=fun i=>0} rfl () trivial ?_ fun i hi=>?_
  ·exact gQ
  ·dsimp only at i hi
   exact gQ
 ·simp only[if_true]
  (repeat' first|refine gA fun _=>?_|apply fkI<;>intro hb<;>try simp only[ew]at hb|simp only[go_sem,simprocAttr, *])
  refine lpI {ι:=Nat,rs:=[(6,23)],mods:=[(4,fun i=> .one (.d (.v (.int .i64 i)))),(3,fun i=> .one (.own 1 (iL (Qdd x i)) 1))],boxes:=[],arrs:=[],ok:=fun i=>i≤5,mu:=fun i=>5-i} rfl 0 (Nat.zero_le _) ?_ fun i hi=>?_
  ·exact gQ
  ·dsimp only at i hi
   have hl:=@QbJ x i
   by_cases h5:i<5
   ·have hp:=p5 (c:=i) h5
    have h5':decide ((i:Int)<5)=true:=decide_eq_true (by omega)
    cases hh:Qt x (i:Nat)
    ·have hb:(Q6 .and .i64 (x.fdiv (2^i)) 1==1)=false:=by rw[←hh];unfold Qt;rw[Int.toNat_natCast]
     have e:Qdd x (i+1)=Qdd x i:=by simp[Qdd,hh]
     clear hh;(repeat' first|refine gA fun _=>?_|apply fkI<;>intro hb<;>try simp only[ew,Qj,hb]at hb|simp only[go_sem,simprocAttr, *,Qj])
     refine lpN (i+1) (by dsimp only;omega) (by dsimp only;omega) ?_
     (repeat' first|refine gA fun _=>?_|apply fkI<;>intro hb<;>try simp only[ew,e]at hb|simp only[go_sem,simprocAttr, *])
    ·have hb:(Q6 .and .i64 (x.fdiv (2^i)) 1==1)=true:=by rw[←hh];unfold Qt;rw[Int.toNat_natCast]
     have e:iL (Qdd x i)++[[D.v (.int .i64 i)]]=iL (Qdd x (i+1)):=by simp[Qdd,hh,iL]
     clear hh;(repeat' first|refine gA fun _=>?_|apply fkI<;>intro hb<;>try simp only[ew,Qj,hb]at hb|simp only[go_sem,simprocAttr, *,Qj])
     refine lpN (i+1) (by dsimp only;omega) (by dsimp only;omega) ?_
     (repeat' first|refine gA fun _=>?_|apply fkI<;>intro hb<;>try simp only[ew,e]at hb|simp only[go_sem,simprocAttr, *])
   ·have e:i=5:=by omega
    subst e;exact gQ
def QqD:Qb:=⟨[],false,fun
 | [.one (.v (.int .i64 x))]=>some (True,[⟨false,[.d (.v (.int .i64 (cnt x)))]⟩],[])
 | _=>none⟩
attribute [local go_sem] QqD
theorem Qny:Qa E0 45 QqD:=by
 refine QE (E:=E0) (T:=mkT Tryz.prog [(47,Qlu)] false (fun _=>false) true (fun _=>false)) (Qd (E:=E0) (.cons Qn1 .nil)) (fn:=Tryz.f45) Tryz.func45 (by kernel_rfl) rfl Qc (by kernel_rfl) rfl ?_
 intro args p rs ms hr;unfold QqD at hr;dsimp only at hr;split at hr;rotate_left
 ·cases hr
 rename_i x;cases hr;refine⟨rfl,rfl,nLe rfl,?_⟩
 have hm:=mxE;intro _ bs;unfold cnt;have hl:=@Qd8 x
 exact gQ
def Qjy:Qb:=⟨[],false,fun
 | [.one (.v (.int .i64 n))]=>some (-9223372036854775808≤n∧n≤9223372036854775807,[⟨false,[.own 1 (iL (Q3 n)) 1]⟩],[])
 | _=>none⟩
attribute [local go_sem] Qjy
theorem Qo{xs:List Int}{n:Int}:iL xs++[[D.v (.int .i64 n)]]=iL (xs++[n]):=by simp[iL]
theorem Qld:Qa E0 28 Qjy:=by
 refine QE (E:=E0) (T:=mkT Tryz.prog [(62,Qbf),(24,Qfs),(45,QqD)] false (fun _=>false) true (fun _=>false)) (Qd (E:=E0) (.cons Qcp (.cons Qf0 (.cons Qny .nil)))) (fn:=Tryz.f28) Tryz.func28 (by kernel_rfl) rfl Qc (by kernel_rfl) rfl ?_
 intro args p rs ms hr;unfold Qjy at hr;dsimp only at hr;split at hr;rotate_left
 ·cases hr
 rename_i n;cases hr;refine⟨rfl,rfl,nLe rfl,?_⟩
 have hm:=mxE;rintro⟨hn1,hn2⟩ bs;cases hv:inB n 0 5
 ·have e:Q3 n=[]:=by unfold Q3;rw[hv];rfl
  rw[e];clear e;(repeat' first|refine gA fun _=>?_|apply fkI<;>intro hb<;>try simp only[ew]at hb|simp only[go_sem,simprocAttr, *])
  refine lpI {ι:=Unit,rs:=[(5,6),(7,30)],mods:=[(4,fun _=> .one (.d (.v (.int .i64 0)))),(3,fun _=> .one (.own 1 [] 1))],boxes:=[],arrs:=[],ok:=fun _=>True,mu:=fun i=>0} rfl () trivial ?_ fun i hi=>?_
  ·exact gQ
  ·dsimp only at i hi
   exact gQ
 ·have hn:=Qi.1 hv
  obtain⟨c,rfl⟩:=Int.eq_ofNat_of_zero_le hn.1;have c5:c≤5:=by omega
  have e:Q3 c=Qm8 (2^c) (c+1):=by unfold Q3 pbs;rw[hv,Int.toNat_natCast];rfl
  rw[e];clear e;have hM:QcQ c=((2^c:Nat):Int)-1:=by unfold QcQ;rw[Int.toNat_natCast,Int.one_mul];simp
  have hM2:2^c≤32:=Nat.le_trans (Nat.pow_le_pow_right (by omega) c5) (by decide)
  have hM3:1≤2^c:=Nat.one_le_two_pow
  generalize 2^c=M at hM hM2 hM3 ⊢;(repeat' first|refine gA fun _=>?_|apply fkI<;>intro hb<;>try simp only[ew]at hb|simp only[go_sem,simprocAttr, *])
  refine lpI {ι:=Nat,rs:=[(5,6),(7,30)],mods:=[(4,fun s=> .one (.d (.v (.int .i64 s)))),(3,fun s=> .one (.own 1 (iL (Qm8 M s)) 1))],boxes:=[],arrs:=[],ok:=fun s=>s≤c+1,mu:=fun s=>c+1-s} rfl 0 (Nat.zero_le _) ?_ fun s hs=>?_
  ·exact gQ
  ·dsimp only at s hs
   have l1:=@QiI M s
   have l2:s*M≤6*32:=Nat.mul_le_mul (by omega) hM2
   have l3:(Qm8 M s).length≤192:=by omega
   clear l1 l2
   by_cases h5:s<c+1
   ·have h5':decide (s≤c)=true:=decide_eq_true (by omega)
    (repeat' first|refine gA fun _=>?_|apply fkI<;>intro hb<;>try simp only[ew,h5']at hb|simp only[go_sem,simprocAttr, *])
    refine lpI {ι:=Nat,rs:=[(16,30)],mods:=[(5,fun x=> .one (.d (.v (.int .i64 x)))),(3,fun x=> .one (.own 1 (iL (Qm8 M s++Qm7 s x)) 1))],boxes:=[],arrs:=[],ok:=fun x=>x≤M,mu:=fun x=>M-x} rfl 0 (Nat.zero_le _) ?_ fun x hx=>?_
    ·have e0:Qm8 M s++Qm7 s 0=Qm8 M s:=by simp[Qm7]
     (repeat' first|refine gA fun _=>?_|apply fkI<;>intro hb<;>try simp only[ew,e0]at hb|simp only[go_sem,simprocAttr, *])
    ·dsimp only at x hx
     have l4:=@Qfd s x
     have l5:(Qm8 M s++Qm7 s x).length≤224:=by rw[List.length_append];omega
     by_cases h6:x<M
     ·have h6':decide ((x:Int)≤(M:Int)-1)=true:=decide_eq_true (by omega)
      by_cases hc:cnt x=s
      ·have e1:(((cnt x:Nat):Int)==(s:Int))=true:=by rw[hc];simp
       have e2:Qm8 M s++Qm7 s (x+1)=(Qm8 M s++Qm7 s x)++[(x:Int)]:=by rw[Qm7,if_pos hc,List.append_assoc]
       clear hc;generalize hZ:Qm8 M s++Qm7 s x=zs at l5 e2;(repeat' first|refine gA fun _=>?_|apply fkI<;>intro hb<;>try simp only[ew,hM,h6',e1,hZ,Qo]at hb|simp only[go_sem,simprocAttr, *,Qo])
       refine lpN (x+1) (by dsimp only;omega) (by dsimp only;omega) ?_
       (repeat' first|refine gA fun _=>?_|apply fkI<;>intro hb<;>try simp only[ew,e2,Qo]at hb|simp only[go_sem,simprocAttr, *,Qo])
      ·have e1:(((cnt x:Nat):Int)==(s:Int))=false:=by rw[beq_eq_false_iff_ne];omega
       have e2:Qm7 s (x+1)=Qm7 s x:=by rw[Qm7,if_neg hc,List.append_nil]
       clear hc;(repeat' first|refine gA fun _=>?_|apply fkI<;>intro hb<;>try simp only[ew,hM,h6',e1]at hb|simp only[go_sem,simprocAttr, *])
       refine lpN (x+1) (by dsimp only;omega) (by dsimp only;omega) ?_
       (repeat' first|refine gA fun _=>?_|apply fkI<;>intro hb<;>try simp only[ew,e2]at hb|simp only[go_sem,simprocAttr, *])
     ·have e5:x=M:=by omega
      subst e5;have h6':decide ((x:Int)≤(x:Int)-1)=false:=decide_eq_false (by omega)
      have e2:Qm8 x (s+1)=Qm8 x s++Qm7 s x:=rfl
      (repeat' first|refine gA fun _=>?_|apply fkI<;>intro hb<;>try simp only[ew,hM,h6']at hb|simp only[go_sem,simprocAttr, *])
      refine lpN (s+1) (by dsimp only;omega) (by dsimp only;omega) ?_
      (repeat' first|refine gA fun _=>?_|apply fkI<;>intro hb<;>try simp only[ew,e2]at hb|simp only[go_sem,simprocAttr, *])
   ·have e5:s=c+1:=by omega
    subst e5;have h5':decide (c+1≤c)=false:=decide_eq_false (by omega)
    (repeat' first|refine gA fun _=>?_|apply fkI<;>intro hb<;>try simp only[ew,h5']at hb|simp only[go_sem,simprocAttr, *])
end Go.Own
