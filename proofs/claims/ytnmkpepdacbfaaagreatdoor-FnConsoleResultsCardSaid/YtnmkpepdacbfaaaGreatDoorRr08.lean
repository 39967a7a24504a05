/- Own contracts. Conditions: as each theorem states them. -/
import Derived.Test.YtnmkpepdacbfaaaGreatDoorRr07
set_option linter.unusedSimpArgs false
set_option linter.unusedVariables false
set_option maxRecDepth 20000
set_option maxHeartbeats 2000000
namespace Go.Own
open Go Go.Proofs
attribute [local go_sem] Tryz.results139 Tryz.results64 Tryz.results191 Tryz.results123 Tryz.results144 Tryz.results79 QbD Qak Tryz.results82 Tryz.results105 Qs Tryz.results160 Tryz.results27
def QJ(m:Int):Bool:=m==0||m==1
def eqc(m a b:Int):Bool:=QJ m&&a==b&&(m==0||a != -1)
def agL(m:Int)(a b:List Int):Nat→Int
 | 0=>0
 | c+1=>if eqc m (a.getD c 0) (b.getD c 0)then Qax .or .i64 (agL m a b c) (1*2^c)else agL m a b c
theorem Qr4:∀x:Fin 32,∀c:Fin 5,0≤Qax .or .i64 ((x.val:Nat):Int) (1*2^c.val)∧Qax .or .i64 ((x.val:Nat):Int) (1*2^c.val)≤31:=by decide+kernel
theorem QaW{m:Int}{a b:List Int}:∀{n:Nat},n≤5→0≤agL m a b n∧agL m a b n≤31
 | 0,_=>by simp[agL]
 | c+1,h=>by
  have ih:=@QaW m a b c (by omega)
  simp only[agL]
  split
  ·have:=Qr4 ⟨(agL m a b c).toNat,by omega⟩ ⟨c,by omega⟩
   rwa [show(((agL m a b c).toNat:Nat):Int)=agL m a b c by omega]at this
  ·exact ih
def Q2(n l r:Int):Bool:=inB n 1 5&&Qj n l&&inB r 0 (n-1)
def Qp6(x l r:Int):Bool:=(Qax .and .i64 x l==l)&&(Qax .and .i64 (x.fdiv (2^r.toNat)) 1==0)
def Qzd(x l r:Int):Bool:=(Qax .andNot .i64 l x==0)&& !Qy x r
theorem QwU:∀x l:Fin 32,∀r:Fin 5,Qzd ((x.val:Nat):Int) ((l.val:Nat):Int) ((r.val:Nat):Int)=Qp6 ((x.val:Nat):Int) ((l.val:Nat):Int) ((r.val:Nat):Int):=by decide+kernel
theorem Qkd{x l r:Int}(hx:0≤x∧x≤31)(hl:0≤l∧l≤31)(hr:0≤r∧r≤4):Qzd x l r=Qp6 x l r:=by
 have:=QwU ⟨x.toNat,by omega⟩ ⟨l.toNat,by omega⟩ ⟨r.toNat,by omega⟩
 rwa [show((x.toNat:Nat):Int)=x by omega,show((l.toNat:Nat):Int)=l by omega,show((r.toNat:Nat):Int)=r by omega]at this
def dpC(rs:List (List Int))(c:Nat)(m l r:Int)(i k:Nat):Bool:=Qp6 (agL m (rs.getD i []) (rs.getD k []) c) l r
def dpK(rs:List (List Int))(c:Nat)(m l r:Int)(i:Nat):Nat→Nat→Option Nat
 | _,0=>none
 | k,n+1=>if dpC rs c m l r i k then some k else dpK rs c m l r i (k+1) n
def dpI(rs:List (List Int))(c:Nat)(m l r:Int):Nat→Nat→Option (Nat×Nat)
 | _,0=>none
 | i,n+1=>match dpK rs c m l r i (i+1) (rs.length-(i+1))with
  | some k=>some (i,k)
  | none=>dpI rs c m l r (i+1) n
def Qbe(c:Int)(rs:List (List Int))(m l r:Int):Bool:=QC c rs&&QJ m&&Q2 c l r
def wtO(c:Int)(rs:List (List Int))(m l r:Int):Option (Nat×Nat):=dpI rs c.toNat m l r 0 rs.length
def hdB(c:Int)(rs:List (List Int))(m l r:Int):Bool:=Qbe c rs m l r&&(wtO c rs m l r).isNone
def prI:Option (Nat×Nat)→Int×Int
 | some (i,k)=>((i:Int),(k:Int))
 | none=>(-1,-1)
def wtR(c:Int)(rs:List (List Int))(m l r:Int):Option (Nat×Nat):=if Qbe c rs m l r then wtO c rs m l r else none
theorem p5{c:Nat}(h:c<5):1≤(2:Int)^c∧(2:Int)^c≤16:=by
 have:c=0∨c=1∨c=2∨c=3∨c=4:=by omega
 rcases this with rfl|rfl|rfl|rfl|rfl<;>decide
def Qcg:Qb:=⟨[],false,fun
 | [.one (.v (.int .i64 m))]=>some (True,[⟨false,[.d (.v (.bool (QJ m)))]⟩],[])
 | _=>none⟩
attribute [local go_sem] Qcg
theorem QbV:Qa E0 139 Qcg:=by
 refine QV (E:=E0) (T:=mkT Tryz.prog [] false (fun _=>false) true (fun _=>false)) (Qf (E:=E0) .nil) (fn:=Tryz.f139) Tryz.func139 (by kernel_rfl) rfl Qe (by kernel_rfl) rfl ?_
 intro args p rs ms hr;unfold Qcg at hr;dsimp only at hr;split at hr;rotate_left
 ·cases hr
 rename_i m;cases hr;refine⟨rfl,rfl,nLe rfl,?_⟩
 have hm:=mxE;intro _ bs;unfold QJ;exact gQ
theorem QnH:Qa E0 64 Qcg:=by
 refine QV (E:=E0) (T:=mkT Tryz.prog [] false (fun _=>false) true (fun _=>false)) (Qf (E:=E0) .nil) (fn:=Tryz.f64) Tryz.func64 (by kernel_rfl) rfl Qe (by kernel_rfl) rfl ?_
 intro args p rs ms hr;unfold Qcg at hr;dsimp only at hr;split at hr;rotate_left
 ·cases hr
 rename_i m;cases hr;refine⟨rfl,rfl,nLe rfl,?_⟩
 have hm:=mxE;intro _ bs;unfold QJ;exact gQ
def QtF:Qb:=⟨[],false,fun
 | [.one (.v (.int .i64 m)),.one (.v (.int .i64 a)),.one (.v (.int .i64 b))]=>some (True,[⟨false,[.d (.v (.bool (eqc m a b)))]⟩],[])
 | _=>none⟩
attribute [local go_sem] QtF
theorem Qq1:Qa E0 191 QtF:=by
 refine QV (E:=E0) (T:=mkT Tryz.prog [(139,Qcg)] false (fun _=>false) true (fun _=>false)) (Qf (E:=E0) (.cons QbV .nil)) (fn:=Tryz.f191) Tryz.func191 (by kernel_rfl) rfl Qe (by kernel_rfl) rfl ?_
 intro args p rs ms hr;unfold QtF at hr;dsimp only at hr;split at hr;rotate_left
 ·cases hr
 rename_i m a b;cases hr;refine⟨rfl,rfl,nLe rfl,?_⟩
 have hm:=mxE;intro _ bs;unfold eqc;exact gQ
theorem Qxw:Qa E0 123 QtF:=by
 refine QV (E:=E0) (T:=mkT Tryz.prog [(64,Qcg)] false (fun _=>false) true (fun _=>false)) (Qf (E:=E0) (.cons QnH .nil)) (fn:=Tryz.f123) Tryz.func123 (by kernel_rfl) rfl Qe (by kernel_rfl) rfl ?_
 intro args p rs ms hr;unfold QtF at hr;dsimp only at hr;split at hr;rotate_left
 ·cases hr
 rename_i m a b;cases hr;refine⟨rfl,rfl,nLe rfl,?_⟩
 have hm:=mxE;intro _ bs;unfold eqc;exact gQ
def Qdh:Qb:=⟨[],false,fun
 | [.one (.v (.int .i64 m)),.one (.sl 1 a),.one (.sl 1 b)]=>some (WfI a∧WfI b∧a.length=b.length∧a.length≤5,[⟨false,[.d (.v (.int .i64 (agL m (unI a) (unI b) a.length)))]⟩],[])
 | _=>none⟩
attribute [local go_sem] Qdh
theorem Qgi:Qa E0 144 Qdh:=by
 refine QV (E:=E0) (T:=mkT Tryz.prog [(191,QtF)] false (fun _=>false) true (fun _=>false)) (Qf (E:=E0) (.cons Qq1 .nil)) (fn:=Tryz.f144) Tryz.func144 (by kernel_rfl) rfl Qe (by kernel_rfl) rfl ?_
 intro args p rs ms hr;unfold Qdh at hr;dsimp only at hr;split at hr;rotate_left
 ·cases hr
 rename_i m a b;cases hr;refine⟨rfl,rfl,nLe rfl,?_⟩
 have hm:=mxE;rintro⟨h1,h2,h3,h4⟩ bs;obtain⟨xs,rfl,hx⟩:=h1.ex;obtain⟨ys,rfl,hy⟩:=h2.ex;clear h1 h2;rw[Qo,Qo]at h3;rw[Qo]at h4;rw[Qay,Qay,Qo];(repeat' first|refine gA fun _=>?_|apply fkI<;>intro hb<;>try simp only[ew]at hb|simp only[go_sem,simprocAttr, *])
 refine lpI {ι:=Nat,rs:=[(8,9),(12,29)],mods:=[(11,fun i=> .one (.d (.v (.int .i64 i)))),(7,fun i=> .one (.d (.v (.int .i64 (agL m xs ys i)))))],boxes:=[],arrs:=[],ok:=fun i=>i≤xs.length,mu:=fun i=>xs.length-i} rfl 0 (Nat.zero_le _) ?_ fun i hi=>?_
 ·exact gQ
 ·dsimp only at i hi
  have hp:=fun h=>@p5 i h
  by_cases h5:i<xs.length
  ·have hp:=hp (by omega)
   have h5':i<ys.length:=by omega
   (repeat' first|refine gA fun _=>?_|apply fkI<;>intro hb<;>try simp only[ew,Qq]at hb|simp only[go_sem,simprocAttr, *,Qq])
   ·have hh:=‹eqc m (xs.getD i 0) (ys.getD i 0)=true›
    have e:agL m xs ys (i+1)=Qax .or .i64 (agL m xs ys i) (1*2^i):=by rw[agL,if_pos hh]
    refine lpN (i+1) (by dsimp only;omega) (by dsimp only;omega) ?_
    clear hh;(repeat' first|refine gA fun _=>?_|apply fkI<;>intro hb<;>try simp only[ew,e]at hb|simp only[go_sem,simprocAttr, *])
   ·have hh:=‹eqc m (xs.getD i 0) (ys.getD i 0)=false›
    have e:agL m xs ys (i+1)=agL m xs ys i:=by rw[agL,if_neg (by rw[hh];decide)]
    refine lpN (i+1) (by dsimp only;omega) (by dsimp only;omega) ?_
    clear hh;(repeat' first|refine gA fun _=>?_|apply fkI<;>intro hb<;>try simp only[ew,e]at hb|simp only[go_sem,simprocAttr, *])
  ·have h5':¬i<ys.length:=by omega
   have e5:i=xs.length:=by omega
   subst e5;exact gQ
def Qs5:Qb:=⟨[],false,fun
 | [.agg [.v (.int .i64 c),.sl 1 l],.one (.v (.int .i64 m)),.one (.v (.int .i64 i)),.one (.v (.int .i64 k))]=>some (WfS l∧QC c (unS l)=true∧(0≤i∧i<l.length)∧0≤k∧k<l.length,
   [⟨false,[.d (.v (.int .i64 (agL m ((unS l).getD i.toNat []) ((unS l).getD k.toNat []) c.toNat)))]⟩],[])
 | _=>none⟩
attribute [local go_sem] Qs5
theorem QR{c:Int}{rs:List (List Int)}(h:QC c rs=true):∃c':Nat,c=c'∧1≤c'∧c'≤5∧rs.length≤40∧∀i,i<rs.length→(rs.getD i []).length=c':=by
 have h1:=QyS h
 have h2:inB 0 0 (c-1)=true:=Qh.2 ⟨by omega,by omega⟩
 obtain⟨a',c',_,h3,_,h4,h5⟩:=Qqz h h2;exact⟨c',h3,by omega,by omega,h4,h5⟩
theorem Qwh:Qa E0 79 Qs5:=by
 refine QV (E:=E0) (T:=mkT Tryz.prog [(123,QtF)] false (fun _=>false) true (fun _=>false)) (Qf (E:=E0) (.cons Qxw .nil)) (fn:=Tryz.f79) Tryz.func79 (by kernel_rfl) rfl Qe (by kernel_rfl) rfl ?_
 intro args p rs ms hr;unfold Qs5 at hr;dsimp only at hr;split at hr;rotate_left
 ·cases hr
 rename_i c l m a b;cases hr;refine⟨rfl,rfl,nLe rfl,?_⟩
 have hm:=mxE;rintro⟨h1,ht,⟨ha1,ha2⟩,hb1,hb2⟩ bs;obtain⟨rs,rfl,hx,hy⟩:=h1.ex;clear h1;rw[QG]at ht ⊢;rw[Qas]at ha2 hb2;obtain⟨c,rfl,c1,c5,h40,hlen⟩:=QR ht;obtain⟨a,rfl⟩:=Int.eq_ofNat_of_zero_le ha1;obtain⟨b,rfl⟩:=Int.eq_ofNat_of_zero_le hb1;have la:=hlen a (by omega)
 have lb:=hlen b (by omega)
 simp only[Int.toNat_natCast]
 have ha3:a<rs.length:=by omega
 have hb3:b<rs.length:=by omega
 (repeat' first|refine gA fun _=>?_|apply fkI<;>intro hb<;>try simp only[ew]at hb|simp only[go_sem,simprocAttr, *])
 refine lpI {ι:=Nat,rs:=[(11,39)],mods:=[(10,fun i=> .one (.d (.v (.int .i64 i)))),(9,fun i=> .one (.d (.v (.int .i64 (agL m (rs.getD a []) (rs.getD b []) i)))))],boxes:=[(4,fun _=>[.d (.v (.int .i64 c)),.d (.sl 1 (sL rs))])],arrs:=[],ok:=fun i=>i≤c,mu:=fun i=>c-i} rfl 0 (Nat.zero_le _) ?_ fun i hi=>?_
 ·exact gQ
 ·dsimp only at i hi
  have hp:=fun h=>@p5 i h
  by_cases h5:i<c
  ·have hp:=hp (by omega)
   (repeat' first|refine gA fun _=>?_|apply fkI<;>intro hb<;>try simp only[ew,Qq]at hb|simp only[go_sem,simprocAttr, *,Qq])
   ·have hh:=‹eqc m ((rs.getD a []).getD i 0) ((rs.getD b []).getD i 0)=true›
    have e:agL m (rs.getD a []) (rs.getD b []) (i+1)=Qax .or .i64 (agL m (rs.getD a []) (rs.getD b []) i) (1*2^i):=by rw[agL,if_pos hh]
    refine lpN (i+1) (by dsimp only;omega) (by dsimp only;omega) ?_
    clear hh;(repeat' first|refine gA fun _=>?_|apply fkI<;>intro hb<;>try simp only[ew,e]at hb|simp only[go_sem,simprocAttr, *])
   ·have hh:=‹eqc m ((rs.getD a []).getD i 0) ((rs.getD b []).getD i 0)=false›
    have e:agL m (rs.getD a []) (rs.getD b []) (i+1)=agL m (rs.getD a []) (rs.getD b []) i:=by rw[agL,if_neg (by rw[hh];decide)]
    refine lpN (i+1) (by dsimp only;omega) (by dsimp only;omega) ?_
    clear hh;(repeat' first|refine gA fun _=>?_|apply fkI<;>intro hb<;>try simp only[ew,e]at hb|simp only[go_sem,simprocAttr, *])
  ·have e5:i=c:=by omega
   subst e5;exact gQ
def Qlw:Qb:=⟨[],false,fun
 | [.one (.v (.int .i64 n)),.agg [.v (.int .i64 l),.v (.int .i64 r)]]=>some (-9223372036854775808≤n∧n≤9223372036854775807,[⟨false,[.d (.v (.bool (Q2 n l r)))]⟩],[])
 | _=>none⟩
attribute [local go_sem] Qlw
theorem Qg4:Qa E0 105 Qlw:=by
 refine QV (E:=E0) (T:=mkT Tryz.prog [(154,Qak)] false (fun _=>false) true (fun _=>false)) (Qf (E:=E0) (.cons Qbv .nil)) (fn:=Tryz.f105) Tryz.func105 (by kernel_rfl) rfl Qe (by kernel_rfl) rfl ?_
 intro args p rs ms hr;unfold Qlw at hr;dsimp only at hr;split at hr;rotate_left
 ·cases hr
 rename_i n l r;cases hr;refine⟨rfl,rfl,nLe rfl,?_⟩
 have hm:=mxE;rintro⟨h1,h2⟩ bs;have e:Q2 n l r=(decide (n≥1)&&Qj n l&&decide (r≥0)&&decide (r<n)):=by
  rw[Bool.eq_iff_iff];unfold Q2;simp only[Bool.and_eq_true,Qh,decide_eq_true_eq]
  constructor
  ·rintro⟨⟨⟨q1,q2⟩,q3⟩,q4,q5⟩;exact⟨⟨⟨q1,q3⟩,q4⟩,by omega⟩
  ·rintro⟨⟨⟨q1,q3⟩,q4⟩,q5⟩
   have:=Qt q3
   exact⟨⟨⟨q1,by omega⟩,q3⟩,q4,by omega⟩
 rw[e];clear e;exact gQ
def Qs1:Qb:=⟨[],false,fun
 | [.agg [.v (.int .i64 c),.sl 1 t],.one (.v (.int .i64 m)),.agg [.v (.int .i64 l),.v (.int .i64 r)]]=>some (WfS t∧ -9223372036854775808≤c∧c≤9223372036854775807,[⟨false,[.d (.v (.bool (Qbe c (unS t) m l r)))]⟩],[])
 | _=>none⟩
attribute [local go_sem] Qs1
theorem QmL:Qa E0 160 Qs1:=by
 refine QV (E:=E0) (T:=mkT Tryz.prog [(138,Qs),(139,Qcg),(105,Qlw)] false (fun _=>false) true (fun _=>false)) (Qf (E:=E0) (.cons QaO (.cons QbV (.cons Qg4 .nil)))) (fn:=Tryz.f160) Tryz.func160 (by kernel_rfl) rfl Qe (by kernel_rfl) rfl ?_
 intro args p rs ms hr;unfold Qs1 at hr;dsimp only at hr;split at hr;rotate_left
 ·cases hr
 rename_i c t m l r;cases hr;refine⟨rfl,rfl,nLe rfl,?_⟩
 have hm:=mxE;rintro⟨h1,hc1,hc2⟩ bs;obtain⟨rs,rfl,hx,hy⟩:=h1.ex;clear h1;rw[QG];unfold Qbe;exact gQ
def Qff:Qb:=⟨[],false,fun
 | [.agg [.v (.int .i64 c),.sl 1 t],.one (.v (.int .i64 m))]=>some (WfS t∧ -9223372036854775808≤c∧c≤9223372036854775807,[⟨false,[.d (.v (.bool (QC c (unS t)&&QJ m)))]⟩],[])
 | _=>none⟩
attribute [local go_sem] Qff
theorem QlR:Qa E0 27 Qff:=by
 refine QV (E:=E0) (T:=mkT Tryz.prog [(22,Qs),(64,Qcg)] false (fun _=>false) true (fun _=>false)) (Qf (E:=E0) (.cons Qhd (.cons QnH .nil))) (fn:=Tryz.f27) Tryz.func27 (by kernel_rfl) rfl Qe (by kernel_rfl) rfl ?_
 intro args p rs ms hr;unfold Qff at hr;dsimp only at hr;split at hr;rotate_left
 ·cases hr
 rename_i c t m;cases hr;refine⟨rfl,rfl,nLe rfl,?_⟩
 have hm:=mxE;rintro⟨h1,hc1,hc2⟩ bs;obtain⟨rs,rfl,hx,hy⟩:=h1.ex;clear h1;rw[QG];exact gQ
end Go.Own
