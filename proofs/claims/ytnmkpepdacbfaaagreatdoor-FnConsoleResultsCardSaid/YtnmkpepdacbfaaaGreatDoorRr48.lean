/- Own contracts. Conditions: as each theorem states them. -/
import Derived.Test.YtnmkpepdacbfaaaGreatDoorRr47
set_option linter.unusedSimpArgs false
set_option linter.unusedVariables false
set_option maxRecDepth 20000
set_option maxHeartbeats 4000000
namespace Go.Own
open Go Go.Proofs
attribute [local go_sem] Qkg Tryz.results25 Tryz.results9 Tryz.results8
theorem QrV{v:Int}(h0:0≤v)(h1:v≤999999):QuY v=Qdc v:=@QjE v h0 (by omega)
def QzK:Qb:=⟨[],false,fun
 | [.one (.v (.int .i64 v))]=>some (-1≤v∧v≤999999,[⟨false,[.d (.v (.string (Qbs v)))]⟩],[])
 | _=>none⟩
attribute [local go_sem] QzK
theorem QAl:Qa E0 25 QzK:=by
 refine QV (E:=E0) (T:=mkT Tryz.prog [(10,Qkg)] false (fun _=>false) true (fun _=>false)) (Qf (E:=E0) (.cons Qnh .nil)) (fn:=Tryz.f25) Tryz.func25 (by kernel_rfl) rfl Qe (by kernel_rfl) rfl ?_
 intro args p rs ms hr;unfold QzK at hr;dsimp only at hr;split at hr;rotate_left
 ·cases hr
 rename_i v;cases hr;refine⟨rfl,rfl,nLe rfl,?_⟩
 have hm:=mxE;rintro⟨h0,h1⟩ bs;unfold Qbs
 by_cases hv:v= -1
 ·subst hv
  rw[if_pos rfl];exact gQ
 ·rw[if_neg hv]
  have h2:(v== -1)=false:=beq_eq_false_iff_ne.2 hv
  have h3:0≤v:=by omega
  have h4:=QrV h3 h1
  (repeat' first|refine gA fun _=>?_|apply fkI<;>intro hb<;>try simp only[ew,h2,h4]at hb|simp only[go_sem,simprocAttr, *,h2,h4])
  all_goals first|rfl|skip
attribute [local go_sem] QbP Qab Qon
def atI(bs:List Int)(i:Int):Int:=if i<bs.length then bs.getD i.toNat 0 else Int.tmod (i*37+bs.length*11) 256
theorem Qp3{bs:List Int}{i:Int}(h:∀b∈bs,0≤b∧b≤255)(h0:0≤i):0≤atI bs i∧atI bs i≤255:=by
 unfold atI;split
 ·rename_i hi
  exact h _ (QI (by omega) 0)
 ·rw[Int.tmod_eq_emod_of_nonneg (by omega)]
  omega
def QzE:Qb:=⟨[],false,fun
 | [.one (.sl 1 l),.one (.v (.int .i64 i))]=>some ((WfB l∧∀b∈unB l,0≤b∧b≤255)∧l.length≤1048576∧0≤i∧i≤1000,[⟨false,[.d (.v (.int .i64 (atI (unB l) i)))]⟩],[])
 | _=>none⟩
attribute [local go_sem] QzE
theorem QwT{bs:List Int}{i:Nat}(h:i<bs.length):(bL bs).getD i []=[D.v (.int .u8 (bs.getD i 0))]:=by
 simp[bL,List.getD_eq_getElem?_getD,h]
theorem QzA:Qa E0 9 QzE:=by
 refine QV (E:=E0) (T:=mkT Tryz.prog [] false (fun _=>false) true (fun _=>false)) (Qf (E:=E0) .nil) (fn:=Tryz.f9) Tryz.func9 (by kernel_rfl) rfl Qe (by kernel_rfl) rfl ?_
 intro args p rs ms hr;unfold QzE at hr;dsimp only at hr;split at hr;rotate_left
 ·cases hr
 rename_i l i;cases hr;refine⟨rfl,rfl,nLe rfl,?_⟩
 have hm:=mxE;rintro⟨⟨h1,h3⟩,h2,h4,h5⟩ bs0;obtain⟨bs,rfl,hx⟩:=h1.ex;clear h1;rw[QbP]at h3 ⊢;rw[Qab]at h2;obtain⟨i,rfl⟩:=Int.eq_ofNat_of_zero_le h4;unfold atI
 by_cases h6:((i:Nat):Int)<bs.length
 ·rw[if_pos h6,Int.toNat_natCast]
  have h6':i<bs.length:=by omega
  have h7:=h3 _ (QI h6' 0)
  have h8:IntKind.wrap .i64 (bs.getD i 0)=bs.getD i 0:=by
   generalize bs.getD i 0=z at h7;exact QjX (by constructor<;>(simp[IntKind.min,IntKind.max,IntKind.bits,IntKind.signed];omega))
  have h9:=QwT h6'
  clear h3;(repeat' first|refine gA fun _=>?_|apply fkI<;>intro hb<;>try simp only[ew,h8,h9]at hb|simp only[go_sem,simprocAttr, *,h8,h9])
  all_goals first|rfl|skip
 ·rw[if_neg h6]
  clear h3;exact gQ
def Qqd:Qb:=⟨[],false,fun
 | [.one (.sl 1 l)]=>some (WfB l,[⟨false,[.d (.v (.bool (decide (l.length>1048576))))]⟩],[])
 | _=>none⟩
attribute [local go_sem] Qqd
theorem Qw1:Qa E0 8 Qqd:=by
 refine QV (E:=E0) (T:=mkT Tryz.prog [] false (fun _=>false) true (fun _=>false)) (Qf (E:=E0) .nil) (fn:=Tryz.f8) Tryz.func8 (by kernel_rfl) rfl Qe (by kernel_rfl) rfl ?_
 intro args p rs ms hr;unfold Qqd at hr;dsimp only at hr;split at hr;rotate_left
 ·cases hr
 rename_i l;cases hr;refine⟨rfl,rfl,nLe rfl,?_⟩
 have hm:=mxE;rintro h1 bs0;obtain⟨bs,rfl,hx⟩:=h1.ex;clear h1;(repeat' first|refine gA fun _=>?_|apply fkI<;>intro hb<;>try simp only[ew]at hb|simp only[go_sem,simprocAttr, *])
 all_goals first|rfl|(rw[decide_eq_decide];omega)
end Go.Own

namespace Go.Own
open Go Go.Proofs
attribute [local go_sem] Qs Qfe cFA QzK Tryz.results11
def ftH:ByteArray:=⟨#[65,66,67,10]⟩
def ftW(r:List Int):Nat→ByteArray
 | 0=>ftH
 | k+1=>(if k=0 then ftW r k else ftW r k++⟨#[32]⟩)++Qbs (r.getD k 0)
def ftF(r:List Int):ByteArray:=ftW r 3++⟨#[10]⟩
theorem QbZ{v:Int}(h0: -1≤v)(h1:v≤40):(Qbs v).size≤20:=by
 unfold Qbs;split
 ·decide
 ·rw[←bsz,QjF (by omega) (by omega)]
  exact Nat.le_trans (QlK (k:=1) (by omega)) (by omega)
theorem Qnj{r:List Int}(h:∀v∈r,-1≤v∧v≤40):∀{k:Nat},k≤r.length→(ftW r k).size≤4+k*21
 | 0,_=>by show ftH.size≤4+0*21;decide
 | k+1,hk=>by
  have ih:=@Qnj r h k (by omega)
  have hc:=h _ (QI (show k<r.length by omega) 0)
  have hs:=QbZ hc.1 hc.2
  rw[ftW];split
  ·rw[Qd];omega
  ·rw[Qd,Qd,QbK];omega
def QzJ:Qb:=⟨[],false,fun
 | [.agg [.v (.int .i64 c),.sl 1 l]]=>some (WfS l∧c=3∧QC 3 (unS l)=true∧l.length=1,[⟨false,[.d (.v (.string (ftF ((unS l).getD 0 []))))]⟩],[])
 | _=>none⟩
attribute [local go_sem] QzJ
theorem fa7:fa (Qd5 3)++⟨#[10]⟩=ftH:=by decide
theorem Qz5:Qa E0 11 QzJ:=by
 refine QV (E:=E0) (T:=mkT Tryz.prog [(22,Qs),(24,Qfe),(23,cFA),(25,QzK)] false (fun _=>false) true (fun _=>false)) (Qf (E:=E0) (.cons Qhd (.cons QiW (.cons Qq3 (.cons QAl .nil))))) (fn:=Tryz.f11) Tryz.func11 (by kernel_rfl) rfl Qe (by kernel_rfl) rfl ?_
 intro args p rs ms hr;unfold QzJ at hr;dsimp only at hr;split at hr;rotate_left
 ·cases hr
 rename_i c l;cases hr;refine⟨rfl,rfl,nLe rfl,?_⟩
 have hm:=mxE;rintro⟨h1,rfl,ht,hl⟩ bs;obtain⟨rs,rfl,hx,hy⟩:=h1.ex;clear h1;rw[QG]at ht ⊢;rw[Qas]at hl;obtain⟨n,hn,n1,n5,h40,hrow⟩:=QR ht;obtain⟨r,hr⟩:∃r,rs.getD 0 []=r:=⟨_,rfl⟩;have hr3:r.length=3:=by
  have:=hrow 0 (by omega)
  rw[hr]at this;omega
 have hv:∀v∈r,-1≤v∧v≤40:=fun v hm=>by
  have h2:=ht
  unfold QC at h2;rw[Bool.and_eq_true,List.all_eq_true]at h2;have h3:=h2.1 r (by rw[←hr];exact QI (by omega) _)
  unfold Qbx at h3;rw[Bool.and_eq_true,List.all_eq_true]at h3;exact Qh.1 (h3.1 v hm)
 rw[hr];have hsz:=fun k=>@Qnj r hv k
 have hz3:=hsz 3 (by omega)
 have h7:=fa7
 have h8:=@QaM (Qd5 3)
 have g1:0<rs.length:=by omega
 have eF:ftW r 3++⟨#[10]⟩=ftF r:=rfl
 have z10:ByteArray.size ⟨#[10]⟩=1:=rfl
 clear hn n1 n5 h40 hrow;(repeat' first|refine gA fun _=>?_|apply fkI<;>intro hb<;>try simp only[ew,ht,h7,z10]at hb|simp only[go_sem,simprocAttr, *,ht,h7,z10])
 clear ht h7 h8;refine lpI {ι:=Nat,rs:=[(5,6),(14,48)],mods:=[(4,fun i=> .one (.d (.v (.int .i64 ((i:Nat):Int))))),(3,fun i=> .one (.d (.v (.string (if i=0 then ftH else ftF r)))))],boxes:=[(1,fun _=>[.d (.v (.int .i64 3)),.d (.sl 1 (sL rs))])],arrs:=[],ok:=fun i=>i≤1,mu:=fun i=>1-i} rfl 0 (Nat.zero_le _) ?_ fun i hi=>?_
 ·clear hsz hz3 eF
  exact gQ
 ·dsimp only at i hi
  by_cases h5:i=0
  ·subst h5
   have e0:(if(0:Nat)=0 then ftH else ftF r)=ftH:=rfl
   have e1:(if(1:Nat)=0 then ftH else ftF r)=ftF r:=rfl
   (repeat' first|refine gA fun _=>?_|apply fkI<;>intro hb<;>try simp only[ew,hr,e0]at hb|simp only[go_sem,simprocAttr, *,hr,e0])
   refine lpI {ι:=Nat,rs:=[(21,46)],mods:=[(5,fun i=> .one (.d (.v (.int .i64 ((i:Nat):Int))))),(3,fun i=> .one (.d (.v (.string (ftW r i)))))],boxes:=[(1,fun _=>[.d (.v (.int .i64 3)),.d (.sl 1 (sL rs))])],arrs:=[],ok:=fun i=>i≤3,mu:=fun i=>3-i} rfl 0 (Nat.zero_le _) ?_ fun k hk=>?_
   ·have e2:ftW r 0=ftH:=rfl
    clear hsz hz3 eF e1;(repeat' first|refine gA fun _=>?_|apply fkI<;>intro hb<;>try simp only[ew,e2]at hb|simp only[go_sem,simprocAttr, *,e2])
    all_goals first|rfl|skip
   ·dsimp only at k hk
    by_cases h6:k<3
    ·have hs:=hsz k (by omega)
     have v1:=hv _ (QI (show k<r.length by omega) 0)
     have v2:=QbZ v1.1 v1.2
     have v3:r.getD k 0≤999999:=by omega
     have k1:k<r.length:=by omega
     have k3:((k:Nat):Int)<3:=by omega
     have eS:ftW r (k+1)=(if k=0 then ftW r k else ftW r k++⟨#[32]⟩)++Qbs (r.getD k 0):=rfl
     clear hsz hz3 eF e1 hv;generalize hV:r.getD k 0=v at v1 v2 v3 eS
     by_cases h7:k=0
     ·rw[if_pos h7]at eS
      have d0:decide (((k:Nat):Int)>0)=false:=decide_eq_false (by omega)
      generalize hT:ftW r k=T at hs eS;have hsum:T.size+(Qbs v).size≤4611686018427387904:=by omega
      clear h7;(repeat' first|refine gA fun _=>?_|apply fkI<;>intro hb<;>try simp only[ew,hr,hV,hT,d0,Qd]at hb|simp only[go_sem,simprocAttr, *,hr,hV,hT,d0,Qd])
      refine lpN (k+1) (by dsimp only;omega) (by dsimp only;omega) ?_
      (repeat' first|refine gA fun _=>?_|apply fkI<;>intro hb<;>try simp only[ew,eS]at hb|simp only[go_sem,simprocAttr, *,eS])
      all_goals first|rfl|skip
     ·rw[if_neg h7]at eS
      have d0:decide (((k:Nat):Int)>0)=true:=decide_eq_true (by omega)
      generalize hT:ftW r k=T at hs eS;(repeat' first|refine gA fun _=>?_|apply fkI<;>intro hb<;>try simp only[ew,hr,hV,hT,d0,Qd,QbK]at hb|simp only[go_sem,simprocAttr, *,hr,hV,hT,d0,Qd,QbK])
      refine lpN (k+1) (by dsimp only;omega) (by dsimp only;omega) ?_
      (repeat' first|refine gA fun _=>?_|apply fkI<;>intro hb<;>try simp only[ew,eS]at hb|simp only[go_sem,simprocAttr, *,eS])
      all_goals first|rfl|skip
    ·have e5:k=3:=by omega
     subst e5;clear hsz hv;(repeat' first|refine gA fun _=>?_|apply fkI<;>intro hb<;>try simp only[ew,hr,eF,z10]at hb|simp only[go_sem,simprocAttr, *,hr,eF,z10])
     refine lpN 1 (by dsimp only;omega) (by dsimp only;omega) ?_
     (repeat' first|refine gA fun _=>?_|apply fkI<;>intro hb<;>try simp only[ew,e1]at hb|simp only[go_sem,simprocAttr, *,e1])
     all_goals first|rfl|skip
  ·have e5:i=1:=by omega
   subst e5;have e1:(if(1:Nat)=0 then ftH else ftF r)=ftF r:=rfl
   clear hsz hz3 eF hv;(repeat' first|refine gA fun _=>?_|apply fkI<;>intro hb<;>try simp only[ew,e1]at hb|simp only[go_sem,simprocAttr, *,e1])
   all_goals first|rfl|skip
end Go.Own
