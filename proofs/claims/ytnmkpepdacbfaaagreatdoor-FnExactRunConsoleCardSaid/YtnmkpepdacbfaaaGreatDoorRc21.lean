/- Own contracts. Conditions: as each theorem states them. -/
import Derived.Test.YtnmkpepdacbfaaaGreatDoorRc20
set_option linter.unusedSimpArgs false
set_option linter.unusedVariables false
set_option maxRecDepth 20000
set_option maxHeartbeats 2000000
namespace Go.Own
open Go Go.Proofs
attribute [local go_sem] QyN Tryz.results69 Qci Tryz.results68 Tryz.results207 Tryz.results31
def QrC:Qb:=⟨[true],true,fun
 | [.arr 1 l _,.one (.v (.int .i64 x))]=>some (WfI l∧l.length≤16777216,[⟨false,[.own 1 (iL (QfZ (unI l) x)) 1]⟩],[.gone])
 | _=>none⟩
attribute [local go_sem] QrC
def Qt4(l:List Int)(x:Int)(i:Nat)(pl:Bool)(out:List Int):Prop:=i≤l.length∧out.length≤i+1∧out++(if pl then l.drop i else Qmh (l.drop i) x)=Qmh l x
theorem Qrf{l:List Int}{x:Int}:Qt4 l x 0 false []:=⟨Nat.zero_le _,by simp,by simp⟩
theorem Qre{l:List Int}{x:Int}{i:Nat}{out:List Int}(h:Qt4 l x i false out)(h5:i<l.length)(hg:l.getD i 0>x)(ho:out.length≤i):Qt4 l x (i+1) true ((out++[x])++[l.getD i 0]):=by
 obtain⟨h1,h2,h3⟩:=h;refine⟨h5,by simp;omega,?_⟩
 rw[if_neg (by decide),QaQ h5 0,Qmh,if_pos (by omega)]at h3
 rw[if_pos rfl,←h3];simp
theorem Qz6{l:List Int}{x:Int}{i:Nat}{out:List Int}(h:Qt4 l x i false out)(h5:i<l.length)(hg:¬l.getD i 0>x)(ho:out.length≤i):Qt4 l x (i+1) false (out++[l.getD i 0]):=by
 obtain⟨h1,h2,h3⟩:=h;refine⟨h5,by simp;omega,?_⟩
 rw[if_neg (by decide),QaQ h5 0,Qmh,if_neg (by omega)]at h3
 rw[if_neg (by decide),←h3]
 simp
theorem Qz7{l:List Int}{x:Int}{i:Nat}{out:List Int}(h:Qt4 l x i true out)(h5:i<l.length):Qt4 l x (i+1) true (out++[l.getD i 0]):=by
 obtain⟨h1,h2,h3⟩:=h;refine⟨h5,by simp;omega,?_⟩
 rw[if_pos rfl,QaQ h5 0]at h3;rw[if_pos rfl,←h3];simp
theorem QwW{l:List Int}{x:Int}{i:Nat}{out:List Int}(h:Qt4 l x i false out):out.length≤i:=by
 obtain⟨h1,h2,h3⟩:=h;have:=congrArg List.length h3
 rw[if_neg (by decide),List.length_append,Qds,Qds,List.length_drop]at this
 omega
theorem Qt5{l:List Int}{x:Int}{out:List Int}(h:Qt4 l x l.length false out):out++[x]=Qmh l x:=by
 have:=h.2.2
 rw[if_neg (by decide),List.drop_length]at this
 exact this
theorem Qt6{l:List Int}{x:Int}{out:List Int}(h:Qt4 l x l.length true out):out=Qmh l x:=by
 have:=h.2.2
 rw[if_pos rfl,List.drop_length,List.append_nil]at this;exact this
theorem QmF:Qa E0 69 QrC:=by
 refine Qg6 (E:=E0) (T:=mkT Tryz.prog [(118,QyN)] false (fun _=>false) false (fun _=>false)) (Qd (E:=E0) (.cons Qtb .nil)) rfl (fn:=Tryz.f69) Tryz.func69 (by kernel_rfl) rfl Qc (by kernel_rfl) rfl rfl (nLe rfl) ?_
 intro args p rs ms hr;unfold QrC at hr;dsimp only at hr;split at hr;rotate_left
 ·cases hr
 rename_i l dp x;cases hr;refine⟨_,_,rfl,rfl,rfl,rfl,nLe rfl,?_⟩
 have hm:=mxE;rintro⟨h1,h2⟩ bs;obtain⟨xs,rfl,hx⟩:=h1.ex;clear h1;rw[Qr]at h2;rw[QaC];cases hv:xs.contains x
 ·have e:QfZ xs x=Qmh xs x:=by unfold QfZ;rw[hv];rfl
  rw[e];clear e;(repeat' first|refine gA fun _=>?_|apply fkI<;>intro hb<;>try simp only[ew,hv]at hb|simp only[go_sem,simprocAttr, *,hv])
  refine lpI {ι:=Nat×Bool×List Int,rs:=[(13,40)],mods:=[(7,fun i=> .one (.d (.v (.int .i64 i.1)))),(6,fun i=> .one (.d (.v (.bool i.2.1)))),(5,fun i=> .one (.own 1 (iL i.2.2) 1))],boxes:=[],arrs:=[(0,fun _=>(1,iL xs,1))],ok:=fun i=>Qt4 xs x i.1 i.2.1 i.2.2,mu:=fun i=>xs.length-i.1} rfl (0,false,[]) Qrf ?_ ?_
  ·(repeat' first|refine gA fun _=>?_|apply fkI<;>intro hb<;>try simp only[ew,hv]at hb|simp only[go_sem,simprocAttr, *,hv])
   all_goals first|rfl|skip
  ·rintro⟨i,pl,out⟩ hi
   dsimp only at hi;have hi1:=hi.1
   have hi2:=hi.2.1
   by_cases h5:i<xs.length
   ·cases pl
    ·have ho:=QwW hi
     by_cases hg:xs.getD i 0>x
     ·have hn:=Qre hi h5 hg ho
      have hg':decide (xs.getD i 0>x)=true:=decide_eq_true hg
      clear hi hg;(repeat' first|refine gA fun _=>?_|apply fkI<;>intro hb<;>try simp only[ew,hg',Qo]at hb|simp only[go_sem,simprocAttr, *,Qo])
      refine lpN (i+1,true,(out++[x])++[xs.getD i 0]) hn (by dsimp only;omega) ?_
      clear hn;(repeat' first|refine gA fun _=>?_|apply fkI<;>intro hb<;>try simp only[ew,Qo]at hb|simp only[go_sem,simprocAttr, *,Qo])
      all_goals first|rfl|skip
     ·have hn:=Qz6 hi h5 hg ho
      have hg':decide (xs.getD i 0>x)=false:=decide_eq_false hg
      clear hi hg;(repeat' first|refine gA fun _=>?_|apply fkI<;>intro hb<;>try simp only[ew,hg',Qo]at hb|simp only[go_sem,simprocAttr, *,Qo])
      refine lpN (i+1,false,out++[xs.getD i 0]) hn (by dsimp only;omega) ?_
      clear hn;(repeat' first|refine gA fun _=>?_|apply fkI<;>intro hb<;>try simp only[ew,Qo]at hb|simp only[go_sem,simprocAttr, *,Qo])
      all_goals first|rfl|skip
    ·have hn:=Qz7 hi h5
     clear hi;(repeat' first|refine gA fun _=>?_|apply fkI<;>intro hb<;>try simp only[ew,Qo]at hb|simp only[go_sem,simprocAttr, *,Qo])
     refine lpN (i+1,true,out++[xs.getD i 0]) hn (by dsimp only;omega) ?_
     clear hn;(repeat' first|refine gA fun _=>?_|apply fkI<;>intro hb<;>try simp only[ew,Qo]at hb|simp only[go_sem,simprocAttr, *,Qo])
     all_goals first|rfl|skip
   ·have e5:i=xs.length:=by omega
    subst e5;cases pl
    ·have e:=Qt5 hi
     clear hi;(repeat' first|refine gA fun _=>?_|apply fkI<;>intro hb<;>try simp only[ew,Qo]at hb|simp only[go_sem,simprocAttr, *,Qo])
     all_goals first|exact e|(rw[e];done)|skip
    ·have e:=Qt6 hi
     clear hi;subst e;exact gQ
 ·have e:QfZ xs x=xs:=by unfold QfZ;rw[hv];rfl
  rw[e];clear e;(repeat' first|refine gA fun _=>?_|apply fkI<;>intro hb<;>try simp only[ew,hv]at hb|simp only[go_sem,simprocAttr, *,hv])
  all_goals first|rfl|skip
def QaB(l:List Int):Bool:=l.all (Ql 5)&&decide ((l.length:Int)≤100)
def Qi7:Qb:=⟨[],false,fun
 | [.one (.sl 1 l)]=>some (WfI l,[⟨false,[.d (.v (.bool (QaB (unI l))))]⟩],[])
 | _=>none⟩
attribute [local go_sem] Qi7
theorem Qp9:Qa E0 68 Qi7:=by
 refine QE (E:=E0) (T:=mkT Tryz.prog [(63,Qci)] false (fun _=>false) true (fun _=>false)) (Qd (E:=E0) (.cons QiZ .nil)) (fn:=Tryz.f68) Tryz.func68 (by kernel_rfl) rfl Qc (by kernel_rfl) rfl ?_
 intro args p rs ms hr;unfold Qi7 at hr;dsimp only at hr;split at hr;rotate_left
 ·cases hr
 rename_i l;cases hr;refine⟨rfl,rfl,nLe rfl,?_⟩
 have hm:=mxE;intro h1 bs;obtain⟨xs,rfl,hx⟩:=h1.ex;clear h1;rw[QaC];(repeat' first|refine gA fun _=>?_|apply fkI<;>intro hb<;>try simp only[ew]at hb|simp only[go_sem,simprocAttr, *])
 refine lpI {ι:=Nat,rs:=[(2,3),(4,16)],mods:=[(3,fun i=> .one (.d (.v (.int .i64 i))))],boxes:=[],arrs:=[],ok:=fun i=>i≤xs.length∧(xs.drop i).all (Ql 5)=xs.all (Ql 5),mu:=fun i=>xs.length-i} rfl 0 ⟨Nat.zero_le _,rfl⟩ ?_ fun i hi=>?_
 ·exact gQ
 ·dsimp only at i hi
  obtain⟨hi,ht⟩:=hi
  by_cases h5:i<xs.length
  ·rw[Qbk h5 0]at ht
   cases hq:Ql 5 (xs.getD i 0)
   ·rw[hq,Bool.false_and]at ht
    have e:QaB xs=false:=by unfold QaB;rw[←ht];rfl
    rw[e];clear e ht;(repeat' first|refine gA fun _=>?_|apply fkI<;>intro hb<;>try simp only[ew,hq]at hb|simp only[go_sem,simprocAttr, *,hq])
   ·rw[hq,Bool.true_and]at ht
    (repeat' first|refine gA fun _=>?_|apply fkI<;>intro hb<;>try simp only[ew,hq]at hb|simp only[go_sem,simprocAttr, *,hq])
    refine lpN (i+1) ⟨by omega,ht⟩ (by dsimp only;omega) ?_
    clear ht;exact gQ
  ·have e5:i=xs.length:=by omega
   subst e5;rw[List.drop_length,List.all_nil]at ht;have e:QaB xs=decide ((xs.length:Int)≤100):=by unfold QaB;rw[←ht];rfl
   rw[e];clear e ht;exact gQ
theorem Qp8:Qa E0 207 Qi7:=by
 refine QE (E:=E0) (T:=mkT Tryz.prog [(148,Qci)] false (fun _=>false) true (fun _=>false)) (Qd (E:=E0) (.cons QiY .nil)) (fn:=Tryz.f207) Tryz.func207 (by kernel_rfl) rfl Qc (by kernel_rfl) rfl ?_
 intro args p rs ms hr;unfold Qi7 at hr;dsimp only at hr;split at hr;rotate_left
 ·cases hr
 rename_i l;cases hr;refine⟨rfl,rfl,nLe rfl,?_⟩
 have hm:=mxE;intro h1 bs;obtain⟨xs,rfl,hx⟩:=h1.ex;clear h1;rw[QaC];(repeat' first|refine gA fun _=>?_|apply fkI<;>intro hb<;>try simp only[ew]at hb|simp only[go_sem,simprocAttr, *])
 refine lpI {ι:=Nat,rs:=[(2,3),(4,5),(8,15)],mods:=[(7,fun i=> .one (.d (.v (.int .i64 i))))],boxes:=[],arrs:=[],ok:=fun i=>i≤xs.length∧(xs.drop i).all (Ql 5)=xs.all (Ql 5),mu:=fun i=>xs.length-i} rfl 0 ⟨Nat.zero_le _,rfl⟩ ?_ fun i hi=>?_
 ·exact gQ
 ·dsimp only at i hi
  obtain⟨hi,ht⟩:=hi
  by_cases h5:i<xs.length
  ·rw[Qbk h5 0]at ht
   cases hq:Ql 5 (xs.getD i 0)
   ·rw[hq,Bool.false_and]at ht
    have e:QaB xs=false:=by unfold QaB;rw[←ht];rfl
    rw[e];clear e ht;(repeat' first|refine gA fun _=>?_|apply fkI<;>intro hb<;>try simp only[ew,hq]at hb|simp only[go_sem,simprocAttr, *,hq])
   ·rw[hq,Bool.true_and]at ht
    (repeat' first|refine gA fun _=>?_|apply fkI<;>intro hb<;>try simp only[ew,hq]at hb|simp only[go_sem,simprocAttr, *,hq])
    refine lpN (i+1) ⟨by omega,ht⟩ (by dsimp only;omega) ?_
    clear ht;exact gQ
  ·have e5:i=xs.length:=by omega
   subst e5;rw[List.drop_length,List.all_nil]at ht;have e:QaB xs=decide ((xs.length:Int)≤100):=by unfold QaB;rw[←ht];rfl
   rw[e];clear e ht;exact gQ
def QaF(x y:Int):Bool:=x==y|| !Q7 y x
def QaL(x y:Int):Bool:=x==y|| !Q7 x y
def Qcb(t:Int→Int→Bool)(l:List Int):List Int:=if QaB l then QaS (l.filter fun x=>l.all (t x))else []
theorem Qgl{p:Int→Bool}{xs:List Int}:(QaS xs).filter p=QaS (xs.filter p):=by
 refine QbL (Qat.filter _) Qat fun z=>?_
 rw[List.mem_filter,Qai,Qai,List.mem_filter]
theorem Qdy{t:Int→Int→Bool}{l:List Int}:(Qcb t l).length≤100:=by
 unfold Qcb;split
 ·rename_i h
  simp only[QaB,Bool.and_eq_true,decide_eq_true_eq]at h
  have h1:=@QaE (l.filter fun x=>l.all (t x))
  have h2:=List.length_filter_le (fun x=>l.all (t x)) l
  omega
 ·simp
theorem Qw2{t:Int→Int→Bool}{l:List Int}{x:Int}(h:x∈Qcb t l):x∈l∧Ql 5 x=true:=by
 unfold Qcb at h;split at h
 ·rename_i hs
  rw[Qai,List.mem_filter]at h;simp only[QaB,Bool.and_eq_true,List.all_eq_true]at hs
  exact⟨h.1,hs.1 x h.1⟩
 ·cases h
theorem Quq{l:List Int}(h:QaB l=true){i:Nat}(hi:i<l.length):0≤l.getD i 0∧l.getD i 0≤31:=by
 simp only[QaB,Bool.and_eq_true,List.all_eq_true]at h
 have:=Qp (h.1 _ (QP hi 0))
 exact this.2.2
theorem QdX{xs:List Int}{x:Int}:QaS (xs++[x])=QfZ (QaS xs) x:=by unfold QaS;rw[List.foldl_append];rfl
def Qg1:Qb:=⟨[],false,fun
 | [.one (.sl 1 l)]=>some (WfI l,[⟨false,[.own 1 (iL (Qcb QaF (unI l))) 1]⟩],[])
 | _=>none⟩
attribute [local go_sem] Qg1
def QhX:Qb:=⟨[],false,fun
 | [.one (.sl 1 l)]=>some (WfI l,[⟨false,[.own 1 (iL (Qcb QaL (unI l))) 1]⟩],[])
 | _=>none⟩
theorem Qvb{l x:Int}(hl:R5 l)(hx:R5 x):(Q6 .and .i64 l x !=l)= !Q7 l x:=by
 rw[bne,Qde hl hx]
theorem QtF:Qa E0 31 Qg1:=by
 refine QE (E:=E0) (T:=mkT Tryz.prog [(68,Qi7),(69,QrC)] false (fun _=>false) true (fun _=>false)) (Qd (E:=E0) (.cons Qp9 (.cons QmF .nil))) (fn:=Tryz.f31) Tryz.func31 (by kernel_rfl) rfl Qc (by kernel_rfl) rfl ?_
 intro args p rs ms hr;unfold Qg1 at hr;dsimp only at hr;split at hr;rotate_left
 ·cases hr
 rename_i l;cases hr;refine⟨rfl,rfl,nLe rfl,?_⟩
 have hm:=mxE;intro h1 bs;obtain⟨xs,rfl,hx⟩:=h1.ex;clear h1;rw[QaC];cases hv:QaB xs
 ·have e:Qcb QaF xs=[]:=by unfold Qcb;rw[hv];rfl
  rw[e];clear e;(repeat' first|refine gA fun _=>?_|apply fkI<;>intro hb<;>try simp only[ew,hv]at hb|simp only[go_sem,simprocAttr, *,hv])
  refine lpI {ι:=Unit,rs:=[(5,7),(8,59)],mods:=[(4,fun _=> .one (.d (.v (.int .i64 0)))),(3,fun _=> .one (.own 1 [] 1))],boxes:=[],arrs:=[],ok:=fun _=>True,mu:=fun _=>0} rfl () trivial ?_ fun _ _=>?_
  ·(repeat' first|refine gA fun _=>?_|apply fkI<;>intro hb<;>try simp only[ew,hv]at hb|simp only[go_sem,simprocAttr, *,hv])
  ·(repeat' first|refine gA fun _=>?_|apply fkI<;>intro hb<;>try simp only[ew,hv]at hb|simp only[go_sem,simprocAttr, *,hv])
   all_goals first|rfl|skip
 ·have e:Qcb QaF xs=QaS (xs.filter fun x=>xs.all (QaF x)):=by unfold Qcb;rw[hv];rfl
  have hat:=fun i=>@Quq xs hv i
  have h100:xs.length≤100:=by
   have:=hv
   simp only[QaB,Bool.and_eq_true,decide_eq_true_eq]at this
   omega
  rw[e];clear e;(repeat' first|refine gA fun _=>?_|apply fkI<;>intro hb<;>try simp only[ew,hv]at hb|simp only[go_sem,simprocAttr, *,hv])
  refine lpI {ι:=Nat,rs:=[(5,7),(8,59)],mods:=[(4,fun i=> .one (.d (.v (.int .i64 i)))),(3,fun i=> .one (.own 1 (iL (QaS ((xs.take i).filter fun x=>xs.all (QaF x)))) 1))],boxes:=[],arrs:=[],ok:=fun i=>i≤xs.length,mu:=fun i=>xs.length-i} rfl 0 (Nat.zero_le _) ?_ fun i hi=>?_
  ·(repeat' first|refine gA fun _=>?_|apply fkI<;>intro hb<;>try simp only[ew,hv]at hb|simp only[go_sem,simprocAttr, *,hv])
   all_goals first|rfl|skip
  ·dsimp only at i hi
   have l1:=@QaE ((xs.take i).filter fun x=>xs.all (QaF x))
   have l2:=List.length_filter_le (fun x=>xs.all (QaF x)) (xs.take i)
   rw[List.length_take]at l2;have l3:(QaS ((xs.take i).filter fun x=>xs.all (QaF x))).length≤100:=by omega
   have l4:(QaS ((xs.take i).filter fun x=>xs.all (QaF x))).length≤maxLen:=Nat.le_trans l3 (by decide)
   clear l1 l2
   by_cases h5:i<xs.length
   ·obtain⟨x0,x31⟩:=hat i h5
    have hft:=Qcl h5 (fun x=>xs.all (QaF x))
    have hsn:=fun x=>@QdX ((xs.take i).filter fun x=>xs.all (QaF x)) x
    generalize hZ:QaS ((xs.take i).filter fun x=>xs.all (QaF x))=Z at l3 l4 hsn
    generalize hX:xs.getD i 0=x at x0 x31 hft;(repeat' first|refine gA fun _=>?_|apply fkI<;>intro hb<;>try simp only[ew,hv,hZ]at hb|simp only[go_sem,simprocAttr, *,hv])
    generalize hF:xs.all (QaF x)=F at hft;refine lpI {ι:=Nat,rs:=[(18,52)],mods:=[(6,fun k=> .one (.d (.v (.int .i64 k)))),(5,fun k=> .one (.d (.v (.bool ((xs.take k).all (QaF x))))))],boxes:=[],arrs:=[(3,fun _=>(1,iL Z,1))],ok:=fun k=>k≤xs.length,mu:=fun k=>xs.length-k} rfl 0 (Nat.zero_le _) ?_ fun k hk=>?_
    ·(repeat' first|refine gA fun _=>?_|apply fkI<;>intro hb<;>try simp only[ew,hZ]at hb|simp only[go_sem,simprocAttr, *])
     all_goals first|rfl|skip
    ·dsimp only at k hk
     by_cases h6:k<xs.length
     ·obtain⟨y0,y31⟩:=hat k h6
      have ea:=Qkk (l:=xs.getD k 0) (x:=x) ⟨y0,y31⟩ ⟨x0,x31⟩
      have et:=Qek h6 0 (QaF x)
      have em:QaF x (xs.getD k 0)=(xs.getD k 0==x|| !Q7 (xs.getD k 0) x):=by
       unfold QaF;rw[Bool.beq_comm]
      rw[em]at et;clear em;(repeat' first|refine gA fun _=>?_|apply fkI<;>intro hb<;>try simp only[ew,hX,ea]at hb|simp only[go_sem,simprocAttr, *])
      refine lpN (k+1) (by dsimp only;omega) (by dsimp only;omega) ?_
      (repeat' first|refine gA fun _=>?_|apply fkI<;>intro hb<;>try simp only[ew,et,hX,ea]at hb|simp only[go_sem,simprocAttr, *])
     ·have e6:k=xs.length:=by omega
      subst e6;have et:(xs.take xs.length).all (QaF x)=F:=by rw[List.take_length,hF]
      cases hq:F
      ·rw[hq]at et hft
       rw[if_neg (by decide),List.append_nil]at hft
       clear hsn;(repeat' first|refine gA fun _=>?_|apply fkI<;>intro hb<;>try simp only[ew,et,hX]at hb|simp only[go_sem,simprocAttr, *])
       refine lpN (i+1) (by dsimp only;omega) (by dsimp only;omega) ?_
       (repeat' first|refine gA fun _=>?_|apply fkI<;>intro hb<;>try simp only[ew,hft,hZ]at hb|simp only[go_sem,simprocAttr, *])
      ·rw[hq]at et hft
       rw[if_pos rfl]at hft;have hs:=hsn x
       clear hsn;(repeat' first|refine gA fun _=>?_|apply fkI<;>intro hb<;>try simp only[ew,et,hX]at hb|simp only[go_sem,simprocAttr, *])
       refine lpN (i+1) (by dsimp only;omega) (by dsimp only;omega) ?_
       (repeat' first|refine gA fun _=>?_|apply fkI<;>intro hb<;>try simp only[ew,hft,hs,hZ]at hb|simp only[go_sem,simprocAttr, *])
   ·have e5:i=xs.length:=by omega
    subst e5;have et:xs.take xs.length=xs:=List.take_length
    (repeat' first|refine gA fun _=>?_|apply fkI<;>intro hb<;>try simp only[ew,et,hv]at hb|simp only[go_sem,simprocAttr, *,hv])
    all_goals first|rfl|skip
end Go.Own
