/- Own contracts. Conditions: as each theorem states them. -/
import Derived.Test.YtnmkpepdacbfaaaGreatDoorRr19
import Derived.Test.YtnmkpepdacbfaaaGreatDoorRr21
set_option linter.unusedSimpArgs false
set_option linter.unusedVariables false
set_option maxRecDepth 20000
set_option maxHeartbeats 2000000
namespace Go.Own
open Go Go.Proofs
attribute [local go_sem] Qw5 Tryz.results69 Qb5 Tryz.results68 Tryz.results207 Tryz.results31
def QvL:Qb:=⟨[true],true,fun
 | [.arr 1 l _,.one (.v (.int .i64 x))]=>some (WfI l∧l.length≤16777216,[⟨false,[.own 1 (iL (QkT (unI l) x)) 1]⟩],[.gone])
 | _=>none⟩
attribute [local go_sem] QvL
def Qsb(l:List Int)(x:Int)(i:Nat)(pl:Bool)(out:List Int):Prop:=i≤l.length∧out.length≤i+1∧out++(if pl then l.drop i else QkA (l.drop i) x)=QkA l x
theorem Qph{l:List Int}{x:Int}:Qsb l x 0 false []:=⟨Nat.zero_le _,by simp,by simp⟩
theorem Qpg{l:List Int}{x:Int}{i:Nat}{out:List Int}(h:Qsb l x i false out)(h5:i<l.length)(hg:l.getD i 0>x)(ho:out.length≤i):Qsb l x (i+1) true ((out++[x])++[l.getD i 0]):=by
 obtain⟨h1,h2,h3⟩:=h;refine⟨h5,by simp;omega,?_⟩
 rw[if_neg (by decide),QaX h5 0,QkA,if_pos (by omega)]at h3
 rw[if_pos rfl,←h3];simp
theorem Qyl{l:List Int}{x:Int}{i:Nat}{out:List Int}(h:Qsb l x i false out)(h5:i<l.length)(hg:¬l.getD i 0>x)(ho:out.length≤i):Qsb l x (i+1) false (out++[l.getD i 0]):=by
 obtain⟨h1,h2,h3⟩:=h;refine⟨h5,by simp;omega,?_⟩
 rw[if_neg (by decide),QaX h5 0,QkA,if_neg (by omega)]at h3
 rw[if_neg (by decide),←h3]
 simp
theorem Qym{l:List Int}{x:Int}{i:Nat}{out:List Int}(h:Qsb l x i true out)(h5:i<l.length):Qsb l x (i+1) true (out++[l.getD i 0]):=by
 obtain⟨h1,h2,h3⟩:=h;refine⟨h5,by simp;omega,?_⟩
 rw[if_pos rfl,QaX h5 0]at h3;rw[if_pos rfl,←h3];simp
theorem Qu7{l:List Int}{x:Int}{i:Nat}{out:List Int}(h:Qsb l x i false out):out.length≤i:=by
 obtain⟨h1,h2,h3⟩:=h;have:=congrArg List.length h3
 rw[if_neg (by decide),List.length_append,QcX,QcX,List.length_drop]at this
 omega
theorem Qsc{l:List Int}{x:Int}{out:List Int}(h:Qsb l x l.length false out):out++[x]=QkA l x:=by
 have:=h.2.2
 rw[if_neg (by decide),List.drop_length]at this
 exact this
theorem Qsd{l:List Int}{x:Int}{out:List Int}(h:Qsb l x l.length true out):out=QkA l x:=by
 have:=h.2.2
 rw[if_pos rfl,List.drop_length,List.append_nil]at this;exact this
theorem QAG:Qa E0 69 QvL:=by
 refine Qgc (E:=E0) (T:=mkT Tryz.prog [(118,Qw5)] false (fun _=>false) false (fun _=>false)) (Qf (E:=E0) (.cons Qri .nil)) rfl (fn:=Tryz.f69) Tryz.func69 (by kernel_rfl) rfl Qe (by kernel_rfl) rfl rfl (nLe rfl) ?_
 intro args p rs ms hr;unfold QvL at hr;dsimp only at hr;split at hr;rotate_left
 ·cases hr
 rename_i l dp x;cases hr;refine⟨_,_,rfl,rfl,rfl,rfl,nLe rfl,?_⟩
 have hm:=mxE;rintro⟨h1,h2⟩ bs;obtain⟨xs,rfl,hx⟩:=h1.ex;clear h1;rw[Qo]at h2;rw[Qay];cases hv:xs.contains x
 ·have e:QkT xs x=QkA xs x:=by unfold QkT;rw[hv];rfl
  rw[e];clear e;(repeat' first|refine gA fun _=>?_|apply fkI<;>intro hb<;>try simp only[ew,hv]at hb|simp only[go_sem,simprocAttr, *,hv])
  refine lpI {ι:=Nat×Bool×List Int,rs:=[(13,40)],mods:=[(7,fun i=> .one (.d (.v (.int .i64 i.1)))),(6,fun i=> .one (.d (.v (.bool i.2.1)))),(5,fun i=> .one (.own 1 (iL i.2.2) 1))],boxes:=[],arrs:=[(0,fun _=>(1,iL xs,1))],ok:=fun i=>Qsb xs x i.1 i.2.1 i.2.2,mu:=fun i=>xs.length-i.1} rfl (0,false,[]) Qph ?_ ?_
  ·(repeat' first|refine gA fun _=>?_|apply fkI<;>intro hb<;>try simp only[ew,hv]at hb|simp only[go_sem,simprocAttr, *,hv])
   all_goals first|rfl|skip
  ·rintro⟨i,pl,out⟩ hi
   dsimp only at hi;have hi1:=hi.1
   have hi2:=hi.2.1
   by_cases h5:i<xs.length
   ·cases pl
    ·have ho:=Qu7 hi
     by_cases hg:xs.getD i 0>x
     ·have hn:=Qpg hi h5 hg ho
      have hg':decide (xs.getD i 0>x)=true:=decide_eq_true hg
      clear hi hg;(repeat' first|refine gA fun _=>?_|apply fkI<;>intro hb<;>try simp only[ew,hg',Ql]at hb|simp only[go_sem,simprocAttr, *,Ql])
      refine lpN (i+1,true,(out++[x])++[xs.getD i 0]) hn (by dsimp only;omega) ?_
      clear hn;(repeat' first|refine gA fun _=>?_|apply fkI<;>intro hb<;>try simp only[ew,Ql]at hb|simp only[go_sem,simprocAttr, *,Ql])
      all_goals first|rfl|skip
     ·have hn:=Qyl hi h5 hg ho
      have hg':decide (xs.getD i 0>x)=false:=decide_eq_false hg
      clear hi hg;(repeat' first|refine gA fun _=>?_|apply fkI<;>intro hb<;>try simp only[ew,hg',Ql]at hb|simp only[go_sem,simprocAttr, *,Ql])
      refine lpN (i+1,false,out++[xs.getD i 0]) hn (by dsimp only;omega) ?_
      clear hn;(repeat' first|refine gA fun _=>?_|apply fkI<;>intro hb<;>try simp only[ew,Ql]at hb|simp only[go_sem,simprocAttr, *,Ql])
      all_goals first|rfl|skip
    ·have hn:=Qym hi h5
     clear hi;(repeat' first|refine gA fun _=>?_|apply fkI<;>intro hb<;>try simp only[ew,Ql]at hb|simp only[go_sem,simprocAttr, *,Ql])
     refine lpN (i+1,true,out++[xs.getD i 0]) hn (by dsimp only;omega) ?_
     clear hn;(repeat' first|refine gA fun _=>?_|apply fkI<;>intro hb<;>try simp only[ew,Ql]at hb|simp only[go_sem,simprocAttr, *,Ql])
     all_goals first|rfl|skip
   ·have e5:i=xs.length:=by omega
    subst e5;cases pl
    ·have e:=Qsc hi
     clear hi;(repeat' first|refine gA fun _=>?_|apply fkI<;>intro hb<;>try simp only[ew,Ql]at hb|simp only[go_sem,simprocAttr, *,Ql])
     all_goals first|exact e|(rw[e];done)|skip
    ·have e:=Qsd hi
     clear hi;subst e;exact gQ
 ·have e:QkT xs x=xs:=by unfold QkT;rw[hv];rfl
  rw[e];clear e;(repeat' first|refine gA fun _=>?_|apply fkI<;>intro hb<;>try simp only[ew,hv]at hb|simp only[go_sem,simprocAttr, *,hv])
  all_goals first|rfl|skip
def QaE(l:List Int):Bool:=l.all (Qj 5)&&decide ((l.length:Int)≤100)
def Qi0:Qb:=⟨[],false,fun
 | [.one (.sl 1 l)]=>some (WfI l,[⟨false,[.d (.v (.bool (QaE (unI l))))]⟩],[])
 | _=>none⟩
attribute [local go_sem] Qi0
theorem Qvj:Qa E0 68 Qi0:=by
 refine QV (E:=E0) (T:=mkT Tryz.prog [(63,Qb5)] false (fun _=>false) true (fun _=>false)) (Qf (E:=E0) (.cons QhO .nil)) (fn:=Tryz.f68) Tryz.func68 (by kernel_rfl) rfl Qe (by kernel_rfl) rfl ?_
 intro args p rs ms hr;unfold Qi0 at hr;dsimp only at hr;split at hr;rotate_left
 ·cases hr
 rename_i l;cases hr;refine⟨rfl,rfl,nLe rfl,?_⟩
 have hm:=mxE;intro h1 bs;obtain⟨xs,rfl,hx⟩:=h1.ex;clear h1;rw[Qay];(repeat' first|refine gA fun _=>?_|apply fkI<;>intro hb<;>try simp only[ew]at hb|simp only[go_sem,simprocAttr, *])
 refine lpI {ι:=Nat,rs:=[(2,3),(4,16)],mods:=[(3,fun i=> .one (.d (.v (.int .i64 i))))],boxes:=[],arrs:=[],ok:=fun i=>i≤xs.length∧(xs.drop i).all (Qj 5)=xs.all (Qj 5),mu:=fun i=>xs.length-i} rfl 0 ⟨Nat.zero_le _,rfl⟩ ?_ fun i hi=>?_
 ·exact gQ
 ·dsimp only at i hi
  obtain⟨hi,ht⟩:=hi
  by_cases h5:i<xs.length
  ·rw[Qbd h5 0]at ht
   cases hq:Qj 5 (xs.getD i 0)
   ·rw[hq,Bool.false_and]at ht
    have e:QaE xs=false:=by unfold QaE;rw[←ht];rfl
    rw[e];clear e ht;(repeat' first|refine gA fun _=>?_|apply fkI<;>intro hb<;>try simp only[ew,hq]at hb|simp only[go_sem,simprocAttr, *,hq])
   ·rw[hq,Bool.true_and]at ht
    (repeat' first|refine gA fun _=>?_|apply fkI<;>intro hb<;>try simp only[ew,hq]at hb|simp only[go_sem,simprocAttr, *,hq])
    refine lpN (i+1) ⟨by omega,ht⟩ (by dsimp only;omega) ?_
    clear ht;exact gQ
  ·have e5:i=xs.length:=by omega
   subst e5;rw[List.drop_length,List.all_nil]at ht;have e:QaE xs=decide ((xs.length:Int)≤100):=by unfold QaE;rw[←ht];rfl
   rw[e];clear e ht;exact gQ
theorem Qn6:Qa E0 207 Qi0:=by
 refine QV (E:=E0) (T:=mkT Tryz.prog [(148,Qb5)] false (fun _=>false) true (fun _=>false)) (Qf (E:=E0) (.cons QhN .nil)) (fn:=Tryz.f207) Tryz.func207 (by kernel_rfl) rfl Qe (by kernel_rfl) rfl ?_
 intro args p rs ms hr;unfold Qi0 at hr;dsimp only at hr;split at hr;rotate_left
 ·cases hr
 rename_i l;cases hr;refine⟨rfl,rfl,nLe rfl,?_⟩
 have hm:=mxE;intro h1 bs;obtain⟨xs,rfl,hx⟩:=h1.ex;clear h1;rw[Qay];(repeat' first|refine gA fun _=>?_|apply fkI<;>intro hb<;>try simp only[ew]at hb|simp only[go_sem,simprocAttr, *])
 refine lpI {ι:=Nat,rs:=[(2,3),(4,5),(8,15)],mods:=[(7,fun i=> .one (.d (.v (.int .i64 i))))],boxes:=[],arrs:=[],ok:=fun i=>i≤xs.length∧(xs.drop i).all (Qj 5)=xs.all (Qj 5),mu:=fun i=>xs.length-i} rfl 0 ⟨Nat.zero_le _,rfl⟩ ?_ fun i hi=>?_
 ·exact gQ
 ·dsimp only at i hi
  obtain⟨hi,ht⟩:=hi
  by_cases h5:i<xs.length
  ·rw[Qbd h5 0]at ht
   cases hq:Qj 5 (xs.getD i 0)
   ·rw[hq,Bool.false_and]at ht
    have e:QaE xs=false:=by unfold QaE;rw[←ht];rfl
    rw[e];clear e ht;(repeat' first|refine gA fun _=>?_|apply fkI<;>intro hb<;>try simp only[ew,hq]at hb|simp only[go_sem,simprocAttr, *,hq])
   ·rw[hq,Bool.true_and]at ht
    (repeat' first|refine gA fun _=>?_|apply fkI<;>intro hb<;>try simp only[ew,hq]at hb|simp only[go_sem,simprocAttr, *,hq])
    refine lpN (i+1) ⟨by omega,ht⟩ (by dsimp only;omega) ?_
    clear ht;exact gQ
  ·have e5:i=xs.length:=by omega
   subst e5;rw[List.drop_length,List.all_nil]at ht;have e:QaE xs=decide ((xs.length:Int)≤100):=by unfold QaE;rw[←ht];rfl
   rw[e];clear e ht;exact gQ
def Qaw(x y:Int):Bool:=x==y|| !Qal y x
def Qc9(x y:Int):Bool:=x==y|| !Qal x y
def QdG(t:Int→Int→Bool)(l:List Int):List Int:=if QaE l then Qdq (l.filter fun x=>l.all (t x))else []
theorem Qir{p:Int→Bool}{xs:List Int}:(Qdq xs).filter p=Qdq (xs.filter p):=by
 refine QcL (Qa3.filter _) Qa3 fun z=>?_
 rw[List.mem_filter,Qbh,Qbh,List.mem_filter]
theorem Qc0{t:Int→Int→Bool}{l:List Int}:(QdG t l).length≤100:=by
 unfold QdG;split
 ·rename_i h
  simp only[QaE,Bool.and_eq_true,decide_eq_true_eq]at h
  have h1:=@Qbu (l.filter fun x=>l.all (t x))
  have h2:=List.length_filter_le (fun x=>l.all (t x)) l
  omega
 ·simp
theorem Qvh{t:Int→Int→Bool}{l:List Int}{x:Int}(h:x∈QdG t l):x∈l∧Qj 5 x=true:=by
 unfold QdG at h;split at h
 ·rename_i hs
  rw[Qbh,List.mem_filter]at h;simp only[QaE,Bool.and_eq_true,List.all_eq_true]at hs
  exact⟨h.1,hs.1 x h.1⟩
 ·cases h
theorem QyG{l:List Int}(h:QaE l=true){i:Nat}(hi:i<l.length):0≤l.getD i 0∧l.getD i 0≤31:=by
 simp only[QaE,Bool.and_eq_true,List.all_eq_true]at h
 have:=Qt (h.1 _ (QI hi 0))
 exact this.2.2
theorem QqY{xs:List Int}{x:Int}:Qdq (xs++[x])=QkT (Qdq xs) x:=by unfold Qdq;rw[List.foldl_append];rfl
def QgQ:Qb:=⟨[],false,fun
 | [.one (.sl 1 l)]=>some (WfI l,[⟨false,[.own 1 (iL (QdG Qaw (unI l))) 1]⟩],[])
 | _=>none⟩
attribute [local go_sem] QgQ
def Qly:Qb:=⟨[],false,fun
 | [.one (.sl 1 l)]=>some (WfI l,[⟨false,[.own 1 (iL (QdG Qc9 (unI l))) 1]⟩],[])
 | _=>none⟩
theorem Qx1:Qa E0 31 QgQ:=by
 refine QV (E:=E0) (T:=mkT Tryz.prog [(68,Qi0),(69,QvL)] false (fun _=>false) true (fun _=>false)) (Qf (E:=E0) (.cons Qvj (.cons QAG .nil))) (fn:=Tryz.f31) Tryz.func31 (by kernel_rfl) rfl Qe (by kernel_rfl) rfl ?_
 intro args p rs ms hr;unfold QgQ at hr;dsimp only at hr;split at hr;rotate_left
 ·cases hr
 rename_i l;cases hr;refine⟨rfl,rfl,nLe rfl,?_⟩
 have hm:=mxE;intro h1 bs;obtain⟨xs,rfl,hx⟩:=h1.ex;clear h1;rw[Qay];cases hv:QaE xs
 ·have e:QdG Qaw xs=[]:=by unfold QdG;rw[hv];rfl
  rw[e];clear e;(repeat' first|refine gA fun _=>?_|apply fkI<;>intro hb<;>try simp only[ew,hv]at hb|simp only[go_sem,simprocAttr, *,hv])
  refine lpI {ι:=Unit,rs:=[(5,7),(8,59)],mods:=[(4,fun _=> .one (.d (.v (.int .i64 0)))),(3,fun _=> .one (.own 1 [] 1))],boxes:=[],arrs:=[],ok:=fun _=>True,mu:=fun _=>0} rfl () trivial ?_ fun _ _=>?_
  ·(repeat' first|refine gA fun _=>?_|apply fkI<;>intro hb<;>try simp only[ew,hv]at hb|simp only[go_sem,simprocAttr, *,hv])
  ·(repeat' first|refine gA fun _=>?_|apply fkI<;>intro hb<;>try simp only[ew,hv]at hb|simp only[go_sem,simprocAttr, *,hv])
   all_goals first|rfl|skip
 ·have e:QdG Qaw xs=Qdq (xs.filter fun x=>xs.all (Qaw x)):=by unfold QdG;rw[hv];rfl
  have hat:=fun i=>@QyG xs hv i
  have h100:xs.length≤100:=by
   have:=hv
   simp only[QaE,Bool.and_eq_true,decide_eq_true_eq]at this
   omega
  rw[e];clear e;(repeat' first|refine gA fun _=>?_|apply fkI<;>intro hb<;>try simp only[ew,hv]at hb|simp only[go_sem,simprocAttr, *,hv])
  refine lpI {ι:=Nat,rs:=[(5,7),(8,59)],mods:=[(4,fun i=> .one (.d (.v (.int .i64 i)))),(3,fun i=> .one (.own 1 (iL (Qdq ((xs.take i).filter fun x=>xs.all (Qaw x)))) 1))],boxes:=[],arrs:=[],ok:=fun i=>i≤xs.length,mu:=fun i=>xs.length-i} rfl 0 (Nat.zero_le _) ?_ fun i hi=>?_
  ·(repeat' first|refine gA fun _=>?_|apply fkI<;>intro hb<;>try simp only[ew,hv]at hb|simp only[go_sem,simprocAttr, *,hv])
   all_goals first|rfl|skip
  ·dsimp only at i hi
   have l1:=@Qbu ((xs.take i).filter fun x=>xs.all (Qaw x))
   have l2:=List.length_filter_le (fun x=>xs.all (Qaw x)) (xs.take i)
   rw[List.length_take]at l2;have l3:(Qdq ((xs.take i).filter fun x=>xs.all (Qaw x))).length≤100:=by omega
   have l4:(Qdq ((xs.take i).filter fun x=>xs.all (Qaw x))).length≤maxLen:=Nat.le_trans l3 (by decide)
   clear l1 l2
   by_cases h5:i<xs.length
   ·obtain⟨x0,x31⟩:=hat i h5
    have hft:=QcT h5 (fun x=>xs.all (Qaw x))
    have hsn:=fun x=>@QqY ((xs.take i).filter fun x=>xs.all (Qaw x)) x
    generalize hZ:Qdq ((xs.take i).filter fun x=>xs.all (Qaw x))=Z at l3 l4 hsn
    generalize hX:xs.getD i 0=x at x0 x31 hft;(repeat' first|refine gA fun _=>?_|apply fkI<;>intro hb<;>try simp only[ew,hv,hZ]at hb|simp only[go_sem,simprocAttr, *,hv])
    generalize hF:xs.all (Qaw x)=F at hft;refine lpI {ι:=Nat,rs:=[(18,52)],mods:=[(6,fun k=> .one (.d (.v (.int .i64 k)))),(5,fun k=> .one (.d (.v (.bool ((xs.take k).all (Qaw x))))))],boxes:=[],arrs:=[(3,fun _=>(1,iL Z,1))],ok:=fun k=>k≤xs.length,mu:=fun k=>xs.length-k} rfl 0 (Nat.zero_le _) ?_ fun k hk=>?_
    ·(repeat' first|refine gA fun _=>?_|apply fkI<;>intro hb<;>try simp only[ew,hZ]at hb|simp only[go_sem,simprocAttr, *])
     all_goals first|rfl|skip
    ·dsimp only at k hk
     by_cases h6:k<xs.length
     ·obtain⟨y0,y31⟩:=hat k h6
      have ea:=Qtp (l:=xs.getD k 0) (x:=x) ⟨y0,y31⟩ ⟨x0,x31⟩
      have et:=Qgj h6 0 (Qaw x)
      have em:Qaw x (xs.getD k 0)=(xs.getD k 0==x|| !Qal (xs.getD k 0) x):=by
       unfold Qaw;rw[Bool.beq_comm]
      rw[em]at et;clear em;(repeat' first|refine gA fun _=>?_|apply fkI<;>intro hb<;>try simp only[ew,hX,ea]at hb|simp only[go_sem,simprocAttr, *])
      refine lpN (k+1) (by dsimp only;omega) (by dsimp only;omega) ?_
      (repeat' first|refine gA fun _=>?_|apply fkI<;>intro hb<;>try simp only[ew,et,hX,ea]at hb|simp only[go_sem,simprocAttr, *])
     ·have e6:k=xs.length:=by omega
      subst e6;have et:(xs.take xs.length).all (Qaw x)=F:=by rw[List.take_length,hF]
      cases hq:F
      ·rw[hq]at et hft
       rw[if_neg (by decide),List.append_nil]at hft
       clear hsn;(repeat' first|refine gA fun _=>?_|apply fkI<;>intro hb<;>try simp only[ew,et,hX]at hb|simp only[go_sem,simprocAttr, *])
       refine lpN (i+1) (by dsimp only;omega) (by dsimp only;omega) ?_
       (repeat' first|refine gA fun _=>?_|apply fkI<;>intro hb<;>try simp only[ew,hft,hZ]at hb|simp only[go_sem,simprocAttr, *])
      ·rw[hq]at et hft
       rw[if_pos rfl]at hft;have hs:=hsn x
       clear hsn;(repeat' first|refine gA fun _=>?_|apply fkI<;>intro hb<;>try simp only[ew,et,hX]at hb|simp only[go_sem,simprocAttr, *])
       refine lpN (i+1) (by dsimp only;omega) (by dsimp only;omega) ?_
       (repeat' first|refine gA fun _=>?_|apply fkI<;>intro hb<;>try simp only[ew,hft,hs,hZ]at hb|simp only[go_sem,simprocAttr, *])
   ·have e5:i=xs.length:=by omega
    subst e5;have et:xs.take xs.length=xs:=List.take_length
    (repeat' first|refine gA fun _=>?_|apply fkI<;>intro hb<;>try simp only[ew,et,hv]at hb|simp only[go_sem,simprocAttr, *,hv])
    all_goals first|rfl|skip
end Go.Own
