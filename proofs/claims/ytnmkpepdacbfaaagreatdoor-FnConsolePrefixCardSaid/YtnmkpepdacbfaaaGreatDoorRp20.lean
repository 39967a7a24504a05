/- Contracts. Conditions: as stated. -/
import Derived.Test.YtnmkpepdacbfaaaGreatDoorRp19
set_option linter.all false
set_option maxRecDepth 20000
set_option maxHeartbeats 2000000
namespace Go.Own
open Go Go.Proofs
attribute [local go_sem] QAr Tryz.results69 Qcw Tryz.results68 Tryz.results207 Tryz.results31
def QsR:Qb:=⟨[true],true,fun
 | [.arr 1 l _,.one (.v (.int .i64 x))]=>some (WfI l∧l.length≤16777216,[⟨false,[.own 1 (iL (Qgq (unI l) x)) 1]⟩],[.gone])
 | _=>none⟩
attribute [local go_sem] QsR
def Qvx(l:List Int)(x:Int)(i:Nat)(pl:Bool)(out:List Int):Prop:=i≤l.length∧out.length≤i+1∧out++(if pl then l.drop i else Qnb (l.drop i) x)=Qnb l x
theorem Qsv{l:List Int}{x:Int}:Qvx l x 0 false []:=⟨KJ _,by simp,by simp⟩
theorem Qsu{l:List Int}{x:Int}{i:Nat}{out:List Int}(h:Qvx l x i false out)(h5:i<l.length)(hg:l.getD i 0>x)(ho:out.length≤i):Qvx l x (i+1) true ((out++[x])++[l.getD i 0]):=by
 obtain⟨h1,h2,h3⟩:=h;refine⟨h5,by simp;omega,?_⟩
 rw[if_neg (by decide),QaZ h5 0,Qnb,if_pos (by omega)]at h3
 rw[if_pos rfl,←h3];simp
theorem QBR{l:List Int}{x:Int}{i:Nat}{out:List Int}(h:Qvx l x i false out)(h5:i<l.length)(hg:¬l.getD i 0>x)(ho:out.length≤i):Qvx l x (i+1) false (out++[l.getD i 0]):=by
 obtain⟨h1,h2,h3⟩:=h;refine⟨h5,by simp;omega,?_⟩
 rw[if_neg (by decide),QaZ h5 0,Qnb,if_neg (by omega)]at h3
 rw[if_neg (by decide),←h3]
 simp
theorem QBS{l:List Int}{x:Int}{i:Nat}{out:List Int}(h:Qvx l x i true out)(h5:i<l.length):Qvx l x (i+1) true (out++[l.getD i 0]):=by
 obtain⟨h1,h2,h3⟩:=h;refine⟨h5,by simp;omega,?_⟩
 rw[if_pos rfl,QaZ h5 0]at h3;rw[if_pos rfl,←h3];simp
theorem Qyz{l:List Int}{x:Int}{i:Nat}{out:List Int}(h:Qvx l x i false out):out.length≤i:=by
 obtain⟨h1,h2,h3⟩:=h;have:=congrArg List.length h3
 rw[if_neg (by decide),KN,QdL,QdL,Kk]at this
 omega
theorem Qvy{l:List Int}{x:Int}{out:List Int}(h:Qvx l x l.length false out):out++[x]=Qnb l x:=by
 have:=h.2.2
 rw[if_neg (by decide),K7]at this
 exact this
theorem Qvz{l:List Int}{x:Int}{out:List Int}(h:Qvx l x l.length true out):out=Qnb l x:=by
 have:=h.2.2
 rw[if_pos rfl,K7,KM]at this;exact this
theorem Qny:Qa E0 69 QsR:=by
 refine QhD (E:=E0) (T:=mkT Tryz.prog [(118,QAr)] false (fun _=>false) false (fun _=>false)) (Qd (E:=E0) (.cons Qux .nil)) rfl (fn:=Tryz.f69) Tryz.func69 kR rfl Qc kR rfl rfl (nLe rfl) ?_
 intro args p rs ms hr;unfold QsR at hr;dsimp only at hr;split at hr;rotate_left
 ·cases hr
 rename_i l dp x;cases hr;refine⟨_,_,rfl,rfl,rfl,rfl,nLe rfl,?_⟩
 have hm:=mxE;rintro⟨h1,h2⟩ bs;obtain⟨xs,rfl,hx⟩:=h1.ex;clear h1;rw[Qs]at h2;rw[QaH];cases hv:xs.contains x
 ·have e:Qgq xs x=Qnb xs x:=by unfold Qgq;rw[hv];rfl
  rw[e];clear e;(repeat' first|refine gA fun _=>?_|apply fkI<;>intro hb<;>try simp only[ew,hv]at hb|simp only[go_sem,simprocAttr, *,hv])
  refine lpI {ι:=Nat×Bool×List Int,rs:=[(13,40)],mods:=[(7,fun i=> .one (.d (.v (.int .i64 i.1)))),(6,fun i=> .one (.d (.v (.bool i.2.1)))),(5,fun i=> .one (.own 1 (iL i.2.2) 1))],boxes:=[],arrs:=[(0,fun _=>(1,iL xs,1))],ok:=fun i=>Qvx xs x i.1 i.2.1 i.2.2,mu:=fun i=>xs.length-i.1} rfl (0,false,[]) Qsv ?_ ?_
  ·(repeat' first|refine gA fun _=>?_|apply fkI<;>intro hb<;>try simp only[ew,hv]at hb|simp only[go_sem,simprocAttr, *,hv])
   all_goals first|rfl|skip
  ·rintro⟨i,pl,out⟩ hi
   dsimp only at hi;have hi1:=hi.1
   have hi2:=hi.2.1
   by_cases h5:i<xs.length
   ·cases pl
    ·have ho:=Qyz hi
     by_cases hg:xs.getD i 0>x
     ·have hn:=Qsu hi h5 hg ho
      have hg':decide (xs.getD i 0>x)=true:=KZ hg
      clear hi hg;(repeat' first|refine gA fun _=>?_|apply fkI<;>intro hb<;>try simp only[ew,hg',Qo]at hb|simp only[go_sem,simprocAttr, *,Qo])
      refine lpN (i+1,true,(out++[x])++[xs.getD i 0]) hn (by dsimp only;omega) ?_
      clear hn;(repeat' first|refine gA fun _=>?_|apply fkI<;>intro hb<;>try simp only[ew,Qo]at hb|simp only[go_sem,simprocAttr, *,Qo])
      all_goals first|rfl|skip
     ·have hn:=QBR hi h5 hg ho
      have hg':decide (xs.getD i 0>x)=false:=KW hg
      clear hi hg;(repeat' first|refine gA fun _=>?_|apply fkI<;>intro hb<;>try simp only[ew,hg',Qo]at hb|simp only[go_sem,simprocAttr, *,Qo])
      refine lpN (i+1,false,out++[xs.getD i 0]) hn (by dsimp only;omega) ?_
      clear hn;(repeat' first|refine gA fun _=>?_|apply fkI<;>intro hb<;>try simp only[ew,Qo]at hb|simp only[go_sem,simprocAttr, *,Qo])
      all_goals first|rfl|skip
    ·have hn:=QBS hi h5
     clear hi;(repeat' first|refine gA fun _=>?_|apply fkI<;>intro hb<;>try simp only[ew,Qo]at hb|simp only[go_sem,simprocAttr, *,Qo])
     refine lpN (i+1,true,out++[xs.getD i 0]) hn (by dsimp only;omega) ?_
     clear hn;(repeat' first|refine gA fun _=>?_|apply fkI<;>intro hb<;>try simp only[ew,Qo]at hb|simp only[go_sem,simprocAttr, *,Qo])
     all_goals first|rfl|skip
   ·have e5:i=xs.length:=by omega
    subst e5;cases pl
    ·have e:=Qvy hi
     clear hi;(repeat' first|refine gA fun _=>?_|apply fkI<;>intro hb<;>try simp only[ew,Qo]at hb|simp only[go_sem,simprocAttr, *,Qo])
     all_goals first|exact e|(rw[e];done)|skip
    ·have e:=Qvz hi
     clear hi;subst e;exact gQ
 ·have e:Qgq xs x=xs:=by unfold Qgq;rw[hv];rfl
  rw[e];clear e;(repeat' first|refine gA fun _=>?_|apply fkI<;>intro hb<;>try simp only[ew,hv]at hb|simp only[go_sem,simprocAttr, *,hv])
  all_goals first|rfl|skip
def QaG(l:List Int):Bool:=l.all (Ql 5)&&decide ((l.length:Int)≤100)
def QjK:Qb:=⟨[],false,fun
 | [.one (.sl 1 l)]=>some (WfI l,[⟨false,[.d (.v (.bool (QaG (unI l))))]⟩],[])
 | _=>none⟩
attribute [local go_sem] QjK
theorem Qrg:Qa E0 68 QjK:=by
 refine QG (E:=E0) (T:=mkT Tryz.prog [(63,Qcw)] false (fun _=>false) true (fun _=>false)) (Qd (E:=E0) (.cons QjC .nil)) (fn:=Tryz.f68) Tryz.func68 kR rfl Qc kR rfl ?_
 intro args p rs ms hr;unfold QjK at hr;dsimp only at hr;split at hr;rotate_left
 ·cases hr
 rename_i l;cases hr;refine⟨rfl,rfl,nLe rfl,?_⟩
 have hm:=mxE;intro h1 bs;obtain⟨xs,rfl,hx⟩:=h1.ex;clear h1;rw[QaH];(repeat' first|refine gA fun _=>?_|apply fkI<;>intro hb<;>try simp only[ew]at hb|simp only[go_sem,simprocAttr, *])
 refine lpI {ι:=Nat,rs:=[(2,3),(4,16)],mods:=[(3,fun i=> .one (.d (.v (.int .i64 i))))],boxes:=[],arrs:=[],ok:=fun i=>i≤xs.length∧(xs.drop i).all (Ql 5)=xs.all (Ql 5),mu:=fun i=>xs.length-i} rfl 0 ⟨KJ _,rfl⟩ ?_ fun i hi=>?_
 ·exact gQ
 ·dsimp only at i hi
  obtain⟨hi,ht⟩:=hi
  by_cases h5:i<xs.length
  ·rw[Qbt h5 0]at ht
   cases hq:Ql 5 (xs.getD i 0)
   ·rw[hq,KT]at ht
    have e:QaG xs=false:=by unfold QaG;rw[←ht];rfl
    rw[e];clear e ht;(repeat' first|refine gA fun _=>?_|apply fkI<;>intro hb<;>try simp only[ew,hq]at hb|simp only[go_sem,simprocAttr, *,hq])
   ·rw[hq,KY]at ht
    (repeat' first|refine gA fun _=>?_|apply fkI<;>intro hb<;>try simp only[ew,hq]at hb|simp only[go_sem,simprocAttr, *,hq])
    refine lpN (i+1) ⟨by omega,ht⟩ (by dsimp only;omega) ?_
    clear ht;exact gQ
  ·have e5:i=xs.length:=by omega
   subst e5;rw[K7,List.all_nil]at ht;have e:QaG xs=decide ((xs.length:Int)≤100):=by unfold QaG;rw[←ht];rfl
   rw[e];clear e ht;exact gQ
theorem Qrf:Qa E0 207 QjK:=by
 refine QG (E:=E0) (T:=mkT Tryz.prog [(148,Qcw)] false (fun _=>false) true (fun _=>false)) (Qd (E:=E0) (.cons QjB .nil)) (fn:=Tryz.f207) Tryz.func207 kR rfl Qc kR rfl ?_
 intro args p rs ms hr;unfold QjK at hr;dsimp only at hr;split at hr;rotate_left
 ·cases hr
 rename_i l;cases hr;refine⟨rfl,rfl,nLe rfl,?_⟩
 have hm:=mxE;intro h1 bs;obtain⟨xs,rfl,hx⟩:=h1.ex;clear h1;rw[QaH];(repeat' first|refine gA fun _=>?_|apply fkI<;>intro hb<;>try simp only[ew]at hb|simp only[go_sem,simprocAttr, *])
 refine lpI {ι:=Nat,rs:=[(2,3),(4,5),(8,15)],mods:=[(7,fun i=> .one (.d (.v (.int .i64 i))))],boxes:=[],arrs:=[],ok:=fun i=>i≤xs.length∧(xs.drop i).all (Ql 5)=xs.all (Ql 5),mu:=fun i=>xs.length-i} rfl 0 ⟨KJ _,rfl⟩ ?_ fun i hi=>?_
 ·exact gQ
 ·dsimp only at i hi
  obtain⟨hi,ht⟩:=hi
  by_cases h5:i<xs.length
  ·rw[Qbt h5 0]at ht
   cases hq:Ql 5 (xs.getD i 0)
   ·rw[hq,KT]at ht
    have e:QaG xs=false:=by unfold QaG;rw[←ht];rfl
    rw[e];clear e ht;(repeat' first|refine gA fun _=>?_|apply fkI<;>intro hb<;>try simp only[ew,hq]at hb|simp only[go_sem,simprocAttr, *,hq])
   ·rw[hq,KY]at ht
    (repeat' first|refine gA fun _=>?_|apply fkI<;>intro hb<;>try simp only[ew,hq]at hb|simp only[go_sem,simprocAttr, *,hq])
    refine lpN (i+1) ⟨by omega,ht⟩ (by dsimp only;omega) ?_
    clear ht;exact gQ
  ·have e5:i=xs.length:=by omega
   subst e5;rw[K7,List.all_nil]at ht;have e:QaG xs=decide ((xs.length:Int)≤100):=by unfold QaG;rw[←ht];rfl
   rw[e];clear e ht;exact gQ
def QaM(x y:Int):Bool:=x==y|| !Qab y x
def QaU(x y:Int):Bool:=x==y|| !Qab x y
def Qcs(t:Int→Int→Bool)(l:List Int):List Int:=if QaG l then Qa2 (l.filter fun x=>l.all (t x))else []
theorem QgM{p:Int→Bool}{xs:List Int}:(Qa2 xs).filter p=Qa2 (xs.filter p):=by
 refine QbY (QaA.filter _) QaA fun z=>?_
 rw[Ku,Qan,Qan,Ku]
theorem QdQ{t:Int→Int→Bool}{l:List Int}:(Qcs t l).length≤100:=by
 unfold Qcs;split
 ·rename_i h
  simp only[QaG,KB,KK]at h
  have h1:=@QaL (l.filter fun x=>l.all (t x))
  have h2:=K3 (fun x=>l.all (t x)) l
  omega
 ·simp
theorem QyE{t:Int→Int→Bool}{l:List Int}{x:Int}(h:x∈Qcs t l):x∈l∧Ql 5 x=true:=by
 unfold Qcs at h;split at h
 ·rename_i hs
  rw[Qan,Ku]at h;simp only[QaG,KB,Kg]at hs
  exact⟨h.1,hs.1 x h.1⟩
 ·cases h
theorem QvV{l:List Int}(h:QaG l=true){i:Nat}(hi:i<l.length):0≤l.getD i 0∧l.getD i 0≤31:=by
 simp only[QaG,KB,Kg]at h
 have:=Qq (h.1 _ (QE hi 0))
 exact this.2.2
theorem Qef{xs:List Int}{x:Int}:Qa2 (xs++[x])=Qgq (Qa2 xs) x:=by unfold Qa2;rw[YW];rfl
def Qhy:Qb:=⟨[],false,fun
 | [.one (.sl 1 l)]=>some (WfI l,[⟨false,[.own 1 (iL (Qcs QaM (unI l))) 1]⟩],[])
 | _=>none⟩
attribute [local go_sem] Qhy
def Qiv:Qb:=⟨[],false,fun
 | [.one (.sl 1 l)]=>some (WfI l,[⟨false,[.own 1 (iL (Qcs QaU (unI l))) 1]⟩],[])
 | _=>none⟩
theorem QwH{l x:Int}(hl:R5 l)(hx:R5 x):(QV .and .i64 l x !=l)= !Qab l x:=by
 rw[bne,Qdx hl hx]
theorem Qu2:Qa E0 31 Qhy:=by
 refine QG (E:=E0) (T:=mkT Tryz.prog [(68,QjK),(69,QsR)] false (fun _=>false) true (fun _=>false)) (Qd (E:=E0) (.cons Qrg (.cons Qny .nil))) (fn:=Tryz.f31) Tryz.func31 kR rfl Qc kR rfl ?_
 intro args p rs ms hr;unfold Qhy at hr;dsimp only at hr;split at hr;rotate_left
 ·cases hr
 rename_i l;cases hr;refine⟨rfl,rfl,nLe rfl,?_⟩
 have hm:=mxE;intro h1 bs;obtain⟨xs,rfl,hx⟩:=h1.ex;clear h1;rw[QaH];cases hv:QaG xs
 ·have e:Qcs QaM xs=[]:=by unfold Qcs;rw[hv];rfl
  rw[e];clear e;(repeat' first|refine gA fun _=>?_|apply fkI<;>intro hb<;>try simp only[ew,hv]at hb|simp only[go_sem,simprocAttr, *,hv])
  refine lpI {ι:=Unit,rs:=[(5,7),(8,59)],mods:=[(4,fun _=> .one (.d (.v (.int .i64 0)))),(3,fun _=> .one (.own 1 [] 1))],boxes:=[],arrs:=[],ok:=fun _=>True,mu:=fun _=>0} rfl () trivial ?_ fun _ _=>?_
  ·(repeat' first|refine gA fun _=>?_|apply fkI<;>intro hb<;>try simp only[ew,hv]at hb|simp only[go_sem,simprocAttr, *,hv])
  ·(repeat' first|refine gA fun _=>?_|apply fkI<;>intro hb<;>try simp only[ew,hv]at hb|simp only[go_sem,simprocAttr, *,hv])
   all_goals first|rfl|skip
 ·have e:Qcs QaM xs=Qa2 (xs.filter fun x=>xs.all (QaM x)):=by unfold Qcs;rw[hv];rfl
  have hat:=fun i=>@QvV xs hv i
  have h100:xs.length≤100:=by
   have:=hv
   simp only[QaG,KB,KK]at this
   omega
  rw[e];clear e;(repeat' first|refine gA fun _=>?_|apply fkI<;>intro hb<;>try simp only[ew,hv]at hb|simp only[go_sem,simprocAttr, *,hv])
  refine lpI {ι:=Nat,rs:=[(5,7),(8,59)],mods:=[(4,fun i=> .one (.d (.v (.int .i64 i)))),(3,fun i=> .one (.own 1 (iL (Qa2 ((xs.take i).filter fun x=>xs.all (QaM x)))) 1))],boxes:=[],arrs:=[],ok:=fun i=>i≤xs.length,mu:=fun i=>xs.length-i} rfl 0 (KJ _) ?_ fun i hi=>?_
  ·(repeat' first|refine gA fun _=>?_|apply fkI<;>intro hb<;>try simp only[ew,hv]at hb|simp only[go_sem,simprocAttr, *,hv])
   all_goals first|rfl|skip
  ·dsimp only at i hi
   have l1:=@QaL ((xs.take i).filter fun x=>xs.all (QaM x))
   have l2:=K3 (fun x=>xs.all (QaM x)) (xs.take i)
   rw[KO]at l2;have l3:(Qa2 ((xs.take i).filter fun x=>xs.all (QaM x))).length≤100:=by omega
   have l4:(Qa2 ((xs.take i).filter fun x=>xs.all (QaM x))).length≤maxLen:=KF l3 (by decide)
   clear l1 l2
   by_cases h5:i<xs.length
   ·obtain⟨x0,x31⟩:=hat i h5
    have hft:=Qcz h5 (fun x=>xs.all (QaM x))
    have hsn:=fun x=>@Qef ((xs.take i).filter fun x=>xs.all (QaM x)) x
    generalize hZ:Qa2 ((xs.take i).filter fun x=>xs.all (QaM x))=Z at l3 l4 hsn
    generalize hX:xs.getD i 0=x at x0 x31 hft;(repeat' first|refine gA fun _=>?_|apply fkI<;>intro hb<;>try simp only[ew,hv,hZ]at hb|simp only[go_sem,simprocAttr, *,hv])
    generalize hF:xs.all (QaM x)=F at hft;refine lpI {ι:=Nat,rs:=[(18,52)],mods:=[(6,fun k=> .one (.d (.v (.int .i64 k)))),(5,fun k=> .one (.d (.v (.bool ((xs.take k).all (QaM x))))))],boxes:=[],arrs:=[(3,fun _=>(1,iL Z,1))],ok:=fun k=>k≤xs.length,mu:=fun k=>xs.length-k} rfl 0 (KJ _) ?_ fun k hk=>?_
    ·(repeat' first|refine gA fun _=>?_|apply fkI<;>intro hb<;>try simp only[ew,hZ]at hb|simp only[go_sem,simprocAttr, *])
     all_goals first|rfl|skip
    ·dsimp only at k hk
     by_cases h6:k<xs.length
     ·obtain⟨y0,y31⟩:=hat k h6
      have ea:=Qk3 (l:=xs.getD k 0) (x:=x) ⟨y0,y31⟩ ⟨x0,x31⟩
      have et:=QeF h6 0 (QaM x)
      have em:QaM x (xs.getD k 0)=(xs.getD k 0==x|| !Qab (xs.getD k 0) x):=by
       unfold QaM;rw[Bool.beq_comm]
      rw[em]at et;clear em;(repeat' first|refine gA fun _=>?_|apply fkI<;>intro hb<;>try simp only[ew,hX,ea]at hb|simp only[go_sem,simprocAttr, *])
      refine lpQ (k+1) ?_
      (repeat' first|refine gA fun _=>?_|apply fkI<;>intro hb<;>try simp only[ew,et,hX,ea]at hb|simp only[go_sem,simprocAttr, *])
     ·have e6:k=xs.length:=by omega
      subst e6;have et:(xs.take xs.length).all (QaM x)=F:=by rw[KR,hF]
      cases hq:F
      ·rw[hq]at et hft
       rw[if_neg (by decide),KM]at hft
       clear hsn;(repeat' first|refine gA fun _=>?_|apply fkI<;>intro hb<;>try simp only[ew,et,hX]at hb|simp only[go_sem,simprocAttr, *])
       refine lpQ (i+1) ?_
       (repeat' first|refine gA fun _=>?_|apply fkI<;>intro hb<;>try simp only[ew,hft,hZ]at hb|simp only[go_sem,simprocAttr, *])
      ·rw[hq]at et hft
       rw[if_pos rfl]at hft;have hs:=hsn x
       clear hsn;(repeat' first|refine gA fun _=>?_|apply fkI<;>intro hb<;>try simp only[ew,et,hX]at hb|simp only[go_sem,simprocAttr, *])
       refine lpQ (i+1) ?_
       (repeat' first|refine gA fun _=>?_|apply fkI<;>intro hb<;>try simp only[ew,hft,hs,hZ]at hb|simp only[go_sem,simprocAttr, *])
   ·have e5:i=xs.length:=by omega
    subst e5;have et:xs.take xs.length=xs:=KR
    (repeat' first|refine gA fun _=>?_|apply fkI<;>intro hb<;>try simp only[ew,et,hv]at hb|simp only[go_sem,simprocAttr, *,hv])
    all_goals first|rfl|skip
end Go.Own
