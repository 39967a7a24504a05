/- Contracts. Conditions: as stated. -/
import Derived.Test.YtnmkpepdacbfaaaGreatDoorRp16
import Derived.Lib.RowBridge
import Derived.Test.YtnmkpepdacbfaaaGreatDoorRp14
set_option linter.all false
set_option maxRecDepth 20000
set_option maxHeartbeats 2000000
namespace Go.Own
open Go Go.Proofs
section
open Go.RowKit Go.Sort Go.Shelf
attribute [local go_sem] Qd8 Tryz.results158
def Qml(xs:List Int):List Int:=xs.mergeSort fun x y=>decide (x≤y)
def Qkf:Qb:=⟨[true],false,fun
 | [.arr 1 l _]=>some (WfI l∧l.length≤16777216,[],[.arr 1 (iL (Qml (unI l))) 1])
 | _=>none⟩
attribute [local go_sem] Qkf
theorem QyJ:Qa E0 199 Qkf:=by
 refine⟨⟨Tryz.f199,Tryz.func199,by kernel_rfl,rfl⟩,?_⟩
 intro args p rs ms hr hp w vals F Ms ha hnd hF hJ hN hMN;unfold Qkf at hr;dsimp only at hr;split at hr
 ·rename_i l dp
  cases hr;obtain⟨hl,hlen⟩:=hp;obtain⟨ys,rfl,hmx⟩:=hl.ex;rw[QaH];rw[Qs]at hlen;cases ha with
  | cons h1 h2=>
   cases h2
   cases h1 with
   | arr r1 hdp=>
    rcases r1 with⟨rfl,hnil,rfl,_⟩|⟨b,cap,c,e,G,rfl,rfl,_,a2,a3,a4,a5,a6,a7⟩
    ·have e0:ys=[]:=by
      have:=congrArg List.length hnil
      rw[Qs]at this;exact Kd this
     subst e0;have hcon:=Any.slices_Sort_int_none Tryz.lays189 none 0 w
     change Calls Tryz.prog 199 _ _ _ at hcon
     refine hcon.mono ?_
     rintro e w' ⟨rfl,rfl⟩;refine⟨_,rfl,rfl,rfl,rfl,KP _,fun _ _ _=>rfl,[],[],[],[[]],⟨rfl,rfl⟩,?_,by simp,by simp,by simp,by simp,by simp⟩
     have:=Q5.cons (h:=w'.heap) (Qbi.arr (s:=1) (l:=[]) (dp:=1) (m:=[]) (.inl ⟨rfl,rfl,rfl,rfl⟩) (by decide)) Q5.nil
     simpa [Qml,iL,Q0,Qkf]using this
    ·rw[Qs,Nat.mul_one]at a7
     obtain⟨hv,rfl⟩:=QcT a7;rw[Qs]at a3;have hH:Holds (Value.int .i64) w b 0 ys.toArray:=Qek a2 (by simpa using hv)
     have hcon:=Any.slices_Sort_int Tryz.lays189 b 0 cap ys w hH (Kb.1 a2).1 (by omega)
     change Calls Tryz.prog 199 _ _ _ at hcon
     rw[Qs];refine hcon.mono ?_
     rintro e w' ⟨rfl,n,os,rfl⟩;have hps:=QnN (val:=fun x:Int=>x) (n:=n) (os:=os) (F:=[]) (x:= .tuple #[]) (d:=ys.toArray) (d':=(Qml ys).toArray) a2 (by simp[Qml]) (by simpa using a3) a4 a5
     refine⟨_,rfl,?_⟩
     simp[Q0,Qml,Qkf]at hps ⊢
     exact hps
 ·cases hr
def Qkd:Qb:=⟨[true],true,fun
 | [.arr 1 l _]=>some (WfI l∧l.length≤16777216,[⟨false,[.own 1 (iL (Lib.compact (unI l))) 1]⟩],[.gone])
 | _=>none⟩
attribute [local go_sem] Qkd
theorem Qxr:Qa E0 200 Qkd:=by
 refine⟨⟨Tryz.f200,Tryz.func200,by kernel_rfl,rfl⟩,?_⟩
 intro args p rs ms hr hp w vals F Ms ha hnd hF hJ hN hMN;unfold Qkd at hr;dsimp only at hr;split at hr
 ·rename_i l dp
  cases hr;obtain⟨hl,hlen⟩:=hp;obtain⟨ys,rfl,hmx⟩:=hl.ex;rw[QaH];rw[Qs]at hlen;cases ha with
  | cons h1 h2=>
   cases h2
   cases h1 with
   | arr r1 hdp=>
    rcases r1 with⟨rfl,hnil,rfl,_⟩|⟨b,cap,c,e,G,rfl,rfl,_,a2,a3,a4,a5,a6,a7⟩
    ·have e0:ys=[]:=by
      have:=congrArg List.length hnil
      rw[Qs]at this;exact Kd this
     subst e0;have hcon:=Any.slices_Compact_int_empty Tryz.laysC none 0 w
     change Calls Tryz.prog 200 _ _ _ at hcon
     refine hcon.mono ?_
     rintro e w' ⟨rfl,rfl⟩;refine⟨_,rfl,rfl,rfl,rfl,KP _,fun _ _ _=>rfl,[],[[]],[],[],?_,?_,by simp,by simp,by simp,by simp,by simp⟩
     ·have:QaN w'.heap [.own 1 (iL []) 1] [.slice none 0 0] ([]++[]) ([[]]):= .own (.inl ⟨rfl,rfl,rfl,rfl⟩) .nil
      simpa [QbF,QnW,Lib.compact,Lib.compactUpTo,iL]using this
     ·have:=Q5.cons (h:=w'.heap) (Qbi.gone (v:= .slice none 0 0)) Q5.nil
      simpa [Q0,Qkd]using this
    ·rw[Qs,Nat.mul_one]at a7
     obtain⟨hv,rfl⟩:=QcT a7;rw[Qs]at a3;have hH:Holds (Value.int .i64) w b 0 ys.toArray:=Qek a2 (by simpa using hv)
     have hcon:=Any.slices_Compact_int Tryz.laysC b 0 cap ys w hH (by omega) a3
     change Calls Tryz.prog 200 _ _ _ at hcon
     rw[Qs];refine hcon.mono ?_
     have hcl:=Lib.compact_length_le ys
     rintro e w' ⟨rfl,n,rfl⟩;generalize hzs:Lib.compact ys=zs at hcl;generalize hd:(zs++List.replicate (ys.length-zs.length) (0:Int)).toArray=d;have hds:d.size=ys.length:=by rw[←hd];simp;omega
     have hw:putRow (Value.int .i64) (Sort.ahead w n) b 0 d=sortWorld (Value.int .i64) w b 0 n d #[]:=by unfold sortWorld;rw[grow_empty]
     rw[hw];obtain⟨q1,q2,q3⟩:=Qb1 (enc:=Value.int .i64) (n:=n) (d:=d) (os:=#[]) a2;have hlt:b<w.heap.size:=(Kb.1 a2).1
     obtain⟨t1,t2⟩:=Qck (enc:=Value.int .i64) (d:=d) (c:=c) (by omega)
     have q:Qar (sortWorld (Value.int .i64) w b 0 n d #[]).heap [b] [] 1 (iL zs) 1 (.slice (some ⟨b,0,none⟩) zs.length cap):=by
      refine .inr ⟨b,cap,_,e,[],by rw[Qs],rfl,rfl,q2,by rw[Qs];omega,a4,by rw[t2];exact a5,?_,?_⟩
      ·intro z hz
       simp only[iL,KQ]at hz
       obtain⟨_,_,rfl⟩:=hz;rfl
      ·rw[Qs,Nat.mul_one]
       have e1:(putCells (Value.int .i64) 0 d c).toList.take zs.length=zs.map fun n=>Value.int .i64 n:=by
        have:(putCells (Value.int .i64) 0 d c).toList.take zs.length=((putCells (Value.int .i64) 0 d c).toList.take d.size).take zs.length:=by
         rw[List.take_take];congr 1;omega
        rw[this,t1,←hd];simp
       rw[e1];exact Qg8 zs
     refine⟨_,rfl,rfl,rfl,rfl,q1,fun k hk hn=>q3 k hk (by simpa using hn),[],[[b]],[],[],?_,?_,by simp,?_,by simp,by simp,by simp⟩
     ·have:QaN (sortWorld (Value.int .i64) w b 0 n d #[]).heap [.own 1 (iL zs) 1] [.slice (some ⟨b,0,none⟩) zs.length cap] ([]++[]) ([[b]]):= .own q .nil
      simpa [QbF,QnW]using this
     ·have:=Q5.cons (h:=(sortWorld (Value.int .i64) w b 0 n d #[]).heap) (Qbi.gone (v:= .slice (some ⟨b,0,none⟩) ys.length cap)) Q5.nil
      simpa [Q0,Qkd]using this
     ·intro k hk
      simp only[List.flatten_cons,Yc,KM,KH]at hk
      subst hk;exact⟨.inr ⟨rfl,by simp⟩,by omega⟩
 ·cases hr
def Qnb:List Int→Int→List Int
 | [],x=>[x]
 | y::l,x=>if x<y then x::y::l else y::Qnb l x
def Qgq(l:List Int)(x:Int):List Int:=if l.contains x then l else Qnb l x
def Qa2(xs:List Int):List Int:=xs.foldl Qgq []
theorem QdL:∀{l:List Int} {x:Int},(Qnb l x).length=l.length+1
 | [],x=>rfl
 | y::l,x=>by
  rw[Qnb];split
  ·rfl
  ·simp[@QdL l x]
theorem Qlz:∀{l:List Int} {x z:Int},z∈Qnb l x↔z=x∨z∈l
 | [],x,z=>by simp[Qnb]
 | y::l,x,z=>by
  rw[Qnb];split
  ·simp
  ·rw[KI,@Qlz l x z,KI]
   constructor
   ·rintro(h|h|h)
    ·exact .inr (.inl h)
    ·exact .inl h
    ·exact .inr (.inr h)
   ·rintro(h|h|h)
    ·exact .inr (.inl h)
    ·exact .inl h
    ·exact .inr (.inr h)
theorem Qi1:∀{l:List Int} {x:Int},l.Pairwise (·<·)→x∉l→(Qnb l x).Pairwise (·<·)
 | [],x,_,_=>by simp[Qnb]
 | y::l,x,h,hx=>by
  rw[Qnb];rw[YZ]at h;split
  ·rename_i hxy
   refine YZ.2 ⟨fun z hz=>?_,YZ.2 h⟩
   rcases KI.1 hz with rfl|hz
   ·exact hxy
   ·have:=h.1 z hz;omega
  ·rename_i hxy
   refine YZ.2 ⟨fun z hz=>?_,Qi1 h.2 (fun hm=>hx (by simp[hm]))⟩
   rcases Qlz.1 hz with rfl|hz
   ·have:z≠y:=fun e=>hx (by simp[e])
    omega
   ·exact h.1 z hz
theorem Qq4{l:List Int}{x z:Int}:z∈Qgq l x↔z=x∨z∈l:=by
 unfold Qgq;split
 ·rename_i h
  rw[Kz]at h;constructor
  ·exact .inr
  ·rintro(rfl|h2)
   ·exact h
   ·exact h2
 ·exact Qlz
theorem Qjm{l:List Int}{x:Int}(h:l.Pairwise (·<·)):(Qgq l x).Pairwise (·<·):=by
 unfold Qgq;split
 ·exact h
 ·rename_i hx
  exact Qi1 h fun hm=>hx (Kz.2 hm)
theorem Qfz{l:List Int}{x:Int}:(Qgq l x).length≤l.length+1:=by
 unfold Qgq;split
 ·omega
 ·rw[QdL];omega
theorem Qf2:∀{xs l:List Int} {z:Int},z∈xs.foldl Qgq l↔z∈xs∨z∈l
 | [],l,z=>by simp
 | x::xs,l,z=>by
  rw[List.foldl_cons,Qf2,Qq4,KI];constructor
  ·rintro(h|h|h)
   ·exact .inl (.inr h)
   ·exact .inl (.inl h)
   ·exact .inr h
  ·rintro((h|h)|h)
   ·exact .inr (.inl h)
   ·exact .inl h
   ·exact .inr (.inr h)
theorem QdV:∀{xs l:List Int},l.Pairwise (·<·)→(xs.foldl Qgq l).Pairwise (·<·)
 | [],l,h=>h
 | x::xs,l,h=>by rw[List.foldl_cons];exact QdV (Qjm h)
theorem QdU:∀{xs l:List Int},(xs.foldl Qgq l).length≤xs.length+l.length
 | [],l=>by simp
 | x::xs,l=>by
  rw[List.foldl_cons];have h1:=@QdU xs (Qgq l x)
  have h2:=@Qfz l x
  simp only[List.length_cons];omega
theorem Qan{xs:List Int}{z:Int}:z∈Qa2 xs↔z∈xs:=by unfold Qa2;rw[Qf2];simp
theorem QaA{xs:List Int}:(Qa2 xs).Pairwise (·<·):=QdV .nil
theorem QaL{xs:List Int}:(Qa2 xs).length≤xs.length:=by have:=@QdU xs [];simpa [Qa2]using this
theorem QbY:∀{l m:List Int},l.Pairwise (·<·)→m.Pairwise (·<·)→(∀x,x∈l↔x∈m)→l=m
 | [],[],_,_,_=>rfl
 | [],y::m,_,_,h=>by have:=(h y).2 (by simp);cases this
 | x::l,[],_,_,h=>by have:=(h x).1 (by simp);cases this
 | x::l,y::m,hl,hm,h=>by
  rw[YZ]at hl hm;have e:x=y:=by
   rcases KI.1 ((h x).1 (by simp))with e|h1
   ·exact e
   ·rcases KI.1 ((h y).2 (by simp))with e|h2
    ·exact e.symm
    ·have:=hm.1 x h1
     have:=hl.1 y h2
     omega
  subst e;rw[QbY hl.2 hm.2 fun z=>?_]
  constructor
  ·intro hz
   rcases KI.1 ((h z).1 (by simp[hz]))with e|h1
   ·have:=hl.1 z hz;omega
   ·exact h1
  ·intro hz
   rcases KI.1 ((h z).2 (by simp[hz]))with e|h1
   ·have:=hm.1 z hz;omega
   ·exact h1
theorem Qhk{d:Array Int}(hs:∀i j,i≤j→j<d.size→d[i]! ≤d[j]!):∀{m:Nat},m≤d.size→(Lib.compactUpTo d m).Pairwise (·<·)∧(∀y,y∈Lib.compactUpTo d m↔∃j,j<m∧d[j]! =y)
 | 0,_=>by simp[Lib.compactUpTo]
 | m+1,h=>by
  obtain⟨h1,h2⟩:=Qhk hs (m:=m) (by omega)
  rw[Lib.compactUpTo_succ];cases hk:Lib.keeps d m
  ·simp only[KX,if_false,KM]
   refine⟨h1,fun y=>?_⟩
   rw[h2];simp only[Lib.keeps,Kl,not_or,ne_eq,Decidable.not_not]at hk
   constructor
   ·rintro⟨j,hj,e⟩;exact⟨j,by omega,e⟩
   ·rintro⟨j,hj,e⟩
    by_cases hm:j=m
    ·subst hm
     exact⟨j-1,by omega,by rw[←e];exact hk.2.symm⟩
    ·exact⟨j,by omega,e⟩
  ·simp only[if_true]
   simp only[Lib.keeps,KK]at hk
   refine⟨List.pairwise_append.2 ⟨h1,by simp,fun a ha b hb=>?_⟩,fun y=>?_⟩
   ·rw[KH]at hb
    subst hb;obtain⟨j,hj,rfl⟩:=(h2 a).1 ha;have q1:=hs j (m-1) (by omega) (by omega)
    have q2:=hs (m-1) m (by omega) (by omega)
    have q3:d[m]! ≠d[m-1]! :=by
     rcases hk with hk|hk
     ·omega
     ·exact hk
    omega
   ·rw[KG,KH,h2]
    constructor
    ·rintro(⟨j,hj,e⟩|rfl)
     ·exact⟨j,by omega,e⟩
     ·exact⟨m,by omega,rfl⟩
    ·rintro⟨j,hj,e⟩
     by_cases hm:j=m
     ·subst hm;exact .inr e.symm
     ·exact .inl ⟨j,by omega,e⟩
theorem Qxs{xs:List Int}:Lib.compact (Qml xs)=Qa2 xs:=by
 have h1:(Qml xs).Pairwise fun x y=>x≤y:=by
  have:(Qml xs).Pairwise fun x y=>decide (x≤y)=true:=by
   apply List.pairwise_mergeSort
   ·intro a b c h1 h2
    simp at *
    omega
   ·intro a b
    simp
    omega
  exact this.imp fun h=>by simpa using h
 have h2:∀z,z∈Qml xs↔z∈xs:=fun z=>(List.mergeSort_perm _ _).mem_iff
 have hs:∀i j,i≤j→j<(Qml xs).toArray.size→(Qml xs).toArray[i]! ≤(Qml xs).toArray[j]! :=by
  intro i j hij hj
  by_cases e:i=j
  ·subst e;exact Int.le_refl _
  ·have hj':j<(Qml xs).length:=by simpa using hj
   have:=(List.pairwise_iff_getElem.1 h1) i j (by omega) hj' (by omega)
   rw[getElem!_pos _ i (by omega),getElem!_pos _ j hj]
   simpa using this
 obtain⟨c1,c2⟩:=Qhk hs (KP _);have e:Lib.compact (Qml xs)=Lib.compactUpTo (Qml xs).toArray (Qml xs).toArray.size:=by unfold Lib.compact;simp
 rw[e];refine QbY c1 QaA fun z=>?_
 rw[c2,Qan,←h2];constructor
 ·rintro⟨j,hj,rfl⟩
  rw[getElem!_pos _ j hj];simp
 ·intro hz
  obtain⟨j,hj,e⟩:=YA hz;refine⟨j,by simpa using hj,?_⟩
  rw[getElem!_pos _ j (by simpa using hj)]
  simpa using e
theorem Qph{xs:List Int}:(Qml xs).length=xs.length:=by unfold Qml;exact List.length_mergeSort _
def Qwn:Qb:=⟨[],false,fun
 | [.one (.sl 1 l)]=>some (WfI l∧l.length≤16777216,[⟨false,[.own 1 (iL (Qa2 (unI l))) 1]⟩],[])
 | _=>none⟩
attribute [local go_sem] Qwn
theorem Qp9:Qa E0 158 Qwn:=by
 refine QG (E:=E0) (T:=mkT Tryz.prog [(145,Qd8),(199,Qkf),(200,Qkd)] false (fun _=>false) true (fun _=>false)) (Qd (E:=E0) (.cons QhQ (.cons QyJ (.cons Qxr .nil)))) (fn:=Tryz.f158) Tryz.func158 kR rfl Qc kR rfl ?_
 intro args p rs ms hr;unfold Qwn at hr;dsimp only at hr;split at hr;rotate_left
 ·cases hr
 rename_i l;cases hr;refine⟨rfl,rfl,nLe rfl,?_⟩
 have hm:=mxE;rintro⟨h1,h2⟩ bs;obtain⟨xs,rfl,hx⟩:=h1.ex;clear h1;rw[Qs]at h2;rw[QaH];have e:=@Qxs xs
 have e2:=@Qph xs
 (repeat' first|refine gA fun _=>?_|apply fkI<;>intro hb<;>try simp only[ew,e,e2]at hb|simp only[go_sem,simprocAttr, *])
end
attribute [local go_sem] QmD QcL Qax Tryz.results165 Tryz.results128 Qh Qg Qae Qag Qaf Qaj Qa7 Qd1 Qv Qv8 Qkl Qt7 QpU QEh
def drL(n:Int)(ds:List (Int×Int))(l r:Int):List (Int×Int×Int):=if Qkz n ds l r then der ds r l else []
def Qy6:Qb:=⟨[],false,fun
 | [.one (.v (.int .i64 n)),.one (.sl 2 l),.agg [.v (.int .i64 a),.v (.int .i64 b)]]=>some (WfD l∧ -9223372036854775808≤n∧n≤9223372036854775807,
   [⟨false,[.own 3 (d3L (drL n (unD l) a b)) 1]⟩,⟨false,[.d (.v (.bool (Qkz n (unD l) a b)))]⟩],[])
 | _=>none⟩
attribute [local go_sem] Qy6
def QxC(ds:List (Int×Int))(r:Int)(F:List (Int×Int×Int))(i:Nat)(x:Int)(acc:List (Int×Int×Int)):Prop:=i≤ds.length∧R5 x∧(∀j,j<i→QjI x (ds.getD j (0,0))=false)∧acc++der ds r x=F
theorem Qp1{ds:List (Int×Int)}{r x:Int}{F acc:List (Int×Int×Int)}{i:Nat}(hd:∀d∈ds,Qbv d)(h:QxC ds r F i x acc)(h5:i<ds.length)(h0:Qu x r=false)(ha:QjI x (ds.getD i (0,0))=true):
  QxC ds r F 0 (Qbp x (ds.getD i (0,0)).2) (acc++[((i:Int),x,Qbp x (ds.getD i (0,0)).2)]):=by
 obtain⟨h1,h2,h3,h4⟩:=h;refine⟨KJ _,(Qdy hd h2 h5 ha).2,fun j hj=>absurd hj (Nat.not_lt_zero _),?_⟩
 rw[QxG hd h2 h0 (Qut h5 ha h3)]at h4;rw[←h4];simp
theorem QmV{ds:List (Int×Int)}{r x:Int}{F acc:List (Int×Int×Int)}{i:Nat}(h:QxC ds r F i x acc)(h5:i<ds.length)(ha:QjI x (ds.getD i (0,0))=false):QxC ds r F (i+1) x acc:=by
 obtain⟨h1,h2,h3,h4⟩:=h;refine⟨h5,h2,fun j hj=>?_,h4⟩
 by_cases e:j=i
 ·subst e;exact ha
 ·exact h3 j (by omega)
theorem QxD{ds:List (Int×Int)}{r x:Int}{F acc:List (Int×Int×Int)}{i:Nat}(h:QxC ds r F i x acc)(h0:Qu x r=true):acc=F:=by
 have:=h.2.2.2
 rw[Qud h0,KM]at this;exact this
theorem Quc{ds:List (Int×Int)}{r x:Int}{F acc:List (Int×Int×Int)}(h:QxC ds r F ds.length x acc):acc=F:=by
 have:=h.2.2.2
 rw[QxF (Qus h.2.2.1),KM]at this;exact this
theorem QxE{ds:List (Int×Int)}{r x:Int}{F acc:List (Int×Int×Int)}{i:Nat}(h:QxC ds r F i x acc)(hF:F.length≤6):acc.length≤6:=by
 have:=congrArg List.length h.2.2.2
 rw[KN]at this;omega
theorem Que{ds:List (Int×Int)}{r x:Int}(hd:∀d∈ds,Qbv d)(hx:R5 x):(der ds r x).length≤6:=(Qln hd hx).1
theorem Qr4:Qa E0 165 Qy6:=by
 refine QG (E:=E0) (T:=mkT Tryz.prog [(109,QmD),(149,QcL),(157,Qax)] false (fun _=>false) true (fun _=>false)) (Qd (E:=E0) (.cons QoN (.cons QcA (.cons Qbe .nil)))) (fn:=Tryz.f165) Tryz.func165 kR rfl Qc kR rfl ?_
 intro args p rs ms hr;unfold Qy6 at hr;dsimp only at hr;split at hr;rotate_left
 ·cases hr
 rename_i n l a b;cases hr;refine⟨rfl,rfl,nLe rfl,?_⟩
 have hm:=mxE;rintro⟨h1,hn1,hn2⟩ bs;obtain⟨ds,rfl,hx⟩:=h1.ex;clear h1;rw[Qh];unfold drL;cases hv:Qkz n ds a b
 ·(repeat' first|refine gA fun _=>?_|apply fkI<;>intro hb<;>try simp only[ew,hv]at hb|simp only[go_sem,simprocAttr, *,hv])
  all_goals first|rfl|exact⟨rfl,rfl⟩|skip
 ·have hv2:=hv
  simp only[Qkz,KB]at hv2
  have hd:=QaE hv2.1.1
  obtain⟨⟨a1,a2⟩,b1,b2⟩:=Qaz hv2.1.2;clear hv2;simp only[if_true]
  have hl:=Que (r:=b) hd ⟨a1,a2⟩
  (repeat' first|refine gA fun _=>?_|apply fkI<;>intro hb<;>try simp only[ew,hv]at hb|simp only[go_sem,simprocAttr, *,hv])
  clear hv;generalize hF:der ds b a=F at hl;refine lpI {ι:=Nat×Int×List (Int×Int×Int),rs:=[(11,12),(20,66)],mods:=[(10,fun i=> .one (.d (.v (.int .i64 i.1)))),(9,fun i=> .one (.d (.v (.int .i64 i.2.1)))),(8,fun i=> .one (.own 3 (d3L i.2.2) 1))],boxes:=[(5,fun _=>[.d (.v (.int .i64 a)),.d (.v (.int .i64 b))])],arrs:=[],ok:=fun i=>QxC ds b F i.1 i.2.1 i.2.2,mu:=fun i=>cmu ds.length i.1 i.2.1} rfl (0,a,[]) ⟨KJ _,⟨a1,a2⟩,fun j hj=>absurd hj (Nat.not_lt_zero _),hF⟩ ?_ ?_
  ·exact gQ
  ·rintro⟨i,x,acc⟩ hi
   dsimp only at hi;have hi1:=hi.1
   obtain⟨x1,x2⟩:=hi.2.1;have hal:=QxE hi hl
   clear hF
   by_cases h5:i<ds.length
   ·cases h0:Qu x b
    ·obtain⟨⟨d1,d2⟩,d3,d4⟩:=Qlm hd h5
     have hs:=QCc ⟨d3,d4⟩
     cases ha:QjI x (ds.getD i (0,0))
     ·have hn:=QmV hi h5 ha
      have ha2:(Qab (ds.getD i (0,0)).1 x&& !Qu x (ds.getD i (0,0)).2)=false:=ha
      rw[Qbw]at ha2;clear hi ha hd hs hl;(repeat' first|refine gA fun _=>?_|apply fkI<;>intro hb<;>try simp only[ew,ha2,h0]at hb|simp only[go_sem,simprocAttr, *,h0])
      refine lpN (i+1,x,acc) hn (QpP h5) ?_
      clear hn;(repeat' first|refine gA fun _=>?_|apply fkI<;>intro hb<;>try simp only[ew,ha2]at hb|simp only[go_sem,simprocAttr, *])
     ·have hn:=Qp1 hd hi h5 h0 ha
      have hc:=(Qdy hd ⟨x1,x2⟩ h5 ha).1
      have hb:=QpA ⟨x1,x2⟩ ⟨d3,d4⟩
      have ha2:(Qab (ds.getD i (0,0)).1 x&& !Qu x (ds.getD i (0,0)).2)=true:=ha
      rw[Qbw]at ha2;have e:QV .or .i64 x (1*2^(ds.getD i (0,0)).2.toNat)=Qbp x (ds.getD i (0,0)).2:=rfl
      clear hi ha hd hl;(repeat' first|refine gA fun _=>?_|apply fkI<;>intro hb<;>try simp only[ew,ha2,h0,e]at hb|simp only[go_sem,simprocAttr, *,h0])
      refine lpN (0,Qbp x (ds.getD i (0,0)).2,acc++[((i:Int),x,Qbp x (ds.getD i (0,0)).2)]) hn (QtS hc h5) ?_
      clear hn hc;(repeat' first|refine gA fun _=>?_|apply fkI<;>intro hb<;>try simp only[ew,ha2,e]at hb|simp only[go_sem,simprocAttr, *])
      all_goals first|rfl|skip
    ·have e:=QxD hi h0
     clear hi hd;subst e;(repeat' first|refine gA fun _=>?_|apply fkI<;>intro hb<;>try simp only[ew,h0]at hb|simp only[go_sem,simprocAttr, *,h0])
     all_goals first|rfl|exact⟨rfl,rfl⟩|skip
   ·have e5:i=ds.length:=by omega
    subst e5;have e:=Quc hi
    clear hi hd;subst e;(repeat' first|refine gA fun _=>?_|apply fkI<;>intro hb<;>try simp only[ew]at hb|simp only[go_sem,simprocAttr, *])
    all_goals first|rfl|exact⟨rfl,rfl⟩|skip
def QFU(ds:List (Int×Int))(a r:Int)(F:List (Int×Int×Int))(x:Int)(acc:List (Int×Int×Int)):Prop:=R5 x∧leB a x∧acc++der ds r x=F
theorem Qfq{x r:Int}(hr:0≤r∧r≤4)(hx:R5 x):(QV .and .i64 (x.fdiv (2^r.toNat)) 1==0)= !Qu x r:=by
 obtain⟨r,rfl⟩:=c5 hr;obtain⟨x,rfl⟩:=hx.fin;have:∀x:Fin 32,∀r:Fin 5,(QV .and .i64 (((x.val:Nat):Int).fdiv (2^((r.val:Nat):Int).toNat)) 1==0)= !Qu ((x.val:Nat):Int) ((r.val:Nat):Int):=by decide+kernel
 exact this x r
theorem Qr5:Qa E0 128 Qy6:=by
 refine QG (E:=E0) (T:=mkT Tryz.prog [(84,QmD)] false (fun _=>false) true (fun _=>false)) (Qd (E:=E0) (.cons Qlx .nil)) (fn:=Tryz.f128) Tryz.func128 kR rfl Qc kR rfl ?_
 intro args p rs ms hr;unfold Qy6 at hr;dsimp only at hr;split at hr;rotate_left
 ·cases hr
 rename_i n l a b;cases hr;refine⟨rfl,rfl,nLe rfl,?_⟩
 have hm:=mxE;rintro⟨h1,hn1,hn2⟩ bs;obtain⟨ds,rfl,hx⟩:=h1.ex;clear h1;rw[Qh];unfold drL;cases hv:Qkz n ds a b
 ·(repeat' first|refine gA fun _=>?_|apply fkI<;>intro hb<;>try simp only[ew,hv]at hb|simp only[go_sem,simprocAttr, *,hv])
  all_goals first|rfl|exact⟨rfl,rfl⟩|skip
 ·have hv2:=hv
  simp only[Qkz,KB]at hv2
  have hd:=QaE hv2.1.1
  obtain⟨⟨a1,a2⟩,b1,b2⟩:=Qaz hv2.1.2;have hcl:=hv2.2
  clear hv2;simp only[if_true]
  have hl:=Que (r:=b) hd ⟨a1,a2⟩
  (repeat' first|refine gA fun _=>?_|apply fkI<;>intro hb<;>try simp only[ew,hv]at hb|simp only[go_sem,simprocAttr, *,hv])
  clear hv;generalize hF:der ds b a=F at hl;refine lpI {ι:=Int×List (Int×Int×Int),rs:=[(10,12),(21,73)],mods:=[(9,fun i=> .one (.d (.v (.int .i64 i.1)))),(8,fun i=> .one (.own 3 (d3L i.2) 1))],boxes:=[(5,fun _=>[.d (.v (.int .i64 a)),.d (.v (.int .i64 b))])],arrs:=[],ok:=fun i=>QFU ds a b F i.1 i.2,mu:=fun i=>5-Qhj i.1} rfl (a,[]) ⟨⟨a1,a2⟩,leB.refl _,hF⟩ ?_ ?_
  ·exact gQ
  ·rintro⟨x,acc⟩ hi
   dsimp only at hi;obtain⟨⟨x1,x2⟩,hle,hq⟩:=hi;have hlen:acc.length≤6:=by
    have:=congrArg List.length hq
    rw[KN]at this;omega
   clear hF;have e0:=Qfq (x:=x) (r:=b) ⟨b1,b2⟩ ⟨x1,x2⟩
   cases h0:Qu x b
   ·rw[h0]at e0
    (repeat' first|refine gA fun _=>?_|apply fkI<;>intro hb<;>try simp only[ew,e0]at hb|simp only[go_sem,simprocAttr, *])
    refine lpI {ι:=Nat,rs:=[(11,12),(27,73)],mods:=[(10,fun i=> .one (.d (.v (.int .i64 i)))),(9,fun _=> .one (.d (.v (.int .i64 x)))),(8,fun _=> .one (.own 3 (d3L acc) 1))],boxes:=[(5,fun _=>[.d (.v (.int .i64 a)),.d (.v (.int .i64 b))])],arrs:=[],ok:=fun i=>QxC ds b F i x acc,mu:=fun i=>ds.length-i} rfl 0 ⟨KJ _,⟨x1,x2⟩,fun j hj=>absurd hj (Nat.not_lt_zero _),hq⟩ ?_ ?_
    ·exact gQ
    ·intro i hi
     dsimp only at i hi;have hi1:=hi.1
     by_cases h5:i<ds.length
     ·obtain⟨⟨d1,d2⟩,d3,d4⟩:=Qlm hd h5
      have hs:=QCc ⟨d3,d4⟩
      have e1:=Qdx (l:=(ds.getD i (0,0)).1) (x:=x) ⟨d1,d2⟩ ⟨x1,x2⟩
      have e2:=Qfq (x:=x) (r:=(ds.getD i (0,0)).2) ⟨d3,d4⟩ ⟨x1,x2⟩
      cases ha:QjI x (ds.getD i (0,0))
      ·have hn:=QmV hi h5 ha
       have ha2:(Qab (ds.getD i (0,0)).1 x&& !Qu x (ds.getD i (0,0)).2)=false:=ha
       clear hi ha hd hs hl hq hle;(repeat' first|refine gA fun _=>?_|apply fkI<;>intro hb<;>try simp only[ew,e1,e2,ha2]at hb|simp only[go_sem,simprocAttr, *])
       refine lpN (i+1) hn (by dsimp only;omega) ?_
       clear hn;(repeat' first|refine gA fun _=>?_|apply fkI<;>intro hb<;>try simp only[ew,e1,e2,ha2]at hb|simp only[go_sem,simprocAttr, *])
      ·have hn:=Qp1 hd hi h5 h0 ha
       have hc:=(Qdy hd ⟨x1,x2⟩ h5 ha).1
       have hle2:=hle.trans (QlF (r:=(ds.getD i (0,0)).2) ⟨x1,x2⟩ ⟨d3,d4⟩)
       have hb:=QpA ⟨x1,x2⟩ ⟨d3,d4⟩
       have ha2:(Qab (ds.getD i (0,0)).1 x&& !Qu x (ds.getD i (0,0)).2)=true:=ha
       have e:QV .or .i64 x (1*2^(ds.getD i (0,0)).2.toNat)=Qbp x (ds.getD i (0,0)).2:=rfl
       have hmu:5-Qhj (Qbp x (ds.getD i (0,0)).2)<5-Qhj x:=by
        have:=QmN (Qbp x (ds.getD i (0,0)).2)
        omega
       clear hi ha hd hl hq hle;(repeat' first|refine gA fun _=>?_|apply fkI<;>intro hb<;>try simp only[ew,e1,e2,ha2,e]at hb|simp only[go_sem,simprocAttr, *])
       refine lpN (Qbp x (ds.getD i (0,0)).2,acc++[((i:Int),x,Qbp x (ds.getD i (0,0)).2)]) ⟨hn.2.1,hle2,hn.2.2.2⟩ hmu ?_
       clear hn hc hle2 hmu;(repeat' first|refine gA fun _=>?_|apply fkI<;>intro hb<;>try simp only[ew,e1,e2,ha2,e]at hb|simp only[go_sem,simprocAttr, *])
     ·exfalso
      have e5:i=ds.length:=by omega
      subst e5;have:=QC2 hd ⟨a1,a2⟩ ⟨x1,x2⟩ ⟨b1,b2⟩ hle hcl hi.2.2.1
      rw[h0]at this;cases this
   ·rw[h0]at e0
    rw[Qud h0,KM]at hq;clear hd hle;subst hq;(repeat' first|refine gA fun _=>?_|apply fkI<;>intro hb<;>try simp only[ew,e0]at hb|simp only[go_sem,simprocAttr, *])
    all_goals first|rfl|exact⟨rfl,rfl⟩|skip
end Go.Own
