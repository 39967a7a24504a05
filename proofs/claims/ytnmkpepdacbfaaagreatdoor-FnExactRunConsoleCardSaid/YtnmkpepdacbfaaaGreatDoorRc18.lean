/- Own contracts. Conditions: as each theorem states them. -/
import Derived.Test.YtnmkpepdacbfaaaGreatDoorRc17
import Derived.Lib.RowBridge
import Derived.Test.YtnmkpepdacbfaaaGreatDoorRc15
set_option linter.unusedSimpArgs false
set_option linter.unusedVariables false
set_option maxRecDepth 20000
set_option maxHeartbeats 2000000
namespace Go.Own
open Go Go.Proofs Go.RowKit Go.Sort Go.Shelf
attribute [local go_sem] QdQ Tryz.results158
def Qlz(xs:List Int):List Int:=xs.mergeSort fun x y=>decide (x≤y)
def Qjz:Qb:=⟨[true],false,fun
 | [.arr 1 l _]=>some (WfI l∧l.length≤16777216,[],[.arr 1 (iL (Qlz (unI l))) 1])
 | _=>none⟩
attribute [local go_sem] Qjz
theorem Qw7:Qa E0 199 Qjz:=by
 refine⟨⟨Tryz.f199,Tryz.func199,by kernel_rfl,rfl⟩,?_⟩
 intro args p rs ms hr hp w vals F Ms ha hnd hF hJ hN hMN;unfold Qjz at hr;dsimp only at hr;split at hr
 ·rename_i l dp
  cases hr;obtain⟨hl,hlen⟩:=hp;obtain⟨ys,rfl,hmx⟩:=hl.ex;rw[QaC];rw[Qr]at hlen;cases ha with
  | cons h1 h2=>
   cases h2
   cases h1 with
   | arr r1 hdp=>
    rcases r1 with⟨rfl,hnil,rfl,_⟩|⟨b,cap,c,e,G,rfl,rfl,_,a2,a3,a4,a5,a6,a7⟩
    ·have e0:ys=[]:=by
      have:=congrArg List.length hnil
      rw[Qr]at this;exact List.eq_nil_of_length_eq_zero this
     subst e0;have hcon:=Any.slices_Sort_int_none Tryz.lays189 none 0 w
     change Calls Tryz.prog 199 _ _ _ at hcon
     refine hcon.mono ?_
     rintro e w' ⟨rfl,rfl⟩;refine⟨_,rfl,rfl,rfl,rfl,Nat.le_refl _,fun _ _ _=>rfl,[],[],[],[[]],⟨rfl,rfl⟩,?_,by simp,by simp,by simp,by simp,by simp⟩
     have:=QY.cons (h:=w'.heap) (Qbc.arr (s:=1) (l:=[]) (dp:=1) (m:=[]) (.inl ⟨rfl,rfl,rfl,rfl⟩) (by decide)) QY.nil
     simpa [Qlz,iL,Q2,Qjz]using this
    ·rw[Qr,Nat.mul_one]at a7
     obtain⟨hv,rfl⟩:=QcC a7;rw[Qr]at a3;have hH:Holds (Value.int .i64) w b 0 ys.toArray:=Qd1 a2 (by simpa using hv)
     have hcon:=Any.slices_Sort_int Tryz.lays189 b 0 cap ys w hH (Array.getElem?_eq_some_iff.1 a2).1 (by omega)
     change Calls Tryz.prog 199 _ _ _ at hcon
     rw[Qr];refine hcon.mono ?_
     rintro e w' ⟨rfl,n,os,rfl⟩;have hps:=QmU (val:=fun x:Int=>x) (n:=n) (os:=os) (F:=[]) (x:= .tuple #[]) (d:=ys.toArray) (d':=(Qlz ys).toArray) a2 (by simp[Qlz]) (by simpa using a3) a4 a5
     refine⟨_,rfl,?_⟩
     simp[Q2,Qlz,Qjz]at hps ⊢
     exact hps
 ·cases hr
def Qjx:Qb:=⟨[true],true,fun
 | [.arr 1 l _]=>some (WfI l∧l.length≤16777216,[⟨false,[.own 1 (iL (Lib.compact (unI l))) 1]⟩],[.gone])
 | _=>none⟩
attribute [local go_sem] Qjx
theorem QvS:Qa E0 200 Qjx:=by
 refine⟨⟨Tryz.f200,Tryz.func200,by kernel_rfl,rfl⟩,?_⟩
 intro args p rs ms hr hp w vals F Ms ha hnd hF hJ hN hMN;unfold Qjx at hr;dsimp only at hr;split at hr
 ·rename_i l dp
  cases hr;obtain⟨hl,hlen⟩:=hp;obtain⟨ys,rfl,hmx⟩:=hl.ex;rw[QaC];rw[Qr]at hlen;cases ha with
  | cons h1 h2=>
   cases h2
   cases h1 with
   | arr r1 hdp=>
    rcases r1 with⟨rfl,hnil,rfl,_⟩|⟨b,cap,c,e,G,rfl,rfl,_,a2,a3,a4,a5,a6,a7⟩
    ·have e0:ys=[]:=by
      have:=congrArg List.length hnil
      rw[Qr]at this;exact List.eq_nil_of_length_eq_zero this
     subst e0;have hcon:=Any.slices_Compact_int_empty Tryz.laysC none 0 w
     change Calls Tryz.prog 200 _ _ _ at hcon
     refine hcon.mono ?_
     rintro e w' ⟨rfl,rfl⟩;refine⟨_,rfl,rfl,rfl,rfl,Nat.le_refl _,fun _ _ _=>rfl,[],[[]],[],[],?_,?_,by simp,by simp,by simp,by simp,by simp⟩
     ·have:QaG w'.heap [.own 1 (iL []) 1] [.slice none 0 0] ([]++[]) ([[]]):= .own (.inl ⟨rfl,rfl,rfl,rfl⟩) .nil
      simpa [Qbt,Qm3,Lib.compact,Lib.compactUpTo,iL]using this
     ·have:=QY.cons (h:=w'.heap) (Qbc.gone (v:= .slice none 0 0)) QY.nil
      simpa [Q2,Qjx]using this
    ·rw[Qr,Nat.mul_one]at a7
     obtain⟨hv,rfl⟩:=QcC a7;rw[Qr]at a3;have hH:Holds (Value.int .i64) w b 0 ys.toArray:=Qd1 a2 (by simpa using hv)
     have hcon:=Any.slices_Compact_int Tryz.laysC b 0 cap ys w hH (by omega) a3
     change Calls Tryz.prog 200 _ _ _ at hcon
     rw[Qr];refine hcon.mono ?_
     have hcl:=Lib.compact_length_le ys
     rintro e w' ⟨rfl,n,rfl⟩;generalize hzs:Lib.compact ys=zs at hcl;generalize hd:(zs++List.replicate (ys.length-zs.length) (0:Int)).toArray=d;have hds:d.size=ys.length:=by rw[←hd];simp;omega
     have hw:putRow (Value.int .i64) (Sort.ahead w n) b 0 d=sortWorld (Value.int .i64) w b 0 n d #[]:=by unfold sortWorld;rw[grow_empty]
     rw[hw];obtain⟨q1,q2,q3⟩:=QbN (enc:=Value.int .i64) (n:=n) (d:=d) (os:=#[]) a2;have hlt:b<w.heap.size:=(Array.getElem?_eq_some_iff.1 a2).1
     obtain⟨t1,t2⟩:=Qb4 (enc:=Value.int .i64) (d:=d) (c:=c) (by omega)
     have q:Qal (sortWorld (Value.int .i64) w b 0 n d #[]).heap [b] [] 1 (iL zs) 1 (.slice (some ⟨b,0,none⟩) zs.length cap):=by
      refine .inr ⟨b,cap,_,e,[],by rw[Qr],rfl,rfl,q2,by rw[Qr];omega,a4,by rw[t2];exact a5,?_,?_⟩
      ·intro z hz
       simp only[iL,List.mem_map]at hz
       obtain⟨_,_,rfl⟩:=hz;rfl
      ·rw[Qr,Nat.mul_one]
       have e1:(putCells (Value.int .i64) 0 d c).toList.take zs.length=zs.map fun n=>Value.int .i64 n:=by
        have:(putCells (Value.int .i64) 0 d c).toList.take zs.length=((putCells (Value.int .i64) 0 d c).toList.take d.size).take zs.length:=by
         rw[List.take_take];congr 1;omega
        rw[this,t1,←hd];simp
       rw[e1];exact QgB zs
     refine⟨_,rfl,rfl,rfl,rfl,q1,fun k hk hn=>q3 k hk (by simpa using hn),[],[[b]],[],[],?_,?_,by simp,?_,by simp,by simp,by simp⟩
     ·have:QaG (sortWorld (Value.int .i64) w b 0 n d #[]).heap [.own 1 (iL zs) 1] [.slice (some ⟨b,0,none⟩) zs.length cap] ([]++[]) ([[b]]):= .own q .nil
      simpa [Qbt,Qm3]using this
     ·have:=QY.cons (h:=(sortWorld (Value.int .i64) w b 0 n d #[]).heap) (Qbc.gone (v:= .slice (some ⟨b,0,none⟩) ys.length cap)) QY.nil
      simpa [Q2,Qjx]using this
     ·intro k hk
      simp only[List.flatten_cons,List.flatten_nil,List.append_nil,List.mem_singleton]at hk
      subst hk;exact⟨.inr ⟨rfl,by simp⟩,by omega⟩
 ·cases hr
def Qmh:List Int→Int→List Int
 | [],x=>[x]
 | y::l,x=>if x<y then x::y::l else y::Qmh l x
def QfZ(l:List Int)(x:Int):List Int:=if l.contains x then l else Qmh l x
def QaS(xs:List Int):List Int:=xs.foldl QfZ []
theorem Qds:∀{l:List Int} {x:Int},(Qmh l x).length=l.length+1
 | [],x=>rfl
 | y::l,x=>by
  rw[Qmh];split
  ·rfl
  ·simp[@Qds l x]
theorem QkR:∀{l:List Int} {x z:Int},z∈Qmh l x↔z=x∨z∈l
 | [],x,z=>by simp[Qmh]
 | y::l,x,z=>by
  rw[Qmh];split
  ·simp
  ·rw[List.mem_cons,@QkR l x z,List.mem_cons]
   constructor
   ·rintro(h|h|h)
    ·exact .inr (.inl h)
    ·exact .inl h
    ·exact .inr (.inr h)
   ·rintro(h|h|h)
    ·exact .inr (.inl h)
    ·exact .inl h
    ·exact .inr (.inr h)
theorem Qio:∀{l:List Int} {x:Int},l.Pairwise (·<·)→x∉l→(Qmh l x).Pairwise (·<·)
 | [],x,_,_=>by simp[Qmh]
 | y::l,x,h,hx=>by
  rw[Qmh];rw[List.pairwise_cons]at h;split
  ·rename_i hxy
   refine List.pairwise_cons.2 ⟨fun z hz=>?_,List.pairwise_cons.2 h⟩
   rcases List.mem_cons.1 hz with rfl|hz
   ·exact hxy
   ·have:=h.1 z hz;omega
  ·rename_i hxy
   refine List.pairwise_cons.2 ⟨fun z hz=>?_,Qio h.2 (fun hm=>hx (by simp[hm]))⟩
   rcases QkR.1 hz with rfl|hz
   ·have:z≠y:=fun e=>hx (by simp[e])
    omega
   ·exact h.1 z hz
theorem QpY{l:List Int}{x z:Int}:z∈QfZ l x↔z=x∨z∈l:=by
 unfold QfZ;split
 ·rename_i h
  rw[List.contains_iff_mem]at h;constructor
  ·exact .inr
  ·rintro(rfl|h2)
   ·exact h
   ·exact h2
 ·exact QkR
theorem QiK{l:List Int}{x:Int}(h:l.Pairwise (·<·)):(QfZ l x).Pairwise (·<·):=by
 unfold QfZ;split
 ·exact h
 ·rename_i hx
  exact Qio h fun hm=>hx (List.contains_iff_mem.2 hm)
theorem Qfe{l:List Int}{x:Int}:(QfZ l x).length≤l.length+1:=by
 unfold QfZ;split
 ·omega
 ·rw[Qds];omega
theorem QfD:∀{xs l:List Int} {z:Int},z∈xs.foldl QfZ l↔z∈xs∨z∈l
 | [],l,z=>by simp
 | x::xs,l,z=>by
  rw[List.foldl_cons,QfD,QpY,List.mem_cons];constructor
  ·rintro(h|h|h)
   ·exact .inl (.inr h)
   ·exact .inl (.inl h)
   ·exact .inr h
  ·rintro((h|h)|h)
   ·exact .inr (.inl h)
   ·exact .inl h
   ·exact .inr (.inr h)
theorem QdC:∀{xs l:List Int},l.Pairwise (·<·)→(xs.foldl QfZ l).Pairwise (·<·)
 | [],l,h=>h
 | x::xs,l,h=>by rw[List.foldl_cons];exact QdC (QiK h)
theorem QdB:∀{xs l:List Int},(xs.foldl QfZ l).length≤xs.length+l.length
 | [],l=>by simp
 | x::xs,l=>by
  rw[List.foldl_cons];have h1:=@QdB xs (QfZ l x)
  have h2:=@Qfe l x
  simp only[List.length_cons];omega
theorem Qai{xs:List Int}{z:Int}:z∈QaS xs↔z∈xs:=by unfold QaS;rw[QfD];simp
theorem Qat{xs:List Int}:(QaS xs).Pairwise (·<·):=QdC .nil
theorem QaE{xs:List Int}:(QaS xs).length≤xs.length:=by have:=@QdB xs [];simpa [QaS]using this
theorem QbL:∀{l m:List Int},l.Pairwise (·<·)→m.Pairwise (·<·)→(∀x,x∈l↔x∈m)→l=m
 | [],[],_,_,_=>rfl
 | [],y::m,_,_,h=>by have:=(h y).2 (by simp);cases this
 | x::l,[],_,_,h=>by have:=(h x).1 (by simp);cases this
 | x::l,y::m,hl,hm,h=>by
  rw[List.pairwise_cons]at hl hm;have e:x=y:=by
   rcases List.mem_cons.1 ((h x).1 (by simp))with e|h1
   ·exact e
   ·rcases List.mem_cons.1 ((h y).2 (by simp))with e|h2
    ·exact e.symm
    ·have:=hm.1 x h1
     have:=hl.1 y h2
     omega
  subst e;rw[QbL hl.2 hm.2 fun z=>?_]
  constructor
  ·intro hz
   rcases List.mem_cons.1 ((h z).1 (by simp[hz]))with e|h1
   ·have:=hl.1 z hz;omega
   ·exact h1
  ·intro hz
   rcases List.mem_cons.1 ((h z).2 (by simp[hz]))with e|h1
   ·have:=hm.1 z hz;omega
   ·exact h1
theorem QgM{d:Array Int}(hs:∀i j,i≤j→j<d.size→d[i]! ≤d[j]!):∀{m:Nat},m≤d.size→(Lib.compactUpTo d m).Pairwise (·<·)∧(∀y,y∈Lib.compactUpTo d m↔∃j,j<m∧d[j]! =y)
 | 0,_=>by simp[Lib.compactUpTo]
 | m+1,h=>by
  obtain⟨h1,h2⟩:=QgM hs (m:=m) (by omega)
  rw[Lib.compactUpTo_succ];cases hk:Lib.keeps d m
  ·simp only[Bool.false_eq_true,if_false,List.append_nil]
   refine⟨h1,fun y=>?_⟩
   rw[h2];simp only[Lib.keeps,decide_eq_false_iff_not,not_or,ne_eq,Decidable.not_not]at hk
   constructor
   ·rintro⟨j,hj,e⟩;exact⟨j,by omega,e⟩
   ·rintro⟨j,hj,e⟩
    by_cases hm:j=m
    ·subst hm
     exact⟨j-1,by omega,by rw[←e];exact hk.2.symm⟩
    ·exact⟨j,by omega,e⟩
  ·simp only[if_true]
   simp only[Lib.keeps,decide_eq_true_eq]at hk
   refine⟨List.pairwise_append.2 ⟨h1,by simp,fun a ha b hb=>?_⟩,fun y=>?_⟩
   ·rw[List.mem_singleton]at hb
    subst hb;obtain⟨j,hj,rfl⟩:=(h2 a).1 ha;have q1:=hs j (m-1) (by omega) (by omega)
    have q2:=hs (m-1) m (by omega) (by omega)
    have q3:d[m]! ≠d[m-1]! :=by
     rcases hk with hk|hk
     ·omega
     ·exact hk
    omega
   ·rw[List.mem_append,List.mem_singleton,h2]
    constructor
    ·rintro(⟨j,hj,e⟩|rfl)
     ·exact⟨j,by omega,e⟩
     ·exact⟨m,by omega,rfl⟩
    ·rintro⟨j,hj,e⟩
     by_cases hm:j=m
     ·subst hm;exact .inr e.symm
     ·exact .inl ⟨j,by omega,e⟩
theorem QvT{xs:List Int}:Lib.compact (Qlz xs)=QaS xs:=by
 have h1:(Qlz xs).Pairwise fun x y=>x≤y:=by
  have:(Qlz xs).Pairwise fun x y=>decide (x≤y)=true:=by
   apply List.pairwise_mergeSort
   ·intro a b c h1 h2
    simp at *
    omega
   ·intro a b
    simp
    omega
  exact this.imp fun h=>by simpa using h
 have h2:∀z,z∈Qlz xs↔z∈xs:=fun z=>(List.mergeSort_perm _ _).mem_iff
 have hs:∀i j,i≤j→j<(Qlz xs).toArray.size→(Qlz xs).toArray[i]! ≤(Qlz xs).toArray[j]! :=by
  intro i j hij hj
  by_cases e:i=j
  ·subst e;exact Int.le_refl _
  ·have hj':j<(Qlz xs).length:=by simpa using hj
   have:=(List.pairwise_iff_getElem.1 h1) i j (by omega) hj' (by omega)
   rw[getElem!_pos _ i (by omega),getElem!_pos _ j hj]
   simpa using this
 obtain⟨c1,c2⟩:=QgM hs (Nat.le_refl _);have e:Lib.compact (Qlz xs)=Lib.compactUpTo (Qlz xs).toArray (Qlz xs).toArray.size:=by unfold Lib.compact;simp
 rw[e];refine QbL c1 Qat fun z=>?_
 rw[c2,Qai,←h2];constructor
 ·rintro⟨j,hj,rfl⟩
  rw[getElem!_pos _ j hj];simp
 ·intro hz
  obtain⟨j,hj,e⟩:=List.getElem_of_mem hz;refine⟨j,by simpa using hj,?_⟩
  rw[getElem!_pos _ j (by simpa using hj)]
  simpa using e
theorem Qoi{xs:List Int}:(Qlz xs).length=xs.length:=by unfold Qlz;exact List.length_mergeSort _
def QuR:Qb:=⟨[],false,fun
 | [.one (.sl 1 l)]=>some (WfI l∧l.length≤16777216,[⟨false,[.own 1 (iL (QaS (unI l))) 1]⟩],[])
 | _=>none⟩
attribute [local go_sem] QuR
theorem Qo6:Qa E0 158 QuR:=by
 refine QE (E:=E0) (T:=mkT Tryz.prog [(145,QdQ),(199,Qjz),(200,Qjx)] false (fun _=>false) true (fun _=>false)) (Qd (E:=E0) (.cons Qhj (.cons Qw7 (.cons QvS .nil)))) (fn:=Tryz.f158) Tryz.func158 (by kernel_rfl) rfl Qc (by kernel_rfl) rfl ?_
 intro args p rs ms hr;unfold QuR at hr;dsimp only at hr;split at hr;rotate_left
 ·cases hr
 rename_i l;cases hr;refine⟨rfl,rfl,nLe rfl,?_⟩
 have hm:=mxE;rintro⟨h1,h2⟩ bs;obtain⟨xs,rfl,hx⟩:=h1.ex;clear h1;rw[Qr]at h2;rw[QaC];have e:=@QvT xs
 have e2:=@Qoi xs
 (repeat' first|refine gA fun _=>?_|apply fkI<;>intro hb<;>try simp only[ew,e,e2]at hb|simp only[go_sem,simprocAttr, *])
end Go.Own

namespace Go.Own
open Go Go.Proofs
attribute [local go_sem] QlQ Qcv Qar Tryz.results165 Tryz.results128
attribute [local go_sem] Qh Qe Qaa Qac Qab Qaf QaX QdJ Qu QuC QjF QsK QoS QCd
def drL(n:Int)(ds:List (Int×Int))(l r:Int):List (Int×Int×Int):=if QjS n ds l r then der ds r l else []
def Qxv:Qb:=⟨[],false,fun
 | [.one (.v (.int .i64 n)),.one (.sl 2 l),.agg [.v (.int .i64 a),.v (.int .i64 b)]]=>some (WfD l∧ -9223372036854775808≤n∧n≤9223372036854775807,
   [⟨false,[.own 3 (d3L (drL n (unD l) a b)) 1]⟩,⟨false,[.d (.v (.bool (QjS n (unD l) a b)))]⟩],[])
 | _=>none⟩
attribute [local go_sem] Qxv
def Qv3(ds:List (Int×Int))(r:Int)(F:List (Int×Int×Int))(i:Nat)(x:Int)(acc:List (Int×Int×Int)):Prop:=i≤ds.length∧R5 x∧(∀j,j<i→Qi4 x (ds.getD j (0,0))=false)∧acc++der ds r x=F
theorem QoZ{ds:List (Int×Int)}{r x:Int}{F acc:List (Int×Int×Int)}{i:Nat}(hd:∀d∈ds,Qbn d)(h:Qv3 ds r F i x acc)(h5:i<ds.length)(h0:Qt x r=false)(ha:Qi4 x (ds.getD i (0,0))=true):
  Qv3 ds r F 0 (Qbd x (ds.getD i (0,0)).2) (acc++[((i:Int),x,Qbd x (ds.getD i (0,0)).2)]):=by
 obtain⟨h1,h2,h3,h4⟩:=h;refine⟨Nat.zero_le _,(Qdf hd h2 h5 ha).2,fun j hj=>absurd hj (Nat.not_lt_zero _),?_⟩
 rw[Qv7 hd h2 h0 (Qs7 h5 ha h3)]at h4;rw[←h4];simp
theorem Ql5{ds:List (Int×Int)}{r x:Int}{F acc:List (Int×Int×Int)}{i:Nat}(h:Qv3 ds r F i x acc)(h5:i<ds.length)(ha:Qi4 x (ds.getD i (0,0))=false):Qv3 ds r F (i+1) x acc:=by
 obtain⟨h1,h2,h3,h4⟩:=h;refine⟨h5,h2,fun j hj=>?_,h4⟩
 by_cases e:j=i
 ·subst e;exact ha
 ·exact h3 j (by omega)
theorem Qv4{ds:List (Int×Int)}{r x:Int}{F acc:List (Int×Int×Int)}{i:Nat}(h:Qv3 ds r F i x acc)(h0:Qt x r=true):acc=F:=by
 have:=h.2.2.2
 rw[QsR h0,List.append_nil]at this;exact this
theorem QsQ{ds:List (Int×Int)}{r x:Int}{F acc:List (Int×Int×Int)}(h:Qv3 ds r F ds.length x acc):acc=F:=by
 have:=h.2.2.2
 rw[Qv6 (Qs6 h.2.2.1),List.append_nil]at this;exact this
theorem Qv5{ds:List (Int×Int)}{r x:Int}{F acc:List (Int×Int×Int)}{i:Nat}(h:Qv3 ds r F i x acc)(hF:F.length≤6):acc.length≤6:=by
 have:=congrArg List.length h.2.2.2
 rw[List.length_append]at this;omega
theorem QsS{ds:List (Int×Int)}{r x:Int}(hd:∀d∈ds,Qbn d)(hx:R5 x):(der ds r x).length≤6:=(QkF hd hx).1
theorem QqU:Qa E0 165 Qxv:=by
 refine QE (E:=E0) (T:=mkT Tryz.prog [(109,QlQ),(149,Qcv),(157,Qar)] false (fun _=>false) true (fun _=>false)) (Qd (E:=E0) (.cons QnP (.cons Qcm (.cons Qa4 .nil)))) (fn:=Tryz.f165) Tryz.func165 (by kernel_rfl) rfl Qc (by kernel_rfl) rfl ?_
 intro args p rs ms hr;unfold Qxv at hr;dsimp only at hr;split at hr;rotate_left
 ·cases hr
 rename_i n l a b;cases hr;refine⟨rfl,rfl,nLe rfl,?_⟩
 have hm:=mxE;rintro⟨h1,hn1,hn2⟩ bs;obtain⟨ds,rfl,hx⟩:=h1.ex;clear h1;rw[Qh];unfold drL;cases hv:QjS n ds a b
 ·(repeat' first|refine gA fun _=>?_|apply fkI<;>intro hb<;>try simp only[ew,hv]at hb|simp only[go_sem,simprocAttr, *,hv])
  all_goals first|rfl|exact⟨rfl,rfl⟩|skip
 ·have hv2:=hv
  simp only[QjS,Bool.and_eq_true]at hv2
  have hd:=Qax hv2.1.1
  obtain⟨⟨a1,a2⟩,b1,b2⟩:=Qas hv2.1.2;clear hv2;simp only[if_true]
  have hl:=QsS (r:=b) hd ⟨a1,a2⟩
  (repeat' first|refine gA fun _=>?_|apply fkI<;>intro hb<;>try simp only[ew,hv]at hb|simp only[go_sem,simprocAttr, *,hv])
  clear hv;generalize hF:der ds b a=F at hl;refine lpI {ι:=Nat×Int×List (Int×Int×Int),rs:=[(11,12),(20,66)],mods:=[(10,fun i=> .one (.d (.v (.int .i64 i.1)))),(9,fun i=> .one (.d (.v (.int .i64 i.2.1)))),(8,fun i=> .one (.own 3 (d3L i.2.2) 1))],boxes:=[(5,fun _=>[.d (.v (.int .i64 a)),.d (.v (.int .i64 b))])],arrs:=[],ok:=fun i=>Qv3 ds b F i.1 i.2.1 i.2.2,mu:=fun i=>cmu ds.length i.1 i.2.1} rfl (0,a,[]) ⟨Nat.zero_le _,⟨a1,a2⟩,fun j hj=>absurd hj (Nat.not_lt_zero _),hF⟩ ?_ ?_
  ·exact gQ
  ·rintro⟨i,x,acc⟩ hi
   dsimp only at hi;have hi1:=hi.1
   obtain⟨x1,x2⟩:=hi.2.1;have hal:=Qv5 hi hl
   clear hF
   by_cases h5:i<ds.length
   ·cases h0:Qt x b
    ·obtain⟨⟨d1,d2⟩,d3,d4⟩:=QkE hd h5
     have hs:=QAp ⟨d3,d4⟩
     cases ha:Qi4 x (ds.getD i (0,0))
     ·have hn:=Ql5 hi h5 ha
      have ha2:(Q7 (ds.getD i (0,0)).1 x&& !Qt x (ds.getD i (0,0)).2)=false:=ha
      rw[Qbo]at ha2;clear hi ha hd hs hl;(repeat' first|refine gA fun _=>?_|apply fkI<;>intro hb<;>try simp only[ew,ha2,h0]at hb|simp only[go_sem,simprocAttr, *,h0])
      refine lpN (i+1,x,acc) hn (QoM h5) ?_
      clear hn;(repeat' first|refine gA fun _=>?_|apply fkI<;>intro hb<;>try simp only[ew,ha2]at hb|simp only[go_sem,simprocAttr, *])
     ·have hn:=QoZ hd hi h5 h0 ha
      have hc:=(Qdf hd ⟨x1,x2⟩ h5 ha).1
      have hb:=QoB ⟨x1,x2⟩ ⟨d3,d4⟩
      have ha2:(Q7 (ds.getD i (0,0)).1 x&& !Qt x (ds.getD i (0,0)).2)=true:=ha
      rw[Qbo]at ha2;have e:Q6 .or .i64 x (1*2^(ds.getD i (0,0)).2.toNat)=Qbd x (ds.getD i (0,0)).2:=rfl
      clear hi ha hd hl;(repeat' first|refine gA fun _=>?_|apply fkI<;>intro hb<;>try simp only[ew,ha2,h0,e]at hb|simp only[go_sem,simprocAttr, *,h0])
      refine lpN (0,Qbd x (ds.getD i (0,0)).2,acc++[((i:Int),x,Qbd x (ds.getD i (0,0)).2)]) hn (Qsw hc h5) ?_
      clear hn hc;(repeat' first|refine gA fun _=>?_|apply fkI<;>intro hb<;>try simp only[ew,ha2,e]at hb|simp only[go_sem,simprocAttr, *])
      all_goals first|rfl|skip
    ·have e:=Qv4 hi h0
     clear hi hd;subst e;(repeat' first|refine gA fun _=>?_|apply fkI<;>intro hb<;>try simp only[ew,h0]at hb|simp only[go_sem,simprocAttr, *,h0])
     all_goals first|rfl|exact⟨rfl,rfl⟩|skip
   ·have e5:i=ds.length:=by omega
    subst e5;have e:=QsQ hi
    clear hi hd;subst e;(repeat' first|refine gA fun _=>?_|apply fkI<;>intro hb<;>try simp only[ew]at hb|simp only[go_sem,simprocAttr, *])
    all_goals first|rfl|exact⟨rfl,rfl⟩|skip
def QDL(ds:List (Int×Int))(a r:Int)(F:List (Int×Int×Int))(x:Int)(acc:List (Int×Int×Int)):Prop:=R5 x∧leB a x∧acc++der ds r x=F
theorem Qe6{x r:Int}(hr:0≤r∧r≤4)(hx:R5 x):(Q6 .and .i64 (x.fdiv (2^r.toNat)) 1==0)= !Qt x r:=by
 obtain⟨r,rfl⟩:=c5 hr;obtain⟨x,rfl⟩:=hx.fin;have:∀x:Fin 32,∀r:Fin 5,(Q6 .and .i64 (((x.val:Nat):Int).fdiv (2^((r.val:Nat):Int).toNat)) 1==0)= !Qt ((x.val:Nat):Int) ((r.val:Nat):Int):=by decide+kernel
 exact this x r
theorem QqV:Qa E0 128 Qxv:=by
 refine QE (E:=E0) (T:=mkT Tryz.prog [(84,QlQ)] false (fun _=>false) true (fun _=>false)) (Qd (E:=E0) (.cons QkP .nil)) (fn:=Tryz.f128) Tryz.func128 (by kernel_rfl) rfl Qc (by kernel_rfl) rfl ?_
 intro args p rs ms hr;unfold Qxv at hr;dsimp only at hr;split at hr;rotate_left
 ·cases hr
 rename_i n l a b;cases hr;refine⟨rfl,rfl,nLe rfl,?_⟩
 have hm:=mxE;rintro⟨h1,hn1,hn2⟩ bs;obtain⟨ds,rfl,hx⟩:=h1.ex;clear h1;rw[Qh];unfold drL;cases hv:QjS n ds a b
 ·(repeat' first|refine gA fun _=>?_|apply fkI<;>intro hb<;>try simp only[ew,hv]at hb|simp only[go_sem,simprocAttr, *,hv])
  all_goals first|rfl|exact⟨rfl,rfl⟩|skip
 ·have hv2:=hv
  simp only[QjS,Bool.and_eq_true]at hv2
  have hd:=Qax hv2.1.1
  obtain⟨⟨a1,a2⟩,b1,b2⟩:=Qas hv2.1.2;have hcl:=hv2.2
  clear hv2;simp only[if_true]
  have hl:=QsS (r:=b) hd ⟨a1,a2⟩
  (repeat' first|refine gA fun _=>?_|apply fkI<;>intro hb<;>try simp only[ew,hv]at hb|simp only[go_sem,simprocAttr, *,hv])
  clear hv;generalize hF:der ds b a=F at hl;refine lpI {ι:=Int×List (Int×Int×Int),rs:=[(10,12),(21,73)],mods:=[(9,fun i=> .one (.d (.v (.int .i64 i.1)))),(8,fun i=> .one (.own 3 (d3L i.2) 1))],boxes:=[(5,fun _=>[.d (.v (.int .i64 a)),.d (.v (.int .i64 b))])],arrs:=[],ok:=fun i=>QDL ds a b F i.1 i.2,mu:=fun i=>5-QgL i.1} rfl (a,[]) ⟨⟨a1,a2⟩,leB.refl _,hF⟩ ?_ ?_
  ·exact gQ
  ·rintro⟨x,acc⟩ hi
   dsimp only at hi;obtain⟨⟨x1,x2⟩,hle,hq⟩:=hi;have hlen:acc.length≤6:=by
    have:=congrArg List.length hq
    rw[List.length_append]at this;omega
   clear hF;have e0:=Qe6 (x:=x) (r:=b) ⟨b1,b2⟩ ⟨x1,x2⟩
   cases h0:Qt x b
   ·rw[h0]at e0
    (repeat' first|refine gA fun _=>?_|apply fkI<;>intro hb<;>try simp only[ew,e0]at hb|simp only[go_sem,simprocAttr, *])
    refine lpI {ι:=Nat,rs:=[(11,12),(27,73)],mods:=[(10,fun i=> .one (.d (.v (.int .i64 i)))),(9,fun _=> .one (.d (.v (.int .i64 x)))),(8,fun _=> .one (.own 3 (d3L acc) 1))],boxes:=[(5,fun _=>[.d (.v (.int .i64 a)),.d (.v (.int .i64 b))])],arrs:=[],ok:=fun i=>Qv3 ds b F i x acc,mu:=fun i=>ds.length-i} rfl 0 ⟨Nat.zero_le _,⟨x1,x2⟩,fun j hj=>absurd hj (Nat.not_lt_zero _),hq⟩ ?_ ?_
    ·exact gQ
    ·intro i hi
     dsimp only at i hi;have hi1:=hi.1
     by_cases h5:i<ds.length
     ·obtain⟨⟨d1,d2⟩,d3,d4⟩:=QkE hd h5
      have hs:=QAp ⟨d3,d4⟩
      have e1:=Qde (l:=(ds.getD i (0,0)).1) (x:=x) ⟨d1,d2⟩ ⟨x1,x2⟩
      have e2:=Qe6 (x:=x) (r:=(ds.getD i (0,0)).2) ⟨d3,d4⟩ ⟨x1,x2⟩
      cases ha:Qi4 x (ds.getD i (0,0))
      ·have hn:=Ql5 hi h5 ha
       have ha2:(Q7 (ds.getD i (0,0)).1 x&& !Qt x (ds.getD i (0,0)).2)=false:=ha
       clear hi ha hd hs hl hq hle;(repeat' first|refine gA fun _=>?_|apply fkI<;>intro hb<;>try simp only[ew,e1,e2,ha2]at hb|simp only[go_sem,simprocAttr, *])
       refine lpN (i+1) hn (by dsimp only;omega) ?_
       clear hn;(repeat' first|refine gA fun _=>?_|apply fkI<;>intro hb<;>try simp only[ew,e1,e2,ha2]at hb|simp only[go_sem,simprocAttr, *])
      ·have hn:=QoZ hd hi h5 h0 ha
       have hc:=(Qdf hd ⟨x1,x2⟩ h5 ha).1
       have hle2:=hle.trans (QkX (r:=(ds.getD i (0,0)).2) ⟨x1,x2⟩ ⟨d3,d4⟩)
       have hb:=QoB ⟨x1,x2⟩ ⟨d3,d4⟩
       have ha2:(Q7 (ds.getD i (0,0)).1 x&& !Qt x (ds.getD i (0,0)).2)=true:=ha
       have e:Q6 .or .i64 x (1*2^(ds.getD i (0,0)).2.toNat)=Qbd x (ds.getD i (0,0)).2:=rfl
       have hmu:5-QgL (Qbd x (ds.getD i (0,0)).2)<5-QgL x:=by
        have:=QlX (Qbd x (ds.getD i (0,0)).2)
        omega
       clear hi ha hd hl hq hle;(repeat' first|refine gA fun _=>?_|apply fkI<;>intro hb<;>try simp only[ew,e1,e2,ha2,e]at hb|simp only[go_sem,simprocAttr, *])
       refine lpN (Qbd x (ds.getD i (0,0)).2,acc++[((i:Int),x,Qbd x (ds.getD i (0,0)).2)]) ⟨hn.2.1,hle2,hn.2.2.2⟩ hmu ?_
       clear hn hc hle2 hmu;(repeat' first|refine gA fun _=>?_|apply fkI<;>intro hb<;>try simp only[ew,e1,e2,ha2,e]at hb|simp only[go_sem,simprocAttr, *])
     ·exfalso
      have e5:i=ds.length:=by omega
      subst e5;have:=QBc hd ⟨a1,a2⟩ ⟨x1,x2⟩ ⟨b1,b2⟩ hle hcl hi.2.2.1
      rw[h0]at this;cases this
   ·rw[h0]at e0
    rw[QsR h0,List.append_nil]at hq;clear hd hle;subst hq;(repeat' first|refine gA fun _=>?_|apply fkI<;>intro hb<;>try simp only[ew,e0]at hb|simp only[go_sem,simprocAttr, *])
    all_goals first|rfl|exact⟨rfl,rfl⟩|skip
end Go.Own
