/- Own contracts. Conditions: as each theorem states them. -/
import Derived.Test.YtnmkpepdacbfaaaGreatDoorRr18
import Derived.Lib.RowBridge
set_option linter.unusedSimpArgs false
set_option linter.unusedVariables false
set_option maxRecDepth 20000
set_option maxHeartbeats 2000000
namespace Go.Own
open Go Go.Proofs Go.RowKit Go.Sort Go.Shelf
attribute [local go_sem] Qdi Tryz.results158
def Qj3(xs:List Int):List Int:=xs.mergeSort fun x y=>decide (x≤y)
def Qih:Qb:=⟨[true],false,fun
 | [.arr 1 l _]=>some (WfI l∧l.length≤16777216,[],[.arr 1 (iL (Qj3 (unI l))) 1])
 | _=>none⟩
attribute [local go_sem] Qih
theorem Qvm:Qa E0 199 Qih:=by
 refine⟨⟨Tryz.f199,Tryz.func199,by kernel_rfl,rfl⟩,?_⟩
 intro args p rs ms hr hp w vals F Ms ha hnd hF hJ hN hMN;unfold Qih at hr;dsimp only at hr;split at hr
 ·rename_i l dp
  cases hr;obtain⟨hl,hlen⟩:=hp;obtain⟨ys,rfl,hmx⟩:=hl.ex;rw[Qay];rw[Qo]at hlen;cases ha with
  | cons h1 h2=>
   cases h2
   cases h1 with
   | arr r1 hdp=>
    rcases r1 with⟨rfl,hnil,rfl,_⟩|⟨b,cap,c,e,G,rfl,rfl,_,a2,a3,a4,a5,a6,a7⟩
    ·have e0:ys=[]:=by
      have:=congrArg List.length hnil
      rw[Qo]at this;exact List.eq_nil_of_length_eq_zero this
     subst e0;have hcon:=Any.slices_Sort_int_none Tryz.lays189 none 0 w
     change Calls Tryz.prog 199 _ _ _ at hcon
     refine hcon.mono ?_
     rintro e w' ⟨rfl,rfl⟩;refine⟨_,rfl,rfl,rfl,rfl,Nat.le_refl _,fun _ _ _=>rfl,[],[],[],[[]],⟨rfl,rfl⟩,?_,by simp,by simp,by simp,by simp,by simp⟩
     have:=QU.cons (h:=w'.heap) (QaU.arr (s:=1) (l:=[]) (dp:=1) (m:=[]) (.inl ⟨rfl,rfl,rfl,rfl⟩) (by decide)) QU.nil
     simpa [Qj3,iL,Qad,Qih]using this
    ·rw[Qo,Nat.mul_one]at a7
     obtain⟨hv,rfl⟩:=Qcl a7;rw[Qo]at a3;have hH:Holds (Value.int .i64) w b 0 ys.toArray:=Qdr a2 (by simpa using hv)
     have hcon:=Any.slices_Sort_int Tryz.lays189 b 0 cap ys w hH (Array.getElem?_eq_some_iff.1 a2).1 (by omega)
     change Calls Tryz.prog 199 _ _ _ at hcon
     rw[Qo];refine hcon.mono ?_
     rintro e w' ⟨rfl,n,os,rfl⟩;have hps:=Qk3 (val:=fun x:Int=>x) (n:=n) (os:=os) (F:=[]) (x:= .tuple #[]) (d:=ys.toArray) (d':=(Qj3 ys).toArray) a2 (by simp[Qj3]) (by simpa using a3) a4 a5
     refine⟨_,rfl,?_⟩
     simp[Qad,Qj3,Qih]at hps ⊢
     exact hps
 ·cases hr
def Qie:Qb:=⟨[true],true,fun
 | [.arr 1 l _]=>some (WfI l∧l.length≤16777216,[⟨false,[.own 1 (iL (Lib.compact (unI l))) 1]⟩],[.gone])
 | _=>none⟩
attribute [local go_sem] Qie
theorem Qt3:Qa E0 200 Qie:=by
 refine⟨⟨Tryz.f200,Tryz.func200,by kernel_rfl,rfl⟩,?_⟩
 intro args p rs ms hr hp w vals F Ms ha hnd hF hJ hN hMN;unfold Qie at hr;dsimp only at hr;split at hr
 ·rename_i l dp
  cases hr;obtain⟨hl,hlen⟩:=hp;obtain⟨ys,rfl,hmx⟩:=hl.ex;rw[Qay];rw[Qo]at hlen;cases ha with
  | cons h1 h2=>
   cases h2
   cases h1 with
   | arr r1 hdp=>
    rcases r1 with⟨rfl,hnil,rfl,_⟩|⟨b,cap,c,e,G,rfl,rfl,_,a2,a3,a4,a5,a6,a7⟩
    ·have e0:ys=[]:=by
      have:=congrArg List.length hnil
      rw[Qo]at this;exact List.eq_nil_of_length_eq_zero this
     subst e0;have hcon:=Any.slices_Compact_int_empty Tryz.laysC none 0 w
     change Calls Tryz.prog 200 _ _ _ at hcon
     refine hcon.mono ?_
     rintro e w' ⟨rfl,rfl⟩;refine⟨_,rfl,rfl,rfl,rfl,Nat.le_refl _,fun _ _ _=>rfl,[],[[]],[],[],?_,?_,by simp,by simp,by simp,by simp,by simp⟩
     ·have:Qat w'.heap [.own 1 (iL []) 1] [.slice none 0 0] ([]++[]) ([[]]):= .own (.inl ⟨rfl,rfl,rfl,rfl⟩) .nil
      simpa [QbL,QmD,Lib.compact,Lib.compactUpTo,iL]using this
     ·have:=QU.cons (h:=w'.heap) (QaU.gone (v:= .slice none 0 0)) QU.nil
      simpa [Qad,Qie]using this
    ·rw[Qo,Nat.mul_one]at a7
     obtain⟨hv,rfl⟩:=Qcl a7;rw[Qo]at a3;have hH:Holds (Value.int .i64) w b 0 ys.toArray:=Qdr a2 (by simpa using hv)
     have hcon:=Any.slices_Compact_int Tryz.laysC b 0 cap ys w hH (by omega) a3
     change Calls Tryz.prog 200 _ _ _ at hcon
     rw[Qo];refine hcon.mono ?_
     have hcl:=Lib.compact_length_le ys
     rintro e w' ⟨rfl,n,rfl⟩;generalize hzs:Lib.compact ys=zs at hcl;generalize hd:(zs++List.replicate (ys.length-zs.length) (0:Int)).toArray=d;have hds:d.size=ys.length:=by rw[←hd];simp;omega
     have hw:putRow (Value.int .i64) (Sort.ahead w n) b 0 d=sortWorld (Value.int .i64) w b 0 n d #[]:=by unfold sortWorld;rw[grow_empty]
     rw[hw];obtain⟨q1,q2,q3⟩:=QbB (enc:=Value.int .i64) (n:=n) (d:=d) (os:=#[]) a2;have hlt:b<w.heap.size:=(Array.getElem?_eq_some_iff.1 a2).1
     obtain⟨t1,t2⟩:=QbX (enc:=Value.int .i64) (d:=d) (c:=c) (by omega)
     have q:Qaa (sortWorld (Value.int .i64) w b 0 n d #[]).heap [b] [] 1 (iL zs) 1 (.slice (some ⟨b,0,none⟩) zs.length cap):=by
      refine .inr ⟨b,cap,_,e,[],by rw[Qo],rfl,rfl,q2,by rw[Qo];omega,a4,by rw[t2];exact a5,?_,?_⟩
      ·intro z hz
       simp only[iL,List.mem_map]at hz
       obtain⟨_,_,rfl⟩:=hz;rfl
      ·rw[Qo,Nat.mul_one]
       have e1:(putCells (Value.int .i64) 0 d c).toList.take zs.length=zs.map fun n=>Value.int .i64 n:=by
        have:(putCells (Value.int .i64) 0 d c).toList.take zs.length=((putCells (Value.int .i64) 0 d c).toList.take d.size).take zs.length:=by
         rw[List.take_take];congr 1;omega
        rw[this,t1,←hd];simp
       rw[e1];exact QfL zs
     refine⟨_,rfl,rfl,rfl,rfl,q1,fun k hk hn=>q3 k hk (by simpa using hn),[],[[b]],[],[],?_,?_,by simp,?_,by simp,by simp,by simp⟩
     ·have:Qat (sortWorld (Value.int .i64) w b 0 n d #[]).heap [.own 1 (iL zs) 1] [.slice (some ⟨b,0,none⟩) zs.length cap] ([]++[]) ([[b]]):= .own q .nil
      simpa [QbL,QmD]using this
     ·have:=QU.cons (h:=(sortWorld (Value.int .i64) w b 0 n d #[]).heap) (QaU.gone (v:= .slice (some ⟨b,0,none⟩) ys.length cap)) QU.nil
      simpa [Qad,Qie]using this
     ·intro k hk
      simp only[List.flatten_cons,List.flatten_nil,List.append_nil,List.mem_singleton]at hk
      subst hk;exact⟨.inr ⟨rfl,by simp⟩,by omega⟩
 ·cases hr
def QkA:List Int→Int→List Int
 | [],x=>[x]
 | y::l,x=>if x<y then x::y::l else y::QkA l x
def QkT(l:List Int)(x:Int):List Int:=if l.contains x then l else QkA l x
def Qdq(xs:List Int):List Int:=xs.foldl QkT []
theorem QcX:∀{l:List Int} {x:Int},(QkA l x).length=l.length+1
 | [],x=>rfl
 | y::l,x=>by
  rw[QkA];split
  ·rfl
  ·simp[@QcX l x]
theorem Qjj:∀{l:List Int} {x z:Int},z∈QkA l x↔z=x∨z∈l
 | [],x,z=>by simp[QkA]
 | y::l,x,z=>by
  rw[QkA];split
  ·simp
  ·rw[List.mem_cons,@Qjj l x z,List.mem_cons]
   constructor
   ·rintro(h|h|h)
    ·exact .inr (.inl h)
    ·exact .inl h
    ·exact .inr (.inr h)
   ·rintro(h|h|h)
    ·exact .inr (.inl h)
    ·exact .inl h
    ·exact .inr (.inr h)
theorem Qhc:∀{l:List Int} {x:Int},l.Pairwise (·<·)→x∉l→(QkA l x).Pairwise (·<·)
 | [],x,_,_=>by simp[QkA]
 | y::l,x,h,hx=>by
  rw[QkA];rw[List.pairwise_cons]at h;split
  ·rename_i hxy
   refine List.pairwise_cons.2 ⟨fun z hz=>?_,List.pairwise_cons.2 h⟩
   rcases List.mem_cons.1 hz with rfl|hz
   ·exact hxy
   ·have:=h.1 z hz;omega
  ·rename_i hxy
   refine List.pairwise_cons.2 ⟨fun z hz=>?_,Qhc h.2 (fun hm=>hx (by simp[hm]))⟩
   rcases Qjj.1 hz with rfl|hz
   ·have:z≠y:=fun e=>hx (by simp[e])
    omega
   ·exact h.1 z hz
theorem Qu8{l:List Int}{x z:Int}:z∈QkT l x↔z=x∨z∈l:=by
 unfold QkT;split
 ·rename_i h
  rw[List.contains_iff_mem]at h;constructor
  ·exact .inr
  ·rintro(rfl|h2)
   ·exact h
   ·exact h2
 ·exact Qjj
theorem Qml{l:List Int}{x:Int}(h:l.Pairwise (·<·)):(QkT l x).Pairwise (·<·):=by
 unfold QkT;split
 ·exact h
 ·rename_i hx
  exact Qhc h fun hm=>hx (List.contains_iff_mem.2 hm)
theorem Qmk{l:List Int}{x:Int}:(QkT l x).length≤l.length+1:=by
 unfold QkT;split
 ·omega
 ·rw[QcX];omega
theorem QeN:∀{xs l:List Int} {z:Int},z∈xs.foldl QkT l↔z∈xs∨z∈l
 | [],l,z=>by simp
 | x::xs,l,z=>by
  rw[List.foldl_cons,QeN,Qu8,List.mem_cons];constructor
  ·rintro(h|h|h)
   ·exact .inl (.inr h)
   ·exact .inl (.inl h)
   ·exact .inr h
  ·rintro((h|h)|h)
   ·exact .inr (.inl h)
   ·exact .inl h
   ·exact .inr (.inr h)
theorem Qc4:∀{xs l:List Int},l.Pairwise (·<·)→(xs.foldl QkT l).Pairwise (·<·)
 | [],l,h=>h
 | x::xs,l,h=>by rw[List.foldl_cons];exact Qc4 (Qml h)
theorem Qc3:∀{xs l:List Int},(xs.foldl QkT l).length≤xs.length+l.length
 | [],l=>by simp
 | x::xs,l=>by
  rw[List.foldl_cons];have h1:=@Qc3 xs (QkT l x)
  have h2:=@Qmk l x
  simp only[List.length_cons];omega
theorem Qbh{xs:List Int}{z:Int}:z∈Qdq xs↔z∈xs:=by unfold Qdq;rw[QeN];simp
theorem Qa3{xs:List Int}:(Qdq xs).Pairwise (·<·):=Qc4 .nil
theorem Qbu{xs:List Int}:(Qdq xs).length≤xs.length:=by have:=@Qc3 xs [];simpa [Qdq]using this
theorem QcL:∀{l m:List Int},l.Pairwise (·<·)→m.Pairwise (·<·)→(∀x,x∈l↔x∈m)→l=m
 | [],[],_,_,_=>rfl
 | [],y::m,_,_,h=>by have:=(h y).2 (by simp);cases this
 | x::l,[],_,_,h=>by have:=(h x).1 (by simp);cases this
 | x::l,y::m,hl,hm,h=>by
  rw[List.pairwise_cons]at hl hm;have e:x=y:=by
   rcases List.mem_cons.1 ((h x).1 (by simp))with e|h1
   ·exact e
   ·rcases List.mem_cons.1 ((h y).2 (by simp))with e|h2
    ·exact e.symm
    ·have:=hm.1 x h1
     have:=hl.1 y h2
     omega
  subst e;rw[QcL hl.2 hm.2 fun z=>?_]
  constructor
  ·intro hz
   rcases List.mem_cons.1 ((h z).1 (by simp[hz]))with e|h1
   ·have:=hl.1 z hz;omega
   ·exact h1
  ·intro hz
   rcases List.mem_cons.1 ((h z).2 (by simp[hz]))with e|h1
   ·have:=hm.1 z hz;omega
   ·exact h1
theorem QfW{d:Array Int}(hs:∀i j,i≤j→j<d.size→d[i]! ≤d[j]!):∀{m:Nat},m≤d.size→(Lib.compactUpTo d m).Pairwise (·<·)∧(∀y,y∈Lib.compactUpTo d m↔∃j,j<m∧d[j]! =y)
 | 0,_=>by simp[Lib.compactUpTo]
 | m+1,h=>by
  obtain⟨h1,h2⟩:=QfW hs (m:=m) (by omega)
  rw[Lib.compactUpTo_succ];cases hk:Lib.keeps d m
  ·simp only[Bool.false_eq_true,if_false,List.append_nil]
   refine⟨h1,fun y=>?_⟩
   rw[h2];simp only[Lib.keeps,decide_eq_false_iff_not,not_or,ne_eq,Decidable.not_not]at hk
   constructor
   ·rintro⟨j,hj,e⟩;exact⟨j,by omega,e⟩
   ·rintro⟨j,hj,e⟩
    by_cases hm:j=m
    ·subst hm
     exact⟨j-1,by omega,by rw[←e];exact hk.2.symm⟩
    ·exact⟨j,by omega,e⟩
  ·simp only[if_true]
   simp only[Lib.keeps,decide_eq_true_eq]at hk
   refine⟨List.pairwise_append.2 ⟨h1,by simp,fun a ha b hb=>?_⟩,fun y=>?_⟩
   ·rw[List.mem_singleton]at hb
    subst hb;obtain⟨j,hj,rfl⟩:=(h2 a).1 ha;have q1:=hs j (m-1) (by omega) (by omega)
    have q2:=hs (m-1) m (by omega) (by omega)
    have q3:d[m]! ≠d[m-1]! :=by
     rcases hk with hk|hk
     ·omega
     ·exact hk
    omega
   ·rw[List.mem_append,List.mem_singleton,h2]
    constructor
    ·rintro(⟨j,hj,e⟩|rfl)
     ·exact⟨j,by omega,e⟩
     ·exact⟨m,by omega,rfl⟩
    ·rintro⟨j,hj,e⟩
     by_cases hm:j=m
     ·subst hm;exact .inr e.symm
     ·exact .inl ⟨j,by omega,e⟩
theorem Qt4{xs:List Int}:Lib.compact (Qj3 xs)=Qdq xs:=by
 have h1:(Qj3 xs).Pairwise fun x y=>x≤y:=by
  have:(Qj3 xs).Pairwise fun x y=>decide (x≤y)=true:=by
   apply List.pairwise_mergeSort
   ·intro a b c h1 h2
    simp at *
    omega
   ·intro a b
    simp
    omega
  exact this.imp fun h=>by simpa using h
 have h2:∀z,z∈Qj3 xs↔z∈xs:=fun z=>(List.mergeSort_perm _ _).mem_iff
 have hs:∀i j,i≤j→j<(Qj3 xs).toArray.size→(Qj3 xs).toArray[i]! ≤(Qj3 xs).toArray[j]! :=by
  intro i j hij hj
  by_cases e:i=j
  ·subst e;exact Int.le_refl _
  ·have hj':j<(Qj3 xs).length:=by simpa using hj
   have:=(List.pairwise_iff_getElem.1 h1) i j (by omega) hj' (by omega)
   rw[getElem!_pos _ i (by omega),getElem!_pos _ j hj]
   simpa using this
 obtain⟨c1,c2⟩:=QfW hs (Nat.le_refl _);have e:Lib.compact (Qj3 xs)=Lib.compactUpTo (Qj3 xs).toArray (Qj3 xs).toArray.size:=by unfold Lib.compact;simp
 rw[e];refine QcL c1 Qa3 fun z=>?_
 rw[c2,Qbh,←h2];constructor
 ·rintro⟨j,hj,rfl⟩
  rw[getElem!_pos _ j hj];simp
 ·intro hz
  obtain⟨j,hj,e⟩:=List.getElem_of_mem hz;refine⟨j,by simpa using hj,?_⟩
  rw[getElem!_pos _ j (by simpa using hj)]
  simpa using e
theorem Qmu{xs:List Int}:(Qj3 xs).length=xs.length:=by unfold Qj3;exact List.length_mergeSort _
def Qs2:Qb:=⟨[],false,fun
 | [.one (.sl 1 l)]=>some (WfI l∧l.length≤16777216,[⟨false,[.own 1 (iL (Qdq (unI l))) 1]⟩],[])
 | _=>none⟩
attribute [local go_sem] Qs2
theorem Qm9:Qa E0 158 Qs2:=by
 refine QV (E:=E0) (T:=mkT Tryz.prog [(145,Qdi),(199,Qih),(200,Qie)] false (fun _=>false) true (fun _=>false)) (Qf (E:=E0) (.cons Qgl (.cons Qvm (.cons Qt3 .nil)))) (fn:=Tryz.f158) Tryz.func158 (by kernel_rfl) rfl Qe (by kernel_rfl) rfl ?_
 intro args p rs ms hr;unfold Qs2 at hr;dsimp only at hr;split at hr;rotate_left
 ·cases hr
 rename_i l;cases hr;refine⟨rfl,rfl,nLe rfl,?_⟩
 have hm:=mxE;rintro⟨h1,h2⟩ bs;obtain⟨xs,rfl,hx⟩:=h1.ex;clear h1;rw[Qo]at h2;rw[Qay];have e:=@Qt4 xs
 have e2:=@Qmu xs
 (repeat' first|refine gA fun _=>?_|apply fkI<;>intro hb<;>try simp only[ew,e,e2]at hb|simp only[go_sem,simprocAttr, *])
end Go.Own
