/-
  slices.Compact at a row of dependencies: what it returns and what it leaves. Conditions: as each theorem states them.
-/
import Derived.Test.YtnmkpepdacbfaaaGreatDoorRr18
import Derived.Shelf.SlSortCmp.KitK
import Derived.Shelf.RegionOpenPlain
import Derived.Deep.Draws
import Derived.Lib.Walk
import Derived.Lib.SliceRun
import Derived.Lib.SlicesCompact
set_option linter.unusedSimpArgs false
set_option linter.unusedVariables false
set_option maxRecDepth 1000000
set_option maxHeartbeats 4000000
namespace Go.Own
open Go Go.Proofs Go.RowKit Go.Sort Go.Shelf Go.Lib
def QaK(d:Int×Int):List Value:=[.int .i64 d.1,.int .i64 d.2]
theorem Qnb(d:Int×Int):(QaK d).length=2:=rfl
theorem Quk(d:Int×Int):∀v∈QaK d,v.oneCell'=true:=by
 intro v hv;simp[QaK]at hv
 rcases hv with rfl|rfl<;>rfl
theorem Qq0{P:Program}{t:TypeId}(hs:(P.info? t).map (·.size)=some 2)(h:eqB P t=true):
  (∀(op:BinOp) (a b:Operand) (x1 x2 y1 y2:Int) (w:World),Sem.run P (eqGuard op t a b (.agg #[.int .i64 x1,.int .i64 x2]) (.agg #[.int .i64 y1,.int .i64 y2])) w= .ok () w)∧
  (∀(x1 x2 y1 y2:Int) (w:World),Sem.run P (binOp .eql t (.agg #[.int .i64 x1,.int .i64 x2]) (.agg #[.int .i64 y1,.int .i64 y2])) w= .ok (.bool (decide ((x1,x2)=(y1,y2)))) w)∧
  (∀(x1 x2 y1 y2:Int) (w:World),Sem.run P (binOp .neq t (.agg #[.int .i64 x1,.int .i64 x2]) (.agg #[.int .i64 y1,.int .i64 y2])) w= .ok (.bool (!decide ((x1,x2)=(y1,y2)))) w):=by
 unfold eqB at h;split at h
 ·rename_i F i' hu hi'
  rw[hi']at hs;have hs2:i'.size=2:=by simpa using hs
  simp only[Bool.and_eq_true,Bool.not_eq_true',beq_iff_eq]at h
  obtain⟨⟨⟨h1,h2⟩,h3⟩,h4⟩:=h;have hF:P.fieldsOf t=F:=by unfold Program.fieldsOf;rw[hu]
  have hu':P.underlying t=some (.struct (P.fieldsOf t)):=by rw[hF];exact hu
  have run:∀(x1 x2 y1 y2:Int) (w:World),_:=fun x1 x2 y1 y2 w=>run_equalIn_struct w 9999 t (([(IntKind.i64,x1),(IntKind.i64,x2)]:List (IntKind×Int)).map fun q=>Value.int q.1 q.2).toArray (([(IntKind.i64,y1),(IntKind.i64,y2)]:List (IntKind×Int)).map fun q=>Value.int q.1 q.2).toArray hu' h3
  have hq:∀x1 x2 y1 y2:Int,([x1,x2]==[y1,y2])=decide ((x1,x2)=(y1,y2)):=fun x1 x2 y1 y2=>by
   rw[Bool.eq_iff_iff];simp
  refine⟨fun op a b x1 x2 y1 y2 w=>run_eqGuard_agg w op t a b _ _ h4,fun x1 x2 y1 y2 w=>?_,fun x1 x2 y1 y2 w=>?_⟩
  ·have r:=run x1 x2 y1 y2 w
   rw[hF]at r;have r2:=r.trans (QbU (P:=P) 9997 w [(.i64,x1),(.i64,x2)] [(.i64,y1),(.i64,y2)] rfl F.toList 0 h1 (by simp only[List.length_cons,List.length_nil];omega))
   simp only[List.drop_zero,List.map_cons,List.map_nil,hq]at r2
   rw[run_eql_struct,r2];simp[Result.andThen]
  ·have r:=run x1 x2 y1 y2 w
   rw[hF]at r;have r2:=r.trans (QbU (P:=P) 9997 w [(.i64,x1),(.i64,x2)] [(.i64,y1),(.i64,y2)] rfl F.toList 0 h1 (by simp only[List.length_cons,List.length_nil];omega))
   simp only[List.drop_zero,List.map_cons,List.map_nil,hq]at r2
   rw[run_neq_struct,r2];simp[Result.andThen]
 ·cases h
theorem QzR{w:World}{blk:Nat}{d:Array (Int×Int)}(h:HoldsK QaK 2 w blk 0 d){i:Nat}(hi:i<d.size):w.cell? ⟨blk,i*2,none⟩=some (.int .i64 (d[i]!).1)∧w.cell? ⟨blk,i*2+1,none⟩=some (.int .i64 (d[i]!).2):=by
 have h0:=HoldsK.cells h Qnb hi 0 _ rfl
 have h1:=HoldsK.cells h Qnb hi 1 _ rfl
 simp only[Addr.add_lit,Nat.zero_add,Nat.add_zero]at h0 h1
 exact⟨h0,h1⟩
theorem QCs{w:World}{blk:Nat}{d:Array (Int×Int)}(h:HoldsK QaK 2 w blk 0 d){i:Nat}(hi:i<d.size):w.frozen? ⟨blk,i*2,none⟩=false∧w.frozen? ⟨blk,i*2+1,none⟩=false:=by
 have h0:=(h (i*2) (by rw[size_flatK];omega)).2
 have h1:=(h (i*2+1) (by rw[size_flatK];omega)).2
 simp only[Nat.zero_add]at h0 h1
 exact⟨h0,h1⟩
theorem Qf2{w:World}{q blk:Nat}{d:Array (Int×Int)}:(putRowK QaK 2 (Sort.ahead w q) blk 0 d).drew=putRowK QaK 2 (Sort.ahead w (q+1)) blk 0 d:=putRowK_drewN QaK 2 w q 1 blk 0 d
theorem Qup{dk:Array (Int×Int)}{kk:Nat}{u:Int×Int}(h:kk<dk.size):setMany (flatK QaK 2 dk) (kk*2) (QaK u)=flatK QaK 2 (dk.setIfInBounds kk u):=by
 apply Array.ext
 ·simp
 ·intro t h1 h2
  have ht:t<dk.size*2:=by simpa using h1
  have e1:(setMany (flatK QaK 2 dk) (kk*2) (QaK u))[t]! =(setMany (flatK QaK 2 dk) (kk*2) (QaK u))[t]:=getElem!_pos _ t h1
  have e2:(flatK QaK 2 (dk.setIfInBounds kk u))[t]! =(flatK QaK 2 (dk.setIfInBounds kk u))[t]:=getElem!_pos _ t h2
  rw[←e1,←e2,get_setMany _ _ _ _ (by simpa using ht),get_flatK QaK 2 dk t ht,get_flatK QaK 2 (dk.setIfInBounds kk u) t (by simpa using ht)]
  have hs:(dk.setIfInBounds kk u)[t/2]! =if t/2=kk then u else dk[t/2]! :=by
   have h3:t/2<dk.size:=by omega
   rw[getElem!_pos (dk.setIfInBounds kk u) (t/2) (by simpa using h3),getElem!_pos dk (t/2) h3,Array.getElem_setIfInBounds (by simpa using h3)]
   by_cases e:kk=t/2
   ·rw[if_pos e,if_pos e.symm]
   ·rw[if_neg e,if_neg (fun h=>e h.symm)]
  rw[hs]
  by_cases hb:kk*2≤t∧t<kk*2+(QaK u).length
  ·rw[if_pos hb]
   have hb2:t<kk*2+2:=hb.2
   rw[if_pos (by omega),show t-kk*2=t%2 by omega]
  ·rw[if_neg hb]
   have hb2:¬(kk*2≤t∧t<kk*2+2):=hb
   rw[if_neg (by omega)]
theorem QsI{w:World}{q blk kk:Nat}{dk:Array (Int×Int)}{u1 u2:Int}(h:kk<dk.size):
  (((putRowK QaK 2 (Sort.ahead w q) blk 0 dk).setCell ⟨blk,kk*2,none⟩ (.int .i64 u1)).setCell ⟨blk,kk*2+1,none⟩ (.int .i64 u2)).drew=putRowK QaK 2 (Sort.ahead w (q+1)) blk 0 (dk.setIfInBounds kk (u1,u2)):=by
 have e:=setCells_putRow (Sort.ahead w q) blk 0 (QaK (u1,u2)) (kk*2) (flatK QaK 2 dk) (by rw[size_flatK];show kk*2+2≤_;omega)
 rw[Qup h]at e;rw[←Qf2];refine congrArg World.drew ?_
 rw[Nat.zero_add]at e;exact e
theorem Qng{d:Array (Int×Int)}{j:Nat}(h:j<d.size):(flatK QaK 2 d)[j*2]! = .int .i64 (d[j]!).1∧(flatK QaK 2 d)[j*2+1]! = .int .i64 (d[j]!).2:=by
 rw[get_flatK QaK 2 d (j*2) (by omega),get_flatK QaK 2 d (j*2+1) (by omega),show j*2/2=j by omega,show(j*2+1)/2=j by omega,show j*2%2=0 by omega,show(j*2+1)%2=1 by omega]
 exact⟨rfl,rfl⟩
def CdF(d:Array (Int×Int))(F:Array Value):Prop:=F.size=d.size*2∧∀j,j<(compactUpTo d d.size).length→F[j*2]! = .int .i64 ((compactUpTo d d.size)[j]!).1∧F[j*2+1]! = .int .i64 ((compactUpTo d d.size)[j]!).2
theorem QjN{w:World}(ty:TypeId)(b o n c:Nat)(hn:0<n)(hc:∀j,j<n*2→(w.cell? ⟨b,o+j,none⟩).isSome=true∧w.frozen? ⟨b,o+j,none⟩=false):
  (Builtin.clear_ #[35] ty #[.slice (some ⟨b,o,none⟩) n c]).run Tryz.prog w= .ok (.tuple #[]) (w.setCells b o (List.replicate (n*2) (.int .i64 0))):=by
 have hzc:(Builtin.zeroCells #[Value.int .i64 0,Value.int .i64 0] n).toList=List.replicate (n*2) (Value.int .i64 0):=by
  simp[Builtin.zeroCells]
  apply List.ext_getElem
  ·simp
  ·intro i h1 h2
   have:i%2=0∨i%2=1:=by omega
   rcases this with e|e<;>simp[e]
 have hst:=run_storeCells_cells (P:=Tryz.prog) b o (List.replicate (n*2) (.int .i64 0)) 0 w (fun j hj=>by simpa using(hc j (by simpa using hj)).1) (fun j hj=>by simpa using(hc j (by simpa using hj)).2) (by intro v hv';rw[List.eq_of_mem_replicate hv'];rfl)
 simp only[Nat.add_zero]at hst
 obtain⟨m,rfl⟩:∃m,n=m+1:=⟨n-1,by omega⟩
 have hz:∀w,(zeroValue 57).run Tryz.prog w= .ok (.agg #[.int .i64 0,.int .i64 0]) w:=fun w=>by simp
 have hcz:(Value.agg #[Value.int .i64 0,Value.int .i64 0]).cells=#[Value.int .i64 0,Value.int .i64 0]:=rfl
 simp[Builtin.clear_,hz,hcz,hzc,hst]
theorem QzQ(blk cap:Nat)(d:Array (Int×Int))(w:World)(hH:HoldsK QaK 2 w blk 0 d)(hsz:d.size≤9223372036854775807)(hcap:d.size≤cap):
  Calls Tryz.prog 190 #[.slice (some ⟨blk,0,none⟩) d.size cap] w fun e w'=>e= .returned (.slice (some ⟨blk,0,none⟩) (compactUpTo d d.size).length cap)∧∃q F,w'=putRow id (Sort.ahead w q) blk 0 F∧CdF d F:=by
 have same:∀q,(∀j,j<d.size→keeps d j=true)→(compactUpTo d d.size).length=d.size∧w.drewN q=putRow id (Sort.ahead w q) blk 0 (flatK QaK 2 d)∧CdF d (flatK QaK 2 d):=by
  intro q hall;have e:compactUpTo d d.size=d.toList:=by rw[compactUpTo_all d _ hall,range_map_get]
  refine⟨by rw[e];simp,(putRowK_self QaK 2 (Sort.ahead w q) blk 0 d (holdsK_ahead QaK 2 w q blk 0 d hH)).symm,?_⟩
  refine⟨by simp,fun j hj=>?_⟩
  rw[e]at hj ⊢;rw[Array.length_toList]at hj;have hg:d.toList[j]! =d[j]! :=by rw[getElem!_pos d j hj,getElem!_pos d.toList j (by simpa using hj)];simp
  rw[hg];exact Qng hj
 have HS:Aside (∀q,(∀j,j<d.size→keeps d j=true)→(compactUpTo d d.size).length=d.size∧w.drewN q=putRow id (Sort.ahead w q) blk 0 (flatK QaK 2 d)∧CdF d (flatK QaK 2 d)):=same
 clear same
 by_cases h2:d.size<2
 ·have HH:Aside (HoldsK QaK 2 w blk 0 d):=hH
  clear hH;go_enter Tryz.func190,Tryz.ntmps190
  go_wp2
  go_ret
  obtain⟨e1,e2,e3⟩:=HS.out 0 (fun j hj=>keeps_lt_one d j (by omega))
  exact⟨by rw[e1];rfl,0,_,e2,e3⟩
 ·go_enter Tryz.func190,Tryz.ntmps190
  go_wp2
  go_loopg [3] d.size (fun g s3 wr=>∃k q:Nat,1≤k∧k≤d.size∧d.size-k≤g∧s3= .int .i64 k∧wr=w.drewN q∧∀j,j<k→keeps d j=true)
  case atStart=>exact⟨1,0,Nat.le_refl _,by omega,by omega,rfl,rfl,keeps_lt_one d⟩
  case round=>
   obtain⟨k,q,hk1,hk,hg,rfl,rfl,hall⟩:=hrel
   by_cases hlt:k<d.size
   ·have mixed:=Qe
    obtain⟨hgd,heq,hne⟩:=Qq0 (P:=Tryz.prog) (t:=57) (by kernel_rfl) (by kernel_rfl)
    obtain⟨ck,ck'⟩:=QzR hH hlt;obtain⟨cj,cj'⟩:=QzR hH (show k-1<d.size by omega)
    have A:Aside (∀j,j<k→keeps d j=true):=hall
    have HH:Aside (HoldsK QaK 2 w blk 0 d):=hH
    clear hall hH;generalize hx:d[k]! =x at ck ck';generalize hy:d[k-1]! =y at cj cj';have B:Aside (d[k]! =x∧d[k-1]! =y):=⟨hx,hy⟩
    clear hx hy;obtain⟨x1,x2⟩:=x;obtain⟨y1,y2⟩:=y;dsimp only at ck ck' cj cj'
    by_cases hdup:(x1,x2)=(y1,y2)
    ·obtain⟨rfl,rfl⟩:=Prod.mk.inj hdup
     go_wp2_with fail
     go_region_o
     go_wp2
     clear ck ck' cj cj';go_loopg [3,5] d.size (fun g s3 s5 wr=>∃(kk k2 q2:Nat) (dk:Array (Int×Int)),s3= .int .i64 kk∧s5= .int .i64 k2∧1≤k2∧k+k2≤d.size∧d.size-(k+k2)≤g∧wr=putRowK QaK 2 (Sort.ahead w q2) blk 0 dk∧CompInv d (k+k2) kk dk)
     case atStart=>exact⟨k,1,q+1,d,rfl,rfl,Nat.le_refl _,by omega,by omega,(putRowK_self QaK 2 (Sort.ahead w (q+1)) blk 0 d (holdsK_ahead QaK 2 w (q+1) blk 0 d HH.out)).symm,CompInv.start A.out (keeps_neg (by omega) (by rw[B.out.1,B.out.2]))⟩
     case round=>
      obtain⟨kk,k2,q2,dk,rfl,rfl,h1,hle,hg2,hwr,hI⟩:=hrel;have hkk:=hI.lt
      have hds:=hI.size
      have hHk:HoldsK QaK 2 wr blk 0 dk:=by rw[hwr];exact holdsK_putRowK QaK 2 _ blk 0 d dk (holdsK_ahead QaK 2 w q2 blk 0 d HH.out) hds
      have W2:Aside (wr=putRowK QaK 2 (Sort.ahead w q2) blk 0 dk):=hwr
      have I2:Aside (CompInv d (k+k2) kk dk):=hI
      clear hwr
      by_cases hlt2:k+k2<d.size
      ·obtain⟨cm,cm'⟩:=QzR hHk (show k+k2<dk.size by omega)
       obtain⟨cp,cp'⟩:=QzR hHk (show k+k2-1<dk.size by omega)
       obtain⟨ck,ck'⟩:=QzR hHk (show kk<dk.size by omega)
       obtain⟨fk,fk'⟩:=QCs hHk (show kk<dk.size by omega)
       rw[hI.high (k+k2) (by omega),show(k+k2)*2=k*2+k2*2 by omega]at cm cm'
       rw[hI.high (k+k2-1) (by omega),show(k+k2-1)*2=k*2+(k2-1)*2 by omega]at cp cp'
       clear hHk hI;generalize hu:d[k+k2]! =u at cm cm';generalize hv:d[k+k2-1]! =v at cp cp';generalize dk[kk]! =old at ck ck';have C:Aside (d[k+k2]! =u∧d[k+k2-1]! =v):=⟨hu,hv⟩
       clear hu hv;obtain⟨u1,u2⟩:=u;obtain⟨v1,v2⟩:=v;dsimp only at cm cm' cp cp'
       by_cases huv:(u1,u2)=(v1,v2)
       ·obtain⟨rfl,rfl⟩:=Prod.mk.inj huv
        go_wp2_with fail
        go_region_o
        go_wp2
        go_roundg (d.size-(k+(k2+1)))
        case measure=>omega
        case rel=>exact⟨kk,k2+1,q2+1,dk,rfl,by go_num,by omega,by omega,Nat.le_refl _,by rw[W2.out,Qf2],I2.out.skip (keeps_neg (by omega) (by rw[C.out.1,C.out.2]))⟩
       ·go_wp2_with fail
        go_region_o
        go_wp2
        go_roundg (d.size-(k+(k2+1)))
        case measure=>omega
        case rel=>
         refine⟨kk+1,k2+1,q2+1,dk.setIfInBounds kk (u1,u2),by go_num,by go_num,by omega,by omega,Nat.le_refl _,?_,by have:=I2.out.keep hlt2 (keeps_pos (by rw[C.out.1,C.out.2];exact huv));rwa [C.out.1]at this⟩
         rw[W2.out];exact QsI (by omega)
      ·have hend:k+k2=d.size:=by omega
       have hcl:=fun ty=>QjN (w:=wr) ty blk (kk*2) (d.size-kk) (cap-kk) (by omega) (fun j hj=>by
        have:=hHk (kk*2+j) (by rw[size_flatK];omega)
        rw[Nat.zero_add]at this;exact⟨by rw[this.1];rfl,this.2⟩)
       clear hHk hI;go_wp2
       go_ret
       have hI:=I2.out
       rw[hend]at hI;refine⟨by rw[hI.len];rfl,q2,setMany (flatK QaK 2 dk) (kk*2) (List.replicate ((d.size-kk)*2) (.int .i64 0)),?_,by simp[hds],fun j hj=>?_⟩
       ·rw[W2.out]
        have:=setCells_putRow (Sort.ahead w q2) blk 0 (List.replicate ((d.size-kk)*2) (.int .i64 0)) (kk*2) (flatK QaK 2 dk) (by rw[size_flatK,List.length_replicate];omega)
        rw[Nat.zero_add]at this;exact this
       ·rw[hI.len]at hj
        have hl:=hI.low j hj
        have hg:(compactUpTo d d.size)[j]! =dk[j]! :=by
         rw[List.getElem!_eq_getElem?_getD,hl];rfl
        rw[hg,get_setMany _ _ _ _ (by rw[size_flatK];omega),get_setMany _ _ _ _ (by rw[size_flatK];omega),if_neg (by omega),if_neg (by omega)]
        exact Qng (by omega)
    ·go_wp2_with fail
     go_region_o
     go_wp2
     go_roundg (d.size-(k+1))
     case measure=>omega
     case rel=>
      refine⟨k+1,q+1,by omega,by omega,Nat.le_refl _,by go_num,rfl,fun j hj=>?_⟩
      by_cases e:j=k
      ·subst e
       exact keeps_pos (by rw[B.out.1,B.out.2];exact hdup)
      ·exact A.out j (by omega)
   ·have:k=d.size:=by omega
    subst this;have HH:Aside (HoldsK QaK 2 w blk 0 d):=hH
    clear hH;go_wp2
    go_ret
    obtain⟨e1,e2,e3⟩:=HS.out q hall;exact⟨by rw[e1];rfl,q,_,e2,e3⟩
theorem Qxa(a:Option Addr)(cap:Nat)(w:World):
  Calls Tryz.prog 190 #[.slice a 0 cap] w fun e w'=>e= .returned (.slice a 0 cap)∧w'=w:=by
 go_enter Tryz.func190,Tryz.ntmps190
 go_wp2
 go_ret
 exact⟨rfl,rfl⟩
end Go.Own
