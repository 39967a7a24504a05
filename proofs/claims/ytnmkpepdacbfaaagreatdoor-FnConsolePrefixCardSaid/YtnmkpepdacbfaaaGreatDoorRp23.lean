/- Contracts. Conditions: as stated. -/
import Derived.Test.YtnmkpepdacbfaaaGreatDoorRp16
import Derived.Shelf.SlSortCmp.KitK
import Derived.Shelf.RegionOpenPlain
import Derived.Deep.Draws
import Derived.Lib.Walk
import Derived.Lib.SliceRun
import Derived.Lib.SlicesCompact
import Derived.Lib.RowBridge
set_option linter.all false
set_option maxRecDepth 1000000
set_option maxHeartbeats 4000000
namespace Go.Own
open Go Go.Proofs Go.RowKit Go.Sort Go.Shelf
section
open Go.Lib
def Qba(d:Int×Int):List Value:=[.int .i64 d.1,.int .i64 d.2]
theorem Qqb(d:Int×Int):(Qba d).length=2:=rfl
theorem QxK(d:Int×Int):∀v∈Qba d,v.oneCell'=true:=by
 intro v hv;simp[Qba]at hv
 rcases hv with rfl|rfl<;>rfl
theorem Qul{P:Program}{t:TypeId}(hs:(P.info? t).map (·.size)=some 2)(h:eqB P t=true):
  (∀(op:BinOp) (a b:Operand) (x1 x2 y1 y2:Int) (w:World),Sem.run P (eqGuard op t a b (.agg #[.int .i64 x1,.int .i64 x2]) (.agg #[.int .i64 y1,.int .i64 y2])) w= .ok () w)∧
  (∀(x1 x2 y1 y2:Int) (w:World),Sem.run P (binOp .eql t (.agg #[.int .i64 x1,.int .i64 x2]) (.agg #[.int .i64 y1,.int .i64 y2])) w= .ok (.bool (decide ((x1,x2)=(y1,y2)))) w)∧
  (∀(x1 x2 y1 y2:Int) (w:World),Sem.run P (binOp .neq t (.agg #[.int .i64 x1,.int .i64 x2]) (.agg #[.int .i64 y1,.int .i64 y2])) w= .ok (.bool (!decide ((x1,x2)=(y1,y2)))) w):=by
 unfold eqB at h;split at h
 ·rename_i F i' hu hi'
  rw[hi']at hs;have hs2:i'.size=2:=by simpa using hs
  simp only[KB,Ko,Kh]at h
  obtain⟨⟨⟨h1,h2⟩,h3⟩,h4⟩:=h;have hF:P.fieldsOf t=F:=by unfold Program.fieldsOf;rw[hu]
  have hu':P.underlying t=some (.struct (P.fieldsOf t)):=by rw[hF];exact hu
  have run:∀(x1 x2 y1 y2:Int) (w:World),_:=fun x1 x2 y1 y2 w=>run_equalIn_struct w 9999 t (([(IntKind.i64,x1),(IntKind.i64,x2)]:List (IntKind×Int)).map fun q=>Value.int q.1 q.2).toArray (([(IntKind.i64,y1),(IntKind.i64,y2)]:List (IntKind×Int)).map fun q=>Value.int q.1 q.2).toArray hu' h3
  have hq:∀x1 x2 y1 y2:Int,([x1,x2]==[y1,y2])=decide ((x1,x2)=(y1,y2)):=fun x1 x2 y1 y2=>by
   rw[Kp];simp
  refine⟨fun op a b x1 x2 y1 y2 w=>run_eqGuard_agg w op t a b _ _ h4,fun x1 x2 y1 y2 w=>?_,fun x1 x2 y1 y2 w=>?_⟩
  ·have r:=run x1 x2 y1 y2 w
   rw[hF]at r;have r2:=r.trans (Qch (P:=P) 9997 w [(.i64,x1),(.i64,x2)] [(.i64,y1),(.i64,y2)] rfl F.toList 0 h1 (by simp only[List.length_cons,Yb];omega))
   simp only[K1,List.map_cons,List.map_nil,hq]at r2
   rw[run_eql_struct,r2];simp[Result.andThen]
  ·have r:=run x1 x2 y1 y2 w
   rw[hF]at r;have r2:=r.trans (Qch (P:=P) 9997 w [(.i64,x1),(.i64,x2)] [(.i64,y1),(.i64,y2)] rfl F.toList 0 h1 (by simp only[List.length_cons,Yb];omega))
   simp only[K1,List.map_cons,List.map_nil,hq]at r2
   rw[run_neq_struct,r2];simp[Result.andThen]
 ·cases h
theorem QDk{w:World}{blk:Nat}{d:Array (Int×Int)}(h:HoldsK Qba 2 w blk 0 d){i:Nat}(hi:i<d.size):w.cell? ⟨blk,i*2,none⟩=some (.int .i64 (d[i]!).1)∧w.cell? ⟨blk,i*2+1,none⟩=some (.int .i64 (d[i]!).2):=by
 have h0:=HoldsK.cells h Qqb hi 0 _ rfl
 have h1:=HoldsK.cells h Qqb hi 1 _ rfl
 simp only[Addr.add_lit,Ya,Nat.add_zero]at h0 h1
 exact⟨h0,h1⟩
theorem QFS{w:World}{blk:Nat}{d:Array (Int×Int)}(h:HoldsK Qba 2 w blk 0 d){i:Nat}(hi:i<d.size):w.frozen? ⟨blk,i*2,none⟩=false∧w.frozen? ⟨blk,i*2+1,none⟩=false:=by
 have h0:=(h (i*2) (by rw[size_flatK];omega)).2
 have h1:=(h (i*2+1) (by rw[size_flatK];omega)).2
 simp only[Ya]at h0 h1
 exact⟨h0,h1⟩
theorem Qhs{w:World}{q blk:Nat}{d:Array (Int×Int)}:(putRowK Qba 2 (Sort.ahead w q) blk 0 d).drew=putRowK Qba 2 (Sort.ahead w (q+1)) blk 0 d:=putRowK_drewN Qba 2 w q 1 blk 0 d
theorem QxO{dk:Array (Int×Int)}{kk:Nat}{u:Int×Int}(h:kk<dk.size):setMany (flatK Qba 2 dk) (kk*2) (Qba u)=flatK Qba 2 (dk.setIfInBounds kk u):=by
 apply Array.ext
 ·simp
 ·intro t h1 h2
  have ht:t<dk.size*2:=by simpa using h1
  have e1:(setMany (flatK Qba 2 dk) (kk*2) (Qba u))[t]! =(setMany (flatK Qba 2 dk) (kk*2) (Qba u))[t]:=getElem!_pos _ t h1
  have e2:(flatK Qba 2 (dk.setIfInBounds kk u))[t]! =(flatK Qba 2 (dk.setIfInBounds kk u))[t]:=getElem!_pos _ t h2
  rw[←e1,←e2,get_setMany _ _ _ _ (by simpa using ht),get_flatK Qba 2 dk t ht,get_flatK Qba 2 (dk.setIfInBounds kk u) t (by simpa using ht)]
  have hs:(dk.setIfInBounds kk u)[t/2]! =if t/2=kk then u else dk[t/2]! :=by
   have h3:t/2<dk.size:=by omega
   rw[getElem!_pos (dk.setIfInBounds kk u) (t/2) (by simpa using h3),getElem!_pos dk (t/2) h3,Array.getElem_setIfInBounds (by simpa using h3)]
   by_cases e:kk=t/2
   ·rw[if_pos e,if_pos e.symm]
   ·rw[if_neg e,if_neg (fun h=>e h.symm)]
  rw[hs]
  by_cases hb:kk*2≤t∧t<kk*2+(Qba u).length
  ·rw[if_pos hb]
   have hb2:t<kk*2+2:=hb.2
   rw[if_pos (by omega),show t-kk*2=t%2 by omega]
  ·rw[if_neg hb]
   have hb2:¬(kk*2≤t∧t<kk*2+2):=hb
   rw[if_neg (by omega)]
theorem Qv3{w:World}{q blk kk:Nat}{dk:Array (Int×Int)}{u1 u2:Int}(h:kk<dk.size):
  (((putRowK Qba 2 (Sort.ahead w q) blk 0 dk).setCell ⟨blk,kk*2,none⟩ (.int .i64 u1)).setCell ⟨blk,kk*2+1,none⟩ (.int .i64 u2)).drew=putRowK Qba 2 (Sort.ahead w (q+1)) blk 0 (dk.setIfInBounds kk (u1,u2)):=by
 have e:=setCells_putRow (Sort.ahead w q) blk 0 (Qba (u1,u2)) (kk*2) (flatK Qba 2 dk) (by rw[size_flatK];show kk*2+2≤_;omega)
 rw[QxO h]at e;rw[←Qhs];refine congrArg World.drew ?_
 rw[Ya]at e;exact e
theorem Qqj{d:Array (Int×Int)}{j:Nat}(h:j<d.size):(flatK Qba 2 d)[j*2]! = .int .i64 (d[j]!).1∧(flatK Qba 2 d)[j*2+1]! = .int .i64 (d[j]!).2:=by
 rw[get_flatK Qba 2 d (j*2) (by omega),get_flatK Qba 2 d (j*2+1) (by omega),show j*2/2=j by omega,show(j*2+1)/2=j by omega,show j*2%2=0 by omega,show(j*2+1)%2=1 by omega]
 exact⟨rfl,rfl⟩
def CdF(d:Array (Int×Int))(F:Array Value):Prop:=F.size=d.size*2∧∀j,j<(compactUpTo d d.size).length→F[j*2]! = .int .i64 ((compactUpTo d d.size)[j]!).1∧F[j*2+1]! = .int .i64 ((compactUpTo d d.size)[j]!).2
theorem Ql1{w:World}(ty:TypeId)(b o n c:Nat)(hn:0<n)(hc:∀j,j<n*2→(w.cell? ⟨b,o+j,none⟩).isSome=true∧w.frozen? ⟨b,o+j,none⟩=false):
  (Builtin.clear_ #[35] ty #[.slice (some ⟨b,o,none⟩) n c]).run Tryz.prog w= .ok (.tuple #[]) (w.setCells b o (List.replicate (n*2) (.int .i64 0))):=by
 have hzc:(Builtin.zeroCells #[Value.int .i64 0,Value.int .i64 0] n).toList=List.replicate (n*2) (Value.int .i64 0):=by
  simp[Builtin.zeroCells]
  apply List.ext_getElem
  ·simp
  ·intro i h1 h2
   have:i%2=0∨i%2=1:=by omega
   rcases this with e|e<;>simp[e]
 have hst:=run_storeCells_cells (P:=Tryz.prog) b o (List.replicate (n*2) (.int .i64 0)) 0 w (fun j hj=>by simpa using(hc j (by simpa using hj)).1) (fun j hj=>by simpa using(hc j (by simpa using hj)).2) (by intro v hv';rw[List.eq_of_mem_replicate hv'];rfl)
 simp only[Nat.add_zero]at hst
 obtain⟨m,rfl⟩:∃m,n=m+1:=⟨n-1,by omega⟩
 have hz:∀w,(zeroValue 57).run Tryz.prog w= .ok (.agg #[.int .i64 0,.int .i64 0]) w:=fun w=>by simp
 have hcz:(Value.agg #[Value.int .i64 0,Value.int .i64 0]).cells=#[Value.int .i64 0,Value.int .i64 0]:=rfl
 simp[Builtin.clear_,hz,hcz,hzc,hst]
theorem QDj(blk cap:Nat)(d:Array (Int×Int))(w:World)(hH:HoldsK Qba 2 w blk 0 d)(hsz:d.size≤9223372036854775807)(hcap:d.size≤cap):
  Calls Tryz.prog 190 #[.slice (some ⟨blk,0,none⟩) d.size cap] w fun e w'=>e= .returned (.slice (some ⟨blk,0,none⟩) (compactUpTo d d.size).length cap)∧∃q F,w'=putRow id (Sort.ahead w q) blk 0 F∧CdF d F:=by
 have same:∀q,(∀j,j<d.size→keeps d j=true)→(compactUpTo d d.size).length=d.size∧w.drewN q=putRow id (Sort.ahead w q) blk 0 (flatK Qba 2 d)∧CdF d (flatK Qba 2 d):=by
  intro q hall;have e:compactUpTo d d.size=d.toList:=by rw[compactUpTo_all d _ hall,range_map_get]
  refine⟨by rw[e];simp,(putRowK_self Qba 2 (Sort.ahead w q) blk 0 d (holdsK_ahead Qba 2 w q blk 0 d hH)).symm,?_⟩
  refine⟨by simp,fun j hj=>?_⟩
  rw[e]at hj ⊢;rw[YN]at hj;have hg:d.toList[j]! =d[j]! :=by rw[getElem!_pos d j hj,getElem!_pos d.toList j (by simpa using hj)];simp
  rw[hg];exact Qqj hj
 have HS:Aside (∀q,(∀j,j<d.size→keeps d j=true)→(compactUpTo d d.size).length=d.size∧w.drewN q=putRow id (Sort.ahead w q) blk 0 (flatK Qba 2 d)∧CdF d (flatK Qba 2 d)):=same
 clear same
 by_cases h2:d.size<2
 ·have HH:Aside (HoldsK Qba 2 w blk 0 d):=hH
  clear hH;go_enter Tryz.func190,Tryz.ntmps190
  go_wp2
  go_ret
  obtain⟨e1,e2,e3⟩:=HS.out 0 (fun j hj=>keeps_lt_one d j (by omega))
  exact⟨by rw[e1];rfl,0,_,e2,e3⟩
 ·go_enter Tryz.func190,Tryz.ntmps190
  go_wp2
  go_loopg [3] d.size (fun g s3 wr=>∃k q:Nat,1≤k∧k≤d.size∧d.size-k≤g∧s3= .int .i64 k∧wr=w.drewN q∧∀j,j<k→keeps d j=true)
  case atStart=>exact⟨1,0,KP _,by omega,by omega,rfl,rfl,keeps_lt_one d⟩
  case round=>
   obtain⟨k,q,hk1,hk,hg,rfl,rfl,hall⟩:=hrel
   by_cases hlt:k<d.size
   ·have mixed:=Qc
    obtain⟨hgd,heq,hne⟩:=Qul (P:=Tryz.prog) (t:=57) kR kR
    obtain⟨ck,ck'⟩:=QDk hH hlt;obtain⟨cj,cj'⟩:=QDk hH (show k-1<d.size by omega)
    have A:Aside (∀j,j<k→keeps d j=true):=hall
    have HH:Aside (HoldsK Qba 2 w blk 0 d):=hH
    clear hall hH;generalize hx:d[k]! =x at ck ck';generalize hy:d[k-1]! =y at cj cj';have B:Aside (d[k]! =x∧d[k-1]! =y):=⟨hx,hy⟩
    clear hx hy;obtain⟨x1,x2⟩:=x;obtain⟨y1,y2⟩:=y;dsimp only at ck ck' cj cj'
    by_cases hdup:(x1,x2)=(y1,y2)
    ·obtain⟨rfl,rfl⟩:=Prod.mk.inj hdup
     go_wp2_with fail
     go_region_o
     go_wp2
     clear ck ck' cj cj';go_loopg [3,5] d.size (fun g s3 s5 wr=>∃(kk k2 q2:Nat) (dk:Array (Int×Int)),s3= .int .i64 kk∧s5= .int .i64 k2∧1≤k2∧k+k2≤d.size∧d.size-(k+k2)≤g∧wr=putRowK Qba 2 (Sort.ahead w q2) blk 0 dk∧CompInv d (k+k2) kk dk)
     case atStart=>exact⟨k,1,q+1,d,rfl,rfl,KP _,by omega,by omega,(putRowK_self Qba 2 (Sort.ahead w (q+1)) blk 0 d (holdsK_ahead Qba 2 w (q+1) blk 0 d HH.out)).symm,CompInv.start A.out (keeps_neg (by omega) (by rw[B.out.1,B.out.2]))⟩
     case round=>
      obtain⟨kk,k2,q2,dk,rfl,rfl,h1,hle,hg2,hwr,hI⟩:=hrel;have hkk:=hI.lt
      have hds:=hI.size
      have hHk:HoldsK Qba 2 wr blk 0 dk:=by rw[hwr];exact holdsK_putRowK Qba 2 _ blk 0 d dk (holdsK_ahead Qba 2 w q2 blk 0 d HH.out) hds
      have W2:Aside (wr=putRowK Qba 2 (Sort.ahead w q2) blk 0 dk):=hwr
      have I2:Aside (CompInv d (k+k2) kk dk):=hI
      clear hwr
      by_cases hlt2:k+k2<d.size
      ·obtain⟨cm,cm'⟩:=QDk hHk (show k+k2<dk.size by omega)
       obtain⟨cp,cp'⟩:=QDk hHk (show k+k2-1<dk.size by omega)
       obtain⟨ck,ck'⟩:=QDk hHk (show kk<dk.size by omega)
       obtain⟨fk,fk'⟩:=QFS hHk (show kk<dk.size by omega)
       rw[hI.high (k+k2) (by omega),show(k+k2)*2=k*2+k2*2 by omega]at cm cm'
       rw[hI.high (k+k2-1) (by omega),show(k+k2-1)*2=k*2+(k2-1)*2 by omega]at cp cp'
       clear hHk hI;generalize hu:d[k+k2]! =u at cm cm';generalize hv:d[k+k2-1]! =v at cp cp';generalize dk[kk]! =old at ck ck';have C:Aside (d[k+k2]! =u∧d[k+k2-1]! =v):=⟨hu,hv⟩
       clear hu hv;obtain⟨u1,u2⟩:=u;obtain⟨v1,v2⟩:=v;dsimp only at cm cm' cp cp'
       by_cases huv:(u1,u2)=(v1,v2)
       ·obtain⟨rfl,rfl⟩:=Prod.mk.inj huv
        go_wp2_with fail
        go_region_o
        go_wp2
        go_roundg (d.size-(k+(k2+1)))
        case measure=>omega
        case rel=>exact⟨kk,k2+1,q2+1,dk,rfl,by go_num,by omega,by omega,KP _,by rw[W2.out,Qhs],I2.out.skip (keeps_neg (by omega) (by rw[C.out.1,C.out.2]))⟩
       ·go_wp2_with fail
        go_region_o
        go_wp2
        go_roundg (d.size-(k+(k2+1)))
        case measure=>omega
        case rel=>
         refine⟨kk+1,k2+1,q2+1,dk.setIfInBounds kk (u1,u2),by go_num,by go_num,by omega,by omega,KP _,?_,by have:=I2.out.keep hlt2 (keeps_pos (by rw[C.out.1,C.out.2];exact huv));rwa [C.out.1]at this⟩
         rw[W2.out];exact Qv3 (by omega)
      ·have hend:k+k2=d.size:=by omega
       have hcl:=fun ty=>Ql1 (w:=wr) ty blk (kk*2) (d.size-kk) (cap-kk) (by omega) (fun j hj=>by
        have:=hHk (kk*2+j) (by rw[size_flatK];omega)
        rw[Ya]at this;exact⟨by rw[this.1];rfl,this.2⟩)
       clear hHk hI;go_wp2
       go_ret
       have hI:=I2.out
       rw[hend]at hI;refine⟨by rw[hI.len];rfl,q2,setMany (flatK Qba 2 dk) (kk*2) (List.replicate ((d.size-kk)*2) (.int .i64 0)),?_,by simp[hds],fun j hj=>?_⟩
       ·rw[W2.out]
        have:=setCells_putRow (Sort.ahead w q2) blk 0 (List.replicate ((d.size-kk)*2) (.int .i64 0)) (kk*2) (flatK Qba 2 dk) (by rw[size_flatK,List.length_replicate];omega)
        rw[Ya]at this;exact this
       ·rw[hI.len]at hj
        have hl:=hI.low j hj
        have hg:(compactUpTo d d.size)[j]! =dk[j]! :=by
         rw[List.getElem!_eq_getElem?_getD,hl];rfl
        rw[hg,get_setMany _ _ _ _ (by rw[size_flatK];omega),get_setMany _ _ _ _ (by rw[size_flatK];omega),if_neg (by omega),if_neg (by omega)]
        exact Qqj (by omega)
    ·go_wp2_with fail
     go_region_o
     go_wp2
     go_roundg (d.size-(k+1))
     case measure=>omega
     case rel=>
      refine⟨k+1,q+1,by omega,by omega,KP _,by go_num,rfl,fun j hj=>?_⟩
      by_cases e:j=k
      ·subst e
       exact keeps_pos (by rw[B.out.1,B.out.2];exact hdup)
      ·exact A.out j (by omega)
   ·have:k=d.size:=by omega
    subst this;have HH:Aside (HoldsK Qba 2 w blk 0 d):=hH
    clear hH;go_wp2
    go_ret
    obtain⟨e1,e2,e3⟩:=HS.out q hall;exact⟨by rw[e1];rfl,q,_,e2,e3⟩
theorem QAw(a:Option Addr)(cap:Nat)(w:World):
  Calls Tryz.prog 190 #[.slice a 0 cap] w fun e w'=>e= .returned (.slice a 0 cap)∧w'=w:=by
 go_enter Tryz.func190,Tryz.ntmps190
 go_wp2
 go_ret
 exact⟨rfl,rfl⟩
end
theorem Qg7{W:Bool}{h:Q6}:∀(xs:List (Int×Int)),Qn W h (dL xs).flatten (xs.flatMap Qba) []
 | []=> .nil
 | (a,b)::xs=> .v rfl (.v rfl (Qg7 xs))
theorem Qee{W:Bool}{h:Q6}:∀{xs:List (Int×Int)} {vs:List Value} {G:List Nat},Qn W h (dL xs).flatten vs G→vs=xs.flatMap Qba∧G=[]
 | [],vs,G,r=>by cases r;exact⟨rfl,rfl⟩
 | (a,b)::xs,vs,G,r=>by
  simp only[dL,List.map_cons,List.flatten_cons,List.cons_append,List.nil_append]at r
  cases r with
  | v _ r=>
   cases r with
   | v _ r=>
    obtain⟨rfl,rfl⟩:=Qee r;exact⟨rfl,rfl⟩
theorem Qfo:∀{xs:List (Int×Int)},(xs.flatMap Qba).length=xs.length*2
 | []=>rfl
 | x::xs=>by rw[List.flatMap_cons,KN,Qfo,List.length_cons];show 2+_=_;omega
theorem Qfn:∀{xs:List (Int×Int)} {t:Nat},t<xs.length*2→(xs.flatMap Qba)[t]? =some ((Qba xs[t/2]!)[t%2]!)
 | [],t,h=>by simp at h
 | x::xs,0,h=>rfl
 | x::xs,1,h=>rfl
 | x::xs,t+2,h=>by
  have ih:=Qfn (xs:=xs) (t:=t) (by simp at h;omega)
  have e1:(t+2)/2=t/2+1:=by omega
  have e2:(t+2)%2=t%2:=by omega
  rw[e1,e2];have e3:(x::xs)[t/2+1]! =xs[t/2]! :=by simp
  rw[e3,←ih];rfl
theorem QiU{ys:List (Int×Int)}:(flatK Qba 2 ys.toArray).toList=ys.flatMap Qba:=by
 apply List.ext_getElem?
 intro t
 by_cases h:t<ys.length*2
 ·rw[Qfn h]
  have h1:t<(flatK Qba 2 ys.toArray).size:=by simpa using h
  rw[Array.getElem?_toList,K4 h1,←getElem!_pos (flatK Qba 2 ys.toArray) t h1,get_flatK Qba 2 ys.toArray t (by simpa using h)]
  simp
 ·rw[K6 (by simp;omega),K6 (by rw[Qfo];omega)]
def Qkc:Qb:=⟨[true],true,fun
 | [.arr 2 l _]=>some (WfD l∧l.length≤16777216,[⟨false,[.own 2 (dL (Lib.compact (unD l))) 1]⟩],[.gone])
 | _=>none⟩
theorem Qxq:Qa E0 190 Qkc:=by
 refine⟨⟨Tryz.f190,Tryz.func190,by kernel_rfl,rfl⟩,?_⟩
 intro args p rs ms hr hp w vals F Ms ha hnd hF hJ hN hMN;unfold Qkc at hr;dsimp only at hr;split at hr
 ·rename_i l dp
  cases hr;obtain⟨hl,hlen⟩:=hp;obtain⟨ys,rfl,hmx⟩:=hl.ex;rw[Qh];rw[Qg]at hlen;cases ha with
  | cons h1 h2=>
   cases h2
   cases h1 with
   | arr r1 hdp=>
    rcases r1 with⟨rfl,hnil,rfl,_⟩|⟨b,cap,c,e,G,rfl,rfl,_,a2,a3,a4,a5,a6,a7⟩
    ·have e0:ys=[]:=by
      have:=congrArg List.length hnil
      rw[Qg]at this;exact Kd this
     subst e0;refine(QAw none 0 w).mono ?_
     rintro e w' ⟨rfl,rfl⟩;refine⟨_,rfl,rfl,rfl,rfl,KP _,fun _ _ _=>rfl,[],[[]],[],[],?_,?_,by simp,by simp,by simp,by simp,by simp⟩
     ·have:QaN w'.heap [.own 2 (dL []) 1] [.slice none 0 0] ([]++[]) ([[]]):= .own (.inl ⟨rfl,rfl,rfl,rfl⟩) .nil
      simpa [QbF,QnW,Lib.compact,Lib.compactUpTo,dL]using this
     ·have:=Q5.cons (h:=w'.heap) (Qbi.gone (v:= .slice none 0 0)) Q5.nil
      simpa [Q0,Qkc]using this
    ·obtain⟨hv,rfl⟩:=Qee a7
     rw[Qg]at a3 hv;have hfs:(flatK Qba 2 ys.toArray).size=ys.length*2:=by simp
     have hH:HoldsK Qba 2 w b 0 ys.toArray:=Qek (enc:=id) a2 (by rw[hfs,QiU];simpa using hv)
     have hcon:=QDj b cap ys.toArray w hH (by simp;omega) (by simpa using a3)
     rw[Qg];have hsz:ys.toArray.size=ys.length:=by simp
     rw[hsz]at hcon;refine hcon.mono ?_
     have hcl:=Lib.compact_length_le ys
     have hcc:Lib.compactUpTo ys.toArray ys.length=Lib.compact ys:=rfl
     rintro e w' ⟨rfl,n,d,rfl,hd1,hd2⟩;rw[hsz,hcc]at hd2;rw[hsz]at hd1;rw[hcc];generalize hzs:Lib.compact ys=zs at hcl hd2;have hw:putRow id (Sort.ahead w n) b 0 d=sortWorld id w b 0 n d #[]:=by unfold sortWorld;rw[grow_empty]
     rw[hw];obtain⟨q1,q2,q3⟩:=Qb1 (enc:=(id:Value→Value)) (n:=n) (d:=d) (os:=#[]) a2;have hlt:b<w.heap.size:=(Kb.1 a2).1
     obtain⟨t1,t2⟩:=Qck (enc:=(id:Value→Value)) (d:=d) (c:=c) (by rw[hd1,a5];exact Ka 2 a3)
     have q:Qar (sortWorld id w b 0 n d #[]).heap [b] [] 2 (dL zs) 1 (.slice (some ⟨b,0,none⟩) zs.length cap):=by
      refine .inr ⟨b,cap,_,e,[],by rw[Qg],rfl,rfl,q2,by rw[Qg];omega,a4,by rw[t2];exact a5,?_,?_⟩
      ·intro z hz
       simp only[dL,KQ]at hz
       obtain⟨_,_,rfl⟩:=hz;rfl
      ·rw[Qg]
       have e1:(putCells id 0 d c).toList.take (zs.length*2)=zs.flatMap Qba:=by
        have:(putCells id 0 d c).toList.take (zs.length*2)=((putCells id 0 d c).toList.take d.size).take (zs.length*2):=by
         rw[List.take_take];congr 1;omega
        rw[this,t1,List.map_id];apply List.ext_getElem?
        intro t
        by_cases h:t<zs.length*2
        ·rw[Qfn h,Ky h]
         have h1:t<d.size:=by omega
         have hq:=hd2 (t/2) (by omega)
         rw[Array.getElem?_toList,K4 h1,←getElem!_pos d t h1];rcases(show t%2=0∨t%2=1 by omega)with e0|e0
         ·rw[e0]
          have:t=t/2*2:=by omega
          conv=>lhs;rw[this]
          rw[hq.1];rfl
         ·rw[e0]
          have:t=t/2*2+1:=by omega
          conv=>lhs;rw[this]
          rw[hq.2];rfl
        ·rw[K6 (by rw[KO];omega),K6 (by rw[Qfo];omega)]
       rw[e1];exact Qg7 zs
     refine⟨_,rfl,rfl,rfl,rfl,q1,fun k hk hn=>q3 k hk (by simpa using hn),[],[[b]],[],[],?_,?_,by simp,?_,by simp,by simp,by simp⟩
     ·have:QaN (sortWorld id w b 0 n d #[]).heap [.own 2 (dL zs) 1] [.slice (some ⟨b,0,none⟩) zs.length cap] ([]++[]) ([[b]]):= .own q .nil
      simpa [QbF,QnW]using this
     ·have:=Q5.cons (h:=(sortWorld id w b 0 n d #[]).heap) (Qbi.gone (v:= .slice (some ⟨b,0,none⟩) ys.length cap)) Q5.nil
      simpa [Q0,Qkc]using this
     ·intro k hk
      simp only[List.flatten_cons,Yc,KM,KH]at hk
      subst hk;exact⟨.inr ⟨rfl,by simp⟩,by omega⟩
 ·cases hr
def cfN(r:Int)(x y:Nat×Nat):Int:=if x.2=y.2 then r else(x.2:Int)-y.2
theorem QxT(W:World)(o1 o2:Obj):grow W #[o1,o2]={W with heap:=(W.heap.push o1).push o2}:=by
 unfold grow;congr 1
theorem Qim(q:Nat)(W:World)(o1 o2:Obj):((W.alloc o1).alloc o2).drewN q=grow (W.drewN q) #[o1,o2]:=by
 rw[QxT];rfl
theorem Qxn(a1 a2 b1 b2:Nat)(r:Int)(h1:a1<32)(h2:a2<5)(h3:b1<32)(h4:b2<5)(W:World)
  (hc:∀W,Calls Tryz.prog 206 #[.int .i64 a1,.int .i64 b1] W fun e w'=>e= .returned (.int .i64 r)∧∃q,w'=W.drewN q):
  Calls Tryz.prog 189 #[.agg #[.int .i64 a1,.int .i64 a2],.agg #[.int .i64 b1,.int .i64 b2]] W fun e w'=>e= .returned (.int .i64 (cfN r (a1,a2) (b1,b2)))∧∃q os,w'=grow (W.drewN q) os:=by
 go_enter Tryz.func189,Tryz.ntmps189
 go_wp2_with (go_at_call 206;refine(hc _).mono ?_;rintro e w' ⟨rfl,q,rfl⟩)
 ·rename_i hb
  go_ret
  have hb:¬a2=b2:=by
   intro h;rw[h]at hb;simp at hb
  refine⟨by unfold cfN;rw[if_neg hb];rfl,0,#[_,_],Qim 0 _ _ _⟩
 ·rename_i hb
  go_ret
  have hb:a2=b2:=by
   have:(a2:Int)=b2:=by simpa using hb
   omega
  refine⟨by unfold cfN;rw[if_pos hb];rfl,q,#[_,_],Qim q _ _ _⟩
def cfQ(x y:Fin 32×Fin 5):Int:=cfN (cfS x.1 y.1) (x.1.val,x.2.val) (y.1.val,y.2.val)
def QxL(x:Fin 32×Fin 5):List Value:=Qba ((x.1.val:Nat),(x.2.val:Nat))
theorem QFT(x y:Fin 32×Fin 5)(W:World):Calls Tryz.prog 189 #[.agg (QxL x).toArray,.agg (QxL y).toArray] W fun e w'=>e= .returned (.int .i64 (cfQ x y))∧∃q os,w'=grow (W.drewN q) os:=
 Qxn x.1.val x.2.val y.1.val y.2.val (cfS x.1 y.1) x.1.isLt x.2.isLt y.1.isLt y.2.isLt W fun W=>QFM x.1 y.1 W
def Qzw(x:Fin 32×Fin 5):Nat:=x.2.val*1000+QkC x.1
theorem Qfr(x:Fin 32):QkC x≤351:=by
 have:=QiF x
 unfold QkC;omega
theorem ltQ(x y:Fin 32×Fin 5):ltOf cfQ x y=decide (Qzw x<Qzw y):=by
 have hS:=ltS x.1 y.1
 have k1:=Qfr x.1
 have k2:=Qfr y.1
 unfold ltOf at hS ⊢;unfold cfQ cfN Qzw
 by_cases h:x.2.val=y.2.val
 ·rw[if_pos h,hS,Kp,KK,KK]
  omega
 ·rw[if_neg h,Kp,KK,KK]
  dsimp only;omega
theorem QqA{x y:Fin 32×Fin 5}(h:Qzw x=Qzw y):x=y:=by
 have k1:=Qfr x.1
 have k2:=Qfr y.1
 unfold Qzw at h;have h1:x.2.val=y.2.val:=by omega
 have h2:QkC x.1=QkC y.1:=by omega
 exact Prod.ext (QlE _ _ h2) (Fin.ext h1)
theorem QF1:SWO (ltOf cfQ) where
 irrefl x:=by rw[ltQ];simp
 trans x y z h1 h2:=by rw[ltQ]at *;simp at *;omega
 ntrans x y z h1 h2:=by rw[ltQ]at *;simp at *;omega
theorem QGs(x y:Fin 32×Fin 5)(h1:ltOf cfQ x y=false)(h2:ltOf cfQ y x=false):x=y:=by
 rw[ltQ]at *;simp at h1 h2
 exact QqA (by omega)
def toQ(d:Int×Int):Fin 32×Fin 5:=(toF d.1,⟨d.2.toNat%5,Nat.mod_lt _ (by decide)⟩)
def ofQ(x:Fin 32×Fin 5):Int×Int:=((x.1.val:Nat),(x.2.val:Nat))
theorem Qnp{d:Int×Int}(h:Qbv d):ofQ (toQ d)=d:=by
 obtain⟨a,b⟩:=d;obtain⟨h1,h2⟩:=h;have:=QDY (y:=a) h1
 unfold ofF at this;unfold ofQ toQ;dsimp only at h1 h2 ⊢;rw[this];refine Prod.ext rfl ?_
 dsimp only;omega
theorem QuX{ys:List (Int×Int)}(h:∀d∈ys,Qbv d):(ys.map toQ).map ofQ=ys:=by
 rw[List.map_map];conv=>rhs;rw[←List.map_id ys]
 exact List.map_congr_left fun d hd=>Qnp (h d hd)
theorem Qzp(zs:List (Fin 32×Fin 5)):flatK QxL 2 zs.toArray=flatK Qba 2 (zs.map ofQ).toArray:=by
 apply Array.ext
 ·simp
 ·intro t h1 h2
  have ht:t<zs.length*2:=by simpa using h1
  rw[←getElem!_pos (flatK QxL 2 zs.toArray) t h1,←getElem!_pos (flatK Qba 2 (zs.map ofQ).toArray) t h2,get_flatK QxL 2 _ t (by simpa using ht),get_flatK Qba 2 _ t (by simpa using ht)]
  have h3:t/2<zs.length:=by omega
  have e1:zs.toArray[t/2]! =zs[t/2]:=by rw[getElem!_pos zs.toArray (t/2) (by simpa using h3)];simp
  have e2:(zs.map ofQ).toArray[t/2]! =ofQ zs[t/2]:=by rw[getElem!_pos (zs.map ofQ).toArray (t/2) (by simpa using h3)];simp
  rw[e1,e2];rfl
def QCi(xs:List (Fin 32×Fin 5)):List (Fin 32×Fin 5):=xs.mergeSort fun x y=> !(ltOf cfQ) y x
def Qe1(ys:List (Int×Int)):List (Int×Int):=(QCi (ys.map toQ)).map ofQ
theorem Qjw{ys:List (Int×Int)}:(Qe1 ys).length=ys.length:=by
 unfold Qe1 QCi;rw[KV,List.length_mergeSort,KV]
theorem QsC{w:World}{b n cap:Nat}{ys zs:List (Int×Int)}{os:Array Obj}{c:Array Value}{e:TypeId}{F:List Nat}{x:Value}(hb:w.heap[b]? =some (.cells c e (0,0)))(hs:zs.length=ys.length)(hc:ys.length≤cap)(hm:cap≤maxLen)(hcc:c.size=cap*2):
  Qd3 false w (sortWorld id w b 0 n (flatK Qba 2 zs.toArray) os) F [[b]] [.slice (some ⟨b,0,none⟩) ys.length cap] [] [.arr 2 (dL zs) 1] x:=by
 obtain⟨h1,h2,h3⟩:=Qb1 (enc:=(id:Value→Value)) (n:=n) (d:=flatK Qba 2 zs.toArray) (os:=os) hb;have hlt:b<w.heap.size:=(Kb.1 hb).1
 have hfs:(flatK Qba 2 zs.toArray).size=ys.length*2:=by simp[hs]
 obtain⟨t1,t2⟩:=Qck (enc:=(id:Value→Value)) (d:=flatK Qba 2 zs.toArray) (c:=c) (by rw[hfs,hcc];exact Ka 2 hc)
 refine⟨rfl,rfl,rfl,h1,fun k hk hn=>h3 k hk (by simpa using hn),[],[],[],[[b]],⟨rfl,rfl⟩,?_,by simp,by simp,by simp,by simp,?_,by simp⟩
 ·have q:Qar (sortWorld id w b 0 n (flatK Qba 2 zs.toArray) os).heap [b] [] 2 (dL zs) 1 (.slice (some ⟨b,0,none⟩) ys.length cap):=by
   refine .inr ⟨b,cap,_,e,[],by rw[Qg,hs],rfl,rfl,h2,by rw[Qg];omega,hm,by rw[t2];exact hcc,?_,?_⟩
   ·intro z hz
    simp only[dL,KQ]at hz
    obtain⟨_,_,rfl⟩:=hz;rfl
   ·rw[Qg,hs]
    rw[hfs]at t1;rw[t1,List.map_id,QiU];exact Qg7 zs
  have:=Q5.cons (Qbi.arr q (by decide)) Q5.nil
  simpa using this
 ·intro k hk
  simp only[List.flatten_cons,Yc,KM,KH]at hk
  subst hk;exact⟨by omega,by simp,Or.inr (by simp)⟩
def QeG:Qb:=⟨[true],false,fun
 | [.arr 2 l _,.fnc f []]=>some (f=189∧WfD l∧(∀y∈unD l,Qbv y)∧l.length≤16777216,[],[.arr 2 (dL (Qe1 (unD l))) 1])
 | _=>none⟩
theorem QsB:Qa E0 188 QeG:=by
 refine⟨⟨Tryz.f188,Tryz.func188,by kernel_rfl,rfl⟩,?_⟩
 intro args p rs ms hr hp w vals F Ms ha hnd hF hJ hN hMN;unfold QeG at hr;dsimp only at hr;split at hr
 ·rename_i l dp f
  cases hr;obtain⟨rfl,hl,hy,hlen⟩:=hp;obtain⟨ys,rfl,hmx⟩:=hl.ex;rw[Qh]at hy ⊢;rw[Qg]at hlen;cases ha with
  | cons h1 h2=>
   cases h2 with
   | cons h2 h3=>
    cases h3
    cases h1 with
    | arr r1 hdp=>
     cases h2 with
     | fnc r2=>
      cases r2
      have eg:∀args w,(callFunc 189 args).run Tryz.prog w= .ok (.enter 189 args) w:=enters_of Tryz.func189 kR rfl
      rcases r1 with⟨rfl,hnil,rfl,_⟩|⟨b,cap,c,e,G,rfl,rfl,_,a2,a3,a4,a5,a6,a7⟩
      ·have e0:ys=[]:=by
        have:=congrArg List.length hnil
        rw[Qg]at this;exact Kd this
       subst e0;have hcon:=AnyF.slices_SortFunc_none Tryz.sortD none 0 (.func (.func 189) #[] #[]) w
       change Calls Tryz.prog 188 _ _ _ at hcon
       refine hcon.mono ?_
       rintro e w' ⟨rfl,rfl⟩;refine⟨_,rfl,rfl,rfl,rfl,KP _,fun _ _ _=>rfl,[],[],[],[[]],⟨rfl,rfl⟩,?_,by simp,by simp,by simp,by simp,by simp⟩
       have:=Q5.cons (h:=w'.heap) (Qbi.arr (s:=2) (l:=[]) (dp:=1) (m:=[]) (.inl ⟨rfl,rfl,rfl,rfl⟩) (by decide)) Q5.nil
       simpa [Qe1,QCi,dL,Q0,QeG]using this
      ·obtain⟨hv,rfl⟩:=Qee a7
       rw[Qg]at a3 hv;have hds:((ys.map toQ).toArray).size=ys.length:=by simp
       have hfl:flatK QxL 2 (ys.map toQ).toArray=flatK Qba 2 ys.toArray:=by rw[Qzp,QuX hy]
       have hfs:(flatK Qba 2 ys.toArray).size=ys.length*2:=by simp
       have hH:HoldsK QxL 2 w b 0 (ys.map toQ).toArray:=by
        unfold HoldsK;rw[hfl];exact Qek (enc:=id) a2 (by rw[hfs,QiU];simpa using hv)
       have hcon:=AnyQ.slices_SortFunc_total Tryz.sortD 2 (fun w=>by change (isAgg 57).run Tryz.prog w=_;simp) (fun w=>by change (Go.sizeOf 57).run Tryz.prog w=_;simp) QxL (fun _=>rfl) (fun x=>QxK _) cfQ QF1 189 #[] b 0 cap (ys.map toQ).toArray w eg
        (fun _ _ _ _ x y=>QFT x y _) hH (Kb.1 a2).1 (by rw[hds];omega) QGs
       change Calls Tryz.prog 188 _ _ _ at hcon
       rw[hds]at hcon;rw[Qg];refine hcon.mono ?_
       rintro e w' ⟨rfl,n,os,rfl⟩;have hso:((ys.map toQ).toArray.toList.mergeSort fun x y=> !(ltOf cfQ) y x)=QCi (ys.map toQ):=rfl
       rw[hso];have hw:sortWorldK QxL 2 w b 0 n (QCi (ys.map toQ)).toArray os=sortWorld id w b 0 n (flatK Qba 2 (Qe1 ys).toArray) os:=by
        unfold Qe1;rw[←Qzp];rfl
       rw[hw];have hps:=QsC (n:=n) (os:=os) (F:=[]) (x:= .tuple #[]) (ys:=ys) (zs:=Qe1 ys) a2 Qjw a3 a4 a5
       exact⟨_,rfl,by simpa [Q0,QeG]using hps⟩
 ·cases hr
end Go.Own
