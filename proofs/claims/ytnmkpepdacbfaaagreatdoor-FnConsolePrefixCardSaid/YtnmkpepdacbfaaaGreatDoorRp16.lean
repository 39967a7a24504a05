/- Contracts. Conditions: as stated. -/
import Derived.Shelf.SlSortCmp.NoneTotal
import Derived.Test.YtnmkpepdacbfaaaGreatDoorRp15
import Derived.WalkKit
import Derived.Shelf.Sort.Plain
import Derived.Shelf.Slices.CompactI
import Derived.Shelf.Slices.In.SortNone
set_option linter.all false
set_option maxRecDepth 20000
set_option maxHeartbeats 2000000
namespace Go.Own
open Go Go.Proofs Go.RowKit Go.Sort Go.Shelf
variable {α:Type} [Inhabited α]
theorem Qek{enc:α→Value}{w:World}{b:Nat}{c:Array Value}{e:TypeId}(hb:w.heap[b]? =some (.cells c e (0,0))){d:Array α}(h:c.toList.take d.size=d.toList.map enc):Holds enc w b 0 d:=by
 intro j hj;have h1:(c.toList.take d.size)[j]? =some (enc d[j]!):=by
  rw[h,YG,Array.getElem?_toList,K4 hj,getElem!_pos d j hj];rfl
 rw[Ky hj,Array.getElem?_toList]at h1;refine⟨?_,?_⟩
 ·simp only[World.cell?,hb,Ya]
  exact h1
 ·simp[World.frozen?,hb]
theorem Qck{enc:α→Value}{d:Array α}{c:Array Value}(h:d.size≤c.size):(putCells enc 0 d c).toList.take d.size=d.toList.map enc∧(putCells enc 0 d c).size=c.size:=by
 refine⟨?_,by simp[putCells]⟩
 apply List.ext_getElem?
 intro k
 by_cases hk:k<d.size
 ·rw[Ky hk,Array.getElem?_toList,YG,Array.getElem?_toList,K4 hk]
  simp only[putCells,Array.getElem?_mapIdx]
  rw[K4 (by omega)]
  simp only[Option.map_some,KJ,true_and,Ya,hk,if_true,Nat.sub_zero]
  rw[getElem!_pos d k hk]
 ·rw[K6 (by rw[KO];omega),K6 (by simp;omega)]
theorem Qb1{enc:α→Value}{w:World}{b n:Nat}{d:Array α}{os:Array Obj}{c:Array Value}{e:TypeId}(hb:w.heap[b]? =some (.cells c e (0,0))):
  w.heap.size≤(sortWorld enc w b 0 n d os).heap.size∧(sortWorld enc w b 0 n d os).heap[b]? =some (.cells (putCells enc 0 d c) e (0,0))∧∀k,k<w.heap.size→k≠b→(sortWorld enc w b 0 n d os).heap[k]? =w.heap[k]? :=by
 have hlt:b<w.heap.size:=(Kb.1 hb).1
 have e0:(sortWorld enc w b 0 n d os).heap=w.heap.modify b (onCells (putCells enc 0 d))++os:=rfl
 rw[e0];refine⟨by simp,?_,fun k hk hne=>?_⟩
 ·rw[YE (by simpa using hlt),Array.getElem?_modify,if_pos rfl,hb];rfl
 ·rw[YE (by simpa using hk),Array.getElem?_modify,if_neg (fun h=>hne h.symm)]
theorem Qg8{W:Bool}{h:Q6}:∀(xs:List Int),Qn W h (iL xs).flatten (xs.map fun n=>Value.int .i64 n) []
 | []=> .nil
 | x::xs=> .v rfl (Qg8 xs)
theorem QcT{W:Bool}{h:Q6}:∀{xs:List Int} {vs:List Value} {G:List Nat},Qn W h (iL xs).flatten vs G→vs=xs.map (fun n=>Value.int .i64 n)∧G=[]
 | [],vs,G,r=>by cases r;exact⟨rfl,rfl⟩
 | x::xs,vs,G,r=>by
  simp only[iL,List.map_cons,List.flatten_cons,List.cons_append,List.nil_append]at r
  cases r with
  | v _ r=>
   obtain⟨rfl,rfl⟩:=QcT r;exact⟨rfl,rfl⟩
theorem QnN{val:α→Int}{w:World}{b n cap:Nat}{d d':Array α}{os:Array Obj}{c:Array Value}{e:TypeId}{F:List Nat}{x:Value}(hb:w.heap[b]? =some (.cells c e (0,0)))(hs:d'.size=d.size)(hc:d.size≤cap)(hm:cap≤maxLen)(hcc:c.size=cap*1):
  Qd3 false w (sortWorld (fun x=>Value.int .i64 (val x)) w b 0 n d' os) F [[b]] [.slice (some ⟨b,0,none⟩) d.size cap] [] [.arr 1 (iL (d'.toList.map val)) 1] x:=by
 obtain⟨h1,h2,h3⟩:=Qb1 (enc:=fun x=>Value.int .i64 (val x)) (n:=n) (d:=d') (os:=os) hb
 have hlt:b<w.heap.size:=(Kb.1 hb).1
 obtain⟨t1,t2⟩:=Qck (enc:=fun x=>Value.int .i64 (val x)) (d:=d') (c:=c) (by omega)
 have hl:(iL (d'.toList.map val)).length=d.size:=by rw[Qs,KV,YN,hs]
 refine⟨rfl,rfl,rfl,h1,fun k hk hn=>h3 k hk (by simpa using hn),[],[],[],[[b]],⟨rfl,rfl⟩,?_,by simp,by simp,by simp,by simp,?_,by simp⟩
 ·have q:Qar (sortWorld (fun x=>Value.int .i64 (val x)) w b 0 n d' os).heap [b] [] 1 (iL (d'.toList.map val)) 1 (.slice (some ⟨b,0,none⟩) d.size cap):=by
   refine .inr ⟨b,cap,_,e,[],by rw[hl],rfl,rfl,h2,by omega,hm,by rw[t2];exact hcc,?_,?_⟩
   ·intro z hz
    simp only[iL,KQ]at hz
    obtain⟨_,_,rfl⟩:=hz;rfl
   ·rw[hl,←hs,Nat.mul_one,t1]
    have:=Qg8 (W:=true) (h:=(sortWorld (fun x=>Value.int .i64 (val x)) w b 0 n d' os).heap) (d'.toList.map val)
    rw[List.map_map]at this;exact this
  have:=Q5.cons (Qbi.arr q (by decide)) Q5.nil
  simpa using this
 ·intro k hk
  simp only[List.flatten_cons,Yc,KM,KH]at hk
  subst hk;exact⟨by omega,by simp,Or.inr (by simp)⟩
end Go.Own
namespace Go.Proofs
open Go.Shelf
def Tryz.sortL_ren:Go.Shelf.Ren:=⟨fun|6=>205|15=>214|14=>225|28=>237|29=>238|20=>254|21=>255|22=>256|23=>257|24=>258|25=>259|26=>260|27=>261|46=>278|47=>266|48=>267|49=>279|50=>280|57=>285|n=>n,fun|22=>31|24=>3|25=>167|3=>3|39=>126|0=>0|53=>174|55=>179|4=>4|46=>196|45=>195|50=>77|5=>5|9=>9|66=>222|70=>226|76=>235|77=>124|n=>n,fun|n=>n⟩
theorem Tryz.sortL:Go.Proofs.SlLaysF.n6 Tryz.prog Tryz.sortL_ren:={
 mixed:=Own.kR
 f6:=⟨Tryz.f205.name,by decide,Tryz.func205.trans (congrArg some Own.kR)⟩
 f14:=⟨Tryz.f225.name,by decide,Tryz.func225.trans (congrArg some Own.kR)⟩
 f15:=Tryz.func214.trans (congrArg some Own.kR)
 f20:=⟨Tryz.f254.name,by decide,Tryz.func254.trans (congrArg some Own.kR)⟩
 f21:=⟨Tryz.f255.name,by decide,Tryz.func255.trans (congrArg some Own.kR)⟩
 f22:=⟨Tryz.f256.name,by decide,Tryz.func256.trans (congrArg some Own.kR)⟩
 f23:=⟨Tryz.f257.name,by decide,Tryz.func257.trans (congrArg some Own.kR)⟩
 f24:=⟨Tryz.f258.name,by decide,Tryz.func258.trans (congrArg some Own.kR)⟩
 f25:=⟨Tryz.f259.name,by decide,Tryz.func259.trans (congrArg some Own.kR)⟩
 f26:=⟨Tryz.f260.name,by decide,Tryz.func260.trans (congrArg some Own.kR)⟩
 f27:=⟨Tryz.f261.name,by decide,Tryz.func261.trans (congrArg some Own.kR)⟩
 f28:=Tryz.func237.trans (congrArg some Own.kR)
 f29:=Tryz.func238.trans (congrArg some Own.kR)
 f46:=⟨Tryz.f278.name,by decide,Tryz.func278.trans (congrArg some Own.kR)⟩
 f47:=Tryz.func266.trans (congrArg some Own.kR)
 f48:=Tryz.func267.trans (congrArg some Own.kR)
 f49:=⟨Tryz.f279.name,by decide,Tryz.func279.trans (congrArg some Own.kR)⟩
 f50:=⟨Tryz.f280.name,by decide,Tryz.func280.trans (congrArg some Own.kR)⟩
 f57:=⟨Tryz.f285.name,by decide,Tryz.func285.trans (congrArg some Own.kR)⟩
 t0:=Tryz.underlying0
 a0:=Tryz.isAgg0
 z0:=Tryz.sizeOf0
 v0:=Tryz.zeroValue0
 t3:=Tryz.underlying3
 a3:=Tryz.isAgg3
 z3:=Tryz.sizeOf3
 v3:=Tryz.zeroValue3
 t4:=Tryz.underlying4
 a4:=Tryz.isAgg4
 z4:=Tryz.sizeOf4
 v4:=Tryz.zeroValue4
 t5:=Tryz.underlying5
 a5:=Tryz.isAgg5
 z5:=Tryz.sizeOf5
 v5:=Tryz.zeroValue5
 t9:=Tryz.underlying9
 a9:=Tryz.isAgg9
 z9:=Tryz.sizeOf9
 v9:=Tryz.zeroValue9
 t22:=Tryz.underlying31
 a22:=Tryz.isAgg31
 z22:=Tryz.sizeOf31
 v22:=Tryz.zeroValue31
 a24:=Tryz.isAgg3
 z24:=Tryz.sizeOf3
 t25:=Tryz.underlying167
 a25:=Tryz.isAgg167
 z25:=Tryz.sizeOf167
 v25:=Tryz.zeroValue167
 t39:=Tryz.underlying126
 a39:=Tryz.isAgg126
 z39:=Tryz.sizeOf126
 v39:=Tryz.zeroValue126
 t45:=Tryz.underlying195
 a45:=Tryz.isAgg195
 z45:=Tryz.sizeOf195
 v45:=Tryz.zeroValue195
 t46:=Tryz.underlying196
 a46:=Tryz.isAgg196
 z46:=Tryz.sizeOf196
 v46:=Tryz.zeroValue196
 t50:=Tryz.underlying77
 a50:=Tryz.isAgg77
 z50:=Tryz.sizeOf77
 v50:=Tryz.zeroValue77
 t53:=Tryz.underlying174
 a53:=Tryz.isAgg174
 z53:=Tryz.sizeOf174
 v53:=Tryz.zeroValue174
 t55:=Tryz.underlying179
 a55:=Tryz.isAgg179
 z55:=Tryz.sizeOf179
 v55:=Tryz.zeroValue179
 t66:=Tryz.underlying222
 a66:=Tryz.isAgg222
 z66:=Tryz.sizeOf222
 v66:=Tryz.zeroValue222
 t70:=Tryz.underlying226
 a70:=Tryz.isAgg226
 z70:=Tryz.sizeOf226
 v70:=Tryz.zeroValue226
 t76:=Tryz.underlying235
 a76:=Tryz.isAgg235
 z76:=Tryz.sizeOf235
 v76:=Tryz.zeroValue235
 t77:=Tryz.underlying124
 a77:=Tryz.isAgg124
 z77:=Tryz.sizeOf124
 v77:=Tryz.zeroValue124}
def Tryz.sortD_ren:Go.Shelf.Ren:=⟨fun|6=>188|15=>214|14=>213|28=>237|29=>238|20=>229|21=>230|22=>231|23=>232|24=>233|25=>234|26=>235|27=>236|46=>265|47=>266|48=>267|49=>268|50=>269|57=>281|n=>n,fun|22=>35|24=>57|25=>157|3=>3|39=>126|0=>0|53=>174|55=>179|4=>4|46=>196|45=>195|50=>77|5=>5|9=>9|66=>222|70=>226|76=>235|77=>124|n=>n,fun|n=>n⟩
theorem Tryz.sortD:Go.Proofs.SlLaysF0.n6 Tryz.prog Tryz.sortD_ren:={
 mixed:=Own.kR
 f6:=⟨Tryz.f188.name,by decide,Tryz.func188.trans (congrArg some Own.kR)⟩
 f14:=⟨Tryz.f213.name,by decide,Tryz.func213.trans (congrArg some Own.kR)⟩
 f15:=Tryz.func214.trans (congrArg some Own.kR)
 f20:=⟨Tryz.f229.name,by decide,Tryz.func229.trans (congrArg some Own.kR)⟩
 f21:=⟨Tryz.f230.name,by decide,Tryz.func230.trans (congrArg some Own.kR)⟩
 f22:=⟨Tryz.f231.name,by decide,Tryz.func231.trans (congrArg some Own.kR)⟩
 f23:=⟨Tryz.f232.name,by decide,Tryz.func232.trans (congrArg some Own.kR)⟩
 f24:=⟨Tryz.f233.name,by decide,Tryz.func233.trans (congrArg some Own.kR)⟩
 f25:=⟨Tryz.f234.name,by decide,Tryz.func234.trans (congrArg some Own.kR)⟩
 f26:=⟨Tryz.f235.name,by decide,Tryz.func235.trans (congrArg some Own.kR)⟩
 f27:=⟨Tryz.f236.name,by decide,Tryz.func236.trans (congrArg some Own.kR)⟩
 f28:=Tryz.func237.trans (congrArg some Own.kR)
 f29:=Tryz.func238.trans (congrArg some Own.kR)
 f46:=⟨Tryz.f265.name,by decide,Tryz.func265.trans (congrArg some Own.kR)⟩
 f47:=Tryz.func266.trans (congrArg some Own.kR)
 f48:=Tryz.func267.trans (congrArg some Own.kR)
 f49:=⟨Tryz.f268.name,by decide,Tryz.func268.trans (congrArg some Own.kR)⟩
 f50:=⟨Tryz.f269.name,by decide,Tryz.func269.trans (congrArg some Own.kR)⟩
 f57:=⟨Tryz.f281.name,by decide,Tryz.func281.trans (congrArg some Own.kR)⟩
 t0:=Tryz.underlying0
 a0:=Tryz.isAgg0
 z0:=Tryz.sizeOf0
 v0:=Tryz.zeroValue0
 t3:=Tryz.underlying3
 a3:=Tryz.isAgg3
 z3:=Tryz.sizeOf3
 v3:=Tryz.zeroValue3
 t4:=Tryz.underlying4
 a4:=Tryz.isAgg4
 z4:=Tryz.sizeOf4
 v4:=Tryz.zeroValue4
 t5:=Tryz.underlying5
 a5:=Tryz.isAgg5
 z5:=Tryz.sizeOf5
 v5:=Tryz.zeroValue5
 t9:=Tryz.underlying9
 a9:=Tryz.isAgg9
 z9:=Tryz.sizeOf9
 v9:=Tryz.zeroValue9
 t22:=Tryz.underlying35
 a22:=Tryz.isAgg35
 z22:=Tryz.sizeOf35
 v22:=Tryz.zeroValue35
 t25:=Tryz.underlying157
 a25:=Tryz.isAgg157
 z25:=Tryz.sizeOf157
 v25:=Tryz.zeroValue157
 t39:=Tryz.underlying126
 a39:=Tryz.isAgg126
 z39:=Tryz.sizeOf126
 v39:=Tryz.zeroValue126
 t45:=Tryz.underlying195
 a45:=Tryz.isAgg195
 z45:=Tryz.sizeOf195
 v45:=Tryz.zeroValue195
 t46:=Tryz.underlying196
 a46:=Tryz.isAgg196
 z46:=Tryz.sizeOf196
 v46:=Tryz.zeroValue196
 t50:=Tryz.underlying77
 a50:=Tryz.isAgg77
 z50:=Tryz.sizeOf77
 v50:=Tryz.zeroValue77
 t53:=Tryz.underlying174
 a53:=Tryz.isAgg174
 z53:=Tryz.sizeOf174
 v53:=Tryz.zeroValue174
 t55:=Tryz.underlying179
 a55:=Tryz.isAgg179
 z55:=Tryz.sizeOf179
 v55:=Tryz.zeroValue179
 t66:=Tryz.underlying222
 a66:=Tryz.isAgg222
 z66:=Tryz.sizeOf222
 v66:=Tryz.zeroValue222
 t70:=Tryz.underlying226
 a70:=Tryz.isAgg226
 z70:=Tryz.sizeOf226
 v70:=Tryz.zeroValue226
 t76:=Tryz.underlying235
 a76:=Tryz.isAgg235
 z76:=Tryz.sizeOf235
 v76:=Tryz.zeroValue235
 t77:=Tryz.underlying124
 a77:=Tryz.isAgg124
 z77:=Tryz.sizeOf124
 v77:=Tryz.zeroValue124}
end Go.Proofs
namespace Go.Own
open Go Go.Proofs Go.RowKit Go.Sort Go.Shelf
attribute [local go_sem] Qke Tryz.results169
theorem QFZ(x:Fin 32)(W:World):Calls Tryz.prog 263 #[.int .u64 x.val] W fun e w'=>e= .returned (.int .i64 (cnt x.val))∧w'=W:=by
 go_enter Tryz.func263,Tryz.ntmps263
 go_wp2
 go_ret
 refine⟨?_,rfl⟩
 refine congrArg (fun z=>Ending.returned (Value.int .i64 z)) ?_
 revert x
 decide+kernel
theorem oc(x:Fin 32)(W:World):Calls Tryz.prog 226 #[.int .u64 x.val] W fun e w'=>e= .returned (.int .i64 (cnt x.val))∧w'=W:=by
 have hcon:=QFZ x W
 generalize cnt x.val=r at hcon ⊢;go_enter Tryz.func226,Tryz.ntmps226
 go_wp2_with (go_at_call 263;refine hcon.mono ?_;rintro e w' ⟨rfl,rfl⟩)
 go_ret
 exact⟨rfl,rfl⟩
def cfI(r s x y:Int):Int:=if r=s then x-y else r-s
def cfS(x y:Fin 32):Int:=cfI (cnt (x.val:Nat):Nat) (cnt (y.val:Nat):Nat) (x.val:Nat) (y.val:Nat)
theorem QiF:∀x:Fin 32,cnt (x.val:Nat)≤5:=by decide+kernel
theorem Qxo(x y r s:Nat)(hx:x<32)(hy:y<32)(k1:r≤5)(k2:s≤5)(W:World)
  (h1:∀W,Calls Tryz.prog 226 #[.int .u64 x] W fun e w'=>e= .returned (.int .i64 r)∧w'=W) (h2:∀W,Calls Tryz.prog 226 #[.int .u64 y] W fun e w'=>e= .returned (.int .i64 s)∧w'=W):
  Calls Tryz.prog 206 #[.int .i64 x,.int .i64 y] W fun e w'=>e= .returned (.int .i64 (cfI r s x y))∧∃q,w'=W.drewN q:=by
 go_enter Tryz.func206,Tryz.ntmps206
 go_wp2_with (go_at_call 226;first|(refine(h1 _).mono ?_;rintro e w' ⟨rfl,rfl⟩)|(refine(h2 _).mono ?_;rintro e w' ⟨rfl,rfl⟩))
 ·rename_i hb
  go_ret
  have:¬(r:Int)=s:=by simpa using hb
  refine⟨?_,0,rfl⟩
  unfold cfI;rw[if_neg this];rfl
 ·rename_i hb
  go_ret
  have:(r:Int)=s:=by simpa using hb
  refine⟨?_,0,rfl⟩
  unfold cfI;rw[if_pos this];rfl
theorem QFM(x y:Fin 32)(W:World):Calls Tryz.prog 206 #[.int .i64 (x.val:Nat),.int .i64 (y.val:Nat)] W fun e w'=>e= .returned (.int .i64 (cfS x y))∧∃q,w'=W.drewN q:=
 Qxo x.val y.val _ _ x.isLt y.isLt (QiF x) (QiF y) W (fun W=>oc x W) fun W=>oc y W
def QkC(x:Fin 32):Nat:=cnt (x.val:Nat)*64+x.val
theorem ltS:∀x y:Fin 32,ltOf cfS x y=decide (QkC x<QkC y):=by decide+kernel
theorem QlE:∀x y:Fin 32,QkC x=QkC y→x=y:=by decide+kernel
theorem QF2:SWO (ltOf cfS) where
 irrefl x:=by rw[ltS];simp
 trans x y z h1 h2:=by rw[ltS]at *;simp at *;omega
 ntrans x y z h1 h2:=by rw[ltS]at *;simp at *;omega
theorem QGt(x y:Fin 32)(h1:ltOf cfS x y=false)(h2:ltOf cfS y x=false):x=y:=by
 rw[ltS]at *;simp at h1 h2
 exact QlE x y (by omega)
def toF(y:Int):Fin 32:=⟨y.toNat%32,Nat.mod_lt _ (by decide)⟩
def ofF(x:Fin 32):Int:=(x.val:Nat)
theorem QDY{y:Int}(h:0≤y∧y≤31):ofF (toF y)=y:=by
 unfold ofF toF;dsimp only;omega
def QzN(xs:List (Fin 32)):List (Fin 32):=xs.mergeSort fun x y=> !(ltOf cfS) y x
def QCQ(ys:List Int):List Int:=(QzN (ys.map toF)).map ofF
def Qkg:Qb:=⟨[true],false,fun
 | [.arr 1 l _,.fnc f []]=>some (f=206∧WfI l∧(∀y∈unI l,0≤y∧y≤31)∧l.length≤16777216,[],[.arr 1 (iL (QCQ (unI l))) 1])
 | _=>none⟩
attribute [local go_sem] Qkg
theorem QyK:Qa E0 205 Qkg:=by
 refine⟨⟨Tryz.f205,Tryz.func205,by kernel_rfl,rfl⟩,?_⟩
 intro args p rs ms hr hp w vals F Ms ha hnd hF hJ hN hMN;unfold Qkg at hr;dsimp only at hr;split at hr
 ·rename_i l dp f
  cases hr;obtain⟨rfl,hl,hy,hlen⟩:=hp;obtain⟨ys,rfl,hmx⟩:=hl.ex;rw[QaH]at hy ⊢;rw[Qs]at hlen;cases ha with
  | cons h1 h2=>
   cases h2 with
   | cons h2 h3=>
    cases h3
    cases h1 with
    | arr r1 hdp=>
     cases h2 with
     | fnc r2=>
      cases r2
      have eg:∀args w,(callFunc 206 args).run Tryz.prog w= .ok (.enter 206 args) w:=enters_of Tryz.func206 kR rfl
      rcases r1 with⟨rfl,hnil,rfl,_⟩|⟨b,cap,c,e,G,rfl,rfl,_,a2,a3,a4,a5,a6,a7⟩
      ·have e0:ys=[]:=by
        have:=congrArg List.length hnil
        rw[Qs]at this;exact Kd this
       subst e0;have hcon:=AnyF.slices_SortFunc_none {Tryz.sortL with} none 0 (.func (.func 206) #[] #[]) w
       change Calls Tryz.prog 205 _ _ _ at hcon
       refine hcon.mono ?_
       rintro e w' ⟨rfl,rfl⟩;refine⟨_,rfl,rfl,rfl,rfl,KP _,fun _ _ _=>rfl,[],[],[],[[]],⟨rfl,rfl⟩,?_,by simp,by simp,by simp,by simp,by simp⟩
       have:=Q5.cons (h:=w'.heap) (Qbi.arr (s:=1) (l:=[]) (dp:=1) (m:=[]) (.inl ⟨rfl,rfl,rfl,rfl⟩) (by decide)) Q5.nil
       simpa [QCQ,QzN,iL,Q0,Qkg]using this
      ·rw[Qs,Nat.mul_one]at a7
       obtain⟨hv,rfl⟩:=QcT a7;rw[Qs]at a3;have hds:((ys.map toF).toArray).size=ys.length:=by simp
       have hto:(ys.map toF).toArray.toList.map (fun x=>Value.int .i64 (ofF x))=ys.map fun n=>Value.int .i64 n:=by
        rw[List.map_map];exact List.map_congr_left fun y hy'=>by simp only[Function.comp,QDY (hy y hy')]
       have hH:Holds (fun x=>Value.int .i64 (ofF x)) w b 0 (ys.map toF).toArray:=Qek a2 (by rw[hds,hto];exact hv)
       have hcon:=Any.slices_SortFunc_total Tryz.sortL (fun x=>Value.int .i64 (ofF x)) (fun _=>rfl) cfS QF2 206 #[] b 0 cap (ys.map toF).toArray w eg
        (CmpReads.lays fun _ _ _ _ x y=>QFM x y _) hH (Kb.1 a2).1 (by rw[hds];omega) QGt
       change Calls Tryz.prog 205 _ _ _ at hcon
       rw[hds]at hcon;rw[Qs];refine hcon.mono ?_
       rintro e w' ⟨rfl,n,os,rfl⟩;have hso:((ys.map toF).toArray.toList.mergeSort fun x y=> !(ltOf cfS) y x)=QzN (ys.map toF):=rfl
       have hps:=QnN (val:=ofF) (n:=n) (os:=os) (F:=[]) (x:= .tuple #[]) (d:=(ys.map toF).toArray) (d':=(QzN (ys.map toF)).toArray) a2 (by simp[QzN]) (by rw[hds];exact a3) a4 a5
       rw[hds]at hps;rw[hso];exact⟨_,rfl,by simpa [Q0,QCQ,Qkg]using hps⟩
 ·cases hr
theorem QCh{xs ys:List (Fin 32)}(hp:xs.Perm ys)(hs:ys.Pairwise fun x y=>QkC x<QkC y):QzN xs=ys:=by
 have h1:(QzN xs).Perm xs:=List.mergeSort_perm _ _
 have h2:(QzN xs).Pairwise fun x y=>(!(ltOf cfS) y x)=true:=by
  apply List.pairwise_mergeSort
  ·intro a b c h1 h2
   rw[ltS]at *;simp at *
   omega
  ·intro a b
   rw[ltS,ltS];simp
   omega
 refine List.Perm.eq_of_pairwise (le:=fun x y=>QkC x≤QkC y) ?_ ?_ ?_ (h1.trans hp)
 ·intro a b _ _ h1 h2
  exact QlE a b (by omega)
 ·refine h2.imp ?_
  intro a b h;rw[ltS]at h;simp at h
  omega
 ·exact hs.imp fun h=>by omega
def rng(M:Nat):List Int:=(List.range M).map fun(x:Nat)=>(x:Int)
theorem Qq1:∀n:Fin 6,((rng (2^n.val)).map toF).Perm ((pbs n.val).map toF)∧((pbs n.val).map toF).Pairwise (fun x y=>QkC x<QkC y)∧((pbs n.val).map toF).map ofF=pbs n.val:=by decide+kernel
theorem QCj{n:Nat}(h:n≤5):QCQ (rng (2^n))=pbs n:=by
 obtain⟨h1,h2,h3⟩:=Qq1 ⟨n,by omega⟩
 unfold QCQ;rw[QCh h1 h2,h3]
theorem Qrb{M:Nat}:rng (M+1)=rng M++[(M:Int)]:=by simp[rng,List.range_succ]
theorem QkP{M:Nat}:(rng M).length=M:=by simp[rng]
theorem QvC{M:Nat}{y:Int}(h:y∈rng M):0≤y∧y<M:=by
 simp only[rng,KQ,List.mem_range]at h
 obtain⟨a,h,rfl⟩:=h;omega
theorem Qo9:Qa E0 169 Qke:=by
 refine QG (E:=E0) (T:=mkT Tryz.prog [(205,Qkg)] false (fun _=>false) true (fun _=>false)) (Qd (E:=E0) (.cons QyK .nil)) (fn:=Tryz.f169) Tryz.func169 kR rfl Qc kR rfl ?_
 intro args p rs ms hr;unfold Qke at hr;dsimp only at hr;split at hr;rotate_left
 ·cases hr
 rename_i n;cases hr;refine⟨rfl,rfl,nLe rfl,?_⟩
 have hm:=mxE;rintro⟨hn1,hn2⟩ bs;cases hv:inB n 0 5
 ·have e:Q8 n=[]:=by unfold Q8;rw[hv];rfl
  have e0:(decide (n<0)||decide (n>5))=true:=by
   rw[←KS,Qj]at hv;rw[Kq,KK,KK];omega
  rw[e];clear e;(repeat' first|refine gA fun _=>?_|apply fkI<;>intro hb<;>try simp only[ew,e0]at hb|simp only[go_sem,simprocAttr, *])
  all_goals first|rfl|skip
 ·have hn:=Qj.1 hv
  obtain⟨c,rfl⟩:=KL hn.1;have c5:c≤5:=by omega
  have e:Q8 c=QCQ (rng (2^c)):=by unfold Q8;rw[hv,KE,QCj c5];rfl
  rw[e];clear e;have e0:(decide ((c:Int)<0)||decide ((c:Int)>5))=false:=by
   rw[Kt,Kl,Kl];omega
  have hM2:2^c≤32:=KF (K2 (by omega) c5) (by decide)
  have hM:1*(2:Int)^c=((2^c:Nat):Int):=by simp
  have hr:∀y∈rng (2^c),0≤y∧y≤31:=fun y hy=>by have:=QvC hy;omega
  generalize 2^c=M at hM2 hM hr ⊢;(repeat' first|refine gA fun _=>?_|apply fkI<;>intro hb<;>try simp only[ew,e0,hM]at hb|simp only[go_sem,simprocAttr, *])
  refine lpI {ι:=Nat,rs:=[(13,23)],mods:=[(4,fun x=> .one (.d (.v (.int .i64 x)))),(3,fun x=> .one (.own 1 (iL (rng x)) 1))],boxes:=[],arrs:=[],ok:=fun x=>x≤M,mu:=fun x=>M-x} rfl 0 (KJ _) ?_ fun x hx=>?_
  ·(repeat' first|refine gA fun _=>?_|apply fkI<;>intro hb<;>try simp only[ew,hM]at hb|simp only[go_sem,simprocAttr, *])
   all_goals first|rfl|skip
  ·dsimp only at x hx
   have hl:=@QkP x
   by_cases h5:x<M
   ·have e2:=@Qrb x
    clear hr;(repeat' first|refine gA fun _=>?_|apply fkI<;>intro hb<;>try simp only[ew,hM,Qi,Qo]at hb|simp only[go_sem,simprocAttr, *,Qi,Qo])
    refine lpQ (x+1) ?_
    (repeat' first|refine gA fun _=>?_|apply fkI<;>intro hb<;>try simp only[ew,e2,Qo]at hb|simp only[go_sem,simprocAttr, *,Qo])
   ·have e5:x=M:=by omega
    subst e5;have hmx:x≤maxLen:=KF hM2 (by decide)
    (repeat' first|refine gA fun _=>?_|apply fkI<;>intro hb<;>try simp only[ew,hM,Qi]at hb|simp only[go_sem,simprocAttr, *,Qi])
end Go.Own
namespace Go.Proofs
open Go.Shelf
def Tryz.lays189_ren:Go.Shelf.Ren:=⟨fun|189=>199|125=>214|257=>219|128=>237|129=>238|294=>245|295=>246|296=>247|297=>248|298=>249|299=>250|216=>251|300=>252|301=>253|328=>274|329=>266|330=>267|331=>275|332=>276|215=>277|343=>284|n=>n,fun|28=>31|3=>3|46=>126|0=>0|51=>174|53=>179|4=>4|183=>196|182=>195|131=>77|5=>5|9=>9|218=>222|222=>226|228=>235|229=>124|n=>n,fun|n=>n⟩
theorem Tryz.lays189:Go.Proofs.Lays.n189 Tryz.prog Tryz.lays189_ren:={
 mixed:=Own.kR
 f125:=Tryz.func214.trans (congrArg some Own.kR)
 f128:=Tryz.func237.trans (congrArg some Own.kR)
 f129:=Tryz.func238.trans (congrArg some Own.kR)
 f189:=Tryz.func199.trans (congrArg some Own.kR)
 f215:=Tryz.func277.trans (congrArg some Own.kR)
 f216:=Tryz.func251.trans (congrArg some Own.kR)
 f257:=Tryz.func219.trans (congrArg some Own.kR)
 f294:=Tryz.func245.trans (congrArg some Own.kR)
 f295:=Tryz.func246.trans (congrArg some Own.kR)
 f296:=Tryz.func247.trans (congrArg some Own.kR)
 f297:=Tryz.func248.trans (congrArg some Own.kR)
 f298:=Tryz.func249.trans (congrArg some Own.kR)
 f299:=Tryz.func250.trans (congrArg some Own.kR)
 f300:=Tryz.func252.trans (congrArg some Own.kR)
 f301:=Tryz.func253.trans (congrArg some Own.kR)
 f328:=Tryz.func274.trans (congrArg some Own.kR)
 f329:=Tryz.func266.trans (congrArg some Own.kR)
 f330:=Tryz.func267.trans (congrArg some Own.kR)
 f331:=Tryz.func275.trans (congrArg some Own.kR)
 f332:=Tryz.func276.trans (congrArg some Own.kR)
 f343:=Tryz.func284.trans (congrArg some Own.kR)
 t0:=Tryz.underlying0
 a0:=Tryz.isAgg0
 z0:=Tryz.sizeOf0
 v0:=Tryz.zeroValue0
 t3:=Tryz.underlying3
 a3:=Tryz.isAgg3
 z3:=Tryz.sizeOf3
 v3:=Tryz.zeroValue3
 t4:=Tryz.underlying4
 a4:=Tryz.isAgg4
 z4:=Tryz.sizeOf4
 v4:=Tryz.zeroValue4
 t5:=Tryz.underlying5
 a5:=Tryz.isAgg5
 z5:=Tryz.sizeOf5
 v5:=Tryz.zeroValue5
 t9:=Tryz.underlying9
 a9:=Tryz.isAgg9
 z9:=Tryz.sizeOf9
 v9:=Tryz.zeroValue9
 t28:=Tryz.underlying31
 a28:=Tryz.isAgg31
 z28:=Tryz.sizeOf31
 v28:=Tryz.zeroValue31
 t46:=Tryz.underlying126
 a46:=Tryz.isAgg126
 z46:=Tryz.sizeOf126
 v46:=Tryz.zeroValue126
 t51:=Tryz.underlying174
 a51:=Tryz.isAgg174
 z51:=Tryz.sizeOf174
 v51:=Tryz.zeroValue174
 t53:=Tryz.underlying179
 a53:=Tryz.isAgg179
 z53:=Tryz.sizeOf179
 v53:=Tryz.zeroValue179
 t131:=Tryz.underlying77
 a131:=Tryz.isAgg77
 z131:=Tryz.sizeOf77
 v131:=Tryz.zeroValue77
 t182:=Tryz.underlying195
 a182:=Tryz.isAgg195
 z182:=Tryz.sizeOf195
 v182:=Tryz.zeroValue195
 t183:=Tryz.underlying196
 a183:=Tryz.isAgg196
 z183:=Tryz.sizeOf196
 v183:=Tryz.zeroValue196
 t218:=Tryz.underlying222
 a218:=Tryz.isAgg222
 z218:=Tryz.sizeOf222
 v218:=Tryz.zeroValue222
 t222:=Tryz.underlying226
 a222:=Tryz.isAgg226
 z222:=Tryz.sizeOf226
 v222:=Tryz.zeroValue226
 t228:=Tryz.underlying235
 a228:=Tryz.isAgg235
 z228:=Tryz.sizeOf235
 v228:=Tryz.zeroValue235
 t229:=Tryz.underlying124
 a229:=Tryz.isAgg124
 z229:=Tryz.sizeOf124
 v229:=Tryz.zeroValue124}
def Tryz.laysC_ren:Go.Shelf.Ren:=⟨fun|20=>200|n=>n,fun|22=>31|3=>3|4=>4|0=>0|n=>n,fun|n=>n⟩
theorem Tryz.laysC:Go.Proofs.Lays2.n20 Tryz.prog Tryz.laysC_ren:={
 mixed:=Own.kR
 f20:=Tryz.func200.trans (congrArg some Own.kR)
 t0:=Tryz.underlying0
 a0:=Tryz.isAgg0
 z0:=Tryz.sizeOf0
 v0:=Tryz.zeroValue0
 t3:=Tryz.underlying3
 a3:=Tryz.isAgg3
 z3:=Tryz.sizeOf3
 v3:=Tryz.zeroValue3
 t4:=Tryz.underlying4
 a4:=Tryz.isAgg4
 z4:=Tryz.sizeOf4
 v4:=Tryz.zeroValue4
 t22:=Tryz.underlying31
 a22:=Tryz.isAgg31
 z22:=Tryz.sizeOf31
 v22:=Tryz.zeroValue31
 i3:=by kernel_rfl}
end Go.Proofs
