/- Own contracts. Conditions: as each theorem states them. -/
import Derived.Test.YtnmkpepdacbfaaaGreatDoorRr25
import Derived.Lib.RowBridge
set_option linter.unusedSimpArgs false
set_option linter.unusedVariables false
set_option maxRecDepth 20000
set_option maxHeartbeats 2000000
namespace Go.Own
open Go Go.Proofs Go.RowKit Go.Sort Go.Shelf
theorem QfK{W:Bool}{h:QT}:∀(xs:List (Int×Int)),Qi W h (dL xs).flatten (xs.flatMap QaK) []
 | []=> .nil
 | (a,b)::xs=> .v rfl (.v rfl (QfK xs))
theorem Qdp{W:Bool}{h:QT}:∀{xs:List (Int×Int)} {vs:List Value} {G:List Nat},Qi W h (dL xs).flatten vs G→vs=xs.flatMap QaK∧G=[]
 | [],vs,G,r=>by cases r;exact⟨rfl,rfl⟩
 | (a,b)::xs,vs,G,r=>by
  simp only[dL,List.map_cons,List.flatten_cons,List.cons_append,List.nil_append]at r
  cases r with
  | v _ r=>
   cases r with
   | v _ r=>
    obtain⟨rfl,rfl⟩:=Qdp r;exact⟨rfl,rfl⟩
theorem Qen:∀{xs:List (Int×Int)},(xs.flatMap QaK).length=xs.length*2
 | []=>rfl
 | x::xs=>by rw[List.flatMap_cons,List.length_append,Qen,List.length_cons];show 2+_=_;omega
theorem Qem:∀{xs:List (Int×Int)} {t:Nat},t<xs.length*2→(xs.flatMap QaK)[t]? =some ((QaK xs[t/2]!)[t%2]!)
 | [],t,h=>by simp at h
 | x::xs,0,h=>rfl
 | x::xs,1,h=>rfl
 | x::xs,t+2,h=>by
  have ih:=Qem (xs:=xs) (t:=t) (by simp at h;omega)
  have e1:(t+2)/2=t/2+1:=by omega
  have e2:(t+2)%2=t%2:=by omega
  rw[e1,e2];have e3:(x::xs)[t/2+1]! =xs[t/2]! :=by simp
  rw[e3,←ih];rfl
theorem Qg8{ys:List (Int×Int)}:(flatK QaK 2 ys.toArray).toList=ys.flatMap QaK:=by
 apply List.ext_getElem?
 intro t
 by_cases h:t<ys.length*2
 ·rw[Qem h]
  have h1:t<(flatK QaK 2 ys.toArray).size:=by simpa using h
  rw[Array.getElem?_toList,Array.getElem?_eq_getElem h1,←getElem!_pos (flatK QaK 2 ys.toArray) t h1,get_flatK QaK 2 ys.toArray t (by simpa using h)]
  simp
 ·rw[List.getElem?_eq_none (by simp;omega),List.getElem?_eq_none (by rw[Qen];omega)]
def Qid:Qb:=⟨[true],true,fun
 | [.arr 2 l _]=>some (WfD l∧l.length≤16777216,[⟨false,[.own 2 (dL (Lib.compact (unD l))) 1]⟩],[.gone])
 | _=>none⟩
theorem Qt2:Qa E0 190 Qid:=by
 refine⟨⟨Tryz.f190,Tryz.func190,by kernel_rfl,rfl⟩,?_⟩
 intro args p rs ms hr hp w vals F Ms ha hnd hF hJ hN hMN;unfold Qid at hr;dsimp only at hr;split at hr
 ·rename_i l dp
  cases hr;obtain⟨hl,hlen⟩:=hp;obtain⟨ys,rfl,hmx⟩:=hl.ex;rw[Qm];rw[Qc]at hlen;cases ha with
  | cons h1 h2=>
   cases h2
   cases h1 with
   | arr r1 hdp=>
    rcases r1 with⟨rfl,hnil,rfl,_⟩|⟨b,cap,c,e,G,rfl,rfl,_,a2,a3,a4,a5,a6,a7⟩
    ·have e0:ys=[]:=by
      have:=congrArg List.length hnil
      rw[Qc]at this;exact List.eq_nil_of_length_eq_zero this
     subst e0;refine(Qxa none 0 w).mono ?_
     rintro e w' ⟨rfl,rfl⟩;refine⟨_,rfl,rfl,rfl,rfl,Nat.le_refl _,fun _ _ _=>rfl,[],[[]],[],[],?_,?_,by simp,by simp,by simp,by simp,by simp⟩
     ·have:Qat w'.heap [.own 2 (dL []) 1] [.slice none 0 0] ([]++[]) ([[]]):= .own (.inl ⟨rfl,rfl,rfl,rfl⟩) .nil
      simpa [QbL,QmD,Lib.compact,Lib.compactUpTo,dL]using this
     ·have:=QU.cons (h:=w'.heap) (QaU.gone (v:= .slice none 0 0)) QU.nil
      simpa [Qad,Qid]using this
    ·obtain⟨hv,rfl⟩:=Qdp a7
     rw[Qc]at a3 hv;have hfs:(flatK QaK 2 ys.toArray).size=ys.length*2:=by simp
     have hH:HoldsK QaK 2 w b 0 ys.toArray:=Qdr (enc:=id) a2 (by rw[hfs,Qg8];simpa using hv)
     have hcon:=QzQ b cap ys.toArray w hH (by simp;omega) (by simpa using a3)
     rw[Qc];have hsz:ys.toArray.size=ys.length:=by simp
     rw[hsz]at hcon;refine hcon.mono ?_
     have hcl:=Lib.compact_length_le ys
     have hcc:Lib.compactUpTo ys.toArray ys.length=Lib.compact ys:=rfl
     rintro e w' ⟨rfl,n,d,rfl,hd1,hd2⟩;rw[hsz,hcc]at hd2;rw[hsz]at hd1;rw[hcc];generalize hzs:Lib.compact ys=zs at hcl hd2;have hw:putRow id (Sort.ahead w n) b 0 d=sortWorld id w b 0 n d #[]:=by unfold sortWorld;rw[grow_empty]
     rw[hw];obtain⟨q1,q2,q3⟩:=QbB (enc:=(id:Value→Value)) (n:=n) (d:=d) (os:=#[]) a2;have hlt:b<w.heap.size:=(Array.getElem?_eq_some_iff.1 a2).1
     obtain⟨t1,t2⟩:=QbX (enc:=(id:Value→Value)) (d:=d) (c:=c) (by rw[hd1,a5];exact Nat.mul_le_mul_right 2 a3)
     have q:Qaa (sortWorld id w b 0 n d #[]).heap [b] [] 2 (dL zs) 1 (.slice (some ⟨b,0,none⟩) zs.length cap):=by
      refine .inr ⟨b,cap,_,e,[],by rw[Qc],rfl,rfl,q2,by rw[Qc];omega,a4,by rw[t2];exact a5,?_,?_⟩
      ·intro z hz
       simp only[dL,List.mem_map]at hz
       obtain⟨_,_,rfl⟩:=hz;rfl
      ·rw[Qc]
       have e1:(putCells id 0 d c).toList.take (zs.length*2)=zs.flatMap QaK:=by
        have:(putCells id 0 d c).toList.take (zs.length*2)=((putCells id 0 d c).toList.take d.size).take (zs.length*2):=by
         rw[List.take_take];congr 1;omega
        rw[this,t1,List.map_id];apply List.ext_getElem?
        intro t
        by_cases h:t<zs.length*2
        ·rw[Qem h,List.getElem?_take_of_lt h]
         have h1:t<d.size:=by omega
         have hq:=hd2 (t/2) (by omega)
         rw[Array.getElem?_toList,Array.getElem?_eq_getElem h1,←getElem!_pos d t h1];rcases(show t%2=0∨t%2=1 by omega)with e0|e0
         ·rw[e0]
          have:t=t/2*2:=by omega
          conv=>lhs;rw[this]
          rw[hq.1];rfl
         ·rw[e0]
          have:t=t/2*2+1:=by omega
          conv=>lhs;rw[this]
          rw[hq.2];rfl
        ·rw[List.getElem?_eq_none (by rw[List.length_take];omega),List.getElem?_eq_none (by rw[Qen];omega)]
       rw[e1];exact QfK zs
     refine⟨_,rfl,rfl,rfl,rfl,q1,fun k hk hn=>q3 k hk (by simpa using hn),[],[[b]],[],[],?_,?_,by simp,?_,by simp,by simp,by simp⟩
     ·have:Qat (sortWorld id w b 0 n d #[]).heap [.own 2 (dL zs) 1] [.slice (some ⟨b,0,none⟩) zs.length cap] ([]++[]) ([[b]]):= .own q .nil
      simpa [QbL,QmD]using this
     ·have:=QU.cons (h:=(sortWorld id w b 0 n d #[]).heap) (QaU.gone (v:= .slice (some ⟨b,0,none⟩) ys.length cap)) QU.nil
      simpa [Qad,Qid]using this
     ·intro k hk
      simp only[List.flatten_cons,List.flatten_nil,List.append_nil,List.mem_singleton]at hk
      subst hk;exact⟨.inr ⟨rfl,by simp⟩,by omega⟩
 ·cases hr
end Go.Own

namespace Go.Own
open Go Go.Proofs Go.RowKit Go.Sort Go.Shelf
def cfN(r:Int)(x y:Nat×Nat):Int:=if x.2=y.2 then r else(x.2:Int)-y.2
theorem Qut(W:World)(o1 o2:Obj):grow W #[o1,o2]={W with heap:=(W.heap.push o1).push o2}:=by
 unfold grow;congr 1
theorem QgH(q:Nat)(W:World)(o1 o2:Obj):((W.alloc o1).alloc o2).drewN q=grow (W.drewN q) #[o1,o2]:=by
 rw[Qut];rfl
theorem QtZ(a1 a2 b1 b2:Nat)(r:Int)(h1:a1<32)(h2:a2<5)(h3:b1<32)(h4:b2<5)(W:World)
  (hc:∀W,Calls Tryz.prog 206 #[.int .i64 a1,.int .i64 b1] W fun e w'=>e= .returned (.int .i64 r)∧∃q,w'=W.drewN q):
  Calls Tryz.prog 189 #[.agg #[.int .i64 a1,.int .i64 a2],.agg #[.int .i64 b1,.int .i64 b2]] W fun e w'=>e= .returned (.int .i64 (cfN r (a1,a2) (b1,b2)))∧∃q os,w'=grow (W.drewN q) os:=by
 go_enter Tryz.func189,Tryz.ntmps189
 go_wp2_with (go_at_call 206;refine(hc _).mono ?_;rintro e w' ⟨rfl,q,rfl⟩)
 ·rename_i hb
  go_ret
  have hb:¬a2=b2:=by
   intro h;rw[h]at hb;simp at hb
  refine⟨by unfold cfN;rw[if_neg hb];rfl,0,#[_,_],QgH 0 _ _ _⟩
 ·rename_i hb
  go_ret
  have hb:a2=b2:=by
   have:(a2:Int)=b2:=by simpa using hb
   omega
  refine⟨by unfold cfN;rw[if_pos hb];rfl,q,#[_,_],QgH q _ _ _⟩
def cfQ(x y:Fin 32×Fin 5):Int:=cfN (cfS x.1 y.1) (x.1.val,x.2.val) (y.1.val,y.2.val)
def Qul(x:Fin 32×Fin 5):List Value:=QaK ((x.1.val:Nat),(x.2.val:Nat))
theorem QCt(x y:Fin 32×Fin 5)(W:World):Calls Tryz.prog 189 #[.agg (Qul x).toArray,.agg (Qul y).toArray] W fun e w'=>e= .returned (.int .i64 (cfQ x y))∧∃q os,w'=grow (W.drewN q) os:=
 QtZ x.1.val x.2.val y.1.val y.2.val (cfS x.1 y.1) x.1.isLt x.2.isLt y.1.isLt y.2.isLt W fun W=>QCk x.1 y.1 W
def Qwg(x:Fin 32×Fin 5):Nat:=x.2.val*1000+QiC x.1
theorem Qep(x:Fin 32):QiC x≤351:=by
 have:=QgY x
 unfold QiC;omega
theorem ltQ(x y:Fin 32×Fin 5):ltOf cfQ x y=decide (Qwg x<Qwg y):=by
 have hS:=ltS x.1 y.1
 have k1:=Qep x.1
 have k2:=Qep y.1
 unfold ltOf at hS ⊢;unfold cfQ cfN Qwg
 by_cases h:x.2.val=y.2.val
 ·rw[if_pos h,hS,Bool.eq_iff_iff,decide_eq_true_eq,decide_eq_true_eq]
  omega
 ·rw[if_neg h,Bool.eq_iff_iff,decide_eq_true_eq,decide_eq_true_eq]
  dsimp only;omega
theorem Qnw{x y:Fin 32×Fin 5}(h:Qwg x=Qwg y):x=y:=by
 have k1:=Qep x.1
 have k2:=Qep y.1
 unfold Qwg at h;have h1:x.2.val=y.2.val:=by omega
 have h2:QiC x.1=QiC y.1:=by omega
 exact Prod.ext (Qjq _ _ h2) (Fin.ext h1)
theorem QCB:SWO (ltOf cfQ) where
 irrefl x:=by rw[ltQ];simp
 trans x y z h1 h2:=by rw[ltQ]at *;simp at *;omega
 ntrans x y z h1 h2:=by rw[ltQ]at *;simp at *;omega
theorem QC3(x y:Fin 32×Fin 5)(h1:ltOf cfQ x y=false)(h2:ltOf cfQ y x=false):x=y:=by
 rw[ltQ]at *;simp at h1 h2
 exact Qnw (by omega)
def toQ(d:Int×Int):Fin 32×Fin 5:=(toF d.1,⟨d.2.toNat%5,Nat.mod_lt _ (by decide)⟩)
def ofQ(x:Fin 32×Fin 5):Int×Int:=((x.1.val:Nat),(x.2.val:Nat))
theorem QkJ{d:Int×Int}(h:Qbo d):ofQ (toQ d)=d:=by
 obtain⟨a,b⟩:=d;obtain⟨h1,h2⟩:=h;have:=QAz (y:=a) h1
 unfold ofF at this;unfold ofQ toQ;dsimp only at h1 h2 ⊢;rw[this];refine Prod.ext rfl ?_
 dsimp only;omega
theorem QrH{ys:List (Int×Int)}(h:∀d∈ys,Qbo d):(ys.map toQ).map ofQ=ys:=by
 rw[List.map_map];conv=>rhs;rw[←List.map_id ys]
 exact List.map_congr_left fun d hd=>QkJ (h d hd)
theorem Qv6(zs:List (Fin 32×Fin 5)):flatK Qul 2 zs.toArray=flatK QaK 2 (zs.map ofQ).toArray:=by
 apply Array.ext
 ·simp
 ·intro t h1 h2
  have ht:t<zs.length*2:=by simpa using h1
  rw[←getElem!_pos (flatK Qul 2 zs.toArray) t h1,←getElem!_pos (flatK QaK 2 (zs.map ofQ).toArray) t h2,get_flatK Qul 2 _ t (by simpa using ht),get_flatK QaK 2 _ t (by simpa using ht)]
  have h3:t/2<zs.length:=by omega
  have e1:zs.toArray[t/2]! =zs[t/2]:=by rw[getElem!_pos zs.toArray (t/2) (by simpa using h3)];simp
  have e2:(zs.map ofQ).toArray[t/2]! =ofQ zs[t/2]:=by rw[getElem!_pos (zs.map ofQ).toArray (t/2) (by simpa using h3)];simp
  rw[e1,e2];rfl
def QyN(xs:List (Fin 32×Fin 5)):List (Fin 32×Fin 5):=xs.mergeSort fun x y=> !(ltOf cfQ) y x
def Qd1(ys:List (Int×Int)):List (Int×Int):=(QyN (ys.map toQ)).map ofQ
theorem QhH{ys:List (Int×Int)}:(Qd1 ys).length=ys.length:=by
 unfold Qd1 QyN;rw[List.length_map,List.length_mergeSort,List.length_map]
theorem Qpo{w:World}{b n cap:Nat}{ys zs:List (Int×Int)}{os:Array Obj}{c:Array Value}{e:TypeId}{F:List Nat}{x:Value}(hb:w.heap[b]? =some (.cells c e (0,0)))(hs:zs.length=ys.length)(hc:ys.length≤cap)(hm:cap≤maxLen)(hcc:c.size=cap*2):
  QfU false w (sortWorld id w b 0 n (flatK QaK 2 zs.toArray) os) F [[b]] [.slice (some ⟨b,0,none⟩) ys.length cap] [] [.arr 2 (dL zs) 1] x:=by
 obtain⟨h1,h2,h3⟩:=QbB (enc:=(id:Value→Value)) (n:=n) (d:=flatK QaK 2 zs.toArray) (os:=os) hb;have hlt:b<w.heap.size:=(Array.getElem?_eq_some_iff.1 hb).1
 have hfs:(flatK QaK 2 zs.toArray).size=ys.length*2:=by simp[hs]
 obtain⟨t1,t2⟩:=QbX (enc:=(id:Value→Value)) (d:=flatK QaK 2 zs.toArray) (c:=c) (by rw[hfs,hcc];exact Nat.mul_le_mul_right 2 hc)
 refine⟨rfl,rfl,rfl,h1,fun k hk hn=>h3 k hk (by simpa using hn),[],[],[],[[b]],⟨rfl,rfl⟩,?_,by simp,by simp,by simp,by simp,?_,by simp⟩
 ·have q:Qaa (sortWorld id w b 0 n (flatK QaK 2 zs.toArray) os).heap [b] [] 2 (dL zs) 1 (.slice (some ⟨b,0,none⟩) ys.length cap):=by
   refine .inr ⟨b,cap,_,e,[],by rw[Qc,hs],rfl,rfl,h2,by rw[Qc];omega,hm,by rw[t2];exact hcc,?_,?_⟩
   ·intro z hz
    simp only[dL,List.mem_map]at hz
    obtain⟨_,_,rfl⟩:=hz;rfl
   ·rw[Qc,hs]
    rw[hfs]at t1;rw[t1,List.map_id,Qg8];exact QfK zs
  have:=QU.cons (QaU.arr q (by decide)) QU.nil
  simpa using this
 ·intro k hk
  simp only[List.flatten_cons,List.flatten_nil,List.append_nil,List.mem_singleton]at hk
  subst hk;exact⟨by omega,by simp,Or.inr (by simp)⟩
def QdM:Qb:=⟨[true],false,fun
 | [.arr 2 l _,.fnc f []]=>some (f=189∧WfD l∧(∀y∈unD l,Qbo y)∧l.length≤16777216,[],[.arr 2 (dL (Qd1 (unD l))) 1])
 | _=>none⟩
theorem Qpn:Qa E0 188 QdM:=by
 refine⟨⟨Tryz.f188,Tryz.func188,by kernel_rfl,rfl⟩,?_⟩
 intro args p rs ms hr hp w vals F Ms ha hnd hF hJ hN hMN;unfold QdM at hr;dsimp only at hr;split at hr
 ·rename_i l dp f
  cases hr;obtain⟨rfl,hl,hy,hlen⟩:=hp;obtain⟨ys,rfl,hmx⟩:=hl.ex;rw[Qm]at hy ⊢;rw[Qc]at hlen;cases ha with
  | cons h1 h2=>
   cases h2 with
   | cons h2 h3=>
    cases h3
    cases h1 with
    | arr r1 hdp=>
     cases h2 with
     | fnc r2=>
      cases r2
      have eg:∀args w,(callFunc 189 args).run Tryz.prog w= .ok (.enter 189 args) w:=enters_of Tryz.func189 (by kernel_rfl) rfl
      rcases r1 with⟨rfl,hnil,rfl,_⟩|⟨b,cap,c,e,G,rfl,rfl,_,a2,a3,a4,a5,a6,a7⟩
      ·have e0:ys=[]:=by
        have:=congrArg List.length hnil
        rw[Qc]at this;exact List.eq_nil_of_length_eq_zero this
       subst e0;have hcon:=AnyF.slices_SortFunc_none Tryz.sortD none 0 (.func (.func 189) #[] #[]) w
       change Calls Tryz.prog 188 _ _ _ at hcon
       refine hcon.mono ?_
       rintro e w' ⟨rfl,rfl⟩;refine⟨_,rfl,rfl,rfl,rfl,Nat.le_refl _,fun _ _ _=>rfl,[],[],[],[[]],⟨rfl,rfl⟩,?_,by simp,by simp,by simp,by simp,by simp⟩
       have:=QU.cons (h:=w'.heap) (QaU.arr (s:=2) (l:=[]) (dp:=1) (m:=[]) (.inl ⟨rfl,rfl,rfl,rfl⟩) (by decide)) QU.nil
       simpa [Qd1,QyN,dL,Qad,QdM]using this
      ·obtain⟨hv,rfl⟩:=Qdp a7
       rw[Qc]at a3 hv;have hds:((ys.map toQ).toArray).size=ys.length:=by simp
       have hfl:flatK Qul 2 (ys.map toQ).toArray=flatK QaK 2 ys.toArray:=by rw[Qv6,QrH hy]
       have hfs:(flatK QaK 2 ys.toArray).size=ys.length*2:=by simp
       have hH:HoldsK Qul 2 w b 0 (ys.map toQ).toArray:=by
        unfold HoldsK;rw[hfl];exact Qdr (enc:=id) a2 (by rw[hfs,Qg8];simpa using hv)
       have hcon:=AnyQ.slices_SortFunc_total Tryz.sortD 2 (fun w=>by change (isAgg 57).run Tryz.prog w=_;simp) (fun w=>by change (Go.sizeOf 57).run Tryz.prog w=_;simp) Qul (fun _=>rfl) (fun x=>Quk _) cfQ QCB 189 #[] b 0 cap (ys.map toQ).toArray w eg
        (fun _ _ _ _ x y=>QCt x y _) hH (Array.getElem?_eq_some_iff.1 a2).1 (by rw[hds];omega) QC3
       change Calls Tryz.prog 188 _ _ _ at hcon
       rw[hds]at hcon;rw[Qc];refine hcon.mono ?_
       rintro e w' ⟨rfl,n,os,rfl⟩;have hso:((ys.map toQ).toArray.toList.mergeSort fun x y=> !(ltOf cfQ) y x)=QyN (ys.map toQ):=rfl
       rw[hso];have hw:sortWorldK Qul 2 w b 0 n (QyN (ys.map toQ)).toArray os=sortWorld id w b 0 n (flatK QaK 2 (Qd1 ys).toArray) os:=by
        unfold Qd1;rw[←Qv6];rfl
       rw[hw];have hps:=Qpo (n:=n) (os:=os) (F:=[]) (x:= .tuple #[]) (ys:=ys) (zs:=Qd1 ys) a2 QhH a3 a4 a5
       exact⟨_,rfl,by simpa [Qad,QdM]using hps⟩
 ·cases hr
end Go.Own
