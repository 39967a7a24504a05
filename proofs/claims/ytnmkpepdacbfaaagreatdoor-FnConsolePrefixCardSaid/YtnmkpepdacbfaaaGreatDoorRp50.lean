/- Contracts. Conditions: as stated. -/
import Derived.ChangeArms
import Derived.DataReads
import Derived.Below
import Derived.Test.YtnmkpepdacbfaaaGreatDoorRows
import Derived.WalkKit
import Derived.ProofKit
import Derived.OpenShut
import Derived.ShutString
import Derived.ChangeOld
import Derived.Test.YtnmkpepdacbfaaaGreatDoorRp11
import Derived.Handed
import Derived.LaidLaws
import Derived.LaidMore
import Derived.LaidHandle
import Derived.Lay
import Derived.Stop.LaidErr
import Derived.Shelf.Vars
set_option linter.all false
set_option maxRecDepth 100000
namespace Go.Own
open Go
section
def QkX(P:Program)(w:World)(t:TypeId)(S:List D→Prop):Prop:=
 ∀(H:Type) (enc:TypeId×Value→H) (fuel:Nat) (cs:List Value) (x:DataW H×List MemPlace),DataW.trod enc P w 0 (fun _=>true) true fuel t cs=some x→∃ds F,Qbl w.heap ds cs F∧S ds
section
variable {P:Program} {w:World} {t:TypeId}
theorem Qvm{k:IntKind}(ht:P.underlying t=some (.int k)):QkX P w t fun ds=>∃n,ds=[.v (.int k n)]∧k.min≤n∧n≤k.max:=by
 intro H enc fuel cs x h;obtain⟨n,rfl,_,hw⟩:=DataW.trod_int ht h;refine⟨[.v (.int k n)],[],.v rfl .nil,n,rfl,?_⟩
 simpa [Lit.wf]using hw
theorem Qo7{e:TypeId}{S:List D→Prop}{n:Nat}(ht:P.underlying t=some (.slice e))(hn:P.cellsOf e=n)(h0:0<n)(he:QkX P w e S):
  QkX P w t fun ds=>∃l:List (List D),ds=[.sl n l]∧l.length≤maxLen∧∀d∈l,d.length=n∧S d:=by
 intro H enc fuel cs x h;rcases DataW.trod_slice ht h with⟨rfl,_⟩|⟨a,len,cap,elems,Qal,m,_,rfl,_,_,hl,hm,hlen,hel,hsp,_⟩
 ·exact⟨[.sl n []],[],.none (fun h=>nomatch h) .nil,[],rfl,by simp,by simp⟩
 ·obtain⟨hrl,hre⟩:=hsp rfl
  rw[hn]at hel hre;have cells:∀i,i<cap→∃cs',w.cells? 0 (a.add (i*n)) n=some cs':=fun i hi=>by
   by_cases h1:i<len
   ·have:=hel i h1
    rw[Kc (by omega)]at this
    cases hc:w.cells? 0 (a.add (i*n)) n with
    | none=>rw[hc]at this;cases this
    | some cs'=>exact⟨cs',rfl⟩
   ·have:=hre (i-len) (by omega)
    rw[Kc (by omega)]at this
    have e:len+(i-len)=i:=by omega
    rw[e]at this;cases hc:w.cells? 0 (a.add (i*n)) n with
    | none=>rw[hc]at this;cases this
    | some cs'=>exact⟨cs',rfl⟩
  by_cases hc0:cap=0
  ·have:len=0:=by omega
   subst this;subst hc0;exact⟨[.sl n []],[],.none (fun h=>nomatch h) .nil,[],rfl,by simp,by simp⟩
  ·have hcap:0<cap:=Nat.pos_of_ne_zero hc0
   obtain⟨b,off,spot⟩:=a;obtain⟨c,u,fz,hb,rfl⟩:∃c u fz,w.heap[b]? =some (.cells c u fz)∧spot=none:=by
    obtain⟨cs',hcs⟩:=cells 0 hcap;obtain⟨_,h2,h3⟩:=World.cells?_some hcs;have h4:=h3 0 h0
    rw[Kc (by rw[h2];exact h0)]at h4
    simp only[Nat.zero_mul,Addr.add,if_true]at h4
    unfold World.cell? at h4;split at h4
    ·rename_i c u fz hb
     split at h4
     ·cases h4
     ·rename_i hs
      exact⟨c,u,fz,hb,by cases spot<;>simp_all⟩
    ·cases h4
   have row:∀i,i<cap→∀cs',w.cells? 0 (Addr.add ⟨b,off,none⟩ (i*n)) n=some cs'→cs'=(c.toList.drop (off+i*n)).take n∧off+i*n+n≤c.size:=fun i hi cs' hcs=>by
    obtain⟨_,h2,h3⟩:=World.cells?_some hcs;have h4:∀j,j<n→c[off+i*n+j]? =cs'[j]? :=fun j hj=>by
     have:=h3 j hj
     rw[QbK,QbK,Qb0 rfl hb]at this;exact this
    refine⟨?_,?_⟩
    ·apply List.ext_getElem?
     intro j
     by_cases hj:j<n
     ·rw[Ky hj,YQ,←h4 j hj];simp
     ·rw[K6 (by omega),K6 (by simp;omega)]
    ·have:=h4 (n-1) (by omega)
     rw[Kc (by omega)]at this
     have:=(Kb.1 this).1
     omega
   have hsz:off+cap*n≤c.size:=by
    obtain⟨cs',hcs⟩:=cells (cap-1) (by omega)
    have:=(row (cap-1) (by omega) cs' hcs).2
    have e:(cap-1)*n+n=cap*n:=by
     rw[←Nat.succ_mul];congr 1;omega
    omega
   have main:∀k,k≤len→∃(l:List (List D)) (F:List Nat),l.length=k∧Qbl w.heap l.flatten ((c.toList.drop off).take (k*n)) F∧∀d∈l,d.length=n∧S d:=by
    intro k;induction k with
    | zero=>intro _;exact⟨[],[],rfl,by simpa using Qn.nil,by simp⟩
    | succ k ih=>
     intro hk;obtain⟨l,F,g1,g2,g3⟩:=ih (by omega)
     obtain⟨cs',hcs⟩:=cells k (by omega)
     have hrow:=(row k (by omega) cs' hcs).1
     have hk2:=hel k (by omega)
     rw[hcs,Kc (by omega)]at hk2
     obtain⟨ds,G,q1,q2⟩:=he H enc m cs' _ hk2;have hdl:ds.length=n:=by rw[q1.length];exact(World.cells?_some hcs).2.1
     refine⟨l++[ds],F++G,by simp[g1],?_,fun d hd=>?_⟩
     ·rw[Nat.succ_mul,List.take_add,List.drop_drop,←hrow]
      simpa using g2.append q1
     ·rcases KG.1 hd with hd|hd
      ·exact g3 d hd
      ·simp at hd;subst hd;exact⟨hdl,q2⟩
   obtain⟨l,F,g1,g2,g3⟩:=main len (KP _);subst g1;refine⟨[.sl n l],b::(F++[]),.sl (fun h=>nomatch h) hb hl hm (by have:=Ka n hl;omega) (fun d hd=>(g3 d hd).1) g2 .nil,l,rfl,by omega,g3⟩
end
end
section
open Go.Proofs Go.WideShapes
theorem QkX.mono{P:Program}{w:World}{t:TypeId}{S S':List D→Prop}(o:QkX P w t S)(h:∀ds,S ds→S' ds):QkX P w t S':=fun H enc fuel cs x hx=>by
 obtain⟨ds,F,r,hs⟩:=o H enc fuel cs x hx;exact⟨ds,F,r,h ds hs⟩
theorem QyA{h:Q6}{v:Value}{F:List Nat}{os:List (List Nat)}(r:QbF h [⟨false,[.d (.v (.bool true))]⟩] v F os):v= .bool true:=by
 have r':QaN h [.d (.v (.bool true))] [v] F os:=r
 cases r' with
 | d h1 _=>cases h1 with|v _ _=>rfl
theorem Qk6{alias:Bool}{w w':World}{F:List Nat}{mv:List Value}{rs:List RV}{ms:List Arg}{v:Value}(po:Qd3 alias w w' F [] mv rs ms v):Go.RowKit.Below w.heap.size w w':=
 ⟨po.os,po.tape,po.output,po.grow,fun k hk=>po.old k hk (by simp)⟩
theorem QrI{P:Program}{w:World}{t:TypeId}{S:List D→Prop}(o:QkX P w t S){H:Type}{enc:TypeId×Value→H}{v:Value}{d0:DataW H}{p0:List MemPlace}
  (h:DataW.Trod enc P w 0 (fun _=>true) true t v d0 p0):∃ds F,Qbl w.heap ds v.cells.toList F∧S ds:=by
 obtain⟨fuel,hf⟩:=h;exact o H enc fuel _ _ hf
theorem Qog{h:Q6}{d:D}{a:Option Addr}{n c:Nat}{F:List Nat}(r:Qbl h [d] (Value.slice a n c).cells.toList F):Qbi h (.one d) (.slice a n c) F []:=Qbi.one r
end
section
open Go.Proofs Go.WideShapes
end
section
open Go.Proofs Go.WideShapes
end
section
open Go.Proofs Go.WideShapes
theorem QEj{l:List (List D)}(h:∀d∈l,∃n:Int,d=[.v (.int .u8 n)]):l=bL (unB l):=by
 induction l with
 | nil=>rfl
 | cons d l ih=>
  obtain⟨n,rfl⟩:=h d (by simp)
  have:=ih fun d hd=>h d (by simp[hd])
  simp only[bL,unB,List.map_cons]at this ⊢
  rw[←this]
def ShU(ds:List D):Prop:=∃n:Int,ds=[.v (.int .u8 n)]∧0≤n∧n≤255
def ShB(ds:List D):Prop:=∃l:List (List D),ds=[.sl 1 l]∧WfB l∧∀b∈unB l,0≤b∧b≤255
theorem oU(w:World):QkX Tryz.prog w 5 ShU:=(Qvm Tryz.underlying5).mono fun ds h=>h
theorem oB(w:World):QkX Tryz.prog w 24 ShB:=(Qo7 (n:=1) Tryz.underlying24 kR (by decide) (oU w)).mono fun _ h=>by
 obtain⟨l,rfl,h1,h2⟩:=h;have e:l=bL (unB l):=QEj fun d hd=>by
  obtain⟨_,n,rfl,_⟩:=h2 d hd;exact⟨n,rfl⟩
 refine⟨l,rfl,⟨e,h1⟩,fun b hb=>?_⟩
 have:[D.v (.int .u8 b)]∈l:=by rw[e];exact KQ.2 ⟨b,hb,rfl⟩
 obtain⟨_,n,hn,h3⟩:=h2 _ this;simp only[YO,D.v.injEq,Value.int.injEq,true_and,and_true]at hn
 subst hn;exact h3
end
section
variable {H:Type} {enc:TypeId×Value→H}
theorem QgQ{a:Assume}{C:Checked}{os:Os}{f:FuncId}{fn:Func}{s:ChangeSpec}{conds:List PathCond}{apart fresh handsOn again:Bool}{X:World→Array Value→Prop}
  (hX:∀(w w':World) (args:Array Value),w.heap=w'.heap→X w args→X w' args)
  (own:ownKnob C.prog.godebug=none) (started:os.Started) (noInit:C.prog.inits.idxOf? f=none) (hfn:C.prog.funcs[f]? =some fn)
  (witness:∃(w:World) (tape:Tape) (i:Input),w.os=os∧(w.forCall tape i).Shaped C.prog∧i.vars=[]∧Input.okWide C.prog (w.forCall tape i) .any w.heap.size f i∧
   ((s.pre enc C.prog fn conds apart (w.forCall tape i).memory i.args∧X (w.forCall tape i).memory i.args)∧sizedMet enc C.prog fn (OpenSpec.ofChange s) apart (w.forCall tape i).memory i.args)∧a.holds C.prog (lone (Frame.enter C.prog f i.args .normal) [] (w.forCall tape i)))
  (contract:∀(W:World) (base:Nat) (args:Array Value) (ds gs:List (DataW H)) (before:List MemPlace),
   (∀(j:Nat) t v,fn.params[j]? =some t→args[j]? =some v→Value.okWide C.prog W .any base t v)→
   DataW.Whole enc C.prog fn.params.toList s.vars apart W args.toList ds gs before→
   X W args→W.ShapedOpen C.prog→
   Calls C.prog f args W fun e W'=>∃v,e= .returned v∧s.post enc C.prog fn apart fresh handsOn again W args v W'):
  ReturnsInHanded a C os f .any (fun w args=>(s.pre enc C.prog fn conds apart w args∧X w args)∧sizedMet enc C.prog fn (OpenSpec.ofChange s) apart w args) (s.post enc C.prog fn apart fresh handsOn again):=by
 refine returnsInHanded_of_calls own started noInit witness ?_
 intro w tape i _ hsh _ hok hpre _;obtain⟨_,_,_,fn2,hfn2,_,_,_,_,hval⟩:=hok;obtain rfl:fn2=fn:=K0 (hfn2.symm.trans hfn);obtain⟨⟨⟨ds,gs,before,hw,_⟩,hx⟩,_⟩:=hpre;refine(contract (w.forCall tape i) w.heap.size i.args ds gs before hval (DataW.Whole.of_heap (w':=w.forCall tape i) (by rfl) hw) (hX _ _ _ (by rfl) hx) hsh).mono fun e W' h=>?_
 obtain⟨v,rfl,hp⟩:=h;exact ChangeSpec.post_blind hp
end
open Go.Proofs Go.RowKit Go.ChangeShapes Go.Proofs.YtnmkpepdacbfaaaGreatDoor
theorem QEn: "*" ++ "errors.errorString" = "*errors.errorString" :=by decide
theorem QFR(u:TypeId)(h:Tryz.prog.typeName? 3 u=some "*errors.errorString"):u=204:=
 typeName_ptr_named (nm:= "errors.errorString") (by rw[QEn];kernel_rfl) kR (by decide) u (by rw[QEn];exact h)
theorem Qzb:Tryz.prog.cellsOf 206=1:=kR
theorem Qzc:Tryz.prog.cellsOf 9=1:=kR
theorem QdE{w:World}{g:Nat}{v:Value}(h:w.cell? ⟨g,0,none⟩=some v):∃c e fz,w.heap[g]? =some (.cells c e fz)∧c[0]? =some v:=by
 unfold World.cell? at h;dsimp only at h;split at h
 ·rename_i c e fz hh
  exact⟨c,e,fz,hh,h⟩
 ·cases h
abbrev QDL:List (String×DataW Unit):=[("math/bits.deBruijn32tab",Rows.laid_math_bits_deBruijn32tab),("math/bits.deBruijn64tab",Rows.laid_math_bits_deBruijn64tab),("internal/strconv.uint64pow10",Rows.laid_internal_strconv_uint64pow10),("unicode/utf8.acceptRanges",Rows.laid_unicode_utf8_acceptRanges),("strconv.ErrRange",Rows.laid_strconv_ErrRange),("strconv.ErrSyntax",Rows.laid_strconv_ErrSyntax),("unicode/utf8.first",Rows.laid_unicode_utf8_first)]
theorem QDP(w:World)(hsh:w.ShapedOpen Tryz.prog)(hL0:laidMetH Tryz.prog QDL w):Low w.heap∧8≤w.heap.size:=by
 rw[MakeChecks.laidMetH_plain _ _ _ kR]at hL0
 have hL:laidMet Tryz.prog QDL w:=hL0
 have h2:=hL.tail
 have h3:=h2.tail
 have h5:=h3.tail.tail
 have h6:=h5.tail
 obtain⟨m,hm⟩:=cell_of_shapedOpen_int (P:=Tryz.prog) (g:=0) (t:=3) (zero:=#[.int .i64 0]) hsh (of_decide_eq_true kR) kR rfl kR kR Tryz.underlying3
 have g4:Tryz.prog.globalNamed "strconv.ErrRange" =some 4:=kR
 have g3:Tryz.prog.globalNamed "strconv.ErrSyntax" =some 3:=kR
 have t4:(Tryz.prog.globals[4]?).map (·.type)=some 117:=kR
 have t3:(Tryz.prog.globals[3]?).map (·.type)=some 117:=kR
 obtain⟨a0,s0,hv0,-,-,-⟩:=laid_sentinel h5 g4 t4 Tryz.underlying117 QFR Tryz.underlying204 Tryz.underlying206 rfl rfl Tryz.underlying9 Qzb Qzc;obtain⟨a1,s1,hv1,-,-,-⟩:=laid_sentinel h6 g3 t3 Tryz.underlying117 QFR Tryz.underlying204 Tryz.underlying206 rfl rfl Tryz.underlying9 Qzb Qzc;have c4:w.cell? ⟨4,0,none⟩=some (.iface 204 (.pointer (some a0))):=by have h0:=World.var?_cell g4 hv0 0;simpa using h0
 have c3:w.cell? ⟨3,0,none⟩=some (.iface 204 (.pointer (some a1))):=by have h0:=World.var?_cell g3 hv1 0;simpa using h0
 obtain⟨ps,⟨g2,t2,cs2,fu2,p2,q2,hg,ht,hv,hd,_⟩,_⟩:=h3;have eg:g2=5:=K0 (hg.symm.trans kR)
 subst eg;have et:t2=229:=K0 (ht.symm.trans kR)
 subst et;have hc:=Lib.cells_of_tab (zs:=Lib.pow10Tab) Tryz.underlying229 Tryz.underlying179 kR kR hd
 have h8:8≤w.heap.size:=by
  obtain⟨ps,⟨g7,_,cs7,_,_,_,hg7,_,hv7,_⟩,_⟩:=h2;have eg:g7=7:=K0 (hg7.symm.trans kR)
  subst eg;unfold World.var? at hv7;rw[hg7]at hv7;have hv8:(match w.heap[7]? with|some (Go.Obj.cells cs _ _)=>some cs|_=>none)=some cs7:=hv7
  cases hq:w.heap[7]? with
  | none=>rw[hq]at hv8;cases hv8
  | some o=>exact(Kb.1 hq).1
 refine⟨⟨?_,?_,?_,?_⟩,h8⟩
 ·obtain⟨c,e,fz,q1,q2⟩:=QdE hm
  exact⟨c,e,fz,q1,m,q2⟩
 ·obtain⟨c,e,fz,q1,q2⟩:=QdE c3
  exact⟨c,e,fz,q1,_,q2,.inr ⟨_,_,rfl⟩⟩
 ·obtain⟨c,e,fz,q1,q2⟩:=QdE c4
  exact⟨c,e,fz,q1,_,q2,.inr ⟨_,_,rfl⟩⟩
 ·unfold World.var? at hv
  rw[hg]at hv;have hv2:(match w.heap[5]? with|some (Go.Obj.cells cs _ _)=>some cs|_=>none)=some cs2:=hv
  split at hv2
  ·rename_i cs e fz hh
   simp only[KA]at hv2
   subst hv2;refine⟨e,fz,hh.trans ?_⟩
   have:cs=QE9:=by
    apply Array.toList_inj.1
    rw[hc];rfl
   rw[this]
  ·cases hv2
end Go.Own
