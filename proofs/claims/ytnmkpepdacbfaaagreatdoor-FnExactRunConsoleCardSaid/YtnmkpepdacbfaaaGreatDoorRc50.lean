/- Own contracts. Conditions: as each theorem states them. -/
import Derived.Test.YtnmkpepdacbfaaaGreatDoorRc49
import Derived.ChangeArms
import Derived.DataReads
import Derived.Test.YtnmkpepdacbfaaaGreatDoorRows
import Derived.ProofKit
import Derived.OpenShut
import Derived.ShutString
import Derived.ChangeOld
import Derived.Handed
import Derived.LaidLaws
import Derived.LaidMore
import Derived.LaidHandle
import Derived.Lay
import Derived.Stop.LaidErr
import Derived.Shelf.Vars
set_option linter.unusedSimpArgs false
set_option linter.unusedVariables false
set_option maxRecDepth 100000
set_option maxHeartbeats 4000000
namespace Go.Own
open Go Go.Proofs
attribute [local go_sem] cRC Tryz.results3
theorem QpJ(b:ByteArray):(!(b.toList==b.toList))=false:=by simp
def Qsi:Qb:=⟨[],false,fun
 | [.one (.v (.string s))]=>some (True,[⟨false,[.d (.v (.bool true))]⟩],[])
 | _=>none⟩
attribute [local go_sem] Qsi
theorem QwG:Qa E0 3 Qsi:=by
 refine QE (E:=E0) (T:=mkT Tryz.prog [(6,cRC),(7,cRC)] false (fun _=>false) true (fun _=>false)) (Qd (E:=E0) (.cons QB6 (.cons QB5 .nil))) (fn:=Tryz.f3) Tryz.func3 (by kernel_rfl) rfl Qc (by kernel_rfl) rfl ?_
 intro args p rs ms hr;unfold Qsi at hr;dsimp only at hr;split at hr;rotate_left
 ·cases hr
 rename_i s;cases hr;refine⟨rfl,rfl,nLe rfl,?_⟩
 have hm:=mxE;intro _ bs
 by_cases hs:s.size>1048576
 ·have h':decide (((s.size:Nat):Int)>1048576)=true:=decide_eq_true (by omega)
  exact gQ
 ·have h':decide (((s.size:Nat):Int)>1048576)=false:=decide_eq_false (by omega)
  generalize hR:rcF s=R;(repeat' first|refine gA fun _=>?_|apply fkI<;>intro hb<;>try simp only[ew,QpJ,hR]at hb|simp only[go_sem,simprocAttr, *,QpJ,hR])
  all_goals first|rfl|skip
end Go.Own

namespace Go.Own
open Go
def Qyj(P:Program)(w:World)(t:TypeId)(S:List D→Prop):Prop:=
 ∀(H:Type) (enc:TypeId×Value→H) (fuel:Nat) (cs:List Value) (x:DataW H×List MemPlace),DataW.trod enc P w 0 (fun _=>true) true fuel t cs=some x→∃ds F,Qbj w.heap ds cs F∧S ds
section
variable {P:Program} {w:World} {t:TypeId}
end
end Go.Own
/-
  The common part of the laws' proofs: the parameters' types opened as data; what a contract's post says of a law that returns true. Conditions: as each theorem states them.
-/
namespace Go.Own
open Go Go.Proofs Go.WideShapes
theorem Qyj.mono{P:Program}{w:World}{t:TypeId}{S S':List D→Prop}(o:Qyj P w t S)(h:∀ds,S ds→S' ds):Qyj P w t S':=fun H enc fuel cs x hx=>by
 obtain⟨ds,F,r,hs⟩:=o H enc fuel cs x hx;exact⟨ds,F,r,h ds hs⟩
theorem QwX{h:Q5}{v:Value}{F:List Nat}{os:List (List Nat)}(r:Qbt h [⟨false,[.d (.v (.bool true))]⟩] v F os):v= .bool true:=by
 have r':QaG h [.d (.v (.bool true))] [v] F os:=r
 cases r' with
 | d h1 _=>cases h1 with|v _ _=>rfl
theorem Qkp{alias:Bool}{w w':World}{F:List Nat}{mv:List Value}{rs:List RV}{ms:List Arg}{v:Value}(po:QeK alias w w' F [] mv rs ms v):Go.RowKit.Below w.heap.size w w':=
 ⟨po.os,po.tape,po.output,po.grow,fun k hk=>po.old k hk (by simp)⟩
end Go.Own
/-
  Lists of dependencies and monitors, opened as data. Conditions: none.
-/
namespace Go.Own
open Go Go.Proofs Go.WideShapes
end Go.Own
/-
  Monitors, opened as data, with the bounds of their number of columns. Conditions: none.
-/
namespace Go.Own
open Go Go.Proofs Go.WideShapes
end Go.Own

namespace Go.Own
open Go
variable {H:Type} {enc:TypeId×Value→H}
theorem Qgp{a:Assume}{C:Checked}{os:Os}{f:FuncId}{fn:Func}{s:ChangeSpec}{conds:List PathCond}{apart fresh handsOn again:Bool}{X:World→Array Value→Prop}
  (hX:∀(w w':World) (args:Array Value),w.heap=w'.heap→X w args→X w' args)
  (own:ownKnob C.prog.godebug=none) (started:os.Started) (noInit:C.prog.inits.idxOf? f=none) (hfn:C.prog.funcs[f]? =some fn)
  (witness:∃(w:World) (tape:Tape) (i:Input),w.os=os∧(w.forCall tape i).Shaped C.prog∧i.vars=[]∧Input.okWide C.prog (w.forCall tape i) .any w.heap.size f i∧
   ((s.pre enc C.prog fn conds apart (w.forCall tape i).memory i.args∧X (w.forCall tape i).memory i.args)∧sizedMet enc C.prog fn (OpenSpec.ofChange s) apart (w.forCall tape i).memory i.args)∧a.holds C.prog (lone (Frame.enter C.prog f i.args .normal) [] (w.forCall tape i)))
  (contract:∀(W:World) (base:Nat) (args:Array Value) (ds gs:List (DataW H)) (before:List MemPlace),
   (∀(j:Nat) t v,fn.params[j]? =some t→args[j]? =some v→Value.okWide C.prog W .any base t v)→
   DataW.Whole enc C.prog fn.params.toList s.vars apart W args.toList ds gs before→
   X W args→W.ShapedOpen C.prog→
   Calls C.prog f args W fun e W'=>∃v,e= .returned v∧s.post enc C.prog fn apart fresh handsOn again W args v W'):
  ReturnsInHanded a C os f .any (fun w args=>(s.pre enc C.prog fn conds apart w args∧X w args)∧sizedMet enc C.prog fn (OpenSpec.ofChange s) apart w args) (s.post enc C.prog fn apart fresh handsOn again):=by
 refine returnsInHanded_of_calls own started noInit witness ?_
 intro w tape i _ hsh _ hok hpre _;obtain⟨_,_,_,fn2,hfn2,_,_,_,_,hval⟩:=hok;obtain rfl:fn2=fn:=Option.some.inj (hfn2.symm.trans hfn);obtain⟨⟨⟨ds,gs,before,hw,_⟩,hx⟩,_⟩:=hpre;refine(contract (w.forCall tape i) w.heap.size i.args ds gs before hval (DataW.Whole.of_heap (w':=w.forCall tape i) (by rfl) hw) (hX _ _ _ (by rfl) hx) hsh).mono fun e W' h=>?_
 obtain⟨v,rfl,hp⟩:=h;exact ChangeSpec.post_blind hp
end Go.Own

namespace Go.Own
open Go Go.Proofs Go.RowKit Go.ChangeShapes Go.Proofs.YtnmkpepdacbfaaaGreatDoor
theorem QCh: "*" ++ "errors.errorString" = "*errors.errorString" :=by decide
theorem QDI(u:TypeId)(h:Tryz.prog.typeName? 3 u=some "*errors.errorString"):u=204:=
 typeName_ptr_named (nm:= "errors.errorString") (by rw[QCh];kernel_rfl) (by kernel_rfl) (by decide) u (by rw[QCh];exact h)
theorem QxA:Tryz.prog.cellsOf 206=1:=by kernel_rfl
theorem QxB:Tryz.prog.cellsOf 9=1:=by kernel_rfl
theorem Qdk{w:World}{g:Nat}{v:Value}(h:w.cell? ⟨g,0,none⟩=some v):∃c e fz,w.heap[g]? =some (.cells c e fz)∧c[0]? =some v:=by
 unfold World.cell? at h;dsimp only at h;split at h
 ·rename_i c e fz hh
  exact⟨c,e,fz,hh,h⟩
 ·cases h
abbrev QBJ:List (String×DataW Unit):=[("math/bits.deBruijn32tab",Rows.laid_math_bits_deBruijn32tab),("math/bits.deBruijn64tab",Rows.laid_math_bits_deBruijn64tab),("internal/strconv.uint64pow10",Rows.laid_internal_strconv_uint64pow10),("unicode/utf8.acceptRanges",Rows.laid_unicode_utf8_acceptRanges),("strconv.ErrRange",Rows.laid_strconv_ErrRange),("strconv.ErrSyntax",Rows.laid_strconv_ErrSyntax),("unicode/utf8.first",Rows.laid_unicode_utf8_first)]
theorem QBM(w:World)(hsh:w.ShapedOpen Tryz.prog)(hL0:laidMetH Tryz.prog QBJ w):Low w.heap∧8≤w.heap.size:=by
 rw[MakeChecks.laidMetH_plain _ _ _ (by kernel_rfl)]at hL0
 have hL:laidMet Tryz.prog QBJ w:=hL0
 have h2:=hL.tail
 have h3:=h2.tail
 have h5:=h3.tail.tail
 have h6:=h5.tail
 obtain⟨m,hm⟩:=cell_of_shapedOpen_int (P:=Tryz.prog) (g:=0) (t:=3) (zero:=#[.int .i64 0]) hsh (of_decide_eq_true (by kernel_rfl)) (by kernel_rfl) rfl (by kernel_rfl) (by kernel_rfl) Tryz.underlying3
 have g4:Tryz.prog.globalNamed "strconv.ErrRange" =some 4:=by kernel_rfl
 have g3:Tryz.prog.globalNamed "strconv.ErrSyntax" =some 3:=by kernel_rfl
 have t4:(Tryz.prog.globals[4]?).map (·.type)=some 117:=by kernel_rfl
 have t3:(Tryz.prog.globals[3]?).map (·.type)=some 117:=by kernel_rfl
 obtain⟨a0,s0,hv0,-,-,-⟩:=laid_sentinel h5 g4 t4 Tryz.underlying117 QDI Tryz.underlying204 Tryz.underlying206 rfl rfl Tryz.underlying9 QxA QxB;obtain⟨a1,s1,hv1,-,-,-⟩:=laid_sentinel h6 g3 t3 Tryz.underlying117 QDI Tryz.underlying204 Tryz.underlying206 rfl rfl Tryz.underlying9 QxA QxB;have c4:w.cell? ⟨4,0,none⟩=some (.iface 204 (.pointer (some a0))):=by have h0:=World.var?_cell g4 hv0 0;simpa using h0
 have c3:w.cell? ⟨3,0,none⟩=some (.iface 204 (.pointer (some a1))):=by have h0:=World.var?_cell g3 hv1 0;simpa using h0
 obtain⟨ps,⟨g2,t2,cs2,fu2,p2,q2,hg,ht,hv,hd,_⟩,_⟩:=h3;have eg:g2=5:=Option.some.inj (hg.symm.trans (by kernel_rfl))
 subst eg;have et:t2=229:=Option.some.inj (ht.symm.trans (by kernel_rfl))
 subst et;have hc:=Lib.cells_of_tab (zs:=Lib.pow10Tab) Tryz.underlying229 Tryz.underlying179 (by kernel_rfl) (by kernel_rfl) hd
 have h8:8≤w.heap.size:=by
  obtain⟨ps,⟨g7,_,cs7,_,_,_,hg7,_,hv7,_⟩,_⟩:=h2;have eg:g7=7:=Option.some.inj (hg7.symm.trans (by kernel_rfl))
  subst eg;unfold World.var? at hv7;rw[hg7]at hv7;have hv8:(match w.heap[7]? with|some (Go.Obj.cells cs _ _)=>some cs|_=>none)=some cs7:=hv7
  cases hq:w.heap[7]? with
  | none=>rw[hq]at hv8;cases hv8
  | some o=>exact(Array.getElem?_eq_some_iff.1 hq).1
 refine⟨⟨?_,?_,?_,?_⟩,h8⟩
 ·obtain⟨c,e,fz,q1,q2⟩:=Qdk hm
  exact⟨c,e,fz,q1,m,q2⟩
 ·obtain⟨c,e,fz,q1,q2⟩:=Qdk c3
  exact⟨c,e,fz,q1,_,q2,.inr ⟨_,_,rfl⟩⟩
 ·obtain⟨c,e,fz,q1,q2⟩:=Qdk c4
  exact⟨c,e,fz,q1,_,q2,.inr ⟨_,_,rfl⟩⟩
 ·unfold World.var? at hv
  rw[hg]at hv;have hv2:(match w.heap[5]? with|some (Go.Obj.cells cs _ _)=>some cs|_=>none)=some cs2:=hv
  split at hv2
  ·rename_i cs e fz hh
   simp only[Option.some.injEq]at hv2
   subst hv2;refine⟨e,fz,hh.trans ?_⟩
   have:cs=QC0:=by
    apply Array.toList_inj.1
    rw[hc];rfl
   rw[this]
  ·cases hv2
end Go.Own
