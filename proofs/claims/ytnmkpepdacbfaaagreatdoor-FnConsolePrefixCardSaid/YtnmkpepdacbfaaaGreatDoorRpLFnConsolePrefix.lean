/- FnConsolePrefix: the answers to the first lines do not depend on later ones. Conditions: none.
-/
import Derived.Test.YtnmkpepdacbfaaaGreatDoorRp49
import Derived.Test.YtnmkpepdacbfaaaGreatDoorRp50
import Derived.Test.YtnmkpepdacbfaaaGreatDoorCards
import Derived.Test.YtnmkpepdacbfaaaGreatDoorTie
import Derived.ChangeMaps5
import Derived.SevenTiedAt
set_option linter.all false
set_option maxHeartbeats 1000000
namespace Go.Proofs.YtnmkpepdacbfaaaGreatDoor.fnConsolePrefix
open Go.ChangeShapes Go.WideShapes Go.ChangeAt Go.RowKit Go.Own
open Go.ChangeMaps (open_string shut_string)
theorem own:ownKnob Tryz.prog.godebug=none:=kR
theorem laidOut:laidOutB Tryz.prog=true:=kR
theorem walk{H:Type}{enc:TypeId×Value→H}(w:World)(hJ:E0.J w.heap)(hN:8≤w.heap.size)(ad0:Option Addr)(ln0 cp0:Nat){d0:DataW H}{p0:List MemPlace}(h0:DataW.Trod enc Tryz.prog w 0 (fun _=>true) true 24 (.slice ad0 ln0 cp0) d0 p0):
  Calls Tryz.prog 5 #[.slice ad0 ln0 cp0] w fun e w'=>e= .returned (.bool true)∧Below w.heap.size w w':=by
 obtain⟨_,F0,r0,⟨l0,rfl,hl0,hb0⟩⟩:=QrI (oB w) h0;have ha:Q5 w.heap [.one (.sl 1 l0)] [.slice ad0 ln0 cp0] (F0++[]) ([]++[]):=(.cons (Qog r0) .nil)
 refine(Qyi.2 _ _ _ _ rfl ⟨hl0,hb0⟩ w _ _ _ ha (by simp) (by simp) hJ hN (by simp)).mono ?_
 rintro e w' ⟨v,rfl,po⟩;obtain⟨F',os,F2,Ms',r1,_⟩:=po.res;rw[QyA r1];exact⟨rfl,Qk6 po⟩
set_option maxRecDepth 100000 in
theorem lifted(os:Os)(started:os.Started)(H:Type)(enc:TypeId×Value→H):
  ReturnsInHanded {} Tryz.checked os 5 .any (fun w args=>(Rows.fnConsolePrefixSpec.pre enc Tryz.prog Tryz.f5 [] false w args∧laidMetH Tryz.prog Rows.fnConsolePrefixRow.laid w)∧sizedMet enc Tryz.prog Tryz.f5 (OpenSpec.ofChange Rows.fnConsolePrefixSpec) false w args) (Rows.fnConsolePrefixSpec.post enc Tryz.prog Tryz.f5 false true false false):=by
 refine QgQ (C:=Tryz.checked) (X:=fun w _=>laidMetH Tryz.prog Rows.fnConsolePrefixRow.laid w) (fun _ _ _ hh h=>h.of_heap hh) own started kR Tryz.func5
  (ChangeSpec.witness_shaped (enc:=enc) (C:=Tryz.checked) (os:=os) (X:=fun w _=>laidMetH Tryz.prog Rows.fnConsolePrefixRow.laid w) false (World.laidAll Tryz.prog os Rows.fnConsolePrefixRow.laid) #[.slice none 0 0] 8 (World.laidAll_os _ _ _)
   (World.shaped_of_ZipB kR kR) kR kR kR
   (by rw[MakeChecks.laidMetH_plain _ _ _ kR];exact laidMet_laidAll _ kR kR)) ?_
 intro W base args ds gs before hval0 hW hL hsh;have hval:∀(j:Nat) t v,Tryz.f5.params[j]? =some t→args[j]? =some v→Value.okWide Tryz.prog W .any base t v:=hval0
 have hW':=hW
 obtain⟨p,q,hA0,hV,rfl,hfz,hnd⟩:=hW;have hA:DataW.TrodAll enc Tryz.prog W 0 (fun _=>true) true Tryz.f5.params.toList args.toList ds p:=hA0
 rw[Tryz.params5]at hA hval;obtain⟨v0,vs0,d0,ds0,p0,q0,hargs0,rfl,rfl,h0,r0⟩:=trodAll_cons hA;obtain⟨rfl,rfl,rfl⟩:=trodAll_nil r0;obtain rfl:args=#[v0]:=by cases args;simp_all
 obtain⟨rfl,rfl⟩:=trodVars_none hV;obtain⟨ad0,ln0,cp0,rfl⟩:=okWide_slice Tryz.underlying24 (hval 0 24 v0 rfl rfl);have lt0:∀x∈p0,x.block<W.heap.size:=by obtain⟨m,hm⟩:=h0;exact DataW.trod_lt m _ _ _ hm
 clear hA0 hval0;obtain⟨hJ,hN⟩:=QDP W hsh hL;refine(walk W hJ hN ad0 ln0 cp0 h0).mono fun e W' ⟨he,bel⟩=>?_
 subst he;exact⟨_,rfl,_,_,_,[],_,[],hW',trodAll_mk1 (shut_bool Tryz.underlying4 _),(trodAll_cons_mk (Below.trod laidOut kR (of_decide_eq_true kR) h0 bel lt0) trodAll_mk0),rfl,bel.frame _,fun h=>by cases h⟩
theorem over:Rows.fnConsolePrefixRow.holds Tryz.pinned (OpenSpec.ofChange Rows.fnConsolePrefixSpec):=
 OpenClaim.holds_of_wide 5 Tryz.f5 rfl rfl rfl rfl rfl rfl rfl ⟨rfl,rfl,rfl,rfl,rfl⟩ rfl rfl rfl rfl rfl (by as_aux_lemma=>kernel_rfl) Tryz.func5 (by as_aux_lemma=>kernel_rfl)
  (of_decide_eq_true (by as_aux_lemma=>kernel_rfl)) (by as_aux_lemma=>unfold Func.isWrapper;first|(rw[if_pos (by decide+kernel)];kernel_rfl)|(rw[if_neg (by decide+kernel)];exact⟨rfl,rfl⟩))
  (fun os started H enc _=>lifted os started H enc)
theorem proved:Rows.FnConsolePrefixCardSaid:=
 Claim7.holds_tied_plain_at .later [] [.data,.data,.data,.data,.sentinel,.sentinel,.pinned] true (true, "63afe791225c6c2c3a6679de4a74432c914590667441b1266fc5c601e21c6d31") true over (fun _ h=>by cases h) kR (fun _ h=>by cases h) fnConsolePrefix_row_tie rfl ⟨rfl,rfl⟩ kR rfl
  (fun f fn hf hfn=>by
   obtain rfl:f=5:=K0 ((show Tryz.prog.funcNamed "loop.example/g01988/laws.FnConsolePrefix" =some 5 by kernel_rfl).symm.trans hf) |>.symm
   obtain rfl:fn=Tryz.f5:=(K0 (Tryz.func5.symm.trans hfn)).symm;exact⟨by kernel_rfl,fun j t ht=>by
    rw[Tryz.params5]at ht;have hm:t∈[24]:=by simpa using Array.mem_of_getElem? ht
    have hall:([24].all fun u=> !Tryz.prog.wantsStandIn u)=true:=kR
    exact(show Tryz.prog.wantsStandIn t=false by simpa using Kg.1 hall t hm)⟩)
  kR
end Go.Proofs.YtnmkpepdacbfaaaGreatDoor.fnConsolePrefix
