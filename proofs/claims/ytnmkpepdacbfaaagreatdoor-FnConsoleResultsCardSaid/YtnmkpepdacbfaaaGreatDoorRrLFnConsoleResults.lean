/-
  FnConsoleResults: the dependencies and keys that are printed are those of the rows that were given. Conditions: none.
-/
import Derived.Test.YtnmkpepdacbfaaaGreatDoorRr49
import Derived.Test.YtnmkpepdacbfaaaGreatDoorRr50
import Derived.Test.YtnmkpepdacbfaaaGreatDoorCards
import Derived.Test.YtnmkpepdacbfaaaGreatDoorTie
import Derived.ChangeMaps5
import Derived.SevenTiedAt
set_option linter.unusedVariables false
set_option linter.unusedSimpArgs false
set_option maxHeartbeats 1000000
namespace Go.Proofs.YtnmkpepdacbfaaaGreatDoor.fnConsoleResults
open Go.ChangeShapes Go.WideShapes Go.ChangeAt Go.RowKit Go.Own
open Go.ChangeMaps (open_string shut_string)
theorem own:ownKnob Tryz.prog.godebug=none:=by kernel_rfl
theorem laidOut:laidOutB Tryz.prog=true:=by kernel_rfl
theorem walk{H:Type}{enc:TypeId×Value→H}(w:World)(hJ:E0.J w.heap)(hN:8≤w.heap.size)(ad0:Option Addr)(ln0 cp0:Nat){d0:DataW H}{p0:List MemPlace}(h0:DataW.Trod enc Tryz.prog w 0 (fun _=>true) true 24 (.slice ad0 ln0 cp0) d0 p0):
  Calls Tryz.prog 4 #[.slice ad0 ln0 cp0] w fun e w'=>e= .returned (.bool true)∧Below w.heap.size w w':=by
 obtain⟨_,F0,r0,⟨l0,rfl,hl0,hb0⟩⟩:=Qow (oB w) h0;have ha:QU w.heap [.one (.sl 1 l0)] [.slice ad0 ln0 cp0] (F0++[]) ([]++[]):=(.cons (Qlr r0) .nil)
 refine(QuO.2 _ _ _ _ rfl ⟨hl0,hb0⟩ w _ _ _ ha (by simp) (by simp) hJ hN (by simp)).mono ?_
 rintro e w' ⟨v,rfl,po⟩;obtain⟨F',os,F2,Ms',r1,_⟩:=po.res;rw[Qvb r1];exact⟨rfl,QiY po⟩
set_option maxRecDepth 100000 in
theorem lifted(os:Os)(started:os.Started)(H:Type)(enc:TypeId×Value→H):
  ReturnsInHanded {} Tryz.checked os 4 .any (fun w args=>(Rows.fnConsoleResultsSpec.pre enc Tryz.prog Tryz.f4 [] false w args∧laidMetH Tryz.prog Rows.fnConsoleResultsRow.laid w)∧sizedMet enc Tryz.prog Tryz.f4 (OpenSpec.ofChange Rows.fnConsoleResultsSpec) false w args) (Rows.fnConsoleResultsSpec.post enc Tryz.prog Tryz.f4 false true false false):=by
 refine Qfx (C:=Tryz.checked) (X:=fun w _=>laidMetH Tryz.prog Rows.fnConsoleResultsRow.laid w) (fun _ _ _ hh h=>h.of_heap hh) own started (by kernel_rfl) Tryz.func4
  (ChangeSpec.witness_shaped (enc:=enc) (C:=Tryz.checked) (os:=os) (X:=fun w _=>laidMetH Tryz.prog Rows.fnConsoleResultsRow.laid w) false (World.laidAll Tryz.prog os Rows.fnConsoleResultsRow.laid) #[.slice none 0 0] 8 (World.laidAll_os _ _ _)
   (World.shaped_of_ZipB (by kernel_rfl) (by kernel_rfl)) (by kernel_rfl) (by kernel_rfl) (by kernel_rfl)
   (by rw[MakeChecks.laidMetH_plain _ _ _ (by kernel_rfl)];exact laidMet_laidAll _ (by kernel_rfl) (by kernel_rfl))) ?_
 intro W base args ds gs before hval0 hW hL hsh;have hval:∀(j:Nat) t v,Tryz.f4.params[j]? =some t→args[j]? =some v→Value.okWide Tryz.prog W .any base t v:=hval0
 have hW':=hW
 obtain⟨p,q,hA0,hV,rfl,hfz,hnd⟩:=hW;have hA:DataW.TrodAll enc Tryz.prog W 0 (fun _=>true) true Tryz.f4.params.toList args.toList ds p:=hA0
 rw[Tryz.params4]at hA hval;obtain⟨v0,vs0,d0,ds0,p0,q0,hargs0,rfl,rfl,h0,r0⟩:=trodAll_cons hA;obtain⟨rfl,rfl,rfl⟩:=trodAll_nil r0;obtain rfl:args=#[v0]:=by cases args;simp_all
 obtain⟨rfl,rfl⟩:=trodVars_none hV;obtain⟨ad0,ln0,cp0,rfl⟩:=okWide_slice Tryz.underlying24 (hval 0 24 v0 rfl rfl);have lt0:∀x∈p0,x.block<W.heap.size:=by obtain⟨m,hm⟩:=h0;exact DataW.trod_lt m _ _ _ hm
 clear hA0 hval0;obtain⟨hJ,hN⟩:=QAp W hsh hL;refine(walk W hJ hN ad0 ln0 cp0 h0).mono fun e W' ⟨he,bel⟩=>?_
 subst he;exact⟨_,rfl,_,_,_,[],_,[],hW',trodAll_mk1 (shut_bool Tryz.underlying4 _),(trodAll_cons_mk (Below.trod laidOut (by kernel_rfl) (of_decide_eq_true (by kernel_rfl)) h0 bel lt0) trodAll_mk0),rfl,bel.frame _,fun h=>by cases h⟩
theorem over:Rows.fnConsoleResultsRow.holds Tryz.pinned (OpenSpec.ofChange Rows.fnConsoleResultsSpec):=
 OpenClaim.holds_of_wide 4 Tryz.f4 rfl rfl rfl rfl rfl rfl rfl ⟨rfl,rfl,rfl,rfl,rfl⟩ rfl rfl rfl rfl rfl (by as_aux_lemma=>kernel_rfl) Tryz.func4 (by as_aux_lemma=>kernel_rfl)
  (of_decide_eq_true (by as_aux_lemma=>kernel_rfl)) (by as_aux_lemma=>unfold Func.isWrapper;first|(rw[if_pos (by decide+kernel)];kernel_rfl)|(rw[if_neg (by decide+kernel)];exact⟨rfl,rfl⟩))
  (fun os started H enc _=>lifted os started H enc)
theorem proved:Rows.FnConsoleResultsCardSaid:=
 Claim7.holds_tied_plain_at .later [] [.data,.data,.data,.data,.sentinel,.sentinel,.pinned] true (true, "63afe791225c6c2c3a6679de4a74432c914590667441b1266fc5c601e21c6d31") true over (fun _ h=>by cases h) (by kernel_rfl) (fun _ h=>by cases h) fnConsoleResults_row_tie rfl ⟨rfl,rfl⟩ (by kernel_rfl) rfl
  (fun f fn hf hfn=>by
   obtain rfl:f=4:=Option.some.inj ((show Tryz.prog.funcNamed "loop.example/g01988/laws.FnConsoleResults" =some 4 by kernel_rfl).symm.trans hf) |>.symm
   obtain rfl:fn=Tryz.f4:=(Option.some.inj (Tryz.func4.symm.trans hfn)).symm;exact⟨by kernel_rfl,fun j t ht=>by
    rw[Tryz.params4]at ht;have hm:t∈[24]:=by simpa using Array.mem_of_getElem? ht
    have hall:([24].all fun u=> !Tryz.prog.wantsStandIn u)=true:=by kernel_rfl
    exact(show Tryz.prog.wantsStandIn t=false by simpa using List.all_eq_true.1 hall t hm)⟩)
  (by kernel_rfl)
end Go.Proofs.YtnmkpepdacbfaaaGreatDoor.fnConsoleResults
