/-
  FnExactRunConsole: the program's RunConsole returns what the reference's returns, for all arguments. Conditions: none.
-/
import Derived.Test.YtnmkpepdacbfaaaGreatDoorRc50
import Derived.Test.YtnmkpepdacbfaaaGreatDoorCards
import Derived.Test.YtnmkpepdacbfaaaGreatDoorTie
import Derived.ChangeMaps5
import Derived.SevenTiedAt
set_option linter.unusedVariables false
set_option linter.unusedSimpArgs false
set_option maxHeartbeats 1000000
namespace Go.Proofs.YtnmkpepdacbfaaaGreatDoor.fnExactRunConsole
open Go.ChangeShapes Go.WideShapes Go.ChangeAt Go.RowKit Go.Own
open Go.ChangeMaps (open_string shut_string)
theorem own:ownKnob Tryz.prog.godebug=none:=by kernel_rfl
theorem laidOut:laidOutB Tryz.prog=true:=by kernel_rfl
theorem walk(w:World)(hJ:E0.J w.heap)(hN:8≤w.heap.size)(s:ByteArray):
  Calls Tryz.prog 3 #[.string s] w fun e w'=>e= .returned (.bool true)∧Below w.heap.size w w':=by
 have ha:QY w.heap [.one (.v (.string s))] [.string s] ([]++[]) ([]++[]):= .cons (.one (.v rfl .nil)) .nil
 refine(QwG.2 _ _ _ _ rfl trivial w _ _ _ ha (by simp) (by simp) hJ hN (by simp)).mono ?_
 rintro e w' ⟨v,rfl,po⟩;obtain⟨F',os,F2,Ms',r1,_⟩:=po.res;rw[QwX r1];exact⟨rfl,Qkp po⟩
set_option maxRecDepth 100000 in
theorem lifted(os:Os)(started:os.Started)(H:Type)(enc:TypeId×Value→H):
  ReturnsInHanded {} Tryz.checked os 3 .any (fun w args=>(Rows.fnExactRunConsoleSpec.pre enc Tryz.prog Tryz.f3 [] false w args∧laidMetH Tryz.prog Rows.fnExactRunConsoleRow.laid w)∧sizedMet enc Tryz.prog Tryz.f3 (OpenSpec.ofChange Rows.fnExactRunConsoleSpec) false w args) (Rows.fnExactRunConsoleSpec.post enc Tryz.prog Tryz.f3 false true false false):=by
 refine Qgp (C:=Tryz.checked) (X:=fun w _=>laidMetH Tryz.prog Rows.fnExactRunConsoleRow.laid w) (fun _ _ _ hh h=>h.of_heap hh) own started (by kernel_rfl) Tryz.func3
  (ChangeSpec.witness_shaped (enc:=enc) (C:=Tryz.checked) (os:=os) (X:=fun w _=>laidMetH Tryz.prog Rows.fnExactRunConsoleRow.laid w) false (World.laidAll Tryz.prog os Rows.fnExactRunConsoleRow.laid) #[.string ⟨#[]⟩] 8 (World.laidAll_os _ _ _)
   (World.shaped_of_ZipB (by kernel_rfl) (by kernel_rfl)) (by kernel_rfl) (by kernel_rfl) (by kernel_rfl)
   (by rw[MakeChecks.laidMetH_plain _ _ _ (by kernel_rfl)];exact laidMet_laidAll _ (by kernel_rfl) (by kernel_rfl))) ?_
 intro W base args ds gs before hval0 hW hL hsh;have hval:∀(j:Nat) t v,Tryz.f3.params[j]? =some t→args[j]? =some v→Value.okWide Tryz.prog W .any base t v:=hval0
 have hW':=hW
 obtain⟨p,q,hA0,hV,rfl,hfz,hnd⟩:=hW;have hA:DataW.TrodAll enc Tryz.prog W 0 (fun _=>true) true Tryz.f3.params.toList args.toList ds p:=hA0
 rw[Tryz.params3]at hA hval;obtain⟨v0,d0,rfl,rfl,h0⟩:=trodAll_one hA;obtain⟨rfl,rfl⟩:=trodVars_none hV;obtain⟨s,rfl,rfl,rfl,hs⟩:=open_string Tryz.underlying9 (hval 0 9 v0 rfl rfl) h0;clear hA0 hval0;obtain⟨hJ,hN⟩:=QBM W hsh hL;refine(walk W hJ hN s).mono fun e W' ⟨he,bel⟩=>?_
 subst he;exact⟨_,rfl,_,_,_,[],_,[],hW',trodAll_mk1 (shut_bool Tryz.underlying4 _),trodAll_mk1 (shut_string Tryz.underlying9 hs),rfl,bel.frame _,fun h=>by cases h⟩
theorem over:Rows.fnExactRunConsoleRow.holds Tryz.pinned (OpenSpec.ofChange Rows.fnExactRunConsoleSpec):=
 OpenClaim.holds_of_wide 3 Tryz.f3 rfl rfl rfl rfl rfl rfl rfl ⟨rfl,rfl,rfl,rfl,rfl⟩ rfl rfl rfl rfl rfl (by as_aux_lemma=>kernel_rfl) Tryz.func3 (by as_aux_lemma=>kernel_rfl)
  (of_decide_eq_true (by as_aux_lemma=>kernel_rfl)) (by as_aux_lemma=>unfold Func.isWrapper;first|(rw[if_pos (by decide+kernel)];kernel_rfl)|(rw[if_neg (by decide+kernel)];exact⟨rfl,rfl⟩))
  (fun os started H enc _=>lifted os started H enc)
theorem proved:Rows.FnExactRunConsoleCardSaid:=
 Claim7.holds_tied_plain_at .later [] [.data,.data,.data,.data,.sentinel,.sentinel,.pinned] true (true, "63afe791225c6c2c3a6679de4a74432c914590667441b1266fc5c601e21c6d31") true over (fun _ h=>by cases h) (by kernel_rfl) (fun _ h=>by cases h) fnExactRunConsole_row_tie rfl ⟨rfl,rfl⟩ (by kernel_rfl) rfl
  (fun f fn hf hfn=>by
   obtain rfl:f=3:=Option.some.inj ((show Tryz.prog.funcNamed "loop.example/g01988/laws.FnExactRunConsole" =some 3 by kernel_rfl).symm.trans hf) |>.symm
   obtain rfl:fn=Tryz.f3:=(Option.some.inj (Tryz.func3.symm.trans hfn)).symm;exact⟨by kernel_rfl,fun j t ht=>by
    rw[Tryz.params3]at ht;have hm:t∈[9]:=by simpa using Array.mem_of_getElem? ht
    have hall:([9].all fun u=> !Tryz.prog.wantsStandIn u)=true:=by kernel_rfl
    exact(show Tryz.prog.wantsStandIn t=false by simpa using List.all_eq_true.1 hall t hm)⟩)
  (by kernel_rfl)
end Go.Proofs.YtnmkpepdacbfaaaGreatDoor.fnExactRunConsole
