/- Contracts. Conditions: as stated. -/
import Derived.Test.YtnmkpepdacbfaaaGreatDoorRp00
import Derived.WalkLawsBesides
import Derived.Laws.Cells
import Derived.Laws.BytesString
import Derived.Laws.MakeOwn
set_option linter.all false
namespace Go.Own
open Go
section
variable {hd:Hid}
inductive PC where
  | d (x:D)
  | n (x:D)
  | own (s:Nat) (l:List (List D)) (deep:Nat)
  deriving Inhabited
inductive Pat where
  | unk
  | one (c:PC)
  | agg (cs:List PC)
  | box (cs:List PC)
  deriving Inhabited
def Qat(p k:Nat):PC→QI×List (Id×Ob)
 | .d x=>(.d x,[])
 | .n x=>(.n x,[])
 | .own s l dp=>(.osl (p,k),[((p,k),.arr s l dp)])
def pcN:PC→Nat
 | .own .. =>1
 | _=>0
def QC(p:Nat):Nat→List PC→List QI×List (Id×Ob)
 | _,[]=>([],[])
 | k,c::r=>((Qat p k c).1::(QC p (k+pcN c) r).1,(Qat p k c).2++(QC p (k+pcN c) r).2)
def Q4(p:Nat):Pat→AV×List (Id×Ob)
 | .unk=>(.unk,[])
 | .one c=>(.one (Qat p 0 c).1,(Qat p 0 c).2)
 | .agg cs=>(.agg (QC p 0 cs).1,(QC p 0 cs).2)
 | .box cs=>(.one (.bptr (p,0) 0),((p,0),.box (QC p 1 cs).1)::(QC p 1 cs).2)
def DEq:D→D→Prop
 | .v (.slice none 0 0),.sl _ l=>l=[]
 | y,x=>y=x
structure Mv where
  new:Option Id
  old:Option Id
  cut:Bool
def QaB(ob:Id→Ob)(nm:Bool)(p k:Nat):QI→PC→Option (Prop×List Mv)
 | .d y,.d x=>some (DEq y x,[])
 | .n y,.d x=>some (DEq y x,[])
 | .n y,.n x=>some (DEq y x,[])
 | .d (.v y),.n x=>some (DEq (.v y) x,[])
 | .d (.v (.slice none 0 0)),.own _ l _=>some (l=[],[⟨some (p,k),none,false⟩])
 | c,.own s l dp=>match Qw ob c with
  | some (id,s',l',dp')=>some (s'=s∧l'=l∧(dp=0∨dp'≠0),[⟨some (p,k),some id,dp==0⟩])
  | none=>none
 | c,.d x=>match Qw ob c with
  | some (id,s',l',_)=>some (D.sl s' l'=x,[⟨none,some id,false⟩])
  | none=>none
 | c,.n x=>match Qw ob c with
  | some (id,s',l',dp')=>some (D.sl s' l'=x∧nm=true∧dp'≠0,[⟨none,some id,false⟩])
  | none=>none
def QbI(ob:Id→Ob)(nm:Bool)(p:Nat):Nat→List QI→List PC→Option (Prop×List Mv)
 | _,[],[]=>some (True,[])
 | k,c::cs,x::xs=>match QaB ob nm p k c x,QbI ob nm p (k+pcN x) cs xs with
  | some (q,m),some (q',m')=>some (q∧q',m++m')
  | _,_=>none
 | _,_,_=>none
def QcW(ob:Id→Ob)(nm:Bool)(p:Nat):AV→Pat→Option (Prop×List Mv)
 | _,.unk=>some (True,[])
 | .one c,.one x=>QaB ob nm p 0 c x
 | .agg cs,.agg xs=>QbI ob nm p 0 cs xs
 | .one (.bptr id 0),.box xs=>match ob id with
  | .box cs=>match QbI ob nm p 1 cs xs with
   | some (q,m)=>some (q,⟨some (p,0),some id,false⟩::m)
   | none=>none
  | _=>none
 | _,_=>none
def Qf7(s:St)(nm:Bool):List (Nat×Pat)→Option (Prop×List Mv)
 | []=>some (True,[])
 | (p,x)::r=>match QcW s.ob nm p (s.sl p) x,Qf7 s nm r with
  | some (q,m),some (q',m')=>some (q∧q',m++m')
  | _,_=>none
def QcX:List (Nat×Pat)→List (Id×Ob)
 | []=>[]
 | (p,x)::r=>(Q4 p x).2++QcX r
def Qcg:QI→Bool
 | .any| .d _| .n _| .iptr _| .fni .. | .fn _ []=>true
 | _=>false
def scrub:AV→AV
 | .any=> .any
 | .one c=>if Qcg c then .one c else .unk
 | .agg cs=>if cs.all Qcg then .agg cs else .unk
 | _=> .unk
def Qzs(rs:List (Nat×Nat))(j:Nat):Bool:=rs.any fun r=>decide (r.1≤j)&&decide (j<r.2)
def Qam(rs:List (Nat×Nat))(f:Nat→AV):List (Nat×Pat)→Nat→AV
 | [],j=>if Qzs rs j then .any else scrub (f j)
 | (p,x)::r,j=>if j=p then(Q4 p x).1 else Qam rs f r j
def Qdl(rs:List (Nat×Nat))(s:St)(ps:List (Nat×Pat)):St:=⟨s.bs,Qam rs s.sl ps,Q7 (fun _=> .none) (QcX ps)⟩
def QrA(s:St)(nm:Bool)(ps:List (Nat×Pat)):Prop:=
 match Qf7 s nm ps with
 | some (q,m)=>q∧(m.filterMap (·.old)).Nodup∧(m.filterMap (·.new)).Nodup
 | none=>False
theorem Qbk{us:List (Id×Ob)}(hn:(us.map (·.1)).Nodup):∀(g:Id→Ob) (k:Id) (o:Ob),(k,o)∈us→Q7 g us k=o:=by
 have keep:∀(us:List (Id×Ob)) (g:Id→Ob) (k:Id),k∉us.map (·.1)→Q7 g us k=g k:=by
  intro us;induction us with
  | nil=>intros;rfl
  | cons x r ih=>
   intro g k hk;obtain⟨k0,o0⟩:=x;simp only[List.map_cons,KI,not_or]at hk
   simp only[Q7]
   rw[ih _ _ hk.2,if_neg hk.1]
 induction us with
 | nil=>intro g k o h;cases h
 | cons x r ih=>
  intro g k o h;obtain⟨k0,o0⟩:=x;simp only[List.map_cons,Ke]at hn
  simp only[Q7]
  rcases KI.1 h with h|h
  ·simp only[KC]at h
   obtain⟨rfl,rfl⟩:=h;rw[keep _ _ _ hn.1,if_pos rfl]
  ·exact ih hn.2 _ _ _ h
theorem QeC{us:List (Id×Ob)}:∀(g:Id→Ob) (k:Id),k∉us.map (·.1)→Q7 g us k=g k:=by
 induction us with
 | nil=>intros;rfl
 | cons x r ih=>
  intro g k hk;obtain⟨k0,o0⟩:=x;simp only[List.map_cons,KI,not_or]at hk
  simp only[Q7]
  rw[ih _ _ hk.2,if_neg hk.1]
def Qcb(own:Id→List Nat)(m:List Mv)(id:Id):List Nat:=
 match m.find? (fun q=>q.new==some id)with
 | some q=>match q.old with
  | some o=>if q.cut then(own o).take 1 else own o
  | none=>[]
 | none=>[]
section
variable {own:Id→List Nat} {h:Q6} {s s':St} {m:List Mv}
theorem Qdn{id:Id}{b:Nat}(hb:b∈Qcb own m id):∃q∈m,q.new=some id∧∃o,q.old=some o∧b∈own o:=by
 unfold Qcb at hb;split at hb
 ·rename_i q hq
  have h1:=List.mem_of_find?_eq_some hq
  have h2:=List.find?_some hq
  split at hb
  ·rename_i o ho
   refine⟨q,h1,by simpa using h2,o,ho,?_⟩
   split at hb
   ·exact Ks hb
   ·exact hb
  ·cases hb
 ·cases hb
theorem QX{α β:Type}{f:α→Option β}:∀{l:List α},(l.filterMap f).Nodup→∀{x y:α} {b:β},x∈l→y∈l→f x=some b→f y=some b→x=y
 | [],_,x,_,_,hx,_,_,_=>by cases hx
 | z::l,hn,x,y,b,hx,hy,h1,h2=>by
  cases hz:f z with
  | none=>
   rw[List.filterMap_cons,hz]at hn;rcases KI.1 hx with rfl|hx
   ·rw[hz]at h1;cases h1
   ·rcases KI.1 hy with rfl|hy
    ·rw[hz]at h2;cases h2
    ·exact QX hn hx hy h1 h2
  | some c=>
   rw[List.filterMap_cons,hz]at hn;simp only[Ke]at hn
   rcases KI.1 hx with ex|hx'
   ·rcases KI.1 hy with ey|hy'
    ·rw[ex,ey]
    ·rw[ex,hz]at h1
     cases h1
     exact absurd (YY.2 ⟨y,hy',h2⟩) hn.1
   ·rcases KI.1 hy with ey|hy'
    ·rw[ey,hz]at h2
     cases h2
     exact absurd (YY.2 ⟨x,hx',h1⟩) hn.1
    ·exact QX hn.2 hx' hy' h1 h2
theorem Qh4(hnew:(m.filterMap (·.new)).Nodup){q:Mv}{id o:Id}(hq:q∈m)(h1:q.new=some id)(h2:q.old=some o):Qcb own m id=if q.cut then(own o).take 1 else own o:=by
 unfold Qcb;have:m.find? (fun q=>q.new==some id)=some q:=by
  cases hf:m.find? (fun q=>q.new==some id)with
  | none=>have:=List.find?_eq_none.1 hf q hq;simp[h1]at this
  | some q'=>
   have a:=List.mem_of_find?_eq_some hf
   have b:=List.find?_some hf
   rw[QX (f:=(·.new)) hnew a hq (by simpa using b) h1]
 rw[this];simp only[h2]
theorem Qu9(hnew:(m.filterMap (·.new)).Nodup){q:Mv}{id:Id}(hq:q∈m)(h1:q.new=some id)(h2:q.old=none):Qcb own m id=[]:=by
 unfold Qcb;have:m.find? (fun q=>q.new==some id)=some q:=by
  cases hf:m.find? (fun q=>q.new==some id)with
  | none=>have:=List.find?_eq_none.1 hf q hq;simp[h1]at this
  | some q'=>
   have a:=List.mem_of_find?_eq_some hf
   have b:=List.find?_some hf
   rw[QX (f:=(·.new)) hnew a hq (by simpa using b) h1]
 rw[this];simp only[h2]
theorem Qm6{b:Nat}(hb:Imm own h b):Imm (Qcb own m) h b:=
 ⟨hb.1,fun id hm=>by obtain⟨_,_,_,o,_,ho⟩:=Qdn hm;exact hb.2.1 o ho,hb.2.2⟩
structure QzU [Hid] (own:Id→List Nat)(h:Q6)(s':St)(m:List Mv)(us:List (Id×Ob)):Prop where
  old:(m.filterMap (·.old)).Nodup
  new:(m.filterMap (·.new)).Nodup
  nd:∀id,(own id).Nodup
  dj:∀id id' b,b∈own id→b∈own id'→id=id'
  lt:∀id b,b∈own id→b<h.size
  nh:∀id b,b∈own id→¬Hid.hid b
  ob:∀k o,(k,o)∈us→s'.ob k=o
theorem QzU.free{us}(k:QzU own h s' m us){q:Mv}{o:Id}(hq:q∈m)(ho:q.old=some o){b:Nat}(hb:b∈own o)(hn:q.new=none∨(q.cut=true∧b∉(own o).take 1)):
  Imm (Qcb own m) h b:=by
 refine⟨k.lt o b hb,fun id hm=>?_,k.nh o b hb⟩
 obtain⟨q',hq',h1,o',ho',hb'⟩:=Qdn hm;have:=k.dj o o' b hb hb'
 subst this;have:=QX (f:=(·.old)) k.old hq hq' ho ho'
 subst this;rcases hn with hn|⟨hc,hn⟩
 ·rw[hn]at h1;cases h1
 ·rw[Qh4 k.new hq h1 ho,if_pos hc]at hm
  exact hn hm
theorem Qj1.mv{us}(k:QzU own h s' m us){q:Mv}{id o:Id}{sz:Nat}{l:List (List D)}{dp dp' b cap:Nat}(hq:q∈m)(h1:q.new=some id)(h2:q.old=some o)(hc:q.cut=(dp'==0))
  (hd:dp'=0∨dp≠0) (a:Qj1 own h o sz l dp b cap):Qj1 (Qcb own m) h id sz l dp' b cap:=by
 obtain⟨c,e,G,a1,a2,a3,a4,a5,a6,a7,a8⟩:=a;have e1:=Qh4 (own:=own) k.new hq h1 h2
 by_cases h0:dp'=0
 ·refine⟨c,e,G,?_,a2,a3,a4,a5,a6,by rw[h0];exact a7.weak,fun _ x hx=>?_⟩
  ·rw[e1,hc,h0,a1];simp
  ·by_cases hdp:dp=0
   ·exact Qm6 (a8 hdp x hx)
   ·refine k.free hq h2 (by rw[a1];simp[hdp,hx]) (.inr ⟨by simp[hc,h0],?_⟩)
    have:=k.nd o
    rw[a1]at this ⊢;simp only[hdp,if_false,Ke]at this
    simp only[List.take_succ_cons,Kw,KH]
    rintro rfl;exact this.1 hx
 ·have hdp:dp≠0:=hd.resolve_left h0
  have hcut:q.cut=false:=by rw[hc];simpa using h0
  refine⟨c,e,G,?_,a2,a3,a4,a5,a6,by rw[bne_iff_ne.2 h0];rwa [bne_iff_ne.2 hdp]at a7,fun hz=>absurd hz h0⟩
  rw[e1,hcut,a1];simp[h0,hdp]
theorem Qcr{c:QI}{v:Value}{id:Id}{sz:Nat}{l:List (List D)}{dp:Nat}(ho:Qw s.ob c=some (id,sz,l,dp))(a:QR own h s c v):QaX own h id sz l dp v:=by
 cases c with
 | fr id' s' l' dp'=>
  simp only[Qw]at ho
  split at ho
  ·rename_i hn
   simp only[KA,KC]at ho
   obtain⟨rfl,rfl,rfl,rfl⟩:=ho;exact a.2.2 hn
  ·cases ho
 | osl id'=>
  simp only[Qw]at ho
  split at ho
  ·rename_i hn
   simp only[KA,KC]at ho
   obtain⟨rfl,rfl,rfl,rfl⟩:=ho;have:=a.2.2
   rw[hn]at this;exact this
  ·cases ho
 | _=>simp[Qw]at ho
theorem DEq.reps{y x:D}(hq:DEq y x){v:Value}{F}(r:Qbl h [y] [v] F):Qbl h [x] [v] F:=by
 unfold DEq at hq;split at hq
 ·subst hq
  cases r with
  | v _ r=>cases r;exact .none (fun h=>nomatch h) .nil
 ·exact hq▸r
theorem QaX.reps{id:Id}{sz:Nat}{l:List (List D)}{dp:Nat}{v:Value}(a:QaX own h id sz l dp v):
  ∃F,Qbl h [.sl sz l] [v] F∧∀b∈F,b∈own id∨Imm own h b:=by
 rcases a with⟨rfl,rfl,_⟩|⟨b,cap,rfl,c,e,G,a1,a2,a3,a4,a5,a6,a7,a8⟩
 ·exact⟨[],.none (fun h=>nomatch h) .nil,by simp⟩
 ·refine⟨b::(G++[]),.sl (fun h=>nomatch h) a2 a3 a4 ?_ a6 (by simpa using a7.weak) .nil,fun x hx=>?_⟩
  ·have:=Ka sz a3
   omega
  ·simp only[KM,KI]at hx
   rcases hx with rfl|hx
   ·left;rw[a1];simp
   ·by_cases hd:dp=0
    ·exact .inr (a8 hd x hx)
    ·left;rw[a1];simp[hd,hx]
theorem QaX.repsW{id:Id}{sz:Nat}{l:List (List D)}{dp:Nat}{v:Value}(a:QaX own h id sz l dp v)(hd:dp≠0):
  ∃F,Qn true h [.sl sz l] [v] F∧F=own id:=by
 rcases a with⟨rfl,rfl,h3⟩|⟨b,cap,rfl,c,e,G,a1,a2,a3,a4,a5,a6,a7,a8⟩
 ·exact⟨[],.none (fun _=>rfl) .nil,h3.symm⟩
 ·rw[bne_iff_ne.2 hd]at a7
  refine⟨b::(G++[]),.sl (fun _=>⟨rfl,rfl,a5⟩) a2 a3 a4 ?_ a6 (by simpa using a7) .nil,by rw[a1];simp[hd]⟩
  have:=Ka sz a3
  omega
theorem QlP{ob:Id→Ob}{nm:Bool}{p k:Nat}{y:D}{sz:Nat}{l:List (List D)}{dp:Nat}{r}(hm:QaB ob nm p k (.d y) (.own sz l dp)=some r):y= .v (.slice none 0 0):=by
 unfold QaB at hm;split at hm;all_goals (first|(simp_all[Qw];done)|skip)
 all_goals (simp only[QI.d.injEq]at *;assumption)
theorem QR.mv{us}(k:QzU own h s' m us){nm:Bool}(hnm:nm=true→∀id b,b∈own id→s.bs b)(hbs:s'.bs=s.bs){p kk:Nat}(hp:s'.sl p≠ .any){c:QI}{x:PC}{pr:Prop}{mm:List Mv}
  (hm:QaB s.ob nm p kk c x=some (pr,mm)) (hpr:pr) (hmm:∀q∈mm,q∈m) (hus:∀q∈(Qat p kk x).2,q∈us) {v:Value} (a:QR own h s c v):
  QR (Qcb own m) h s' (Qat p kk x).1 v:=by
 have ownD:∀{id sz l dp},Qw s.ob c=some (id,sz,l,dp)→(⟨none,some id,false⟩:Mv)∈m→QR (Qcb own m) h s' (.d (.sl sz l)) v:=fun ho hin=>by
  obtain⟨F,r,hF⟩:=(Qcr ho a).reps;refine⟨F,r,fun b hb=>?_⟩
  rcases hF b hb with hh|hh
  ·exact k.free hin rfl hh (.inl rfl)
  ·exact Qm6 hh
 have ownN:nm=true→∀{id sz l dp},Qw s.ob c=some (id,sz,l,dp)→dp≠0→(⟨none,some id,false⟩:Mv)∈m→QR (Qcb own m) h s' (.n (.sl sz l)) v:=fun hn id sz l dp ho hdp hin=>by
  have ha:=Qcr ho a
  rcases ha with⟨rfl,rfl,_⟩|⟨b,cap,rfl,c,e,G,a1,a2,a3,a4,a5,a6,a7,a8⟩
  ·exact⟨[],.none (fun h=>nomatch h) .nil,by simp⟩
  ·refine⟨b::(G++[]),.sl (fun h=>nomatch h) a2 a3 a4 (by have:=Ka sz a3;omega) a6 (by simpa using a7.weak) .nil,fun x hx=>?_⟩
   have hx':x∈own id:=by rw[a1];simpa [hdp]using hx
   exact⟨k.free hin rfl hx' (.inl rfl),by rw[hbs];exact hnm hn id x hx'⟩
 have imm1:∀{y x:D},DEq y x→(∃F,Qbl h [y] [v] F∧∀b∈F,Imm own h b)→QR (Qcb own m) h s' (.d x) v:=fun hq ⟨F,r,hF⟩=>⟨F,hq.reps r,fun b hb=>Qm6 (hF b hb)⟩
 cases x with
 | d x=>
  have own1:∀{cc:QI},cc=c→(match Qw s.ob cc with
    | some (id,s',l',_)=>some (D.sl s' l'=x,[(⟨none,some id,false⟩:Mv)])
    | none=>none)=some (pr,mm)→QR (Qcb own m) h s' (.d x) v:=fun {cc} hcc hm2=>by
   subst hcc;clear hm;split at hm2
   ·rename_i id sz l dp ho
    simp only[KA,KC]at hm2
    obtain⟨rfl,rfl⟩:=hm2;have:=ownD ho (hmm _ (by simp))
    rw[←hpr];exact this
   ·cases hm2
  cases c with
  | d y=>simp only[QaB,KA,KC]at hm;obtain⟨rfl,rfl⟩:=hm;exact imm1 hpr a
  | n y=>
   simp only[QaB,KA,KC]at hm
   obtain⟨rfl,rfl⟩:=hm;obtain⟨F,r,hF⟩:=a;exact imm1 hpr ⟨F,r,fun b hb=>(hF b hb).1⟩
  | fr id s1 l1 d1=>exact own1 rfl hm
  | osl id=>exact own1 rfl hm
  | _=>simp[QaB,Qw]at hm
 | n x=>
  have own1:∀{cc:QI},cc=c→(match Qw s.ob cc with
    | some (id,s',l',dp')=>some (D.sl s' l'=x∧nm=true∧dp'≠0,[(⟨none,some id,false⟩:Mv)])
    | none=>none)=some (pr,mm)→QR (Qcb own m) h s' (.n x) v:=fun {cc} hcc hm2=>by
   subst hcc;clear hm;split at hm2
   ·rename_i id sz l dp ho
    simp only[KA,KC]at hm2
    obtain⟨rfl,rfl⟩:=hm2;have:=ownN hpr.2.1 ho hpr.2.2 (hmm _ (by simp))
    rw[←hpr.1];exact this
   ·cases hm2
  cases c with
  | d y=>
   cases y with
   | v y=>
    simp only[QaB,KA,KC]at hm
    obtain⟨rfl,rfl⟩:=hm;obtain⟨F,r,hF⟩:=a;have hF0:F=[]:=by cases r with|v _ r=>cases r;rfl
    subst hF0;exact⟨[],hpr.reps r,by simp⟩
   | sl=>simp[QaB,Qw]at hm
  | n y=>
   simp only[QaB,KA,KC]at hm
   obtain⟨rfl,rfl⟩:=hm;obtain⟨F,r,hF⟩:=a;exact⟨F,hpr.reps r,fun b hb=>⟨Qm6 (hF b hb).1,by rw[hbs];exact(hF b hb).2⟩⟩
  | fr id s1 l1 d1=>exact own1 rfl hm
  | osl id=>exact own1 rfl hm
  | _=>simp[QaB,Qw]at hm
 | own sz l dp=>
  have hob:=k.ob (p,kk) (.arr sz l dp) (hus _ (by simp[Qat]))
  have own1:∀{cc:QI},cc=c→(match Qw s.ob cc with
    | some (id,s',l',dp')=>some (s'=sz∧l'=l∧(dp=0∨dp'≠0),[(⟨some (p,kk),some id,dp==0⟩:Mv)])
    | none=>none)=some (pr,mm)→QR (Qcb own m) h s' (.osl (p,kk)) v:=fun {cc} hcc hm2=>by
   subst hcc;clear hm;split at hm2
   ·rename_i id sz' l' dp' ho
    simp only[KA,KC]at hm2
    obtain⟨rfl,rfl⟩:=hm2;obtain⟨rfl,rfl,hd⟩:=hpr;have hin:(⟨some (p,kk),some id,dp==0⟩:Mv)∈m:=hmm _ (by simp)
    refine⟨a.one,hp,?_⟩
    rw[hob];rcases Qcr ho a with⟨h1,h2,h3⟩|⟨b,cap,h1,h2⟩
    ·exact .inl ⟨h1,h2,by rw[Qh4 k.new hin rfl rfl,h3];simp⟩
    ·exact .inr ⟨b,cap,h1,h2.mv k hin rfl rfl rfl hd⟩
   ·cases hm2
  cases c with
  | fr id s1 l1 d1=>exact own1 rfl hm
  | osl id=>exact own1 rfl hm
  | d y=>
   have hy:=QlP hm
   subst hy;simp only[QaB,KA,KC]at hm
   obtain⟨rfl,rfl⟩:=hm;obtain⟨F,r,hF⟩:=a;refine⟨r.one,hp,?_⟩
   have hv:v= .slice none 0 0:=by cases r with|v _ r=>rfl
   rw[hob];exact .inl ⟨hv,hpr,Qu9 (q:=⟨some (p,kk),none,false⟩) k.new (hmm _ (by simp)) rfl rfl⟩
  | _=>simp[QaB,Qw]at hm
theorem Qk.mv{us}(k:QzU own h s' m us){nm:Bool}(hnm:nm=true→∀id b,b∈own id→s.bs b)(hbs:s'.bs=s.bs){p:Nat}(hp:s'.sl p≠ .any):∀{cs:List QI} {xs:List PC} {kk:Nat} {pr:Prop} {mm:List Mv}
  (_:QbI s.ob nm p kk cs xs=some (pr,mm)) (_:pr) (_:∀q∈mm,q∈m) (_:∀q∈(QC p kk xs).2,q∈us) {vs:List Value} (_:Qk own h s cs vs),
  Qk (Qcb own m) h s' (QC p kk xs).1 vs
 | [],[],_,_,_,_,_,_,_,_,a=>by cases a;exact .nil
 | c::cs,x::xs,kk,pr,mm,hm,hpr,hmm,hus,vs,a=>by
  simp only[QbI]at hm
  split at hm
  ·rename_i q m1 q' m2 h1 h2
   simp only[KA,KC]at hm
   obtain⟨rfl,rfl⟩:=hm;cases a with
   | cons a1 a2=>
    simp only[QC]at hus ⊢
    exact .cons (a1.mv k hnm hbs hp h1 hpr.1 (fun q hq=>hmm q (by simp[hq])) (fun q hq=>hus q (by simp[hq])))
     (Qk.mv k hnm hbs hp h2 hpr.2 (fun q hq=>hmm q (by simp[hq])) (fun q hq=>hus q (by simp[hq])) a2)
  ·cases hm
 | [],_::_,_,_,_,hm,_,_,_,_,_=>by simp[QbI]at hm
 | _::_,[],_,_,_,hm,_,_,_,_,_=>by simp[QbI]at hm
theorem QM.mv{us}(k:QzU own h s' m us){nm:Bool}(hnm:nm=true→∀id b,b∈own id→s.bs b)(hbs:s'.bs=s.bs){p:Nat}(hp:s'.sl p≠ .any){av:AV}{x:Pat}{pr:Prop}{mm:List Mv}
  (hm:QcW s.ob nm p av x=some (pr,mm)) (hpr:pr) (hmm:∀q∈mm,q∈m) (hus:∀q∈(Q4 p x).2,q∈us) {v:Value} (a:QM own h s av v)
  (hbox:∀id,Qc4 own h s id (s.ob id)):QM (Qcb own m) h s' (Q4 p x).1 v∧(∀cs,((p,0),Ob.box cs)∈(Q4 p x).2→Qc4 (Qcb own m) h s' (p,0) (.box cs)):=by
 have noB:∀(xs:List PC) (kk:Nat) cs id,(id,Ob.box cs)∉(QC p kk xs).2:=by
  intro xs;induction xs with
  | nil=>intro kk cs id hx;simp[QC]at hx
  | cons y ys ih=>
   intro kk cs id hx;simp only[QC,KG]at hx
   rcases hx with hx|hx
   ·cases y<;>simp[Qat]at hx
   ·exact ih _ _ _ hx
 cases x with
 | unk=>exact⟨trivial,fun cs hx=>by simp[Q4]at hx⟩
 | one c=>
  cases av with
  | one c'=>exact⟨QR.mv k hnm hbs hp hm hpr hmm hus a,fun cs hx=>by cases c<;>simp[Q4,Qat]at hx⟩
  | _=>simp[QcW]at hm
 | agg xs=>
  cases av with
  | agg cs=>
   obtain⟨vs,rfl,a⟩:=a;exact⟨⟨vs,rfl,Qk.mv k hnm hbs hp hm hpr hmm hus a⟩,fun cs hx=>absurd hx (noB _ _ _ _)⟩
  | _=>simp[QcW]at hm
 | box xs=>
  unfold QcW at hm;split at hm
  ·cases ‹Pat.box xs=Pat.unk›
  ·cases ‹Pat.box xs=Pat.one _›
  ·cases ‹Pat.box xs=Pat.agg _›
  ·rename_i id ys heq
   simp only[Pat.box.injEq]at heq
   subst heq;split at hm
   ·rename_i cs ho
    split at hm
    ·rename_i q m1 hmc
     simp only[KA,KC]at hm
     obtain⟨rfl,rfl⟩:=hm;have hb:=hbox id
     rw[ho]at hb;obtain⟨b,c,e,h1,h2,h3⟩:=hb;have hin:(⟨some (p,0),some id,false⟩:Mv)∈m:=hmm _ (by simp)
     have hown:Qcb own m (p,0)=[b]:=by rw[Qh4 k.new hin rfl rfl,h1];simp
     have hcs:=Qk.mv k hnm hbs hp hmc hpr (fun q hq=>hmm q (by simp[hq])) (fun q hq=>hus q (by simp[Q4,hq])) h3
     refine⟨?_,fun cs' hx=>?_⟩
     ·obtain⟨ha,b',hb1,hb2⟩:=a
      rw[ho]at hb2;have:b'=b:=by rw[h1]at hb2;simpa using hb2.symm
      subst this;refine⟨hp,b',hb1,?_⟩
      have hob:=k.ob (p,0) _ (hus ((p,0),.box (QC p 1 xs).1) (by simp[Q4]))
      rw[hob];exact hown
     ·simp only[Q4,KI,KC,Ob.box.injEq,true_and]at hx
      rcases hx with rfl|hx
      ·exact⟨b,c,e,hown,h2,hcs⟩
      ·exact absurd hx (noB _ _ _ _)
    ·cases hm
   ·cases hm
  ·cases hm
theorem QR.free{own':Id→List Nat}{c:QI}{v:Value}(hf:Qcg c=true)(hi:∀b,Imm own h b→Imm own' h b)(hbs:s'.bs=s.bs)(a:QR own h s c v):QR own' h s' c v:=by
 cases c with
 | any=>exact a
 | d x=>obtain⟨F,r,hF⟩:=a;exact⟨F,r,fun b hb=>hi b (hF b hb)⟩
 | n x=>obtain⟨F,r,hF⟩:=a;exact⟨F,r,fun b hb=>⟨hi b (hF b hb).1,by rw[hbs];exact(hF b hb).2⟩⟩
 | iptr ds=>obtain⟨b,off,c,e,fz,F,h1,h2,h3,h4,h5,h6⟩:=a;exact⟨b,off,c,e,fz,F,h1,h2,h3,h4,hi b h5,fun x hx=>hi x (h6 x hx)⟩
 | fni f l=>obtain⟨vs,F,h1,h2,h3⟩:=a;exact⟨vs,F,h1,h2,fun b hb=>hi b (h3 b hb)⟩
 | fn f caps=>
  cases caps with
  | nil=>obtain⟨vs,h1,h2⟩:=a;cases h2;exact⟨[],h1,.nil⟩
  | cons=>simp[Qcg]at hf
 | _=>simp[Qcg]at hf
theorem Qk.free{own':Id→List Nat}(hi:∀b,Imm own h b→Imm own' h b)(hbs:s'.bs=s.bs):∀{cs:List QI} {vs:List Value},cs.all Qcg=true→Qk own h s cs vs→Qk own' h s' cs vs
 | _,_,_,.nil=> .nil
 | _,_,hf,.cons a b=>by
  simp only[List.all_cons,KB]at hf
  exact .cons (a.free hf.1 hi hbs) (Qk.free hi hbs hf.2 b)
theorem QM.scrub{own':Id→List Nat}(hi:∀b,Imm own h b→Imm own' h b)(hbs:s'.bs=s.bs){av:AV}{v:Value}(a:QM own h s av v):QM own' h s' (scrub av) v:=by
 cases av with
 | one c=>
  simp only[Own.scrub]
  split
  ·exact QR.free ‹_› hi hbs a
  ·trivial
 | agg cs=>
  simp only[Own.scrub]
  split
  ·obtain⟨vs,h1,h2⟩:=a;exact⟨vs,h1,Qk.free hi hbs ‹_› h2⟩
  ·trivial
 | _=>trivial
theorem QcV:∀{ps:List (Nat×Pat)} {nm:Bool} {pr:Prop} {mm:List Mv},Qf7 s nm ps=some (pr,mm)→pr→∀px∈ps,∃q m1,QcW s.ob nm px.1 (s.sl px.1) px.2=some (q,m1)∧q∧∀x∈m1,x∈mm
 | [],_,_,_,_,_,px,hx=>by cases hx
 | (p,x)::r,nm,pr,mm,hm,hpr,px,hx=>by
  simp only[Qf7]at hm
  split at hm
  ·rename_i q m1 q' m2 h1 h2
   simp only[KA,KC]at hm
   obtain⟨rfl,rfl⟩:=hm;rcases KI.1 hx with rfl|hx
   ·exact⟨q,m1,h1,hpr.1,fun x hx=>by simp[hx]⟩
   ·obtain⟨q3,m3,e1,e2,e3⟩:=QcV h2 hpr.2 px hx
    exact⟨q3,m3,e1,e2,fun x hx=>by simp[e3 x hx]⟩
  ·cases hm
theorem Qg4:∀{ps:List (Nat×Pat)} {px:Nat×Pat},px∈ps→∀q∈(Q4 px.1 px.2).2,q∈QcX ps
 | (p,x)::r,px,hx,q,hq=>by
  simp only[QcX,KG]
  rcases KI.1 hx with rfl|hx
  ·exact .inl hq
  ·exact .inr (Qg4 hx q hq)
theorem Qg3:∀{ps:List (Nat×Pat)} {q:Id×Ob},q∈QcX ps→∃px∈ps,q∈(Q4 px.1 px.2).2
 | (p,x)::r,q,hq=>by
  simp only[QcX,KG]at hq
  rcases hq with hq|hq
  ·exact⟨(p,x),by simp,hq⟩
  ·obtain⟨px,h1,h2⟩:=Qg3 hq;exact⟨px,by simp[h1],h2⟩
theorem Qbj(p:Nat):∀(xs:List PC) (k:Nat),(∀q∈(QC p k xs).2,q.1.1=p∧k≤q.1.2)∧((QC p k xs).2.map (·.1)).Nodup
 | [],_=>by simp[QC]
 | y::ys,k=>by
  obtain⟨h1,h2⟩:=Qbj p ys (k+pcN y);cases y with
  | d x=>simpa [QC,Qat,pcN]using Qbj p ys k
  | n x=>simpa [QC,Qat,pcN]using Qbj p ys k
  | own s l dp=>
   simp only[pcN]at h1 h2
   refine⟨fun q hq=>?_,?_⟩
   ·simp only[QC,Qat,pcN,List.cons_append,List.nil_append,KI]at hq
    rcases hq with rfl|hq
    ·exact⟨rfl,KP _⟩
    ·have:=h1 q hq;exact⟨this.1,by omega⟩
   ·simp only[QC,Qat,pcN,List.cons_append,List.nil_append,List.map_cons,Ke]
    refine⟨fun hm=>?_,h2⟩
    obtain⟨q,hq,he⟩:=KQ.1 hm;have:=(h1 q hq).2
    rw[he]at this;simp at this
    omega
theorem QdK(p:Nat)(x:Pat):(∀q∈(Q4 p x).2,q.1.1=p)∧((Q4 p x).2.map (·.1)).Nodup:=by
 cases x with
 | unk=>simp[Q4]
 | one c=>cases c<;>simp[Q4,Qat]
 | agg cs=>exact⟨fun q hq=>((Qbj p cs 0).1 q hq).1,(Qbj p cs 0).2⟩
 | box cs=>
  obtain⟨h1,h2⟩:=Qbj p cs 1;refine⟨fun q hq=>?_,?_⟩
  ·simp only[Q4,KI]at hq
   rcases hq with rfl|hq
   ·rfl
   ·exact(h1 q hq).1
  ·simp only[Q4,List.map_cons,Ke]
   refine⟨fun hm=>?_,h2⟩
   obtain⟨q,hq,he⟩:=KQ.1 hm;have:=(h1 q hq).2
   rw[he]at this;simp at this
theorem Qhp:∀{ps:List (Nat×Pat)},(ps.map (·.1)).Nodup→((QcX ps).map (·.1)).Nodup
 | [],_=>by simp[QcX]
 | (p,x)::r,hn=>by
  simp only[List.map_cons,Ke]at hn
  simp only[QcX,Kv]
  refine Km.2 ⟨(QdK p x).2,Qhp hn.2,fun a ha b hb=>?_⟩
  obtain⟨q,hq,rfl⟩:=KQ.1 ha;obtain⟨q',hq',rfl⟩:=KQ.1 hb;obtain⟨px,h1,h2⟩:=Qg3 hq';have e1:=(QdK p x).1 q hq
  have e2:=(QdK px.1 px.2).1 q' h2
  intro he;apply hn.1
  rw[←e1,he,e2];exact KQ.2 ⟨px,h1,rfl⟩
theorem Qbg{rs:List (Nat×Nat)}{f:Nat→AV}:∀{ps:List (Nat×Pat)} {j:Nat},(ps.map (·.1)).Nodup→
  (∃x,(j,x)∈ps∧Qam rs f ps j=(Q4 j x).1)∨(j∉ps.map (·.1)∧Qam rs f ps j=if Qzs rs j then .any else scrub (f j))
 | [],j,_=> .inr ⟨by simp,rfl⟩
 | (p,x)::r,j,hn=>by
  simp only[List.map_cons,Ke]at hn
  simp only[Qam]
  by_cases hj:j=p
  ·subst hj;exact .inl ⟨x,by simp,by simp⟩
  ·rcases Qbg (rs:=rs) (f:=f) (j:=j) hn.2 with⟨y,h1,h2⟩|⟨h1,h2⟩
   ·exact .inl ⟨y,by simp[h1],by simp[hj,h2]⟩
   ·exact .inr ⟨by simpa [hj]using h1,by simp[hj,h2]⟩
theorem Qky(p:Nat)(x:Pat):(Q4 p x).1≠ .any:=by cases x<;>simp[Q4]
end
theorem QhJ.head0{X:Ctx}{s:St}{a:Act}{w:World}{nm:Bool}{rs:List (Nat×Nat)}{ps:List (Nat×Pat)}(c:QhJ X s a w)(hnm:nm=true→X.M=[])(hps:(ps.map (·.1)).Nodup)(he:QrA s nm ps):
  ∃own',Qt X own' (Qdl rs s ps) a w∧∀p q,q∈ps.map (·.1)→s.sl p=s.sl q→QM own' w.heap (Qdl rs s ps) (Qam rs s.sl ps q) (a.tmps.getD p undef):=by
 obtain⟨own,c⟩:=c;unfold QrA at he;split at he
 ·rename_i q m hm
  obtain⟨hq,hold,hnew⟩:=he;have k:QzU own w.heap (Qdl rs s ps) m (QcX ps):=⟨hold,hnew,c.nodup,c.disj,fun id b hb=>(c.lt id b hb).1,fun id b hb=>c.nh hb,fun k o hk=>Qbk (Qhp hps) _ _ _ hk⟩
  have hnm':nm=true→∀id b,b∈own id→s.bs b:=fun hn id b hb=>by
   rcases(c.lt id b hb).2 with h|h
   ·exact c.bsle b h
   ·rw[hnm hn]at h;cases h
  have hrow:∀p x,(p,x)∈ps→(Qdl rs s ps).sl p≠ .any:=fun p x hx=>by
   rcases Qbg (rs:=rs) (f:=s.sl) (j:=p) hps with⟨y,_,h2⟩|⟨h1,_⟩
   ·show Qam rs s.sl ps p≠ .any
    rw[h2];exact Qky p y
   ·exact absurd (KQ.2 ⟨(p,x),hx,rfl⟩) h1
  have key:∀p x,(p,x)∈ps→QM (Qcb own m) w.heap (Qdl rs s ps) (Q4 p x).1 (a.tmps.getD p undef)∧
    (∀cs,((p,0),Ob.box cs)∈(Q4 p x).2→Qc4 (Qcb own m) w.heap (Qdl rs s ps) (p,0) (.box cs)):=fun p x hx=>by
   obtain⟨q1,m1,e1,e2,e3⟩:=QcV hm hq (p,x) hx;exact QM.mv k hnm' rfl (hrow p x hx) e1 e2 e3 (Qg4 hx) (c.sls p) c.obs
  refine⟨Qcb own m,c.next c.defers c.size rfl rfl rfl (KP _) (fun _ _ _=>rfl) ?_ ?_ ?_ rfl ?_ ?_ fun _ _=>rfl,fun p q hq0 hpq=>?_⟩
  rotate_right
  ·rcases Qbg (rs:=rs) (f:=s.sl) (j:=q) hps with⟨y,h1,h2⟩|⟨h1,_⟩
   ·rw[h2]
    obtain⟨q1,m1,e1,e2,e3⟩:=QcV hm hq (q,y) h1;have hv:=c.sls p
    rw[hpq]at hv;exact(QM.mv k hnm' rfl (hrow q y h1) e1 e2 e3 (Qg4 h1) hv c.obs).1
   ·exact absurd hq0 h1
  ·intro id b hb
   obtain⟨_,_,_,o,_,ho⟩:=Qdn hb;exact c.lt o b ho
  ·intro id
   unfold Qcb;split
   ·split
    ·split
     ·exact(c.nodup _).sublist (List.take_sublist _ _)
     ·exact c.nodup _
    ·simp
   ·simp
  ·intro id id' b h1 h2
   obtain⟨q1,hq1,e1,o1,f1,g1⟩:=Qdn h1;obtain⟨q2,hq2,e2,o2,f2,g2⟩:=Qdn h2;have:=c.disj o1 o2 b g1 g2
   subst this;have:=QX (f:=(·.old)) hold hq1 hq2 f1 f2
   subst this;rw[e1]at e2;simpa using e2
  ·intro id
   by_cases hid:id∈(QcX ps).map (·.1)
   ·obtain⟨⟨id',o⟩,hmem,rfl⟩:=KQ.1 hid
    have ho:(Qdl rs s ps).ob id'=o:=k.ob id' o hmem
    simp only[ho]
    cases o with
    | box cs=>
     obtain⟨⟨p,x⟩,h1,h2⟩:=Qg3 hmem;have hr:=(QdK p x).1 _ h2
     have:id'=(p,0):=by
      cases x with
      | unk=>simp[Q4]at h2
      | one c=>cases c<;>simp[Q4,Qat]at h2
      | agg xs=>
       exfalso
       have:∀(xs:List PC) (kk:Nat) cs id,(id,Ob.box cs)∉(QC p kk xs).2:=by
        intro xs;induction xs with
        | nil=>intro kk cs id hx;simp[QC]at hx
        | cons y ys ih=>
         intro kk cs id hx;simp only[QC,KG]at hx
         rcases hx with hx|hx
         ·cases y<;>simp[Qat]at hx
         ·exact ih _ _ _ hx
       exact this _ _ _ _ h2
      | box xs=>
       have:∀(xs:List PC) (kk:Nat) cs id,(id,Ob.box cs)∉(QC p kk xs).2:=by
        intro xs;induction xs with
        | nil=>intro kk cs id hx;simp[QC]at hx
        | cons y ys ih=>
         intro kk cs id hx;simp only[QC,KG]at hx
         rcases hx with hx|hx
         ·cases y<;>simp[Qat]at hx
         ·exact ih _ _ _ hx
       simp only[Q4,KI,KC]at h2
       rcases h2 with⟨h2,_⟩|h2
       ·exact h2
       ·exact absurd h2 (this _ _ _ _)
     subst this;exact(key p x h1).2 cs h2
    | _=>trivial
   ·have ho:(Qdl rs s ps).ob id= .none:=QeC _ _ hid
    rw[ho];trivial
  ·intro j
   rcases Qbg (rs:=rs) (f:=s.sl) (j:=j) hps with⟨x,h1,h2⟩|⟨h1,h2⟩
   ·show QM _ _ _ (Qam rs s.sl ps j) _
    rw[h2];exact(key j x h1).1
   ·show QM _ _ _ (Qam rs s.sl ps j) _
    rw[h2];split
    ·trivial
    ·exact QM.scrub (s:=s) (s':=Qdl rs s ps) (own':=Qcb own m) (fun b hb=>Qm6 hb) rfl (c.sls j)
 ·exact he.elim
def Qff(rs:List (Nat×Nat))(f:Nat→AV)(ps:List (Nat×Pat)):List (Nat×Nat)→Nat→AV
 | [],j=>Qam rs f ps j
 | (p,q)::r,j=>if j=p then Qam rs f ps q else Qff rs f ps r j
def Qbd(rs:List (Nat×Nat))(s:St)(ps:List (Nat×Pat))(as:List (Nat×Nat)):St:=⟨s.bs,Qff rs s.sl ps as,Q7 (fun _=> .none) (QcX ps)⟩
def Qtc(s:St):List (Nat×Nat)→Prop
 | []=>True
 | (p,q)::r=>s.sl p=s.sl q∧Qtc s r
theorem QbU{rs:List (Nat×Nat)}{f:Nat→AV}{ps:List (Nat×Pat)}:∀{as:List (Nat×Nat)} {j:Nat},(∃q,(j,q)∈as∧Qff rs f ps as j=Qam rs f ps q∧∀f',Qff rs f' ps as j=Qam rs f' ps q)∨(j∉as.map (·.1)∧Qff rs f ps as j=Qam rs f ps j∧∀f',Qff rs f' ps as j=Qam rs f' ps j)
 | [],j=> .inr ⟨by simp,rfl,fun _=>rfl⟩
 | (p,q)::r,j=>by
  simp only[Qff]
  by_cases hj:j=p
  ·exact .inl ⟨q,by simp[hj],by simp[hj],fun _=>by simp[hj]⟩
  ·rcases QbU (rs:=rs) (f:=f) (ps:=ps) (as:=r) (j:=j)with⟨q',h1,h2,h3⟩|⟨h1,h2,h3⟩
   ·exact .inl ⟨q',by simp[h1],by simp[hj,h2],fun f'=>by simp[hj,h3 f']⟩
   ·exact .inr ⟨by simpa [hj]using h1,by simp[hj,h2],fun f'=>by simp[hj,h3 f']⟩
theorem Qij{s:St}:∀{as:List (Nat×Nat)},Qtc s as→∀z∈as,s.sl z.1=s.sl z.2
 | [],_,z,hz=>by cases hz
 | (p,q)::r,h,z,hz=>by
  rcases KI.1 hz with rfl|hz
  ·exact h.1
  ·exact Qij h.2 z hz
theorem QhJ.head{X:Ctx}{s:St}{a:Act}{w:World}{nm:Bool}{rs:List (Nat×Nat)}{ps:List (Nat×Pat)}{as:List (Nat×Nat)}(c:QhJ X s a w)(hnm:nm=true→X.M=[])(hps:(ps.map (·.1)).Nodup)(he:QrA s nm ps)
  (ha:Qtc s as) (hq:∀z∈as,z.2∈ps.map (·.1)):QhJ X (Qbd rs s ps as) a w:=by
 obtain⟨own,c,h⟩:=QhJ.head0 (rs:=rs) c hnm hps he;have hne:∀q,q∈ps.map (·.1)→Qam rs s.sl ps q≠ .any:=fun q hq0=>by
  rcases Qbg (rs:=rs) (f:=s.sl) (j:=q) hps with⟨y,_,h2⟩|⟨h1,_⟩
  ·rw[h2];exact Qky q y
  ·exact absurd hq0 h1
 have k:Qav own own w.heap w.heap (Qdl rs s ps) (Qbd rs s ps as):=Qav.refl_heap (s:=Qdl rs s ps) (s':=Qbd rs s ps as) (fun r hr=>by
  show Qff rs s.sl ps as r≠ .any
  rcases QbU (rs:=rs) (f:=s.sl) (ps:=ps) (as:=as) (j:=r)with⟨q,h1,h2,_⟩|⟨_,h2,_⟩
  ·rw[h2];exact hne q (hq _ h1)
  ·rw[h2];exact hr) rfl rfl
 refine⟨own,c.next c.defers c.size rfl rfl rfl (KP _) (fun _ _ _=>rfl) c.lt c.nodup c.disj rfl (fun id=>?_) (fun j=>?_) fun _ _=>rfl⟩
 ·exact Qc4.keep (s:=Qdl rs s ps) (s':=Qbd rs s ps as) k rfl rfl (fun _ _=>rfl) (c.obs id)
 ·show QM own w.heap (Qbd rs s ps as) (Qff rs s.sl ps as j) _
  rcases QbU (rs:=rs) (f:=s.sl) (ps:=ps) (as:=as) (j:=j)with⟨q,h1,h2,_⟩|⟨_,h2,_⟩
  ·rw[h2];exact(h j q (hq _ h1) (Qij ha _ h1)).keep k
  ·rw[h2];exact(c.sls j).keep k
end
section
variable {hd:Hid}
structure QY where
  ι:Type
  rs:List (Nat×Nat)
  mods:List (Nat×(ι→Pat))
  boxes:List (Nat×(ι→List PC))
  arrs:List (Nat×(ι→Nat×List (List D)×Nat))
  ok:ι→Prop
  mu:ι→Nat
  alis:List (Nat×Nat):=[]
def QY.st(I:QY)(i:I.ι):List (Nat×Pat):=
 I.mods.map (fun q=>(q.1,q.2 i))++(I.boxes.map (fun q=>(q.1,.box (q.2 i)))++I.arrs.map (fun q=>(q.1,.one (.own (q.2 i).1 (q.2 i).2.1 (q.2 i).2.2))))
def Qx8:AV→Bool
 | .one (.osl _)| .one (.fr ..)=>true
 | _=>false
def Qqa:Code→List Nat
 | .region _ ops _=>ops.toList.filterMap (·.dst)
 | .seq a b=>Qqa a++Qqa b
 | .cond _ a b=>Qqa a++Qqa b
 | .block _ c=>Qqa c
 | .loop c=>Qqa c
 | _=>[]
def Qk9(rs:List (Nat×Nat))(mods fix:List Nat)(D:List Nat):Bool:=
 D.all (fun d=>Qzs rs d||mods.contains d)&&mods.all (fun p=>D.contains p)&&rs.all (fun r=>(List.range' r.1 (r.2-r.1)).all fun j=>D.contains j)&&
  decide (mods++fix).Nodup
def QY.chk(I:QY)(D:List Nat):Bool:=Qk9 I.rs (I.mods.map (·.1)) (I.boxes.map (·.1)++I.arrs.map (·.1)) D&&
 I.alis.all (fun z=> !D.contains z.1&&(I.arrs.map (·.1)).contains z.2)
def Qig(nm:Bool)(I:QY)(i:I.ι)(s:St):Prop:=QrA s nm (I.st i)∧I.arrs.all (fun q=>Qx8 (s.sl q.1))=true∧Qtc s I.alis
def QCb(k:St→Prop)(Q:Exit→St→Prop):Exit→St→Prop
 | .normal,s=>k s
 | e,s=>Q e s
def Qe7(id:Nat)(Q:Exit→St→Prop):Exit→St→Prop
 | .exit id',s=>if id'=id then Q .normal s else Q (.exit id') s
 | e,s=>Q e s
def QlI(nm:Bool)(I:QY)(i:I.ι)(Q:Exit→St→Prop):Exit→St→Prop
 | .normal,s=>∃j,I.ok j∧I.mu j<I.mu i∧Qig nm I j s
 | e,s=>Q e s
def Qlc(v:AV)(A B:Prop):Prop:=
 match v with
 | .one (.d (.v (.bool b)))=>(b=true→A)∧(b=false→B)
 | _=>False
def QCS(T:QS)(W:(Exit→St→Prop)→St→Prop)(D:List Nat)(Q:Exit→St→Prop)(s:St):Prop:=
 ∃I:QY,I.chk D=true∧(∃i,I.ok i∧Qig T.nm I i s)∧∀i,I.ok i→W (QlI T.nm I i Q) (Qbd I.rs s (I.st i) I.alis)
def wpc(T:QS):Code→(Exit→St→Prop)→St→Prop
 | .skip,Q,s=>Q .normal s
 | .label _,Q,s=>Q .normal s
 | .region _ ops _,Q,s=>TL T ops (Q .normal) ops.toList s
 | .seq a b,Q,s=>wpc T a (QCb (wpc T b Q) Q) s
 | .cond c x y,Q,s=>Qlc (rho s c) (wpc T x Q s) (wpc T y Q s)
 | .block id c,Q,s=>wpc T c (Qe7 id Q) s
 | .loop c,Q,s=>QCS T (wpc T c) (Qqa c) Q s
 | .exit id,Q,s=>Q (.exit id) s
 | .ret,Q,s=>Q .ret s
 | _,_,_=>False
def QoR:Op→Bool
 | .store .. =>true
 | _=>false
def QcH(T:QS)(n:Nat→Bool):Code→Bool
 | .region _ ops draw=>(ops.all fun o=>match o.dst with
   | some d=>n d&& !QoR o.op
   | none=>true)&&(!draw||QlV T ops)
 | .seq a b=>QcH T n a&&QcH T n b
 | .cond _ a b=>QcH T n a&&QcH T n b
 | .block _ c=>QcH T n c
 | .loop c=>QcH T n c
 | _=>true
section
variable {T:QS}
theorem QvS{k k':St→Prop}{Q Q':Exit→St→Prop}(hk:∀s,k s→k' s)(hq:∀e s,Q e s→Q' e s)(e:Exit)(s:St)(h:QCb k Q e s):QCb k' Q' e s:=by
 cases e with
 | normal=>exact hk s h
 | _=>exact hq _ _ h
theorem Qoh{id:Nat}{Q Q':Exit→St→Prop}(hq:∀e s,Q e s→Q' e s)(e:Exit)(s:St)(h:Qe7 id Q e s):Qe7 id Q' e s:=by
 cases e with
 | exit id'=>simp only[Qe7]at *;split at h<;>simp_all
 | _=>exact hq _ _ h
theorem Qsp{nm:Bool}{I:QY}{i:I.ι}{Q Q':Exit→St→Prop}(hq:∀e s,Q e s→Q' e s)(e:Exit)(s:St)(h:QlI nm I i Q e s):QlI nm I i Q' e s:=by
 cases e with
 | normal=>exact h
 | _=>exact hq _ _ h
theorem Qob{ops:Array Oper}{Q Q':St→Prop}(hq:∀s,Q s→Q' s):∀(l:List Oper) (s:St),TL T ops Q l s→TL T ops Q' l s
 | [],s,h=>hq s h
 | o::r,s,h=>Qgv (fun _ _ h=>Qob hq r _ h) h
theorem Qkj{v:AV}{A B A' B':Prop}(ha:A→A')(hb:B→B')(h:Qlc v A B):Qlc v A' B':=by
 unfold Qlc at *;split at h
 ·exact⟨fun e=>ha (h.1 e),fun e=>hb (h.2 e)⟩
 ·exact h.elim
theorem Qbx:∀(c:Code) {Q Q':Exit→St→Prop} (_:∀e s,Q e s→Q' e s) (s:St),wpc T c Q s→wpc T c Q' s
 | .skip,_,_,hq,s,h=>hq _ s h
 | .label _,_,_,hq,s,h=>hq _ s h
 | .region _ ops _,_,_,hq,s,h=>Qob (fun s=>hq _ s) _ s h
 | .seq a b,_,_,hq,s,h=>Qbx a (QvS (fun s=>Qbx b hq s) hq) s h
 | .cond _ x y,_,_,hq,s,h=>Qkj (Qbx x hq s) (Qbx y hq s) h
 | .block _ c,_,_,hq,s,h=>Qbx c (Qoh hq) s h
 | .loop c,_,_,hq,s,h=>by
  obtain⟨I,h1,h2,h3⟩:=h;exact⟨I,h1,h2,fun i hi=>Qbx c (Qsp hq) _ (h3 i hi)⟩
 | .exit _,_,_,hq,s,h=>hq _ s h
 | .ret,_,_,hq,s,h=>hq _ s h
 | .rangeFunc ..,_,_,_,_,h=>h.elim
 | .scope _,_,_,_,_,h=>h.elim
 | .goto _,_,_,_,_,h=>h.elim
 | .refuse _,_,_,_,_,h=>h.elim
theorem Qjp(v:AV):scrub (scrub v)=scrub v:=by
 cases v with
 | one c=>
  cases hc:Qcg c with
  | true=>simp only[scrub,hc,if_true]
  | false=>simp only[scrub,hc,KX,if_false]
 | agg cs=>
  cases hc:cs.all Qcg with
  | true=>simp only[scrub,hc,if_true]
  | false=>simp only[scrub,hc,KX,if_false]
 | _=>rfl
def Fr(D:List Nat)(s s':St):Prop:=∀j,j∉D→scrub (s'.sl j)=scrub (s.sl j)
theorem Fr.refl(D:List Nat)(s:St):Fr D s s:=fun _ _=>rfl
theorem Fr.trans{D:List Nat}{a b c:St}(h:Fr D a b)(k:Fr D b c):Fr D a c:=fun j hj=>(k j hj).trans (h j hj)
theorem Fr.mono{D D':List Nat}{a b:St}(h:Fr D a b)(hd:∀j∈D,j∈D'):Fr D' a b:=fun j hj=>h j fun hm=>hj (hd j hm)
theorem Qpr{ops:Array Oper}{Q:St→Prop}:∀(l:List Oper) (s:St),TL T ops Q l s→TL T ops (fun s'=>Q s'∧Fr (l.filterMap (·.dst)) s s') l s
 | [],s,h=>⟨h,Fr.refl _ s⟩
 | o::r,s,h=>Qgv (fun v us h=>Qob (fun s' hs=>⟨hs.1,fun j hj=>by
   have hj2:j∉r.filterMap (·.dst):=fun hm=>hj (by
    rw[List.filterMap_cons];split
    ·exact hm
    ·exact YP _ hm)
   have hj1:o.dst≠some j:=fun he=>hj (by rw[List.filterMap_cons,he];simp)
   rw[hs.2 j hj2,QD _ _ _ _ _ hj1]⟩) r _ (Qpr r _ h)) h
theorem QoM{I:QY}{D:List Nat}(hc:I.chk D=true){nm:Bool}{i:I.ι}{s:St}(he:Qig nm I i s)(i':I.ι):Fr D s (Qdl I.rs s (I.st i')):=by
 simp only[QY.chk,Qk9,KB,Kg,Kz,KK]at hc
 obtain⟨⟨⟨⟨h1,h2⟩,h3⟩,h4⟩,h5⟩:=hc;have hst:∀i,(I.st i).map (·.1)=I.mods.map (·.1)++(I.boxes.map (·.1)++I.arrs.map (·.1)):=fun i=>by
  simp[QY.st,Kv,List.map_map,Function.comp_def]
 intro j hj;show scrub (Qam I.rs s.sl (I.st i') j)=scrub (s.sl j)
 rcases Qbg (rs:=I.rs) (f:=s.sl) (j:=j) (ps:=I.st i') (by rw[hst];exact h4)with⟨x,e1,e2⟩|⟨e1,e2⟩
 ·rw[e2]
  simp only[QY.st,KG,KQ,KC]at e1
  rcases e1 with⟨q,hq,rfl,_⟩|⟨q,hq,rfl,rfl⟩|⟨q,hq,rfl,rfl⟩
  ·exact absurd (h2 q.1 (KQ.2 ⟨q,hq,rfl⟩)) hj
  ·obtain⟨he,_⟩:=he
   unfold QrA at he;split at he
   ·rename_i pr m hm
    obtain⟨q1,m1,f1,_,_⟩:=QcV hm he.1 (q.1,.box (q.2 i)) (by simp only[QY.st,KG,KQ];exact .inr (.inl ⟨q,hq,rfl⟩))
    simp only[Q4]
    unfold QcW at f1;split at f1
    ·cases ‹Pat.box _=Pat.unk›
    ·cases ‹Pat.box _=Pat.one _›
    ·cases ‹Pat.box _=Pat.agg _›
    ·rename_i heq _;rw[heq];rfl
    ·cases f1
   ·exact he.elim
  ·have:=he.2.1
   rw[Kg]at this;have:=this q hq
   simp only[Q4,Qat]
   unfold Qx8 at this;split at this
   ·rename_i heq;rw[heq];rfl
   ·rename_i heq;rw[heq];rfl
   ·cases this
 ·rw[e2]
  split
  ·rename_i hr
   simp only[Qzs,List.any_eq_true,KB,KK]at hr
   obtain⟨r,hr1,hr2,hr3⟩:=hr;refine absurd (h3 r hr1 j ?_) hj
   rw[List.mem_range'_1];omega
  ·exact Qjp _
theorem Ql8(I:QY)(i:I.ι):(I.st i).map (·.1)=I.mods.map (·.1)++(I.boxes.map (·.1)++I.arrs.map (·.1)):=by
 simp[QY.st,Kv,List.map_map,Function.comp_def]
theorem QiB{I:QY}{D:List Nat}(hc:I.chk D=true):∀z∈I.alis,z.1∉D∧z.2∈I.arrs.map (·.1):=fun z hz=>by
 simp only[QY.chk,KB,Kg]at hc
 have:=hc.2 z hz
 simp only[KB,Ko,Kz]at this
 refine⟨fun h=>?_,this.2⟩
 have h1:=this.1
 rw[Kz.2 h]at h1;cases h1
theorem QpK{I:QY}{D:List Nat}(hc:I.chk D=true)(i:I.ι):((I.st i).map (·.1)).Nodup:=by
 simp only[QY.chk,Qk9,KB,KK]at hc
 rw[Ql8];exact hc.1.2
theorem Qpv{I:QY}{D:List Nat}(hc:I.chk D=true)(i:I.ι):∀z∈I.alis,z.2∈(I.st i).map (·.1):=fun z hz=>by
 rw[Ql8];simp only[KG]
 exact .inr (.inr (QiB hc z hz).2)
theorem Qls{I:QY}{D:List Nat}(hc:I.chk D=true)(i:I.ι){q:Nat}(hq:q∈I.arrs.map (·.1))(f:Nat→AV):Qam I.rs f (I.st i) q= .one (.osl (q,0)):=by
 have hk:=QpK hc i
 rcases Qbg (rs:=I.rs) (f:=f) (j:=q) hk with⟨x,e1,e2⟩|⟨e1,_⟩
 ·rw[e2]
  have hn:=hk
  rw[Ql8]at hn;simp only[QY.st,KG,KQ,KC]at e1
  rw[Km,Km]at hn;rcases e1 with⟨z,hz,rfl,_⟩|⟨z,hz,rfl,rfl⟩|⟨z,hz,rfl,rfl⟩
  ·exact absurd rfl (hn.2.2 z.1 (KQ.2 ⟨z,hz,rfl⟩) z.1 (List.mem_append_right _ hq))
  ·exact absurd rfl (hn.2.1.2.2 z.1 (KQ.2 ⟨z,hz,rfl⟩) z.1 hq)
  ·rfl
 ·exact absurd (by rw[Ql8];simp only[KG];exact .inr (.inr hq)) e1
theorem Qse{I:QY}{D:List Nat}(hc:I.chk D=true){nm:Bool}{i:I.ι}{s:St}(he:Qig nm I i s)(i':I.ι):Fr D s (Qbd I.rs s (I.st i') I.alis):=by
 intro j hj;have h0:=QoM hc he i' j hj
 show scrub (Qff I.rs s.sl (I.st i') I.alis j)=_
 rcases QbU (rs:=I.rs) (f:=s.sl) (ps:=I.st i') (as:=I.alis) (j:=j)with⟨q,h1,h2,_⟩|⟨_,h2,_⟩
 ·rw[h2,Qls hc i' (QiB hc _ h1).2]
  have hs:=Qij he.2.2 _ h1
  simp only at hs
  rw[hs];obtain⟨z,hz,hzq⟩:=KQ.1 (QiB hc _ h1).2;have hr:=he.2.1
  rw[Kg]at hr;have hr:=hr z hz
  rw[hzq]at hr;simp only at hr
  unfold Qx8 at hr;split at hr
  ·rename_i heq;rw[heq];rfl
  ·rename_i heq;rw[heq];rfl
  ·cases hr
 ·rw[h2];exact h0
theorem QcK:∀(c:Code) {Q:Exit→St→Prop} (s:St),wpc T c Q s→wpc T c (fun e s'=>Q e s'∧Fr (Qqa c) s s') s
 | .skip,_,s,h=>⟨h,Fr.refl _ s⟩
 | .label _,_,s,h=>⟨h,Fr.refl _ s⟩
 | .region _ ops _,_,s,h=>Qpr _ s h
 | .seq a b,Q,s,h=>by
  refine Qbx a (fun e s1 hs=>?_) s (QcK a s h)
  cases e with
  | normal=>exact Qbx b (fun e s2 hs2=>⟨hs2.1,(hs.2.mono (fun j hj=>by simp only[Qqa,KG];exact .inl hj)).trans (hs2.2.mono (fun j hj=>by simp only[Qqa,KG];exact .inr hj))⟩) s1 (QcK b s1 hs.1)
  | _=>exact⟨hs.1,hs.2.mono (fun j hj=>by simp only[Qqa,KG];exact .inl hj)⟩
 | .cond c x y,Q,s,h=>Qkj (fun h=>Qbx x (fun e s' hs=>⟨hs.1,hs.2.mono (fun j hj=>by simp only[Qqa,KG];exact .inl hj)⟩) s (QcK x s h))
   (fun h=>Qbx y (fun e s' hs=>⟨hs.1,hs.2.mono (fun j hj=>by simp only[Qqa,KG];exact .inr hj)⟩) s (QcK y s h)) h
 | .block id c,Q,s,h=>by
  refine Qbx c (fun e s1 hs=>?_) s (QcK c s h)
  cases e with
  | exit id'=>
   simp only[Qe7]at hs ⊢
   split
   ·rename_i hid;rw[if_pos hid]at hs;exact hs
   ·rename_i hid;rw[if_neg hid]at hs;exact hs
  | _=>exact hs
 | .loop c,Q,s,h=>by
  obtain⟨I,h1,⟨i0,hi0,he0⟩,h3⟩:=h;refine⟨I,h1,⟨i0,hi0,he0⟩,fun i hi=>?_⟩
  refine Qbx c (fun e s1 hs=>?_) _ (QcK c _ (h3 i hi))
  have hf:=(Qse h1 he0 i).trans hs.2
  cases e with
  | normal=>exact hs.1
  | _=>exact⟨hs.1,hf⟩
 | .exit _,_,s,h=>⟨h,Fr.refl _ s⟩
 | .ret,_,s,h=>⟨h,Fr.refl _ s⟩
 | .rangeFunc ..,_,_,h=>h.elim
 | .scope _,_,_,h=>h.elim
 | .goto _,_,_,h=>h.elim
 | .refuse _,_,_,h=>h.elim
end
section
variable {X:Ctx} {T:QS}
theorem QBa{I:QY}{D:List Nat}(hc:I.chk D=true){s s':St}{i j:I.ι}(hb:s'.bs=s.bs)(hf:Fr D (Qbd I.rs s (I.st i) I.alis) s'):Qbd I.rs s' (I.st j) I.alis=Qbd I.rs s (I.st j) I.alis:=by
 have hc0:=hc
 simp only[QY.chk,Qk9,KB,Kg,Kz,KK,Kq]at hc
 obtain⟨⟨⟨⟨h1,h2⟩,h3⟩,h4⟩,h5⟩:=hc;have hst:∀i,(I.st i).map (·.1)=I.mods.map (·.1)++(I.boxes.map (·.1)++I.arrs.map (·.1)):=fun i=>by
  simp[QY.st,Kv,List.map_map,Function.comp_def]
 have key:∀(ps:List (Nat×Pat)) (k:Nat),(k∉ps.map (·.1)→Qzs I.rs k=false→scrub (s'.sl k)=scrub (s.sl k))→Qam I.rs s'.sl ps k=Qam I.rs s.sl ps k:=by
  intro ps;induction ps with
  | nil=>
   intro k hk;simp only[Qam]
   cases hr:Qzs I.rs k with
   | true=>rfl
   | false=>simp only[KX,if_false];exact hk (by simp) hr
  | cons x r ih=>
   intro k hk;obtain⟨p,y⟩:=x;simp only[Qam]
   by_cases hkp:k=p
   ·simp[hkp]
   ·simp only[hkp,if_false]
    exact ih k fun hm hr=>hk (by simp[hkp];simpa using hm) hr
 simp only[Qbd,hb]
 congr 1
 funext k
 rcases QbU (rs:=I.rs) (f:=s.sl) (ps:=I.st j) (as:=I.alis) (j:=k)with⟨q,g1,g2,g3⟩|⟨g1,g2,g3⟩
 ·rw[g3 s'.sl,g2,Qls hc0 j (QiB hc0 _ g1).2,Qls hc0 j (QiB hc0 _ g1).2]
 rw[g3 s'.sl,g2];refine key _ k fun hk hr=>?_
 have hkD:k∉D:=fun hm=>by
  rcases h1 k hm with h|h
  ·rw[hr]at h;cases h
  ·exact hk (by rw[hst];simp only[KG];exact .inl h)
 rw[hf k hkD];show scrub (Qff I.rs s.sl (I.st i) I.alis k)=_
 rcases QbU (rs:=I.rs) (f:=s.sl) (ps:=I.st i) (as:=I.alis) (j:=k)with⟨q,k1,_,_⟩|⟨_,k2,_⟩
 ·exact absurd (KQ.2 ⟨_,k1,rfl⟩) g1
 rw[k2];rcases Qbg (rs:=I.rs) (f:=s.sl) (j:=k) (ps:=I.st i) (by rw[hst];exact h4)with⟨x,e1,_⟩|⟨_,e2⟩
 ·exact absurd (by rw[hst,←hst i];exact KQ.2 ⟨(k,x),e1,rfl⟩) hk
 ·rw[e2,hr];exact Qjp _
theorem Qbh(hS:∀(ops:Array Oper) (o:Oper),o∈ops.toList→(∀d,o.dst=some d→X.dok d=true∧QoR o.op=false)→Qj2 X T ops o)(hm:X.P.follows .mixedOrders=true)(hnm:T.nm=true→X.M=[]):
  ∀(c:Code) {Q:Exit→St→Prop} {s:St} {a:Act} {w:World},QcH T X.dok c=true→wpc T c Q s→QhJ X s a w→c.wp X.P (fun e a w=>∃s',Q e s'∧QhJ X s' a w) a w
 | .skip,Q,s,a,w,_,h,c=>wp_skip ⟨s,h,c⟩
 | .label _,Q,s,a,w,_,h,c=>wp_label ⟨s,h,c⟩
 | .region _ ops draw,Q,s,a,w,hst,h,c=>by
  simp only[QcH,KB,Kq,Ko]at hst
  obtain⟨h1,h2⟩:=hst;have hS':∀o∈ops.toList,Qj2 X T ops o:=fun o ho=>hS ops o ho fun d hd=>by
   have:=Array.all_eq_true_iff_forall_mem.1 h1 o (by simpa using ho)
   simpa [hd]using this
  have hfm:(List.range ops.size).filterMap (ops[·]?)=ops.toList:=by
   apply List.ext_getElem?
   intro i;have:∀(l:List Nat),(∀k∈l,k<ops.size)→l.filterMap (ops[·]?)=l.map (fun k=>(ops[k]?).getD default):=by
    intro l;induction l with
    | nil=>intro _;rfl
    | cons x r ih=>
     intro hl;have hx:=hl x (by simp)
     rw[List.filterMap_cons,K4 hx];simp only[List.map_cons,K4 hx,YF]
     rw[ih fun k hk=>hl k (by simp[hk])]
   rw[this _ (by simp)]
   by_cases hi:i<ops.size
   ·simp[hi]
   ·simp[hi]
  cases draw with
  | false=>
   refine wp_region (Qns hS' (fun s a w hq hc=>⟨s,hq,hc⟩) _ s a w (by simp) ?_ c)
   rw[hfm];exact h
  | true=>
   simp at h2
   refine wp_region_any hm ?_
   have c':QhJ X s a {w with drawn:=w.drawn+1}:=by
    obtain⟨own,c⟩:=c;exact⟨own,c.next c.defers c.size rfl rfl rfl (KP _) (fun _ _ _=>rfl) c.lt c.nodup c.disj rfl c.obs c.sls fun _ _=>rfl⟩
   have hrest:Qal ops.size (Array.replicate ops.size false)=List.range ops.size:=by
    refine List.filter_eq_self.2 fun k hk=>?_
    have:k<ops.size:=by simpa using hk
    simp[this]
   refine Qtf hS' h2 (fun s a w hq hc=>⟨s,hq,hc⟩) _ _ s a _ (by simp) ?_ (by rw[hrest];simp) (by rw[hrest,hfm];exact h) c'
   intro j hj
   by_cases hjs:j<ops.size<;>simp[hjs]at hj
 | .seq x y,Q,s,a,w,hst,h,c=>by
  simp only[QcH,KB]at hst
  refine wp_seq (wp_mono (Qbh hS hm hnm x hst.1 h c) fun e a1 w1 hq=>?_)
  obtain⟨s1,hq,hc⟩:=hq;cases e with
  | normal=>exact Qbh hS hm hnm y hst.2 hq hc
  | _=>exact⟨s1,hq,hc⟩
 | .cond x c1 c2,Q,s,a,w,hst,h,c=>by
  simp only[QcH,KB]at hst
  have h':Qlc (rho s x) (wpc T c1 Q s) (wpc T c2 Q s):=h
  unfold Qlc at h';split at h'
  ·rename_i b hb
   have hv:a.eval x= .bool b:=by
    obtain⟨own,c⟩:=c;cases x with
    | tmp t=>
     have:=c.sls t
     simp only[rho]at hb
     rw[hb]at this;obtain⟨F,r,_⟩:=this;show a.tmps.getD t undef=_
     generalize a.tmps.getD t undef=v at r ⊢;cases r with
     | v _ r=>rfl
    | const v=>
     simp only[rho]at hb
     split at hb
     ·simp only[AV.one.injEq,QI.d.injEq,D.v.injEq]at hb;exact hb
     ·cases hb
    | global g=>cases hb
    | func f=>cases hb
   cases b with
   | true=>exact wp_cond_true hv (Qbh hS hm hnm c1 hst.1 (h'.1 rfl) c)
   | false=>exact wp_cond_false hv (Qbh hS hm hnm c2 hst.2 (h'.2 rfl) c)
  ·exact h'.elim
 | .block id x,Q,s,a,w,hst,h,c=>by
  refine wp_block (wp_mono (Qbh hS hm hnm x hst h c) fun e a1 w1 hq=>?_)
  obtain⟨s1,hq,hc⟩:=hq;cases e with
  | exit id'=>
   simp only[Exit.inBlock]
   simp only[Qe7]at hq
   split
   ·rename_i hid;rw[if_pos hid]at hq;exact⟨s1,hq,hc⟩
   ·rename_i hid;rw[if_neg hid]at hq;exact⟨s1,hq,hc⟩
  | _=>exact⟨s1,hq,hc⟩
 | .loop x,Q,s,a,w,hst,h,c=>by
  obtain⟨I,h1,⟨i0,hi0,he0⟩,h3⟩:=h;have hnd:∀i,((I.st i).map (·.1)).Nodup:=fun i=>QpK h1 i
  refine wp_loop_ghost (fun n a w=>∃i,I.ok i∧I.mu i=n∧QhJ X (Qbd I.rs s (I.st i) I.alis) a w) (I.mu i0) ⟨i0,hi0,rfl,c.head hnm (hnd i0) he0.1 he0.2.2 (Qpv h1 i0)⟩ ?_
  rintro n a1 w1 ⟨i,hi,rfl,hc⟩;refine wp_mono (Qbh hS hm hnm x hst (QcK x _ (h3 i hi)) hc) fun e a2 w2 hq=>?_
  obtain⟨s2,⟨hq,hf⟩,hc2⟩:=hq;cases e with
  | normal=>
   obtain⟨j,hj,hlt,hen⟩:=hq;refine⟨I.mu j,hlt,j,hj,rfl,?_⟩
   have hb:s2.bs=s.bs:=by
    obtain⟨o1,d1⟩:=c;obtain⟨o2,d2⟩:=hc2;rw[d1.bs,d2.bs]
   rw[←QBa h1 hb hf];exact hc2.head hnm (hnd j) hen.1 hen.2.2 (Qpv h1 j)
  | _=>exact⟨s2,hq,hc2⟩
 | .exit _,Q,s,a,w,_,h,c=>wp_exit ⟨s,h,c⟩
 | .ret,Q,s,a,w,_,h,c=>wp_ret ⟨s,h,c⟩
 | .rangeFunc ..,_,_,_,_,_,h,_=>h.elim
 | .scope _,_,_,_,_,_,h,_=>h.elim
 | .goto _,_,_,_,_,_,h,_=>h.elim
 | .refuse _,_,_,_,_,_,h,_=>h.elim
end
end
section
variable {hd:Hid}
def QlA(xs:List (IntKind×Int)):Value:= .agg (xs.map fun(q:IntKind×Int)=>Value.int q.1 q.2).toArray
def QFK(P:Program)(t:TypeId)(n:Nat):Prop:=
 ∀(op:BinOp) (x y:Operand) (xs ys:List (IntKind×Int)) (w:World),xs.length=n→ys.length=n→xs.map (fun q=>q.1)=ys.map (fun q=>q.1)→(op=BinOp.eql∨op=BinOp.neq)→
  ((eqGuard op t x y (QlA xs) (QlA ys):Sem Unit) >>= fun _=>binOp op t (QlA xs) (QlA ys)).run P w=
   .ok (.bool (if op=BinOp.eql then(xs.map (fun q=>q.2)==ys.map (fun q=>q.2))else !(xs.map (fun q=>q.2)==ys.map (fun q=>q.2)))) w
def Qb9(P:Program)(t:TypeId)(y:TyI):Prop:=
 (∃i z,P.info? t=some i∧i.size=y.size∧i.bytes=y.bytes∧i.zero=some z∧z.cells.toList=y.zero)∧y.zero.length=y.size∧(∀v∈y.zero,v.oneCell'=true)∧(y.eq=true→QFK P t y.size)∧
 match y.d with
 | .slice e=>P.underlying t=some (.slice e)∧y.agg=false
 | .struct fs=>(∃F:Array Field,P.underlying t=some (.struct F)∧F.toList.map (fun f=>(f.offset,f.type))=fs)∧y.agg=true
 | .int k=>P.underlying t=some (.int k)∧y.agg=false
 | .bool=>P.underlying t=some .bool∧y.agg=false
 | .str=>P.underlying t=some .string∧y.agg=false
 | .other=>∃u,P.underlying t=some u∧(match u with| .struct _| .array _ _=>false|_=>true)=true∧y.agg=false
section
variable {P:Program} {T:QS} {own:Id→List Nat} {s:St} {w:World} {a:Act} {ρ:Operand→AV}
theorem Qwe{h:Q6}{x v:Value}(c:QR own h s (.d (.v x)) v):v=x:=by
 obtain⟨F,r,_⟩:=c;cases r with|v _ r=>rfl
theorem Qzi{h:Q6}(x:Value)(hx:x.oneCell'=true):QR own h s (.d (.v x)) x:=⟨[],.v hx .nil,by simp⟩
theorem Qad{h:Q6}{x v:Value}(c:QM own h s (.one (.d (.v x))) v):v=x:=Qwe c
theorem Qaw{h:Q6}(x:Value)(hx:x.oneCell'=true):QM own h s (.one (.d (.v x))) x:=Qzi x hx
theorem Qb9.size{t:TypeId}{y:TyI}(h:Qb9 P t y)(w:World):(sizeOf t).run P w= .ok y.size w:=by
 obtain⟨⟨i,z,h1,h2,_⟩,_⟩:=h;simp[sizeOf,typeInfo,h1,h2]
theorem Qb9.isAgg{t:TypeId}{y:TyI}(h:Qb9 P t y)(w:World):(isAgg t).run P w= .ok y.agg w:=by
 obtain⟨_,_,_,_,h⟩:=h;unfold Go.isAgg;split at h
 ·obtain⟨h1,h2⟩:=h;simp[run_underlying h1,h2]
 ·obtain⟨⟨F,h1,_⟩,h2⟩:=h;simp[run_underlying h1,h2]
 ·obtain⟨h1,h2⟩:=h;simp[run_underlying h1,h2]
 ·obtain⟨h1,h2⟩:=h;simp[run_underlying h1,h2]
 ·obtain⟨h1,h2⟩:=h;simp[run_underlying h1,h2]
 ·obtain⟨u,h1,h3,h2⟩:=h
  simp only[Sem.run_bind,run_underlying h1,Result.andThen_ok,h2]
  split at h3<;>simp_all
theorem Qb9.zeroV{t:TypeId}{y:TyI}(h:Qb9 P t y)(w:World):∃z,(zeroValue t).run P w= .ok z w∧z.cells.toList=y.zero:=by
 obtain⟨⟨i,z,h1,_,_,h4,h5⟩,_⟩:=h;exact⟨z,by simp[zeroValue,typeInfo,h1,h4],h5⟩
theorem QdR{k:IntKind}{n:Int}(h:inR k n):k.wrap n=n:=by
 obtain⟨h1,h2⟩:=h;unfold IntKind.wrap;cases k<;>simp only[IntKind.min,IntKind.max,IntKind.bits,IntKind.signed]at h1 h2 ⊢<;>simp at h1 h2 ⊢<;>omega
theorem QhX{k:IntKind}{wr:Bool}{n:Int}{p:Prop}{u:Value}(h:QBk k wr n=some (p,u))(hp:p):u= .int k (k.wrap n):=by
 unfold QBk at h;split at h
 ·simp only[KA,KC]at h;exact h.2.symm
 ·simp only[KA,KC]at h;obtain⟨rfl,rfl⟩:=h;rw[QdR hp]
theorem QwU{wr:Bool}{op:BinOp}{t:TypeId}{x y:Operand}{u v:Value}{p:Prop}{r:Value}(h:QEE wr op u v=some (p,r))(hp:p)(w:World):
  (do eqGuard op t x y u v;binOp op t u v).run P w= .ok r w∧r.oneCell'=true:=by
 unfold QEE at h;split at h
 ·rename_i k a k' b
  split at h
  ·split at h
   ·simp only[KA,KC]at h;obtain⟨rfl,rfl⟩:=h
    have hn:¬b<0:=by omega
    simp[eqGuard,binOp,Op.shift,hn,Value.oneCell']
   ·simp only[KA,KC]at h;obtain⟨rfl,rfl⟩:=h
    have hn:¬b<0:=by omega
    have hm:min b.toNat k.bits=b.toNat:=by omega
    simp[eqGuard,binOp,Op.shift,hn,hm,QdR hp.2.2,Value.oneCell']
  ·simp only[KA,KC]at h;obtain⟨rfl,rfl⟩:=h
   have hn:¬b<0:=by omega
   have hm:min b.toNat k.bits=b.toNat:=by omega
   simp[eqGuard,binOp,Op.shift,hn,hm,Value.oneCell']
  ·split at h
   ·rename_i hk
    subst hk;split at h
    ·obtain rfl:=QhX h hp;simp[eqGuard,binOp,Op.intArith,Value.oneCell']
    ·obtain rfl:=QhX h hp;simp[eqGuard,binOp,Op.intArith,Value.oneCell']
    ·obtain rfl:=QhX h hp;simp[eqGuard,binOp,Op.intArith,Value.oneCell']
    all_goals (first|(simp only[KA,KC]at h;obtain⟨rfl,rfl⟩:=h)|(cases h))
    ·simp[eqGuard,binOp,Op.intDiv,hp.1,QdR hp.2,Value.oneCell']
    ·simp[eqGuard,binOp,Op.intDiv,hp,Value.oneCell']
    all_goals (first|(simp[eqGuard,binOp,Op.intBits,QV,Value.oneCell'];done)|(simp[eqGuard,binOp,Op.intCmp,Value.oneCell'];done))
   ·cases h
 ·rename_i a b
  split at h
  ·simp only[KA,KC]at h;obtain⟨rfl,rfl⟩:=h
   have hn:¬((a.size+b.size:Nat):Int)>IntKind.i64.max:=by simp[IntKind.max,IntKind.bits,IntKind.signed];omega
   simp only[eqGuard,binOp,Op.stringOp]
   rw[if_neg hn];simp[Value.oneCell']
  ·simp only[KA,KC]at h;obtain⟨rfl,rfl⟩:=h
   simp[eqGuard,binOp,Op.stringOp,Value.oneCell']
  ·simp only[KA,KC]at h;obtain⟨rfl,rfl⟩:=h
   simp[eqGuard,binOp,Op.stringOp,Value.oneCell']
  ·cases h
 ·cases h
theorem Qfk{h:Q6}:∀{cs:List QI} {xs:List (IntKind×Int)} {vs:List Value},QdC cs=some xs→Qk own h s cs vs→vs=xs.map fun q=>Value.int q.1 q.2
 | [],xs,vs,hc,a=>by
  simp only[QdC,KA]at hc
  subst hc;cases a;rfl
 | c::r,xs,vs,hc,a=>by
  unfold QdC at hc;split at hc
  ·rename_i heq;cases heq
  ·rename_i k n r' heq
   simp only[YO]at heq
   obtain⟨rfl,rfl⟩:=heq;split at hc
   ·rename_i l hl
    simp only[KA]at hc
    subst hc;cases a with
    | cons a1 a2=>rw[Qwe a1,Qfk hl a2];rfl
   ·cases hc
  ·cases hc
theorem Qkq(hty:∀t y,T.ty t=some y→Qb9 P t y){t:TypeId}{f off:Nat}{ft:TypeId}(hf:QiR T t f=some (off,ft)):∃F:Array Field,P.underlying t=some (.struct F)∧∃fd,F[f]? =some fd∧fd.offset=off∧fd.type=ft:=by
 unfold QiR at hf;split at hf
 ·rename_i fs heq
  have:=(hty t _ heq).2.2.2.2
  obtain⟨⟨F,h1,h2⟩,_⟩:=this;rw[←h2,YG]at hf;cases hF:F.toList[f]? with
  | none=>rw[hF]at hf;cases hf
  | some fd=>
   rw[hF]at hf;simp only[Option.map_some,KA,KC]at hf
   exact⟨F,h1,fd,by simpa using hF,hf.1,hf.2⟩
 ·cases hf
theorem QyC{h:Q6}{t:TypeId}{y:TyI}(hy:Qb9 P t y){off:Nat}{cs:List QI}{av:AV}(hp:Qhq y.agg off y.size cs=some av){vs:List Value}(a:Qk own h s cs vs)(w:World):
  ∃u,(part t vs.toArray off).run P w= .ok u w∧QM own h s av u:=by
 unfold Qhq at hp;unfold part;cases hagg:y.agg with
 | true=>
  rw[hagg]at hp;simp only[if_true]at hp
  split at hp
  ·simp only[KA]at hp
   subst hp;refine⟨.agg ((vs.drop off).take y.size).toArray,?_,_,rfl,?_⟩
   ·simp only[Sem.run_bind,hy.isAgg,hagg,hy.size,Result.andThen_ok,if_true,Sem.run_pure]
    congr 2
    apply Array.ext'
    simp
   ·exact(Qas.drop a off).take y.size
  ·cases hp
 | false=>
  rw[hagg]at hp;simp only[KX,if_false]at hp
  split at hp
  ·rename_i c hc
   simp only[KA]at hp
   subst hp;obtain⟨u,hu,hcu⟩:=Qas.get a off c hc;exact⟨u,by simp[hy.isAgg,hagg,hu],hcu⟩
  ·cases hp
theorem Qgh{h:Q6}{x:Bool}{av:AV}{q:Prop}{y:Bool}(hs:Qgn x av=some (q,y))(hq:q)(hx:x=true){v:Value}(a:QM own h s av v):v= .bool y:=by
 unfold Qgn at hs;split at hs
 ·simp only[KA,KC]at hs;obtain⟨rfl,rfl⟩:=hs;exact Qad a
 ·simp only[KA,KC]at hs;obtain⟨rfl,rfl⟩:=hs;exact Qad (a.1 (hq hx))
 ·simp only[KA,KC]at hs;obtain⟨rfl,rfl⟩:=hs;rw[hx]at hq;cases hq
 ·cases hs
def Q3 [Hid] (P:Program)(own:Id→List Nat)(h:Q6)(s:St)(o:Oper)(ev:Operand→Value)(w:World)(v:AV):Prop:=
 ∃u,(execOp ev o).run P w= .ok (.value u) w∧QM own h s v u
section
variable {h:Q6} {ev:Operand→Value} {dst:Option Nat} {type:TypeId} {pos:String} {after:Array Edge} {guard:Option (Nat×Bool)} {p:Prop} {v:AV}
theorem QCT{x:Operand}(hx:QM own h s (ρ x) (ev x))(hf:opP T ρ (.move x)=some (p,v)):Q3 P own h s ⟨dst,.move x,type,pos,after,guard⟩ ev w v:=by
 simp only[opP,KA,KC]at hf
 obtain⟨rfl,rfl⟩:=hf;exact⟨ev x,rfl,hx⟩
theorem QCU{c x y:Operand}(hc:QM own h s (ρ c) (ev c))(hx:QM own h s (ρ x) (ev x))(hy:QM own h s (ρ y) (ev y))(hf:opP T ρ (.pick c x y)=some (p,v))(hp:p):
  Q3 P own h s ⟨dst,.pick c x y,type,pos,after,guard⟩ ev w v:=by
 unfold opP at hf;dsimp only at hf;split at hf
 ·rename_i b hb
  rw[hb]at hc;have hcv:=Qad hc
  split at hf
  ·rename_i q1 y1 q2 z1 h1 h2
   simp only[KA,KC]at hf
   obtain⟨rfl,rfl⟩:=hf;cases b with
   | true=>
    have:=Qgh h1 hp.1 rfl hx
    exact⟨.bool y1,by simp[execOp,hcv,asBool,this],Qaw _ rfl⟩
   | false=>
    have:=Qgh h2 hp.2 rfl hy
    exact⟨.bool z1,by simp[execOp,hcv,asBool,this],Qaw _ rfl⟩
  ·cases hf
 ·cases hf
theorem QmG:∀{vs:List AV} {us:List Value} {ids:List Id},Qkh vs=some ids→Qas (QM own h s) vs us→Qas (fun id u=>s.sl id.1≠ .any∧Qhe own s.ob id 0 u) ids us
 | [],us,ids,hc,a=>by
  simp only[Qkh,KA]at hc
  subst hc;cases a;exact .nil
 | v::vs,us,ids,hc,a=>by
  unfold Qkh at hc;split at hc
  ·rename_i e;cases e
  ·rename_i id r e
   simp only[YO]at e
   obtain⟨rfl,rfl⟩:=e;split at hc
   ·rename_i l hl
    simp only[KA]at hc
    subst hc;cases a with
    | cons a1 a2=>exact .cons a1 (QmG hl a2)
   ·cases hc
  ·cases hc
theorem QrC{fn:Fn}{first bs:Array Operand}(hx:∀x∈bs.toList,QM own h s (ρ x) (ev x))(hf:opP T ρ (.makeFunc fn first bs)=some (p,v)):
  Q3 P own h s ⟨dst,.makeFunc fn first bs,type,pos,after,guard⟩ ev w v:=by
 cases fn with
 | func f=>
  unfold opP at hf;dsimp only at hf;split at hf
  ·rename_i h0
   split at hf
   ·rename_i ids hi
    simp only[KA,KC]at hf
    obtain⟨rfl,rfl⟩:=hf;have hfirst:first=#[]:=by
     apply Array.toList_inj.1
     simpa using h0
    have hall:Qas (QM own h s) (bs.toList.map ρ) (bs.toList.map ev):=by
     clear hi;generalize bs.toList=l at hx;induction l with
     | nil=>exact .nil
     | cons x l ih=>exact .cons (hx x (by simp)) (ih fun y hy=>hx y (by simp[hy]))
    refine⟨.func (.func f) #[] (bs.map ev),?_,bs.toList.map ev,by congr 1;apply Array.toList_inj.1;simp,QmG hi hall⟩
    subst hfirst;simp[execOp,Instr.makeFunc,Sem.run_pure]
   ·cases hf
  ·cases hf
 | _=>simp[opP]at hf
theorem QzX{c x y:Operand}{b y1 z1:Bool}{ax ay:AV}{q1 q2:Prop}(hc:QM own h s (bV b) (ev c))(hx:QM own h s ax (ev x))(hy:QM own h s ay (ev y))(h1:Qgn b ax=some (q1,y1))(h2:Qgn (!b) ay=some (q2,z1))(hp:q1∧q2):
  Q3 P own h s ⟨dst,.pick c x y,type,pos,after,guard⟩ ev w (bV (cond b y1 z1)):=by
 have hcv:=Qad hc
 cases b with
 | true=>
  have:=Qgh h1 hp.1 rfl hx
  exact⟨.bool y1,by simp[execOp,hcv,asBool,this],Qaw _ rfl⟩
 | false=>
  have:=Qgh h2 hp.2 rfl hy
  exact⟨.bool z1,by simp[execOp,hcv,asBool,this],Qaw _ rfl⟩
theorem QCV{op:UnOp}{t:TypeId}{x:Operand}(hx:QM own h s (ρ x) (ev x))(hf:opP T ρ (.unOp op t x)=some (p,v))(hp:p):
  Q3 P own h s ⟨dst,.unOp op t x,type,pos,after,guard⟩ ev w v:=by
 unfold opP at hf;dsimp only at hf;split at hf
 ·rename_i b hb
  simp only[KA,KC]at hf
  obtain⟨rfl,rfl⟩:=hf;rw[hb]at hx;exact⟨.bool (!b),by simp[execOp,Qad hx,Op.unary],Qaw _ rfl⟩
 ·rename_i k n hb
  rw[hb]at hx;unfold QDM at hf;split at hf
  ·rename_i q u hu
   simp only[KA,KC]at hf
   obtain⟨rfl,rfl⟩:=hf;obtain rfl:=QhX hu hp;exact⟨_,by simp[execOp,Qad hx,Op.unary,Op.intArith],Qaw _ rfl⟩
  ·cases hf
 ·cases hf
theorem Qfa{t:TypeId}(hu:P.underlying t=some .bool)(a b:Bool):(Op.equal t (.bool a) (.bool b)).run P w= .ok (a==b) w:=by
 unfold Op.equal;rw[show Op.maxDepth=9999+1 from rfl,Op.equalIn]
 simp only[Sem.run_bind,run_underlying hu,Result.andThen_ok,Sem.run_pure]
theorem QzV{op:BinOp}{t ty:TypeId}{x y:Operand}(hty:∀t y,T.ty t=some y→Qb9 P t y)(hx:QM own h s (ρ x) (ev x))(hy:QM own h s (ρ y) (ev y))(hf:opP T ρ (.binOp op t x y ty)=some (p,v))(hp:p):
  Q3 P own h s ⟨dst,.binOp op t x y ty,type,pos,after,guard⟩ ev w v:=by
 unfold opP at hf;dsimp only at hf;split at hf
 ·rename_i b1 b2 e1 e2
  rw[e1]at hx;rw[e2]at hy;split at hf
  ·rename_i hyt
   have hu:=(hty t _ hyt).2.2.2.2
   simp only at hu
   split at hf
   ·simp only[KA,KC]at hf
    obtain⟨rfl,rfl⟩:=hf;exact⟨.bool (b1==b2),by simp only[execOp,Qad hx,Qad hy,eqGuard,binOp,Sem.run_bind,Sem.run_pure,Result.andThen_ok,Qfa hu.1,YV,KX,if_false],Qaw _ rfl⟩
   ·simp only[KA,KC]at hf
    obtain⟨rfl,rfl⟩:=hf;exact⟨.bool (!(b1==b2)),by simp only[execOp,Qad hx,Qad hy,eqGuard,binOp,Sem.run_bind,Sem.run_pure,Result.andThen_ok,Qfa hu.1,YV,KX,if_false],Qaw _ rfl⟩
   ·cases hf
  ·cases hf
 ·rename_i u1 u2 _ e1 e2
  rw[e1]at hx;rw[e2]at hy;unfold QDM at hf;split at hf
  ·rename_i q r hr
   simp only[KA,KC]at hf
   obtain⟨rfl,rfl⟩:=hf;obtain⟨h1,h2⟩:=QwU (P:=P) (t:=t) (x:=x) (y:=y) hr hp w;refine⟨r,?_,Qaw _ h2⟩
   simp only[execOp,Qad hx,Qad hy]
   rw[Sem.run_bind,h1];rfl
  ·cases hf
 ·rename_i xs ys e1 e2
  rw[e1]at hx;rw[e2]at hy;obtain⟨vs1,g1,a1⟩:=hx;obtain⟨vs2,g2,a2⟩:=hy;split at hf
  ·rename_i hyt
   split at hf
   ·rename_i hl
    have heq:=(hty t _ hyt).2.2.2.1 rfl
    unfold Ql9 at hf;split at hf
    ·rename_i l1 l2 c1 c2
     have b1:=Qfk c1 a1
     have b2:=Qfk c2 a2
     have n1:l1.length=xs.length:=by rw[Qas.length a1,b1];simp
     have n2:l2.length=ys.length:=by rw[Qas.length a2,b2];simp
     have w1:Value.agg vs1=QlA l1:=by unfold QlA;rw[←b1]
     have w2:Value.agg vs2=QlA l2:=by unfold QlA;rw[←b2]
     split at hf
     ·simp only[KA,KC]at hf
      obtain⟨rfl,rfl⟩:=hf;have:=heq .eql x y l1 l2 w (by rw[n1];exact hl.1) (by rw[n2];exact hl.2) hp (.inl rfl)
      refine⟨_,?_,Qaw _ rfl⟩
      simp only[execOp,g1,g2,w1,w2]
      rw[Sem.run_bind,this];rfl
     ·simp only[KA,KC]at hf
      obtain⟨rfl,rfl⟩:=hf;have:=heq .neq x y l1 l2 w (by rw[n1];exact hl.1) (by rw[n2];exact hl.2) hp (.inr rfl)
      refine⟨_,?_,Qaw _ rfl⟩
      simp only[execOp,g1,g2,w1,w2]
      rw[Sem.run_bind,this];rfl
     ·cases hf
    ·cases hf
   ·cases hf
  ·cases hf
 ·cases hf
theorem QbK(b off n:Nat):(⟨b,off,none⟩:Addr).add n=⟨b,off+n,none⟩:=by
 unfold Addr.add;split
 ·simp_all
 ·rfl
theorem Qn8{t:TypeId}{x:Operand}{f:Nat}(hty:∀t y,T.ty t=some y→Qb9 P t y)(hx:QM own h s (ρ x) (ev x))(hf:opP T ρ (.fieldAddr t x f)=some (p,v))(hp:p):
  Q3 P own h s ⟨dst,.fieldAddr t x f,type,pos,after,guard⟩ ev w v:=by
 unfold opP at hf;dsimp only at hf;split at hf
 ·rename_i off ft e1
  split at hf
  ·rename_i y hy
   split at hf
   ·cases hf
   ·rename_i hsz
    obtain⟨F,h1,fd,h2,h3,h4⟩:=Qkq hty e1;have hrun:∀b o,(Instr.fieldAt t (.pointer (some ⟨b,o,none⟩)) f).run P w= .ok (.pointer (some ⟨b,o+off,none⟩)) w:=fun b o=>by
     have hs0:=(hty ft y hy).size w
     rw[←h4]at hs0;simp only[Instr.fieldAt,Sem.run_bind,run_underlying h1,Result.andThen_ok,h2,Instr.sureAddr,Sem.run_pure,fieldPlace,hs0,hsz,if_false,QbK,h3]
    split at hf
    ·rename_i id oo e2
     simp only[KA,KC]at hf
     obtain⟨rfl,rfl⟩:=hf;rw[e2]at hx;obtain⟨a1,b,b1,b2⟩:=hx;exact⟨.pointer (some ⟨b,oo+off,none⟩),by simp only[execOp,b1,Sem.run_bind,hrun,Result.andThen_ok,Sem.run_pure],a1,b,rfl,b2⟩
    ·rename_i ds e2
     simp only[KA,KC]at hf
     obtain⟨rfl,rfl⟩:=hf;rw[e2]at hx;obtain⟨b,o,c,e,fz,F',a1,a2,a3,a4,a5,a6⟩:=hx;refine⟨.pointer (some ⟨b,o+off,none⟩),by simp only[execOp,a1,Sem.run_bind,hrun,Result.andThen_ok,Sem.run_pure],b,o+off,c,e,fz,?_⟩
     rw[←Kr off ds]at a4;obtain⟨v1,v2,F1,F2,g1,g2,r1,r2⟩:=Qn.split _ _ a4;refine⟨F2,rfl,a2,by rw[Kk];omega,?_,a5,fun z hz=>a6 z (by rw[g2];simp[hz])⟩
     have l1:v1.length=off:=by rw[←r1.length,KO];omega
     have:v2=(c.toList.drop (o+off)).take (ds.drop off).length:=by
      have:((c.toList.drop o).take ds.length).drop off=v2:=by
       rw[Kr]at g1;rw[g1,←l1,List.drop_left]
      rw[←this,List.drop_take,List.drop_drop,Kk]
     rw[←this];exact r2
    ·rename_i id i oo e2
     simp only[KA,KC]at hf
     obtain⟨rfl,rfl⟩:=hf;rw[e2]at hx;obtain⟨a1,b,o,b1,si,b2,b3⟩:=hx;exact⟨.pointer (some ⟨b,o+off,none⟩),by simp only[execOp,b1,Sem.run_bind,hrun,Result.andThen_ok,Sem.run_pure],a1,b,o+off,rfl,si,by omega,b3⟩
    ·cases hf
  ·cases hf
 ·cases hf
end
end
end
section
variable {hd:Hid}
section
variable {X:Ctx} {T:QS} {own:Id→List Nat} {s:St} {w:World} {a:Act} {ρ:Operand→AV}
def QbE [Hid] (X:Ctx)(s:St)(a:Act)(w:World)(o:Oper)(v:AV)(us:List (Id×Ob)):Prop:=
 ∀(K:Act→World→Prop) (Q:Exit→Act→World→Prop),(∀u w',QhJ X (s.put o.dst v us) (a.put o.dst u) w'→K (a.put o.dst u) w')→o.wp X.P a w K Q
theorem QbE.of_computes{o:Oper}{v:AV}(c:Qt X own s a w)(hd:∀x,o.dst=some x→X.dok x=true)(h:Q3 X.P own w.heap s o a.eval w v):QbE X s a w o v []:=by
 obtain⟨u,h1,h2⟩:=h;intro K Q hK;unfold Oper.wp;rw[h1];exact hK u w ⟨own,c.pure rfl rfl rfl rfl hd h2⟩
theorem QbE.of_value{own':Id→List Nat}{o:Oper}{v:AV}{us:List (Id×Ob)}{u:Value}{w':World}(h1:(execOp a.eval o).run X.P w= .ok (.value u) w')(h2:Qt X own' (s.put o.dst v us) (a.put o.dst u) w'):QbE X s a w o v us:=by
 intro K Q hK;unfold Oper.wp;rw[h1];exact hK u w' ⟨own',h2⟩
theorem QbE.of_skip{own':Id→List Nat}{o:Oper}{v:AV}{us:List (Id×Ob)}{w':World}(h1:(execOp a.eval o).run X.P w= .ok .skip w')(h2:Qt X own' (s.put o.dst v us) (a.put o.dst undef) w'):QbE X s a w o v us:=by
 intro K Q hK;unfold Oper.wp;rw[h1];exact hK undef w' ⟨own',h2⟩
theorem Qb0{h:Q6}{b off:Nat}{c:Array Value}{e:TypeId}{fz:Nat×Nat}{w:World}(hw:w.heap=h)(hb:h[b]? =some (.cells c e fz)):w.cell? ⟨b,off,none⟩=c[off]? :=by
 subst hw;simp[World.cell?,hb]
theorem QbP{P:Program}{b off n:Nat}{c:Array Value}{e:TypeId}{fz:Nat×Nat}(hb:w.heap[b]? =some (.cells c e fz))(hn:off+n≤c.size):
  (loadCells ⟨b,off,none⟩ n).run P w= .ok ((c.toList.drop off).take n).toArray w:=by
 have hl:((c.toList.drop off).take n).length=n:=by simp;omega
 have:=run_loadCells_list (P:=P) (w:=w) ⟨b,off,none⟩ ((c.toList.drop off).take n) (fun j v hj=>by
  rw[QbK,Qb0 rfl hb];rw[List.getElem?_take]at hj;split at hj
  ·rw[YQ]at hj;simpa using hj
  ·cases hj)
 rw[hl]at this;exact this
theorem Qh1{P:Program}{b off:Nat}{c:Array Value}{e:TypeId}{fz:Nat×Nat}{v:Value}(hb:w.heap[b]? =some (.cells c e fz))(hv:c[off]? =some v):(load ⟨b,off,none⟩).run P w= .ok v w:=by
 rw[run_load,Qb0 rfl hb,hv]
theorem Qja{P:Program}{h:Q6}{t:TypeId}{y:TyI}(hy:Qb9 P t y){b off:Nat}{c:Array Value}{e:TypeId}{fz:Nat×Nat}(hb:w.heap[b]? =some (.cells c e fz)){cs:List QI}{av:AV}
  (hp:Qhq y.agg off y.size cs=some av) (hc:Qk own h s cs c.toList):∃u,(loadVar t ⟨b,off,none⟩).run P w= .ok u w∧QM own h s av u:=by
 unfold Qhq at hp;unfold loadVar;cases hagg:y.agg with
 | true=>
  rw[hagg]at hp;simp only[if_true]at hp
  split at hp
  ·rename_i hle
   simp only[KA]at hp
   subst hp;refine⟨.agg ((c.toList.drop off).take y.size).toArray,?_,_,rfl,?_⟩
   ·have hle':off+y.size≤c.size:=by have:=Qas.length hc;simp at this;omega
    simp only[Sem.run_bind,hy.isAgg,hagg,hy.size,Result.andThen_ok,if_true,QbP hb hle',Sem.run_pure]
   ·exact(Qas.drop hc off).take y.size
  ·cases hp
 | false=>
  rw[hagg]at hp;simp only[KX,if_false]at hp
  split at hp
  ·rename_i cc hcc
   simp only[KA]at hp
   subst hp;obtain⟨u,hu,hcu⟩:=Qas.get hc off cc hcc;exact⟨u,by simp only[Sem.run_bind,hy.isAgg,hagg,Result.andThen_ok,KX,if_false,Qh1 hb (v:=u) (by simpa using hu)],hcu⟩
  ·cases hp
theorem QiZ{h:Q6}:∀{ds:List D} {vs:List Value} {F:List Nat},Qbl h ds vs F→(∀b∈F,Imm own h b)→Qk own h s (ds.map .d) vs
 | [],vs,F,r,_=>by
  have:=r.length
  cases vs with
  | nil=>exact .nil
  | cons=>simp at this
 | d::ds,[],F,r,_=>by have:=r.length;simp at this
 | d::ds,v::vs,F,r,hF=>by
  obtain⟨F1,F2,rfl,r1,r2⟩:=r.cons_inv;exact .cons ⟨F1,r1,fun b hb=>hF b (by simp[hb])⟩ (QiZ r2 fun b hb=>hF b (by simp[hb]))
variable {dst:Option Nat} {type:TypeId} {pos:String} {after:Array Edge} {guard:Option (Nat×Bool)} {p:Prop} {v:AV} {d:Nat} {fresh im:Bool}
theorem Qj1.elem{h:Q6}{id:Id}{sz:Nat}{l:List (List D)}{dp b cap:Nat}(hb:Qj1 own h id sz l dp b cap){i:Nat}(hi:i<l.length):∃c e G',h[b]? =some (.cells c e (0,0))∧i*sz+sz≤c.size∧(l.getD i []).length=sz∧
  Qbl h (l.getD i []) ((c.toList.drop (i*sz)).take sz) G'∧(dp=0→∀x∈G',Imm own h x)∧(dp≠0→∀x∈G',x∈own id):=by
 obtain⟨c,e,G,a1,a2,a3,a4,a5,a6,a7,a8⟩:=hb;have hle:0+l.length*sz≤c.size:=by have:=Ka sz a3;omega
 obtain⟨e1,G',e2,e3⟩:=Qn.elem (off:=0) a6 hle (by simpa using a7) hi
 have hget:l.getD i []=l[i]:=by simp[KD,hi]
 refine⟨c,e,G',a2,by simpa using e1,by rw[hget];exact a6 _ (YJ hi),by rw[hget];simpa using e3.weak,fun h0 x hx=>a8 h0 x (e2 x hx),fun h0 x hx=>by rw[a1];simp[h0,e2 x hx]⟩
theorem Qn.at{W:Bool}{h:Q6}{ds vs F}(r:Qn W h ds vs F){i:Nat}(hi:i<ds.length):∃v F',vs[i]? =some v∧Qn W h [ds.getD i default] [v] F'∧∀x∈F',x∈F:=by
 have hl:=r.length
 have h1:vs[i]? =some vs[i]:=Kc (by omega)
 have h2:ds[i]? =some (ds.getD i default):=by simp[KD,hi]
 obtain⟨F',r',hF⟩:=Qn.of_all r (P:=fun b=>b∈F) (fun b hb=>hb) i _ _ h2 h1
 exact⟨vs[i],F',h1,r',hF⟩
theorem Qn.scal{W:Bool}{h:Q6}{ds vs F}(r:Qn W h ds vs F)(hs:∀x∈ds,QaO x):F=[]:=by
 induction r with
 | nil=>rfl
 | v _ _ ih=>exact ih fun x hx=>hs x (by simp[hx])
 | none _ _ ih=>exact(hs _ (List.mem_cons_self ..)).elim
 | sl=>exact(hs _ (List.mem_cons_self ..)).elim
theorem Qn.subr{h:Q6}{ds vs F}(r:Qbl h ds vs F)(o n:Nat):∃F',Qbl h ((ds.drop o).take n) ((vs.drop o).take n) F'∧∀x∈F',x∈F:=by
 have hl:=r.length
 have step:∀{ds:List D} {vs:List Value} {F:List Nat} (k:Nat),Qbl h ds vs F→∃F1 F2,Qbl h (ds.take k) (vs.take k) F1∧Qbl h (ds.drop k) (vs.drop k) F2∧F=F1++F2:=fun {ds vs F} k r=>by
  have hl:=r.length
  rw[←Kr k ds]at r;obtain⟨v1,v2,F1,F2,rfl,rfl,r1,r2⟩:=Qn.split _ _ r;have l1:(v1++v2).take k=v1∧(v1++v2).drop k=v2:=by
   have e1:=r1.length
   have e2:=r2.length
   rw[KO]at e1;rw[Kk]at e2
   by_cases hk:k≤ds.length
   ·have:v1.length=k:=by omega
    rw[←this];exact⟨List.take_left,List.drop_left⟩
   ·have:v2=[]:=Kd (by omega)
    subst this;simp only[KM]
    exact⟨Kj (by omega),YB (by omega)⟩
  exact⟨F1,F2,by rw[l1.1];exact r1,by rw[l1.2];exact r2,rfl⟩
 obtain⟨F1,F2,_,r2,rfl⟩:=step o r;obtain⟨F3,F4,r3,_,rfl⟩:=step n r2;exact⟨F3,r3,fun x hx=>by simp[hx]⟩
theorem Qe4.repsW{h:Q6}{id:Id}{i o sz:Nat}{l:List (List D)}{u:Value}(ho:s.ob id= .arr sz l 2)(hx:Qe4 own h s id i o u):∃F,Qn true h [(l.getD i []).getD o default] [u] F∧∀b∈F,b∈own id:=by
 have hA:=hx.2.2
 rw[ho]at hA;obtain⟨b,cap,c,e,hB,hb,hoz,hil,hcx⟩:=hA rfl;obtain⟨c1,e1,G,f1,f2,f3,f4,f5,f6,f7,f8⟩:=hB;rw[hb]at f2;simp only[KA,Obj.cells.injEq]at f2
 obtain⟨rfl,rfl,_⟩:=f2;have hle:0+l.length*sz≤c.size:=by have:=Ka sz f3;omega
 have f7':Qn true h l.flatten (c.toList.take (l.length*sz)) G:=f7
 obtain⟨e1,G',e2,e3⟩:=Qn.elem (off:=0) f6 hle (by simpa using f7') hil
 have hget:l.getD i []=l[i]:=by simp[KD,hil]
 have hli:l[i].length=sz:=f6 _ (YJ hil)
 obtain⟨u',F',k1,k2,k3⟩:=e3.at (i:=o) (by rw[hli];exact hoz)
 rw[Ky hoz,YQ]at k1;have:u'=u:=by
  have h2:c[i*sz+o]? =some u':=by simpa using k1
  rw[hcx]at h2;simpa using h2.symm
 subst this;rw[hget];refine⟨F',k2,fun x hx=>?_⟩
 rw[f1,if_neg (by decide)]
 exact YP _ (e2 x (k3 x hx))
theorem QCY{t:TypeId}{x:Operand}(hty:∀t y,T.ty t=some y→Qb9 X.P t y)(c:Qt X own s a w)(hx:QM own w.heap s (ρ x) (a.eval x))(hf:opR T d ρ s.ob fresh im (.load t x)=some (p,v))(hp:p):
  Q3 X.P own w.heap s ⟨dst,.load t x,type,pos,after,guard⟩ a.eval w v:=by
 unfold opR at hf;dsimp only at hf;split at hf
 ·cases hf
 split at hf
 ·rename_i y hy
  have hyo:=hty t y hy
  split at hf
  ·rename_i ds e1
   rw[e1]at hx;obtain⟨b,off,cc,e,fz,F,a1,a2,a3,a4,a5,a6⟩:=hx;cases hagg:y.agg with
   | true=>
    rw[hagg]at hf;simp only[if_true,KA,KC]at hf
    obtain⟨rfl,rfl⟩:=hf;refine⟨.agg (((cc.toList.drop off).take y.size)).toArray,?_,_,rfl,?_⟩
    ·simp only[execOp,a1,Instr.loadAt,Instr.sureAddr,loadVar,Sem.run_bind,Sem.run_pure,Result.andThen_ok,hyo.isAgg,hagg,hyo.size,if_true,QbP a2 (show off+y.size≤cc.size by omega)]
    ·rw[←Kr y.size ds]at a4
     obtain⟨v1,v2,F1,F2,g1,g2,r1,r2⟩:=Qn.split _ _ a4;have:v1=(cc.toList.drop off).take y.size:=by
      have l1:v1.length=y.size:=by rw[←r1.length,KO];omega
      have:((cc.toList.drop off).take ds.length).take y.size=v1:=by
       rw[Kr]at g1;rw[g1,←l1,List.take_left]
      rw[←this,List.take_take];congr 1
      omega
     rw[←this];exact QiZ r1 fun b hb=>a6 b (by rw[g2];simp[hb])
   | false=>
    rw[hagg]at hf;simp only[KX,if_false,KA,KC]at hf
    obtain⟨rfl,rfl⟩:=hf;obtain⟨u,F',g1,g2,g3⟩:=a4.at (i:=0) (by omega)
    have hd:ds.headD default=ds.getD 0 default:=by cases ds<;>rfl
    rw[hd];refine⟨u,?_,F',g2,fun b hb=>a6 b (g3 b hb)⟩
    have hcell:cc[off]? =some u:=by
     rw[List.getElem?_take]at g1;split at g1
     ·rw[YQ]at g1;simpa using g1
     ·cases g1
    simp only[execOp,a1,Instr.loadAt,Instr.sureAddr,loadVar,Sem.run_bind,Sem.run_pure,Result.andThen_ok,hyo.isAgg,hagg,KX,if_false,Qh1 a2 hcell]
  ·rename_i id oo e1
   rw[e1]at hx;split at hf
   ·rename_i cs ho
    split at hf
    ·rename_i av hav
     simp only[KA,KC]at hf
     obtain⟨rfl,rfl⟩:=hf;obtain⟨_,b,b1,b2⟩:=hx;rw[ho]at b2;have hob:=c.obs id
     rw[ho]at hob;obtain⟨b',cc,e,h1,h2,h3⟩:=hob;have:b'=b:=by rw[h1]at b2;simpa using b2
     subst this;obtain⟨u,hu,hav'⟩:=Qja hyo h2 hav h3;exact⟨u,by simp only[execOp,b1,Instr.loadAt,Instr.sureAddr,Sem.run_bind,Sem.run_pure,Result.andThen_ok,hu],hav'⟩
    ·cases hf
   ·cases hf
  ·rename_i id i oo e1
   rw[e1]at hx;split at hf
   ·rename_i sz l dp ho
    obtain⟨ha,b,o,b1,si,b2,b3⟩:=hx;rw[ho]at b3;obtain⟨rfl,cap,b4⟩:=b3;subst b2;split at hf
    ·rename_i hagg
     simp only[KA,KC]at hf
     obtain⟨rfl,rfl⟩:=hf;obtain⟨hi,hoo,hsc⟩:=hp;obtain⟨cc,e,G',g1,g2,g3,g4,_⟩:=b4.elem hi;obtain⟨F',r',_⟩:=g4.subr oo y.size;have e1:((((cc.toList.drop (i*sz)).take sz).drop oo).take y.size)=(cc.toList.drop (i*sz+oo)).take y.size:=by
      rw[List.drop_take,List.drop_drop,List.take_take];congr 1;omega
     rw[e1]at r';have hF':=r'.scal hsc
     subst hF';refine⟨.agg ((cc.toList.drop (i*sz+oo)).take y.size).toArray,?_,_,rfl,QiZ r' (by simp)⟩
     simp only[execOp,b1,Instr.loadAt,Instr.sureAddr,loadVar,Sem.run_bind,Sem.run_pure,Result.andThen_ok,hyo.isAgg,hagg,hyo.size,if_true,QbP g1 (show i*sz+oo+y.size≤cc.size by omega)]
    ·rename_i hagg
     have hagg':y.agg=false:=by simpa using hagg
     have run:∀u,i<l.length→oo<sz→(∃cc e,w.heap[b]? =some (.cells cc e (0,0))∧cc[i*sz+oo]? =some u)→(execOp a.eval ⟨dst,.load t x,type,pos,after,guard⟩).run X.P w= .ok (.value u) w:=fun u _ _ ⟨cc,e,g1,g2⟩=>by
      simp only[execOp,b1,Instr.loadAt,Instr.sureAddr,loadVar,Sem.run_bind,Sem.run_pure,Result.andThen_ok,hyo.isAgg,hagg',KX,if_false,Qh1 g1 g2]
     have cell:i<l.length→oo<sz→∃u cc e F,w.heap[b]? =some (.cells cc e (0,0))∧cc[i*sz+oo]? =some u∧Qbl w.heap [(l.getD i []).getD oo default] [u] F∧(dp=0→∀x∈F,Imm own w.heap x):=fun hi ho=>by
      obtain⟨cc,e,G',g1,g2,g3,g4,g5,_⟩:=b4.elem hi;obtain⟨u,F',f1,f2,f3⟩:=g4.at (i:=oo) (by rw[g3];exact ho)
      refine⟨u,cc,e,F',g1,?_,f2,fun h0 x hx=>g5 h0 x (f3 x hx)⟩
      rw[Ky ho,YQ]at f1;simpa using f1
     have scal:QaO ((l.getD i []).getD oo default)→i<l.length→oo<sz→Q3 X.P own w.heap s ⟨dst,.load t x,type,pos,after,guard⟩ a.eval w (.one (.d ((l.getD i []).getD oo default))):=fun hs hi ho=>by
      obtain⟨u,cc,e,F,g1,g2,g3,_⟩:=cell hi ho;refine⟨u,run u hi ho ⟨cc,e,g1,g2⟩,?_⟩
      cases hdd:(l.getD i []).getD oo default with
      | v z=>
       rw[hdd]at g3;cases g3 with
       | v hz g3=>exact⟨[],.v hz .nil,by simp⟩
      | sl=>rw[hdd]at hs;exact hs.elim
     split at hf
     ·split at hf
      ·simp only[KA,KC]at hf
       obtain⟨rfl,rfl⟩:=hf;obtain⟨u,cc,e,F,g1,g2,g3,g4⟩:=cell hp.1 hp.2;exact⟨u,run u hp.1 hp.2 ⟨cc,e,g1,g2⟩,F,g3,g4 rfl⟩
      ·simp only[KA,KC]at hf
       obtain⟨rfl,rfl⟩:=hf;obtain⟨u,cc,e,F,g1,g2,g3,_⟩:=cell hp.1 hp.2;refine⟨u,run u hp.1 hp.2 ⟨cc,e,g1,g2⟩,g3.one,ha,?_⟩
       rw[ho];exact fun _=>⟨b,cap,cc,e,b4,g1,hp.2,hp.1,g2⟩
      ·cases hf
     ·simp only[KA,KC]at hf
      obtain⟨rfl,rfl⟩:=hf;exact scal hp.2.2 hp.1 hp.2.1
   ·cases hf
  ·rename_i id i oo s' j e1
   rw[e1]at hx;split at hf
   ·rename_i sz l ho
    split at hf
    ·rename_i s0 r hD
     split at hf
     ·cases hf
     ·rename_i hagg
      have hagg':y.agg=false:=by simpa using hagg
      simp only[KA,KC]at hf
      obtain⟨rfl,rfl⟩:=hf;obtain⟨rfl,hs0,hj,hsc⟩:=hp;obtain⟨b0,len,cap0,hv,hjl,hisl⟩:=hx;obtain⟨F,rr,hFF⟩:=Qe4.repsW ho hisl;rw[hD]at rr;cases rr with
      | none=>simp at hj
      | sl q hb0 h1 h2 h3 h4 h5 h6=>
       rename_i cc e fz G F2;obtain⟨e1,G',e2,e3⟩:=Qn.elem h4 h3 h5 hj;have hget:r.getD j []=r[j]:=by simp[KD,hj]
       have hli:r[j].length=s0:=h4 _ (YJ hj)
       obtain⟨u,F',k1,k2,_⟩:=e3.at (i:=0) (by rw[hli];exact hs0)
       rw[Ky hs0,YQ]at k1;have hcell:cc[j*s0]? =some u:=by simpa using k1
       rw[hget]at hsc ⊢;refine⟨u,?_,?_⟩
       ·simp only[execOp,hv,Instr.loadAt,Instr.sureAddr,loadVar,Sem.run_bind,Sem.run_pure,Result.andThen_ok,hyo.isAgg,hagg',KX,if_false,Qh1 hb0 hcell]
       ·cases hdd:r[j].getD 0 default with
        | v z=>
         rw[hdd]at k2;cases k2 with
         | v hz g3=>exact⟨[],.v hz .nil,by simp⟩
        | sl=>rw[hdd]at hsc;exact hsc.elim
    ·cases hf
   ·cases hf
  ·cases hf
 ·cases hf
end
end
section
variable {hd:Hid}
section
variable {X:Ctx} {T:QS} {own:Id→List Nat} {s:St} {w:World} {a:Act} {ρ:Operand→AV}
variable {dst:Option Nat} {type:TypeId} {pos:String} {after:Array Edge} {guard:Option (Nat×Bool)} {p:Prop} {v:AV} {d:Nat} {fresh im:Bool}
theorem Qn.sl_invW{W:Bool}{h:Q6}{sz:Nat}{l:List (List D)}{v:Value}{F}(r:Qn W h [.sl sz l] [v] F):
  (∃a0,v= .slice a0 0 0∧l=[]∧F=[]∧(W=true→a0=Option.none))∨∃b off cap c e fz G,v= .slice (some ⟨b,off,Option.none⟩) l.length cap∧h[b]? =some (.cells c e fz)∧l.length≤cap∧cap≤maxLen∧off+l.length*sz≤c.size∧(∀x∈l,x.length=sz)∧
   Qn W h l.flatten ((c.toList.drop off).take (l.length*sz)) G∧F=b::G∧(W=true→off=0∧fz=(0,0)∧c.size=cap*sz):=by
 cases r with
 | none q r=>cases r;exact .inl ⟨_,rfl,rfl,rfl,q⟩
 | sl q hb h1 h2 h3 h4 hi r=>cases r;exact .inr ⟨_,_,_,_,_,_,_,rfl,hb,h1,h2,h3,h4,hi,by simp,q⟩
theorem Qn.sl_inv{h:Q6}{sz:Nat}{l:List (List D)}{v:Value}{F}(r:Qbl h [.sl sz l] [v] F):
  (∃a0,v= .slice a0 0 0∧l=[]∧F=[])∨∃b off cap c e fz G,v= .slice (some ⟨b,off,Option.none⟩) l.length cap∧h[b]? =some (.cells c e fz)∧l.length≤cap∧cap≤maxLen∧off+l.length*sz≤c.size∧(∀x∈l,x.length=sz)∧
   Qbl h l.flatten ((c.toList.drop off).take (l.length*sz)) G∧F=b::G:=by
 rcases r.sl_invW with⟨a0,h1,h2,h3,_⟩|⟨b,off,cap,c,e,fz,G,h1,h2,h3,h4,h5,h6,h7,h8,_⟩
 ·exact .inl ⟨a0,h1,h2,h3⟩
 ·exact .inr ⟨b,off,cap,c,e,fz,G,h1,h2,h3,h4,h5,h6,h7,h8⟩
theorem Qxj{sz:Nat}{l:List (List D)}{h:Q6}{n:Int}(h0:0≤n)(hl:n<l.length){v:Value}{F}(r:Qbl h [.sl sz l] [v] F)(hF:∀x∈F,Imm own h x):
  ∃b off cap,v= .slice (some ⟨b,off,none⟩) l.length cap∧QR own h s (.iptr (l.getD n.toNat [])) (.pointer (some ⟨b,off+n.toNat*sz,none⟩)):=by
 rcases r.sl_inv with⟨_,_,rfl,_⟩|⟨b,off,cap,c,e,fz,G,rfl,a1,a2,a3,a4,a5,a6,rfl⟩
 ·simp at hl;omega
 ·have hi:n.toNat<l.length:=by omega
  obtain⟨e1,G',e2,e3⟩:=Qn.elem a5 a4 a6 hi;have hget:l.getD n.toNat []=l[n.toNat]:=by simp[KD,hi]
  have hlen:l[n.toNat].length=sz:=a5 _ (YJ hi)
  refine⟨b,off,cap,rfl,b,off+n.toNat*sz,c,e,fz,G',rfl,a1,by rw[hget,hlen];exact e1,by rw[hget,hlen];exact e3,hF b (by simp),fun x hx=>hF x (by simp[e2 x hx])⟩
theorem Qn9{t:TypeId}{x i:Operand}(hty:∀t y,T.ty t=some y→Qb9 X.P t y)(hx:QM own w.heap s (ρ x) (a.eval x))(hi:QM own w.heap s (ρ i) (a.eval i))(hf:opR T d ρ s.ob fresh im (.indexAddr t x i)=some (p,v))(hp:p):
  Q3 X.P own w.heap s ⟨dst,.indexAddr t x i,type,pos,after,guard⟩ a.eval w v:=by
 unfold opR at hf;dsimp only at hf;split at hf
 ·rename_i e _ hyt
  have hu:=(hty t _ hyt).2.2.2.2
  simp only at hu
  split at hf
  ·rename_i y k n hye hin
   have hyo:=hty e y hye
   rw[hin]at hi;have hiv:=Qad hi
   have run:∀(b off len cap:Nat),y.size=y.size→0≤n→n<(len:Int)→a.eval x= .slice (some ⟨b,off,none⟩) len cap→
     (execOp a.eval ⟨dst,.indexAddr t x i,type,pos,after,guard⟩).run X.P w= .ok (.value (.pointer (some ⟨b,off+n.toNat*y.size,none⟩))) w:=fun b off len cap _ h0 hl hv=>by
    simp only[execOp,hv,hiv,Instr.indexAt,asIntOf,Sem.run_bind,Sem.run_pure,Result.andThen_ok,run_underlying hu.1]
    simp only[h0,hl,and_self,if_true,Sem.run_bind,hyo.size,Result.andThen_ok,Sem.run_pure,QbK]
   have dcase:∀(sz:Nat) (l:List (List D)) (F:List Nat),Qbl w.heap [.sl sz l] [a.eval x] F→(∀b∈F,Imm own w.heap b)→y.size=sz∧0≤n∧n<l.length→
     Q3 X.P own w.heap s ⟨dst,.indexAddr t x i,type,pos,after,guard⟩ a.eval w (.one (.iptr (l.getD n.toNat []))):=fun sz l F r hF hp=>by
    obtain⟨rfl,h0,hl⟩:=hp;obtain⟨b,off,cap,hv,hc⟩:=Qxj (own:=own) (s:=s) h0 hl r hF;exact⟨_,run b off _ cap rfl h0 (by omega) hv,hc⟩
   split at hf
   ·rename_i sz l e1
    simp only[KA,KC]at hf
    obtain⟨rfl,rfl⟩:=hf;rw[e1]at hx;obtain⟨F,r,hF⟩:=hx;exact dcase sz l F r hF hp
   ·rename_i sz l e1
    simp only[KA,KC]at hf
    obtain⟨rfl,rfl⟩:=hf;rw[e1]at hx;obtain⟨F,r,hF⟩:=hx;exact dcase sz l F r (fun b hb=>(hF b hb).1) hp
   ·rename_i id e1
    rw[e1]at hx;split at hf
    ·rename_i sz l dp ho
     simp only[KA,KC]at hf
     obtain⟨rfl,rfl⟩:=hf;obtain⟨rfl,h0,hl⟩:=hp;obtain⟨_,ha,hb⟩:=hx;rw[ho]at hb;rcases hb with⟨_,rfl,_⟩|⟨b,cap,hv,hb⟩
     ·simp at hl;omega
     ·refine⟨_,run b 0 _ cap rfl h0 (by omega) hv,ha,b,0+n.toNat*y.size,rfl,n.toNat*y.size,by omega,?_⟩
      rw[ho];exact⟨rfl,cap,hb⟩
    ·cases hf
   ·rename_i id ii oo e1
    rw[e1]at hx;split at hf
    ·rename_i sz l ho
     split at hf
     ·rename_i s0 r hD
      simp only[KA,KC]at hf
      obtain⟨rfl,rfl⟩:=hf;obtain⟨rfl,h0,hl⟩:=hp;have hx1:Qe4 own w.heap s id ii oo (a.eval x):=hx
      obtain⟨F,rr,hF⟩:=Qe4.repsW ho hx1;rw[hD]at rr;rcases rr.sl_invW with⟨_,_,rfl,_⟩|⟨b,off,cap,c,e,fz,G,hv,a1,a2,a3,a4,a5,a6,a7,q⟩
      ·simp at hl;omega
      ·obtain⟨rfl,_,_⟩:=q rfl
       rw[hv]at hx1;refine⟨_,run b 0 _ cap rfl h0 (by omega) hv,b,r.length,cap,by rw[Ya],by omega,hx1⟩
     ·cases hf
    ·cases hf
   ·cases hf
  ·cases hf
 ·cases hf
theorem Qz0{t:TypeId}{x i:Operand}(hty:∀t y,T.ty t=some y→Qb9 X.P t y)(hx:QM own w.heap s (ρ x) (a.eval x))(hi:QM own w.heap s (ρ i) (a.eval i))(hf:opR T d ρ s.ob fresh im (.index t x i)=some (p,v))(hp:p):
  Q3 X.P own w.heap s ⟨dst,.index t x i,type,pos,after,guard⟩ a.eval w v:=by
 unfold opR at hf;dsimp only at hf;split at hf
 ·rename_i b k n hyt e1 e2
  have hu:=(hty t _ hyt).2.2.2.2
  simp only at hu
  simp only[KA,KC]at hf
  obtain⟨rfl,rfl⟩:=hf;obtain⟨h0,hl⟩:=hp;rw[e1]at hx;rw[e2]at hi;have hn:n.toNat<b.size:=by omega
  have hb:b[n.toNat]? =some b[n.toNat]:=getElem?_pos b n.toNat hn
  have hs:Qdr b n.toNat=(b[n.toNat]).toNat:=by
   unfold Qdr;have:b.data.toList[n.toNat]? =some b[n.toNat]:=by
    have h1:n.toNat<b.data.toList.length:=by simpa using hn
    rw[Kc h1];rfl
   rw[this];rfl
  refine⟨.int .u8 (Qdr b n.toNat),?_,Qaw _ rfl⟩
  simp only[execOp,Qad hx,Qad hi,Instr.index,asIntOf,Sem.run_bind,Sem.run_pure,Result.andThen_ok,run_underlying hu.1,h0,if_true,hb,hs]
 ·cases hf
theorem Qbl.sub{h:Q6}{sz:Nat}{l:List (List D)}{off:Nat}{c:Array Value}{G:List Nat}(hs:∀x∈l,x.length=sz)
  (r:Qbl h l.flatten ((c.toList.drop off).take (l.length*sz)) G) {lo hi:Nat} (h1:lo≤hi) (h2:hi≤l.length):
  ∃G',(∀b∈G',b∈G)∧Qbl h ((l.take hi).drop lo).flatten ((c.toList.drop (off+lo*sz)).take ((hi-lo)*sz)) G':=by
 have e1:l=l.take lo++((l.take hi).drop lo++l.drop hi):=by
  have:l.take hi=l.take lo++(l.take hi).drop lo:=by
   conv=>lhs;rw[←Kr lo (l.take hi)]
   rw[List.take_take,YT h1]
  rw[←Kn,←this,Kr]
 have f1:(l.take lo).flatten.length=lo*sz:=by rw[QaT _ sz (fun x hx=>hs x (Ks hx)),KO,YT (by omega)]
 have f2:((l.take hi).drop lo).flatten.length=(hi-lo)*sz:=by
  rw[QaT _ sz (fun x hx=>hs x (Ks (YI hx))),Kk,KO,YT h2]
 have e2:l.flatten=(l.take lo).flatten++(((l.take hi).drop lo).flatten++(l.drop hi).flatten):=by
  conv=>lhs;rw[e1]
  rw[YR,YR]
 rw[e2]at r;obtain⟨v1,v2,F1,F2,hv,hF,r1,r2⟩:=Qn.split _ _ r;obtain⟨v3,v4,F3,F4,hv',hF',r3,r4⟩:=Qn.split _ _ r2;refine⟨F3,fun b hb=>by simp[hF,hF',hb],?_⟩
 have l1:v1.length=lo*sz:=by rw[←r1.length,f1]
 have l3:v3.length=(hi-lo)*sz:=by rw[←r3.length,f2]
 have:v3=(c.toList.drop (off+lo*sz)).take ((hi-lo)*sz):=by
  have g1:((c.toList.drop off).take (l.length*sz)).drop (lo*sz)=v3++v4:=by rw[hv,hv',←l1,List.drop_left]
  have g2:(((c.toList.drop off).take (l.length*sz)).drop (lo*sz)).take ((hi-lo)*sz)=v3:=by rw[g1,←l3,List.take_left]
  rw[←g2,List.drop_take,List.take_take,List.drop_drop];congr 1
  have:(hi-lo)*sz≤l.length*sz-lo*sz:=by
   rw[←Nat.sub_mul];exact Ka _ (by omega)
  omega
 rw[←this];exact r3
theorem Qzt{h:Q6}{id:Id}{i o sz:Nat}{l:List (List D)}{u:Value}(ho:s.ob id= .arr sz l 2)(a:Qe4 own h s id i o u):∃F,Qbl h [(l.getD i []).getD o default] [u] F∧∀b∈F,b∈own id:=by
 have:=a.2.2
 rw[ho]at this;obtain⟨b,cap,cc,e,b4,g1,g2,g3,g4⟩:=this rfl;obtain⟨c',e',G',f1,f2,f3,f4,f5,f6⟩:=b4.elem g3;rw[g1]at f1;simp only[KA,Obj.cells.injEq]at f1
 obtain⟨rfl,rfl,_⟩:=f1;obtain⟨u',F',k1,k2,k3⟩:=f4.at (i:=o) (by rw[f3];exact g2)
 rw[Ky g2,YQ]at k1;have:u'=u:=by
  have h2:cc[i*sz+o]? =some u':=by simpa using k1
  rw[g4]at h2;simpa using h2.symm
 subst this;exact⟨F',k2,fun b hb=>f6 (by decide) b (k3 b hb)⟩
theorem Qjy{h:Q6}{cc:QI}{x:D}(ht:toD s.ob cc=some x){u:Value}(hc:QR own h s cc u):∃F,Qbl h [x] [u] F∧∀b∈F,(∃id,b∈own id)∨Imm own h b:=by
 cases cc with
 | d y=>simp only[toD,KA]at ht;subst ht;obtain⟨F,r,hF⟩:=hc;exact⟨F,r,fun b hb=> .inr (hF b hb)⟩
 | n y=>simp only[toD,KA]at ht;subst ht;obtain⟨F,r,hF⟩:=hc;exact⟨F,r,fun b hb=> .inr (hF b hb).1⟩
 | fr id sz l dp=>
  simp only[toD]at ht
  split at ht
  ·rename_i ho
   simp only[KA]at ht
   subst ht;obtain⟨F,r,hF⟩:=(hc.2.2 ho).reps;exact⟨F,r,fun b hb=>(hF b hb).imp (fun h=>⟨id,h⟩) (fun h=>h)⟩
  ·cases ht
 | osl id=>
  simp only[toD]at ht
  split at ht
  ·rename_i sz l dp ho
   simp only[KA]at ht
   subst ht;have:=hc.2.2
   rw[ho]at this;obtain⟨F,r,hF⟩:=QaX.reps this;exact⟨F,r,fun b hb=>(hF b hb).imp (fun h=>⟨id,h⟩) (fun h=>h)⟩
  ·rename_i j i o ho
   split at ht
   ·rename_i sz l hj
    simp only[KA]at ht
    subst ht;have:=hc.2.2
    rw[ho]at this;obtain⟨F',k2,k3⟩:=Qzt hj this;exact⟨F',k2,fun b hb=> .inl ⟨j,k3 b hb⟩⟩
   ·cases ht
  ·cases ht
 | isl id i o=>
  simp only[toD]at ht
  split at ht
  ·rename_i sz l ho
   simp only[KA]at ht
   subst ht;obtain⟨F',k2,k3⟩:=Qzt ho hc;exact⟨F',k2,fun b hb=> .inl ⟨id,k3 b hb⟩⟩
  ·cases ht
 | sub id lo hi=>
  simp only[toD]at ht
  split at ht
  ·rename_i sz l dp ho
   simp only[KA]at ht
   subst ht;obtain⟨_,ad,n,q,rfl,h1⟩:=hc;rw[ho]at h1;obtain⟨b,cap,rfl,rfl,rfl,h5,h6,c,e,G,a1,a2,a3,a4,a5,a6,a7,a8⟩:=h1;have a7':Qbl h l.flatten ((c.toList.drop 0).take (l.length*sz)) G:=a7.weak
   obtain⟨G',g1,g2⟩:=Qbl.sub a6 a7' h5 h6;rw[Ya]at g2;have hlen:((l.take hi).drop lo).length=hi-lo:=by simp;omega
   have hbo:b∈own id:=by rw[a1];simp
   have hG:∀x∈G',(∃id,x∈own id)∨Imm own h x:=fun x hx=>by
    by_cases h0:dp=0
    ·exact .inr (a8 h0 x (g1 x hx))
    ·exact .inl ⟨id,by rw[a1,if_neg h0];simp[g1 x hx]⟩
   by_cases hcl:cap=lo
   ·have h7:hi-lo=0:=by omega
    have hnil:(l.take hi).drop lo=[]:=Kd (by omega)
    have r0:Qbl h [.sl sz ([]:List (List D))] [.slice (some ⟨b,0,none⟩) ([]:List (List D)).length (cap-lo)] (b::([]++[])):=
     .sl (fun h=>nomatch h) a2 (by simp) (by omega) (by simp) (by simp) (by simpa using Qn.nil) .nil
    rw[hnil,if_pos hcl,h7];exact⟨[b],by simpa using r0,fun x hx=>by rw[KH]at hx;subst hx;exact .inl ⟨id,hbo⟩⟩
   ·rw[if_neg hcl]
    have:=Qn.sl (W:=false) (fz:=(0,0)) (c:=c) (e:=e) (h:=h) (ds:=[]) (vs:=[]) (F:=[]) (s:=sz) (l:=(l.take hi).drop lo) (b:=b) (off:=lo*sz) (cap:=cap-lo) (G:=G') (fun h=>nomatch h) a2 (by omega) (by omega)
     (by
      rw[hlen,a5];have:lo*sz+(hi-lo)*sz=hi*sz:=by rw[←YD];congr 1;omega
      have:hi*sz≤cap*sz:=Ka _ (by omega)
      omega)
     (fun x hx=>a6 x (Ks (YI hx))) (by rw[hlen];exact g2) .nil
    rw[hlen]at this;refine⟨_,this,fun x hx=>?_⟩
    rcases KI.1 hx with rfl|hx
    ·exact .inl ⟨id,hbo⟩
    ·exact hG x (by simpa using hx)
  ·cases ht
 | _=>simp[toD]at ht
theorem Qi7{own:Id→List Nat}{h:Q6}{s:St}:∀{els:List (List QI)} {ns:List Int} {vs:List Value},QeO els=some ns→Qk own h s els.flatten vs→vs=ns.map (Value.int .u8)∧els.length=ns.length
 | [],ns,vs,hl,hc=>by
  simp only[QeO,KA]at hl
  subst hl;cases hc;exact⟨rfl,rfl⟩
 | e::r,ns,vs,hl,hc=>by
  unfold QeO at hl;split at hl
  ·rename_i h1;cases h1
  ·rename_i n r' h1
   simp only[YO]at h1
   obtain⟨rfl,rfl⟩:=h1;split at hl
   ·rename_i l e2
    simp only[KA]at hl
    subst hl;simp only[List.flatten_cons,List.cons_append,List.nil_append]at hc
    cases hc with
    | cons a1 a2=>
     obtain⟨i1,i2⟩:=Qi7 e2 a2;obtain⟨F,r1,_⟩:=a1;cases r1 with
     | v _ r2=>rw[i1];exact⟨rfl,by simp[i2]⟩
   ·cases hl
  ·cases hl
theorem QsZ{t u:TypeId}{x:Operand}(hty:∀t y,T.ty t=some y→Qb9 X.P t y)(hx:QM own w.heap s (ρ x) (a.eval x))(hf:opR T d ρ s.ob fresh im (.convert t u x)=some (p,v))(hp:p):
  Q3 X.P own w.heap s ⟨dst,.convert t u x,type,pos,after,guard⟩ a.eval w v:=by
 unfold opR at hf;dsimp only at hf;split at hf
 ·rename_i k1 k2 k3 n h1 h2 e1
  have hu1:=(hty t _ h1).2.2.2.2
  have hu2:=(hty u _ h2).2.2.2.2
  simp only at hu1 hu2
  simp only[KA,KC]at hf
  obtain⟨rfl,rfl⟩:=hf;rw[e1]at hx;exact⟨_,by simp only[execOp,Qad hx,convert,Sem.run_bind,run_underlying hu1.1,run_underlying hu2.1,Result.andThen_ok,Conv.intToInt,Sem.run_pure],Qaw _ rfl⟩
 ·rename_i b h1 h2 e1
  have hu1:=(hty t _ h1).2.2.2.2
  have hu2:=(hty u _ h2).2.2.2.2
  simp only at hu1 hu2
  simp only[KA,KC]at hf
  obtain⟨rfl,rfl⟩:=hf;rw[e1]at hx;exact⟨_,by simp only[execOp,Qad hx,convert,Sem.run_bind,run_underlying hu1.1,run_underlying hu2.1,Result.andThen_ok,Sem.run_pure],Qaw _ rfl⟩
 ·rename_i et _ _ _ _ _ _ cc h1 h2 e1
  split at hf
  ·rename_i l h3 h4
   simp only[KA,KC]at hf
   obtain⟨rfl,rfl⟩:=hf;rw[e1]at hx;obtain⟨F,r,_⟩:=Qjy h4 hx;refine⟨_,?_,Qaw _ rfl⟩
   have h5:=(hty t _ h1).2.2.2.2
   have h6:=(hty u _ h2).2.2.2.2
   have h7:=(hty et _ h3).2.2.2.2
   simp only at h5 h6 h7
   have hrun:∀(ad:Option Addr) (n c:Nat),(Conv.bytesToString (.slice ad n c)).run X.P w= .ok (.string (Qca (unB l))) w→a.eval x= .slice ad n c→(execOp a.eval ⟨dst,.convert t u x,type,pos,after,guard⟩).run X.P w= .ok (.value (.string (Qca (unB l)))) w:=fun ad n c h8 h9=>by
    simp only[execOp,h9,Sem.run_bind,run_convert_bytes_string w t u et ad n c h5.1 h7.1 h6.1,h8,Result.andThen_ok,Sem.run_pure]
   rcases r.sl_inv with⟨a0,hv,hl,_⟩|⟨b,off,cap,c,e',fz,G,hv,a1,a2,a3,a4,a5,a6,_⟩
   ·subst hl
    refine hrun a0 0 0 ?_ hv
    cases a0 with
    | none=>rfl
    | some ad=>exact run_bytesToString w ad 0 0 [] rfl
   ·refine hrun _ _ cap ?_ hv
    refine run_bytesToString w ⟨b,off,none⟩ l.length cap (unB l) ?_
    rw[QbP a1 (by omega)]
    rw[hp]at a6;have:∀(ns:List Int) (vs:List Value) (G:List Nat),Qbl w.heap (bL ns).flatten vs G→vs=ns.map (Value.int .u8):=by
     intro ns;induction ns with
     | nil=>intro vs G r;cases r;rfl
     | cons n ns ih=>
      intro vs G r;simp only[bL,List.map_cons,List.flatten_cons,List.cons_append,List.nil_append]at r
      cases r with
      | v _ r=>rw[ih _ _ r];rfl
    have h8:=this _ _ _ a6
    have h9:(bL (unB l)).length=l.length:=by rw[←hp]
    rw[h9,Nat.mul_one]at h8;rw[h8]
  ·cases hf
 ·rename_i et _ _ _ _ _ _ id sz els h1 h2 e1
  split at hf
  ·rename_i ns h3 ho h4
   simp only[KA,KC]at hf
   obtain⟨rfl,rfl⟩:=hf;rw[e1]at hx;obtain⟨b,c,e,g1,g2,g3,g4,g5,g6,g7⟩:=hx.2.2 ho;subst hp;obtain⟨i1,i2⟩:=Qi7 h4 g7;refine⟨_,?_,Qaw _ rfl⟩
   have h5:=(hty t _ h1).2.2.2.2
   have h6:=(hty u _ h2).2.2.2.2
   have h7:=(hty et _ h3).2.2.2.2
   simp only at h5 h6 h7
   have h8:(Conv.bytesToString (.slice (some ⟨b,0,none⟩) els.length els.length)).run X.P w= .ok (.string (Qca ns)) w:=by
    refine run_bytesToString w ⟨b,0,none⟩ els.length els.length ns ?_
    rw[QbP g3 (by omega)]
    rw[K1,i1,Kj (by rw[KV];omega)]
   simp only[execOp,g1,Sem.run_bind,run_convert_bytes_string w t u et _ _ _ h5.1 h7.1 h6.1,h8,Result.andThen_ok,Sem.run_pure]
  ·cases hf
 ·cases hf
theorem QEO{c:Call}(hc:c.callee= .builtin .len)(hty:∀t y,T.ty t=some y→Qb9 X.P t y)(hx:∀x∈c.args,QM own w.heap s (ρ x) (a.eval x))(hf:opR T d ρ s.ob fresh im (.call c)=some (p,v)):
  Q3 X.P own w.heap s ⟨dst,.call c,type,pos,after,guard⟩ a.eval w v:=by
 obtain⟨cal,as,ts⟩:=c;dsimp only at hc hx;subst hc;unfold opR at hf;dsimp only at hf;split at hf
 ·rename_i cc t e1 e2
  have has:∃x,as=#[x]∧ρ x= .one cc:=by
   obtain⟨as⟩:=as;match as,e1 with
   | [x],e1=>exact⟨x,rfl,by simpa using e1⟩
   | [],e1=>simp at e1
   | _::_::_,e1=>simp at e1
  obtain⟨x,rfl,hxx⟩:=has;have hts:ts=#[t]:=by
   obtain⟨ts⟩:=ts;simpa using e2
  subst hts;have hx':=hx x (by simp)
  rw[hxx]at hx';split at hf
  ·rename_i hyt
   have hu:=(hty t _ hyt).2.2.2.2
   simp only at hu
   split at hf
   ·simp only[KA,KC]at hf
    obtain⟨rfl,rfl⟩:=hf;exact⟨_,by simp[execOp,resolve,invoke,builtin,Builtin.len_,Qad hx',run_underlying hu.1,goInt],Qaw _ rfl⟩
   ·cases hf
  ·rename_i e hyt
   have hu:=(hty t _ hyt).2.2.2.2
   simp only at hu
   split at hf
   ·simp only[KA,KC]at hf
    obtain⟨rfl,rfl⟩:=hf;exact⟨_,by simp[execOp,resolve,invoke,builtin,Builtin.len_,Qad hx',run_underlying hu.1,goInt],Qaw _ rfl⟩
   ·split at hf
    ·rename_i sz l hl
     simp only[KA,KC]at hf
     obtain⟨rfl,rfl⟩:=hf;obtain⟨F,r,_⟩:=Qjy hl hx';have hv:∃b cap,a.eval x= .slice b l.length cap:=by
      rcases r.sl_inv with⟨_,hv,rfl,_⟩|⟨b,off,cap,_,_,_,_,hv,_⟩
      ·exact⟨_,_,hv⟩
      ·exact⟨_,_,hv⟩
     obtain⟨b,cap,hv⟩:=hv;exact⟨_,by simp[execOp,resolve,invoke,builtin,Builtin.len_,hv,run_underlying hu.1,goInt],Qaw _ rfl⟩
    ·cases hf
  ·cases hf
 ·cases hf
theorem Qyl{h:Q6}{mx:Bool}{x y:AV}{v:AV}(hm:Qsr mx x y=some v){u1 u2:Value}(h1:QM own h s x u1)(h2:QM own h s y u2):
  ∃k a b,u1= .int k a∧u2= .int k b∧v= .one (.d (.v (.int k (if mx then max a b else min a b)))):=by
 unfold Qsr at hm;split at hm
 ·split at hm
  ·rename_i hk
   subst hk;simp only[KA]at hm
   exact⟨_,_,_,Qad h1,Qad h2,hm.symm⟩
  ·cases hm
 ·cases hm
theorem Qpp{c:Call}{mx:Bool}(hc:c.callee= .builtin (if mx then .max else .min))(hx:∀x∈c.args,QM own w.heap s (ρ x) (a.eval x))(hf:opR T d ρ s.ob fresh im (.call c)=some (p,v)):
  Q3 X.P own w.heap s ⟨dst,.call c,type,pos,after,guard⟩ a.eval w v:=by
 obtain⟨cal,as,ts⟩:=c;dsimp only at hc hx;subst hc;have key:∀{x y:Operand} {v':AV},as=#[x,y]→Qsr mx (ρ x) (ρ y)=some v'→Q3 X.P own w.heap s ⟨dst,.call ⟨.builtin (if mx then .max else .min),as,ts⟩,type,pos,after,guard⟩ a.eval w v':=fun {x y v'} has hm=>by
  subst has;obtain⟨k,i,j,h1,h2,rfl⟩:=Qyl hm (hx x (by simp)) (hx y (by simp))
  cases mx with
  | true=>
   refine⟨.int k (max i j),?_,Qaw _ rfl⟩
   have:(if j>i then j else i)=max i j:=by omega
   simp[execOp,resolve,invoke,builtin,Builtin.max_,Builtin.max2,h1,h2,this]
  | false=>
   refine⟨.int k (min i j),?_,Qaw _ rfl⟩
   have:(if j<i then j else i)=min i j:=by omega
   simp[execOp,resolve,invoke,builtin,Builtin.min_,Builtin.min2,h1,h2,this]
 have two:∀{x y:AV},as.toList.map ρ=[x,y]→∃x' y',as=#[x',y']∧ρ x'=x∧ρ y'=y:=fun {x y} h=>by
  obtain⟨as⟩:=as;match as,h with
  | [x',y'],h=>simp at h;exact⟨x',y',rfl,h.1,h.2⟩
  | [],h=>simp at h
  | [_],h=>simp at h
  | _::_::_::_,h=>simp at h
 cases mx with
 | true=>
  unfold opR at hf;simp only[if_true]at hf
  split at hf
  ·rename_i x y e1
   obtain⟨x',y',rfl,rfl,rfl⟩:=two e1;split at hf
   ·rename_i v' hm
    simp only[KA,KC]at hf
    obtain⟨rfl,rfl⟩:=hf;exact key rfl hm
   ·cases hf
  ·cases hf
 | false=>
  unfold opR at hf;simp only[KX,if_false]at hf
  split at hf
  ·rename_i x y e1
   obtain⟨x',y',rfl,rfl,rfl⟩:=two e1;split at hf
   ·rename_i v' hm
    simp only[KA,KC]at hf
    obtain⟨rfl,rfl⟩:=hf;exact key rfl hm
   ·cases hf
  ·cases hf
end
end
variable {hd:Hid}
section
variable {X:Ctx} {T:QS} {own:Id→List Nat} {s:St} {w:World} {a:Act} {ρ:Operand→AV}
variable {dst:Option Nat} {type:TypeId} {pos:String} {after:Array Edge} {guard:Option (Nat×Bool)} {p:Prop} {v:AV} {d:Nat} {fresh im:Bool}
theorem QfK{x:Option Operand}{r:Option Int}(h:Qhw ρ x=some r){hp:Q6}(hx:∀y∈x.toList,QM own hp s (ρ y) (a.eval y)):
  (x=none∧r=none)∨∃y k n,x=some y∧r=some n∧a.eval y= .int k n:=by
 cases x with
 | none=>simp only[Qhw,KA]at h;exact .inl ⟨rfl,h.symm⟩
 | some y=>
  simp only[Qhw]at h
  split at h
  ·rename_i k n e
   simp only[KA]at h
   have:=hx y (by simp)
   rw[e]at this;exact .inr ⟨y,k,n,rfl,h.symm,Qad this⟩
  ·cases h
theorem Qa3{P:Program}{isS:Bool}{len cap:Nat}(hlc:len≤cap){lo hi:Option Operand}{l h:Option Int}(hl:(lo=none∧l=none)∨∃y k n,lo=some y∧l=some n∧a.eval y= .int k n)
  (hh:(hi=none∧h=none)∨∃y k n,hi=some y∧h=some n∧a.eval y= .int k n) (h0:0≤l.getD 0) (h1:l.getD 0≤h.getD len) (h2:h.getD len≤len):
  (Instr.sliceBounds isS len cap (lo.map a.eval) (hi.map a.eval) none).run P w= .ok ((l.getD 0).toNat,(h.getD len).toNat,cap) w:=by
 have b:∀(k:IntKind) (n:Int) (y:Nat) (code:BoundsCode),0≤n→n≤y→(Instr.sliceBound (.int k n) y code).run P w= .ok n.toNat w:=fun k n y code g1 g2=>by
  simp[Instr.sliceBound,asIntOf,g1,g2]
 rcases hh with⟨rfl,rfl⟩|⟨y,k,n,rfl,rfl,he⟩
 ·rcases hl with⟨rfl,rfl⟩|⟨y',k',n',rfl,rfl,he'⟩
  ·simp[Instr.sliceBounds]
  ·simp only[YF,Option.getD_none]at h0 h1 h2
   simp[Instr.sliceBounds,he',b k' n' len _ h0 h1]
 ·rcases hl with⟨rfl,rfl⟩|⟨y',k',n',rfl,rfl,he'⟩
  ·simp only[YF,Option.getD_none]at h0 h1 h2
   simp[Instr.sliceBounds,he,b k n cap _ h1 (by omega)]
  ·simp only[YF]at h0 h1 h2
   have hn:n=(n.toNat:Int):=by omega
   simp[Instr.sliceBounds,he,b k n cap _ (by omega) (by omega),he',b k' n' n.toNat _ h0 (by omega)]
theorem QkR{P:Program}{sz:Nat}{e:TypeId}{y:TyI}{t:TypeId}(hu:P.underlying t=some (.slice e))(hye:Qb9 P e y)(hsz:y.size=sz){l:List (List D)}{lo hi:Option Operand}{lo' hi':Option Int}
  (hl:(lo=none∧lo'=none)∨∃y k n,lo=some y∧lo'=some n∧a.eval y= .int k n) (hh:(hi=none∧hi'=none)∨∃y k n,hi=some y∧hi'=some n∧a.eval y= .int k n)
  (h0:0≤lo'.getD 0) (h1:lo'.getD 0≤hi'.getD l.length) (h2:hi'.getD l.length≤l.length) {v:Value} {F} (r:Qbl w.heap [.sl sz l] [v] F):
  ∃u F',(Instr.sliceAt t v (lo.map a.eval) (hi.map a.eval) none).run P w= .ok u w∧Qbl w.heap [.sl sz ((l.take (hi'.getD l.length).toNat).drop (lo'.getD 0).toNat)] [u] F'∧∀b∈F',b∈F:=by
 rcases r.sl_inv with⟨a0,rfl,rfl,rfl⟩|⟨b,off,cap,c,ee,fz,G,rfl,a1,a2,a3,a4,a5,a6,rfl⟩
 ·simp only[Yb,Int.natCast_zero]at h1 h2
  have hz1:hi'.getD 0=0:=by have:=h1;have:=h2;simp at *;omega
  have hz2:lo'.getD 0=0:=by have:=h1;simp at *;omega
  have hb:=Qa3 (P:=P) (w:=w) (a:=a) (isS:=true) (len:=0) (cap:=0) (KP _) hl hh h0 (by simpa using h1) (by simpa using h2)
  refine⟨.slice a0 0 0,[],?_,?_,by simp⟩
  ·cases a0<;>simp[Instr.sliceAt,Instr.slice,run_underlying hu,hb,hye.size,hz1,hz2]
  ·simpa using(Qn.none (fun h=>nomatch h) .nil:Qbl w.heap [.sl sz []] [.slice a0 0 0] [])
 ·have hb:=Qa3 (P:=P) (w:=w) (a:=a) (isS:=true) (len:=l.length) (cap:=cap) a2 hl hh h0 h1 h2
  obtain⟨lo2,e2⟩:∃n,(lo'.getD 0).toNat=n:=⟨_,rfl⟩;obtain⟨hi2,e3⟩:∃n,(hi'.getD l.length).toNat=n:=⟨_,rfl⟩;have hle:lo2≤hi2:=by omega
  have hhl:hi2≤l.length:=by omega
  rw[e2,e3]at hb ⊢;obtain⟨G',g1,g2⟩:=Qbl.sub a5 a6 hle hhl;have hlen:((l.take hi2).drop lo2).length=hi2-lo2:=by simp;omega
  have hrun:(Instr.sliceAt t (.slice (some ⟨b,off,none⟩) l.length cap) (lo.map a.eval) (hi.map a.eval) none).run P w=
    .ok (.slice (if cap=lo2 then some ⟨b,off,none⟩else some ⟨b,off+lo2*sz,none⟩) (hi2-lo2) (cap-lo2)) w:=by
   simp only[Instr.sliceAt,Instr.slice,Sem.run_bind,run_underlying hu,Result.andThen_ok,hb,hye.size,hsz,Sem.run_pure]
   split<;>simp[QbK]
  refine⟨_,b::G',hrun,?_,fun x hx=>by rcases KI.1 hx with rfl|hx;simp;simp[g1 x hx]⟩
  by_cases hc:cap=lo2
  ·have:hi2-lo2=0:=by omega
   have hnil:(l.take hi2).drop lo2=[]:=Kd (by omega)
   have r0:Qbl w.heap [.sl sz ([]:List (List D))] [.slice (some ⟨b,off,none⟩) ([]:List (List D)).length (cap-lo2)] (b::([]++[])):=
    .sl (fun h=>nomatch h) a1 (by simp) (by omega) (by simp;omega) (by simp) (by simpa using Qn.nil) .nil
   rw[hnil,if_pos hc,this];have r1:Qbl w.heap [.sl sz ([]:List (List D))] [.slice (some ⟨b,off,none⟩) 0 (cap-lo2)] [b]:=by simpa using r0
   have hG:G'=[]:=by rw[hnil,this]at g2;simp at g2;cases g2;rfl
   rw[hG];exact r1
  ·rw[if_neg hc]
   have:=Qn.sl (W:=false) (fz:=fz) (c:=c) (e:=ee) (h:=w.heap) (ds:=[]) (vs:=[]) (F:=[]) (s:=sz) (l:=(l.take hi2).drop lo2) (b:=b) (off:=off+lo2*sz) (cap:=cap-lo2) (G:=G') (fun h=>nomatch h) a1 (by omega) (by omega)
    (by
     rw[hlen];have:lo2*sz+(hi2-lo2)*sz=hi2*sz:=by rw[←YD];congr 1;omega
     have:hi2*sz≤l.length*sz:=Ka _ hhl
     omega)
    (fun x hx=>a5 x (Ks (YI hx))) (by rw[hlen];exact g2) .nil
   rw[hlen]at this;simpa using this
theorem Qz1{t:TypeId}{x:Operand}{lo hi mx:Option Operand}(hty:∀t y,T.ty t=some y→Qb9 X.P t y)(hx:QM own w.heap s (ρ x) (a.eval x))(hlo:∀y∈lo.toList,QM own w.heap s (ρ y) (a.eval y))
  (hhi:∀y∈hi.toList,QM own w.heap s (ρ y) (a.eval y)) (hf:opR T d ρ s.ob fresh im (.slice t x lo hi mx)=some (p,v)) (hp:p):
  Q3 X.P own w.heap s ⟨dst,.slice t x lo hi mx,type,pos,after,guard⟩ a.eval w v:=by
 unfold opR at hf;dsimp only at hf;split at hf
 ·rename_i l h hyt e1 e2
  have hu:=(hty t _ hyt).2.2.2.2
  simp only at hu
  have hl:=QfK e1 hlo
  have hh:=QfK e2 hhi
  split at hf
  ·rename_i b e3
   simp only[KA,KC]at hf
   obtain⟨rfl,rfl⟩:=hf;rw[e3]at hx;have hb:=Qa3 (P:=X.P) (w:=w) (a:=a) (isS:=false) (len:=b.size) (cap:=b.size) (KP _) hl hh hp.1 hp.2.1 hp.2.2
   refine⟨_,?_,Qaw _ rfl⟩
   simp[execOp,Qad hx,Instr.sliceAt,Instr.slice,run_underlying hu.1,hb]
  ·cases hf
 ·rename_i e l h hyt e1 e2
  have hu:=(hty t _ hyt).2.2.2.2
  simp only at hu
  have hl:=QfK e1 hlo
  have hh:=QfK e2 hhi
  split at hf
  ·rename_i y sz m hye e3
   simp only[KA,KC]at hf
   obtain⟨rfl,rfl⟩:=hf;rw[e3]at hx;obtain⟨F,r,hF⟩:=hx;obtain⟨u,F',g1,g2,g3⟩:=QkR (w:=w) hu.1 (hty _ y hye) hp.1 hl hh hp.2.1 hp.2.2.1 hp.2.2.2 r;exact⟨u,by simp only[execOp,Option.map_none,Sem.run_bind,g1,Result.andThen_ok,Sem.run_pure],F',g2,fun b hb=>hF b (g3 b hb)⟩
  ·rename_i y sz m hye e3
   simp only[KA,KC]at hf
   obtain⟨rfl,rfl⟩:=hf;rw[e3]at hx;obtain⟨F,r,hF⟩:=hx;obtain⟨u,F',g1,g2,g3⟩:=QkR (w:=w) hu.1 (hty _ y hye) hp.1 hl hh hp.2.1 hp.2.2.1 hp.2.2.2 r;exact⟨u,by simp only[execOp,Option.map_none,Sem.run_bind,g1,Result.andThen_ok,Sem.run_pure],F',g2,fun b hb=>hF b (g3 b hb)⟩
  ·rename_i y id hye e3
   split at hf
   ·rename_i sz m dp ho
    have ho:s.ob id= .arr sz m dp:=by
     split at ho
     ·cases ho
     ·exact ho
    simp only[KA,KC]at hf
    obtain⟨rfl,rfl⟩:=hf;obtain⟨p1,p2,p3,p4,p5⟩:=hp;rw[e3]at hx;obtain⟨_,q1,q2⟩:=hx;rw[ho]at q2;rcases q2 with⟨_,q2,_⟩|⟨b,cap,q2,q3⟩
    ·exact absurd q2 p2
    ·have hcap:m.length≤cap:=by obtain⟨_,_,_,_,_,h3,_⟩:=q3;exact h3
     have hb:=Qa3 (P:=X.P) (w:=w) (a:=a) (isS:=true) (len:=m.length) (cap:=cap) hcap hl hh p3 p4 p5
     have hrun:(Instr.sliceAt t (.slice (some ⟨b,0,none⟩) m.length cap) (lo.map a.eval) (hi.map a.eval) none).run X.P w=
       .ok (.slice (some ⟨b,if cap=(l.getD 0).toNat then 0 else(l.getD 0).toNat*sz,none⟩) ((h.getD m.length).toNat-(l.getD 0).toNat) (cap-(l.getD 0).toNat)) w:=by
      simp only[Instr.sliceAt,Instr.slice,Sem.run_bind,run_underlying hu.1,Result.andThen_ok,hb,(hty _ y hye).size,p1,Sem.run_pure]
      split<;>simp[QbK]
     refine⟨.slice (some ⟨b,if cap=(l.getD 0).toNat then 0 else(l.getD 0).toNat*sz,none⟩) ((h.getD m.length).toNat-(l.getD 0).toNat) (cap-(l.getD 0).toNat),by simp only[execOp,Option.map_none,Sem.run_bind,q2,hrun,Result.andThen_ok,Sem.run_pure],q1,_,_,_,rfl,?_⟩
     rw[ho];exact⟨b,cap,rfl,rfl,rfl,by omega,by omega,q3⟩
   ·cases hf
  ·cases hf
 ·cases hf
theorem QzW{h:Q6}{t:TypeId}{x:Operand}{f:Nat}{ev:Operand→Value}(hty:∀t y,T.ty t=some y→Qb9 X.P t y)(hx:QM own h s (ρ x) (ev x))(hf:opP T ρ (.field t x f)=some (p,v)):
  Q3 X.P own h s ⟨dst,.field t x f,type,pos,after,guard⟩ ev w v:=by
 unfold opP at hf;dsimp only at hf;split at hf
 ·rename_i off ft cs e1 e2
  split at hf
  ·rename_i y hy
   split at hf
   ·rename_i av hav
    simp only[KA,KC]at hf
    obtain⟨rfl,rfl⟩:=hf;obtain⟨F,h1,fd,h2,h3,h4⟩:=Qkq hty e1;rw[e2]at hx;obtain⟨vs,hv,hc⟩:=hx;obtain⟨u,g1,g2⟩:=QyC (hty ft y hy) hav hc w;refine⟨u,?_,g2⟩
    have:vs=vs.toList.toArray:=by simp
    rw[this]at hv;rw[←h4,←h3]at g1;simp only[execOp,hv,Instr.field,asAgg,Sem.run_bind,run_underlying h1,Result.andThen_ok,h2,Sem.run_pure,h3,h4]at g1 ⊢
    rw[g1];rfl
   ·cases hf
  ·cases hf
 ·cases hf
theorem QsY{h:Q6}{x:Operand}{i:Nat}{ev:Operand→Value}(hx:QM own h s (ρ x) (ev x))(hf:opP T ρ (.extract x i)=some (p,v)):
  Q3 X.P own h s ⟨dst,.extract x i,type,pos,after,guard⟩ ev w v:=by
 unfold opP at hf;dsimp only at hf;split at hf
 ·rename_i ps e1
  rw[e1]at hx;obtain⟨vs,hv,hc⟩:=hx;split at hf
  ·rename_i cs hi
   simp only[KA,KC]at hf
   obtain⟨rfl,rfl⟩:=hf;obtain⟨u,g1,g2⟩:=Qas.get hc i _ hi;have g3:vs[i]? =some u:=by simpa using g1
   refine⟨u,by simp[execOp,hv,Instr.extract,g3],?_⟩
   simp only[Qc6,if_true]at g2
   exact g2
  ·rename_i c hi
   simp only[KA,KC]at hf
   obtain⟨rfl,rfl⟩:=hf;obtain⟨u,g1,g2⟩:=Qas.get hc i _ hi;have g3:vs[i]? =some u:=by simpa using g1
   refine⟨u,by simp[execOp,hv,Instr.extract,g3],?_⟩
   simp only[Qc6,KX,if_false]at g2
   obtain⟨c',hc',g2⟩:=g2;simp only[YO,and_true]at hc'
   subst hc';exact g2
  ·cases hf
 ·cases hf
theorem QrD{h:Q6}{x:Operand}{ev:Operand→Value}(hx:QM own h s (ρ x) (ev x))(hf:opP T ρ (.nilCheck x)=some (p,v)):
  Q3 X.P own h s ⟨dst,.nilCheck x,type,pos,after,guard⟩ ev w v:=by
 unfold opP at hf;dsimp only at hf;split at hf
 ·rename_i id o e1
  simp only[KA,KC]at hf
  obtain⟨rfl,rfl⟩:=hf;rw[e1]at hx;obtain⟨b,hb,_⟩:=hx.2;exact⟨ev x,by simp[execOp,hb],hx⟩
 ·rename_i ds e1
  simp only[KA,KC]at hf
  obtain⟨rfl,rfl⟩:=hf;rw[e1]at hx;obtain⟨b,off,c,e,fz,F,hb,_⟩:=id hx;exact⟨ev x,by simp[execOp,hb],hx⟩
 ·cases hf
structure Qfd(s:St)(d:Nat):Prop where
  row:s.sl d= .any
  ob:∀k,k<4→s.ob (d,k)= .none
theorem Qau{o:Option Nat}(h:Qr s o=true):∃d,o=some d∧Qfd s d:=by
 cases o with
 | none=>cases h
 | some d=>
  simp only[Qr,KB]at h
  obtain⟨⟨⟨⟨h1,h2⟩,h3⟩,h4⟩,h5⟩:=h;have f:∀{x:Ob},x.isNone=true→x= .none:=fun {x} hx=>by cases x<;>simp_all[Ob.isNone]
  refine⟨d,rfl,?_,fun k hk=>?_⟩
  ·cases hs:s.sl d<;>simp_all[AV.isAny]
  ·rcases k with _|_|_|_|k
   ·exact f h2
   ·exact f h3
   ·exact f h4
   ·exact f h5
   ·omega
def QcY(own:Id→List Nat)(id:Id)(l:List Nat):Id→List Nat:=fun i=>if i=id then l else own i
theorem QaC(id:Id)(l:List Nat):QcY own id l id=l:=by simp[QcY]
theorem QbQ{id i:Id}(l:List Nat)(h:i≠id):QcY own id l i=own i:=by simp[QcY,h]
theorem Qt.newObj{w':World}{cv:Array Value}{e:TypeId}{av:AV}{u:Value}{us:List (Id×Ob)}(c:Qt X own s a w)(hfr:Qfd s d)(hd:X.dok d=true)(hw:w'.heap=w.heap.push (.cells cv e))(ho:w'.os=w.os)
  (ht:w'.tape=w.tape) (hout:w'.output=w.output) (hus:us=[]∨∃o,us=[((d,0),o)]∧∀k:Qav own (QcY own (d,0) [w.heap.size]) w.heap w'.heap s (s.put (some d) av us),Qc4 (QcY own (d,0) [w.heap.size]) w'.heap (s.put (some d) av us) (d,0) o)
  (hv:∀k:Qav own (QcY own (d,0) [w.heap.size]) w.heap w'.heap s (s.put (some d) av us),QM (QcY own (d,0) [w.heap.size]) w'.heap (s.put (some d) av us) av u):
  Qt X (QcY own (d,0) [w.heap.size]) (s.put (some d) av us) (a.put (some d) u) w':=by
 have hold:∀b,b<w.heap.size→w'.heap[b]? =w.heap[b]? :=fun b hb=>by rw[hw,Array.getElem?_push,if_neg (by omega)]
 have hsz:w'.heap.size=w.heap.size+1:=by rw[hw];simp
 have hob:∀id:Id,id≠(d,0)→(s.put (some d) av us).ob id=s.ob id:=fun id hid=>by
  rw[St.put_ob];rcases hus with rfl|⟨o,rfl,_⟩
  ·rfl
  ·simp[Q7,hid]
 have hne:∀id:Id,s.sl id.1≠ .any→id≠(d,0):=fun id h e=>h (by rw[e];exact hfr.row)
 have k:Qav own (QcY own (d,0) [w.heap.size]) w.heap w'.heap s (s.put (some d) av us):=by
  refine⟨St.put_bs _ _ _ _,fun b hb=>⟨⟨by have:=hb.1;omega,fun id hm=>?_⟩,hold b hb.1⟩,St.put_row s (some d) av us,fun id hid=>?_,fun id _ _ _ _ _ _ hid h1 h2=>Qeu h1 h2 (.inl (hob id (hne id hid)))⟩
  ·by_cases hi:id=(d,0)
   ·subst hi;rw[QaC]at hm;simp at hm;have:=hb.1;omega
   ·rw[QbQ _ hi]at hm;exact hb.2 id hm
  ·rw[hob id (hne id hid)]
   exact .same _ (QbQ _ (hne id hid)) fun b hb=>hold b (c.lt id b hb).1
 refine c.turn k ho ht hout (by omega) (fun x hx=>by cases hx;exact hd) ?_ ?_ ?_ ?_ (hv k)
 ·intro id b hb
  by_cases hi:id=(d,0)
  ·subst hi;rw[QaC]at hb;simp at hb;subst hb
   exact⟨by omega,.inl c.grow⟩
  ·rw[QbQ _ hi]at hb
   have:=c.lt id b hb
   exact⟨by omega,this.2⟩
 ·intro id
  by_cases hi:id=(d,0)
  ·subst hi;rw[QaC];simp
  ·rw[QbQ _ hi];exact c.nodup id
 ·intro id id' b h1 h2
  by_cases hi:id=(d,0)
  ·by_cases hi':id'=(d,0)
   ·rw[hi,hi']
   ·exfalso
    subst hi;rw[QaC]at h1;simp at h1;subst h1;rw[QbQ _ hi']at h2;have:=(c.lt id' _ h2).1;omega
  ·by_cases hi':id'=(d,0)
   ·exfalso
    subst hi';rw[QaC]at h2;simp at h2;subst h2;rw[QbQ _ hi]at h1;have:=(c.lt id _ h1).1;omega
   ·rw[QbQ _ hi]at h1
    rw[QbQ _ hi']at h2;exact c.disj id id' b h1 h2
 ·intro id
  by_cases hi:id=(d,0)
  ·subst hi
   rcases hus with rfl|⟨o,rfl,ho⟩
   ·rw[St.put_ob,Q7,hfr.ob 0 (by omega)];trivial
   ·have:(s.put (some d) av [((d,0),o)]).ob (d,0)=o:=by rw[St.put_ob];simp[Q7]
    rw[this];exact ho k
  ·exact Qc4.keep k (hob id hi) (QbQ _ hi) (fun b hb=>hold b (c.lt id b hb).1) (c.obs id)
theorem QnK{W:Bool}{h:Q6}:∀{vs:List Value},(∀v∈vs,v.oneCell'=true)→Qn W h (vs.map .v) vs []
 | [],_=> .nil
 | v::vs,hv=> .v (hv v (by simp)) (QnK fun x hx=>hv x (by simp[hx]))
theorem QuW(z:List Value)(hz:0<z.length)(n m:Nat)(hn:n≤m):(madeCells z.toArray (m*z.length)).toList.take (n*z.length)=(List.replicate n z).flatten:=by
 apply List.ext_getElem?
 intro i
 by_cases hi:i<n*z.length
 ·have him:i<m*z.length:=Nat.lt_of_lt_of_le hi (Ka _ hn)
  rw[Ky hi];have e1:(madeCells z.toArray (m*z.length)).toList[i]? =some (z.toArray[i%z.toArray.size]!):=by
   simp only[madeCells,Array.toList_map,YG,Array.toList_range,List.getElem?_range him,Option.map_some]
  rw[e1];have hq:i/z.length<n:=Nat.div_lt_of_lt_mul (by rw[Nat.mul_comm];exact hi)
  obtain⟨h1,h2⟩:=QgO (List.replicate n z) z.length (i/z.length) (by intro x hx;rw[List.eq_of_mem_replicate hx]) (by simpa using hq)
  have hr:i%z.length<z.length:=Nat.mod_lt _ hz
  have hdm:i=i/z.length*z.length+i%z.length:=by rw[Nat.mul_comm];exact(Nat.div_add_mod i z.length).symm
  rw[h1,List.getElem?_append_right (by rw[h2];omega),h2]
  rw[List.getElem?_append_left (by simp;omega)]
  have:i-i/z.length*z.length=i%z.length:=by omega
  rw[this];simp[hr]
 ·have e2:(List.replicate n z).flatten.length=n*z.length:=by rw[QaT _ z.length (by intro x hx;rw[List.eq_of_mem_replicate hx])];simp
  rw[K6 (by simp;omega),K6 (by omega)]
theorem Qlr(l:List (List Value)):(l.map fun x=>x.map D.v).flatten=l.flatten.map .v:=by
 induction l with
 | nil=>rfl
 | cons x l ih=>simp only[List.map_cons,List.flatten_cons,Kv,ih]
theorem Qoa{t:TypeId}{n cc:Operand}(hty:∀t y,T.ty t=some y→Qb9 X.P t y)(c:Qt X own s a w)(hd:∀x,dst=some x→X.dok x=true)(hdd:d=dst.getD 0)(hfr:fresh=true→Qr s dst=true)
  (hn:QM own w.heap s (ρ n) (a.eval n)) (hc:QM own w.heap s (ρ cc) (a.eval cc)) (hf:opR T d ρ s.ob fresh im (.makeSlice t n cc)=some (p,v)) (hp:p):
  QbE X s a w ⟨dst,.makeSlice t n cc,type,pos,after,guard⟩ v []:=by
 unfold opR at hf;dsimp only at hf;split at hf
 ·rename_i e _ hyt
  have hu:=(hty t _ hyt).2.2.2.2
  simp only at hu
  split at hf
  ·rename_i y n' c' hye e1 e2
   simp only[KA,KC]at hf
   obtain⟨rfl,rfl⟩:=hf;obtain⟨h0,h1,h2,h3,h4,h5⟩:=hp;rw[e1]at hn;rw[e2]at hc;obtain⟨dd,rfl,hfs⟩:=Qau (hfr h4);obtain rfl:d=dd:=hdd;obtain⟨⟨i,z,g1,g2,g3,g4,g5⟩,g6,g7,_⟩:=hty e y hye;have hb':(i.bytes:Int)*c'≤281474976710656:=by rw[g3,Int.mul_comm];omega
   have hr:=run_make (P:=X.P) w t e i z hu.1 g1 g4 .i64 .i64 n' c' h0 h1 hb' (by unfold maxLen at h2;omega)
   have hzc:z.cells=y.zero.toArray:=by rw[←g5]
   rw[g2,hzc,←g6]at hr;refine QbE.of_value (own':=QcY own (d,0) [w.heap.size]) (u:= .slice (some ⟨w.heap.size,0,none⟩) n'.toNat c'.toNat) (w':=w.alloc (.cells (madeCells y.zero.toArray (c'.toNat*y.zero.length)) e)) ?_ ?_
   ·simp only[execOp,Qad hn,Qad hc,Sem.run_bind,hr,Result.andThen_ok,Sem.run_pure]
   ·refine c.newObj hfs (hd d rfl) rfl rfl rfl rfl (.inl rfl) fun k=>?_
    refine⟨rfl,St.put_dst s d _ _,fun _=> .inr ⟨w.heap.size,c'.toNat,by simp,?_⟩⟩
    refine⟨madeCells y.zero.toArray (c'.toNat*y.zero.length),e,[],by rw[QaC];rfl,heap_alloc_new w _,by rw[List.length_replicate];omega,by unfold maxLen at *;omega,by rw[size_madeCells,g6],
     fun x hx=>by rw[List.eq_of_mem_replicate hx];simp[g6],?_,fun h0=>by cases h0⟩
    have hrep:(List.replicate n'.toNat (y.zero.map D.v)).flatten=((List.replicate n'.toNat y.zero).flatten).map D.v:=by
     rw[←Qlr];simp
    rw[hrep,List.length_replicate,←g6,QuW y.zero (by omega) n'.toNat c'.toNat (by omega)]
    refine QnK fun x hx=>g7 x ?_
    rw[Kf]at hx;obtain⟨l,hl,hx⟩:=hx;rw[List.eq_of_mem_replicate hl]at hx;exact hx
  ·cases hf
 ·cases hf
end
end Go.Own
