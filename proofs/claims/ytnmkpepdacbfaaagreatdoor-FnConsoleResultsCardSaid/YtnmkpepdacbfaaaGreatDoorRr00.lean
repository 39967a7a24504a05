/-
  Own calculus, part A: data that memory is read as ('D'), and the reading itself ('Reps') with its frame law. Conditions: none (plain definitions and lemmas over the model's heap).
-/
import Derived.Orders
import Derived.Laws.AppendOwn
import Derived.RowKit3
import Derived.Deep.LoopGhost
set_option linter.unusedVariables false
set_option linter.unusedSimpArgs false
namespace Go.Own
open Go
inductive D where
  | v (x:Value)
  | sl (s:Nat) (l:List (List D))
  deriving Inhabited
abbrev QT:=Array Obj
inductive Qi(W:Bool)(h:QT):List D→List Value→List Nat→Prop
  | nil:Qi W h [] [] []
  | v {x ds vs F}:x.oneCell'=true→Qi W h ds vs F→Qi W h (.v x::ds) (x::vs) F
  | none {s ds vs F} {a:Option Addr}:(W=true→a=Option.none)→Qi W h ds vs F→Qi W h (.sl s []::ds) (.slice a 0 0::vs) F
  | sl {s l b off cap c e fz G ds vs F}:(W=true→off=0∧fz=(0,0)∧c.size=cap*s)→h[b]? =some (.cells c e fz)→l.length≤cap→cap≤maxLen→off+l.length*s≤c.size→(∀x∈l,x.length=s)→
      Qi W h l.flatten ((c.toList.drop off).take (l.length*s)) G→Qi W h ds vs F→
      Qi W h (.sl s l::ds) (.slice (some ⟨b,off,Option.none⟩) l.length cap::vs) (b::(G++F))
abbrev QaS(h:QT):List D→List Value→List Nat→Prop:=Qi false h
theorem Qi.weak{W:Bool}{h:QT}{ds vs F}(r:Qi W h ds vs F):QaS h ds vs F:=by
 induction r with
 | nil=>exact .nil
 | v h1 _ ih=>exact .v h1 ih
 | none _ _ ih=>exact .none (fun h=>nomatch h) ih
 | sl _ a1 a2 a3 a4 a5 _ _ ih1 ih2=>exact .sl (fun h=>nomatch h) a1 a2 a3 a4 a5 ih1 ih2
theorem Qi.length{W:Bool}{h:QT}{ds vs F}(r:Qi W h ds vs F):ds.length=vs.length:=by
 induction r with
 | nil=>rfl
 | v _ _ ih=>simp[ih]
 | none _ _ ih=>simp[ih]
 | sl _ _ _ _ _ _ _ _ _ ih=>simp[ih]
theorem Qi.frame{W:Bool}{h h':QT}{ds vs F}(r:Qi W h ds vs F)(hf:∀b∈F,h'[b]? =h[b]?):Qi W h' ds vs F:=by
 induction r with
 | nil=>exact .nil
 | v hx _ ih=>exact .v hx (ih hf)
 | none _ _ ih=>exact .none ‹_› (ih hf)
 | sl q hb h1 h2 h3 h4 _ _ ih1 ih2=>
  refine .sl q (by rw[hf _ (by simp)];exact hb) h1 h2 h3 h4 (ih1 fun b hb=>hf b (by simp[hb])) (ih2 fun b hb=>hf b (by simp[hb]))
theorem Qi.lt{W:Bool}{h:QT}{ds vs F}(r:Qi W h ds vs F):∀b∈F,b<h.size:=by
 induction r with
 | nil=>simp
 | v _ _ ih=>exact ih
 | none _ _ ih=>exact ih
 | sl _ hb _ _ _ _ _ _ ih1 ih2=>
  intro b hm;simp only[List.mem_cons,List.mem_append]at hm
  rcases hm with rfl|hm|hm
  ·exact(Array.getElem?_eq_some_iff.1 hb).1
  ·exact ih1 b hm
  ·exact ih2 b hm
theorem Qi.append{W:Bool}{h:QT}{ds vs F ds' vs' F'}(r:Qi W h ds vs F)(r':Qi W h ds' vs' F'):Qi W h (ds++ds') (vs++vs') (F++F'):=by
 induction r with
 | nil=>exact r'
 | v hx _ ih=>exact .v hx ih
 | none _ _ ih=>exact .none ‹_› ih
 | sl q hb h1 h2 h3 h4 hi _ _ ih2=>
  simp only[List.cons_append,List.append_assoc]
  exact .sl q hb h1 h2 h3 h4 hi ih2
theorem Qi.split{W:Bool}{h:QT}:∀(ds ds':List D) {vs F},Qi W h (ds++ds') vs F→∃vs1 vs2 F1 F2,vs=vs1++vs2∧F=F1++F2∧Qi W h ds vs1 F1∧Qi W h ds' vs2 F2
 | [],ds',vs,F,r=>⟨[],vs,[],F,rfl,rfl,.nil,r⟩
 | d::ds,ds',vs,F,r=>by
  cases r with
  | v hx r=>
   obtain⟨vs1,vs2,F1,F2,rfl,rfl,r1,r2⟩:=Qi.split ds ds' r;exact⟨_::vs1,vs2,F1,F2,rfl,rfl,.v hx r1,r2⟩
  | none q r=>
   obtain⟨vs1,vs2,F1,F2,rfl,rfl,r1,r2⟩:=Qi.split ds ds' r;exact⟨_::vs1,vs2,F1,F2,rfl,rfl,.none q r1,r2⟩
  | sl q hb h1 h2 h3 h4 hi r=>
   obtain⟨vs1,vs2,F1,F2,rfl,rfl,r1,r2⟩:=Qi.split ds ds' r;exact⟨_::vs1,vs2,_,F2,rfl,by simp,.sl q hb h1 h2 h3 h4 hi r1,r2⟩
theorem Qi.cons_inv{W:Bool}{h:QT}{d:D}{ds v vs F}(r:Qi W h (d::ds) (v::vs) F):∃F1 F2,F=F1++F2∧Qi W h [d] [v] F1∧Qi W h ds vs F2:=by
 obtain⟨vs1,vs2,F1,F2,hv,hF,r1,r2⟩:=Qi.split [d] ds (by simpa using r)
 have h1:=r1.length
 match vs1,h1 with
 | [x],_=>
  simp only[List.cons_append,List.nil_append,List.cons.injEq]at hv
  obtain⟨rfl,rfl⟩:=hv;exact⟨F1,F2,hF,r1,r2⟩
theorem Qi.cons{W:Bool}{h:QT}{d:D}{ds v vs F1 F2}(r1:Qi W h [d] [v] F1)(r2:Qi W h ds vs F2):Qi W h (d::ds) (v::vs) (F1++F2):=by
 simpa using Qi.append r1 r2
theorem Qfs{α:Type}:∀(l:List (List α)) (s i:Nat) (_:∀x∈l,x.length=s) (hi:i<l.length),
  l.flatten=(l.take i).flatten++(l[i]++(l.drop (i+1)).flatten)∧(l.take i).flatten.length=i*s:=by
 intro l;induction l with
 | nil=>intro s i _ hi;simp at hi
 | cons x l ih=>
  intro s i hs hi;cases i with
  | zero=>simp
  | succ i=>
   have hx:x.length=s:=hs x (by simp)
   obtain⟨h1,h2⟩:=ih s i (fun y hy=>hs y (by simp[hy])) (by simpa using hi)
   refine⟨?_,?_⟩
   ·simp only[List.flatten_cons,List.take_succ_cons,List.getElem_cons_succ,List.drop_succ_cons,List.append_assoc]
    rw[h1]
   ·simp only[List.take_succ_cons,List.flatten_cons,List.length_append,h2,hx]
    rw[Nat.add_mul];omega
theorem QaA{α:Type}:∀(l:List (List α)) (s:Nat) (_:∀x∈l,x.length=s),l.flatten.length=l.length*s:=by
 intro l s hs;induction l with
 | nil=>simp
 | cons x l ih=>
  have hx:x.length=s:=hs x (by simp)
  simp only[List.flatten_cons,List.length_append,hx,ih (fun y hy=>hs y (by simp[hy])),List.length_cons]
  rw[Nat.add_mul];omega
theorem Qi.elem{W:Bool}{h:QT}{s:Nat}{l:List (List D)}{off:Nat}{c:Array Value}{G:List Nat}(hs:∀x∈l,x.length=s)(hsz:off+l.length*s≤c.size)
  (r:Qi W h l.flatten ((c.toList.drop off).take (l.length*s)) G) {i:Nat} (hi:i<l.length):
  off+i*s+s≤c.size∧∃G',(∀b∈G',b∈G)∧Qi W h l[i] ((c.toList.drop (off+i*s)).take s) G':=by
 obtain⟨h1,h2⟩:=Qfs l s i hs hi;have hli:l[i].length=s:=hs _ (List.getElem_mem hi)
 have hle:(i+1)*s≤l.length*s:=Nat.mul_le_mul_right _ hi
 rw[Nat.add_mul]at hle;rw[h1]at r;obtain⟨v1,v2,F1,F2,hv,hF,r1,r2⟩:=Qi.split _ _ r;obtain⟨v3,v4,F3,F4,hv',hF',r3,r4⟩:=Qi.split _ _ r2;refine⟨by omega,F3,fun b hb=>by simp[hF,hF',hb],?_⟩
 have e1:v1.length=i*s:=by rw[←r1.length,h2]
 have e3:v3.length=s:=by rw[←r3.length,hli]
 have hv3:v3=(c.toList.drop (off+i*s)).take s:=by
  have:((c.toList.drop off).take (l.length*s)).drop (i*s)=v3++v4:=by
   rw[hv,hv',←e1,List.drop_left]
  have h5:(((c.toList.drop off).take (l.length*s)).drop (i*s)).take s=v3:=by
   rw[this,←e3,List.take_left]
  rw[←h5,List.drop_take,List.take_take,List.drop_drop];congr 1
  omega
 rw[←hv3];exact r3
theorem Qi.one{W:Bool}{h:QT}{d:D}{v:Value}{F}(r:Qi W h [d] [v] F):v.oneCell'=true:=by
 cases r with
 | v hx _=>exact hx
 | none _ _=>rfl
 | sl=>rfl
theorem Qi.ones{W:Bool}{h:QT}{ds vs F}(r:Qi W h ds vs F):∀v∈vs,v.oneCell'=true:=by
 induction r with
 | nil=>simp
 | v hx _ ih=>intro v hv;rcases List.mem_cons.1 hv with rfl|hv;exact hx;exact ih v hv
 | none _ _ ih=>intro v hv;rcases List.mem_cons.1 hv with rfl|hv;rfl;exact ih v hv
 | sl _ _ _ _ _ _ _ _ _ ih=>intro v hv;rcases List.mem_cons.1 hv with rfl|hv;rfl;exact ih v hv
theorem Qi.of_all{W:Bool}{h:QT}:∀{ds:List D} {vs:List Value} {F},Qi W h ds vs F→∀{P:Nat→Prop},(∀b∈F,P b)→∀(i:Nat) (d:D) (v:Value),ds[i]? =some d→vs[i]? =some v→∃F',Qi W h [d] [v] F'∧∀b∈F',P b:=by
 intro ds;induction ds with
 | nil=>intro vs F r P hP i d v h1 _;simp at h1
 | cons d0 ds ih=>
  intro vs F r P hP i d v h1 h2;match vs,r with
  | [],r=>have:=r.length;simp at this
  | v0::vs,r=>
   obtain⟨F1,F2,rfl,r1,r2⟩:=r.cons_inv;cases i with
   | zero=>
    simp only[List.getElem?_cons_zero,Option.some.injEq]at h1 h2
    subst h1;subst h2;exact⟨F1,r1,fun b hb=>hP b (by simp[hb])⟩
   | succ i=>exact ih r2 (fun b hb=>hP b (by simp[hb])) i d v (by simpa using h1) (by simpa using h2)
inductive Qdd(h:QT):List (List D)→List Value→List Nat→Prop
  | nil:Qdd h [] [] []
  | cons {ds b c e fz F l vs G}:h[b]? =some (.cells c e fz)→QaS h ds c.toList F→Qdd h l vs G→Qdd h (ds::l) (.pointer (some ⟨b,0,none⟩)::vs) (b::(F++G))
theorem Qdd.frame{h h':QT}{l vs F}(r:Qdd h l vs F)(hf:∀b∈F,h'[b]? =h[b]?):Qdd h' l vs F:=by
 induction r with
 | nil=>exact .nil
 | cons h1 h2 _ ih=>exact .cons (by rw[hf _ (by simp)];exact h1) (h2.frame fun b hb=>hf b (by simp[hb])) (ih fun b hb=>hf b (by simp[hb]))
theorem Qdd.lt{h:QT}{l vs F}(r:Qdd h l vs F):∀b∈F,b<h.size:=by
 induction r with
 | nil=>simp
 | cons h1 h2 _ ih=>
  intro x hx;rcases List.mem_cons.1 hx with rfl|hx
  ·exact(Array.getElem?_eq_some_iff.1 h1).1
  ·exact(List.mem_append.1 hx).elim (h2.lt x) (ih x)
end Go.Own
/-
  Own calculus, part B: abstract states, what they say of a frame and a world ('ConcO'), and the law by which they are carried over a step. Conditions: none (definitions and lemmas).
-/
namespace Go.Own
open Go
abbrev Id:=Nat×Nat
inductive QA where
  | any
  | d (x:D)
  | n (x:D)
  | fr (id:Id) (s:Nat) (l:List (List D)) (deep:Nat)
  | osl (id:Id)
  | bptr (id:Id) (off:Nat)
  | optr (id:Id) (i:Nat) (off:Nat)
  | isl (id:Id) (i:Nat) (off:Nat)
  | nptr (id:Id) (i:Nat) (off:Nat) (s:Nat) (j:Nat)
  | iptr (ds:List D)
  | fn (f:FuncId) (caps:List Id)
  | fni (f:FuncId) (l:List (List D))
  | sub (id:Id) (lo hi:Nat)
  | fb (id:Id) (ds:List D)
  | ltf (id id2:Id) (s2:Nat) (l2:List (List D)) (dp2:Nat)
  deriving Inhabited
inductive AV where
  | any
  | unk
  | one (c:QA)
  | agg (cs:List QA)
  | tup (vs:List (Bool×List QA))
  | lit (id:Id) (s:Nat) (els:List (List QA))
  | cnd (g:Bool) (av:AV)
  deriving Inhabited
inductive Ob where
  | none
  | dead
  | box (cs:List QA)
  | arr (s:Nat) (l:List (List D)) (deep:Nat)
  | inn (id:Id) (i off:Nat)
  deriving Inhabited
structure St where
  bs:Nat→Prop
  sl:Nat→AV
  ob:Id→Ob
inductive Qaf{α β:Type}(R:α→β→Prop):List α→List β→Prop
  | nil:Qaf R [] []
  | cons {a b l m}:R a b→Qaf R l m→Qaf R (a::l) (b::m)
theorem QcU{α β:Type}{R S:α→β→Prop}(H:∀a b,R a b→S a b){l:List α}{m:List β}(a:Qaf R l m):Qaf S l m:=by
 induction a with
 | nil=>exact .nil
 | cons h _ ih=>exact .cons (H _ _ h) ih
class Hid where
  hid:Nat→Prop
variable {hd:Hid}
def Imm [Hid] (own:Id→List Nat)(h:QT)(b:Nat):Prop:=b<h.size∧(∀id,b∉own id)∧¬Hid.hid b
def Qh2 [Hid] (own:Id→List Nat)(h:QT)(id:Id)(s:Nat)(l:List (List D))(deep:Nat)(b cap:Nat):Prop:=
 ∃c e G,own id=b::(if deep=0 then []else G)∧h[b]? =some (.cells c e (0,0))∧l.length≤cap∧cap≤maxLen∧c.size=cap*s∧(∀x∈l,x.length=s)∧
  Qi (deep !=0) h l.flatten (c.toList.take (l.length*s)) G∧(deep=0→∀x∈G,Imm own h x)
def QaC [Hid] (own:Id→List Nat)(h:QT)(id:Id)(s:Nat)(l:List (List D))(deep:Nat)(v:Value):Prop:=
 (v= .slice none 0 0∧l=[]∧own id=[])∨∃b cap,v= .slice (some ⟨b,0,none⟩) l.length cap∧Qh2 own h id s l deep b cap
def QfT(own:Id→List Nat)(ob:Id→Ob)(id:Id)(off:Nat)(v:Value):Prop:=
 ∃b,v= .pointer (some ⟨b,off,none⟩)∧match ob id with
 | .box _=>own id=[b]
 | .dead=>True
 | _=>False
def Qd4 [Hid] (own:Id→List Nat)(h:QT)(s:St)(id:Id)(i off:Nat)(v:Value):Prop:=v.oneCell'=true∧s.sl id.1≠ .any∧match s.ob id with
  | .arr sz l deep=>deep=2→∃b cap c e,Qh2 own h id sz l deep b cap∧h[b]? =some (.cells c e (0,0))∧off<sz∧i<l.length∧c[i*sz+off]? =some v
  | .dead=>True
  | .inn .. =>True
  | _=>False
def QE [Hid] (own:Id→List Nat)(h:QT)(s:St):QA→Value→Prop
 | .any,v=>v.oneCell'=true
 | .d x,v=>∃F,QaS h [x] [v] F∧∀b∈F,Imm own h b
 | .n x,v=>∃F,QaS h [x] [v] F∧∀b∈F,Imm own h b∧s.bs b
 | .fr id sz l deep,v=>v.oneCell'=true∧s.sl id.1≠ .any∧(s.ob id= .none→QaC own h id sz l deep v)
 | .osl id,v=>v.oneCell'=true∧s.sl id.1≠ .any∧match s.ob id with
  | .arr sz l deep=>QaC own h id sz l deep v
  | .dead=>True
  | .inn id' i off=>Qd4 own h s id' i off v
  | _=>False
 | .bptr id off,v=>s.sl id.1≠ .any∧QfT own s.ob id off v
 | .optr id i off,v=>s.sl id.1≠ .any∧∃b o,v= .pointer (some ⟨b,o,none⟩)∧∃si,o=si+off∧match s.ob id with
  | .arr sz l deep=>si=i*sz∧∃cap,Qh2 own h id sz l deep b cap
  | .dead=>True
  | .inn .. =>True
  | _=>False
 | .isl id i off,v=>Qd4 own h s id i off v
 | .nptr id i off sz' j,v=>∃b0 len cap0,v= .pointer (some ⟨b0,j*sz',none⟩)∧j<len∧Qd4 own h s id i off (.slice (some ⟨b0,0,none⟩) len cap0)
 | .iptr ds,v=>∃b off c e fz F,v= .pointer (some ⟨b,off,none⟩)∧h[b]? =some (.cells c e fz)∧off+ds.length≤c.size∧QaS h ds ((c.toList.drop off).take ds.length) F∧Imm own h b∧∀x∈F,Imm own h x
 | .fni f l,v=>∃(vs:List Value) (F:List Nat),v= .func (.func f) #[] vs.toArray∧Qdd h l vs F∧∀b∈F,Imm own h b
 | .fb id ds,v=>v.oneCell'=true∧s.sl id.1≠ .any∧(s.ob id= .none→∃b c e F,v= .pointer (some ⟨b,0,none⟩)∧own id=[b]∧h[b]? =some (.cells c e (0,0))∧QaS h ds c.toList F∧∀x∈F,Imm own h x)
 | .ltf id id2 s2 l2 dp2,v=>v.oneCell'=true∧s.sl id.1≠ .any∧(s.ob id= .none→∃b c e v0,v= .slice (some ⟨b,0,none⟩) 1 1∧own id=[b]∧h[b]? =some (.cells c e (0,0))∧c.toList=[v0]∧v0.oneCell'=true∧s.sl id2.1≠ .any∧(s.ob id2= .none→QaC own h id2 s2 l2 dp2 v0))
 | .sub id lo hi,v=>s.sl id.1≠ .any∧∃a n k,v= .slice (some a) n k∧match s.ob id with
  | .arr sz l deep=>∃b cap,a=⟨b,(if cap=lo then 0 else lo*sz),none⟩∧n=hi-lo∧k=cap-lo∧lo≤hi∧hi≤l.length∧Qh2 own h id sz l deep b cap
  | .dead=>True
  | .inn .. =>True
  | _=>False
 | .fn f caps,v=>∃vs:List Value,v= .func (.func f) #[] vs.toArray∧Qaf (fun id u=>s.sl id.1≠ .any∧QfT own s.ob id 0 u) caps vs
def Qg [Hid] (own:Id→List Nat)(h:QT)(s:St)(cs:List QA)(vs:List Value):Prop:=Qaf (QE own h s) cs vs
def Qcx [Hid] (own:Id→List Nat)(h:QT)(s:St)(p:Bool×List QA)(v:Value):Prop:=
 if p.1 then ∃vs,v= .agg vs∧Qg own h s p.2 vs.toList else ∃c,p.2=[c]∧QE own h s c v
def QBa [Hid] (own:Id→List Nat)(h:QT)(s:St)(id:Id)(sz:Nat)(els:List (List QA))(v:Value):Prop:=
 ∃b c e,v= .slice (some ⟨b,0,none⟩) els.length els.length∧own id=[b]∧h[b]? =some (.cells c e (0,0))∧c.size=els.length*sz∧els.length≤maxLen∧(∀x∈els,x.length=sz)∧
  Qg own h s els.flatten c.toList
def QD [Hid] (own:Id→List Nat)(h:QT)(s:St):AV→Value→Prop
 | .any,_=>True
 | .unk,_=>True
 | .one c,v=>QE own h s c v
 | .agg cs,v=>∃vs,v= .agg vs∧Qg own h s cs vs.toList
 | .tup ps,v=>∃vs:Array Value,v= .tuple vs∧Qaf (Qcx own h s) ps vs.toList
 | .lit id sz els,v=>v.oneCell'=true∧s.sl id.1≠ .any∧(s.ob id= .none→QBa own h s id sz els v)
 | .cnd g av,v=>(g=true→QD own h s av v)∧(g=false→v=undef)
def QcM [Hid] (own:Id→List Nat)(h:QT)(s:St)(id:Id):Ob→Prop
 | .box cs=>∃b c e,own id=[b]∧h[b]? =some (.cells c e (0,0))∧Qg own h s cs c.toList
 | _=>True
inductive Qez [Hid] (own own':Id→List Nat)(h h':QT)(id:Id):Ob→Ob→Prop
  | dead (o:Ob):Qez own own' h h' id o .dead
  | same (o:Ob):own' id=own id→(∀b∈own id,h'[b]? =h[b]?)→Qez own own' h h' id o o
  | mat (s:Nat) (l:List (List D)) (deep:Nat):Qez own own' h h' id .none (.arr s l deep)
  | matb (cs:List QA):Qez own own' h h' id .none (.box cs)
  | boxed (cs cs':List QA):own' id=own id→Qez own own' h h' id (.box cs) (.box cs')
  | upd (s:Nat) (l l':List (List D)) (deep deep':Nat):(own id=[]→own' id=[])→l'.length=l.length→(∀b cap,Qh2 own h id s l deep b cap→Qh2 own' h' id s l' deep' b cap)→
      (deep'=2→deep=2∧∀b∈(own id).head?,h'[b]? =h[b]?)→Qez own own' h h' id (.arr s l deep) (.arr s l' deep')
  | inn (s:Nat) (l:List (List D)) (deep:Nat) (j:Id) (i off:Nat):Qez own own' h h' id (.arr s l deep) (.inn j i off)
section
variable {own own':Id→List Nat} {h h':QT} {s s':St}
structure Qag [Hid] (own own':Id→List Nat)(h h':QT)(s s':St):Prop where
  bs:s'.bs=s.bs
  imm:∀b,(b<h.size∧∀id,b∉own id)→(b<h'.size∧∀id,b∉own' id)∧h'[b]? =h[b]?
  row:∀r,s.sl r≠ .any→s'.sl r≠ .any
  tr:∀id:Id,s.sl id.1≠ .any→Qez own own' h h' id (s.ob id) (s'.ob id)
  inn:∀(id:Id) (sz:Nat) (l:List (List D)) (deep:Nat) (j:Id) (i off:Nat),s.sl id.1≠ .any→s.ob id= .arr sz l deep→s'.ob id= .inn j i off→∀v,v.oneCell'=true→QaC own h id sz l deep v→Qd4 own' h' s' j i off v
theorem Qdy{s s':St}{id:Id}{sz:Nat}{l:List (List D)}{deep:Nat}{j:Id}{i off:Nat}{P:Prop}(h1:s.ob id= .arr sz l deep)(h2:s'.ob id= .inn j i off)(h:s'.ob id=s.ob id∨∀j i off,s'.ob id≠ .inn j i off):P:=by
 rcases h with h|h
 ·rw[h,h1]at h2;cases h2
 ·exact absurd h2 (h j i off)
theorem Qag.immI(k:Qag own own' h h' s s')(b:Nat)(hi:Imm own h b):Imm own' h' b∧h'[b]? =h[b]? :=
 have q:=k.imm b ⟨hi.1,hi.2.1⟩
 ⟨⟨q.1.1,q.1.2,hi.2.2⟩,q.2⟩
theorem Qag.reps(k:Qag own own' h h' s s'){W ds vs F}(r:Qi W h ds vs F)(hi:∀b∈F,Imm own h b):Qi W h' ds vs F∧∀b∈F,Imm own' h' b:=
 ⟨r.frame fun b hb=>(k.immI b (hi b hb)).2,fun b hb=>(k.immI b (hi b hb)).1⟩
theorem Qh2.same{id:Id}{sz:Nat}{l:List (List D)}{deep b cap:Nat}(k:Qag own own' h h' s s')(ho:own' id=own id)(hb:∀x∈own id,h'[x]? =h[x]?)
  (a:Qh2 own h id sz l deep b cap):Qh2 own' h' id sz l deep b cap:=by
 obtain⟨c,e,G,h1,h2,h3,h4,h5,h6,h7,h8⟩:=a
 by_cases hd:deep=0
 ·obtain⟨r1,r2⟩:=k.reps h7 (h8 hd)
  exact⟨c,e,G,ho.trans h1,(hb b (by simp[h1])).trans h2,h3,h4,h5,h6,r1,fun _=>r2⟩
 ·refine⟨c,e,G,ho.trans h1,(hb b (by simp[h1])).trans h2,h3,h4,h5,h6,h7.frame fun x hx=>hb x (by simp[h1,hd,hx]),fun h0=>absurd h0 hd⟩
theorem QaC.same{id:Id}{sz:Nat}{l:List (List D)}{deep:Nat}{v:Value}(k:Qag own own' h h' s s')(ho:own' id=own id)(hb:∀x∈own id,h'[x]? =h[x]?)
  (a:QaC own h id sz l deep v):QaC own' h' id sz l deep v:=by
 rcases a with⟨h1,h2,h3⟩|⟨b,cap,h1,h2⟩
 ·exact .inl ⟨h1,h2,ho.trans h3⟩
 ·exact .inr ⟨b,cap,h1,h2.same k ho hb⟩
theorem QfT.keep{id:Id}{off:Nat}{v:Value}(t:Qez own own' h h' id (s.ob id) (s'.ob id))(a:QfT own s.ob id off v):QfT own' s'.ob id off v:=by
 unfold QfT at *;obtain⟨b,h1,a⟩:=a;refine⟨b,h1,?_⟩
 generalize s.ob id=o at *;generalize s'.ob id=o' at *;cases t with
 | dead=>trivial
 | same o ho hb=>cases o<;>simp_all
 | mat=>exact a.elim
 | matb=>exact a.elim
 | boxed cs cs' ho=>simp_all
 | upd=>exact a.elim
 | inn=>exact a.elim
theorem Qd4.keep(k:Qag own own' h h' s s'){id:Id}{i off:Nat}{v:Value}(a:Qd4 own h s id i off v):Qd4 own' h' s' id i off v:=by
 obtain⟨h1c,ha,hb⟩:=a;have t:=k.tr id ha
 refine⟨h1c,k.row _ ha,?_⟩
 generalize s.ob id=o at t hb;generalize s'.ob id=o' at t;cases t with
 | dead=>trivial
 | same o ho hbb=>
  cases o with
  | arr sz l deep=>
   intro hd;obtain⟨b,cap,c,e,h1,h2,h3,h4,h5⟩:=hb hd;have hbo:b∈own id:=by obtain⟨c',e',G,q,_⟩:=h1;simp[q]
   exact⟨b,cap,c,e,h1.same k ho hbb,(hbb b hbo).trans h2,h3,h4,h5⟩
  | dead=>trivial
  | inn=>trivial
  | _=>exact hb.elim
 | mat=>exact hb.elim
 | matb=>exact hb.elim
 | boxed=>exact hb.elim
 | inn=>trivial
 | upd sz l l' deep deep' ho hl hup hin=>
  intro hd;obtain⟨hd0,hh⟩:=hin hd;obtain⟨b,cap,c,e,h1,h2,h3,h4,h5⟩:=hb hd0;have hbo:b∈(own id).head? :=by obtain⟨c',e',G,q,_⟩:=h1;simp[q]
  exact⟨b,cap,c,e,hup b cap h1,(hh b hbo).trans h2,h3,by omega,h5⟩
theorem QE.keep(k:Qag own own' h h' s s'){c:QA}{v:Value}(a:QE own h s c v):QE own' h' s' c v:=by
 cases c with
 | any=>exact a
 | n x=>obtain⟨F,r,hi⟩:=a;obtain⟨r1,r2⟩:=k.reps r (fun b hb=>(hi b hb).1);exact⟨F,r1,fun b hb=>⟨r2 b hb,by rw[k.bs];exact(hi b hb).2⟩⟩
 | d x=>obtain⟨F,r,hi⟩:=a;obtain⟨r1,r2⟩:=k.reps r hi;exact⟨F,r1,r2⟩
 | fr id sz l deep=>
  obtain⟨h1c,ha,hb⟩:=a;have t:=k.tr id ha
  refine⟨h1c,k.row _ ha,fun hn=>?_⟩
  rw[hn]at t;generalize s.ob id=o at t hb;cases t with
  | same _ ho hbb=>exact(hb rfl).same k ho hbb
 | osl id=>
  obtain⟨h1c,ha,hb⟩:=a;have t:=k.tr id ha
  refine⟨h1c,k.row _ ha,?_⟩
  generalize ho1:s.ob id=o at t hb;generalize ho2:s'.ob id=o' at t;cases t with
  | dead=>trivial
  | same o ho hbb=>
   cases o with
   | arr sz l deep=>exact QaC.same k ho hbb hb
   | dead=>trivial
   | inn j i off=>exact Qd4.keep k hb
   | _=>exact hb.elim
  | mat=>exact hb.elim
  | matb=>exact hb.elim
  | boxed=>exact hb.elim
  | inn sz l deep j i off=>exact k.inn id sz l deep j i off ha ho1 ho2 v h1c hb
  | upd sz l l' deep deep' ho hl hup _=>
   rcases hb with⟨h1,h2,h3⟩|⟨b,cap,h1,h2⟩
   ·subst h2
    exact .inl ⟨h1,List.eq_nil_of_length_eq_zero (by simpa using hl),ho h3⟩
   ·exact .inr ⟨b,cap,by rw[hl];exact h1,hup b cap h2⟩
 | bptr id off=>exact⟨k.row _ a.1,a.2.keep (k.tr id a.1)⟩
 | optr id i off=>
  obtain⟨ha,b,o,h1,si,h2,hb⟩:=a;have t:=k.tr id ha
  refine⟨k.row _ ha,b,o,h1,si,h2,?_⟩
  generalize s.ob id=o at t hb;generalize s'.ob id=o' at t;cases t with
  | dead=>trivial
  | same o ho hbb=>
   cases o with
   | arr sz l deep=>obtain⟨h3,cap,h4⟩:=hb;exact⟨h3,cap,h4.same k ho hbb⟩
   | dead=>trivial
   | inn=>trivial
   | _=>exact hb.elim
  | mat=>exact hb.elim
  | matb=>exact hb.elim
  | boxed=>exact hb.elim
  | inn=>trivial
  | upd sz l l' deep deep' ho hl hup _=>obtain⟨h3,cap,h4⟩:=hb;exact⟨h3,cap,hup b cap h4⟩
 | isl id i off=>exact Qd4.keep k a
 | nptr id i off sz' j=>
  obtain⟨b0,len,cap0,h1,h2,h3⟩:=a;exact⟨b0,len,cap0,h1,h2,h3.keep k⟩
 | iptr ds=>
  obtain⟨b,off,c,e,fz,F,h1,h2,h3,h4,h5,h6⟩:=a;obtain⟨r1,r2⟩:=k.reps h4 h6;exact⟨b,off,c,e,fz,F,h1,(k.immI b h5).2.trans h2,h3,r1,(k.immI b h5).1,r2⟩
 | fni f l=>
  obtain⟨vs,F,h1,h2,h3⟩:=a;exact⟨vs,F,h1,h2.frame fun b hb=>(k.immI b (h3 b hb)).2,fun b hb=>(k.immI b (h3 b hb)).1⟩
 | fb id ds=>
  obtain⟨h1c,ha,hb⟩:=a;have t:=k.tr id ha
  refine⟨h1c,k.row _ ha,fun hn=>?_⟩
  rw[hn]at t;generalize s.ob id=o at t hb;cases t with
  | same _ ho hbb=>
   obtain⟨b,c,e,F,g1,g2,g3,g4,g5⟩:=hb rfl;obtain⟨r1,r2⟩:=k.reps g4 g5;exact⟨b,c,e,F,g1,ho.trans g2,(hbb b (by simp[g2])).trans g3,r1,r2⟩
 | ltf id id2 s2 l2 dp2=>
  obtain⟨h1c,ha,hb⟩:=a;have t:=k.tr id ha
  refine⟨h1c,k.row _ ha,fun hn=>?_⟩
  rw[hn]at t;generalize s.ob id=o at t hb;cases t with
  | same _ ho hbb=>
   obtain⟨b,c,e,v0,g1,g2,g3,g4,g5,ha2,g6⟩:=hb rfl;refine⟨b,c,e,v0,g1,ho.trans g2,(hbb b (by simp[g2])).trans g3,g4,g5,k.row _ ha2,fun hn2=>?_⟩
   have t2:=k.tr id2 ha2
   rw[hn2]at t2;generalize s.ob id2=o2 at t2 g6;cases t2 with
   | same _ ho2 hbb2=>exact(g6 rfl).same k ho2 hbb2
 | sub id lo hi=>
  obtain⟨ha,ad,n,q,h1,hb⟩:=a;have t:=k.tr id ha
  refine⟨k.row _ ha,ad,n,q,h1,?_⟩
  generalize s.ob id=o at t hb;generalize s'.ob id=o' at t;cases t with
  | dead=>trivial
  | same o ho hbb=>
   cases o with
   | arr sz l deep=>obtain⟨b,cap,h2,h3,h4,h5,h6,h7⟩:=hb;exact⟨b,cap,h2,h3,h4,h5,h6,h7.same k ho hbb⟩
   | dead=>trivial
   | inn=>trivial
   | _=>exact hb.elim
  | mat=>exact hb.elim
  | matb=>exact hb.elim
  | boxed=>exact hb.elim
  | inn=>trivial
  | upd sz l l' deep deep' ho hl hup _=>obtain⟨b,cap,h2,h3,h4,h5,h6,h7⟩:=hb;exact⟨b,cap,h2,h3,h4,h5,by omega,hup b cap h7⟩
 | fn f caps=>
  obtain⟨vs,h1,h2⟩:=a;exact⟨vs,h1,QcU (fun _ _ ha=>⟨k.row _ ha.1,ha.2.keep (k.tr _ ha.1)⟩) h2⟩
theorem Qg.keep(k:Qag own own' h h' s s'){cs:List QA}{vs:List Value}(a:Qg own h s cs vs):Qg own' h' s' cs vs:=
 QcU (fun _ _ ha=>QE.keep k ha) a
theorem Qcx.keep(k:Qag own own' h h' s s'){p:Bool×List QA}{v:Value}(a:Qcx own h s p v):Qcx own' h' s' p v:=by
 unfold Qcx at *;split
 ·rename_i hp;simp only[hp,if_true]at a;obtain⟨vs,h1,h2⟩:=a;exact⟨vs,h1,h2.keep k⟩
 ·rename_i hp;simp only[hp]at a;obtain⟨c,h1,h2⟩:=a;exact⟨c,h1,h2.keep k⟩
theorem QD.keep(k:Qag own own' h h' s s'):∀{av:AV} {v:Value},QD own h s av v→QD own' h' s' av v
 | .any,_,_=>trivial
 | .unk,_,_=>trivial
 | .one _,_,a=>QE.keep k a
 | .agg _,_,a=>by obtain⟨vs,h1,h2⟩:=a;exact⟨vs,h1,h2.keep k⟩
 | .tup _,_,a=>by obtain⟨vs,h1,h2⟩:=a;exact⟨vs,h1,QcU (fun _ _ ha=>Qcx.keep k ha) h2⟩
 | .lit id sz els,v,a=>by
  obtain⟨h1c,ha,hb⟩:=a;have t:=k.tr id ha
  refine⟨h1c,k.row _ ha,fun hn=>?_⟩
  rw[hn]at t;generalize s.ob id=o at t hb;cases t with
  | same _ ho hbb=>
   obtain⟨b,c,e,h1,h2,h3,h4,h5,h6,h7⟩:=hb rfl;exact⟨b,c,e,h1,ho.trans h2,(hbb b (by simp[h2])).trans h3,h4,h5,h6,h7.keep k⟩
 | .cnd _ _,_,a=>⟨fun hg=>QD.keep k (a.1 hg),a.2⟩
end
theorem QE.one{own:Id→List Nat}{h:QT}{s:St}{c:QA}{v:Value}(a:QE own h s c v):v.oneCell'=true:=by
 cases c with
 | any=>exact a
 | d x=>obtain⟨F,r,_⟩:=a;exact r.one
 | n x=>obtain⟨F,r,_⟩:=a;exact r.one
 | fr=>exact a.1
 | osl=>exact a.1
 | bptr=>obtain⟨_,b,rfl,_⟩:=a;rfl
 | optr=>obtain⟨_,b,o,rfl,_⟩:=a;rfl
 | isl=>exact a.1
 | nptr=>obtain⟨_,_,_,rfl,_⟩:=a;rfl
 | iptr=>obtain⟨b,off,c,e,fz,F,rfl,_⟩:=a;rfl
 | fn=>obtain⟨vs,rfl,_⟩:=a;rfl
 | fni=>obtain⟨vs,F,rfl,_⟩:=a;rfl
 | sub=>obtain⟨_,_,_,_,rfl,_⟩:=a;rfl
 | fb=>exact a.1
 | ltf=>exact a.1
theorem Qaf.length{α β:Type}{R:α→β→Prop}{l:List α}{m:List β}(a:Qaf R l m):l.length=m.length:=by
 induction a with
 | nil=>rfl
 | cons _ _ ih=>simp[ih]
theorem Qaf.get{α β:Type}{R:α→β→Prop}{l:List α}{m:List β}(a:Qaf R l m):∀(i:Nat) (x:α),l[i]? =some x→∃y,m[i]? =some y∧R x y:=by
 induction a with
 | nil=>intro i x h;simp at h
 | cons h _ ih=>
  intro i x hx;cases i with
  | zero=>simp only[List.getElem?_cons_zero,Option.some.injEq]at hx;subst hx;exact⟨_,rfl,h⟩
  | succ i=>simpa using ih i x (by simpa using hx)
theorem Qaf.drop{α β:Type}{R:α→β→Prop}{l:List α}{m:List β}(a:Qaf R l m):∀n,Qaf R (l.drop n) (m.drop n):=by
 induction a with
 | nil=>intro n;simp;exact .nil
 | cons h ha ih=>
  intro n;cases n with
  | zero=>exact .cons h ha
  | succ n=>simpa using ih n
theorem Qaf.take{α β:Type}{R:α→β→Prop}{l:List α}{m:List β}(a:Qaf R l m):∀n,Qaf R (l.take n) (m.take n):=by
 induction a with
 | nil=>intro n;simp;exact .nil
 | cons h ha ih=>
  intro n;cases n with
  | zero=>simp;exact .nil
  | succ n=>simpa using .cons h (ih n)
theorem Qaf.append{α β:Type}{R:α→β→Prop}{l l':List α}{m m':List β}(a:Qaf R l m)(b:Qaf R l' m'):Qaf R (l++l') (m++m'):=by
 induction a with
 | nil=>exact b
 | cons h _ ih=>exact .cons h ih
theorem Qaf.set{α β:Type}{R:α→β→Prop}{l:List α}{m:List β}(a:Qaf R l m){x:α}{y:β}(hxy:R x y):∀n,Qaf R (l.set n x) (m.set n y):=by
 induction a with
 | nil=>intro n;simp;exact .nil
 | cons h ha ih=>
  intro n;cases n with
  | zero=>exact .cons hxy ha
  | succ n=>exact .cons h (ih n)
end Go.Own
/-
  Own calculus, part C: the concretization 'ConcO' (a frame and a world against an abstract state) and its step laws. Conditions: none (definitions and lemmas).
-/
namespace Go.Own
open Go
variable {hd:Hid}
structure Env where
  P:Program
  N:Nat
  J:QT→Prop
  st:∀h h',J h→(∀b,b<N→h'[b]? =h[b]?)→J h'
structure Ctx [Hid] extends Env where
  n:Nat
  dok:Nat→Bool
  hdok:∀x,dok x=true→x<n
  tm:Nat→Value
  w0:World
  M:List Nat
  nw:Nat→Prop
  hnw:∀b,w0.heap.size≤b→nw b
  hh:∀b,Hid.hid b→b<w0.heap.size∧b∉M
structure Qp [Hid] (X:Ctx)(own:Id→List Nat)(s:St)(a:Act)(w:World):Prop where
  defers:a.defers=[]
  size:a.tmps.size=X.n
  fix:∀x,X.dok x=false→a.tmps.getD x undef=X.tm x
  bs:s.bs=X.nw
  os:w.os=X.w0.os
  tape:w.tape=X.w0.tape
  output:w.output=X.w0.output
  grow:X.w0.heap.size≤w.heap.size
  old:∀b,b<X.w0.heap.size→b∉X.M→w.heap[b]? =X.w0.heap[b]?
  hN:X.N≤X.w0.heap.size∧∀b∈X.M,X.N≤b
  hJ:X.J w.heap
  lt:∀id b,b∈own id→b<w.heap.size∧(X.w0.heap.size≤b∨b∈X.M)
  nodup:∀id,(own id).Nodup
  disj:∀id id' b,b∈own id→b∈own id'→id=id'
  obs:∀id,QcM own w.heap s id (s.ob id)
  sls:∀i,QD own w.heap s (s.sl i) (a.tmps.getD i undef)
def QhR [Hid] (X:Ctx)(s:St)(a:Act)(w:World):Prop:=∃own,Qp X own s a w
section
variable {X:Ctx} {own own':Id→List Nat} {s s':St} {a a':Act} {w w':World}
theorem Qp.nhN(c:Qp X own s a w){b:Nat}(hb:X.w0.heap.size≤b):¬Hid.hid b:=fun h=>by have:=(X.hh b h).1;omega
theorem Qp.nh(c:Qp X own s a w){id:Id}{b:Nat}(hb:b∈own id):¬Hid.hid b:=fun h=>by
 rcases(c.lt id b hb).2 with q|q
 ·exact c.nhN q h
 ·exact(X.hh b h).2 q
theorem Qp.bsle(c:Qp X own s a w)(b:Nat)(hb:X.w0.heap.size≤b):s.bs b:=by rw[c.bs];exact X.hnw b hb
theorem Qp.next(c:Qp X own s a w)(hd:a'.defers=[])(hn:a'.tmps.size=X.n)(ho:w'.os=w.os)(ht:w'.tape=w.tape)(hp:w'.output=w.output)
  (hg:w.heap.size≤w'.heap.size) (hb:∀b,b<w.heap.size→(∀id,b∉own id)→w'.heap[b]? =w.heap[b]?)
  (hlt:∀id b,b∈own' id→b<w'.heap.size∧(X.w0.heap.size≤b∨b∈X.M)) (hnd:∀id,(own' id).Nodup)
  (hdj:∀id id' b,b∈own' id→b∈own' id'→id=id') (hbs:s'.bs=s.bs)
  (hobs:∀id,QcM own' w'.heap s' id (s'.ob id)) (hsls:∀i,QD own' w'.heap s' (s'.sl i) (a'.tmps.getD i undef)) (hfix:∀x,X.dok x=false→a'.tmps.getD x undef=a.tmps.getD x undef):Qp X own' s' a' w' where
 defers:=hd
 size:=hn
 fix:=fun x hx=>(hfix x hx).trans (c.fix x hx)
 bs:=hbs.trans c.bs
 os:=ho.trans c.os
 tape:=ht.trans c.tape
 output:=hp.trans c.output
 grow:=Nat.le_trans c.grow hg
 old:=fun b h1 h2=>by
  rw[hb b (Nat.lt_of_lt_of_le h1 c.grow) fun id hm=>?_]
  ·exact c.old b h1 h2
  ·rcases(c.lt id b hm).2 with h|h
   ·omega
   ·exact h2 h
 hN:=c.hN
 hJ:=X.st _ _ c.hJ fun b h1=>hb b (by have:=c.hN.1;have:=c.grow;omega) fun id hm=>by
  rcases(c.lt id b hm).2 with h|h
  ·have:=c.hN.1;omega
  ·have:=c.hN.2 b h;omega
 lt:=hlt
 nodup:=hnd
 disj:=hdj
 obs:=hobs
 sls:=hsls
def upd(f:Nat→AV)(d:Nat)(v:AV):Nat→AV:=fun i=>if i=d then v else f i
theorem Qgz(f:Nat→AV)(d:Nat)(v:AV):upd f d v d=v:=by simp[upd]
theorem QsT(f:Nat→AV)(d i:Nat)(v:AV)(h:i≠d):upd f d v i=f i:=by simp[upd,h]
def QY(g:Id→Ob):List (Id×Ob)→Id→Ob
 | []=>g
 | (k,o)::r=>QY (fun id=>if id=k then o else g id) r
def AV.mk:AV→AV
 | .any=> .unk
 | v=>v
theorem AV.mk_ne(v:AV):v.mk≠ .any:=by cases v<;>simp[AV.mk]
theorem QD.mk{h:QT}{av:AV}{v:Value}(a:QD own h s av v):QD own h s av.mk v:=by cases av<;>first|exact a|trivial
def St.put(s:St)(d:Option Nat)(v:AV)(us:List (Id×Ob)):St:=
 match d with
 | some d=>⟨s.bs,upd s.sl d v.mk,QY s.ob us⟩
 | none=>⟨s.bs,s.sl,QY s.ob us⟩
theorem St.put_bs(s:St)(d:Option Nat)(v:AV)(us:List (Id×Ob)):(s.put d v us).bs=s.bs:=by cases d<;>rfl
theorem St.put_ob(s:St)(d:Option Nat)(v:AV)(us:List (Id×Ob)):(s.put d v us).ob=QY s.ob us:=by cases d<;>rfl
theorem St.put_row(s:St)(d:Option Nat)(v:AV)(us:List (Id×Ob))(r:Nat)(h:s.sl r≠ .any):(s.put d v us).sl r≠ .any:=by
 cases d with
 | none=>exact h
 | some d=>
  simp only[St.put,upd]
  split
  ·exact AV.mk_ne v
  ·exact h
theorem St.put_dst(s:St)(d:Nat)(v:AV)(us:List (Id×Ob)):(s.put (some d) v us).sl d≠ .any:=by
 simp only[St.put,Qgz];exact AV.mk_ne v
theorem Act.put_getD(a:Act)(d:Option Nat)(v:Value)(hd:∀x,d=some x→x<a.tmps.size)(i:Nat):
  (a.put d v).tmps.getD i undef=if d=some i then v else a.tmps.getD i undef:=by
 cases d with
 | none=>simp[Act.put]
 | some d=>
  have:=hd d rfl
  simp only[Act.put,Array.getD_eq_getD_getElem?,Array.getElem?_setIfInBounds,Option.some.injEq]
  split
  ·simp
  ·rfl
theorem Qp.put_slots{d:Option Nat}{v:Value}{av:AV}{us:List (Id×Ob)}(k:Qag own own' w.heap w'.heap s s')(hd:∀x,d=some x→x<a.tmps.size)
  (hs:s'=s.put d av us) (c:Qp X own s a w) (hv:QD own' w'.heap s' av v):∀i,QD own' w'.heap s' (s'.sl i) ((a.put d v).tmps.getD i undef):=by
 intro i;rw[Act.put_getD a d v hd i];cases d with
 | none=>simp only[hs,St.put];subst hs;exact(c.sls i).keep k
 | some d=>
  by_cases hi:i=d
  ·subst hi
   simp only[if_true]
   have:s'.sl i=av.mk:=by rw[hs];simp[St.put,Qgz]
   rw[this];exact hv.mk
  ·have:s'.sl i=s.sl i:=by rw[hs];simp[St.put,QsT _ _ _ _ hi]
   rw[this,if_neg (by simpa using Ne.symm hi)]
   exact(c.sls i).keep k
theorem Qag.refl_heap(hs:∀r,s.sl r≠ .any→s'.sl r≠ .any)(hb:s'.bs=s.bs)(ho:s'.ob=s.ob){h:QT}:Qag own own h h s s' where
 bs:=hb
 imm:=fun _ hi=>⟨hi,rfl⟩
 row:=hs
 tr:=fun id _=>by rw[ho];exact .same _ rfl fun _ _=>rfl
 inn:=fun id sz l deep j i off _ h1 h2=>by rw[ho,h1]at h2;cases h2
theorem QcM.keep{h h':QT}(k:Qag own own' h h' s s'){id:Id}(hs:s'.ob id=s.ob id)(ho:own' id=own id)(hb:∀b∈own id,h'[b]? =h[b]?)
  (a:QcM own h s id (s.ob id)):QcM own' h' s' id (s'.ob id):=by
 rw[hs];generalize s.ob id=o at a;cases o with
 | box cs=>obtain⟨b,c,e,h1,h2,h3⟩:=a;exact⟨b,c,e,ho.trans h1,(hb b (by simp[h1])).trans h2,h3.keep k⟩
 | _=>trivial
theorem Qp.turn{d:Option Nat}{av:AV}{v:Value}{us:List (Id×Ob)}(c:Qp X own s a w)(k:Qag own own' w.heap w'.heap s (s.put d av us))
  (ho:w'.os=w.os) (ht:w'.tape=w.tape) (hp:w'.output=w.output) (hg:w.heap.size≤w'.heap.size) (hd:∀x,d=some x→X.dok x=true)
  (hlt:∀id b,b∈own' id→b<w'.heap.size∧(X.w0.heap.size≤b∨b∈X.M)) (hnd:∀id,(own' id).Nodup)
  (hdj:∀id id' b,b∈own' id→b∈own' id'→id=id')
  (hobs:∀id,QcM own' w'.heap (s.put d av us) id ((s.put d av us).ob id)) (hv:QD own' w'.heap (s.put d av us) av v):
  Qp X own' (s.put d av us) (a.put d v) w':=
 c.next (by cases d<;>exact c.defers) (by cases d<;>simp[Act.put,c.size]) ho ht hp hg (fun b h1 h2=>(k.imm b ⟨h1,h2⟩).2) hlt hnd hdj (St.put_bs s d av us) hobs
  (Qp.put_slots k (fun x hx=>by rw[c.size];exact X.hdok x (hd x hx)) rfl c hv) fun x hx=>by
   rw[Act.put_getD a d v (fun y hy=>by rw[c.size];exact X.hdok y (hd y hy)) x,if_neg]
   intro h;rw[hd x h]at hx;cases hx
theorem Qp.pure{d:Option Nat}{av:AV}{v:Value}(c:Qp X own s a w)(hw:w'.heap=w.heap)(ho:w'.os=w.os)(ht:w'.tape=w.tape)(hp:w'.output=w.output)
  (hd:∀x,d=some x→X.dok x=true) (hv:QD own w.heap s av v):Qp X own (s.put d av []) (a.put d v) w':=by
 have k:Qag own own w.heap w'.heap s (s.put d av []):=by
  rw[hw];exact Qag.refl_heap (St.put_row s d av []) (St.put_bs s d av []) (by rw[St.put_ob];rfl)
 exact c.turn k ho ht hp (by rw[hw];exact Nat.le_refl _) hd (by rw[hw];exact c.lt) c.nodup c.disj (fun id=>QcM.keep k (by rw[St.put_ob];rfl) rfl (fun b _=>by rw[hw]) (c.obs id)) (hv.keep k)
end
end Go.Own
/-
  Own calculus, part D: what each operation does to an abstract state (functions), the weakest precondition 'wpc' over them, and the order of a region. Conditions: none (definitions).
-/
namespace Go.Own
open Go
variable {hd:Hid}
inductive TyD where
  | slice (e:TypeId)
  | struct (fs:List (Nat×TypeId))
  | int (k:IntKind)
  | bool
  | str
  | other
  deriving Inhabited
structure TyI where
  size:Nat
  bytes:Nat
  agg:Bool
  eq:Bool
  d:TyD
  zero:List Value
  deriving Inhabited
inductive Arg where
  | one (d:D)
  | agg (ds:List D)
  | ptr (ds:List D)
  | arr (s:Nat) (l:List (List D)) (deep:Nat)
  | box (ds:List D)
  | mag (cs:List (D ⊕ (Nat×List (List D)×Nat)))
  | mbx (cs:List (D ⊕ (Nat×List (List D)×Nat)))
  | fnc (f:FuncId) (caps:List (List D))
  | gone
  deriving Inhabited
inductive RC where
  | d (x:D)
  | own (s:Nat) (l:List (List D)) (deep:Nat)
  | box (ds:List D)
  deriving Inhabited
structure RV where
  agg:Bool
  cs:List RC
  deriving Inhabited
structure Qb where
  muts:List Bool
  alias:Bool
  run:List Arg→Option (Prop×List RV×List Arg)
structure QH where
  ty:TypeId→Option TyI
  ct:FuncId→Option Qb
  wr:Bool
  im:Nat→Bool
  nm:Bool
  bx:Nat→Bool
inductive Cls|P|R|M
  deriving DecidableEq
def QrQ(l:List Bool):Bool:=l.any id
def bxq(T:QH):Operand→Bool
 | .tmp k=>T.bx k
 | _=>false
def cls(T:QH):Op→Cls
 | .move _| .pick .. | .unOp .. | .binOp .. | .fieldAddr .. | .field .. | .extract .. | .nilCheck _| .makeFunc .. => .P
 | .convert .. | .load .. | .indexAddr .. | .index .. | .makeSlice .. | .buildSlice .. | .build .. => .R
 | .slice _ x _ _ _=>if bxq T x then .M else .R
 | .call {callee:= .value (.func f),..}=>match T.ct f with
  | some c=>if QrQ c.muts then .M else .R
  | none=> .M
 | .call {callee:= .value _,..}=> .R
 | .call {callee:= .builtin .len,..}| .call {callee:= .builtin .max,..}| .call {callee:= .builtin .min,..}=> .R
 | _=> .M
def rho(s:St):Operand→AV
 | .tmp t=>s.sl t
 | .const v=>if v.oneCell' then .one (.d (.v v))else .unk
 | .global _=> .unk
 | .func f=> .one (.fn f [])
def AV.isAny:AV→Bool
 | .any=>true
 | _=>false
@[reducible] def bV (b:Bool):AV:= .one (.d (.v (.bool b)))
@[reducible] def iV (n:Int):AV:= .one (.d (.v (.int .i64 n)))
def inR(k:IntKind)(n:Int):Prop:=k.min≤n∧n≤k.max
def Qax(op:BinOp)(k:IntKind)(x y:Int):Int:=
 let a:=BitVec.ofInt k.bits x
 let b:=BitVec.ofInt k.bits y
 match op with
 | .and=>k.wrap (a&&& b).toNat
 | .or=>k.wrap (a||| b).toNat
 | .xor=>k.wrap (a^^^b).toNat
 | _=>k.wrap (a&&& ~~~b).toNat
def QxQ(k:IntKind)(wr:Bool)(n:Int):Option (Prop×Value):=if wr then some (True,.int k (k.wrap n))else some (inR k n,.int k n)
def QBf(wr:Bool)(op:BinOp):Value→Value→Option (Prop×Value)
 | .int k x,.int k' y=>
  match op with
  | .shl=>if wr then some (0≤y,.int k (k.wrap (x*2^min y.toNat k.bits)))else some (0≤y∧y<k.bits∧inR k (x*2^y.toNat),.int k (x*2^y.toNat))
  | .shr=>some (0≤y∧y<k.bits,.int k (x.fdiv (2^y.toNat)))
  | _=>if k=k' then
    match op with
    | .add=>QxQ k wr (x+y)
    | .sub=>QxQ k wr (x-y)
    | .mul=>QxQ k wr (x*y)
    | .quo=>some (y≠0∧inR k (x.tdiv y),.int k (x.tdiv y))
    | .rem=>some (y≠0,.int k (x.tmod y))
    | .and=>some (True,.int k (Qax .and k x y))
    | .or=>some (True,.int k (Qax .or k x y))
    | .xor=>some (True,.int k (Qax .xor k x y))
    | .andNot=>some (True,.int k (Qax .andNot k x y))
    | .eql=>some (True,.bool (x==y))
    | .neq=>some (True,.bool (x !=y))
    | .lss=>some (True,.bool (decide (x<y)))
    | .leq=>some (True,.bool (decide (x≤y)))
    | .gtr=>some (True,.bool (decide (x>y)))
    | .geq=>some (True,.bool (decide (x≥y)))
    | _=>none
   else none
 | .string x,.string y=>
  match op with
  | .add=>some (x.size+y.size≤4611686018427387904,.string (x++y))
  | .eql=>some (True,.bool (x.toList==y.toList))
  | .neq=>some (True,.bool (!(x.toList==y.toList)))
  | _=>none
 | _,_=>none
def Qe5(x:Bool):AV→Option (Prop×Bool)
 | .one (.d (.v (.bool y)))=>some (True,y)
 | .cnd g (.one (.d (.v (.bool y))))=>some (x=true→g=true,y)
 | .cnd false .unk=>some (x=false,false)
 | _=>none
def QAn(r:Option (Prop×Value)):Option (Prop×AV):=match r with
 | some (p,v)=>some (p,.one (.d (.v v)))
 | none=>none
def QcQ:List QA→Option (List (IntKind×Int))
 | []=>some []
 | .d (.v (.int k n))::r=>match QcQ r with
  | some l=>some ((k,n)::l)
  | none=>none
 | _=>none
def QjU(op:BinOp)(xs ys:List QA):Option (Prop×AV):=
 match QcQ xs,QcQ ys with
 | some a,some b=>match op with
  | .eql=>some (a.map (·.1)=b.map (·.1),bV (a.map (·.2)==b.map (·.2)))
  | .neq=>some (a.map (·.1)=b.map (·.1),bV (!(a.map (·.2)==b.map (·.2))))
  | _=>none
 | _,_=>none
def Qg6(T:QH)(t:TypeId)(f:Nat):Option (Nat×TypeId):=
 match T.ty t with
 | some {d:= .struct fs,..}=>fs[f]?
 | _=>none
def Qf0(agg:Bool)(off size:Nat)(cs:List QA):Option AV:=
 if agg then if off+size≤cs.length then some (.agg ((cs.drop off).take size))else none else match cs[off]? with
  | some c=>some (.one c)
  | none=>none
def Qij:List AV→Option (List Id)
 | []=>some []
 | .one (.bptr id 0)::r=>match Qij r with
  | some l=>some (id::l)
  | none=>none
 | _=>none
def opP(T:QH)(ρ:Operand→AV):Op→Option (Prop×AV)
 | .move x=>some (True,ρ x)
 | .makeFunc (.func f) first bs=>if first.toList.isEmpty=true then match Qij (bs.toList.map ρ)with
   | some ids=>some (True,.one (.fn f ids))
   | none=>none
  else none
 | .pick c a b=>match ρ c with
  | .one (.d (.v (.bool x)))=>match Qe5 x (ρ a),Qe5 (!x) (ρ b)with
   | some (p,y),some (q,z)=>some (p∧q,bV (cond x y z))
   | _,_=>none
  | _=>none
 | .unOp op _ x=>match op,ρ x with
  | .not,.one (.d (.v (.bool b)))=>some (True,bV (!b))
  | .neg,.one (.d (.v (.int k n)))=>QAn (QxQ k T.wr (0-n))
  | _,_=>none
 | .binOp op t x y _=>match ρ x,ρ y with
  | .one (.d (.v (.bool a))),.one (.d (.v (.bool b)))=>match T.ty t with
   | some {d:= .bool,..}=>match op with
    | .eql=>some (True,bV (a==b))
    | .neq=>some (True,bV (!(a==b)))
    | _=>none
   | _=>none
  | .one (.d (.v a)),.one (.d (.v b))=>QAn (QBf T.wr op a b)
  | .agg xs,.agg ys=>match T.ty t with
   | some {d:= .struct _,size:=n,eq:=true,..}=>if xs.length=n∧ys.length=n then QjU op xs ys else none
   | _=>none
  | _,_=>none
 | .fieldAddr t x f=>match Qg6 T t f with
  | some (off,ft)=>match T.ty ft with
   | some y=>if y.size=0 then none else match ρ x with
    | .one (.bptr id o)=>some (True,.one (.bptr id (o+off)))
    | .one (.iptr ds)=>some (off≤ds.length,.one (.iptr (ds.drop off)))
    | .one (.optr id i o)=>some (True,.one (.optr id i (o+off)))
    | _=>none
   | none=>none
  | none=>none
 | .field t x f=>match Qg6 T t f,ρ x with
  | some (off,ft),.agg cs=>match T.ty ft with
   | some y=>match Qf0 y.agg off y.size cs with
    | some av=>some (True,av)
    | none=>none
   | none=>none
  | _,_=>none
 | .extract x i=>match ρ x with
  | .tup vs=>match vs[i]? with
   | some (true,cs)=>some (True,.agg cs)
   | some (false,[c])=>some (True,.one c)
   | _=>none
  | _=>none
 | .nilCheck x=>match ρ x with
  | .one (.bptr id o)=>some (True,.one (.bptr id o))
  | .one (.iptr ds)=>some (True,.one (.iptr ds))
  | _=>none
 | _=>none
def toD(ob:Id→Ob):QA→Option D
 | .d x=>some x
 | .n x=>some x
 | .fr id s l _=>match ob id with
  | .none=>some (.sl s l)
  | _=>none
 | .osl id=>match ob id with
  | .arr s l _=>some (.sl s l)
  | .inn j i o=>match ob j with
   | .arr _ l 2=>some ((l.getD i []).getD o default)
   | _=>none
  | _=>none
 | .isl id i o=>match ob id with
  | .arr _ l 2=>some ((l.getD i []).getD o default)
  | _=>none
 | .sub id lo hi=>match ob id with
  | .arr s l _=>some (.sl s ((l.take hi).drop lo))
  | _=>none
 | _=>none
def Qb6(ob:Id→Ob):List QA→Option (List D)
 | []=>some []
 | c::r=>match toD ob c,Qb6 ob r with
  | some x,some l=>some (x::l)
  | _,_=>none
def Qbi:QA→Option D
 | .d x=>some x
 | .n x=>some x
 | _=>none
def Q7:List QA→Option (List D)
 | []=>some []
 | c::r=>match Qbi c,Q7 r with
  | some x,some l=>some (x::l)
  | _,_=>none
def QlE(ob:Id→Ob):List Id→Option (List (List D))
 | []=>some []
 | id::r=>match ob id,QlE ob r with
  | .box cs,some l=>match Qb6 ob cs with
   | some ds=>some (ds::l)
   | none=>none
  | _,_=>none
def QcY(ob:Id→Ob):List QA→Option (List (D ⊕ (Nat×List (List D)×Nat)))
 | []=>some []
 | .d x::r=>match QcY ob r with
  | some l=>some (.inl x::l)
  | none=>none
 | .osl id::r=>match ob id,QcY ob r with
  | .arr s m dp,some l=>if dp=0 then none else some (.inr (s,m,dp)::l)
  | _,_=>none
 | _=>none
def Qeh(ob:Id→Ob)(m:Bool):AV→Option Arg
 | .one c=>if m then match c with
   | .osl id=>match ob id with
    | .arr s l dp=>some (.arr s l dp)
    | _=>none
   | .isl id i o=>match ob id with
    | .arr _ l 2=>match (l.getD i []).getD o default with
     | .sl s r=>some (.arr s r 1)
     | _=>none
    | _=>none
   | .bptr id 0=>match ob id with
    | .box cs=>match Q7 cs with
     | some ds=>some (.box ds)
     | none=>none
    | _=>none
   | _=>none
  else match c with
   | .bptr id 0=>match ob id with
    | .box cs=>match Qb6 ob cs with
     | some ds=>some (.ptr ds)
     | none=>none
    | _=>none
   | .iptr ds=>some (.ptr ds)
   | .fni f l=>some (.fnc f l)
   | .fn f caps=>match QlE ob caps with
    | some l=>some (.fnc f l)
    | none=>none
   | c=>match toD ob c with
    | some d=>some (.one d)
    | none=>none
 | .agg cs=>if m then match QcY ob cs with
   | some l=>some (.mag l)
   | none=>none
  else match Qb6 ob cs with
   | some ds=>some (.agg ds)
   | none=>none
 | _=>none
def QbN(ob:Id→Ob):List Bool→List AV→Option (List Arg)
 | _,[]=>some []
 | ms,v::r=>match Qeh ob (ms.headD false) v,QbN ob ms.tail r with
  | some a,some l=>some (a::l)
  | _,_=>none
def QgS:QA→Bool
 | .d _| .n _| .fn _ []=>true
 | _=>false
def Qbf:QA→Bool
 | .n _| .d (.v _)=>true
 | _=>false
def Qf8:AV→Bool
 | .one c=>QgS c
 | .agg cs=>cs.all QgS
 | _=>false
def QgM:AV→Bool
 | .one c=>Qbf c
 | .agg cs=>cs.all Qbf
 | _=>false
def QcZ(row:Nat)(nw im:Bool):Nat→List RC→List QA
 | _,[]=>[]
 | k,.d x::r=>(if nw then .n x else .d x)::QcZ row nw im k r
 | k,.own s l dp::r=>(if im then(if nw then .n (.sl s l)else .d (.sl s l))else .fr (row,k) s l dp)::QcZ row nw im (k+1) r
 | k,.box ds::r=>(if im then .iptr ds else .fb (row,k) ds)::QcZ row nw im (k+1) r
def QkZ:QA→QA
 | .n (.v x)=> .d (.v x)
 | c=>c
def Qlb:List RC→Nat
 | []=>0
 | .d _::r=>Qlb r
 | .own .. ::r=>Qlb r+1
 | .box _::r=>Qlb r+1
def Qgu(row:Nat)(nw im:Bool):Nat→List RV→List (Bool×List QA)
 | _,[]=>[]
 | k,r::rs=>(r.agg,(QcZ row nw im k r.cs).map QkZ)::Qgu row nw im (k+Qlb r.cs) rs
def Qr9:Bool×List QA→AV
 | (true,cs)=> .agg cs
 | (false,[c])=> .one c
 | _=> .unk
def Qhz(row:Nat)(nw im:Bool)(rs:List RV):AV:=
 match rs with
 | [r]=>Qr9 (r.agg,(QcZ row nw im 0 r.cs).map QkZ)
 | []=> .unk
 | rs=> .tup (Qgu row nw im 0 rs)
def rvN:List RV→Nat
 | []=>0
 | r::rs=>Qlb r.cs+rvN rs
def Qc6(rs:List RV):Bool:=rvN rs !=0
def Qau:D→Prop
 | .v _=>True
 | .sl .. =>False
def Qvy(b:ByteArray)(n:Nat):Int:=((b.data.toList)[n]?.getD 0).toNat
def Qpe(mx:Bool):AV→AV→Option AV
 | .one (.d (.v (.int k x))),.one (.d (.v (.int k' y)))=>if k=k' then some (.one (.d (.v (.int k (if mx then max x y else min x y)))))else none
 | _,_=>none
def Qf7(ρ:Operand→AV):Option Operand→Option (Option Int)
 | none=>some none
 | some x=>match ρ x with
  | .one (.d (.v (.int _ n)))=>some (some n)
  | _=>none
def Qfi(T:QH)(d:Nat)(ob:Id→Ob)(fresh im mu:Bool)(f:FuncId)(vs:List AV):Option (Prop×AV×List Arg):=
 match T.ct f with
 | some c=>if QrQ c.muts !=mu then none else match QbN ob c.muts vs with
  | some as=>match c.run as with
   | some (p,rs,ms)=>
    if c.alias then some (p∧rvN rs≤4∧vs.all Qf8=true∧(im=false→Qc6 rs=true→fresh=true),Qhz d (vs.all QgM) im rs,ms)
    else some (p∧rvN rs≤4∧(im=false→Qc6 rs=true→fresh=true),Qhz d true im rs,ms)
   | none=>none
  | none=>none
 | none=>none
def Qdv:List AV→Option (List (List QA))
 | []=>some []
 | .one c::r=>match Qdv r with
  | some l=>some ([c]::l)
  | none=>none
 | _=>none
def Qdu(n:Nat):List AV→Option (List (List QA))
 | []=>some []
 | .agg cs::r=>if cs.length=n then match Qdu n r with
  | some l=>some (cs::l)
  | none=>none
  else none
 | _=>none
def Qb3:AV→Option (List QA)
 | .one c=>some [c]
 | .agg cs=>some cs
 | .lit id 1 [[.fr id2 s2 l2 dp2]]=>some [.ltf id id2 s2 l2 dp2]
 | _=>none
def QbY(T:QH)(fs:List (Nat×TypeId))(cs:List QA):List Nat→List AV→Option (Prop×AV)
 | [],[]=>some (True,.agg cs)
 | i::is,x::r=>match fs[i]? with
  | some (off,ft)=>match T.ty ft with
   | some y=>match Qb3 x with
    | some new=>if new.length=y.size∧off+new.length≤cs.length then QbY T fs (cs.take off++new++cs.drop (off+new.length)) is r else none
    | none=>none
   | none=>none
  | none=>none
 | _,_=>none
def bL(ns:List Int):List (List D):=ns.map fun n=>[.v (.int .u8 n)]
def unB(l:List (List D)):List Int:=l.map fun
 | [.v (.int .u8 n)]=>n
 | _=>0
def Qcv(ns:List Int):ByteArray:=ns.foldl (fun r n=>r.push (UInt8.ofNat n.toNat)) ByteArray.empty
def QdS:List (List QA)→Option (List Int)
 | []=>some []
 | [.d (.v (.int .u8 n))]::r=>match QdS r with
  | some l=>some (n::l)
  | none=>none
 | _=>none
def QBi:AV→Bool
 | .one (.d (.v _))=>true
 | _=>false
def Qjp(T:QH)(id:Id):Bool:= !T.bx 1000||T.bx (1001+id.1)
def QkB(T:QH):AV→Bool
 | .one (.bptr id _)=>Qjp T id
 | _=>false
def Qbl:QA→Option D
 | .d (.v x)=>some (.v x)
 | _=>none
def Qv:List QA→Option (List D)
 | []=>some []
 | c::r=>match Qbl c,Qv r with
  | some x,some l=>some (x::l)
  | _,_=>none
def QB(f:List QA→Option (List D)):List (List QA)→Option (List (List D))
 | []=>some []
 | c::r=>match f c,QB f r with
  | some x,some l=>some (x::l)
  | _,_=>none
def QAo(d sz:Nat)(fresh im:Bool)(els:List (List QA)):Option (Prop×AV):=
 if im then match QB Qv els with
  | some l=>some (True,.one (.n (.sl sz l)))
  | none=>match QB Q7 els with
   | some l=>some (True,.one (.d (.sl sz l)))
   | none=>some (fresh=true,.lit (d,0) sz els)
 else some (fresh=true,.lit (d,0) sz els)
def Qmy(ob:Id→Ob):AV→AV
 | .lit id s els=>match ob id,QB Qv els with
  | .none,some l=> .one (.fr id s l 1)
  | _,_=> .lit id s els
 | v=>v
def Qib(T:QH)(d:Nat)(ρ:Operand→AV)(fresh im:Bool)(t:TypeId)(n:Nat)(ps:Array (Nat×Operand)):Option (Prop×AV):=
 match T.ty t with
  | some {d:= .slice e,..}=>match T.ty e with
   | some y=>if y.agg=false∧y.size=1∧ps.toList.map (·.1)=List.range n∧n*y.size≤16777216∧0<y.size then
     match Qdv ((ps.toList.map (·.2)).map ρ)with
     | some els=>QAo d 1 fresh im els
     | none=>none
    else if ps.toList.map (·.1)=List.range n∧n*y.size≤16777216∧0<y.size then
     match Qdu y.size ((ps.toList.map (·.2)).map ρ)with
     | some els=>QAo d y.size fresh im els
     | none=>none
    else none
   | none=>none
  | _=>none
def Qck:QA→Bool
 | .fr .. | .fb .. | .ltf .. | .fn .. =>true
 | _=>false
def QhQ(ob:Id→Ob):AV→Bool
 | .one (.bptr id 0)=>match ob id with
  | .box cs=>cs.any Qck
  | _=>false
 | .one c=>Qck c
 | .agg cs=>cs.any Qck
 | .unk=>false
 | _=>true
def frG{α:Type}(T:QH)(ob:Id→Ob)(vs:List AV)(r:Option α):Option α:=if T.bx 996=true then(if vs.any (QhQ ob)=true then none else r)else r
theorem QcV{α:Type}{T:QH}{ob:Id→Ob}{vs:List AV}{r:Option α}{q:α}(h:frG T ob vs r=some q):r=some q∧(T.bx 996=true→vs.any (QhQ ob)=false):=by
 unfold frG at h;split at h
 ·split at h
  ·cases h
  ·rename_i hn
   exact⟨h,fun _=>by simpa using hn⟩
 ·rename_i hn
  exact⟨h,fun h6=>absurd h6 hn⟩
def opR(T:QH)(d:Nat)(ρ:Operand→AV)(ob:Id→Ob)(fresh im:Bool):Op→Option (Prop×AV)
 | .load t x=>if(bxq T x&& !QkB T (ρ x))=true then none else match T.ty t with
  | some y=>match ρ x with
   | .one (.iptr ds)=>if y.agg then some (y.size≤ds.length,.agg ((ds.take y.size).map .d))else some (1≤ds.length,.one (.d (ds.headD default)))
   | .one (.bptr id o)=>match ob id with
    | .box cs=>match Qf0 y.agg o y.size cs with
     | some av=>some (True,av)
     | none=>none
    | _=>none
   | .one (.optr id i o)=>match ob id with
    | .arr s l dp=>
     if y.agg then some (i<l.length∧o+y.size≤s∧(∀x∈((l.getD i []).drop o).take y.size,Qau x),.agg ((((l.getD i []).drop o).take y.size).map .d))else match y.d with
     | .slice _=>match dp with
      | 0=>some (i<l.length∧o<s,.one (.d ((l.getD i []).getD o default)))
      | 2=>some (i<l.length∧o<s,.one (.isl id i o))
      | _=>none
     | _=>some (i<l.length∧o<s∧Qau ((l.getD i []).getD o default),.one (.d ((l.getD i []).getD o default)))
    | _=>none
   | .one (.nptr id i o s' j)=>match ob id with
    | .arr _ l 2=>match (l.getD i []).getD o default with
     | .sl s r=>if y.agg then none else some (s=s'∧0<s∧j<r.length∧Qau ((r.getD j []).getD 0 default),.one (.d ((r.getD j []).getD 0 default)))
     | _=>none
    | _=>none
   | _=>none
  | none=>none
 | .indexAddr t x i=>match T.ty t with
  | some {d:= .slice e,..}=>match T.ty e,ρ i with
   | some y,.one (.d (.v (.int _ n)))=>match ρ x with
    | .one (.d (.sl s l))=>some (y.size=s∧0≤n∧n<l.length,.one (.iptr (l.getD n.toNat [])))
    | .one (.n (.sl s l))=>some (y.size=s∧0≤n∧n<l.length,.one (.iptr (l.getD n.toNat [])))
    | .one (.osl id)=>match ob id with
     | .arr s l _=>some (y.size=s∧0≤n∧n<l.length,.one (.optr id n.toNat 0))
     | _=>none
    | .one (.isl id i o)=>match ob id with
     | .arr _ l 2=>match (l.getD i []).getD o default with
      | .sl s r=>some (y.size=s∧0≤n∧n<r.length,.one (.nptr id i o s n.toNat))
      | _=>none
     | _=>none
    | _=>none
   | _,_=>none
  | _=>none
 | .index t x i=>match T.ty t,ρ x,ρ i with
  | some {d:= .str,..},.one (.d (.v (.string b))),.one (.d (.v (.int _ n)))=>some (0≤n∧n<b.size,.one (.d (.v (.int .u8 (Qvy b n.toNat)))))
  | _,_,_=>none
 | .slice t x lo hi mx=>match T.ty t,Qf7 ρ lo,Qf7 ρ hi,mx with
  | some {d:= .str,..},some l,some h,none=>match ρ x with
   | .one (.d (.v (.string b)))=>some (0≤l.getD 0∧l.getD 0≤h.getD b.size∧h.getD b.size≤b.size,.one (.d (.v (.string (b.extract (l.getD 0).toNat (h.getD b.size).toNat)))))
   | _=>none
  | some {d:= .slice e,..},some l,some h,none=>match T.ty e,ρ x with
   | some y,.one (.d (.sl s m))=>some (y.size=s∧0≤l.getD 0∧l.getD 0≤h.getD m.length∧h.getD m.length≤m.length,.one (.d (.sl s ((m.take (h.getD m.length).toNat).drop (l.getD 0).toNat))))
   | some y,.one (.n (.sl s m))=>some (y.size=s∧0≤l.getD 0∧l.getD 0≤h.getD m.length∧h.getD m.length≤m.length,.one (.n (.sl s ((m.take (h.getD m.length).toNat).drop (l.getD 0).toNat))))
   | some y,.one (.osl id)=>match (if T.bx 997=true then Ob.none else ob id)with
    | .arr s m _=>some (y.size=s∧m≠[]∧0≤l.getD 0∧l.getD 0≤h.getD m.length∧h.getD m.length≤m.length,.one (.sub id (l.getD 0).toNat (h.getD m.length).toNat))
    | _=>none
   | _,_=>none
  | _,_,_,_=>none
 | .convert src dst x=>match T.ty src,T.ty dst,ρ x with
  | some {d:= .int _,..},some {d:= .int k,..},.one (.d (.v (.int _ n)))=>some (True,.one (.d (.v (.int k (k.wrap n)))))
  | some {d:= .str,..},some {d:= .str,..},.one (.d (.v (.string b)))=>some (True,.one (.d (.v (.string b))))
  | some {d:= .slice e,..},some {d:= .str,..},.one c=>match T.ty e,toD ob c with
   | some {d:= .int .u8,..},some (.sl 1 l)=>some (l=bL (unB l),.one (.d (.v (.string (Qcv (unB l))))))
   | _,_=>none
  | some {d:= .slice e,..},some {d:= .str,..},.lit id sz els=>match T.ty e,ob id,QdS els with
   | some {d:= .int .u8,..},.none,some ns=>some (sz=1,.one (.d (.v (.string (Qcv ns)))))
   | _,_,_=>none
  | _,_,_=>none
 | .makeSlice t n c=>match T.ty t with
  | some {d:= .slice e,..}=>match T.ty e,ρ n,ρ c with
   | some y,.one (.d (.v (.int .i64 n))),.one (.d (.v (.int .i64 c)))=>
    some (0≤n∧n≤c∧c≤maxLen∧c*y.bytes≤140737488355328∧fresh=true∧0<y.size,.one (.fr (d,0) y.size (List.replicate n.toNat (y.zero.map .v)) 1))
   | _,_,_=>none
  | _=>none
 | .buildSlice t n ps=>Qib T d (fun x=>Qmy ob (ρ x)) fresh im t n ps
 | .build t ps=>match T.ty t with
  | some {d:= .struct fs,zero:=z,..}=>if fs.all (fun f=>(T.ty f.2).isSome)=false then none else QbY T fs (z.map fun v=>QA.d (.v v)) (ps.toList.map (·.1)) ((ps.toList.map (·.2)).map ρ)
  | _=>none
 | .call {callee:= .builtin .len,args:=as,argTypes:=ts}=>match as.toList.map ρ,ts.toList with
  | [.one c],[t]=>match T.ty t with
   | some {d:= .str,..}=>match c with
    | .d (.v (.string b))=>some (True,iV b.size)
    | _=>none
   | some {d:= .slice _,..}=>match c with
    | .d (.v (.slice none 0 0))=>some (True,iV 0)
    | c=>match toD ob c with
     | some (.sl _ l)=>some (True,iV l.length)
     | _=>none
   | _=>none
  | _,_=>none
 | .call {callee:= .builtin .max,args:=as,..}=>match as.toList.map ρ with
  | [x,y]=>match Qpe true x y with
   | some v=>some (True,v)
   | none=>none
  | _=>none
 | .call {callee:= .builtin .min,args:=as,..}=>match as.toList.map ρ with
  | [x,y]=>match Qpe false x y with
   | some v=>some (True,v)
   | none=>none
  | _=>none
 | .call {callee:= .value (.func f),args:=as,..}=>match frG T ob (as.toList.map ρ) (Qfi T d ob fresh im false f (as.toList.map ρ))with
  | some (p,v,[])=>some (p,v)
  | _=>none
 | .call {callee:= .value x,args:=as,..}=>match ρ x with
  | .one (.fni f l)=>match Qfi T d ob fresh im false f (as.toList.map ρ++l.map fun ds=> .one (.iptr ds))with
   | some (p,v,[])=>some (p,v)
   | _=>none
  | .one (.fn f caps)=>match Qfi T d ob fresh im false f (as.toList.map ρ++caps.map fun id=> .one (.bptr id 0))with
   | some (p,v,[])=>some (p,v)
   | _=>none
  | _=>none
 | _=>none
def QaI(ob:Id→Ob):List QA→Option (List QA×List (Id×Ob))
 | []=>some ([],[])
 | .fr id s l dp::r=>match ob id,QaI ob r with
  | .none,some (cs,us)=>some (.osl id::cs,(id,.arr s l dp)::us)
  | _,_=>none
 | c::r=>match QaI ob r with
  | some (cs,us)=>some (c::cs,us)
  | none=>none
def Qu(ob:Id→Ob):QA→Option (Id×Nat×List (List D)×Nat)
 | .fr id s l dp=>match ob id with
  | .none=>some (id,s,l,dp)
  | _=>none
 | .osl id=>match ob id with
  | .arr s l dp=>some (id,s,l,dp)
  | _=>none
 | _=>none
def QfB(ob:Id→Ob):AV→Option (AV×List (Id×Ob))
 | .one (.fr id s l dp)=>match ob id with
  | .none=>some (.one (.osl id),[(id,.arr s l dp)])
  | _=>none
 | .one (.fb ..)=>none
 | .one c=>some (.one c,[])
 | .agg cs=>match QaI ob cs with
  | some (cs,us)=>if(us.map (·.1)).Nodup then some (.agg cs,us)else none
  | none=>none
 | .lit id s els=>match ob id with
  | .none=>match QB Qv els with
   | some l=>some (.one (.osl id),[(id,.arr s l 1)])
   | none=>match QB Q7 els with
    | some l=>some (.one (.osl id),[(id,.arr s l 0)])
    | none=>none
  | _=>none
 | _=>none
def QkE(ob:Id→Ob)(id:Id)(s:Nat):List (List QA)→Option (Prop×AV×List (Id×Ob))
 | [[c]]=>match ob id,Qu ob c with
  | .none,some (id2,s2,l2,dp2)=>some (id2≠id∧dp2≠0,.one (.osl id),[(id2,.dead),(id,.arr s [[.sl s2 l2]] 1)])
  | _,_=>none
 | _=>none
def QdH(ob:Id→Ob)(sz:Nat):AV→Option (List (List D)×Nat×List (Id×Ob))
 | .one (.d (.v (.slice none 0 0)))=>some ([],1,[])
 | .one c=>match Qu ob c with
  | some (id,s,l,dp)=>if s=sz then some (l,dp,[(id,.dead)])else none
  | none=>none
 | .lit id s els=>match ob id,QB Qv els with
  | .none,some l=>if s=sz then some (l,1,[(id,.dead)])else none
  | _,_=>none
 | _=>none
def Qps(ob:Id→Ob)(sz:Nat)(deep:Bool)(dp:Nat):AV→Option (Prop×List (List D)×Nat×List (Id×Ob))
 | .lit id s els=>match ob id with
  | .none=>if s=sz then match QB Qv els with
    | some l=>some (True,l,dp,[])
    | none=>match els with
     | [[c]]=>match Qu ob c with
      | some (id2,s2,l2,dp2)=>if dp=0∨dp2=0 then none else some (True,[[.sl s2 l2]],1,[(id2,.dead)])
      | none=>match QB Q7 els with
       | some l=>some (True,l,0,[])
       | none=>none
     | _=>match QB Q7 els with
      | some l=>some (True,l,0,[])
      | none=>none
   else none
  | _=>none
 | .one c=>match (if deep=true then Qbi c else none)with
  | some (.sl s m)=>some (s=sz,m,0,[])
  | _=>match toD ob c with
   | some (.sl s m)=>some (s=sz∧∀e∈m,∀x∈e,Qau x,m,dp,[])
   | some (.v (.slice none 0 0))=>some (True,[],dp,[])
   | _=>none
 | _=>none
def QAM(y:TyI):Bool:=match y with
 | {d:= .slice _,..}=>true
 | _=>false
def Qy9(T:QH)(d:Nat)(ob:Id→Ob)(fresh:Bool)(t:TypeId)(x y:AV):Option (Prop×AV×List (Id×Ob)):=
 match T.ty t with
 | some {d:= .slice e,..}=>match T.ty e with
  | some yi=>match QdH ob yi.size x with
   | some (l,dp,us)=>match Qps (QY ob us) yi.size (QAM yi) dp y with
    | some (p,m,dp',us')=>some (p∧0<yi.size∧fresh=true∧l.length+m.length≤maxLen∧(l.length+m.length)*yi.bytes≤140737488355328,.one (.fr (d,0) yi.size (l++m) dp'),us++us')
    | none=>none
   | none=>none
  | none=>none
 | _=>none
def Qzb(T:QH)(d:Nat)(ob:Id→Ob)(fresh:Bool)(t:TypeId)(x y:AV):Option (Prop×AV×List (Id×Ob)):=
 match x,y,T.ty t with
 | .one (.sub id lo hi),.one (.sub id' lo' hi'),some {d:= .slice e,..}=>match T.ty e,ob id with
  | some yi,.arr s l dp=>some (id'=id∧lo=0∧yi.size=s∧0<s∧dp≠0∧hi≤lo'∧hi'=l.length∧fresh=true∧l.length*yi.bytes≤140737488355328,.one (.fr (d,0) s (l.take hi++l.drop lo') dp),[(id,.dead)])
  | _,_=>none
 | _,_,_=>none
def Qza(T:QH)(d:Nat)(ob:Id→Ob)(fresh:Bool)(t:TypeId)(x y:AV):Option (Prop×AV×List (Id×Ob)):=
 match x,y,T.ty t with
 | .one (.osl id),.lit id1 s1 [[.osl id2]],some {d:= .slice e,..}=>match T.ty e,ob id,ob id1,ob id2,ob (d,0)with
  | some yi,.arr s l dp,.none,.arr s2 l2 dp2,.none=>some (s=yi.size∧s1=yi.size∧yi.size=1∧dp≠0∧dp2≠0∧id2≠id∧fresh=true∧l.length+1≤maxLen∧(l.length+1)*yi.bytes≤140737488355328∧0<s2,
    .one (.osl (d,0)),[(id,.dead),(id2,.inn (d,0) l.length 0),((d,0),.arr 1 (l++[[.sl s2 l2]]) 2)])
  | _,_,_,_,_=>none
 | _,_,_=>none
def QeX(ob:Id→Ob):AV→Option Arg
 | .one (.osl id)=>match ob id with
  | .arr s l dp=>if dp=0 then none else some (.arr s l dp)
  | _=>none
 | .one (.isl id i o)=>match ob id with
  | .arr _ l 2=>match (l.getD i []).getD o default with
   | .sl s r=>some (.arr s r 1)
   | _=>none
  | _=>none
 | .one (.bptr id 0)=>match ob id with
  | .box cs=>match Q7 cs with
   | some ds=>some (.box ds)
   | none=>none
  | _=>none
 | .agg cs=>match QcY ob cs with
  | some l=>some (.mag l)
  | none=>none
 | _=>none
def QK(ob:Id→Ob):List QA→List (D ⊕ (Nat×List (List D)×Nat))→Option (Prop×List (Id×Ob))
 | [],[]=>some (True,[])
 | .d _::cs,.inl _::ns=>QK ob cs ns
 | .osl id::cs,.inr (s',l',_)::ns=>match ob id,QK ob cs ns with
  | .arr s _ _,some (p,us)=>some ((s'=s∧0<s)∧p,(id,.arr s l' 1)::us)
  | _,_=>none
 | _,_=>none
def Qbr(al:Bool):D→QA
 | .v x=> .d (.v x)
 | .sl s l=>if al then .n (.sl s l)else .d (.sl s l)
def Qd9(ob:Id→Ob):AV→Bool
 | .one (.bptr id 0)=>match ob id with
  | .box cs=>cs.all Qbf
  | _=>false
 | _=>false
def QaT(nw:Bool)(ob:Id→Ob):AV→Arg→Option (Prop×List (Id×Ob))
 | .one (.osl id),.arr s' l' _=>match ob id with
  | .arr s _ _=>some (s'=s∧0<s,[(id,.arr s l' 1)])
  | _=>none
 | .one (.isl id i o),.arr s' r' _=>match ob id with
  | .arr s0 l 2=>match (l.getD i []).getD o default with
   | .sl s _=>some (s'=s,[(id,.arr s0 (l.set i ((l.getD i []).set o (.sl s r'))) 2)])
   | _=>none
  | _=>none
 | .one (.bptr id 0),.box ds=>match ob id with
  | .box cs=>some (ds.length=cs.length,[(id,.box (ds.map (Qbr nw)))])
  | _=>none
 | .agg cs,.mag ns=>QK ob cs ns
 | _,_=>none
def Qfj(T:QH)(d:Nat)(ob:Id→Ob)(fresh:Bool)(f:FuncId)(vs:List AV):Option (Prop×AV×List (Id×Ob)):=
 match T.ct f with
 | some c=>if c.muts=[true]∧c.alias=false then match vs with
   | v0::vr=>match QeX ob v0,QbN ob [] vr with
    | some a0,some as=>match c.run (a0::as)with
     | some (p,rs,[a1])=>match QaT (vr.all QgM&&Qd9 ob v0) ob v0 a1 with
      | some (q,us)=>some (p∧q∧rvN rs≤4∧(Qc6 rs=true→fresh=true)∧vr.all Qf8=true∧(us.map (·.1)).Nodup,Qhz d true false rs,us)
      | none=>none
     | _=>none
    | _,_=>none
   | []=>none
  else none
 | none=>none
def Qpu(ob:Id→Ob):AV→Nat
 | .one (.fr _ s _ _)=>s
 | .one (.osl id)=>match ob id with
  | .arr s _ _=>s
  | _=>1
 | .lit _ s _=>s
 | _=>1
def Qf9(T:QH)(d:Nat)(ob:Id→Ob)(fresh:Bool)(f:FuncId)(vs:List AV):Option (Prop×AV×List (Id×Ob)):=
 match T.ct f with
 | some c=>if c.muts=[true]∧c.alias=true then match vs with
   | v0::vr=>match QdH ob (Qpu ob v0) v0,QbN ob [] vr with
    | some (l,dp,us),some as=>match c.run (.arr (Qpu ob v0) l dp::as)with
     | some (p,[⟨false,[.own s' l' dp']⟩],[.gone])=>some (p∧dp≠0∧dp'≠0∧vr.all Qf8=true∧fresh=true,.one (.fr (d,0) s' l' dp'),us)
     | _=>none
    | _,_=>none
   | []=>none
  else none
 | none=>none
def Qed:List AV→Option (List AV×AV)
 | []=>none
 | [x]=>some ([],x)
 | x::y::r=>match Qed (y::r)with
  | some (a,b)=>some (x::a,b)
  | none=>none
def QrA:List AV→List Bool
 | []=>[]
 | [_]=>[true]
 | _::y::r=>false::QrA (y::r)
def Qga(T:QH)(d:Nat)(ob:Id→Ob)(fresh:Bool)(f:FuncId)(vs:List AV):Option (Prop×AV×List (Id×Ob)):=
 match T.ct f with
 | some c=>if c.muts=QrA vs∧c.alias=true then match Qed vs with
   | some (vi,v0)=>match QdH ob (Qpu ob v0) v0,QbN ob [] vi with
    | some (l,dp,us),some as=>match c.run (as++[.arr (Qpu ob v0) l dp])with
     | some (p,[⟨false,[.own s' l' dp']⟩],[.gone])=>some (p∧dp≠0∧dp'≠0∧vi.all Qf8=true∧fresh=true,.one (.fr (d,0) s' l' dp'),us)
     | _=>none
    | _,_=>none
   | none=>none
  else none
 | none=>none
def QoC(T:QH):Option (Prop×AV×List (Id×Ob))→Option (Prop×AV×List (Id×Ob))
 | some (p,v,us)=>if(T.bx 1000&&us.any fun q=>T.bx (1001+q.1.1))=true then none else some (p,v,us)
 | none=>none
theorem Qa9{T:QH}{r:Option (Prop×AV×List (Id×Ob))}{q:Prop×AV×List (Id×Ob)}(h:QoC T r=some q):r=some q∧(T.bx 1000=true→∀x∈q.2.2,T.bx (1001+x.1.1)=false):=by
 cases r with
 | none=>cases h
 | some r=>
  obtain⟨p,v,us⟩:=r;simp only[QoC]at h
  split at h
  ·cases h
  ·rename_i hn
   refine⟨h,fun hb x hx=>?_⟩
   simp only[Option.some.injEq]at h
   subst h;rw[hb,Bool.true_and,List.any_eq_true]at hn;cases hk:T.bx (1001+x.1.1)with
   | false=>rfl
   | true=>exact absurd ⟨x,hx,hk⟩ hn
def QvG(ob:Id→Ob):List QA→Option (Prop×List QA×List (Id×Ob))
 | []=>none
 | .ltf id id2 s2 l2 dp2::r=>match ob id,ob id2 with
  | .none,.none=>some (id2≠id∧dp2≠0,.osl id::r,[(id2,.dead),(id,.arr 1 [[.sl s2 l2]] 1)])
  | _,_=>none
 | c::r=>match QvG ob r with
  | some (p,cs,us)=>some (p,c::cs,us)
  | none=>none
def QBb(ob:Id→Ob):AV→Option (Prop×AV×List (Id×Ob))
 | .agg cs=>match QvG ob cs with
  | some (p,cs',us)=>some (p,.agg cs',us)
  | none=>none
 | _=>none
def Qk6(T:QH)(ob:Id→Ob)(t:TypeId)(va vx:AV):Option (Prop×AV×List (Id×Ob)):=
 match T.ty t,QfB ob vx with
  | some y,some (v,us)=>match Qb3 v with
   | some cs=>if cs.length=y.size then match va with
     | .one (.bptr id o)=>match ob id with
      | .box cs0=>if o+cs.length≤cs0.length then some (True,.unk,us++[(id,.box (cs0.take o++cs++cs0.drop (o+cs.length)))])else none
      | _=>none
     | .one (.optr id i o)=>match ob id,Qv cs with
      | .arr s l dp,some ds=>some (i<l.length∧o+ds.length≤s∧(∀x∈((l.getD i []).drop o).take ds.length,Qau x),.unk,[(id,.arr s (l.set i ((l.getD i []).take o++ds++(l.getD i []).drop (o+ds.length))) (min dp 1))])
      | .arr s l 1,none=>match vx with
       | .one (.fr id2 s2 l2 dp2)=>match ob id2 with
        | .none=>some (i<l.length∧o<s∧dp2≠0∧id2≠id,.unk,[(id2,.dead),(id,.arr s (l.set i ((l.getD i []).set o (.sl s2 l2))) 1)])
        | _=>none
       | _=>none
      | _,_=>none
     | .one (.nptr id i o s' j)=>match ob id,Qv cs with
      | .arr sz l 2,some ds=>match (l.getD i []).getD o default with
       | .sl s r=>some (s=s'∧ds.length=s∧j<r.length∧(∀x∈r.getD j [],Qau x),.unk,[(id,.arr sz (l.set i ((l.getD i []).set o (.sl s (r.set j ds)))) 2)])
       | _=>none
      | _,_=>none
     | _=>none
    else none
   | none=>none
  | _,_=>none
def Qk5(T:QH)(ρ:Operand→AV)(ob:Id→Ob)(t:TypeId)(a x:Operand):Option (Prop×AV×List (Id×Ob)):=
 match QBb ob (ρ x)with
 | some (p0,vx,us0)=>match Qk6 T (QY ob us0) t (ρ a) vx with
  | some (p,v,us)=>some (p0∧p,v,us0++us)
  | none=>none
 | none=>Qk6 T ob t (ρ a) (ρ x)
def Qj8(ob:Id→Ob):AV→Option (AV×List (Id×Ob))
 | .one (.fb id ds)=>match ob id with
  | .none=>some (.one (.bptr id 0),[(id,.box (ds.map .d))])
  | _=>none
 | _=>none
def QhT(T:QH)(d:Nat)(ob:Id→Ob)(fresh:Bool)(f:FuncId)(vs:List AV):Option (Prop×AV×List (Id×Ob)):=
 match vs with
 | v0::vr=>match Qj8 ob v0 with
  | some (v1,us0)=>match Qfj T d (QY ob us0) fresh f (v1::vr)with
   | some (p,v,us)=>some (p,v,us0++us)
   | none=>none
  | none=>none
 | []=>none
def QhX(ob:Id→Ob):List QA→Option (List (D ⊕ (Nat×List (List D)×Nat)))
 | []=>some []
 | .d x::r=>match QhX ob r with
  | some l=>some (.inl x::l)
  | none=>none
 | .n x::r=>match QhX ob r with
  | some l=>some (.inl x::l)
  | none=>none
 | .osl id::r=>match ob id,QhX ob r with
  | .arr s m dp,some l=>if dp=0 then none else some (.inr (s,m,dp)::l)
  | _,_=>none
 | _=>none
def QdB:List QA→List Id
 | []=>[]
 | .osl id::r=>id::QdB r
 | _::r=>QdB r
def Qme(nw:Bool)(row:Nat):Nat→List (D ⊕ (Nat×List (List D)×Nat))→List QA
 | _,[]=>[]
 | k,.inl x::l=>Qbr nw x::Qme nw row k l
 | k,.inr _::l=> .osl (row,k)::Qme nw row (k+1) l
def QdX(dp row:Nat):Nat→List (D ⊕ (Nat×List (List D)×Nat))→List (Id×Ob)
 | _,[]=>[]
 | k,.inl _::l=>QdX dp row k l
 | k,.inr (s,m,_)::l=>((row,k),.arr s m dp)::QdX dp row (k+1) l
def QhV(ob:Id→Ob)(row:Nat):Nat→List (D ⊕ (Nat×List (List D)×Nat))→Bool
 | _,[]=>true
 | k,.inl _::l=>QhV ob row k l
 | k,.inr _::l=>(match ob (row,k)with| .none=>true|_=>false)&&QhV ob row (k+1) l
def Qh0(ob:Id→Ob)(row:Nat)(l:List (D ⊕ (Nat×List (List D)×Nat))):Nat:=if QhV ob row 10 l=true then 10 else 20
def QeE:QA→Bool
 | .osl _=>true
 | c=>Qbf c
def Qgb(T:QH)(d:Nat)(ob:Id→Ob)(fresh:Bool)(f:FuncId)(vs:List AV):Option (Prop×AV×List (Id×Ob)):=
 match T.ct f with
 | some c=>if c.muts=[true]∧c.alias=false then match vs with
   | .one (.bptr id 0)::vr=>match ob id with
    | .box cs=>match QhX ob cs,QbN ob [] vr with
     | some l,some as=>match c.run (.mbx l::as)with
      | some (p,rs,[.mbx ns])=>some (p∧QhV ob id.1 (Qh0 ob id.1 ns) ns=true∧rvN rs≤4∧(Qc6 rs=true→fresh=true)∧vr.all Qf8=true∧(QdB cs).Nodup,Qhz d true false rs,
        (QdB cs).map (fun i=>(i,Ob.dead))++(QdX 1 id.1 (Qh0 ob id.1 ns) ns++[(id,.box (Qme (vr.all QgM&&cs.all QeE) id.1 (Qh0 ob id.1 ns) ns))]))
      | _=>none
     | _,_=>none
    | _=>none
   | _=>none
  else none
 | none=>none
def bxs(T:QH):Operand→Bool
 | .tmp k=>T.bx 1000&&T.bx (3001+k)
 | _=>false
def stK(T:QH)(a:Operand)(r:Option (Prop×AV×List (Id×Ob))):Option (Prop×AV×List (Id×Ob)):=if bxs T a=true then QoC T r else r
theorem Qvt{T:QH}{a:Operand}{r:Option (Prop×AV×List (Id×Ob))}{q:Prop×AV×List (Id×Ob)}(h:stK T a r=some q):r=some q:=by
 unfold stK at h;split at h
 ·exact(Qa9 h).1
 ·exact h
def opM(T:QH)(d:Nat)(ρ:Operand→AV)(ob:Id→Ob)(fresh:Bool):Op→Option (Prop×AV×List (Id×Ob))
 | .assign x=>if(bxq T x&& !QBi (ρ x))=true then none else match QfB ob (ρ x)with
  | some (v,us)=>some (True,v,us)
  | none=>match ρ x with
   | .tup _=>none
   | .lit id s els=>QkE ob id s els
   | .one (.fb id ds)=>match ob id with
    | .none=>QoC T (some (True,.one (.bptr id 0),[(id,.box (ds.map .d))]))
    | _=>none
   | .one _=>none
   | .agg _=>none
   | v=>some (True,v,[])
 | .box t x=>match T.ty t,QfB ob (ρ x)with
  | some y,some (v,us)=>match Qb3 v with
   | some cs=>if cs.length=y.size then some (fresh=true,.one (.bptr (d,0) 0),us++[((d,0),.box cs)])else none
   | none=>none
  | _,_=>none
 | .alloc t=>match T.ty t with
  | some y=>some (fresh=true,.one (.bptr (d,0) 0),[((d,0),.box (y.zero.map fun v=> .d (.v v)))])
  | none=>none
 | .store t a x=>stK T a (Qk5 T ρ ob t a x)
 | .call {callee:= .builtin .append,args:=as,argTypes:=ts}=>match as.toList.map ρ,ts.toList with
  | [x,y],[t,t']=>if t=t' then(if T.im d then Qza T d ob fresh t x y else match Qy9 T d ob fresh t x y with
    | some r=>some r
    | none=>Qzb T d ob fresh t x y)
   else none
  | _,_=>none
 | .call {callee:= .value (.func f),args:=as,..}=>frG T ob (as.toList.map ρ) <| QoC T (match Qfj T d ob fresh f (as.toList.map ρ)with
  | some r=>some r
  | none=>match Qf9 T d ob fresh f (as.toList.map ρ)with
   | some r=>some r
   | none=>match Qga T d ob fresh f (as.toList.map ρ)with
    | some r=>some r
    | none=>match Qgb T d ob fresh f (as.toList.map ρ)with
     | some r=>some r
     | none=>QhT T d ob fresh f (as.toList.map ρ))
 | .slice t x none hi none=>match T.ty t,Qf7 ρ hi,QdH ob (Qpu ob (ρ x)) (ρ x)with
  | some {d:= .slice e,..},some (some h),some (l,dp,us)=>match T.ty e with
   | some y=>some (y.size=Qpu ob (ρ x)∧0<y.size∧dp≠0∧0≤h∧h≤l.length∧fresh=true,.one (.fr (d,0) y.size (l.take h.toNat) dp),us)
   | none=>none
  | _,_,_=>none
 | _=>none
def opF(T:QH)(d:Nat)(ρ:Operand→AV)(ob:Id→Ob)(fresh im:Bool)(o:Op):Option (Prop×AV×List (Id×Ob)):=
 match cls T o with
 | .P=>match opP T ρ o with
  | some (p,v)=>some (p,v,[])
  | none=>none
 | .R=>match opR T d ρ ob fresh im o with
  | some (p,v)=>some (p,v,[])
  | none=>none
 | .M=>opM T d ρ ob fresh o
def gOf(ops:Array Oper)(s:St)(o:Oper):Option (Option Bool):=
 match o.guard with
 | none=>some none
 | some (j,want)=>match (ops[j]?).bind (·.dst)with
  | some t=>match s.sl t with
   | .one (.d (.v (.bool b)))=>some (some (b==want))
   | .cnd g (.one (.d (.v (.bool b))))=>some (some (g&&(b==want)))
   | .cnd false .unk=>some (some false)
   | _=>none
  | none=>none
def Qcc:AV→AV
 | .cnd _ v=>v
 | v=>v
def Qc2(g:Bool):AV→Prop
 | .cnd g' _=>g=true→g'=true
 | _=>True
def Ob.isNone:Ob→Bool
 | .none=>true
 | _=>false
def Qn(s:St):Option Nat→Bool
 | some d=>(s.sl d).isAny&&(s.ob (d,0)).isNone&&(s.ob (d,1)).isNone&&(s.ob (d,2)).isNone&&(s.ob (d,3)).isNone
 | none=>false
def QhZ(s:St)(g:Bool):Op→Option (Prop×AV)
 | .pick c a b=>match Qcc (rho s c)with
  | .one (.d (.v (.bool x)))=>match Qe5 x (rho s a),Qe5 (!x) (rho s b)with
   | some (p,y),some (q,z)=>some (Qc2 g (rho s c)∧p∧q,bV (cond x y z))
   | _,_=>none
  | _=>none
 | _=>none
def F1(T:QH)(ops:Array Oper)(o:Oper)(s:St):Option (Prop×AV×List (Id×Ob)):=
 match gOf ops s o with
 | none=>none
 | some none=>opF T (o.dst.getD 0) (rho s) s.ob (Qn s o.dst) (T.im (o.dst.getD 0)) o.op
 | some (some g)=>match cls T o.op with
  | .M=>if T.bx 999=true then(if g=true then(match opF T (o.dst.getD 0) (fun x=>Qcc (rho s x)) s.ob (Qn s o.dst) false o.op with
    | some (p,v,us)=>some ((∀x∈o.op.operands.toList,Qc2 true (rho s x))∧p,v,us)
    | none=>none)else some (True,.cnd false .unk,[]))else none
  | _=>if(T.bx 999&& !g)=true then some (True,.cnd false .unk,[])else match QhZ s g o.op with
   | some (p,v)=>some (g=true→p,.cnd g v,[])
   | none=>match opF T (o.dst.getD 0) (fun x=>Qcc (rho s x)) s.ob false true o.op with
    | some (p,v,_)=>some (g=true→((∀x∈o.op.operands.toList,Qc2 g (rho s x))∧p),.cnd g v,[])
    | none=>none
def Qb4(r:Option (Prop×AV×List (Id×Ob)))(K:AV→List (Id×Ob)→Prop):Prop:=
 match r with
 | some (p,v,us)=>p∧K v us
 | none=>False
def TL(T:QH)(ops:Array Oper)(Q:St→Prop):List Oper→St→Prop
 | [],s=>Q s
 | o::r,s=>Qb4 (F1 T ops o s) fun v us=>TL T ops Q r (s.put o.dst v us)
end Go.Own
/-
  Own calculus, part E: an operation looks at its operands alone; two operations apart from each other may change places; so the order of a region does not matter. Conditions: none (lemmas).
-/
namespace Go.Own
open Go
variable {hd:Hid}
section
variable {T:QH} {ρ ρ':Operand→AV}
theorem Qc5{as:Array Operand}(h:∀x∈as,ρ x=ρ' x):as.toList.map ρ=as.toList.map ρ':=
 List.map_congr_left fun x hx=>h x (by simpa using hx)
theorem Qr0(o:Op)(h:∀x∈o.operands,ρ x=ρ' x):opP T ρ o=opP T ρ' o:=by
 cases o with
 | makeFunc fn first bs=>
  have hb:bs.toList.map ρ=bs.toList.map ρ':=List.map_congr_left fun x hx=>h x (by
   simp only[Op.operands,Array.mem_append];exact .inr (by simpa using hx))
  cases fn<;>first|rfl|(unfold opP;dsimp only;rw[hb])
 | _=>simp only[Op.operands]at h<;>simp only[opP]<;>(first|rfl|(simp_all;done))
theorem Qei{x:Option Operand}(h:∀y∈x.toList,ρ y=ρ' y):Qf7 ρ x=Qf7 ρ' x:=by
 cases x with
 | none=>rfl
 | some x=>simp only[Qf7];rw[h x (by simp)]
theorem Qht(d:Nat)(ob:Id→Ob)(fr im:Bool)(o:Op)(h:∀x∈o.operands,ρ x=ρ' x):opR T d ρ ob fr im o=opR T d ρ' ob fr im o:=by
 cases o with
 | load t x=>simp only[Op.operands]at h;simp only[opR];rw[h x (by simp)]
 | indexAddr t x i=>simp only[Op.operands]at h;simp only[opR];rw[h x (by simp),h i (by simp)]
 | index t x i=>simp only[Op.operands]at h;simp only[opR];rw[h x (by simp),h i (by simp)]
 | slice t x lo hi mx=>
  simp only[Op.operands]at h
  simp only[opR]
  rw[h x (by simp),Qei (x:=lo) (fun y hy=>h y (by simp at hy ⊢;simp[hy])),Qei (x:=hi) (fun y hy=>h y (by simp at hy ⊢;simp[hy]))]
 | convert a b x=>simp only[Op.operands]at h;simp only[opR];rw[h x (by simp)]
 | makeSlice t n c=>simp only[Op.operands]at h;simp only[opR];rw[h n (by simp),h c (by simp)]
 | buildSlice t n ps=>
  simp only[Op.operands]at h
  have hp:((ps.toList.map (·.2)).map fun x=>Qmy ob (ρ x))=(ps.toList.map (·.2)).map fun x=>Qmy ob (ρ' x):=List.map_congr_left fun x hx=>by rw[h x (by simpa using hx)]
  simp only[opR,Qib,hp]
 | build t ps=>
  simp only[Op.operands]at h
  have hp:(ps.toList.map (·.2)).map ρ=(ps.toList.map (·.2)).map ρ':=List.map_congr_left fun x hx=>h x (by simpa using hx)
  simp only[opR,hp]
 | call c=>
  obtain⟨cal,as,ts⟩:=c;have ha:as.toList.map ρ=as.toList.map ρ':=Qc5 fun x hx=>h x (by simp[Op.operands,Call.operands,hx])
  cases cal with
  | builtin b=>cases b<;>simp only[opR,ha]
  | invoke r m=>simp only[opR]
  | value f=>
   have hf:ρ f=ρ' f:=h f (by simp[Op.operands,Call.operands])
   cases f<;>simp only[opR,ha,hf]
 | _=>rfl
theorem QrZ(d:Nat)(ob:Id→Ob)(fr:Bool)(o:Op)(h:∀x∈o.operands,ρ x=ρ' x):opM T d ρ ob fr o=opM T d ρ' ob fr o:=by
 cases o with
 | assign x=>simp only[Op.operands]at h;simp only[opM];rw[h x (by simp)]
 | box t x=>simp only[Op.operands]at h;simp only[opM];rw[h x (by simp)]
 | store t a x=>simp only[Op.operands]at h;simp only[opM,Qk5,h x (by simp),h a (by simp)]
 | slice t x lo hi mx=>
  cases lo with
  | some _=>rfl
  | none=>
   cases mx with
   | some _=>rfl
   | none=>
    simp only[Op.operands]at h
    simp only[opM]
    rw[h x (by simp),Qei (x:=hi) (fun y hy=>h y (by simp at hy ⊢;simp[hy]))]
 | call c=>
  obtain⟨cal,as,ts⟩:=c;have ha:as.toList.map ρ=as.toList.map ρ':=Qc5 fun x hx=>h x (by simp[Op.operands,Call.operands,hx])
  cases cal with
  | builtin b=>cases b<;>simp only[opM,ha]
  | invoke r m=>simp only[opM]
  | value f=>cases f<;>simp only[opM,ha]
 | _=>rfl
theorem QeZ(d:Nat)(ob:Id→Ob)(fr im:Bool)(o:Op)(h:∀x∈o.operands,ρ x=ρ' x):opF T d ρ ob fr im o=opF T d ρ' ob fr im o:=by
 simp only[opF]
 cases cls T o with
 | P=>simp only[Qr0 o h]
 | R=>simp only[Qht d ob fr im o h]
 | M=>simp only[QrZ d ob fr o h]
end
theorem QBE(T:QH)(d:Nat)(ρ:Operand→AV)(ob ob':Id→Ob)(fr fr' im:Bool)(o:Op)(h:cls T o= .P):opF T d ρ ob fr im o=opF T d ρ ob' fr' im o:=by
 simp only[opF,h]
def Qoo(T:QH)(t:TypeId):Bool:=match T.ty t with
 | some {d:= .str,..}=>true
 | some {d:= .int _,..}=>true
 | _=>false
def QhY(T:QH):Op→Cls
 | .assign x=>if bxq T x then .P else .M
 | .build .. => .P
 | .index .. => .P
 | .slice t x _ _ _=>if bxq T x then .M else if Qoo T t||T.bx 997 then .P else .R
 | .convert t u _=>if Qoo T t&&Qoo T u then .P else .R
 | o=>cls T o
theorem Qr1(T:QH)(d:Nat)(ρ:Operand→AV)(ob ob':Id→Ob)(fr fr' im:Bool)(t:TypeId)(x i:Operand):opR T d ρ ob fr im (.index t x i)=opR T d ρ ob' fr' im (.index t x i):=rfl
theorem Qr2(T:QH)(d:Nat)(ρ:Operand→AV)(ob ob':Id→Ob)(fr fr' im:Bool)(t:TypeId)(x:Operand)(lo hi mx:Option Operand)(h:(Qoo T t||T.bx 997)=true):opR T d ρ ob fr im (.slice t x lo hi mx)=opR T d ρ ob' fr' im (.slice t x lo hi mx):=by
 rw[Bool.or_eq_true]at h;rcases h with h|h
 rotate_left
 ·simp only[opR,h,if_true]
 unfold Qoo at h;unfold opR;dsimp only;split at h
 ·rename_i hT
  rw[hT];cases Qf7 ρ lo<;>cases Qf7 ρ hi<;>cases mx<;>rfl
 ·rename_i hT
  rw[hT]
 ·cases h
theorem Qmh(T:QH)(d:Nat)(ρ:Operand→AV)(ob ob':Id→Ob)(fr fr' im:Bool)(t u:TypeId)(x:Operand)(h:(Qoo T t&&Qoo T u)=true):opR T d ρ ob fr im (.convert t u x)=opR T d ρ ob' fr' im (.convert t u x):=by
 rw[Bool.and_eq_true]at h;obtain⟨h,h'⟩:=h;unfold Qoo at h h';unfold opR;dsimp only;split at h
 ·rename_i hT
  split at h'
  ·rename_i hU
   rw[hT,hU];cases ρ x with
   | one c=>cases c with
    | d z=>cases z with
     | v q=>cases q<;>rfl
     | _=>rfl
    | _=>rfl
   | _=>rfl
  ·rename_i hU
   rw[hT,hU]
  ·cases h'
 ·rename_i hT
  split at h'
  ·rename_i hU
   rw[hT,hU]
  ·rename_i hU
   rw[hT,hU];cases ρ x with
   | one c=>cases c with
    | d z=>cases z with
     | v q=>cases q<;>rfl
     | _=>rfl
    | _=>rfl
   | _=>rfl
  ·cases h'
 ·cases h
theorem Qe0{T:QH}{d:Nat}{ρ:Operand→AV}{ob:Id→Ob}{fr:Bool}{x:Operand}(h:bxq T x=true):opM T d ρ ob fr (.assign x)=if QBi (ρ x)=true then some (True,ρ x,[])else none:=by
 simp only[opM,h,Bool.true_and]
 unfold QBi;split<;>simp[QfB, *]
theorem Qx7(T:QH)(d:Nat)(ρ:Operand→AV)(ob ob':Id→Ob)(fr fr' im:Bool)(o:Op)(h:QhY T o= .P):opF T d ρ ob fr im o=opF T d ρ ob' fr' im o:=by
 cases o with
 | assign x=>
  have hb:bxq T x=true:=by
   cases e:bxq T x with
   | true=>rfl
   | false=>simp[QhY,e]at h
  simp only[opF,cls,Qe0 hb]
 | build t ps=>simp only[opF,cls,opR]
 | index t x i=>simp only[opF,cls,Qr1 T d ρ ob ob' fr fr']
 | slice t x lo hi mx=>
  cases e:bxq T x with
  | true=>simp[QhY,e]at h
  | false=>
   have hw:(Qoo T t||T.bx 997)=true:=by
    cases e':(Qoo T t||T.bx 997)with
    | true=>rfl
    | false=>simp only[QhY,e,e',Bool.false_eq_true,if_false]at h;cases h
   simp only[opF,cls,e,Bool.false_eq_true,if_false,Qr2 T d ρ ob ob' fr fr' im t x lo hi mx hw]
 | convert t u x=>
  have hw:(Qoo T t&&Qoo T u)=true:=by
   cases e':(Qoo T t&&Qoo T u)with
   | true=>rfl
   | false=>simp only[QhY,e',Bool.false_eq_true,if_false]at h;cases h
  simp only[opF,cls,Qmh T d ρ ob ob' fr fr' im t u x hw]
 | _=>exact QBE _ _ _ _ _ _ _ _ _ h
theorem QiI{T:QH}{d:Nat}{ρ:Operand→AV}{ob:Id→Ob}{fr im:Bool}{o:Op}{p v us}(h:cls T o≠ .M)(hf:opF T d ρ ob fr im o=some (p,v,us)):us=[]:=by
 simp only[opF]at hf
 cases hc:cls T o with
 | P=>simp only[hc]at hf;split at hf<;>simp at hf;exact hf.2.2
 | R=>simp only[hc]at hf;split at hf<;>simp at hf;exact hf.2.2
 | M=>exact absurd hc h
theorem QrY{T:QH}{d:Nat}{ρ:Operand→AV}{ob:Id→Ob}{fr im:Bool}{o:Op}{p v us}(h:QhY T o≠ .M)(hf:opF T d ρ ob fr im o=some (p,v,us)):us=[]:=by
 cases o with
 | assign x=>
  have hb:bxq T x=true:=by
   cases e:bxq T x with
   | true=>rfl
   | false=>simp[QhY,e]at h
  simp only[opF,cls,Qe0 hb]at hf
  split at hf
  ·simp at hf;exact hf.2.2
  ·cases hf
 | build t ps=>exact QiI (fun h=>by cases h) hf
 | index t x i=>exact QiI (fun h=>by cases h) hf
 | convert t u x=>exact QiI (fun h=>by cases h) hf
 | slice t x lo hi mx=>
  refine QiI (fun h'=>h ?_) hf
  cases e:bxq T x with
  | true=>simp[QhY,e]
  | false=>simp[cls,e]at h'
 | _=>
  refine QiI ?_ hf
  exact h
theorem Qe2{s s':St}{x:Operand}(h:∀t,x= .tmp t→s'.sl t=s.sl t):rho s' x=rho s x:=by
 cases x with
 | tmp t=>exact h t rfl
 | _=>rfl
theorem Qci{T:QH}{ops:Array Oper}(o:Oper){s s':St}(h1:∀t∈o.looksAt ops,s'.sl t=s.sl t)(h2:∀d,o.dst=some d→s'.sl d=s.sl d)
  (h3:QhY T o.op= .P∨s'.ob=s.ob):F1 T ops o s'=F1 T ops o s:=by
 have hr:∀x∈o.op.operands,rho s' x=rho s x:=fun x hx=>Qe2 fun t ht=>h1 t (by
  subst ht;exact List.mem_append_left _ (List.mem_filterMap.2 ⟨.tmp t,by simpa using hx,rfl⟩))
 have hg:gOf ops s' o=gOf ops s o:=by
  unfold gOf;cases hgo:o.guard with
  | none=>rfl
  | some jw=>
   obtain⟨j,want⟩:=jw;cases hj:(ops[j]?).bind (·.dst)with
   | none=>simp only[hj]
   | some t=>
    have:=h1 t (by simp[Oper.looksAt,hgo,hj])
    simp only[hj,this]
 have hfr:s'.ob=s.ob→Qn s' o.dst=Qn s o.dst:=fun ho=>by
  cases hd:o.dst with
  | none=>rfl
  | some d=>simp only[Qn,h2 d hd,ho]
 have e1:∀b2,opF T (o.dst.getD 0) (rho s') s'.ob (Qn s' o.dst) b2 o.op=opF T (o.dst.getD 0) (rho s) s.ob (Qn s o.dst) b2 o.op:=fun b2=>by
  rw[QeZ (ρ:=rho s') (ρ':=rho s) _ _ _ _ _ hr];rcases h3 with h|h
  ·exact Qx7 _ _ _ _ _ _ _ _ _ h
  ·rw[hfr h,h]
 have e2:∀b1 b2,opF T (o.dst.getD 0) (fun x=>Qcc (rho s' x)) s'.ob b1 b2 o.op=opF T (o.dst.getD 0) (fun x=>Qcc (rho s x)) s.ob b1 b2 o.op:=fun b1 b2=>by
  rw[QeZ (ρ:=fun x=>Qcc (rho s' x)) (ρ':=fun x=>Qcc (rho s x)) _ _ _ _ _ fun x hx=>by rw[hr x hx]]
  rcases h3 with h|h
  ·exact Qx7 _ _ _ _ _ _ _ _ _ h
  ·rw[h]
 have e5:∀b2,opF T (o.dst.getD 0) (fun x=>Qcc (rho s' x)) s'.ob (Qn s' o.dst) b2 o.op=opF T (o.dst.getD 0) (fun x=>Qcc (rho s x)) s.ob (Qn s o.dst) b2 o.op:=fun b2=>by
  rw[QeZ (ρ:=fun x=>Qcc (rho s' x)) (ρ':=fun x=>Qcc (rho s x)) _ _ _ _ _ fun x hx=>by rw[hr x hx]]
  rcases h3 with h|h
  ·exact Qx7 _ _ _ _ _ _ _ _ _ h
  ·rw[hfr h,h]
 have e3:∀g,(∀x∈o.op.operands.toList,Qc2 g (rho s' x))=(∀x∈o.op.operands.toList,Qc2 g (rho s x)):=fun g=>by
  refine propext ⟨fun H x hx=>?_,fun H x hx=>?_⟩
  ·rw[←hr x (by simpa using hx)];exact H x hx
  ·rw[hr x (by simpa using hx)];exact H x hx
 have e4:∀g,QhZ s' g o.op=QhZ s g o.op:=fun g=>by
  obtain⟨dst,op,type,pos,after,guard⟩:=o;dsimp only at hr ⊢;cases op with
  | pick c a b=>
   have q1:=hr c (by simp[Op.operands])
   have q2:=hr a (by simp[Op.operands])
   have q3:=hr b (by simp[Op.operands])
   simp only[QhZ,q1,q2,q3]
  | _=>rfl
 unfold F1;rw[hg];simp only[e5]
 simp only[e1,e2,e3,e4]
theorem Qle{T:QH}{ops:Array Oper}{o:Oper}{s:St}{p v us}(h:QhY T o.op≠ .M)(hf:F1 T ops o s=some (p,v,us)):us=[]:=by
 unfold F1 at hf;split at hf
 ·cases hf
 ·exact QrY h hf
 ·split at hf
  ·split at hf
   ·split at hf
    ·split at hf
     ·rename_i h0
      simp only[Option.some.injEq,Prod.mk.injEq]at hf
      obtain⟨_,_,rfl⟩:=hf;exact QrY h h0
     ·cases hf
    ·simp at hf;exact hf.2.2
   ·cases hf
  ·split at hf
   ·simp at hf;exact hf.2.2
   ·split at hf
    ·simp at hf;exact hf.2.2
    ·split at hf
     ·simp at hf;exact hf.2.2
     ·cases hf
theorem Qom(f:Nat→AV){d e:Nat}(u v:AV)(h:d≠e):upd (upd f d u) e v=upd (upd f e v) d u:=by
 funext i
 simp only[upd]
 split<;>split<;>simp_all
theorem St.put_comm(s:St){x y:Option Nat}{u v:AV}{us vs:List (Id×Ob)}(h:∀d,x=some d→y≠some d)(hu:us=[]∨vs=[]):
  (s.put x u us).put y v vs=(s.put y v vs).put x u us:=by
 have ho:QY (QY s.ob us) vs=QY (QY s.ob vs) us:=by
  rcases hu with rfl|rfl<;>rfl
 cases x with
 | none=>cases y<;>simp only[St.put,ho]
 | some d=>
  cases y with
  | none=>simp only[St.put,ho]
  | some e=>
   have hde:d≠e:=fun he=>h d rfl (by rw[he])
   simp only[St.put,ho,Qom s.sl _ _ hde]
def QBC(T:QH):Op→Op→Bool
 | .load _ x,.call {callee:= .builtin .append,..}=>bxq T x
 | .call {callee:= .builtin .append,..},.load _ x=>bxq T x
 | .load _ x,.call {callee:= .value (.func _),..}=>bxq T x&&T.bx 1000
 | .call {callee:= .value (.func _),..},.load _ x=>bxq T x&&T.bx 1000
 | .load _ x,.store _ a _=>bxq T x&&bxs T a
 | .store _ a _,.load _ x=>bxq T x&&bxs T a
 | .load _ x,.assign _=>bxq T x&&T.bx 1000
 | .assign _,.load _ x=>bxq T x&&T.bx 1000
 | _,_=>false
def Qrs:Op→Bool
 | .load .. | .indexAddr .. =>true
 | _=>false
def QCp:Op→Op→Bool
 | x,.alloc _=>Qrs x
 | _,_=>false
def Qrm(T:QH)(ops:Array Oper)(x y:Oper):Bool:=
 x.apart ops y&&((match QhY T x.op,QhY T y.op with
  | .M,.P| .P,_| .R,.P| .R,.R=>true
  | _,_=>false)||QBC T x.op y.op)
def bsD(T:QH)(o:Oper):Bool:=match o.op,o.dst with
 | .buildSlice _ 0 ps,some d=>ps.toList.isEmpty&&(T.bx 1000&&T.bx (1001+d))
 | _,_=>false
def Qb9:Op→Bool
 | .call {callee:= .value (.func _),..}=>true
 | _=>false
def QBu(T:QH)(x y:Oper):Bool:=match y.op with
 | .alloc _=>Qb9 x.op&&(T.bx 996&&(x.guard.isNone&&y.guard.isNone))
 | _=>false
def Qrl(T:QH)(ops:Array Oper)(x y:Oper):Bool:=Qrm T ops x y||(x.apart ops y&&(QCp x.op y.op||QBu T x y))||(x.apart ops y&&((bsD T x&&Qb9 y.op)||(Qb9 x.op&&bsD T y)))
theorem QkL{T:QH}{d d':Nat}{ρ:Operand→AV}{ob ob':Id→Ob}{fr fr' im im':Bool}{t:TypeId}{x:Operand}(hb:bxq T x=true)(hbox:∀id,Qjp T id=true→∀cs,ob' id= .box cs↔ob id= .box cs):
  opR T d ρ ob' fr' im' (.load t x)=opR T d' ρ ob fr im (.load t x):=by
 simp only[opR,hb,Bool.true_and]
 cases hx:ρ x with
 | one c=>
  cases c with
  | bptr id o=>
   simp only[QkB]
   by_cases hk:Qjp T id=true
   rotate_left
   ·rw[Bool.not_eq_true]at hk;simp[hk]
   ·have hbox:=hbox id hk
    simp only[hk,Bool.not_true,Bool.false_eq_true,if_false]
    cases h:ob id with
    | box cs=>simp only[(hbox cs).2 h]
    | _=>
     cases h':ob' id with
     | box cs=>rw[(hbox cs).1 h']at h;cases h
     | _=>rfl
  | _=>simp only[QkB,Bool.not_false,if_true]
 | _=>simp only[QkB,Bool.not_false,if_true]
theorem QgB{T:QH}{ops:Array Oper}(o:Oper){s s':St}{t:TypeId}{x:Operand}(ho:o.op= .load t x)(hb:bxq T x=true)(h1:∀t∈o.looksAt ops,s'.sl t=s.sl t)(hbox:∀id,Qjp T id=true→∀cs,s'.ob id= .box cs↔s.ob id= .box cs):F1 T ops o s'=F1 T ops o s:=by
 have hr:∀x∈o.op.operands,rho s' x=rho s x:=fun x hx=>Qe2 fun t ht=>h1 t (by
  subst ht;exact List.mem_append_left _ (List.mem_filterMap.2 ⟨.tmp t,by simpa using hx,rfl⟩))
 have hg:gOf ops s' o=gOf ops s o:=by
  unfold gOf;cases hgo:o.guard with
  | none=>rfl
  | some jw=>
   obtain⟨j,want⟩:=jw;cases hj:(ops[j]?).bind (·.dst)with
   | none=>simp only[hj]
   | some t=>
    have:=h1 t (by simp[Oper.looksAt,hgo,hj])
    simp only[hj,this]
 have hxx:rho s' x=rho s x:=hr x (by rw[ho];simp[Op.operands])
 have e0:∀(f f':Operand→AV) (hf:f x=f' x) (b1 b1' b2:Bool),opF T (o.dst.getD 0) f s'.ob b1 b2 o.op=opF T (o.dst.getD 0) f' s.ob b1' b2 o.op:=fun f f' hf b1 b1' b2=>by
  rw[ho];have e:opR T (o.dst.getD 0) f s'.ob b1 b2 (.load t x)=opR T (o.dst.getD 0) f' s.ob b1' b2 (.load t x):=by
   rw[Qht (ρ:=f) (ρ':=f') _ _ _ _ _ (fun y hy=>by simp[Op.operands]at hy;rw[hy,hf])]
   exact QkL hb hbox
  have hc:cls T (.load t x)= .R:=rfl
  simp only[opF,hc,e]
 have e3:∀g,(∀x∈o.op.operands.toList,Qc2 g (rho s' x))=(∀x∈o.op.operands.toList,Qc2 g (rho s x)):=fun g=>by
  refine propext ⟨fun H x hx=>?_,fun H x hx=>?_⟩
  ·rw[←hr x (by simpa using hx)];exact H x hx
  ·rw[hr x (by simpa using hx)];exact H x hx
 have e4:∀g,QhZ s' g o.op=QhZ s g o.op:=fun g=>by rw[ho];rfl
 unfold F1;rw[hg];simp only[e0 (rho s') (rho s) hxx (Qn s' o.dst) (Qn s o.dst),e0 (fun x=>Qcc (rho s' x)) (fun x=>Qcc (rho s x)) (by rw[hxx]) false false,e0 (fun x=>Qcc (rho s' x)) (fun x=>Qcc (rho s x)) (by rw[hxx]) (Qn s' o.dst) (Qn s o.dst),e3,e4]
theorem Qgy{cs:List QA}{id:Id}:∀{us:List (Id×Ob)} {ob:Id→Ob},(∀q∈us,(∀cs,q.2≠ .box cs)∧∀cs,ob q.1≠ .box cs)→(QY ob us id= .box cs↔ob id= .box cs)
 | [],ob,_=>Iff.rfl
 | (k,o)::us,ob,h=>by
  obtain⟨hk0,hk⟩:=h (k,o) (by simp)
  rw[QY,Qgy (us:=us) fun q hq=>⟨(h q (by simp[hq])).1,fun cs=>?_⟩]
  ·by_cases e:id=k
   ·subst e;simp only[if_true];exact⟨fun h=>absurd h (hk0 cs),fun h=>absurd h (hk cs)⟩
   ·simp only[e,if_false]
  ·by_cases e:q.1=k
   ·simp only[e,if_true];exact hk0 cs
   ·simp only[e,if_false];exact(h q (by simp[hq])).2 cs
theorem Qeu{ob:Id→Ob}{c:QA}{id:Id}{r}(h:Qu ob c=some (id,r)):∀cs,ob id≠ .box cs:=by
 intro cs hc;cases c with
 | fr id'=>
  simp only[Qu]at h
  split at h
  ·rename_i e
   simp only[Option.some.injEq,Prod.mk.injEq]at h
   obtain⟨rfl,_⟩:=h;rw[hc]at e;cases e
  ·cases h
 | osl id'=>
  simp only[Qu]at h
  split at h
  ·rename_i e
   simp only[Option.some.injEq,Prod.mk.injEq]at h
   obtain⟨rfl,_⟩:=h;rw[hc]at e;cases e
  ·cases h
 | _=>simp[Qu]at h
theorem QsM{ob:Id→Ob}{sz:Nat}{x:AV}{l dp us}(h:QdH ob sz x=some (l,dp,us)):∀q∈us,(∀cs,q.2≠ .box cs)∧∀cs,ob q.1≠ .box cs:=by
 unfold QdH at h;split at h
 ·simp only[Option.some.injEq,Prod.mk.injEq]at h;obtain⟨_,_,rfl⟩:=h;simp
 ·split at h
  ·rename_i ho
   split at h
   ·simp only[Option.some.injEq,Prod.mk.injEq]at h;obtain⟨_,_,rfl⟩:=h
    intro q hq;simp only[List.mem_singleton]at hq;subst hq;exact⟨(fun _ h=>nomatch h),Qeu ho⟩
   ·cases h
  ·cases h
 ·split at h
  ·rename_i ho _
   split at h
   ·simp only[Option.some.injEq,Prod.mk.injEq]at h;obtain⟨_,_,rfl⟩:=h
    intro q hq;simp only[List.mem_singleton]at hq;subst hq;exact⟨(fun _ h=>nomatch h),fun cs hc=>by rw[hc]at ho;cases ho⟩
   ·cases h
  ·cases h
 ·cases h
theorem QsE{ob:Id→Ob}{sz dp:Nat}{deep:Bool}{x:AV}{p l dp' us}(h:Qps ob sz deep dp x=some (p,l,dp',us)):∀q∈us,(∀cs,q.2≠ .box cs)∧∀cs,ob q.1≠ .box cs:=by
 have nil:∀{P:Id×Ob→Prop},us=[]→∀q∈us,P q:=fun h q hq=>by rw[h]at hq;cases hq
 unfold Qps at h;split at h
 ·split at h
  ·split at h
   ·split at h
    ·simp only[Option.some.injEq,Prod.mk.injEq]at h;exact nil h.2.2.2.symm
    ·split at h
     ·split at h
      ·rename_i ho
       split at h
       ·cases h
       ·simp only[Option.some.injEq,Prod.mk.injEq]at h
        intro q hq;rw[←h.2.2.2]at hq;simp only[List.mem_singleton]at hq
        subst hq;exact⟨(fun _ h=>nomatch h),Qeu ho⟩
      ·split at h
       ·simp only[Option.some.injEq,Prod.mk.injEq]at h;exact nil h.2.2.2.symm
       ·cases h
     ·split at h
      ·simp only[Option.some.injEq,Prod.mk.injEq]at h;exact nil h.2.2.2.symm
      ·cases h
   ·cases h
  ·cases h
 ·split at h
  ·simp only[Option.some.injEq,Prod.mk.injEq]at h;exact nil h.2.2.2.symm
  ·split at h
   ·simp only[Option.some.injEq,Prod.mk.injEq]at h;exact nil h.2.2.2.symm
   ·simp only[Option.some.injEq,Prod.mk.injEq]at h;exact nil h.2.2.2.symm
   ·cases h
 ·cases h
theorem Qtv{T:QH}{d:Nat}{ob:Id→Ob}{fresh:Bool}{t:TypeId}{x y:AV}{p v us}(h:Qy9 T d ob fresh t x y=some (p,v,us)):∀q∈us,(∀cs,q.2≠ .box cs)∧∀cs,ob q.1≠ .box cs:=by
 unfold Qy9 at h;split at h
 ·split at h
  ·split at h
   ·rename_i l dp us1 ht
    split at h
    ·rename_i q m dp' us2 hs
     simp only[Option.some.injEq,Prod.mk.injEq]at h
     obtain⟨_,_,rfl⟩:=h;intro q hq;rcases List.mem_append.1 hq with hq|hq
     ·exact QsM ht q hq
     ·refine⟨(QsE hs q hq).1,fun cs hcs=>(QsE hs q hq).2 cs ((Qgy (QsM ht)).2 hcs)⟩
    ·cases h
   ·cases h
  ·cases h
 ·cases h
theorem Qtx{T:QH}{d:Nat}{ob:Id→Ob}{fresh:Bool}{t:TypeId}{x y:AV}{p v us}(h:Qzb T d ob fresh t x y=some (p,v,us)):∀q∈us,(∀cs,q.2≠ .box cs)∧∀cs,ob q.1≠ .box cs:=by
 unfold Qzb at h;split at h
 ·split at h
  ·rename_i ho
   simp only[Option.some.injEq,Prod.mk.injEq]at h
   obtain⟨_,_,rfl⟩:=h;intro q hq;rw[List.mem_singleton]at hq;subst hq;refine⟨(fun _ h=>nomatch h),fun cs hcs=>?_⟩
   rw[ho]at hcs;cases hcs
  ·cases h
 ·cases h
theorem Qtw{T:QH}{d:Nat}{ob:Id→Ob}{fresh:Bool}{t:TypeId}{x y:AV}{p v us}(h:Qza T d ob fresh t x y=some (p,v,us)):∀q∈us,(∀cs,q.2≠ .box cs)∧∀cs,ob q.1≠ .box cs:=by
 unfold Qza at h;split at h
 ·split at h
  ·rename_i h1 h2 h3 h4
   simp only[Option.some.injEq,Prod.mk.injEq]at h
   obtain⟨_,_,rfl⟩:=h;intro q hq;simp only[List.mem_cons,List.not_mem_nil,or_false]at hq
   rcases hq with rfl|rfl|rfl
   ·exact⟨(fun _ h=>nomatch h),fun cs hcs=>by rw[h1]at hcs;cases hcs⟩
   ·exact⟨(fun _ h=>nomatch h),fun cs hcs=>by rw[h3]at hcs;cases hcs⟩
   ·exact⟨(fun _ h=>nomatch h),fun cs hcs=>by rw[h4]at hcs;cases hcs⟩
  ·cases h
 ·cases h
theorem Qh8{T:QH}{d:Nat}{ρ:Operand→AV}{ob:Id→Ob}{fr im:Bool}{op:Op}{as:Array Operand}{ts:Array TypeId}{p v us}(ho:op= .call ⟨.builtin .append,as,ts⟩)(h:opF T d ρ ob fr im op=some (p,v,us)):∀q∈us,(∀cs,q.2≠ .box cs)∧∀cs,ob q.1≠ .box cs:=by
 have hc:cls T op= .M:=by rw[ho];rfl
 simp only[opF,hc]at h
 rw[ho]at h;unfold opM at h;dsimp only at h;split at h
 ·split at h
  ·split at h
   ·exact Qtw h
   ·split at h
    ·rename_i h1
     rw[h]at h1;exact Qtv h1
    ·exact Qtx h
  ·cases h
 ·cases h
theorem Qov{T:QH}{ops:Array Oper}{o:Oper}{s:St}{as:Array Operand}{ts:Array TypeId}{p v us}(ho:o.op= .call ⟨.builtin .append,as,ts⟩)(h:F1 T ops o s=some (p,v,us)):∀q∈us,(∀cs,q.2≠ .box cs)∧∀cs,s.ob q.1≠ .box cs:=by
 have hc:cls T o.op= .M:=by rw[ho];rfl
 unfold F1 at h;split at h
 ·cases h
 ·exact Qh8 ho h
 ·simp only[hc]at h
  split at h
  ·split at h
   ·split at h
    ·rename_i h0
     simp only[Option.some.injEq,Prod.mk.injEq]at h
     obtain⟨_,_,rfl⟩:=h;exact Qh8 ho h0
    ·cases h
   ·simp only[Option.some.injEq,Prod.mk.injEq]at h
    obtain⟨_,_,rfl⟩:=h;intro q hq;cases hq
  ·cases h
def Qnu(T:QH):Op→Bool
 | .call {callee:= .builtin .append,..}=>true
 | .call {callee:= .value (.func _),..}=>T.bx 1000
 | .store _ a _=>bxs T a
 | .assign _=>T.bx 1000
 | _=>false
theorem QdJ{id:Id}:∀{us:List (Id×Ob)} {ob:Id→Ob},(∀q∈us,q.1≠id)→QY ob us id=ob id
 | [],ob,_=>rfl
 | (k,o)::us,ob,h=>by
  rw[QY,QdJ (us:=us) fun q hq=>h q (by simp[hq]),if_neg]
  exact fun e=>h (k,o) (by simp) e.symm
theorem QeR{T:QH}{d:Nat}{ρ:Operand→AV}{ob:Id→Ob}{fr im:Bool}{op:Op}{f:FuncId}{as:Array Operand}{ts:Array TypeId}{p v us}(e:op= .call ⟨.value (.func f),as,ts⟩)(hk:T.bx 1000=true)(h:opF T d ρ ob fr im op=some (p,v,us)){id:Id}(hid':T.bx (1001+id.1)=true):us=[]∨∀q∈us,q.1≠id:=by
 unfold opF at h;split at h
 ·split at h
  ·simp at h;exact .inl h.2.2
  ·cases h
 ·split at h
  ·simp at h;exact .inl h.2.2
  ·cases h
 ·rw[e]at h
  unfold opM at h;have:=(Qa9 (QcV h).1).2 hk
  exact .inr fun q hq e2=>by rw[←e2,this q hq]at hid';cases hid'
theorem Qnv{T:QH}{d:Nat}{ρ:Operand→AV}{ob:Id→Ob}{fr im:Bool}{op:Op}{t:TypeId}{a x:Operand}{p v us}(e:op= .store t a x)(hk:bxs T a=true)(h:opF T d ρ ob fr im op=some (p,v,us)){id:Id}(hid':T.bx (1001+id.1)=true):us=[]∨∀q∈us,q.1≠id:=by
 have hc:cls T op= .M:=by rw[e];rfl
 simp only[opF,hc]at h
 rw[e]at h;simp only[opM,stK,if_pos hk]at h
 have hb:T.bx 1000=true:=by
  unfold bxs at hk;split at hk
  ·rw[Bool.and_eq_true]at hk;exact hk.1
  ·cases hk
 have:=(Qa9 h).2 hb
 exact .inr fun q hq e2=>by rw[←e2,this q hq]at hid';cases hid'
theorem Qdx{ob:Id→Ob}:∀{cs cs':List QA} {us:List (Id×Ob)},QaI ob cs=some (cs',us)→∀q∈us,(∀cs,q.2≠ .box cs)∧∀cs,ob q.1≠ .box cs
 | [],cs',us,h=>by
  simp only[QaI,Option.some.injEq,Prod.mk.injEq]at h
  obtain⟨_,rfl⟩:=h;intro q hq;cases hq
 | c::cs,cs',us,h=>by
  have plain:∀{cs1 us1},QaI ob cs=some (cs1,us1)→us=us1→∀q∈us,(∀cs,q.2≠ .box cs)∧∀cs,ob q.1≠ .box cs:=fun h1 h2=>by
   subst h2;exact Qdx h1
  cases c with
  | fr id sz l dp=>
   simp only[QaI]at h
   split at h
   ·rename_i cs1 us1 ho hm1
    simp only[Option.some.injEq,Prod.mk.injEq]at h
    obtain⟨_,rfl⟩:=h;intro q hq;rcases List.mem_cons.1 hq with rfl|hq
    ·exact⟨(fun _ h=>nomatch h),fun cs hcs=>by rw[ho]at hcs;cases hcs⟩
    ·exact Qdx hm1 q hq
   ·cases h
  | _=>
   simp only[QaI]at h
   split at h
   ·rename_i hm1
    simp only[Option.some.injEq,Prod.mk.injEq]at h
    exact plain hm1 h.2.symm
   ·cases h
theorem QrI{ob:Id→Ob}{av av':AV}{us:List (Id×Ob)}(h:QfB ob av=some (av',us)):∀q∈us,(∀cs,q.2≠ .box cs)∧∀cs,ob q.1≠ .box cs:=by
 have one:∀{id:Id} {o:Ob},ob id= .none→(∀cs,o≠ .box cs)→us=[(id,o)]→∀q∈us,(∀cs,q.2≠ .box cs)∧∀cs,ob q.1≠ .box cs:=fun {id o} ho h2 h3 q hq=>by
  subst h3;rw[List.mem_singleton]at hq;subst hq;exact⟨h2,fun cs hcs=>by rw[ho]at hcs;cases hcs⟩
 unfold QfB at h;split at h
 ·split at h
  ·simp only[Option.some.injEq,Prod.mk.injEq]at h
   exact one ‹_› (by intro _ h;cases h) h.2.symm
  ·cases h
 ·cases h
 ·simp only[Option.some.injEq,Prod.mk.injEq]at h
  obtain⟨_,rfl⟩:=h;intro q hq;cases hq
 ·split at h
  ·rename_i hm
   split at h
   ·simp only[Option.some.injEq,Prod.mk.injEq]at h
    obtain⟨_,rfl⟩:=h;exact Qdx hm
   ·cases h
  ·cases h
 ·split at h
  ·split at h
   ·simp only[Option.some.injEq,Prod.mk.injEq]at h
    exact one ‹_› (by intro _ h;cases h) h.2.symm
   ·split at h
    ·simp only[Option.some.injEq,Prod.mk.injEq]at h
     exact one ‹_› (by intro _ h;cases h) h.2.symm
    ·cases h
  ·cases h
 ·cases h
theorem Qpa{ob:Id→Ob}{id:Id}{s:Nat}{els:List (List QA)}{p v us}(h:QkE ob id s els=some (p,v,us)):∀q∈us,(∀cs,q.2≠ .box cs)∧∀cs,ob q.1≠ .box cs:=by
 unfold QkE at h;split at h
 ·split at h
  ·rename_i ho ho2
   simp only[Option.some.injEq,Prod.mk.injEq]at h
   obtain⟨_,_,rfl⟩:=h;intro q hq;simp only[List.mem_cons,List.not_mem_nil,or_false]at hq
   rcases hq with rfl|rfl
   ·exact⟨(fun _ h=>nomatch h),Qeu ho2⟩
   ·exact⟨(fun _ h=>nomatch h),fun cs hcs=>by rw[ho]at hcs;cases hcs⟩
  ·cases h
 ·cases h
theorem Qh9{T:QH}{d:Nat}{ρ:Operand→AV}{ob:Id→Ob}{fr im:Bool}{op:Op}{x:Operand}{p v us}(e:op= .assign x)(hk:T.bx 1000=true)(h:opF T d ρ ob fr im op=some (p,v,us)){id:Id}(hid':T.bx (1001+id.1)=true):
  (∀q∈us,(∀cs,q.2≠ .box cs)∧∀cs,ob q.1≠ .box cs)∨∀q∈us,q.1≠id:=by
 have hc:cls T op= .M:=by rw[e];rfl
 simp only[opF,hc]at h
 rw[e]at h;unfold opM at h;dsimp only at h;split at h
 ·cases h
 split at h
 ·rename_i hm
  simp only[Option.some.injEq,Prod.mk.injEq]at h
  obtain⟨_,_,rfl⟩:=h;exact .inl (QrI hm)
 ·split at h
  ·cases h
  ·exact .inl (Qpa h)
  ·split at h
   ·have:=(Qa9 h).2 hk
    exact .inr fun q hq e2=>by rw[←e2,this q hq]at hid';cases hid'
   ·cases h
  ·cases h
  ·cases h
  ·simp only[Option.some.injEq,Prod.mk.injEq]at h
   obtain⟨_,_,rfl⟩:=h;exact .inl fun q hq=>nomatch hq
theorem QkC{T:QH}{ops:Array Oper}{o:Oper}{s:St}{p v us}(hk:Qnu T o.op=true)(h:F1 T ops o s=some (p,v,us)){id:Id}(hid:Qjp T id=true)(cs:List QA):QY s.ob us id= .box cs↔s.ob id= .box cs:=by
 unfold Qnu at hk;split at hk
 ·rename_i e;exact Qgy (Qov e h)
 ·rename_i f as ts e
  have hid':T.bx (1001+id.1)=true:=by unfold Qjp at hid;rw[hk]at hid;simpa using hid
  have:us=[]∨∀q∈us,q.1≠id:=by
   unfold F1 at h;split at h
   ·cases h
   ·exact QeR e hk h hid'
   ·split at h
    ·split at h
     ·split at h
      ·split at h
       ·rename_i h0
        simp only[Option.some.injEq,Prod.mk.injEq]at h
        obtain⟨_,_,rfl⟩:=h;exact QeR e hk h0 hid'
       ·cases h
      ·simp at h;exact .inl h.2.2
     ·cases h
    ·split at h
     ·simp at h;exact .inl h.2.2
     ·split at h
      ·simp at h;exact .inl h.2.2
      ·split at h
       ·simp at h;exact .inl h.2.2
       ·cases h
  rcases this with rfl|this
  ·exact Iff.rfl
  ·rw[QdJ this]
 ·rename_i t a x e
  have hb:T.bx 1000=true:=by
   have hk:=hk
   unfold bxs at hk;split at hk
   ·rw[Bool.and_eq_true]at hk;exact hk.1
   ·cases hk
  have hid':T.bx (1001+id.1)=true:=by unfold Qjp at hid;rw[hb]at hid;simpa using hid
  have:us=[]∨∀q∈us,q.1≠id:=by
   unfold F1 at h;split at h
   ·cases h
   ·exact Qnv e hk h hid'
   ·split at h
    ·split at h
     ·split at h
      ·split at h
       ·rename_i h0
        simp only[Option.some.injEq,Prod.mk.injEq]at h
        obtain⟨_,_,rfl⟩:=h;exact Qnv e hk h0 hid'
       ·cases h
      ·simp at h;exact .inl h.2.2
     ·cases h
    ·split at h
     ·simp at h;exact .inl h.2.2
     ·split at h
      ·simp at h;exact .inl h.2.2
      ·split at h
       ·simp at h;exact .inl h.2.2
       ·cases h
  rcases this with rfl|this
  ·exact Iff.rfl
  ·rw[QdJ this]
 ·rename_i x e
  have hid':T.bx (1001+id.1)=true:=by unfold Qjp at hid;rw[hk]at hid;simpa using hid
  have nil:us=[]→(∀q∈us,(∀cs,q.2≠ .box cs)∧∀cs,s.ob q.1≠ .box cs)∨∀q∈us,q.1≠id:=fun h=>by subst h;exact .inl fun q hq=>nomatch hq
  have:(∀q∈us,(∀cs,q.2≠ .box cs)∧∀cs,s.ob q.1≠ .box cs)∨∀q∈us,q.1≠id:=by
   unfold F1 at h;split at h
   ·cases h
   ·exact Qh9 e hk h hid'
   ·split at h
    ·split at h
     ·split at h
      ·split at h
       ·rename_i h0
        simp only[Option.some.injEq,Prod.mk.injEq]at h
        obtain⟨_,_,rfl⟩:=h;exact Qh9 e hk h0 hid'
       ·cases h
      ·simp at h;exact nil h.2.2
     ·cases h
    ·split at h
     ·simp at h;exact nil h.2.2
     ·split at h
      ·simp at h;exact nil h.2.2
      ·split at h
       ·simp at h;exact nil h.2.2
       ·cases h
  rcases this with this|this
  ·exact Qgy this
  ·rw[QdJ this]
 ·cases hk
theorem Qx(s:St)(x:Option Nat)(u:AV)(us:List (Id×Ob))(t:Nat)(h:x≠some t):(s.put x u us).sl t=s.sl t:=by
 cases x with
 | none=>rfl
 | some d=>simp only[St.put];exact QsT _ _ _ _ fun e=>h (e▸rfl)
theorem Qtf{T:QH}{ops:Array Oper}{x y:Oper}(h:Qrm T ops x y=true){K:St→Prop}{s:St}
  (H:Qb4 (F1 T ops x s) fun v us=>Qb4 (F1 T ops y (s.put x.dst v us)) fun u vs=>K ((s.put x.dst v us).put y.dst u vs)):
  Qb4 (F1 T ops y s) fun v us=>Qb4 (F1 T ops x (s.put y.dst v us)) fun u vs=>K ((s.put y.dst v us).put x.dst u vs):=by
 unfold Qrm at h;rw[Bool.and_eq_true]at h;obtain⟨ha,hc⟩:=h;obtain⟨h1,h2,h3⟩:=Oper.apart_spec ha;rw[Bool.or_eq_true]at hc;have hc':QBC T x.op y.op=true→(∃t z,x.op= .load t z∧Qnu T y.op=true∧bxq T z=true)∨(∃t z,y.op= .load t z∧Qnu T x.op=true∧bxq T z=true):=fun h=>by
  unfold QBC at h;split at h
  ·rename_i e1 e2;exact .inl ⟨_,_,e1,by rw[e2];rfl,h⟩
  ·rename_i e1 e2;exact .inr ⟨_,_,e2,by rw[e1];rfl,h⟩
  ·rename_i e1 e2;rw[Bool.and_eq_true]at h;exact .inl ⟨_,_,e1,by rw[e2];exact h.2,h.1⟩
  ·rename_i e1 e2;rw[Bool.and_eq_true]at h;exact .inr ⟨_,_,e2,by rw[e1];exact h.2,h.1⟩
  ·rename_i e1 e2;rw[Bool.and_eq_true]at h;exact .inl ⟨_,_,e1,by rw[e2];exact h.2,h.1⟩
  ·rename_i e1 e2;rw[Bool.and_eq_true]at h;exact .inr ⟨_,_,e2,by rw[e1];exact h.2,h.1⟩
  ·rename_i e1 e2;rw[Bool.and_eq_true]at h;exact .inl ⟨_,_,e1,by rw[e2];exact h.2,h.1⟩
  ·rename_i e1 e2;rw[Bool.and_eq_true]at h;exact .inr ⟨_,_,e2,by rw[e1];exact h.2,h.1⟩
  ·cases h
 have hdst:∀d,y.dst=some d→x.dst≠some d:=fun d hy hx=>h2 d hx hy
 cases hx:F1 T ops x s with
 | none=>rw[hx]at H;exact H.elim
 | some r=>
  obtain⟨p,v,us⟩:=r;rw[hx]at H;obtain⟨hp,H⟩:=H;have cx:QhY T x.op= .M∨us=[]:=by
   by_cases hm:QhY T x.op= .M
   ·exact .inl hm
   ·exact .inr (Qle hm hx)
  have ey:F1 T ops y (s.put x.dst v us)=F1 T ops y s:=by
   rcases cx with hm|rfl
   ·rcases hc with hc|hc
    ·refine Qci y (fun t ht=>Qx _ _ _ _ _ fun e=>h1 t e ht) (fun d hd=>Qx _ _ _ _ _ (hdst d hd)) ?_
     rw[hm]at hc;left
     cases hy:QhY T y.op<;>simp_all
    ·rcases hc' hc with⟨t,z,e1,e2,e3⟩|⟨t,z,e1,e2,e3⟩
     ·rw[e1]at hm;cases hm
     ·exact QgB y e1 e3 (fun t ht=>Qx _ _ _ _ _ fun e=>h1 t e ht) fun id hk cs=>by rw[St.put_ob];exact QkC e2 hx hk cs
   ·refine Qci y (fun t ht=>Qx _ _ _ _ _ fun e=>h1 t e ht) (fun d hd=>Qx _ _ _ _ _ (hdst d hd)) ?_
    right;rw[St.put_ob];rfl
  rw[ey]at H;cases hy:F1 T ops y s with
  | none=>rw[hy]at H;exact H.elim
  | some r=>
   obtain⟨q,u,vs⟩:=r;rw[hy]at H;obtain⟨hq,H⟩:=H;have cy:QhY T y.op= .M∨vs=[]:=by
    by_cases hm:QhY T y.op= .M
    ·exact .inl hm
    ·exact .inr (Qle hm hy)
   have ex:F1 T ops x (s.put y.dst u vs)=F1 T ops x s:=by
    rcases cy with hm|rfl
    ·rcases hc with hc|hc
     ·refine Qci x (fun t ht=>Qx _ _ _ _ _ fun e=>h3 t e ht) (fun d hd=>Qx _ _ _ _ _ fun e=>h2 d hd e) ?_
      rw[hm]at hc;left
      cases hx':QhY T x.op<;>simp_all
     ·rcases hc' hc with⟨t,z,e1,e2,e3⟩|⟨t,z,e1,e2,e3⟩
      ·exact QgB x e1 e3 (fun t ht=>Qx _ _ _ _ _ fun e=>h3 t e ht) fun id hk cs=>by rw[St.put_ob];exact QkC e2 hy hk cs
      ·rw[e1]at hm;cases hm
    ·refine Qci x (fun t ht=>Qx _ _ _ _ _ fun e=>h3 t e ht) (fun d hd=>Qx _ _ _ _ _ fun e=>h2 d hd e) ?_
     right;rw[St.put_ob];rfl
   refine⟨hq,?_⟩
   simp only
   rw[ex,hx];refine⟨hp,?_⟩
   show K ((s.put y.dst u vs).put x.dst v us)
   rw[show(s.put y.dst u vs).put x.dst v us=(s.put x.dst v us).put y.dst u vs from(St.put_comm s h2 ?_).symm]
   ·exact H
   ·rcases cx with hm|rfl
    ·rcases cy with hm'|rfl
     ·rcases hc with hc|hc
      ·rw[hm,hm']at hc;simp at hc
      ·rcases hc' hc with⟨t,z,e1,e2,e3⟩|⟨t,z,e1,e2,e3⟩
       ·rw[e1]at hm;cases hm
       ·rw[e1]at hm';cases hm'
     ·exact .inr rfl
    ·exact .inl rfl
theorem Qx8{T:QH}{d d':Nat}{ρ:Operand→AV}{ob:Id→Ob}{fr fr' im im':Bool}{o:Op}{k:Id}{o0:Ob}{r}(hl:Qrs o=true)(h0:ob k= .none)(hs:opR T d ρ ob fr im o=some r):
  opR T d' ρ (fun id=>if id=k then o0 else ob id) fr' im' o=some r:=by
 cases o with
 | load t x=>
  simp only[opR]at hs ⊢
  split at hs
  ·cases hs
  ·rename_i hb
   rw[if_neg hb];cases hx:ρ x with
   | one c=>
    cases c with
    | bptr id o=>
     simp only[hx]at hs ⊢
     by_cases e:id=k
     ·subst e
      rw[h0]at hs;split at hs<;>cases hs
     ·simp only[e,if_false]
      exact hs
    | optr id i o=>
     simp only[hx]at hs ⊢
     by_cases e:id=k
     ·subst e
      rw[h0]at hs;split at hs<;>cases hs
     ·simp only[e,if_false]
      exact hs
    | nptr id i o s' j=>
     simp only[hx]at hs ⊢
     by_cases e:id=k
     ·subst e
      rw[h0]at hs;split at hs<;>cases hs
     ·simp only[e,if_false]
      exact hs
    | _=>simp only[hx]at hs ⊢;exact hs
   | _=>simp only[hx]at hs ⊢;exact hs
 | indexAddr t x i=>
  simp only[opR]at hs ⊢
  cases hx:ρ x with
  | one c=>
   cases c with
   | osl id=>
    simp only[hx]at hs ⊢
    by_cases e:id=k
    ·subst e
     rw[h0]at hs;split at hs
     ·split at hs<;>cases hs
     ·cases hs
    ·simp only[e,if_false]
     exact hs
   | d z=>cases z<;>(simp only[hx]at hs ⊢;exact hs)
   | n z=>cases z<;>(simp only[hx]at hs ⊢;exact hs)
   | isl id i' o=>
    simp only[hx]at hs ⊢
    by_cases e:id=k
    ·subst e
     rw[h0]at hs;split at hs
     ·split at hs<;>cases hs
     ·cases hs
    ·simp only[e,if_false]
     exact hs
   | _=>simp only[hx]at hs ⊢;exact hs
  | _=>simp only[hx]at hs ⊢;exact hs
 | _=>cases hl
theorem Qo5{T:QH}{o:Op}(h:Qrs o=true):QhY T o≠ .M:=by
 cases o<;>first|(cases h;done)|(intro e;cases e)
theorem Qoq{T:QH}{ops:Array Oper}(o:Oper){s s':St}{k:Id}{o0:Ob}{r}(hl:Qrs o.op=true)(h1:∀t∈o.looksAt ops,s'.sl t=s.sl t)(h0:s.ob k= .none)
  (hob:s'.ob=fun id=>if id=k then o0 else s.ob id) (hs:F1 T ops o s=some r):F1 T ops o s'=some r:=by
 have hr:∀x∈o.op.operands,rho s' x=rho s x:=fun x hx=>Qe2 fun t ht=>h1 t (by
  subst ht;exact List.mem_append_left _ (List.mem_filterMap.2 ⟨.tmp t,by simpa using hx,rfl⟩))
 have hg:gOf ops s' o=gOf ops s o:=by
  unfold gOf;cases hgo:o.guard with
  | none=>rfl
  | some jw=>
   obtain⟨j,want⟩:=jw;cases hj:(ops[j]?).bind (·.dst)with
   | none=>simp only[hj]
   | some t=>
    have:=h1 t (by simp[Oper.looksAt,hgo,hj])
    simp only[hj,this]
 have hcc:cls T o.op= .R:=by
  cases ho:o.op<;>first|rfl|(rw[ho]at hl;cases hl)
 have e4:∀s g,QhZ s g o.op=none:=fun s g=>by
  cases ho:o.op<;>first|rfl|(rw[ho]at hl;cases hl)
 have e0:∀(f f':Operand→AV) (hf:∀y∈o.op.operands,f y=f' y) (b1 b1' b2:Bool) (q),opF T (o.dst.getD 0) f' s.ob b1' b2 o.op=some q→opF T (o.dst.getD 0) f s'.ob b1 b2 o.op=some q:=fun f f' hf b1 b1' b2 q hq=>by
  simp only[opF,hcc]at hq ⊢
  cases hR:opR T (o.dst.getD 0) f' s.ob b1' b2 o.op with
  | none=>rw[hR]at hq;cases hq
  | some z=>
   rw[hR]at hq;rw[Qht (ρ:=f) (ρ':=f') _ _ _ _ _ hf,hob,Qx8 hl h0 hR];exact hq
 have e3:∀g,(∀x∈o.op.operands.toList,Qc2 g (rho s' x))=(∀x∈o.op.operands.toList,Qc2 g (rho s x)):=fun g=>by
  refine propext ⟨fun H x hx=>?_,fun H x hx=>?_⟩
  ·rw[←hr x (by simpa using hx)];exact H x hx
  ·rw[hr x (by simpa using hx)];exact H x hx
 unfold F1 at hs ⊢;rw[hg];split at hs
 ·cases hs
 ·exact e0 _ _ hr _ _ _ _ hs
 ·rename_i g _
  simp only[hcc,e4,e3]at hs ⊢
  by_cases h9:(T.bx 999&& !g)=true
  ·rw[if_pos h9]at hs ⊢;exact hs
  rw[if_neg h9]at hs ⊢;cases hq:opF T (o.dst.getD 0) (fun x=>Qcc (rho s x)) s.ob false true o.op with
  | none=>rw[hq]at hs;cases hs
  | some z=>
   rw[hq]at hs;rw[e0 (fun x=>Qcc (rho s' x)) (fun x=>Qcc (rho s x)) (fun y hy=>by rw[hr y hy]) false false true z hq]
   exact hs
theorem QgI{T:QH}{o:Oper}{s:St}{ρ:Operand→AV}{im:Bool}{t:TypeId}{p v us}(ho:o.op= .alloc t)(h:opF T (o.dst.getD 0) ρ s.ob (Qn s o.dst) im o.op=some (p,v,us))(hp:p):∃o0,us=[((o.dst.getD 0,0),o0)]∧s.ob (o.dst.getD 0,0)= .none:=by
 have hc:cls T o.op= .M:=by rw[ho];rfl
 simp only[opF,hc]at h
 rw[ho]at h;unfold opM at h;dsimp only at h;split at h
 ·simp only[Option.some.injEq,Prod.mk.injEq]at h
  obtain⟨h1,_,h3⟩:=h;refine⟨_,h3.symm,?_⟩
  rw[←h1]at hp;cases hd:o.dst with
  | none=>rw[hd]at hp;cases hp
  | some d=>
   rw[hd]at hp;simp only[Qn,Bool.and_eq_true]at hp
   have:=hp.1.1.1.2
   show s.ob (d,0)= .none
   cases e:s.ob (d,0)<;>simp_all[Ob.isNone]
 ·cases h
theorem Qtn{T:QH}{ops:Array Oper}{o:Oper}{s:St}{t:TypeId}{p v us}(ho:o.op= .alloc t)(h:F1 T ops o s=some (p,v,us))(hp:p):us=[]∨∃o0,us=[((o.dst.getD 0,0),o0)]∧s.ob (o.dst.getD 0,0)= .none:=by
 have hc:cls T o.op= .M:=by rw[ho];rfl
 unfold F1 at h;split at h
 ·cases h
 ·exact .inr (QgI ho h hp)
 ·simp only[hc]at h
  split at h
  ·split at h
   ·split at h
    ·rename_i h0
     simp only[Option.some.injEq,Prod.mk.injEq]at h
     obtain⟨e1,_,rfl⟩:=h;rw[←e1]at hp;exact .inr (QgI ho h0 hp.2)
    ·cases h
   ·simp only[Option.some.injEq,Prod.mk.injEq]at h
    exact .inl h.2.2.symm
  ·cases h
theorem Qzr{T:QH}{ops:Array Oper}(o:Oper){s s':St}(hb:bsD T o=true)(h1:∀t∈o.looksAt ops,s'.sl t=s.sl t)(h2:∀d,o.dst=some d→s'.sl d=s.sl d)(h3:∀d k,o.dst=some d→s'.ob (d,k)=s.ob (d,k)):F1 T ops o s'=F1 T ops o s:=by
 have hg:gOf ops s' o=gOf ops s o:=by
  unfold gOf;cases hgo:o.guard with
  | none=>rfl
  | some jw=>
   obtain⟨j,want⟩:=jw;cases hj:(ops[j]?).bind (·.dst)with
   | none=>simp only[hj]
   | some t=>
    have:=h1 t (by simp[Oper.looksAt,hgo,hj])
    simp only[hj,this]
 have hfr:Qn s' o.dst=Qn s o.dst:=by
  cases hd:o.dst with
  | none=>rfl
  | some d=>simp only[Qn,h2 d hd,h3 d _ hd]
 obtain⟨t,ps,ho,hps⟩:∃t ps,o.op= .buildSlice t 0 ps∧ps.toList=[]:=by
  unfold bsD at hb;split at hb
  ·rename_i t ps d e1 e2
   rw[Bool.and_eq_true,List.isEmpty_iff]at hb;exact⟨_,_,e1,hb.1⟩
  ·cases hb
 have hc:cls T o.op= .R:=by rw[ho];rfl
 have e0:∀(f f':Operand→AV) (ob ob':Id→Ob) (b1 b2:Bool),opF T (o.dst.getD 0) f ob b1 b2 o.op=opF T (o.dst.getD 0) f' ob' b1 b2 o.op:=fun f f' ob ob' b1 b2=>by
  simp only[opF,hc]
  rw[ho];simp only[opR,Qib,hps,List.map_nil]
 have e3:∀g (s:St),(∀x∈o.op.operands.toList,Qc2 g (rho s x))=True:=fun g s=>by
  refine propext ⟨fun _=>trivial,fun _ x hx=>?_⟩
  rw[ho]at hx;have:ps=#[]:=by apply Array.toList_inj.1;simpa using hps
  subst this;simp[Op.operands]at hx
 have e4:∀s g,QhZ s g o.op=none:=fun s g=>by rw[ho];rfl
 unfold F1;rw[hg];simp only[e0 (rho s') (rho s) s'.ob s.ob,e0 (fun x=>Qcc (rho s' x)) (fun x=>Qcc (rho s x)) s'.ob s.ob,hfr,e3,e4]
theorem Qki{T:QH}{ops:Array Oper}{o:Oper}{s:St}{p v us}(hk:Qb9 o.op=true)(hb:T.bx 1000=true)(h:F1 T ops o s=some (p,v,us)){id:Id}(hid:T.bx (1001+id.1)=true):QY s.ob us id=s.ob id:=by
 unfold Qb9 at hk;split at hk
 ·rename_i f as ts e
  have:us=[]∨∀q∈us,q.1≠id:=by
   unfold F1 at h;split at h
   ·cases h
   ·exact QeR e hb h hid
   ·split at h
    ·split at h
     ·split at h
      ·split at h
       ·rename_i h0
        simp only[Option.some.injEq,Prod.mk.injEq]at h
        obtain⟨_,_,rfl⟩:=h;exact QeR e hb h0 hid
       ·cases h
      ·simp at h;exact .inl h.2.2
     ·cases h
    ·split at h
     ·simp at h;exact .inl h.2.2
     ·split at h
      ·simp at h;exact .inl h.2.2
      ·split at h
       ·simp at h;exact .inl h.2.2
       ·cases h
  rcases this with rfl|this
  ·rfl
  ·rw[QdJ this]
 ·cases hk
theorem Qia{T:QH}{o:Oper}(h:bsD T o=true):T.bx 1000=true∧QhY T o.op≠ .M∧∀d,o.dst=some d→T.bx (1001+d)=true:=by
 unfold bsD at h;split at h
 ·rename_i t ps d e1 e2
  simp only[Bool.and_eq_true]at h
  have hne:QhY T o.op≠ .M:=by rw[e1];exact fun e=>(nomatch e)
  refine⟨h.2.1,hne,fun d' hd=>?_⟩
  rw[e2]at hd;obtain rfl:=Option.some.inj hd;exact h.2.2
 ·cases h
theorem Qtg{T:QH}{ops:Array Oper}{x y:Oper}(ha:x.apart ops y=true)(h:(bsD T x&&Qb9 y.op)=true∨(Qb9 x.op&&bsD T y)=true){K:St→Prop}{s:St}
  (H:Qb4 (F1 T ops x s) fun v us=>Qb4 (F1 T ops y (s.put x.dst v us)) fun u vs=>K ((s.put x.dst v us).put y.dst u vs)):
  Qb4 (F1 T ops y s) fun v us=>Qb4 (F1 T ops x (s.put y.dst v us)) fun u vs=>K ((s.put y.dst v us).put x.dst u vs):=by
 obtain⟨h1,h2,h3⟩:=Oper.apart_spec ha;have hdst:∀d,y.dst=some d→x.dst≠some d:=fun d hy hx=>h2 d hx hy
 cases hx:F1 T ops x s with
 | none=>rw[hx]at H;exact H.elim
 | some r=>
  obtain⟨p,v,us⟩:=r;rw[hx]at H;obtain⟨hp,H⟩:=H;have ey:F1 T ops y (s.put x.dst v us)=F1 T ops y s:=by
   rcases h with h|h
   ·rw[Bool.and_eq_true]at h
    obtain⟨b1,b2,b3⟩:=Qia h.1;have hus:us=[]:=Qle b2 hx
    subst hus;exact Qci y (fun t ht=>Qx _ _ _ _ _ fun e=>h1 t e ht) (fun d hd=>Qx _ _ _ _ _ (hdst d hd)) (.inr (by rw[St.put_ob];rfl))
   ·rw[Bool.and_eq_true]at h
    obtain⟨b1,b2,b3⟩:=Qia h.2;exact Qzr y h.2 (fun t ht=>Qx _ _ _ _ _ fun e=>h1 t e ht) (fun d hd=>Qx _ _ _ _ _ (hdst d hd)) fun d k hd=>by
     rw[St.put_ob];exact Qki h.1 b1 hx (id:=(d,k)) (b3 d hd)
  rw[ey]at H;cases hy:F1 T ops y s with
  | none=>rw[hy]at H;exact H.elim
  | some r=>
   obtain⟨q,u,vs⟩:=r;rw[hy]at H;obtain⟨hq,H⟩:=H;have ex:F1 T ops x (s.put y.dst u vs)=F1 T ops x s:=by
    rcases h with h|h
    ·rw[Bool.and_eq_true]at h
     obtain⟨b1,b2,b3⟩:=Qia h.1;exact Qzr x h.1 (fun t ht=>Qx _ _ _ _ _ fun e=>h3 t e ht) (fun d hd=>Qx _ _ _ _ _ fun e=>h2 d hd e) fun d k hd=>by
      rw[St.put_ob];exact Qki h.2 b1 hy (id:=(d,k)) (b3 d hd)
    ·rw[Bool.and_eq_true]at h
     obtain⟨b1,b2,b3⟩:=Qia h.2;have hvs:vs=[]:=Qle b2 hy
     subst hvs;exact Qci x (fun t ht=>Qx _ _ _ _ _ fun e=>h3 t e ht) (fun d hd=>Qx _ _ _ _ _ fun e=>h2 d hd e) (.inr (by rw[St.put_ob];rfl))
   have hor:us=[]∨vs=[]:=by
    rcases h with h|h
    ·rw[Bool.and_eq_true]at h;exact .inl (Qle (Qia h.1).2.1 hx)
    ·rw[Bool.and_eq_true]at h;exact .inr (Qle (Qia h.2).2.1 hy)
   refine⟨hq,?_⟩
   simp only
   rw[ex,hx];refine⟨hp,?_⟩
   show K ((s.put y.dst u vs).put x.dst v us)
   rw[show(s.put y.dst u vs).put x.dst v us=(s.put x.dst v us).put y.dst u vs from(St.put_comm s h2 hor).symm]
   exact H
section
variable {ob:Id→Ob} {k:Id} {cs0:List QA}
def QdZ(ob:Id→Ob)(k:Id)(cs0:List QA):Id→Ob:=fun id=>if id=k then .box cs0 else ob id
theorem Qao{id:Id}(h:id≠k):QdZ ob k cs0 id=ob id:=by unfold QdZ;rw[if_neg h]
theorem QaV:QdZ ob k cs0 k= .box cs0:=by unfold QdZ;rw[if_pos rfl]
theorem Qoj(h0:ob k= .none){c:QA}(hc:Qck c=false):toD (QdZ ob k cs0) c=toD ob c:=by
 cases c with
 | osl id=>
  simp only[toD]
  by_cases e:id=k
  ·subst e;rw[h0,QaV]
  ·rw[Qao e]
   cases hb:ob id with
   | inn j i o=>
    dsimp only
    by_cases e2:j=k
    ·subst e2;rw[h0,QaV]
    ·rw[Qao e2]
   | _=>rfl
 | isl id i o=>
  simp only[toD]
  by_cases e:id=k
  ·subst e;rw[h0,QaV]
  ·rw[Qao e]
 | sub id lo hi=>
  simp only[toD]
  by_cases e:id=k
  ·subst e;rw[h0,QaV]
  ·rw[Qao e]
 | fr=>cases hc
 | _=>rfl
theorem QgT(h0:ob k= .none):∀{cs:List QA},cs.any Qck=false→Qb6 (QdZ ob k cs0) cs=Qb6 ob cs
 | [],_=>rfl
 | c::r,h=>by
  simp only[List.any_cons,Bool.or_eq_false_iff]at h
  simp only[Qb6,Qoj h0 h.1,QgT h0 h.2]
theorem Qgs(h0:ob k= .none):∀{cs:List QA},QcY (QdZ ob k cs0) cs=QcY ob cs
 | []=>rfl
 | c::r=>by
  cases c with
  | d=>simp only[QcY,@Qgs h0 r]
  | osl id=>
   simp only[QcY,@Qgs h0 r]
   by_cases e:id=k
   ·subst e;rw[h0,QaV]
   ·rw[Qao e]
  | _=>rfl
theorem Qjv(h0:ob k= .none):∀{cs:List QA},QhX (QdZ ob k cs0) cs=QhX ob cs
 | []=>rfl
 | c::r=>by
  cases c with
  | d=>simp only[QhX,@Qjv h0 r]
  | n=>simp only[QhX,@Qjv h0 r]
  | osl id=>
   simp only[QhX,@Qjv h0 r]
   by_cases e:id=k
   ·subst e;rw[h0,QaV]
   ·rw[Qao e]
  | _=>rfl
theorem QhC(h0:ob k= .none):∀{cs:List QA} {ns},QK (QdZ ob k cs0) cs ns=QK ob cs ns
 | [],[]=>rfl
 | [],_::_=>rfl
 | c::r,[]=>by cases c<;>rfl
 | c::r,n::ns=>by
  cases c with
  | d=>cases n<;>simp only[QK,@QhC h0 r ns]
  | osl id=>
   cases n with
   | inl=>rfl
   | inr z=>
    obtain⟨a,b,c⟩:=z;simp only[QK,@QhC h0 r ns]
    by_cases e:id=k
    ·subst e;rw[h0,QaV]
    ·rw[Qao e]
  | _=>cases n<;>rfl
theorem Qty(h0:ob k= .none){v:AV}(hf:QhQ ob v=false)(hk:v≠ .one (.bptr k 0))(m:Bool):Qeh (QdZ ob k cs0) m v=Qeh ob m v:=by
 cases v with
 | one c=>
  cases c with
  | bptr id off=>
   by_cases e:id=k
   ·subst e
    cases off with
    | zero=>exact absurd rfl hk
    | succ n=>cases m<;>rfl
   ·cases off with
    | zero=>
     simp only[QhQ]at hf
     simp only[Qeh,Qao e]
     cases hb:ob id with
     | box cs=>
      rw[hb]at hf;dsimp only;rw[QgT h0 hf]
     | _=>rfl
    | succ n=>cases m<;>rfl
  | osl id=>
   have:=@Qoj ob k cs0 h0 (.osl id) rfl
   simp only[Qeh,this]
   cases m
   ·rfl
   ·simp only[if_true]
    by_cases e:id=k
    ·subst e;rw[h0,QaV]
    ·rw[Qao e]
  | isl id i o=>
   have:=@Qoj ob k cs0 h0 (.isl id i o) rfl
   simp only[Qeh,this]
   cases m
   ·rfl
   ·simp only[if_true]
    by_cases e:id=k
    ·subst e;rw[h0,QaV]
    ·rw[Qao e]
  | fr=>cases hf
  | fb=>cases hf
  | ltf=>cases hf
  | fn=>cases hf
  | sub id lo hi=>
   have:=@Qoj ob k cs0 h0 (.sub id lo hi) rfl
   simp only[Qeh,this]
  | _=>cases m<;>rfl
 | agg cs=>
  simp only[Qeh,Qgs h0,QgT h0 (show cs.any Qck=false from hf)]
 | _=>rfl
theorem QcB(h0:ob k= .none):∀{vs:List AV} {ms:List Bool},vs.any (QhQ ob)=false→(∀v∈vs,v≠ .one (.bptr k 0))→QbN (QdZ ob k cs0) ms vs=QbN ob ms vs
 | [],ms,_,_=>by simp only[QbN]
 | v::r,ms,h,hk=>by
  simp only[List.any_cons,Bool.or_eq_false_iff]at h
  simp only[QbN,Qty h0 h.1 (hk v (by simp)),QcB h0 h.2 fun x hx=>hk x (by simp[hx])]
theorem QcC(h0:ob k= .none):∀{vs:List AV} {ms:List Bool} {as:List Arg},QbN ob ms vs=some as→∀v∈vs,v≠ .one (.bptr k 0)
 | [],_,_,_,v,hv=>by cases hv
 | x::r,ms,as,h,v,hv=>by
  simp only[QbN]at h
  split at h
  ·rename_i a l ha hl
   rcases List.mem_cons.1 hv with rfl|hv
   ·rintro rfl
    cases hm:ms.headD false
    ·rw[hm]at ha;simp[Qeh,h0]at ha
    ·rw[hm]at ha;simp[Qeh,h0]at ha
   ·exact QcC h0 hl v hv
  ·cases h
theorem QtP{T:QH}{d:Nat}{fr im mu:Bool}{f:FuncId}{vs:List AV}(h0:ob k= .none)(hf:vs.any (QhQ ob)=false){r}(hs:Qfi T d ob fr im mu f vs=some r):Qfi T d (QdZ ob k cs0) fr im mu f vs=some r:=by
 have hne:∀v∈vs,v≠ .one (.bptr k 0):=by
  unfold Qfi at hs;split at hs
  ·split at hs
   ·cases hs
   ·split at hs
    ·rename_i has
     exact QcC h0 has
    ·cases hs
  ·cases hs
 rw[←hs];unfold Qfi;cases T.ct f with
 | none=>rfl
 | some c=>simp only[QcB h0 hf hne]
theorem QsL(h0:ob k= .none){v:AV}:Qpu (QdZ ob k cs0) v=Qpu ob v:=by
 cases v with
 | one c=>
  cases c with
  | osl id=>
   simp only[Qpu]
   by_cases e:id=k
   ·subst e;rw[h0,QaV]
   ·rw[Qao e]
  | _=>rfl
 | _=>rfl
theorem Qoh(h0:ob k= .none){v:AV}(hf:QhQ ob v=false){sz:Nat}:QdH (QdZ ob k cs0) sz v=QdH ob sz v:=by
 have own:∀c,Qck c=false→Qu (QdZ ob k cs0) c=Qu ob c:=fun c hc=>by
  cases c with
  | fr=>cases hc
  | osl id=>
   simp only[Qu]
   by_cases e:id=k
   ·subst e;rw[h0,QaV]
   ·rw[Qao e]
  | _=>rfl
 unfold QdH;split
 ·rfl
 ·rename_i c _
  have hc:Qck c=false:=by
   cases c<;>first|rfl|(exact hf)
  rw[own c hc]
 ·cases hf
 ·rfl
theorem Qoi(h0:ob k= .none){v:AV}{sz:Nat}{r}(h:QdH ob sz v=some r):v≠ .one (.bptr k 0)∧∀q∈r.2.2,q.1≠k∨QhQ ob v=true:=by
 constructor
 ·rintro rfl
  simp[QdH,Qu]at h
 ·unfold QdH at h
  split at h
  ·simp only[Option.some.injEq]at h;subst h;simp
  ·rename_i c _
   split at h
   ·rename_i id s l dp ho
    split at h
    ·simp only[Option.some.injEq]at h
     subst h;intro q hq;simp only[List.mem_singleton]at hq
     subst hq;cases c with
     | fr=>exact .inr rfl
     | osl i=>
      simp only[Qu]at ho
      split at ho
      ·rename_i hb
       simp only[Option.some.injEq,Prod.mk.injEq]at ho
       refine .inl fun e=>?_
       dsimp only at e;rw[←e,←ho.1,hb]at h0;cases h0
      ·cases ho
     | _=>simp[Qu]at ho
    ·cases h
   ·cases h
  ·rename_i id s els
   intro q _;exact .inr rfl
  ·cases h
theorem QrO(h0:ob k= .none){v:AV}(hk:v≠ .one (.bptr k 0)):QeX (QdZ ob k cs0) v=QeX ob v:=by
 unfold QeX;split
 ·rename_i id
  by_cases e:id=k
  ·subst e;rw[h0,QaV]
  ·rw[Qao e]
 ·rename_i id i o
  by_cases e:id=k
  ·subst e;rw[h0,QaV]
  ·rw[Qao e]
 ·rename_i id
  rw[Qao fun e=>hk (by rw[e])]
 ·rw[Qgs h0]
 ·rfl
theorem QrP(h0:ob k= .none){v:AV}{a}(h:QeX ob v=some a):v≠ .one (.bptr k 0):=by
 rintro rfl;simp[QeX,h0]at h
theorem Qsy(h0:ob k= .none){v:AV}{nw:Bool}{a:Arg}(hk:v≠ .one (.bptr k 0)):QaT nw (QdZ ob k cs0) v a=QaT nw ob v a:=by
 unfold QaT;split
 ·rename_i id _ _ _
  by_cases e:id=k
  ·subst e;rw[h0,QaV]
  ·rw[Qao e]
 ·rename_i id i o _ _ _
  by_cases e:id=k
  ·subst e;rw[h0,QaV]
  ·rw[Qao e]
 ·rename_i id _
  rw[Qao fun e=>hk (by rw[e])]
 ·rw[QhC h0]
 ·rfl
theorem QhE:∀{cs:List QA} {ns} {p:Prop} {us:List (Id×Ob)},QK ob cs ns=some (p,us)→∀q∈us,q.2≠ .none
 | [],[],p,us,h,q,hq=>by simp[QK]at h;rw[h.2]at hq;cases hq
 | [],_::_,p,us,h,q,hq=>by simp[QK]at h
 | c::r,[],p,us,h,q,hq=>by cases c<;>simp[QK]at h
 | c::r,n::ns,p,us,h,q,hq=>by
  cases c with
  | d=>cases n with
   | inl=>simp only[QK]at h;exact QhE h q hq
   | inr=>simp[QK]at h
  | osl id=>
   cases n with
   | inl=>simp[QK]at h
   | inr z=>
    obtain⟨a,b,c⟩:=z;simp only[QK]at h
    split at h
    ·rename_i hb hr
     simp only[Option.some.injEq,Prod.mk.injEq]at h
     obtain⟨_,rfl⟩:=h;rcases List.mem_cons.1 hq with rfl|hq
     ·simp
     ·exact QhE hr q hq
    ·cases h
  | _=>cases n<;>simp[QK]at h
theorem Qk2{v:AV}{nw:Bool}{a:Arg}{p:Prop}{us:List (Id×Ob)}(h:QaT nw ob v a=some (p,us)):∀q∈us,q.2≠ .none:=by
 unfold QaT at h;split at h
 ·split at h
  ·simp only[Option.some.injEq,Prod.mk.injEq]at h
   obtain⟨_,rfl⟩:=h;simp
  ·cases h
 ·split at h
  ·split at h
   ·simp only[Option.some.injEq,Prod.mk.injEq]at h
    obtain⟨_,rfl⟩:=h;simp
   ·cases h
  ·cases h
 ·split at h
  ·simp only[Option.some.injEq,Prod.mk.injEq]at h
   obtain⟨_,rfl⟩:=h;simp
  ·cases h
 ·exact QhE h
 ·cases h
theorem Qgw{v:AV}{sz:Nat}{r}(h:QdH ob sz v=some r):∀q∈r.2.2,q.2≠ .none:=by
 unfold QdH at h;split at h
 ·simp only[Option.some.injEq]at h;subst h;simp
 ·split at h
  ·split at h
   ·simp only[Option.some.injEq]at h;subst h;simp
   ·cases h
  ·cases h
 ·split at h
  ·split at h
   ·simp only[Option.some.injEq]at h;subst h;simp
   ·cases h
  ·cases h
 ·cases h
theorem QhD(h0:ob k= .none):∀{cs:List QA} {ns} {p:Prop} {us:List (Id×Ob)},QK ob cs ns=some (p,us)→∀q∈us,q.1≠k
 | [],[],p,us,h,q,hq=>by simp[QK]at h;rw[h.2]at hq;cases hq
 | [],_::_,p,us,h,q,hq=>by simp[QK]at h
 | c::r,[],p,us,h,q,hq=>by cases c<;>simp[QK]at h
 | c::r,n::ns,p,us,h,q,hq=>by
  cases c with
  | d=>cases n with
   | inl=>simp only[QK]at h;exact QhD h0 h q hq
   | inr=>simp[QK]at h
  | osl id=>
   cases n with
   | inl=>simp[QK]at h
   | inr z=>
    obtain⟨a,b,c⟩:=z;simp only[QK]at h
    split at h
    ·rename_i hb hr
     simp only[Option.some.injEq,Prod.mk.injEq]at h
     obtain⟨_,rfl⟩:=h;rcases List.mem_cons.1 hq with rfl|hq
     ·intro e
      dsimp only at e;rw[e,h0]at hb;cases hb
     ·exact QhD h0 hr q hq
    ·cases h
  | _=>cases n<;>simp[QK]at h
theorem Qsz(h0:ob k= .none){v:AV}{nw:Bool}{a:Arg}{p:Prop}{us:List (Id×Ob)}(h:QaT nw ob v a=some (p,us)):∀q∈us,q.1≠k:=by
 unfold QaT at h;split at h
 ·split at h
  ·rename_i hb
   simp only[Option.some.injEq,Prod.mk.injEq]at h
   obtain⟨_,rfl⟩:=h;intro q hq e;rw[List.mem_singleton]at hq;subst hq;dsimp only at e;rw[e,h0]at hb;cases hb
  ·cases h
 ·split at h
  ·rename_i hb
   split at h
   ·simp only[Option.some.injEq,Prod.mk.injEq]at h
    obtain⟨_,rfl⟩:=h;intro q hq e;rw[List.mem_singleton]at hq;subst hq;dsimp only at e;rw[e,h0]at hb;cases hb
   ·cases h
  ·cases h
 ·split at h
  ·rename_i hb
   simp only[Option.some.injEq,Prod.mk.injEq]at h
   obtain⟨_,rfl⟩:=h;intro q hq e;rw[List.mem_singleton]at hq;subst hq;dsimp only at e;rw[e,h0]at hb;cases hb
  ·cases h
 ·exact QhD h0 h
 ·cases h
theorem Qqa(h0:ob k= .none){v:AV}(hk:v≠ .one (.bptr k 0)):Qd9 (QdZ ob k cs0) v=Qd9 ob v:=by
 unfold Qd9;split
 ·rename_i id
  rw[Qao fun e=>hk (by rw[e])]
 ·rfl
theorem QtS{T:QH}{d:Nat}{fr:Bool}{f:FuncId}{vs:List AV}(h0:ob k= .none)(hf:vs.any (QhQ ob)=false)(hne:∀v∈vs,v≠ .one (.bptr k 0)):Qfj T d (QdZ ob k cs0) fr f vs=Qfj T d ob fr f vs:=by
 unfold Qfj;cases T.ct f with
 | none=>rfl
 | some c=>
  cases vs with
  | nil=>rfl
  | cons v0 vr=>
   simp only[List.any_cons,Bool.or_eq_false_iff]at hf
   have h1:=hne v0 (by simp)
   simp only[QrO h0 h1,QcB h0 hf.2 fun x hx=>hne x (by simp[hx]),Qsy h0 h1,Qqa h0 h1]
theorem QtN{T:QH}{d:Nat}{fr:Bool}{f:FuncId}{vs:List AV}(h0:ob k= .none)(hf:vs.any (QhQ ob)=false)(hne:∀v∈vs,v≠ .one (.bptr k 0)):Qf9 T d (QdZ ob k cs0) fr f vs=Qf9 T d ob fr f vs:=by
 unfold Qf9;cases T.ct f with
 | none=>rfl
 | some c=>
  cases vs with
  | nil=>rfl
  | cons v0 vr=>
   simp only[List.any_cons,Bool.or_eq_false_iff]at hf
   simp only[QsL h0,Qoh h0 hf.1,QcB h0 hf.2 fun x hx=>hne x (by simp[hx])]
theorem QfR:∀{vs vi:List AV} {v0:AV},Qed vs=some (vi,v0)→(∀x∈vi,x∈vs)∧v0∈vs∧∀x∈vs,x∈vi∨x=v0
 | [],vi,v0,h=>by cases h
 | [x],vi,v0,h=>by
  simp only[Qed,Option.some.injEq,Prod.mk.injEq]at h
  obtain⟨rfl,rfl⟩:=h;simp
 | x::y::r,vi,v0,h=>by
  rw[Qed]at h;split at h
  ·rename_i a b hs
   simp only[Option.some.injEq,Prod.mk.injEq]at h
   obtain⟨rfl,rfl⟩:=h;obtain⟨h1,h2,h3⟩:=QfR hs;refine⟨fun z hz=>?_,List.mem_cons_of_mem _ h2,fun z hz=>?_⟩
   ·rcases List.mem_cons.1 hz with rfl|hz
    ·simp
    ·exact List.mem_cons_of_mem _ (h1 z hz)
   ·rcases List.mem_cons.1 hz with rfl|hz
    ·simp
    ·rcases h3 z hz with h|h
     ·exact .inl (List.mem_cons_of_mem _ h)
     ·exact .inr h
  ·cases h
theorem QtQ{T:QH}{d:Nat}{fr:Bool}{f:FuncId}{vs:List AV}(h0:ob k= .none)(hf:vs.any (QhQ ob)=false)(hne:∀v∈vs,v≠ .one (.bptr k 0)):Qga T d (QdZ ob k cs0) fr f vs=Qga T d ob fr f vs:=by
 unfold Qga;cases T.ct f with
 | none=>rfl
 | some c=>
  cases hs:Qed vs with
  | none=>rfl
  | some z=>
   obtain⟨vi,v0⟩:=z;obtain⟨h1,h2,_⟩:=QfR hs;rw[List.any_eq_false]at hf;have hf1:vi.any (QhQ ob)=false:=List.any_eq_false.2 fun x hx=>hf x (h1 x hx)
   have hf0:QhQ ob v0=false:=by simpa using hf v0 h2
   simp only[QsL h0,Qoh h0 hf0,QcB h0 hf1 fun x hx=>hne x (h1 x hx)]
theorem Qgp(h0:ob k= .none){row:Nat}:∀{l:List (D ⊕ (Nat×List (List D)×Nat))} {n:Nat},k.2<n→QhV (QdZ ob k cs0) row n l=QhV ob row n l
 | [],n,h=>rfl
 | .inl _::l,n,h=>@Qgp h0 row l n h
 | .inr _::l,n,h=>by
  have e:(row,n)≠k:=fun e=>by rw[←e]at h;exact Nat.lt_irrefl _ h
  simp only[QhV,Qao e,@Qgp h0 row l (n+1) (by omega)]
theorem Qvl(h0:ob k= .none)(hk0:k.2=0){row:Nat}{l:List (D ⊕ (Nat×List (List D)×Nat))}:Qh0 (QdZ ob k cs0) row l=Qh0 ob row l:=by
 unfold Qh0;rw[Qgp h0 (by omega)]
theorem Qn7{row:Nat}{l:List (D ⊕ (Nat×List (List D)×Nat))}:10≤Qh0 ob row l:=by
 unfold Qh0;split<;>omega
theorem QtT{T:QH}{d:Nat}{fr:Bool}{f:FuncId}{vs:List AV}(h0:ob k= .none)(hk0:k.2=0)(hf:vs.any (QhQ ob)=false)(hne:∀v∈vs,v≠ .one (.bptr k 0)):Qgb T d (QdZ ob k cs0) fr f vs=Qgb T d ob fr f vs:=by
 unfold Qgb;cases T.ct f with
 | none=>rfl
 | some c=>
  cases vs with
  | nil=>rfl
  | cons v0 vr=>
   simp only[List.any_cons,Bool.or_eq_false_iff]at hf
   cases v0 with
   | one cc=>
    cases cc with
    | bptr id off=>
     cases off with
     | zero=>
      have e:id≠k:=fun e=>hne _ (List.mem_cons_self ..) (by rw[e])
      simp only[Qao e,Qjv h0,QcB h0 hf.2 fun x hx=>hne x (by simp[hx]),Qvl h0 hk0,Qgp h0 (Nat.lt_of_lt_of_le (show k.2<10 by omega) Qn7)]
     | succ=>rfl
    | _=>rfl
   | _=>rfl
theorem Qfh{T:QH}{d:Nat}{ob:Id→Ob}{fr:Bool}{f:FuncId}{vs:List AV}{ob':Id→Ob}(hf:vs.any (QhQ ob')=false):QhT T d ob fr f vs=none:=by
 unfold QhT;cases vs with
 | nil=>rfl
 | cons v0 vr=>
  simp only[List.any_cons,Bool.or_eq_false_iff]at hf
  cases v0 with
  | one c=>cases c<;>first|rfl|(cases hf.1;done)
  | _=>rfl
theorem QoB{T:QH}{d:Nat}{fr:Bool}{f:FuncId}{vs:List AV}(h0:ob k= .none)(hk0:k.2=0)(hf:vs.any (QhQ ob)=false){p v us}
  (hs:(match Qfj T d ob fr f vs with
   | some r=>some r
   | none=>match Qf9 T d ob fr f vs with
    | some r=>some r
    | none=>match Qga T d ob fr f vs with
     | some r=>some r
     | none=>match Qgb T d ob fr f vs with
      | some r=>some r
      | none=>QhT T d ob fr f vs)=some (p,v,us)):
  (match Qfj T d (QdZ ob k cs0) fr f vs with
   | some r=>some r
   | none=>match Qf9 T d (QdZ ob k cs0) fr f vs with
    | some r=>some r
    | none=>match Qga T d (QdZ ob k cs0) fr f vs with
     | some r=>some r
     | none=>match Qgb T d (QdZ ob k cs0) fr f vs with
      | some r=>some r
      | none=>QhT T d (QdZ ob k cs0) fr f vs)=some (p,v,us)∧∀q∈us,q.1≠k∧q.2≠ .none:=by
 have hne:(∀v∈vs,v≠ .one (.bptr k 0))∧∀q∈us,q.1≠k∧q.2≠ .none:=by
  split at hs
  ·rename_i r hr
   obtain rfl:=Option.some.inj hs;unfold Qfj at hr;split at hr
   ·split at hr
    ·split at hr
     ·split at hr
      ·rename_i v0 vr _ a0 as hm has
       split at hr
       ·split at hr
        ·rename_i hset
         simp only[Option.some.injEq,Prod.mk.injEq]at hr
         obtain⟨_,_,rfl⟩:=hr;refine⟨fun x hx=>?_,fun q hq=>⟨Qsz h0 hset q hq,Qk2 hset q hq⟩⟩
         rcases List.mem_cons.1 hx with rfl|hx
         ·exact QrP h0 hm
         ·exact QcC h0 has x hx
        ·cases hr
       ·cases hr
      ·cases hr
     ·cases hr
    ·cases hr
   ·cases hr
  ·rename_i hn1;clear hn1
   split at hs
   ·rename_i r hr
    obtain rfl:=Option.some.inj hs;unfold Qf9 at hr;split at hr
    ·split at hr
     ·split at hr
      ·split at hr
       ·rename_i v0 vr _ l dp us1 as hm has
        split at hr
        ·simp only[Option.some.injEq,Prod.mk.injEq]at hr
         obtain⟨_,_,rfl⟩:=hr;simp only[List.any_cons,Bool.or_eq_false_iff]at hf
         obtain⟨t1,t2⟩:=Qoi h0 hm;refine⟨fun x hx=>?_,fun q hq=>⟨(t2 q hq).resolve_right (by rw[hf.1];decide),Qgw hm q hq⟩⟩
         rcases List.mem_cons.1 hx with rfl|hx
         ·exact t1
         ·exact QcC h0 has x hx
        ·cases hr
       ·cases hr
      ·cases hr
     ·cases hr
    ·cases hr
   ·rename_i hn2;clear hn2
    split at hs
    ·rename_i r hr
     obtain rfl:=Option.some.inj hs;unfold Qga at hr;split at hr
     ·split at hr
      ·split at hr
       ·rename_i vi v0 hsp
        split at hr
        ·rename_i l dp us1 as hm has
         split at hr
         ·simp only[Option.some.injEq,Prod.mk.injEq]at hr
          obtain⟨_,_,rfl⟩:=hr;obtain⟨m1,m2,m3⟩:=QfR hsp;have hf0:QhQ ob v0=false:=by rw[List.any_eq_false]at hf;simpa using hf v0 m2
          obtain⟨t1,t2⟩:=Qoi h0 hm;refine⟨fun x hx=>?_,fun q hq=>⟨(t2 q hq).resolve_right (by rw[hf0];decide),Qgw hm q hq⟩⟩
          rcases m3 x hx with hx|rfl
          ·exact QcC h0 has x hx
          ·exact t1
         ·cases hr
        ·cases hr
       ·cases hr
      ·cases hr
     ·cases hr
    ·rename_i hn3;clear hn3
     split at hs
     ·rename_i r hr
      obtain rfl:=Option.some.inj hs;unfold Qgb at hr;split at hr
      ·split at hr
       ·split at hr
        ·rename_i id vr
         split at hr
         ·rename_i cs hb
          split at hr
          ·rename_i l as hm has
           split at hr
           ·rename_i ns _
            simp only[Option.some.injEq,Prod.mk.injEq]at hr
            obtain⟨_,_,rfl⟩:=hr;have hid:id≠k:=fun e=>by rw[e,h0]at hb;cases hb
            refine⟨fun x hx=>?_,fun q hq=>?_⟩
            ·rcases List.mem_cons.1 hx with rfl|hx
             ·intro e
              simp only[AV.one.injEq,QA.bptr.injEq,and_true]at e
              exact hid e
             ·exact QcC h0 has x hx
            ·rcases List.mem_append.1 hq with hq|hq
             ·obtain⟨i,hi,rfl⟩:=List.mem_map.1 hq
              have key:∀{cs:List QA} {l},QhX ob cs=some l→∀i∈QdB cs,i≠k:=by
               intro cs;induction cs with
               | nil=>intro l _ i hi;cases hi
               | cons c r ih=>
                intro l hm i hi;cases c with
                | d=>
                 simp only[QhX]at hm
                 split at hm
                 ·rename_i h1;exact ih h1 i hi
                 ·cases hm
                | n=>
                 simp only[QhX]at hm
                 split at hm
                 ·rename_i h1;exact ih h1 i hi
                 ·cases hm
                | osl j=>
                 simp only[QhX]at hm
                 split at hm
                 ·rename_i h1 h2
                  simp only[QdB,List.mem_cons]at hi
                  rcases hi with rfl|hi
                  ·intro e;rw[e,h0]at h1;cases h1
                  ·exact ih h2 i hi
                 ·cases hm
                | _=>simp[QhX]at hm
              exact⟨key hm i hi,by simp⟩
             ·rcases List.mem_append.1 hq with hq|hq
              ·have key:∀{l:List (D ⊕ (Nat×List (List D)×Nat))} {n:Nat},1≤n→∀q∈QdX 1 id.1 n l,q.1≠k∧q.2≠ .none:=by
                intro l;induction l with
                | nil=>intro n _ q hq;cases hq
                | cons z l ih=>
                 intro n hn q hq;cases z with
                 | inl=>exact ih hn q hq
                 | inr z=>
                  obtain⟨a,b,c⟩:=z;simp only[QdX,List.mem_cons]at hq
                  rcases hq with rfl|hq
                  ·exact⟨fun e=>by rw[←e]at hk0;dsimp only at hk0;omega,by simp⟩
                  ·exact ih (by omega) q hq
               exact key (Nat.le_trans (by omega) Qn7) q hq
              ·rw[List.mem_singleton]at hq
               subst hq;exact⟨hid,by simp⟩
           ·cases hr
          ·cases hr
         ·cases hr
        ·cases hr
       ·cases hr
      ·cases hr
     ·rw[Qfh hf]at hs;cases hs
 refine⟨?_,hne.2⟩
 rw[←hs,QtS h0 hf hne.1,QtN h0 hf hne.1,QtQ h0 hf hne.1,QtT h0 hk0 hf hne.1,Qfh hf,Qfh hf]
theorem QxA(hc0:cs0.any Qck=false)(h0:ob k= .none){v:AV}(h:QhQ ob v=false):QhQ (QdZ ob k cs0) v=false:=by
 cases v with
 | one c=>
  cases c with
  | bptr id off=>
   cases off with
   | zero=>
    simp only[QhQ]at h ⊢
    by_cases e:id=k
    ·subst e;rw[QaV];exact hc0
    ·rw[Qao e];exact h
   | succ=>rfl
  | _=>exact h
 | _=>exact h
theorem Qv7{α:Type}{T:QH}(h6:T.bx 996=true)(hc0:cs0.any Qck=false)(h0:ob k= .none){vs:List AV}{r r':Option α}{q:α}(h:frG T ob vs r=some q)(hr:r=some q→r'=some q):frG T (QdZ ob k cs0) vs r'=some q:=by
 obtain⟨e1,e2⟩:=QcV h;have e3:=e2 h6
 unfold frG;rw[if_pos h6,if_neg,hr e1];rw[Bool.not_eq_true,List.any_eq_false];rw[List.any_eq_false]at e3;intro x hx;have:=QxA hc0 h0 (show QhQ ob x=false by simpa using e3 x hx)
 rw[this];decide
theorem QkK{T:QH}{d:Nat}{ρ:Operand→AV}{fr im:Bool}{op:Op}(hop:Qb9 op=true)(h6:T.bx 996=true)(hc0:cs0.any Qck=false)(h0:ob k= .none)(hk0:k.2=0){p v us}(hs:opF T d ρ ob fr im op=some (p,v,us)):
  opF T d ρ (QdZ ob k cs0) fr im op=some (p,v,us)∧∀q∈us,q.1≠k∧q.2≠ .none:=by
 unfold Qb9 at hop;split at hop
 ·rename_i f as ts
  unfold opF at hs ⊢;cases hc:cls T (.call ⟨.value (.func f),as,ts⟩)with
  | P=>rw[hc]at hs;simp only[opP]at hs;cases hs
  | R=>
   rw[hc]at hs;dsimp only at hs ⊢;cases hR:opR T d ρ ob fr im (.call ⟨.value (.func f),as,ts⟩)with
   | none=>rw[hR]at hs;cases hs
   | some z=>
    rw[hR]at hs;have e:opR T d ρ (QdZ ob k cs0) fr im (.call ⟨.value (.func f),as,ts⟩)=some z:=by
     unfold opR at hR ⊢;dsimp only at hR ⊢;split at hR
     ·rename_i p0 v0 hcf
      have hnf:=(QcV hcf).2 h6
      rw[Qv7 h6 hc0 h0 hcf fun h=>QtP h0 hnf h]
      exact hR
     ·cases hR
    rw[e];refine⟨hs,?_⟩
    simp only[Option.some.injEq,Prod.mk.injEq]at hs
    rw[←hs.2.2];simp
  | M=>
   rw[hc]at hs;dsimp only at hs ⊢;unfold opM at hs ⊢;dsimp only at hs ⊢;obtain⟨e1,e2⟩:=QcV hs;obtain⟨e3,e4⟩:=Qa9 e1;obtain⟨g1,g2⟩:=QoB (cs0:=cs0) h0 hk0 (e2 h6) e3;refine⟨Qv7 h6 hc0 h0 hs fun _=>?_,g2⟩
   rw[g1];rw[e3]at e1;exact e1
 ·cases hop
end
theorem QiT{k:Id}{o0:Ob}:∀{us:List (Id×Ob)} {ob:Id→Ob},(∀q∈us,q.1≠k)→QY (QY ob [(k,o0)]) us=QY (QY ob us) [(k,o0)]
 | [],ob,_=>rfl
 | (i,o)::us,ob,h=>by
  have hi:i≠k:=h (i,o) (by simp)
  have e:(fun id=>if id=i then o else QY ob [(k,o0)] id)=QY (fun id=>if id=i then o else ob id) [(k,o0)]:=by
   funext id
   simp only[QY]
   by_cases e1:id=i
   ·subst e1;simp[hi]
   ·simp[e1]
  show QY (fun id=>if id=i then o else QY ob [(k,o0)] id) us=QY (QY (fun id=>if id=i then o else ob id) us) [(k,o0)]
  rw[e];exact QiT fun q hq=>h q (by simp[hq])
theorem QpY{T:QH}{o:Oper}{s:St}{ρ:Operand→AV}{im:Bool}{t:TypeId}{p v us}(ho:o.op= .alloc t)(h:opF T (o.dst.getD 0) ρ s.ob (Qn s o.dst) im o.op=some (p,v,us)):∃zs:List Value,us=[((o.dst.getD 0,0),.box (zs.map fun v=> .d (.v v)))]:=by
 have hc:cls T o.op= .M:=by rw[ho];rfl
 simp only[opF,hc]at h
 rw[ho]at h;unfold opM at h;dsimp only at h;split at h
 ·simp only[Option.some.injEq,Prod.mk.injEq]at h
  exact⟨_,h.2.2.symm⟩
 ·cases h
theorem QmO{T:QH}{d:Nat}{ob:Id→Ob}{fr:Bool}{f:FuncId}{vs:List AV}{p v us}(hr:Qfj T d ob fr f vs=some (p,v,us)):∀q∈us,q.2≠ .none:=by
 unfold Qfj at hr;split at hr
 ·split at hr
  ·split at hr
   ·split at hr
    ·split at hr
     ·split at hr
      ·rename_i hset
       simp only[Option.some.injEq,Prod.mk.injEq]at hr
       obtain⟨_,_,rfl⟩:=hr;exact Qk2 hset
      ·cases hr
     ·cases hr
    ·cases hr
   ·cases hr
  ·cases hr
 ·cases hr
theorem QtO{T:QH}{d:Nat}{ob:Id→Ob}{fr:Bool}{f:FuncId}{vs:List AV}{p v us}(hr:Qf9 T d ob fr f vs=some (p,v,us)):∀q∈us,q.2≠ .none:=by
 unfold Qf9 at hr;split at hr
 ·split at hr
  ·split at hr
   ·split at hr
    ·rename_i v0 vr _ l dp us1 as hm has
     split at hr
     ·simp only[Option.some.injEq,Prod.mk.injEq]at hr
      obtain⟨_,_,rfl⟩:=hr;exact Qgw hm
     ·cases hr
    ·cases hr
   ·cases hr
  ·cases hr
 ·cases hr
theorem QtR{T:QH}{d:Nat}{ob:Id→Ob}{fr:Bool}{f:FuncId}{vs:List AV}{p v us}(hr:Qga T d ob fr f vs=some (p,v,us)):∀q∈us,q.2≠ .none:=by
 unfold Qga at hr;split at hr
 ·split at hr
  ·split at hr
   ·split at hr
    ·rename_i l dp us1 as hm has
     split at hr
     ·simp only[Option.some.injEq,Prod.mk.injEq]at hr
      obtain⟨_,_,rfl⟩:=hr;exact Qgw hm
     ·cases hr
    ·cases hr
   ·cases hr
  ·cases hr
 ·cases hr
theorem QtU{T:QH}{d:Nat}{ob:Id→Ob}{fr:Bool}{f:FuncId}{vs:List AV}{p v us}(hr:Qgb T d ob fr f vs=some (p,v,us)):∀q∈us,q.2≠ .none:=by
 unfold Qgb at hr;split at hr
 ·split at hr
  ·split at hr
   ·split at hr
    ·split at hr
     ·split at hr
      ·simp only[Option.some.injEq,Prod.mk.injEq]at hr
       obtain⟨_,_,rfl⟩:=hr;intro q hq;rcases List.mem_append.1 hq with hq|hq
       ·obtain⟨i,_,rfl⟩:=List.mem_map.1 hq
        simp
       ·rcases List.mem_append.1 hq with hq|hq
        ·have key:∀{row:Nat} {l:List (D ⊕ (Nat×List (List D)×Nat))} {n:Nat},∀q∈QdX 1 row n l,q.2≠ .none:=by
          intro row l;induction l with
          | nil=>intro n q hq;cases hq
          | cons z l ih=>
           intro n q hq;cases z with
           | inl=>exact ih q hq
           | inr z=>
            obtain⟨a,b,c⟩:=z;simp only[QdX,List.mem_cons]at hq
            rcases hq with rfl|hq
            ·simp
            ·exact ih q hq
         exact key q hq
        ·rw[List.mem_singleton]at hq
         subst hq;simp
      ·cases hr
     ·cases hr
    ·cases hr
   ·cases hr
  ·cases hr
 ·cases hr
theorem QtM{T:QH}{d:Nat}{ob:Id→Ob}{fr:Bool}{f:FuncId}{vs:List AV}{p v us}(hr:QhT T d ob fr f vs=some (p,v,us)):∀q∈us,q.2≠ .none:=by
 unfold QhT at hr;split at hr
 ·split at hr
  ·rename_i h1
   split at hr
   ·rename_i h2
    simp only[Option.some.injEq,Prod.mk.injEq]at hr
    obtain⟨_,_,rfl⟩:=hr;intro q hq;rcases List.mem_append.1 hq with hq|hq
    ·unfold Qj8 at h1
     split at h1
     ·split at h1
      ·simp only[Option.some.injEq,Prod.mk.injEq]at h1
       rw[←h1.2,List.mem_singleton]at hq;subst hq;simp
      ·cases h1
     ·cases h1
    ·exact QmO h2 q hq
   ·cases hr
  ·cases hr
 ·cases hr
theorem QsR{id:Id}:∀{us:List (Id×Ob)} {ob:Id→Ob},(∀q∈us,q.2≠ .none)→QY ob us id= .none→ob id= .none
 | [],ob,_,h=>h
 | (i,o)::us,ob,hn,h=>by
  have:=QsR (us:=us) (fun q hq=>hn q (by simp[hq])) h
  split at this
  ·exact absurd this (hn (i,o) (by simp))
  ·exact this
theorem Qhs{T:QH}{d:Nat}{ρ:Operand→AV}{ob:Id→Ob}{fr im:Bool}{op:Op}(hop:Qb9 op=true){p v us}(hs:opF T d ρ ob fr im op=some (p,v,us)){id:Id}(h:QY ob us id= .none):ob id= .none:=by
 refine QsR ?_ h
 unfold Qb9 at hop;split at hop
 ·rename_i f as ts
  by_cases hc:cls T (.call ⟨.value (.func f),as,ts⟩)= .M
  ·unfold opF at hs
   rw[hc]at hs;dsimp only at hs;unfold opM at hs;dsimp only at hs;have e3:=(Qa9 (QcV hs).1).1
   split at e3
   ·rename_i hr;obtain rfl:=Option.some.inj e3;exact QmO hr
   ·split at e3
    ·rename_i hr;obtain rfl:=Option.some.inj e3;exact QtO hr
    ·split at e3
     ·rename_i hr;obtain rfl:=Option.some.inj e3;exact QtR hr
     ·split at e3
      ·rename_i hr;obtain rfl:=Option.some.inj e3;exact QtU hr
      ·exact QtM e3
  ·rw[QiI hc hs];simp
 ·cases hop
theorem Qth{T:QH}{ops:Array Oper}{x y:Oper}(ha:x.apart ops y=true)(hc:QBu T x y=true){K:St→Prop}{s:St}
  (H:Qb4 (F1 T ops x s) fun v us=>Qb4 (F1 T ops y (s.put x.dst v us)) fun u vs=>K ((s.put x.dst v us).put y.dst u vs)):
  Qb4 (F1 T ops y s) fun v us=>Qb4 (F1 T ops x (s.put y.dst v us)) fun u vs=>K ((s.put y.dst v us).put x.dst u vs):=by
 obtain⟨h1,h2,h3⟩:=Oper.apart_spec ha;have hdst:∀d,y.dst=some d→x.dst≠some d:=fun d hy hx=>h2 d hx hy
 unfold QBu at hc;split at hc;rotate_left
 ·cases hc
 rename_i t2 e2;rw[Bool.and_eq_true,Bool.and_eq_true]at hc;obtain⟨hcf,h6,hgd⟩:=hc;rw[Bool.and_eq_true,Option.isNone_iff_eq_none,Option.isNone_iff_eq_none]at hgd;obtain⟨hgd,hgy⟩:=hgd;cases hx:F1 T ops x s with
 | none=>rw[hx]at H;exact H.elim
 | some r=>
  obtain⟨p,v,us⟩:=r;rw[hx]at H;obtain⟨hp,H⟩:=H;have hxo:opF T (x.dst.getD 0) (rho s) s.ob (Qn s x.dst) (T.im (x.dst.getD 0)) x.op=some (p,v,us):=by
   unfold F1 at hx;have:gOf ops s x=some none:=by unfold gOf;rw[hgd]
   rw[this]at hx;exact hx
  cases hy:F1 T ops y (s.put x.dst v us)with
  | none=>rw[hy]at H;exact H.elim
  | some r=>
   obtain⟨q,u,vs⟩:=r;rw[hy]at H;obtain⟨hq,H⟩:=H;have hcM:cls T y.op= .M:=by rw[e2];rfl
   have hyo:opF T (y.dst.getD 0) (rho (s.put x.dst v us)) (s.put x.dst v us).ob (Qn (s.put x.dst v us) y.dst) (T.im (y.dst.getD 0)) y.op=some (q,u,vs):=by
    unfold F1 at hy;have:gOf ops (s.put x.dst v us) y=some none:=by unfold gOf;rw[hgy]
    rw[this]at hy;exact hy
   obtain⟨o0,hvs,h0'⟩:=QgI e2 hyo hq;obtain⟨zs,hzs⟩:=QpY e2 hyo;have ho0:o0= .box (zs.map fun v=> .d (.v v)):=by
    rw[hvs]at hzs;simp only[List.cons.injEq,Prod.mk.injEq,and_true,true_and]at hzs
    exact hzs
   subst ho0;rw[St.put_ob]at h0';have h0:s.ob (y.dst.getD 0,0)= .none:=Qhs hcf hxo h0'
   have hfr:Qn (s.put x.dst v us) y.dst=true:=by
    simp only[opF,hcM]at hyo
    rw[e2]at hyo;unfold opM at hyo;dsimp only at hyo;split at hyo
    ·simp only[Option.some.injEq,Prod.mk.injEq]at hyo
     rw[hyo.1];exact hq
    ·cases hyo
   have hfr2:Qn s y.dst=true:=by
    cases hd:y.dst with
    | none=>rw[hd]at hfr;cases hfr
    | some d=>
     rw[hd]at hfr;simp only[Qn,Bool.and_eq_true]at hfr ⊢
     obtain⟨⟨⟨⟨f1,f2⟩,f3⟩,f4⟩,f5⟩:=hfr;rw[Qx _ _ _ _ _ (hdst d hd)]at f1;have key:∀j,((s.put x.dst v us).ob (d,j)).isNone=true→(s.ob (d,j)).isNone=true:=fun j hj=>by
      rw[St.put_ob]at hj;have:QY s.ob us (d,j)= .none:=by cases e:QY s.ob us (d,j)<;>simp_all[Ob.isNone]
      rw[Qhs hcf hxo this];rfl
     exact⟨⟨⟨⟨f1,key 0 f2⟩,key 1 f3⟩,key 2 f4⟩,key 3 f5⟩
   have hyS:F1 T ops y s=some (q,u,vs):=by
    unfold F1;have:gOf ops s y=some none:=by unfold gOf;rw[hgy]
    rw[this];dsimp only;rw[hfr2];rw[hfr]at hyo;simp only[opF,hcM]at hyo ⊢
    rw[e2]at hyo ⊢;exact hyo
   have hc0:(zs.map fun v=>QA.d (.v v)).any Qck=false:=by
    rw[List.any_eq_false];intro c hc;obtain⟨z,_,rfl⟩:=List.mem_map.1 hc;simp[Qck]
   obtain⟨g1,g2⟩:=QkK (cs0:=zs.map fun v=> .d (.v v)) hcf h6 hc0 h0 rfl hxo
   have hob:(s.put y.dst u vs).ob=QdZ s.ob (y.dst.getD 0,0) (zs.map fun v=> .d (.v v)):=by
    rw[St.put_ob,hvs];rfl
   have hfx:Qn (s.put y.dst u vs) x.dst=Qn s x.dst:=by
    cases hd:x.dst with
    | none=>rfl
    | some d=>
     have hne:y.dst≠some d:=fun e=>hdst d e hd
     have hk:∀j,(s.put y.dst u vs).ob (d,j)=s.ob (d,j):=fun j=>by
      rw[hob];refine Qao fun e=>?_
      simp only[Prod.mk.injEq]at e
      cases hd2:y.dst with
      | none=>rw[hd2]at hfr2;cases hfr2
      | some d2=>
       rw[hd2]at e;exact hne (by rw[hd2,e.1];rfl)
     simp only[Qn,Qx _ _ _ _ _ hne,hk]
   have hxS:F1 T ops x (s.put y.dst u vs)=some (p,v,us):=by
    unfold F1;have:gOf ops (s.put y.dst u vs) x=some none:=by unfold gOf;rw[hgd]
    rw[this];dsimp only;rw[hfx,hob,QeZ (ρ:=rho (s.put y.dst u vs)) (ρ':=rho s) _ _ _ _ _ fun z hz=>Qe2 fun t ht=>Qx _ _ _ _ _ fun e=>h3 t e (by
     subst ht;exact List.mem_append_left _ (List.mem_filterMap.2 ⟨.tmp t,by simpa using hz,rfl⟩))]
    exact g1
   rw[hyS];refine⟨hq,?_⟩
   simp only
   rw[hxS];refine⟨hp,?_⟩
   have hst:(s.put y.dst u vs).put x.dst v us=(s.put x.dst v us).put y.dst u vs:=by
    have ho:QY (QY s.ob vs) us=QY (QY s.ob us) vs:=by
     rw[hvs];exact QiT fun q hq=>(g2 q hq).1
    cases hxd:x.dst with
    | none=>cases y.dst<;>simp only[St.put,ho]
    | some d=>
     cases hyd:y.dst with
     | none=>simp only[St.put,ho]
     | some e=>
      have hde:d≠e:=fun he=>hdst e hyd (by rw[hxd,he])
      simp only[St.put,ho,Qom s.sl _ _ hde]
   show K ((s.put y.dst u vs).put x.dst v us)
   rw[hst];exact H
theorem QwI{T:QH}{ops:Array Oper}{x y:Oper}(h:Qrl T ops x y=true){K:St→Prop}{s:St}
  (H:Qb4 (F1 T ops x s) fun v us=>Qb4 (F1 T ops y (s.put x.dst v us)) fun u vs=>K ((s.put x.dst v us).put y.dst u vs)):
  Qb4 (F1 T ops y s) fun v us=>Qb4 (F1 T ops x (s.put y.dst v us)) fun u vs=>K ((s.put y.dst v us).put x.dst u vs):=by
 unfold Qrl at h;rw[Bool.or_eq_true]at h;rcases h with h|h
 rotate_left
 ·rw[Bool.and_eq_true,Bool.or_eq_true]at h
  exact Qtg h.1 h.2 H
 rw[Bool.or_eq_true]at h;rcases h with h|h
 ·exact Qtf h H
 ·rw[Bool.and_eq_true,Bool.or_eq_true]at h
  obtain⟨ha,hc⟩:=h;rcases hc with hc|hc
  rotate_left
  ·exact Qth ha hc H
  obtain⟨h1,h2,h3⟩:=Oper.apart_spec ha;have hc':Qrs x.op=true∧∃t2,y.op= .alloc t2:=by
   unfold QCp at hc;split at hc
   ·rename_i e2;exact⟨hc,_,e2⟩
   ·cases hc
  obtain⟨e1,t2,e2⟩:=hc';have hdst:∀d,y.dst=some d→x.dst≠some d:=fun d hy hx=>h2 d hx hy
  cases hx:F1 T ops x s with
  | none=>rw[hx]at H;exact H.elim
  | some r=>
   obtain⟨p,v,us⟩:=r;rw[hx]at H;obtain⟨hp,H⟩:=H;have hus:us=[]:=Qle (Qo5 e1) hx
   subst hus;have ey:F1 T ops y (s.put x.dst v [])=F1 T ops y s:=
    Qci y (fun t ht=>Qx _ _ _ _ _ fun e=>h1 t e ht) (fun d hd=>Qx _ _ _ _ _ (hdst d hd)) (.inr (by rw[St.put_ob];rfl))
   rw[ey]at H;cases hy:F1 T ops y s with
   | none=>rw[hy]at H;exact H.elim
   | some r=>
    obtain⟨q,u,vs⟩:=r;rw[hy]at H;obtain⟨hq,H⟩:=H;have ex:F1 T ops x (s.put y.dst u vs)=some (p,v,[]):=by
     rcases Qtn e2 hy hq with hvs|⟨o0,hvs,h0⟩
     ·rw[Qci x (fun t ht=>Qx _ _ _ _ _ fun e=>h3 t e ht) (fun d hd=>Qx _ _ _ _ _ fun e=>hdst d e hd) (.inr (by rw[St.put_ob,hvs];rfl))]
      exact hx
     exact Qoq x (k:=(y.dst.getD 0,0)) (o0:=o0) e1 (fun t ht=>Qx _ _ _ _ _ fun e=>h3 t e ht) h0 (by rw[St.put_ob,hvs];rfl) hx
    refine⟨hq,?_⟩
    simp only
    rw[ex];refine⟨hp,?_⟩
    show K ((s.put y.dst u vs).put x.dst v [])
    rw[show(s.put y.dst u vs).put x.dst v []=(s.put x.dst v []).put y.dst u vs from(St.put_comm s h2 (.inl rfl)).symm]
    exact H
theorem Qfc{r:Option (Prop×AV×List (Id×Ob))}{K K':AV→List (Id×Ob)→Prop}(h:∀v us,K v us→K' v us)(H:Qb4 r K):Qb4 r K':=by
 unfold Qb4 at *;split at H
 ·exact⟨H.1,h _ _ H.2⟩
 ·exact H.elim
theorem QmF{T:QH}{ops:Array Oper}{Q:St→Prop}{x:Oper}{post:List Oper}:∀(pre:List Oper) (_:∀y∈pre,Qrl T ops y x=true) (s:St),
  TL T ops Q (pre++x::post) s→TL T ops Q (x::(pre++post)) s
 | [],_,_,H=>H
 | y::pre,hi,s,H=>by
  have H1:Qb4 (F1 T ops y s) fun v us=>TL T ops Q (x::(pre++post)) (s.put y.dst v us):=
   Qfc (fun v us h=>QmF pre (fun z hz=>hi z (by simp[hz])) _ h) H
  exact QwI (K:=TL T ops Q (pre++post)) (hi y (by simp)) H1
end Go.Own
/-
  Own calculus, part F: the order of a region that draws, on the machine; the weakest precondition 'wpc' of code; its soundness (given that each operation is sound). Conditions: as each theorem states them.
-/
namespace Go.Own
open Go
variable {hd:Hid}
def Qh3 [Hid] (X:Ctx)(T:QH)(ops:Array Oper)(o:Oper):Prop:=
 ∀{s p v us},F1 T ops o s=some (p,v,us)→p→∀{a w},QhR X s a w→∀(K:Act→World→Prop) (Q:Exit→Act→World→Prop),
  (∀u w',QhR X (s.put o.dst v us) (a.put o.dst u) w'→K (a.put o.dst u) w')→
  if Region.wanted o (yielded ops a.tmps)then o.wp X.P a w K Q else K (a.put o.dst undef) w
section
variable {X:Ctx} {T:QH} {ops:Array Oper} {Q:St→Prop} {Q':Exit→Act→World→Prop}
theorem Qn8{i:Nat}{o:Oper}(hi:ops[i]? =some o)(hS:Qh3 X T ops o){s:St}{a:Act}{w:World}{K:Act→World→Prop}{N:AV→List (Id×Ob)→Prop}
  (H:Qb4 (F1 T ops o s) N) (c:QhR X s a w) (hK:∀v us u w',N v us→QhR X (s.put o.dst v us) (a.put o.dst u) w'→K (a.put o.dst u) w'):wpOp X.P ops Q' i K a w:=by
 unfold wpOp;simp only[hi]
 cases hf:F1 T ops o s with
 | none=>rw[hf]at H;exact H.elim
 | some r=>
  obtain⟨p,v,us⟩:=r;rw[hf]at H;have h:=hS hf H.1 c K Q' (fun u w' h=>hK v us u w' H.2 h)
  split
  ·rename_i hw;simp only[hw,if_true]at h;exact .inl h
  ·rename_i hw;simp only[hw]at h;exact h
theorem QkM(hS:∀o∈ops.toList,Qh3 X T ops o)(hQ:∀s a w,Q s→QhR X s a w→Q' .normal a w):∀(l:List Nat) (s:St) (a:Act) (w:World),
  (∀i∈l,i<ops.size)→TL T ops Q (l.filterMap (ops[·]?)) s→QhR X s a w→wpOps X.P ops Q' l a w
 | [],s,a,w,_,H,c=>hQ s a w H c
 | i::l,s,a,w,hl,H,c=>by
  have hi:=hl i (by simp)
  have ho:ops[i]? =some ops[i]:=Array.getElem?_eq_getElem hi
  rw[wpOps_cons];simp only[List.filterMap_cons,ho,TL]at H
  exact Qn8 ho (hS _ (by simp)) H c fun v us u w' hn hc=>QkM hS hQ l _ _ _ (fun j hj=>hl j (by simp[hj])) hn hc
def Qgg(ops:Array Oper)(i:Nat):List Nat:=
 match ops[i]? with
 | some o=>(o.after.toList.filter (Region.binds .any)).map (·.on)
 | none=>[]
def Qs6(ops:Array Oper):Nat→List (List Nat)
 | 0=>[]
 | n+1=>Qs6 ops n++[((Qgg ops n).flatMap fun k=>k::(Qs6 ops n).getD k []).eraseDups]
def QjI(T:QH)(ops:Array Oper):Bool:=
 let L:=Qs6 ops ops.size
 (List.range ops.size).all fun i=>(Qgg ops i).all (·<i)&&(List.range i).all fun k=>(L.getD i []).contains k||match ops[k]?,ops[i]? with
  | some x,some y=>Qrl T ops x y
  | _,_=>false
theorem Qgk(ops:Array Oper):∀n,(Qs6 ops n).length=n
 | 0=>rfl
 | n+1=>by simp[Qs6,Qgk ops n]
theorem QmS(ops:Array Oper):∀n i,i<n→(Qs6 ops n).getD i []=((Qgg ops i).flatMap fun k=>k::(Qs6 ops i).getD k []).eraseDups
 | n+1,i,h=>by
  simp only[Qs6,List.getD_eq_getElem?_getD]
  by_cases hi:i<n
  ·rw[List.getElem?_append_left (by rw[Qgk];exact hi)]
   have:=QmS ops n i hi
   simp only[List.getD_eq_getElem?_getD]at this
   exact this
  ·obtain rfl:i=n:=by omega
   rw[List.getElem?_append_right (by rw[Qgk];exact Nat.le_refl _)]
   simp[Qgk]
theorem Qqv(ops:Array Oper){L:Nat→Prop}(hlt:∀i,∀k∈Qgg ops i,k<i)(hd:∀j,L j→∀k∈Qgg ops j,L k):∀n i,i<n→(∀k∈Qgg ops i,L k)→∀k∈(Qs6 ops n).getD i [],L k:=by
 intro n i hin hp k hk;induction i using Nat.strongRecOn generalizing n with
 | _ i ih=>
  rw[QmS ops n i hin,List.mem_eraseDups,List.mem_flatMap]at hk;obtain⟨m,hm,hk⟩:=hk;rcases List.mem_cons.1 hk with rfl|hk
  ·exact hp k hm
  ·exact ih m (hlt i m hm) i (hlt i m hm) (hd m (hp m hm)) hk
theorem QfD{j:Nat}{listed:Array Bool}:j∈Region.ready .any ops listed↔listed.getD j true=false∧j<ops.size∧∀k∈Qgg ops j,listed.getD k false=true:=by
 rw[mem_ready];constructor
 ·rintro⟨h0,o,ho,hall⟩
  refine⟨h0,(Array.getElem?_eq_some_iff.1 ho).1,fun k hk=>?_⟩
  simp only[Qgg,ho,List.mem_map,List.mem_filter]at hk
  obtain⟨e,⟨he,hb⟩,rfl⟩:=hk;exact hall e (by simpa using he) hb
 ·rintro⟨h0,hj,hall⟩
  have ho:ops[j]? =some ops[j]:=Array.getElem?_eq_getElem hj
  refine⟨h0,ops[j],ho,fun e he hb=>hall e.on ?_⟩
  simp only[Qgg,ho,List.mem_map,List.mem_filter]
  exact⟨e,⟨by simpa using he,hb⟩,rfl⟩
def QaZ(n:Nat)(listed:Array Bool):List Nat:=(List.range n).filter fun i=> !listed.getD i true
theorem QpZ(hS:∀o∈ops.toList,Qh3 X T ops o)(hO:QjI T ops=true)(hQ:∀s a w,Q s→QhR X s a w→Q' .normal a w):∀(fuel:Nat) (listed:Array Bool) (s:St) (a:Act) (w:World),
  listed.size=ops.size→(∀j,listed.getD j false=true→∀k∈Qgg ops j,listed.getD k false=true)→(QaZ ops.size listed).length≤fuel→
  TL T ops Q ((QaZ ops.size listed).filterMap (ops[·]?)) s→QhR X s a w→wpAny X.P .any ops Q' fuel listed a w:=by
 have hlt:∀i,∀k∈Qgg ops i,k<i:=by
  intro i k hk
  by_cases hi:i<ops.size
  ·simp only[QjI,List.all_eq_true,List.mem_range,Bool.and_eq_true,decide_eq_true_eq]at hO
   exact(hO i hi).1 k hk
  ·simp[Qgg,Array.getElem?_eq_none (Nat.le_of_not_lt hi)]at hk
 have hind:∀i k,i<ops.size→k<i→k∉(Qs6 ops ops.size).getD i []→∀x y,ops[k]? =some x→ops[i]? =some y→Qrl T ops x y=true:=by
  intro i k hi hk hno x y hx hy;simp only[QjI,List.all_eq_true,List.mem_range,Bool.and_eq_true,Bool.or_eq_true,List.contains_iff_mem]at hO
  rcases(hO i hi).2 k hk with h|h
  ·exact absurd h hno
  ·simpa only[hx,hy]using h
 have first:∀(listed:Array Bool),Region.ready .any ops listed=[]→listed.size=ops.size→QaZ ops.size listed=[]:=by
  intro listed hr hsz;cases hR:QaZ ops.size listed with
  | nil=>rfl
  | cons i r=>
   exfalso
   have hmem:i∈QaZ ops.size listed:=by rw[hR];simp
   have hi:i<ops.size∧listed.getD i true=false:=by simpa [QaZ]using hmem
   have:i∈Region.ready .any ops listed:=by
    rw[QfD];refine⟨hi.2,hi.1,fun k hk=>?_⟩
    have hki:=hlt i k hk
    cases hl:listed.getD k false with
    | true=>rfl
    | false=>
     have hk2:k∈QaZ ops.size listed:=by
      simp only[QaZ,List.mem_filter,List.mem_range]
      refine⟨by omega,?_⟩
      have:k<listed.size:=by omega
      simp[this]at hl ⊢
      exact hl
     have hp:(QaZ ops.size listed).Pairwise (·<·):=(List.pairwise_lt_range).filter _
     rw[hR]at hp hk2;rcases List.mem_cons.1 hk2 with rfl|h
     ·omega
     ·have:=(List.pairwise_cons.1 hp).1 k h;omega
   rw[hr]at this;cases this
 intro fuel;induction fuel with
 | zero=>
  intro listed s a w hsz _ hf H c;have hR:QaZ ops.size listed=[]:=List.eq_nil_of_length_eq_zero (by omega)
  rw[hR]at H;refine⟨?_,hQ s a w H c⟩
  cases hr:Region.ready .any ops listed with
  | nil=>rfl
  | cons i r=>
   exfalso
   have hm:i∈Region.ready .any ops listed:=by rw[hr];simp
   rw[QfD]at hm;have:i∈QaZ ops.size listed:=by simp only[QaZ,List.mem_filter,List.mem_range];exact⟨hm.2.1,by rw[hm.1];rfl⟩
   rw[hR]at this;cases this
 | succ fuel ih=>
  intro listed s a w hsz hd hf H c;refine⟨fun hr=>?_,fun i hi=>?_⟩
  ·rw[first listed hr hsz]at H
   exact hQ s a w H c
  ·rw[QfD]at hi
   obtain⟨h0,hin,hpre⟩:=hi;have ho:ops[i]? =some ops[i]:=Array.getElem?_eq_getElem hin
   have hmem:i∈QaZ ops.size listed:=by simp only[QaZ,List.mem_filter,List.mem_range];exact⟨hin,by rw[h0];rfl⟩
   obtain⟨pre,post,hsp⟩:=List.append_of_mem hmem;have hp:(QaZ ops.size listed).Pairwise (·<·):=(List.pairwise_lt_range).filter _
   rw[hsp]at hp;have hlt1:∀k∈pre,k<i:=fun k hk=>(List.pairwise_append.1 hp).2.2 k hk i (by simp)
   have hlt2:∀k∈post,i<k:=(List.pairwise_cons.1 (List.pairwise_append.1 hp).2.1).1
   have hpn:∀k∈pre,listed.getD k true=false:=fun k hk=>by
    have:k∈QaZ ops.size listed:=by rw[hsp];simp[hk]
    simp only[QaZ,List.mem_filter]at this
    simpa using this.2
   have hnew:QaZ ops.size (listed.setIfInBounds i true)=pre++post:=by
    have e1:QaZ ops.size (listed.setIfInBounds i true)=(QaZ ops.size listed).filter (· ≠i):=by
     simp only[QaZ,List.filter_filter]
     refine List.filter_congr fun k hk=>?_
     by_cases hki:k=i
     ·subst hki;simp[hsz,hin]
     ·simp[Array.getElem?_setIfInBounds_ne (Ne.symm hki),hki]
    rw[e1,hsp,List.filter_append,List.filter_cons];simp only[ne_eq,not_true_eq_false,decide_false,Bool.false_eq_true,if_false]
    rw[List.filter_eq_self.2 (fun k hk=>by have:=hlt1 k hk;simp;omega),List.filter_eq_self.2 (fun k hk=>by have:=hlt2 k hk;simp;omega)]
   rw[hsp]at H;simp only[List.filterMap_append,List.filterMap_cons,ho]at H
   have H2:=QmF (x:=ops[i]) _ (fun y hy=>by
    rw[List.mem_filterMap]at hy;obtain⟨k,hk,hky⟩:=hy;refine hind i k hin (hlt1 k hk) (fun hc=>?_) y ops[i] hky ho
    have:=Qqv ops (L:=fun j=>listed.getD j false=true) hlt hd ops.size i hin hpre k hc
    have h2:=hpn k hk
    have hkl:k<listed.size:=by have:=hlt1 k hk;omega
    simp[hkl]at this h2
    rw[this]at h2;cases h2) s H
   refine Qn8 ho (hS _ (by simp)) H2 c fun v us u w' hn hc=>?_
   refine ih _ _ _ _ (by simp[hsz]) ?_ ?_ ?_ hc
   ·intro j hj k hk
    by_cases hji:j=i
    ·subst hji;exact getD_set_true (hpre k hk)
    ·have:listed.getD j false=true:=by rw[getD_set_ne false (Ne.symm hji)]at hj;exact hj
     exact getD_set_true (hd j this k hk)
   ·rw[hnew]
    rw[hsp]at hf;simp only[List.length_append,List.length_cons]at hf ⊢
    omega
   ·rw[hnew,List.filterMap_append]
    exact hn
end
end Go.Own
