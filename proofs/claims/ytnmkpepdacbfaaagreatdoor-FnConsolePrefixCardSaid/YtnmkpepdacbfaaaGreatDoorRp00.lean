/- Contracts. Conditions: as stated. -/
import Derived.Orders
import Derived.Laws.AppendOwn
import Derived.RowKit3
import Derived.Deep.LoopGhost
set_option linter.all false
namespace Go.Own
open Go
abbrev KA:=@Option.some.injEq
abbrev KB:=@Bool.and_eq_true
abbrev KC:=@Prod.mk.injEq
abbrev KD:=@List.getD_eq_getElem?_getD
abbrev KE:=@Int.toNat_natCast
abbrev KF:=@Nat.le_trans
abbrev KG:=@List.mem_append
abbrev KH:=@List.mem_singleton
abbrev KI:=@List.mem_cons
abbrev KJ:=@Nat.zero_le
abbrev KK:=@decide_eq_true_eq
abbrev KL:=@Int.eq_ofNat_of_zero_le
abbrev KM:=@List.append_nil
abbrev KN:=@List.length_append
abbrev KO:=@List.length_take
abbrev KP:=@Nat.le_refl
abbrev KQ:=@List.mem_map
abbrev KR:=@List.take_length
abbrev KS:=@Bool.not_eq_true
abbrev KT:=@Bool.false_and
abbrev KU:=@beq_eq_false_iff_ne
abbrev KV:=@List.length_map
abbrev KW:=@decide_eq_false
abbrev KX:=@Bool.false_eq_true
abbrev KY:=@Bool.true_and
abbrev KZ:=@decide_eq_true
abbrev Ka:=@Nat.mul_le_mul_right
abbrev Kb:=@Array.getElem?_eq_some_iff
abbrev Kc:=@List.getElem?_eq_getElem
abbrev Kd:=@List.eq_nil_of_length_eq_zero
abbrev Ke:=@List.nodup_cons
abbrev Kf:=@List.mem_flatten
abbrev Kg:=@List.all_eq_true
abbrev Kh:=@beq_iff_eq
abbrev Ki:=@List.mem_of_getElem?
abbrev Kj:=@List.take_of_length_le
abbrev Kk:=@List.length_drop
abbrev Kl:=@decide_eq_false_iff_not
abbrev Km:=@List.nodup_append
abbrev Kn:=@List.append_assoc
abbrev Ko:=@Bool.not_eq_true'
abbrev Kp:=@Bool.eq_iff_iff
abbrev Kq:=@Bool.or_eq_true
abbrev Kr:=@List.take_append_drop
abbrev Ks:=@List.mem_of_mem_take
abbrev Kt:=@Bool.or_eq_false_iff
abbrev Ku:=@List.mem_filter
abbrev Kv:=@List.map_append
abbrev Kw:=@List.take_zero
abbrev Ky:=@List.getElem?_take_of_lt
abbrev Kz:=@List.contains_iff_mem
abbrev K0:=@Option.some.inj
abbrev K1:=@List.drop_zero
abbrev K2:=@Nat.pow_le_pow_right
abbrev K3:=@List.length_filter_le
abbrev K4:=@Array.getElem?_eq_getElem
abbrev K5:=@List.getElem?_eq_some_iff
abbrev K6:=@List.getElem?_eq_none
abbrev K7:=@List.drop_length
abbrev K8:=@Bool.false_or
abbrev K9:=@Array.getD_eq_getD_getElem?
abbrev YA:=@List.getElem_of_mem
abbrev YB:=@List.drop_of_length_le
abbrev YC:=@Bool.true_or
abbrev YD:=@Nat.add_mul
abbrev YE:=@Array.getElem?_append_left
abbrev YF:=@Option.getD_some
abbrev YG:=@List.getElem?_map
abbrev YH:=@List.mem_append_left
abbrev YI:=@List.mem_of_mem_drop
abbrev YJ:=@List.getElem_mem
abbrev YK:=@List.not_mem_nil
abbrev YL:=@Bool.not_eq_false'
abbrev YM:=@Bool.and_false
abbrev YN:=@Array.length_toList
abbrev YO:=@List.cons.injEq
abbrev YP:=@List.mem_cons_of_mem
abbrev YQ:=@List.getElem?_drop
abbrev YR:=@List.flatten_append
abbrev YS:=@Bool.not_and
abbrev YT:=@Nat.min_eq_left
abbrev YU:=@Bool.not_false
abbrev YV:=@Bool.not_true
abbrev YW:=@List.foldl_append
abbrev YX:=@List.drop_eq_getElem_cons
abbrev YY:=@List.mem_filterMap
abbrev YZ:=@List.pairwise_cons
abbrev Ya:=@Nat.zero_add
abbrev Yb:=@List.length_nil
abbrev Yc:=@List.flatten_nil
abbrev Yd:=@Bool.and_true
theorem kR{p:Prop}(h:p:=by kernel_rfl):p:=h
inductive D where
  | v (x:Value)
  | sl (s:Nat) (l:List (List D))
  deriving Inhabited
abbrev Q6:=Array Obj
inductive Qn(W:Bool)(h:Q6):List D→List Value→List Nat→Prop
  | nil:Qn W h [] [] []
  | v {x ds vs F}:x.oneCell'=true→Qn W h ds vs F→Qn W h (.v x::ds) (x::vs) F
  | none {s ds vs F} {a:Option Addr}:(W=true→a=Option.none)→Qn W h ds vs F→Qn W h (.sl s []::ds) (.slice a 0 0::vs) F
  | sl {s l b off cap c e fz G ds vs F}:(W=true→off=0∧fz=(0,0)∧c.size=cap*s)→h[b]? =some (.cells c e fz)→l.length≤cap→cap≤maxLen→off+l.length*s≤c.size→(∀x∈l,x.length=s)→
      Qn W h l.flatten ((c.toList.drop off).take (l.length*s)) G→Qn W h ds vs F→
      Qn W h (.sl s l::ds) (.slice (some ⟨b,off,Option.none⟩) l.length cap::vs) (b::(G++F))
abbrev Qbl(h:Q6):List D→List Value→List Nat→Prop:=Qn false h
theorem Qn.weak{W:Bool}{h:Q6}{ds vs F}(r:Qn W h ds vs F):Qbl h ds vs F:=by
 induction r with
 | nil=>exact .nil
 | v h1 _ ih=>exact .v h1 ih
 | none _ _ ih=>exact .none (fun h=>nomatch h) ih
 | sl _ a1 a2 a3 a4 a5 _ _ ih1 ih2=>exact .sl (fun h=>nomatch h) a1 a2 a3 a4 a5 ih1 ih2
theorem Qn.length{W:Bool}{h:Q6}{ds vs F}(r:Qn W h ds vs F):ds.length=vs.length:=by
 induction r with
 | nil=>rfl
 | v _ _ ih=>simp[ih]
 | none _ _ ih=>simp[ih]
 | sl _ _ _ _ _ _ _ _ _ ih=>simp[ih]
theorem Qn.frame{W:Bool}{h h':Q6}{ds vs F}(r:Qn W h ds vs F)(hf:∀b∈F,h'[b]? =h[b]?):Qn W h' ds vs F:=by
 induction r with
 | nil=>exact .nil
 | v hx _ ih=>exact .v hx (ih hf)
 | none _ _ ih=>exact .none ‹_› (ih hf)
 | sl q hb h1 h2 h3 h4 _ _ ih1 ih2=>
  refine .sl q (by rw[hf _ (by simp)];exact hb) h1 h2 h3 h4 (ih1 fun b hb=>hf b (by simp[hb])) (ih2 fun b hb=>hf b (by simp[hb]))
theorem Qn.lt{W:Bool}{h:Q6}{ds vs F}(r:Qn W h ds vs F):∀b∈F,b<h.size:=by
 induction r with
 | nil=>simp
 | v _ _ ih=>exact ih
 | none _ _ ih=>exact ih
 | sl _ hb _ _ _ _ _ _ ih1 ih2=>
  intro b hm;simp only[KI,KG]at hm
  rcases hm with rfl|hm|hm
  ·exact(Kb.1 hb).1
  ·exact ih1 b hm
  ·exact ih2 b hm
theorem Qn.append{W:Bool}{h:Q6}{ds vs F ds' vs' F'}(r:Qn W h ds vs F)(r':Qn W h ds' vs' F'):Qn W h (ds++ds') (vs++vs') (F++F'):=by
 induction r with
 | nil=>exact r'
 | v hx _ ih=>exact .v hx ih
 | none _ _ ih=>exact .none ‹_› ih
 | sl q hb h1 h2 h3 h4 hi _ _ ih2=>
  simp only[List.cons_append,Kn]
  exact .sl q hb h1 h2 h3 h4 hi ih2
theorem Qn.split{W:Bool}{h:Q6}:∀(ds ds':List D) {vs F},Qn W h (ds++ds') vs F→∃vs1 vs2 F1 F2,vs=vs1++vs2∧F=F1++F2∧Qn W h ds vs1 F1∧Qn W h ds' vs2 F2
 | [],ds',vs,F,r=>⟨[],vs,[],F,rfl,rfl,.nil,r⟩
 | d::ds,ds',vs,F,r=>by
  cases r with
  | v hx r=>
   obtain⟨vs1,vs2,F1,F2,rfl,rfl,r1,r2⟩:=Qn.split ds ds' r;exact⟨_::vs1,vs2,F1,F2,rfl,rfl,.v hx r1,r2⟩
  | none q r=>
   obtain⟨vs1,vs2,F1,F2,rfl,rfl,r1,r2⟩:=Qn.split ds ds' r;exact⟨_::vs1,vs2,F1,F2,rfl,rfl,.none q r1,r2⟩
  | sl q hb h1 h2 h3 h4 hi r=>
   obtain⟨vs1,vs2,F1,F2,rfl,rfl,r1,r2⟩:=Qn.split ds ds' r;exact⟨_::vs1,vs2,_,F2,rfl,by simp,.sl q hb h1 h2 h3 h4 hi r1,r2⟩
theorem Qn.cons_inv{W:Bool}{h:Q6}{d:D}{ds v vs F}(r:Qn W h (d::ds) (v::vs) F):∃F1 F2,F=F1++F2∧Qn W h [d] [v] F1∧Qn W h ds vs F2:=by
 obtain⟨vs1,vs2,F1,F2,hv,hF,r1,r2⟩:=Qn.split [d] ds (by simpa using r)
 have h1:=r1.length
 match vs1,h1 with
 | [x],_=>
  simp only[List.cons_append,List.nil_append,YO]at hv
  obtain⟨rfl,rfl⟩:=hv;exact⟨F1,F2,hF,r1,r2⟩
theorem Qn.cons{W:Bool}{h:Q6}{d:D}{ds v vs F1 F2}(r1:Qn W h [d] [v] F1)(r2:Qn W h ds vs F2):Qn W h (d::ds) (v::vs) (F1++F2):=by
 simpa using Qn.append r1 r2
theorem QgO{α:Type}:∀(l:List (List α)) (s i:Nat) (_:∀x∈l,x.length=s) (hi:i<l.length),
  l.flatten=(l.take i).flatten++(l[i]++(l.drop (i+1)).flatten)∧(l.take i).flatten.length=i*s:=by
 intro l;induction l with
 | nil=>intro s i _ hi;simp at hi
 | cons x l ih=>
  intro s i hs hi;cases i with
  | zero=>simp
  | succ i=>
   have hx:x.length=s:=hs x (by simp)
   obtain⟨h1,h2⟩:=ih s i (fun y hy=>hs y (by simp[hy])) (by simpa using hi)
   refine⟨?_,?_⟩
   ·simp only[List.flatten_cons,List.take_succ_cons,List.getElem_cons_succ,List.drop_succ_cons,Kn]
    rw[h1]
   ·simp only[List.take_succ_cons,List.flatten_cons,KN,h2,hx]
    rw[YD];omega
theorem QaT{α:Type}:∀(l:List (List α)) (s:Nat) (_:∀x∈l,x.length=s),l.flatten.length=l.length*s:=by
 intro l s hs;induction l with
 | nil=>simp
 | cons x l ih=>
  have hx:x.length=s:=hs x (by simp)
  simp only[List.flatten_cons,KN,hx,ih (fun y hy=>hs y (by simp[hy])),List.length_cons]
  rw[YD];omega
theorem Qn.elem{W:Bool}{h:Q6}{s:Nat}{l:List (List D)}{off:Nat}{c:Array Value}{G:List Nat}(hs:∀x∈l,x.length=s)(hsz:off+l.length*s≤c.size)
  (r:Qn W h l.flatten ((c.toList.drop off).take (l.length*s)) G) {i:Nat} (hi:i<l.length):
  off+i*s+s≤c.size∧∃G',(∀b∈G',b∈G)∧Qn W h l[i] ((c.toList.drop (off+i*s)).take s) G':=by
 obtain⟨h1,h2⟩:=QgO l s i hs hi;have hli:l[i].length=s:=hs _ (YJ hi)
 have hle:(i+1)*s≤l.length*s:=Ka _ hi
 rw[YD]at hle;rw[h1]at r;obtain⟨v1,v2,F1,F2,hv,hF,r1,r2⟩:=Qn.split _ _ r;obtain⟨v3,v4,F3,F4,hv',hF',r3,r4⟩:=Qn.split _ _ r2;refine⟨by omega,F3,fun b hb=>by simp[hF,hF',hb],?_⟩
 have e1:v1.length=i*s:=by rw[←r1.length,h2]
 have e3:v3.length=s:=by rw[←r3.length,hli]
 have hv3:v3=(c.toList.drop (off+i*s)).take s:=by
  have:((c.toList.drop off).take (l.length*s)).drop (i*s)=v3++v4:=by
   rw[hv,hv',←e1,List.drop_left]
  have h5:(((c.toList.drop off).take (l.length*s)).drop (i*s)).take s=v3:=by
   rw[this,←e3,List.take_left]
  rw[←h5,List.drop_take,List.take_take,List.drop_drop];congr 1
  omega
 rw[←hv3];exact r3
theorem Qn.one{W:Bool}{h:Q6}{d:D}{v:Value}{F}(r:Qn W h [d] [v] F):v.oneCell'=true:=by
 cases r with
 | v hx _=>exact hx
 | none _ _=>rfl
 | sl=>rfl
theorem Qn.ones{W:Bool}{h:Q6}{ds vs F}(r:Qn W h ds vs F):∀v∈vs,v.oneCell'=true:=by
 induction r with
 | nil=>simp
 | v hx _ ih=>intro v hv;rcases KI.1 hv with rfl|hv;exact hx;exact ih v hv
 | none _ _ ih=>intro v hv;rcases KI.1 hv with rfl|hv;rfl;exact ih v hv
 | sl _ _ _ _ _ _ _ _ _ ih=>intro v hv;rcases KI.1 hv with rfl|hv;rfl;exact ih v hv
theorem Qn.of_all{W:Bool}{h:Q6}:∀{ds:List D} {vs:List Value} {F},Qn W h ds vs F→∀{P:Nat→Prop},(∀b∈F,P b)→∀(i:Nat) (d:D) (v:Value),ds[i]? =some d→vs[i]? =some v→∃F',Qn W h [d] [v] F'∧∀b∈F',P b:=by
 intro ds;induction ds with
 | nil=>intro vs F r P hP i d v h1 _;simp at h1
 | cons d0 ds ih=>
  intro vs F r P hP i d v h1 h2;match vs,r with
  | [],r=>have:=r.length;simp at this
  | v0::vs,r=>
   obtain⟨F1,F2,rfl,r1,r2⟩:=r.cons_inv;cases i with
   | zero=>
    simp only[List.getElem?_cons_zero,KA]at h1 h2
    subst h1;subst h2;exact⟨F1,r1,fun b hb=>hP b (by simp[hb])⟩
   | succ i=>exact ih r2 (fun b hb=>hP b (by simp[hb])) i d v (by simpa using h1) (by simpa using h2)
inductive Qd2(h:Q6):List (List D)→List Value→List Nat→Prop
  | nil:Qd2 h [] [] []
  | cons {ds b c e fz F l vs G}:h[b]? =some (.cells c e fz)→Qbl h ds c.toList F→Qd2 h l vs G→Qd2 h (ds::l) (.pointer (some ⟨b,0,none⟩)::vs) (b::(F++G))
theorem Qd2.frame{h h':Q6}{l vs F}(r:Qd2 h l vs F)(hf:∀b∈F,h'[b]? =h[b]?):Qd2 h' l vs F:=by
 induction r with
 | nil=>exact .nil
 | cons h1 h2 _ ih=>exact .cons (by rw[hf _ (by simp)];exact h1) (h2.frame fun b hb=>hf b (by simp[hb])) (ih fun b hb=>hf b (by simp[hb]))
theorem Qd2.lt{h:Q6}{l vs F}(r:Qd2 h l vs F):∀b∈F,b<h.size:=by
 induction r with
 | nil=>simp
 | cons h1 h2 _ ih=>
  intro x hx;rcases KI.1 hx with rfl|hx
  ·exact(Kb.1 h1).1
  ·exact(KG.1 hx).elim (h2.lt x) (ih x)
section
abbrev Id:=Nat×Nat
inductive QI where
  | any
  | d (x:D)
  | n (x:D)
  | fr (id:Id) (s:Nat) (l:List (List D)) (deep:Nat)
  | osl (id:Id)
  | bptr (id:Id) (off:Nat)
  | optr (id:Id) (i:Nat) (off:Nat)
  | isl (id:Id) (i:Nat) (off:Nat)
  | nptr (id:Id) (i:Nat) (off:Nat) (s:Nat) (j:Nat)
  | iptr (ds:List D)
  | fn (f:FuncId) (caps:List Id)
  | fni (f:FuncId) (l:List (List D))
  | sub (id:Id) (lo hi:Nat)
  | fb (id:Id) (ds:List D)
  | ltf (id id2:Id) (s2:Nat) (l2:List (List D)) (dp2:Nat)
  deriving Inhabited
inductive AV where
  | any
  | unk
  | one (c:QI)
  | agg (cs:List QI)
  | tup (vs:List (Bool×List QI))
  | lit (id:Id) (s:Nat) (els:List (List QI))
  | cnd (g:Bool) (av:AV)
  deriving Inhabited
inductive Ob where
  | none
  | dead
  | box (cs:List QI)
  | arr (s:Nat) (l:List (List D)) (deep:Nat)
  | inn (id:Id) (i off:Nat)
  deriving Inhabited
structure St where
  bs:Nat→Prop
  sl:Nat→AV
  ob:Id→Ob
inductive Qas{α β:Type}(R:α→β→Prop):List α→List β→Prop
  | nil:Qas R [] []
  | cons {a b l m}:R a b→Qas R l m→Qas R (a::l) (b::m)
theorem QdI{α β:Type}{R S:α→β→Prop}(H:∀a b,R a b→S a b){l:List α}{m:List β}(a:Qas R l m):Qas S l m:=by
 induction a with
 | nil=>exact .nil
 | cons h _ ih=>exact .cons (H _ _ h) ih
class Hid where
  hid:Nat→Prop
variable {hd:Hid}
def Imm [Hid] (own:Id→List Nat)(h:Q6)(b:Nat):Prop:=b<h.size∧(∀id,b∉own id)∧¬Hid.hid b
def Qj1 [Hid] (own:Id→List Nat)(h:Q6)(id:Id)(s:Nat)(l:List (List D))(deep:Nat)(b cap:Nat):Prop:=
 ∃c e G,own id=b::(if deep=0 then []else G)∧h[b]? =some (.cells c e (0,0))∧l.length≤cap∧cap≤maxLen∧c.size=cap*s∧(∀x∈l,x.length=s)∧
  Qn (deep !=0) h l.flatten (c.toList.take (l.length*s)) G∧(deep=0→∀x∈G,Imm own h x)
def QaX [Hid] (own:Id→List Nat)(h:Q6)(id:Id)(s:Nat)(l:List (List D))(deep:Nat)(v:Value):Prop:=
 (v= .slice none 0 0∧l=[]∧own id=[])∨∃b cap,v= .slice (some ⟨b,0,none⟩) l.length cap∧Qj1 own h id s l deep b cap
def Qhe(own:Id→List Nat)(ob:Id→Ob)(id:Id)(off:Nat)(v:Value):Prop:=
 ∃b,v= .pointer (some ⟨b,off,none⟩)∧match ob id with
 | .box _=>own id=[b]
 | .dead=>True
 | _=>False
def Qe4 [Hid] (own:Id→List Nat)(h:Q6)(s:St)(id:Id)(i off:Nat)(v:Value):Prop:=v.oneCell'=true∧s.sl id.1≠ .any∧match s.ob id with
  | .arr sz l deep=>deep=2→∃b cap c e,Qj1 own h id sz l deep b cap∧h[b]? =some (.cells c e (0,0))∧off<sz∧i<l.length∧c[i*sz+off]? =some v
  | .dead=>True
  | .inn .. =>True
  | _=>False
def QR [Hid] (own:Id→List Nat)(h:Q6)(s:St):QI→Value→Prop
 | .any,v=>v.oneCell'=true
 | .d x,v=>∃F,Qbl h [x] [v] F∧∀b∈F,Imm own h b
 | .n x,v=>∃F,Qbl h [x] [v] F∧∀b∈F,Imm own h b∧s.bs b
 | .fr id sz l deep,v=>v.oneCell'=true∧s.sl id.1≠ .any∧(s.ob id= .none→QaX own h id sz l deep v)
 | .osl id,v=>v.oneCell'=true∧s.sl id.1≠ .any∧match s.ob id with
  | .arr sz l deep=>QaX own h id sz l deep v
  | .dead=>True
  | .inn id' i off=>Qe4 own h s id' i off v
  | _=>False
 | .bptr id off,v=>s.sl id.1≠ .any∧Qhe own s.ob id off v
 | .optr id i off,v=>s.sl id.1≠ .any∧∃b o,v= .pointer (some ⟨b,o,none⟩)∧∃si,o=si+off∧match s.ob id with
  | .arr sz l deep=>si=i*sz∧∃cap,Qj1 own h id sz l deep b cap
  | .dead=>True
  | .inn .. =>True
  | _=>False
 | .isl id i off,v=>Qe4 own h s id i off v
 | .nptr id i off sz' j,v=>∃b0 len cap0,v= .pointer (some ⟨b0,j*sz',none⟩)∧j<len∧Qe4 own h s id i off (.slice (some ⟨b0,0,none⟩) len cap0)
 | .iptr ds,v=>∃b off c e fz F,v= .pointer (some ⟨b,off,none⟩)∧h[b]? =some (.cells c e fz)∧off+ds.length≤c.size∧Qbl h ds ((c.toList.drop off).take ds.length) F∧Imm own h b∧∀x∈F,Imm own h x
 | .fni f l,v=>∃(vs:List Value) (F:List Nat),v= .func (.func f) #[] vs.toArray∧Qd2 h l vs F∧∀b∈F,Imm own h b
 | .fb id ds,v=>v.oneCell'=true∧s.sl id.1≠ .any∧(s.ob id= .none→∃b c e F,v= .pointer (some ⟨b,0,none⟩)∧own id=[b]∧h[b]? =some (.cells c e (0,0))∧Qbl h ds c.toList F∧∀x∈F,Imm own h x)
 | .ltf id id2 s2 l2 dp2,v=>v.oneCell'=true∧s.sl id.1≠ .any∧(s.ob id= .none→∃b c e v0,v= .slice (some ⟨b,0,none⟩) 1 1∧own id=[b]∧h[b]? =some (.cells c e (0,0))∧c.toList=[v0]∧v0.oneCell'=true∧s.sl id2.1≠ .any∧(s.ob id2= .none→QaX own h id2 s2 l2 dp2 v0))
 | .sub id lo hi,v=>s.sl id.1≠ .any∧∃a n k,v= .slice (some a) n k∧match s.ob id with
  | .arr sz l deep=>∃b cap,a=⟨b,(if cap=lo then 0 else lo*sz),none⟩∧n=hi-lo∧k=cap-lo∧lo≤hi∧hi≤l.length∧Qj1 own h id sz l deep b cap
  | .dead=>True
  | .inn .. =>True
  | _=>False
 | .fn f caps,v=>∃vs:List Value,v= .func (.func f) #[] vs.toArray∧Qas (fun id u=>s.sl id.1≠ .any∧Qhe own s.ob id 0 u) caps vs
def Qk [Hid] (own:Id→List Nat)(h:Q6)(s:St)(cs:List QI)(vs:List Value):Prop:=Qas (QR own h s) cs vs
def Qc6 [Hid] (own:Id→List Nat)(h:Q6)(s:St)(p:Bool×List QI)(v:Value):Prop:=
 if p.1 then ∃vs,v= .agg vs∧Qk own h s p.2 vs.toList else ∃c,p.2=[c]∧QR own h s c v
def QEA [Hid] (own:Id→List Nat)(h:Q6)(s:St)(id:Id)(sz:Nat)(els:List (List QI))(v:Value):Prop:=
 ∃b c e,v= .slice (some ⟨b,0,none⟩) els.length els.length∧own id=[b]∧h[b]? =some (.cells c e (0,0))∧c.size=els.length*sz∧els.length≤maxLen∧(∀x∈els,x.length=sz)∧
  Qk own h s els.flatten c.toList
def QM [Hid] (own:Id→List Nat)(h:Q6)(s:St):AV→Value→Prop
 | .any,_=>True
 | .unk,_=>True
 | .one c,v=>QR own h s c v
 | .agg cs,v=>∃vs,v= .agg vs∧Qk own h s cs vs.toList
 | .tup ps,v=>∃vs:Array Value,v= .tuple vs∧Qas (Qc6 own h s) ps vs.toList
 | .lit id sz els,v=>v.oneCell'=true∧s.sl id.1≠ .any∧(s.ob id= .none→QEA own h s id sz els v)
 | .cnd g av,v=>(g=true→QM own h s av v)∧(g=false→v=undef)
def Qc4 [Hid] (own:Id→List Nat)(h:Q6)(s:St)(id:Id):Ob→Prop
 | .box cs=>∃b c e,own id=[b]∧h[b]? =some (.cells c e (0,0))∧Qk own h s cs c.toList
 | _=>True
inductive QfG [Hid] (own own':Id→List Nat)(h h':Q6)(id:Id):Ob→Ob→Prop
  | dead (o:Ob):QfG own own' h h' id o .dead
  | same (o:Ob):own' id=own id→(∀b∈own id,h'[b]? =h[b]?)→QfG own own' h h' id o o
  | mat (s:Nat) (l:List (List D)) (deep:Nat):QfG own own' h h' id .none (.arr s l deep)
  | matb (cs:List QI):QfG own own' h h' id .none (.box cs)
  | boxed (cs cs':List QI):own' id=own id→QfG own own' h h' id (.box cs) (.box cs')
  | upd (s:Nat) (l l':List (List D)) (deep deep':Nat):(own id=[]→own' id=[])→l'.length=l.length→(∀b cap,Qj1 own h id s l deep b cap→Qj1 own' h' id s l' deep' b cap)→
      (deep'=2→deep=2∧∀b∈(own id).head?,h'[b]? =h[b]?)→QfG own own' h h' id (.arr s l deep) (.arr s l' deep')
  | inn (s:Nat) (l:List (List D)) (deep:Nat) (j:Id) (i off:Nat):QfG own own' h h' id (.arr s l deep) (.inn j i off)
section
variable {own own':Id→List Nat} {h h':Q6} {s s':St}
structure Qav [Hid] (own own':Id→List Nat)(h h':Q6)(s s':St):Prop where
  bs:s'.bs=s.bs
  imm:∀b,(b<h.size∧∀id,b∉own id)→(b<h'.size∧∀id,b∉own' id)∧h'[b]? =h[b]?
  row:∀r,s.sl r≠ .any→s'.sl r≠ .any
  tr:∀id:Id,s.sl id.1≠ .any→QfG own own' h h' id (s.ob id) (s'.ob id)
  inn:∀(id:Id) (sz:Nat) (l:List (List D)) (deep:Nat) (j:Id) (i off:Nat),s.sl id.1≠ .any→s.ob id= .arr sz l deep→s'.ob id= .inn j i off→∀v,v.oneCell'=true→QaX own h id sz l deep v→Qe4 own' h' s' j i off v
theorem Qeu{s s':St}{id:Id}{sz:Nat}{l:List (List D)}{deep:Nat}{j:Id}{i off:Nat}{P:Prop}(h1:s.ob id= .arr sz l deep)(h2:s'.ob id= .inn j i off)(h:s'.ob id=s.ob id∨∀j i off,s'.ob id≠ .inn j i off):P:=by
 rcases h with h|h
 ·rw[h,h1]at h2;cases h2
 ·exact absurd h2 (h j i off)
theorem Qav.immI(k:Qav own own' h h' s s')(b:Nat)(hi:Imm own h b):Imm own' h' b∧h'[b]? =h[b]? :=
 have q:=k.imm b ⟨hi.1,hi.2.1⟩
 ⟨⟨q.1.1,q.1.2,hi.2.2⟩,q.2⟩
theorem Qav.reps(k:Qav own own' h h' s s'){W ds vs F}(r:Qn W h ds vs F)(hi:∀b∈F,Imm own h b):Qn W h' ds vs F∧∀b∈F,Imm own' h' b:=
 ⟨r.frame fun b hb=>(k.immI b (hi b hb)).2,fun b hb=>(k.immI b (hi b hb)).1⟩
theorem Qj1.same{id:Id}{sz:Nat}{l:List (List D)}{deep b cap:Nat}(k:Qav own own' h h' s s')(ho:own' id=own id)(hb:∀x∈own id,h'[x]? =h[x]?)
  (a:Qj1 own h id sz l deep b cap):Qj1 own' h' id sz l deep b cap:=by
 obtain⟨c,e,G,h1,h2,h3,h4,h5,h6,h7,h8⟩:=a
 by_cases hd:deep=0
 ·obtain⟨r1,r2⟩:=k.reps h7 (h8 hd)
  exact⟨c,e,G,ho.trans h1,(hb b (by simp[h1])).trans h2,h3,h4,h5,h6,r1,fun _=>r2⟩
 ·refine⟨c,e,G,ho.trans h1,(hb b (by simp[h1])).trans h2,h3,h4,h5,h6,h7.frame fun x hx=>hb x (by simp[h1,hd,hx]),fun h0=>absurd h0 hd⟩
theorem QaX.same{id:Id}{sz:Nat}{l:List (List D)}{deep:Nat}{v:Value}(k:Qav own own' h h' s s')(ho:own' id=own id)(hb:∀x∈own id,h'[x]? =h[x]?)
  (a:QaX own h id sz l deep v):QaX own' h' id sz l deep v:=by
 rcases a with⟨h1,h2,h3⟩|⟨b,cap,h1,h2⟩
 ·exact .inl ⟨h1,h2,ho.trans h3⟩
 ·exact .inr ⟨b,cap,h1,h2.same k ho hb⟩
theorem Qhe.keep{id:Id}{off:Nat}{v:Value}(t:QfG own own' h h' id (s.ob id) (s'.ob id))(a:Qhe own s.ob id off v):Qhe own' s'.ob id off v:=by
 unfold Qhe at *;obtain⟨b,h1,a⟩:=a;refine⟨b,h1,?_⟩
 generalize s.ob id=o at *;generalize s'.ob id=o' at *;cases t with
 | dead=>trivial
 | same o ho hb=>cases o<;>simp_all
 | mat=>exact a.elim
 | matb=>exact a.elim
 | boxed cs cs' ho=>simp_all
 | upd=>exact a.elim
 | inn=>exact a.elim
theorem Qe4.keep(k:Qav own own' h h' s s'){id:Id}{i off:Nat}{v:Value}(a:Qe4 own h s id i off v):Qe4 own' h' s' id i off v:=by
 obtain⟨h1c,ha,hb⟩:=a;have t:=k.tr id ha
 refine⟨h1c,k.row _ ha,?_⟩
 generalize s.ob id=o at t hb;generalize s'.ob id=o' at t;cases t with
 | dead=>trivial
 | same o ho hbb=>
  cases o with
  | arr sz l deep=>
   intro hd;obtain⟨b,cap,c,e,h1,h2,h3,h4,h5⟩:=hb hd;have hbo:b∈own id:=by obtain⟨c',e',G,q,_⟩:=h1;simp[q]
   exact⟨b,cap,c,e,h1.same k ho hbb,(hbb b hbo).trans h2,h3,h4,h5⟩
  | dead=>trivial
  | inn=>trivial
  | _=>exact hb.elim
 | mat=>exact hb.elim
 | matb=>exact hb.elim
 | boxed=>exact hb.elim
 | inn=>trivial
 | upd sz l l' deep deep' ho hl hup hin=>
  intro hd;obtain⟨hd0,hh⟩:=hin hd;obtain⟨b,cap,c,e,h1,h2,h3,h4,h5⟩:=hb hd0;have hbo:b∈(own id).head? :=by obtain⟨c',e',G,q,_⟩:=h1;simp[q]
  exact⟨b,cap,c,e,hup b cap h1,(hh b hbo).trans h2,h3,by omega,h5⟩
theorem QR.keep(k:Qav own own' h h' s s'){c:QI}{v:Value}(a:QR own h s c v):QR own' h' s' c v:=by
 cases c with
 | any=>exact a
 | n x=>obtain⟨F,r,hi⟩:=a;obtain⟨r1,r2⟩:=k.reps r (fun b hb=>(hi b hb).1);exact⟨F,r1,fun b hb=>⟨r2 b hb,by rw[k.bs];exact(hi b hb).2⟩⟩
 | d x=>obtain⟨F,r,hi⟩:=a;obtain⟨r1,r2⟩:=k.reps r hi;exact⟨F,r1,r2⟩
 | fr id sz l deep=>
  obtain⟨h1c,ha,hb⟩:=a;have t:=k.tr id ha
  refine⟨h1c,k.row _ ha,fun hn=>?_⟩
  rw[hn]at t;generalize s.ob id=o at t hb;cases t with
  | same _ ho hbb=>exact(hb rfl).same k ho hbb
 | osl id=>
  obtain⟨h1c,ha,hb⟩:=a;have t:=k.tr id ha
  refine⟨h1c,k.row _ ha,?_⟩
  generalize ho1:s.ob id=o at t hb;generalize ho2:s'.ob id=o' at t;cases t with
  | dead=>trivial
  | same o ho hbb=>
   cases o with
   | arr sz l deep=>exact QaX.same k ho hbb hb
   | dead=>trivial
   | inn j i off=>exact Qe4.keep k hb
   | _=>exact hb.elim
  | mat=>exact hb.elim
  | matb=>exact hb.elim
  | boxed=>exact hb.elim
  | inn sz l deep j i off=>exact k.inn id sz l deep j i off ha ho1 ho2 v h1c hb
  | upd sz l l' deep deep' ho hl hup _=>
   rcases hb with⟨h1,h2,h3⟩|⟨b,cap,h1,h2⟩
   ·subst h2
    exact .inl ⟨h1,Kd (by simpa using hl),ho h3⟩
   ·exact .inr ⟨b,cap,by rw[hl];exact h1,hup b cap h2⟩
 | bptr id off=>exact⟨k.row _ a.1,a.2.keep (k.tr id a.1)⟩
 | optr id i off=>
  obtain⟨ha,b,o,h1,si,h2,hb⟩:=a;have t:=k.tr id ha
  refine⟨k.row _ ha,b,o,h1,si,h2,?_⟩
  generalize s.ob id=o at t hb;generalize s'.ob id=o' at t;cases t with
  | dead=>trivial
  | same o ho hbb=>
   cases o with
   | arr sz l deep=>obtain⟨h3,cap,h4⟩:=hb;exact⟨h3,cap,h4.same k ho hbb⟩
   | dead=>trivial
   | inn=>trivial
   | _=>exact hb.elim
  | mat=>exact hb.elim
  | matb=>exact hb.elim
  | boxed=>exact hb.elim
  | inn=>trivial
  | upd sz l l' deep deep' ho hl hup _=>obtain⟨h3,cap,h4⟩:=hb;exact⟨h3,cap,hup b cap h4⟩
 | isl id i off=>exact Qe4.keep k a
 | nptr id i off sz' j=>
  obtain⟨b0,len,cap0,h1,h2,h3⟩:=a;exact⟨b0,len,cap0,h1,h2,h3.keep k⟩
 | iptr ds=>
  obtain⟨b,off,c,e,fz,F,h1,h2,h3,h4,h5,h6⟩:=a;obtain⟨r1,r2⟩:=k.reps h4 h6;exact⟨b,off,c,e,fz,F,h1,(k.immI b h5).2.trans h2,h3,r1,(k.immI b h5).1,r2⟩
 | fni f l=>
  obtain⟨vs,F,h1,h2,h3⟩:=a;exact⟨vs,F,h1,h2.frame fun b hb=>(k.immI b (h3 b hb)).2,fun b hb=>(k.immI b (h3 b hb)).1⟩
 | fb id ds=>
  obtain⟨h1c,ha,hb⟩:=a;have t:=k.tr id ha
  refine⟨h1c,k.row _ ha,fun hn=>?_⟩
  rw[hn]at t;generalize s.ob id=o at t hb;cases t with
  | same _ ho hbb=>
   obtain⟨b,c,e,F,g1,g2,g3,g4,g5⟩:=hb rfl;obtain⟨r1,r2⟩:=k.reps g4 g5;exact⟨b,c,e,F,g1,ho.trans g2,(hbb b (by simp[g2])).trans g3,r1,r2⟩
 | ltf id id2 s2 l2 dp2=>
  obtain⟨h1c,ha,hb⟩:=a;have t:=k.tr id ha
  refine⟨h1c,k.row _ ha,fun hn=>?_⟩
  rw[hn]at t;generalize s.ob id=o at t hb;cases t with
  | same _ ho hbb=>
   obtain⟨b,c,e,v0,g1,g2,g3,g4,g5,ha2,g6⟩:=hb rfl;refine⟨b,c,e,v0,g1,ho.trans g2,(hbb b (by simp[g2])).trans g3,g4,g5,k.row _ ha2,fun hn2=>?_⟩
   have t2:=k.tr id2 ha2
   rw[hn2]at t2;generalize s.ob id2=o2 at t2 g6;cases t2 with
   | same _ ho2 hbb2=>exact(g6 rfl).same k ho2 hbb2
 | sub id lo hi=>
  obtain⟨ha,ad,n,q,h1,hb⟩:=a;have t:=k.tr id ha
  refine⟨k.row _ ha,ad,n,q,h1,?_⟩
  generalize s.ob id=o at t hb;generalize s'.ob id=o' at t;cases t with
  | dead=>trivial
  | same o ho hbb=>
   cases o with
   | arr sz l deep=>obtain⟨b,cap,h2,h3,h4,h5,h6,h7⟩:=hb;exact⟨b,cap,h2,h3,h4,h5,h6,h7.same k ho hbb⟩
   | dead=>trivial
   | inn=>trivial
   | _=>exact hb.elim
  | mat=>exact hb.elim
  | matb=>exact hb.elim
  | boxed=>exact hb.elim
  | inn=>trivial
  | upd sz l l' deep deep' ho hl hup _=>obtain⟨b,cap,h2,h3,h4,h5,h6,h7⟩:=hb;exact⟨b,cap,h2,h3,h4,h5,by omega,hup b cap h7⟩
 | fn f caps=>
  obtain⟨vs,h1,h2⟩:=a;exact⟨vs,h1,QdI (fun _ _ ha=>⟨k.row _ ha.1,ha.2.keep (k.tr _ ha.1)⟩) h2⟩
theorem Qk.keep(k:Qav own own' h h' s s'){cs:List QI}{vs:List Value}(a:Qk own h s cs vs):Qk own' h' s' cs vs:=
 QdI (fun _ _ ha=>QR.keep k ha) a
theorem Qc6.keep(k:Qav own own' h h' s s'){p:Bool×List QI}{v:Value}(a:Qc6 own h s p v):Qc6 own' h' s' p v:=by
 unfold Qc6 at *;split
 ·rename_i hp;simp only[hp,if_true]at a;obtain⟨vs,h1,h2⟩:=a;exact⟨vs,h1,h2.keep k⟩
 ·rename_i hp;simp only[hp]at a;obtain⟨c,h1,h2⟩:=a;exact⟨c,h1,h2.keep k⟩
theorem QM.keep(k:Qav own own' h h' s s'):∀{av:AV} {v:Value},QM own h s av v→QM own' h' s' av v
 | .any,_,_=>trivial
 | .unk,_,_=>trivial
 | .one _,_,a=>QR.keep k a
 | .agg _,_,a=>by obtain⟨vs,h1,h2⟩:=a;exact⟨vs,h1,h2.keep k⟩
 | .tup _,_,a=>by obtain⟨vs,h1,h2⟩:=a;exact⟨vs,h1,QdI (fun _ _ ha=>Qc6.keep k ha) h2⟩
 | .lit id sz els,v,a=>by
  obtain⟨h1c,ha,hb⟩:=a;have t:=k.tr id ha
  refine⟨h1c,k.row _ ha,fun hn=>?_⟩
  rw[hn]at t;generalize s.ob id=o at t hb;cases t with
  | same _ ho hbb=>
   obtain⟨b,c,e,h1,h2,h3,h4,h5,h6,h7⟩:=hb rfl;exact⟨b,c,e,h1,ho.trans h2,(hbb b (by simp[h2])).trans h3,h4,h5,h6,h7.keep k⟩
 | .cnd _ _,_,a=>⟨fun hg=>QM.keep k (a.1 hg),a.2⟩
end
theorem QR.one{own:Id→List Nat}{h:Q6}{s:St}{c:QI}{v:Value}(a:QR own h s c v):v.oneCell'=true:=by
 cases c with
 | any=>exact a
 | d x=>obtain⟨F,r,_⟩:=a;exact r.one
 | n x=>obtain⟨F,r,_⟩:=a;exact r.one
 | fr=>exact a.1
 | osl=>exact a.1
 | bptr=>obtain⟨_,b,rfl,_⟩:=a;rfl
 | optr=>obtain⟨_,b,o,rfl,_⟩:=a;rfl
 | isl=>exact a.1
 | nptr=>obtain⟨_,_,_,rfl,_⟩:=a;rfl
 | iptr=>obtain⟨b,off,c,e,fz,F,rfl,_⟩:=a;rfl
 | fn=>obtain⟨vs,rfl,_⟩:=a;rfl
 | fni=>obtain⟨vs,F,rfl,_⟩:=a;rfl
 | sub=>obtain⟨_,_,_,_,rfl,_⟩:=a;rfl
 | fb=>exact a.1
 | ltf=>exact a.1
theorem Qas.length{α β:Type}{R:α→β→Prop}{l:List α}{m:List β}(a:Qas R l m):l.length=m.length:=by
 induction a with
 | nil=>rfl
 | cons _ _ ih=>simp[ih]
theorem Qas.get{α β:Type}{R:α→β→Prop}{l:List α}{m:List β}(a:Qas R l m):∀(i:Nat) (x:α),l[i]? =some x→∃y,m[i]? =some y∧R x y:=by
 induction a with
 | nil=>intro i x h;simp at h
 | cons h _ ih=>
  intro i x hx;cases i with
  | zero=>simp only[List.getElem?_cons_zero,KA]at hx;subst hx;exact⟨_,rfl,h⟩
  | succ i=>simpa using ih i x (by simpa using hx)
theorem Qas.drop{α β:Type}{R:α→β→Prop}{l:List α}{m:List β}(a:Qas R l m):∀n,Qas R (l.drop n) (m.drop n):=by
 induction a with
 | nil=>intro n;simp;exact .nil
 | cons h ha ih=>
  intro n;cases n with
  | zero=>exact .cons h ha
  | succ n=>simpa using ih n
theorem Qas.take{α β:Type}{R:α→β→Prop}{l:List α}{m:List β}(a:Qas R l m):∀n,Qas R (l.take n) (m.take n):=by
 induction a with
 | nil=>intro n;simp;exact .nil
 | cons h ha ih=>
  intro n;cases n with
  | zero=>simp;exact .nil
  | succ n=>simpa using .cons h (ih n)
theorem Qas.append{α β:Type}{R:α→β→Prop}{l l':List α}{m m':List β}(a:Qas R l m)(b:Qas R l' m'):Qas R (l++l') (m++m'):=by
 induction a with
 | nil=>exact b
 | cons h _ ih=>exact .cons h ih
theorem Qas.set{α β:Type}{R:α→β→Prop}{l:List α}{m:List β}(a:Qas R l m){x:α}{y:β}(hxy:R x y):∀n,Qas R (l.set n x) (m.set n y):=by
 induction a with
 | nil=>intro n;simp;exact .nil
 | cons h ha ih=>
  intro n;cases n with
  | zero=>exact .cons hxy ha
  | succ n=>exact .cons h (ih n)
end
section
variable {hd:Hid}
structure Env where
  P:Program
  N:Nat
  J:Q6→Prop
  st:∀h h',J h→(∀b,b<N→h'[b]? =h[b]?)→J h'
structure Ctx [Hid] extends Env where
  n:Nat
  dok:Nat→Bool
  hdok:∀x,dok x=true→x<n
  tm:Nat→Value
  w0:World
  M:List Nat
  nw:Nat→Prop
  hnw:∀b,w0.heap.size≤b→nw b
  hh:∀b,Hid.hid b→b<w0.heap.size∧b∉M
structure Qt [Hid] (X:Ctx)(own:Id→List Nat)(s:St)(a:Act)(w:World):Prop where
  defers:a.defers=[]
  size:a.tmps.size=X.n
  fix:∀x,X.dok x=false→a.tmps.getD x undef=X.tm x
  bs:s.bs=X.nw
  os:w.os=X.w0.os
  tape:w.tape=X.w0.tape
  output:w.output=X.w0.output
  grow:X.w0.heap.size≤w.heap.size
  old:∀b,b<X.w0.heap.size→b∉X.M→w.heap[b]? =X.w0.heap[b]?
  hN:X.N≤X.w0.heap.size∧∀b∈X.M,X.N≤b
  hJ:X.J w.heap
  lt:∀id b,b∈own id→b<w.heap.size∧(X.w0.heap.size≤b∨b∈X.M)
  nodup:∀id,(own id).Nodup
  disj:∀id id' b,b∈own id→b∈own id'→id=id'
  obs:∀id,Qc4 own w.heap s id (s.ob id)
  sls:∀i,QM own w.heap s (s.sl i) (a.tmps.getD i undef)
def QhJ [Hid] (X:Ctx)(s:St)(a:Act)(w:World):Prop:=∃own,Qt X own s a w
section
variable {X:Ctx} {own own':Id→List Nat} {s s':St} {a a':Act} {w w':World}
theorem Qt.nhN(c:Qt X own s a w){b:Nat}(hb:X.w0.heap.size≤b):¬Hid.hid b:=fun h=>by have:=(X.hh b h).1;omega
theorem Qt.nh(c:Qt X own s a w){id:Id}{b:Nat}(hb:b∈own id):¬Hid.hid b:=fun h=>by
 rcases(c.lt id b hb).2 with q|q
 ·exact c.nhN q h
 ·exact(X.hh b h).2 q
theorem Qt.bsle(c:Qt X own s a w)(b:Nat)(hb:X.w0.heap.size≤b):s.bs b:=by rw[c.bs];exact X.hnw b hb
theorem Qt.next(c:Qt X own s a w)(hd:a'.defers=[])(hn:a'.tmps.size=X.n)(ho:w'.os=w.os)(ht:w'.tape=w.tape)(hp:w'.output=w.output)
  (hg:w.heap.size≤w'.heap.size) (hb:∀b,b<w.heap.size→(∀id,b∉own id)→w'.heap[b]? =w.heap[b]?)
  (hlt:∀id b,b∈own' id→b<w'.heap.size∧(X.w0.heap.size≤b∨b∈X.M)) (hnd:∀id,(own' id).Nodup)
  (hdj:∀id id' b,b∈own' id→b∈own' id'→id=id') (hbs:s'.bs=s.bs)
  (hobs:∀id,Qc4 own' w'.heap s' id (s'.ob id)) (hsls:∀i,QM own' w'.heap s' (s'.sl i) (a'.tmps.getD i undef)) (hfix:∀x,X.dok x=false→a'.tmps.getD x undef=a.tmps.getD x undef):Qt X own' s' a' w' where
 defers:=hd
 size:=hn
 fix:=fun x hx=>(hfix x hx).trans (c.fix x hx)
 bs:=hbs.trans c.bs
 os:=ho.trans c.os
 tape:=ht.trans c.tape
 output:=hp.trans c.output
 grow:=KF c.grow hg
 old:=fun b h1 h2=>by
  rw[hb b (Nat.lt_of_lt_of_le h1 c.grow) fun id hm=>?_]
  ·exact c.old b h1 h2
  ·rcases(c.lt id b hm).2 with h|h
   ·omega
   ·exact h2 h
 hN:=c.hN
 hJ:=X.st _ _ c.hJ fun b h1=>hb b (by have:=c.hN.1;have:=c.grow;omega) fun id hm=>by
  rcases(c.lt id b hm).2 with h|h
  ·have:=c.hN.1;omega
  ·have:=c.hN.2 b h;omega
 lt:=hlt
 nodup:=hnd
 disj:=hdj
 obs:=hobs
 sls:=hsls
def upd(f:Nat→AV)(d:Nat)(v:AV):Nat→AV:=fun i=>if i=d then v else f i
theorem Qif(f:Nat→AV)(d:Nat)(v:AV):upd f d v d=v:=by simp[upd]
theorem Qwd(f:Nat→AV)(d i:Nat)(v:AV)(h:i≠d):upd f d v i=f i:=by simp[upd,h]
def Q7(g:Id→Ob):List (Id×Ob)→Id→Ob
 | []=>g
 | (k,o)::r=>Q7 (fun id=>if id=k then o else g id) r
def AV.mk:AV→AV
 | .any=> .unk
 | v=>v
theorem AV.mk_ne(v:AV):v.mk≠ .any:=by cases v<;>simp[AV.mk]
theorem QM.mk{h:Q6}{av:AV}{v:Value}(a:QM own h s av v):QM own h s av.mk v:=by cases av<;>first|exact a|trivial
def St.put(s:St)(d:Option Nat)(v:AV)(us:List (Id×Ob)):St:=
 match d with
 | some d=>⟨s.bs,upd s.sl d v.mk,Q7 s.ob us⟩
 | none=>⟨s.bs,s.sl,Q7 s.ob us⟩
theorem St.put_bs(s:St)(d:Option Nat)(v:AV)(us:List (Id×Ob)):(s.put d v us).bs=s.bs:=by cases d<;>rfl
theorem St.put_ob(s:St)(d:Option Nat)(v:AV)(us:List (Id×Ob)):(s.put d v us).ob=Q7 s.ob us:=by cases d<;>rfl
theorem St.put_row(s:St)(d:Option Nat)(v:AV)(us:List (Id×Ob))(r:Nat)(h:s.sl r≠ .any):(s.put d v us).sl r≠ .any:=by
 cases d with
 | none=>exact h
 | some d=>
  simp only[St.put,upd]
  split
  ·exact AV.mk_ne v
  ·exact h
theorem St.put_dst(s:St)(d:Nat)(v:AV)(us:List (Id×Ob)):(s.put (some d) v us).sl d≠ .any:=by
 simp only[St.put,Qif];exact AV.mk_ne v
theorem Act.put_getD(a:Act)(d:Option Nat)(v:Value)(hd:∀x,d=some x→x<a.tmps.size)(i:Nat):
  (a.put d v).tmps.getD i undef=if d=some i then v else a.tmps.getD i undef:=by
 cases d with
 | none=>simp[Act.put]
 | some d=>
  have:=hd d rfl
  simp only[Act.put,K9,Array.getElem?_setIfInBounds,KA]
  split
  ·simp
  ·rfl
theorem Qt.put_slots{d:Option Nat}{v:Value}{av:AV}{us:List (Id×Ob)}(k:Qav own own' w.heap w'.heap s s')(hd:∀x,d=some x→x<a.tmps.size)
  (hs:s'=s.put d av us) (c:Qt X own s a w) (hv:QM own' w'.heap s' av v):∀i,QM own' w'.heap s' (s'.sl i) ((a.put d v).tmps.getD i undef):=by
 intro i;rw[Act.put_getD a d v hd i];cases d with
 | none=>simp only[hs,St.put];subst hs;exact(c.sls i).keep k
 | some d=>
  by_cases hi:i=d
  ·subst hi
   simp only[if_true]
   have:s'.sl i=av.mk:=by rw[hs];simp[St.put,Qif]
   rw[this];exact hv.mk
  ·have:s'.sl i=s.sl i:=by rw[hs];simp[St.put,Qwd _ _ _ _ hi]
   rw[this,if_neg (by simpa using Ne.symm hi)]
   exact(c.sls i).keep k
theorem Qav.refl_heap(hs:∀r,s.sl r≠ .any→s'.sl r≠ .any)(hb:s'.bs=s.bs)(ho:s'.ob=s.ob){h:Q6}:Qav own own h h s s' where
 bs:=hb
 imm:=fun _ hi=>⟨hi,rfl⟩
 row:=hs
 tr:=fun id _=>by rw[ho];exact .same _ rfl fun _ _=>rfl
 inn:=fun id sz l deep j i off _ h1 h2=>by rw[ho,h1]at h2;cases h2
theorem Qc4.keep{h h':Q6}(k:Qav own own' h h' s s'){id:Id}(hs:s'.ob id=s.ob id)(ho:own' id=own id)(hb:∀b∈own id,h'[b]? =h[b]?)
  (a:Qc4 own h s id (s.ob id)):Qc4 own' h' s' id (s'.ob id):=by
 rw[hs];generalize s.ob id=o at a;cases o with
 | box cs=>obtain⟨b,c,e,h1,h2,h3⟩:=a;exact⟨b,c,e,ho.trans h1,(hb b (by simp[h1])).trans h2,h3.keep k⟩
 | _=>trivial
theorem Qt.turn{d:Option Nat}{av:AV}{v:Value}{us:List (Id×Ob)}(c:Qt X own s a w)(k:Qav own own' w.heap w'.heap s (s.put d av us))
  (ho:w'.os=w.os) (ht:w'.tape=w.tape) (hp:w'.output=w.output) (hg:w.heap.size≤w'.heap.size) (hd:∀x,d=some x→X.dok x=true)
  (hlt:∀id b,b∈own' id→b<w'.heap.size∧(X.w0.heap.size≤b∨b∈X.M)) (hnd:∀id,(own' id).Nodup)
  (hdj:∀id id' b,b∈own' id→b∈own' id'→id=id')
  (hobs:∀id,Qc4 own' w'.heap (s.put d av us) id ((s.put d av us).ob id)) (hv:QM own' w'.heap (s.put d av us) av v):
  Qt X own' (s.put d av us) (a.put d v) w':=
 c.next (by cases d<;>exact c.defers) (by cases d<;>simp[Act.put,c.size]) ho ht hp hg (fun b h1 h2=>(k.imm b ⟨h1,h2⟩).2) hlt hnd hdj (St.put_bs s d av us) hobs
  (Qt.put_slots k (fun x hx=>by rw[c.size];exact X.hdok x (hd x hx)) rfl c hv) fun x hx=>by
   rw[Act.put_getD a d v (fun y hy=>by rw[c.size];exact X.hdok y (hd y hy)) x,if_neg]
   intro h;rw[hd x h]at hx;cases hx
theorem Qt.pure{d:Option Nat}{av:AV}{v:Value}(c:Qt X own s a w)(hw:w'.heap=w.heap)(ho:w'.os=w.os)(ht:w'.tape=w.tape)(hp:w'.output=w.output)
  (hd:∀x,d=some x→X.dok x=true) (hv:QM own w.heap s av v):Qt X own (s.put d av []) (a.put d v) w':=by
 have k:Qav own own w.heap w'.heap s (s.put d av []):=by
  rw[hw];exact Qav.refl_heap (St.put_row s d av []) (St.put_bs s d av []) (by rw[St.put_ob];rfl)
 exact c.turn k ho ht hp (by rw[hw];exact KP _) hd (by rw[hw];exact c.lt) c.nodup c.disj (fun id=>Qc4.keep k (by rw[St.put_ob];rfl) rfl (fun b _=>by rw[hw]) (c.obs id)) (hv.keep k)
end
end
section
variable {hd:Hid}
inductive TyD where
  | slice (e:TypeId)
  | struct (fs:List (Nat×TypeId))
  | int (k:IntKind)
  | bool
  | str
  | other
  deriving Inhabited
structure TyI where
  size:Nat
  bytes:Nat
  agg:Bool
  eq:Bool
  d:TyD
  zero:List Value
  deriving Inhabited
inductive Arg where
  | one (d:D)
  | agg (ds:List D)
  | ptr (ds:List D)
  | arr (s:Nat) (l:List (List D)) (deep:Nat)
  | box (ds:List D)
  | mag (cs:List (D ⊕ (Nat×List (List D)×Nat)))
  | mbx (cs:List (D ⊕ (Nat×List (List D)×Nat)))
  | fnc (f:FuncId) (caps:List (List D))
  | gone
  deriving Inhabited
inductive RC where
  | d (x:D)
  | own (s:Nat) (l:List (List D)) (deep:Nat)
  | box (ds:List D)
  deriving Inhabited
structure RV where
  agg:Bool
  cs:List RC
  deriving Inhabited
structure Qb where
  muts:List Bool
  alias:Bool
  run:List Arg→Option (Prop×List RV×List Arg)
structure QS where
  ty:TypeId→Option TyI
  ct:FuncId→Option Qb
  wr:Bool
  im:Nat→Bool
  nm:Bool
  bx:Nat→Bool
inductive Cls|P|R|M
  deriving DecidableEq
def Qu8(l:List Bool):Bool:=l.any id
def bxq(T:QS):Operand→Bool
 | .tmp k=>T.bx k
 | _=>false
def cls(T:QS):Op→Cls
 | .move _| .pick .. | .unOp .. | .binOp .. | .fieldAddr .. | .field .. | .extract .. | .nilCheck _| .makeFunc .. => .P
 | .convert .. | .load .. | .indexAddr .. | .index .. | .makeSlice .. | .buildSlice .. | .build .. => .R
 | .slice _ x _ _ _=>if bxq T x then .M else .R
 | .call {callee:= .value (.func f),..}=>match T.ct f with
  | some c=>if Qu8 c.muts then .M else .R
  | none=> .M
 | .call {callee:= .value _,..}=> .R
 | .call {callee:= .builtin .len,..}| .call {callee:= .builtin .max,..}| .call {callee:= .builtin .min,..}=> .R
 | _=> .M
def rho(s:St):Operand→AV
 | .tmp t=>s.sl t
 | .const v=>if v.oneCell' then .one (.d (.v v))else .unk
 | .global _=> .unk
 | .func f=> .one (.fn f [])
def AV.isAny:AV→Bool
 | .any=>true
 | _=>false
@[reducible] def bV (b:Bool):AV:= .one (.d (.v (.bool b)))
@[reducible] def iV (n:Int):AV:= .one (.d (.v (.int .i64 n)))
def inR(k:IntKind)(n:Int):Prop:=k.min≤n∧n≤k.max
def QV(op:BinOp)(k:IntKind)(x y:Int):Int:=
 let a:=BitVec.ofInt k.bits x
 let b:=BitVec.ofInt k.bits y
 match op with
 | .and=>k.wrap (a&&& b).toNat
 | .or=>k.wrap (a||| b).toNat
 | .xor=>k.wrap (a^^^b).toNat
 | _=>k.wrap (a&&& ~~~b).toNat
def QBk(k:IntKind)(wr:Bool)(n:Int):Option (Prop×Value):=if wr then some (True,.int k (k.wrap n))else some (inR k n,.int k n)
def QEE(wr:Bool)(op:BinOp):Value→Value→Option (Prop×Value)
 | .int k x,.int k' y=>
  match op with
  | .shl=>if wr then some (0≤y,.int k (k.wrap (x*2^min y.toNat k.bits)))else some (0≤y∧y<k.bits∧inR k (x*2^y.toNat),.int k (x*2^y.toNat))
  | .shr=>some (0≤y∧y<k.bits,.int k (x.fdiv (2^y.toNat)))
  | _=>if k=k' then
    match op with
    | .add=>QBk k wr (x+y)
    | .sub=>QBk k wr (x-y)
    | .mul=>QBk k wr (x*y)
    | .quo=>some (y≠0∧inR k (x.tdiv y),.int k (x.tdiv y))
    | .rem=>some (y≠0,.int k (x.tmod y))
    | .and=>some (True,.int k (QV .and k x y))
    | .or=>some (True,.int k (QV .or k x y))
    | .xor=>some (True,.int k (QV .xor k x y))
    | .andNot=>some (True,.int k (QV .andNot k x y))
    | .eql=>some (True,.bool (x==y))
    | .neq=>some (True,.bool (x !=y))
    | .lss=>some (True,.bool (decide (x<y)))
    | .leq=>some (True,.bool (decide (x≤y)))
    | .gtr=>some (True,.bool (decide (x>y)))
    | .geq=>some (True,.bool (decide (x≥y)))
    | _=>none
   else none
 | .string x,.string y=>
  match op with
  | .add=>some (x.size+y.size≤4611686018427387904,.string (x++y))
  | .eql=>some (True,.bool (x.toList==y.toList))
  | .neq=>some (True,.bool (!(x.toList==y.toList)))
  | _=>none
 | _,_=>none
def Qgn(x:Bool):AV→Option (Prop×Bool)
 | .one (.d (.v (.bool y)))=>some (True,y)
 | .cnd g (.one (.d (.v (.bool y))))=>some (x=true→g=true,y)
 | .cnd false .unk=>some (x=false,false)
 | _=>none
def QDM(r:Option (Prop×Value)):Option (Prop×AV):=match r with
 | some (p,v)=>some (p,.one (.d (.v v)))
 | none=>none
def QdC:List QI→Option (List (IntKind×Int))
 | []=>some []
 | .d (.v (.int k n))::r=>match QdC r with
  | some l=>some ((k,n)::l)
  | none=>none
 | _=>none
def Ql9(op:BinOp)(xs ys:List QI):Option (Prop×AV):=
 match QdC xs,QdC ys with
 | some a,some b=>match op with
  | .eql=>some (a.map (·.1)=b.map (·.1),bV (a.map (·.2)==b.map (·.2)))
  | .neq=>some (a.map (·.1)=b.map (·.1),bV (!(a.map (·.2)==b.map (·.2))))
  | _=>none
 | _,_=>none
def QiR(T:QS)(t:TypeId)(f:Nat):Option (Nat×TypeId):=
 match T.ty t with
 | some {d:= .struct fs,..}=>fs[f]?
 | _=>none
def Qhq(agg:Bool)(off size:Nat)(cs:List QI):Option AV:=
 if agg then if off+size≤cs.length then some (.agg ((cs.drop off).take size))else none else match cs[off]? with
  | some c=>some (.one c)
  | none=>none
def Qkh:List AV→Option (List Id)
 | []=>some []
 | .one (.bptr id 0)::r=>match Qkh r with
  | some l=>some (id::l)
  | none=>none
 | _=>none
def opP(T:QS)(ρ:Operand→AV):Op→Option (Prop×AV)
 | .move x=>some (True,ρ x)
 | .makeFunc (.func f) first bs=>if first.toList.isEmpty=true then match Qkh (bs.toList.map ρ)with
   | some ids=>some (True,.one (.fn f ids))
   | none=>none
  else none
 | .pick c a b=>match ρ c with
  | .one (.d (.v (.bool x)))=>match Qgn x (ρ a),Qgn (!x) (ρ b)with
   | some (p,y),some (q,z)=>some (p∧q,bV (cond x y z))
   | _,_=>none
  | _=>none
 | .unOp op _ x=>match op,ρ x with
  | .not,.one (.d (.v (.bool b)))=>some (True,bV (!b))
  | .neg,.one (.d (.v (.int k n)))=>QDM (QBk k T.wr (0-n))
  | _,_=>none
 | .binOp op t x y _=>match ρ x,ρ y with
  | .one (.d (.v (.bool a))),.one (.d (.v (.bool b)))=>match T.ty t with
   | some {d:= .bool,..}=>match op with
    | .eql=>some (True,bV (a==b))
    | .neq=>some (True,bV (!(a==b)))
    | _=>none
   | _=>none
  | .one (.d (.v a)),.one (.d (.v b))=>QDM (QEE T.wr op a b)
  | .agg xs,.agg ys=>match T.ty t with
   | some {d:= .struct _,size:=n,eq:=true,..}=>if xs.length=n∧ys.length=n then Ql9 op xs ys else none
   | _=>none
  | _,_=>none
 | .fieldAddr t x f=>match QiR T t f with
  | some (off,ft)=>match T.ty ft with
   | some y=>if y.size=0 then none else match ρ x with
    | .one (.bptr id o)=>some (True,.one (.bptr id (o+off)))
    | .one (.iptr ds)=>some (off≤ds.length,.one (.iptr (ds.drop off)))
    | .one (.optr id i o)=>some (True,.one (.optr id i (o+off)))
    | _=>none
   | none=>none
  | none=>none
 | .field t x f=>match QiR T t f,ρ x with
  | some (off,ft),.agg cs=>match T.ty ft with
   | some y=>match Qhq y.agg off y.size cs with
    | some av=>some (True,av)
    | none=>none
   | none=>none
  | _,_=>none
 | .extract x i=>match ρ x with
  | .tup vs=>match vs[i]? with
   | some (true,cs)=>some (True,.agg cs)
   | some (false,[c])=>some (True,.one c)
   | _=>none
  | _=>none
 | .nilCheck x=>match ρ x with
  | .one (.bptr id o)=>some (True,.one (.bptr id o))
  | .one (.iptr ds)=>some (True,.one (.iptr ds))
  | _=>none
 | _=>none
def toD(ob:Id→Ob):QI→Option D
 | .d x=>some x
 | .n x=>some x
 | .fr id s l _=>match ob id with
  | .none=>some (.sl s l)
  | _=>none
 | .osl id=>match ob id with
  | .arr s l _=>some (.sl s l)
  | .inn j i o=>match ob j with
   | .arr _ l 2=>some ((l.getD i []).getD o default)
   | _=>none
  | _=>none
 | .isl id i o=>match ob id with
  | .arr _ l 2=>some ((l.getD i []).getD o default)
  | _=>none
 | .sub id lo hi=>match ob id with
  | .arr s l _=>some (.sl s ((l.take hi).drop lo))
  | _=>none
 | _=>none
def Qcx(ob:Id→Ob):List QI→Option (List D)
 | []=>some []
 | c::r=>match toD ob c,Qcx ob r with
  | some x,some l=>some (x::l)
  | _,_=>none
def QbO:QI→Option D
 | .d x=>some x
 | .n x=>some x
 | _=>none
def Qao:List QI→Option (List D)
 | []=>some []
 | c::r=>match QbO c,Qao r with
  | some x,some l=>some (x::l)
  | _,_=>none
def Qor(ob:Id→Ob):List Id→Option (List (List D))
 | []=>some []
 | id::r=>match ob id,Qor ob r with
  | .box cs,some l=>match Qcx ob cs with
   | some ds=>some (ds::l)
   | none=>none
  | _,_=>none
def QdM(ob:Id→Ob):List QI→Option (List (D ⊕ (Nat×List (List D)×Nat)))
 | []=>some []
 | .d x::r=>match QdM ob r with
  | some l=>some (.inl x::l)
  | none=>none
 | .osl id::r=>match ob id,QdM ob r with
  | .arr s m dp,some l=>if dp=0 then none else some (.inr (s,m,dp)::l)
  | _,_=>none
 | _=>none
def Qfh(ob:Id→Ob)(m:Bool):AV→Option Arg
 | .one c=>if m then match c with
   | .osl id=>match ob id with
    | .arr s l dp=>some (.arr s l dp)
    | _=>none
   | .isl id i o=>match ob id with
    | .arr _ l 2=>match (l.getD i []).getD o default with
     | .sl s r=>some (.arr s r 1)
     | _=>none
    | _=>none
   | .bptr id 0=>match ob id with
    | .box cs=>match Qao cs with
     | some ds=>some (.box ds)
     | none=>none
    | _=>none
   | _=>none
  else match c with
   | .bptr id 0=>match ob id with
    | .box cs=>match Qcx ob cs with
     | some ds=>some (.ptr ds)
     | none=>none
    | _=>none
   | .iptr ds=>some (.ptr ds)
   | .fni f l=>some (.fnc f l)
   | .fn f caps=>match Qor ob caps with
    | some l=>some (.fnc f l)
    | none=>none
   | c=>match toD ob c with
    | some d=>some (.one d)
    | none=>none
 | .agg cs=>if m then match QdM ob cs with
   | some l=>some (.mag l)
   | none=>none
  else match Qcx ob cs with
   | some ds=>some (.agg ds)
   | none=>none
 | _=>none
def Qce(ob:Id→Ob):List Bool→List AV→Option (List Arg)
 | _,[]=>some []
 | ms,v::r=>match Qfh ob (ms.headD false) v,Qce ob ms.tail r with
  | some a,some l=>some (a::l)
  | _,_=>none
def Qiy:QI→Bool
 | .d _| .n _| .fn _ []=>true
 | _=>false
def QbM:QI→Bool
 | .n _| .d (.v _)=>true
 | _=>false
def Qhx:AV→Bool
 | .one c=>Qiy c
 | .agg cs=>cs.all Qiy
 | _=>false
def Qis:AV→Bool
 | .one c=>QbM c
 | .agg cs=>cs.all QbM
 | _=>false
def QdO(row:Nat)(nw im:Bool):Nat→List RC→List QI
 | _,[]=>[]
 | k,.d x::r=>(if nw then .n x else .d x)::QdO row nw im k r
 | k,.own s l dp::r=>(if im then(if nw then .n (.sl s l)else .d (.sl s l))else .fr (row,k) s l dp)::QdO row nw im (k+1) r
 | k,.box ds::r=>(if im then .iptr ds else .fb (row,k) ds)::QdO row nw im (k+1) r
def QnI:QI→QI
 | .n (.v x)=> .d (.v x)
 | c=>c
def Qn0:List RC→Nat
 | []=>0
 | .d _::r=>Qn0 r
 | .own .. ::r=>Qn0 r+1
 | .box _::r=>Qn0 r+1
def Qh8(row:Nat)(nw im:Bool):Nat→List RV→List (Bool×List QI)
 | _,[]=>[]
 | k,r::rs=>(r.agg,(QdO row nw im k r.cs).map QnI)::Qh8 row nw im (k+Qn0 r.cs) rs
def Qvt:Bool×List QI→AV
 | (true,cs)=> .agg cs
 | (false,[c])=> .one c
 | _=> .unk
def Qjn(row:Nat)(nw im:Bool)(rs:List RV):AV:=
 match rs with
 | [r]=>Qvt (r.agg,(QdO row nw im 0 r.cs).map QnI)
 | []=> .unk
 | rs=> .tup (Qh8 row nw im 0 rs)
def rvN:List RV→Nat
 | []=>0
 | r::rs=>Qn0 r.cs+rvN rs
def QdY(rs:List RV):Bool:=rvN rs !=0
def QaO:D→Prop
 | .v _=>True
 | .sl .. =>False
def Qdr(b:ByteArray)(n:Nat):Int:=((b.data.toList)[n]?.getD 0).toNat
def Qsr(mx:Bool):AV→AV→Option AV
 | .one (.d (.v (.int k x))),.one (.d (.v (.int k' y)))=>if k=k' then some (.one (.d (.v (.int k (if mx then max x y else min x y)))))else none
 | _,_=>none
def Qhw(ρ:Operand→AV):Option Operand→Option (Option Int)
 | none=>some none
 | some x=>match ρ x with
  | .one (.d (.v (.int _ n)))=>some (some n)
  | _=>none
def QgA(T:QS)(d:Nat)(ob:Id→Ob)(fresh im mu:Bool)(f:FuncId)(vs:List AV):Option (Prop×AV×List Arg):=
 match T.ct f with
 | some c=>if Qu8 c.muts !=mu then none else match Qce ob c.muts vs with
  | some as=>match c.run as with
   | some (p,rs,ms)=>
    if c.alias then some (p∧rvN rs≤4∧vs.all Qhx=true∧(im=false→QdY rs=true→fresh=true),Qjn d (vs.all Qis) im rs,ms)
    else some (p∧rvN rs≤4∧(im=false→QdY rs=true→fresh=true),Qjn d true im rs,ms)
   | none=>none
  | none=>none
 | none=>none
def Qeq:List AV→Option (List (List QI))
 | []=>some []
 | .one c::r=>match Qeq r with
  | some l=>some ([c]::l)
  | none=>none
 | _=>none
def Qep(n:Nat):List AV→Option (List (List QI))
 | []=>some []
 | .agg cs::r=>if cs.length=n then match Qep n r with
  | some l=>some (cs::l)
  | none=>none
  else none
 | _=>none
def Qct:AV→Option (List QI)
 | .one c=>some [c]
 | .agg cs=>some cs
 | .lit id 1 [[.fr id2 s2 l2 dp2]]=>some [.ltf id id2 s2 l2 dp2]
 | _=>none
def Qcn(T:QS)(fs:List (Nat×TypeId))(cs:List QI):List Nat→List AV→Option (Prop×AV)
 | [],[]=>some (True,.agg cs)
 | i::is,x::r=>match fs[i]? with
  | some (off,ft)=>match T.ty ft with
   | some y=>match Qct x with
    | some new=>if new.length=y.size∧off+new.length≤cs.length then Qcn T fs (cs.take off++new++cs.drop (off+new.length)) is r else none
    | none=>none
   | none=>none
  | none=>none
 | _,_=>none
def bL(ns:List Int):List (List D):=ns.map fun n=>[.v (.int .u8 n)]
def unB(l:List (List D)):List Int:=l.map fun
 | [.v (.int .u8 n)]=>n
 | _=>0
def Qca(ns:List Int):ByteArray:=ns.foldl (fun r n=>r.push (UInt8.ofNat n.toNat)) ByteArray.empty
def QeO:List (List QI)→Option (List Int)
 | []=>some []
 | [.d (.v (.int .u8 n))]::r=>match QeO r with
  | some l=>some (n::l)
  | none=>none
 | _=>none
def QEJ:AV→Bool
 | .one (.d (.v _))=>true
 | _=>false
def QlD(T:QS)(id:Id):Bool:= !T.bx 1000||T.bx (1001+id.1)
def Qnc(T:QS):AV→Bool
 | .one (.bptr id _)=>QlD T id
 | _=>false
def QbR:QI→Option D
 | .d (.v x)=>some (.v x)
 | _=>none
def Qy:List QI→Option (List D)
 | []=>some []
 | c::r=>match QbR c,Qy r with
  | some x,some l=>some (x::l)
  | _,_=>none
def QK(f:List QI→Option (List D)):List (List QI)→Option (List (List D))
 | []=>some []
 | c::r=>match f c,QK f r with
  | some x,some l=>some (x::l)
  | _,_=>none
def QDO(d sz:Nat)(fresh im:Bool)(els:List (List QI)):Option (Prop×AV):=
 if im then match QK Qy els with
  | some l=>some (True,.one (.n (.sl sz l)))
  | none=>match QK Qao els with
   | some l=>some (True,.one (.d (.sl sz l)))
   | none=>some (fresh=true,.lit (d,0) sz els)
 else some (fresh=true,.lit (d,0) sz els)
def Qpk(ob:Id→Ob):AV→AV
 | .lit id s els=>match ob id,QK Qy els with
  | .none,some l=> .one (.fr id s l 1)
  | _,_=> .lit id s els
 | v=>v
def Qka(T:QS)(d:Nat)(ρ:Operand→AV)(fresh im:Bool)(t:TypeId)(n:Nat)(ps:Array (Nat×Operand)):Option (Prop×AV):=
 match T.ty t with
  | some {d:= .slice e,..}=>match T.ty e with
   | some y=>if y.agg=false∧y.size=1∧ps.toList.map (·.1)=List.range n∧n*y.size≤16777216∧0<y.size then
     match Qeq ((ps.toList.map (·.2)).map ρ)with
     | some els=>QDO d 1 fresh im els
     | none=>none
    else if ps.toList.map (·.1)=List.range n∧n*y.size≤16777216∧0<y.size then
     match Qep y.size ((ps.toList.map (·.2)).map ρ)with
     | some els=>QDO d y.size fresh im els
     | none=>none
    else none
   | none=>none
  | _=>none
def QcS:QI→Bool
 | .fr .. | .fb .. | .ltf .. | .fn .. =>true
 | _=>false
def QjF(ob:Id→Ob):AV→Bool
 | .one (.bptr id 0)=>match ob id with
  | .box cs=>cs.any QcS
  | _=>false
 | .one c=>QcS c
 | .agg cs=>cs.any QcS
 | .unk=>false
 | _=>true
def frG{α:Type}(T:QS)(ob:Id→Ob)(vs:List AV)(r:Option α):Option α:=if T.bx 996=true then(if vs.any (QjF ob)=true then none else r)else r
theorem QdJ{α:Type}{T:QS}{ob:Id→Ob}{vs:List AV}{r:Option α}{q:α}(h:frG T ob vs r=some q):r=some q∧(T.bx 996=true→vs.any (QjF ob)=false):=by
 unfold frG at h;split at h
 ·split at h
  ·cases h
  ·rename_i hn
   exact⟨h,fun _=>by simpa using hn⟩
 ·rename_i hn
  exact⟨h,fun h6=>absurd h6 hn⟩
def opR(T:QS)(d:Nat)(ρ:Operand→AV)(ob:Id→Ob)(fresh im:Bool):Op→Option (Prop×AV)
 | .load t x=>if(bxq T x&& !Qnc T (ρ x))=true then none else match T.ty t with
  | some y=>match ρ x with
   | .one (.iptr ds)=>if y.agg then some (y.size≤ds.length,.agg ((ds.take y.size).map .d))else some (1≤ds.length,.one (.d (ds.headD default)))
   | .one (.bptr id o)=>match ob id with
    | .box cs=>match Qhq y.agg o y.size cs with
     | some av=>some (True,av)
     | none=>none
    | _=>none
   | .one (.optr id i o)=>match ob id with
    | .arr s l dp=>
     if y.agg then some (i<l.length∧o+y.size≤s∧(∀x∈((l.getD i []).drop o).take y.size,QaO x),.agg ((((l.getD i []).drop o).take y.size).map .d))else match y.d with
     | .slice _=>match dp with
      | 0=>some (i<l.length∧o<s,.one (.d ((l.getD i []).getD o default)))
      | 2=>some (i<l.length∧o<s,.one (.isl id i o))
      | _=>none
     | _=>some (i<l.length∧o<s∧QaO ((l.getD i []).getD o default),.one (.d ((l.getD i []).getD o default)))
    | _=>none
   | .one (.nptr id i o s' j)=>match ob id with
    | .arr _ l 2=>match (l.getD i []).getD o default with
     | .sl s r=>if y.agg then none else some (s=s'∧0<s∧j<r.length∧QaO ((r.getD j []).getD 0 default),.one (.d ((r.getD j []).getD 0 default)))
     | _=>none
    | _=>none
   | _=>none
  | none=>none
 | .indexAddr t x i=>match T.ty t with
  | some {d:= .slice e,..}=>match T.ty e,ρ i with
   | some y,.one (.d (.v (.int _ n)))=>match ρ x with
    | .one (.d (.sl s l))=>some (y.size=s∧0≤n∧n<l.length,.one (.iptr (l.getD n.toNat [])))
    | .one (.n (.sl s l))=>some (y.size=s∧0≤n∧n<l.length,.one (.iptr (l.getD n.toNat [])))
    | .one (.osl id)=>match ob id with
     | .arr s l _=>some (y.size=s∧0≤n∧n<l.length,.one (.optr id n.toNat 0))
     | _=>none
    | .one (.isl id i o)=>match ob id with
     | .arr _ l 2=>match (l.getD i []).getD o default with
      | .sl s r=>some (y.size=s∧0≤n∧n<r.length,.one (.nptr id i o s n.toNat))
      | _=>none
     | _=>none
    | _=>none
   | _,_=>none
  | _=>none
 | .index t x i=>match T.ty t,ρ x,ρ i with
  | some {d:= .str,..},.one (.d (.v (.string b))),.one (.d (.v (.int _ n)))=>some (0≤n∧n<b.size,.one (.d (.v (.int .u8 (Qdr b n.toNat)))))
  | _,_,_=>none
 | .slice t x lo hi mx=>match T.ty t,Qhw ρ lo,Qhw ρ hi,mx with
  | some {d:= .str,..},some l,some h,none=>match ρ x with
   | .one (.d (.v (.string b)))=>some (0≤l.getD 0∧l.getD 0≤h.getD b.size∧h.getD b.size≤b.size,.one (.d (.v (.string (b.extract (l.getD 0).toNat (h.getD b.size).toNat)))))
   | _=>none
  | some {d:= .slice e,..},some l,some h,none=>match T.ty e,ρ x with
   | some y,.one (.d (.sl s m))=>some (y.size=s∧0≤l.getD 0∧l.getD 0≤h.getD m.length∧h.getD m.length≤m.length,.one (.d (.sl s ((m.take (h.getD m.length).toNat).drop (l.getD 0).toNat))))
   | some y,.one (.n (.sl s m))=>some (y.size=s∧0≤l.getD 0∧l.getD 0≤h.getD m.length∧h.getD m.length≤m.length,.one (.n (.sl s ((m.take (h.getD m.length).toNat).drop (l.getD 0).toNat))))
   | some y,.one (.osl id)=>match (if T.bx 997=true then Ob.none else ob id)with
    | .arr s m _=>some (y.size=s∧m≠[]∧0≤l.getD 0∧l.getD 0≤h.getD m.length∧h.getD m.length≤m.length,.one (.sub id (l.getD 0).toNat (h.getD m.length).toNat))
    | _=>none
   | _,_=>none
  | _,_,_,_=>none
 | .convert src dst x=>match T.ty src,T.ty dst,ρ x with
  | some {d:= .int _,..},some {d:= .int k,..},.one (.d (.v (.int _ n)))=>some (True,.one (.d (.v (.int k (k.wrap n)))))
  | some {d:= .str,..},some {d:= .str,..},.one (.d (.v (.string b)))=>some (True,.one (.d (.v (.string b))))
  | some {d:= .slice e,..},some {d:= .str,..},.one c=>match T.ty e,toD ob c with
   | some {d:= .int .u8,..},some (.sl 1 l)=>some (l=bL (unB l),.one (.d (.v (.string (Qca (unB l))))))
   | _,_=>none
  | some {d:= .slice e,..},some {d:= .str,..},.lit id sz els=>match T.ty e,ob id,QeO els with
   | some {d:= .int .u8,..},.none,some ns=>some (sz=1,.one (.d (.v (.string (Qca ns)))))
   | _,_,_=>none
  | _,_,_=>none
 | .makeSlice t n c=>match T.ty t with
  | some {d:= .slice e,..}=>match T.ty e,ρ n,ρ c with
   | some y,.one (.d (.v (.int .i64 n))),.one (.d (.v (.int .i64 c)))=>
    some (0≤n∧n≤c∧c≤maxLen∧c*y.bytes≤140737488355328∧fresh=true∧0<y.size,.one (.fr (d,0) y.size (List.replicate n.toNat (y.zero.map .v)) 1))
   | _,_,_=>none
  | _=>none
 | .buildSlice t n ps=>Qka T d (fun x=>Qpk ob (ρ x)) fresh im t n ps
 | .build t ps=>match T.ty t with
  | some {d:= .struct fs,zero:=z,..}=>if fs.all (fun f=>(T.ty f.2).isSome)=false then none else Qcn T fs (z.map fun v=>QI.d (.v v)) (ps.toList.map (·.1)) ((ps.toList.map (·.2)).map ρ)
  | _=>none
 | .call {callee:= .builtin .len,args:=as,argTypes:=ts}=>match as.toList.map ρ,ts.toList with
  | [.one c],[t]=>match T.ty t with
   | some {d:= .str,..}=>match c with
    | .d (.v (.string b))=>some (True,iV b.size)
    | _=>none
   | some {d:= .slice _,..}=>match c with
    | .d (.v (.slice none 0 0))=>some (True,iV 0)
    | c=>match toD ob c with
     | some (.sl _ l)=>some (True,iV l.length)
     | _=>none
   | _=>none
  | _,_=>none
 | .call {callee:= .builtin .max,args:=as,..}=>match as.toList.map ρ with
  | [x,y]=>match Qsr true x y with
   | some v=>some (True,v)
   | none=>none
  | _=>none
 | .call {callee:= .builtin .min,args:=as,..}=>match as.toList.map ρ with
  | [x,y]=>match Qsr false x y with
   | some v=>some (True,v)
   | none=>none
  | _=>none
 | .call {callee:= .value (.func f),args:=as,..}=>match frG T ob (as.toList.map ρ) (QgA T d ob fresh im false f (as.toList.map ρ))with
  | some (p,v,[])=>some (p,v)
  | _=>none
 | .call {callee:= .value x,args:=as,..}=>match ρ x with
  | .one (.fni f l)=>match QgA T d ob fresh im false f (as.toList.map ρ++l.map fun ds=> .one (.iptr ds))with
   | some (p,v,[])=>some (p,v)
   | _=>none
  | .one (.fn f caps)=>match QgA T d ob fresh im false f (as.toList.map ρ++caps.map fun id=> .one (.bptr id 0))with
   | some (p,v,[])=>some (p,v)
   | _=>none
  | _=>none
 | _=>none
def Qa8(ob:Id→Ob):List QI→Option (List QI×List (Id×Ob))
 | []=>some ([],[])
 | .fr id s l dp::r=>match ob id,Qa8 ob r with
  | .none,some (cs,us)=>some (.osl id::cs,(id,.arr s l dp)::us)
  | _,_=>none
 | c::r=>match Qa8 ob r with
  | some (cs,us)=>some (c::cs,us)
  | none=>none
def Qw(ob:Id→Ob):QI→Option (Id×Nat×List (List D)×Nat)
 | .fr id s l dp=>match ob id with
  | .none=>some (id,s,l,dp)
  | _=>none
 | .osl id=>match ob id with
  | .arr s l dp=>some (id,s,l,dp)
  | _=>none
 | _=>none
def QgY(ob:Id→Ob):AV→Option (AV×List (Id×Ob))
 | .one (.fr id s l dp)=>match ob id with
  | .none=>some (.one (.osl id),[(id,.arr s l dp)])
  | _=>none
 | .one (.fb ..)=>none
 | .one c=>some (.one c,[])
 | .agg cs=>match Qa8 ob cs with
  | some (cs,us)=>if(us.map (·.1)).Nodup then some (.agg cs,us)else none
  | none=>none
 | .lit id s els=>match ob id with
  | .none=>match QK Qy els with
   | some l=>some (.one (.osl id),[(id,.arr s l 1)])
   | none=>match QK Qao els with
    | some l=>some (.one (.osl id),[(id,.arr s l 0)])
    | none=>none
  | _=>none
 | _=>none
def Qni(ob:Id→Ob)(id:Id)(s:Nat):List (List QI)→Option (Prop×AV×List (Id×Ob))
 | [[c]]=>match ob id,Qw ob c with
  | .none,some (id2,s2,l2,dp2)=>some (id2≠id∧dp2≠0,.one (.osl id),[(id2,.dead),(id,.arr s [[.sl s2 l2]] 1)])
  | _,_=>none
 | _=>none
def QeB(ob:Id→Ob)(sz:Nat):AV→Option (List (List D)×Nat×List (Id×Ob))
 | .one (.d (.v (.slice none 0 0)))=>some ([],1,[])
 | .one c=>match Qw ob c with
  | some (id,s,l,dp)=>if s=sz then some (l,dp,[(id,.dead)])else none
  | none=>none
 | .lit id s els=>match ob id,QK Qy els with
  | .none,some l=>if s=sz then some (l,1,[(id,.dead)])else none
  | _,_=>none
 | _=>none
def QsG(ob:Id→Ob)(sz:Nat)(deep:Bool)(dp:Nat):AV→Option (Prop×List (List D)×Nat×List (Id×Ob))
 | .lit id s els=>match ob id with
  | .none=>if s=sz then match QK Qy els with
    | some l=>some (True,l,dp,[])
    | none=>match els with
     | [[c]]=>match Qw ob c with
      | some (id2,s2,l2,dp2)=>if dp=0∨dp2=0 then none else some (True,[[.sl s2 l2]],1,[(id2,.dead)])
      | none=>match QK Qao els with
       | some l=>some (True,l,0,[])
       | none=>none
     | _=>match QK Qao els with
      | some l=>some (True,l,0,[])
      | none=>none
   else none
  | _=>none
 | .one c=>match (if deep=true then QbO c else none)with
  | some (.sl s m)=>some (s=sz,m,0,[])
  | _=>match toD ob c with
   | some (.sl s m)=>some (s=sz∧∀e∈m,∀x∈e,QaO x,m,dp,[])
   | some (.v (.slice none 0 0))=>some (True,[],dp,[])
   | _=>none
 | _=>none
def QEd(y:TyI):Bool:=match y with
 | {d:= .slice _,..}=>true
 | _=>false
def QCJ(T:QS)(d:Nat)(ob:Id→Ob)(fresh:Bool)(t:TypeId)(x y:AV):Option (Prop×AV×List (Id×Ob)):=
 match T.ty t with
 | some {d:= .slice e,..}=>match T.ty e with
  | some yi=>match QeB ob yi.size x with
   | some (l,dp,us)=>match QsG (Q7 ob us) yi.size (QEd yi) dp y with
    | some (p,m,dp',us')=>some (p∧0<yi.size∧fresh=true∧l.length+m.length≤maxLen∧(l.length+m.length)*yi.bytes≤140737488355328,.one (.fr (d,0) yi.size (l++m) dp'),us++us')
    | none=>none
   | none=>none
  | none=>none
 | _=>none
def QCL(T:QS)(d:Nat)(ob:Id→Ob)(fresh:Bool)(t:TypeId)(x y:AV):Option (Prop×AV×List (Id×Ob)):=
 match x,y,T.ty t with
 | .one (.sub id lo hi),.one (.sub id' lo' hi'),some {d:= .slice e,..}=>match T.ty e,ob id with
  | some yi,.arr s l dp=>some (id'=id∧lo=0∧yi.size=s∧0<s∧dp≠0∧hi≤lo'∧hi'=l.length∧fresh=true∧l.length*yi.bytes≤140737488355328,.one (.fr (d,0) s (l.take hi++l.drop lo') dp),[(id,.dead)])
  | _,_=>none
 | _,_,_=>none
def QCK(T:QS)(d:Nat)(ob:Id→Ob)(fresh:Bool)(t:TypeId)(x y:AV):Option (Prop×AV×List (Id×Ob)):=
 match x,y,T.ty t with
 | .one (.osl id),.lit id1 s1 [[.osl id2]],some {d:= .slice e,..}=>match T.ty e,ob id,ob id1,ob id2,ob (d,0)with
  | some yi,.arr s l dp,.none,.arr s2 l2 dp2,.none=>some (s=yi.size∧s1=yi.size∧yi.size=1∧dp≠0∧dp2≠0∧id2≠id∧fresh=true∧l.length+1≤maxLen∧(l.length+1)*yi.bytes≤140737488355328∧0<s2,
    .one (.osl (d,0)),[(id,.dead),(id2,.inn (d,0) l.length 0),((d,0),.arr 1 (l++[[.sl s2 l2]]) 2)])
  | _,_,_,_,_=>none
 | _,_,_=>none
def Qgb(ob:Id→Ob):AV→Option Arg
 | .one (.osl id)=>match ob id with
  | .arr s l dp=>if dp=0 then none else some (.arr s l dp)
  | _=>none
 | .one (.isl id i o)=>match ob id with
  | .arr _ l 2=>match (l.getD i []).getD o default with
   | .sl s r=>some (.arr s r 1)
   | _=>none
  | _=>none
 | .one (.bptr id 0)=>match ob id with
  | .box cs=>match Qao cs with
   | some ds=>some (.box ds)
   | none=>none
  | _=>none
 | .agg cs=>match QdM ob cs with
  | some l=>some (.mag l)
  | none=>none
 | _=>none
def QW(ob:Id→Ob):List QI→List (D ⊕ (Nat×List (List D)×Nat))→Option (Prop×List (Id×Ob))
 | [],[]=>some (True,[])
 | .d _::cs,.inl _::ns=>QW ob cs ns
 | .osl id::cs,.inr (s',l',_)::ns=>match ob id,QW ob cs ns with
  | .arr s _ _,some (p,us)=>some ((s'=s∧0<s)∧p,(id,.arr s l' 1)::us)
  | _,_=>none
 | _,_=>none
def QbL(al:Bool):D→QI
 | .v x=> .d (.v x)
 | .sl s l=>if al then .n (.sl s l)else .d (.sl s l)
def Qe8(ob:Id→Ob):AV→Bool
 | .one (.bptr id 0)=>match ob id with
  | .box cs=>cs.all QbM
  | _=>false
 | _=>false
def Qbm(nw:Bool)(ob:Id→Ob):AV→Arg→Option (Prop×List (Id×Ob))
 | .one (.osl id),.arr s' l' _=>match ob id with
  | .arr s _ _=>some (s'=s∧0<s,[(id,.arr s l' 1)])
  | _=>none
 | .one (.isl id i o),.arr s' r' _=>match ob id with
  | .arr s0 l 2=>match (l.getD i []).getD o default with
   | .sl s _=>some (s'=s,[(id,.arr s0 (l.set i ((l.getD i []).set o (.sl s r'))) 2)])
   | _=>none
  | _=>none
 | .one (.bptr id 0),.box ds=>match ob id with
  | .box cs=>some (ds.length=cs.length,[(id,.box (ds.map (QbL nw)))])
  | _=>none
 | .agg cs,.mag ns=>QW ob cs ns
 | _,_=>none
def QgB(T:QS)(d:Nat)(ob:Id→Ob)(fresh:Bool)(f:FuncId)(vs:List AV):Option (Prop×AV×List (Id×Ob)):=
 match T.ct f with
 | some c=>if c.muts=[true]∧c.alias=false then match vs with
   | v0::vr=>match Qgb ob v0,Qce ob [] vr with
    | some a0,some as=>match c.run (a0::as)with
     | some (p,rs,[a1])=>match Qbm (vr.all Qis&&Qe8 ob v0) ob v0 a1 with
      | some (q,us)=>some (p∧q∧rvN rs≤4∧(QdY rs=true→fresh=true)∧vr.all Qhx=true∧(us.map (·.1)).Nodup,Qjn d true false rs,us)
      | none=>none
     | _=>none
    | _,_=>none
   | []=>none
  else none
 | none=>none
def QsK(ob:Id→Ob):AV→Nat
 | .one (.fr _ s _ _)=>s
 | .one (.osl id)=>match ob id with
  | .arr s _ _=>s
  | _=>1
 | .lit _ s _=>s
 | _=>1
def Qhz(T:QS)(d:Nat)(ob:Id→Ob)(fresh:Bool)(f:FuncId)(vs:List AV):Option (Prop×AV×List (Id×Ob)):=
 match T.ct f with
 | some c=>if c.muts=[true]∧c.alias=true then match vs with
   | v0::vr=>match QeB ob (QsK ob v0) v0,Qce ob [] vr with
    | some (l,dp,us),some as=>match c.run (.arr (QsK ob v0) l dp::as)with
     | some (p,[⟨false,[.own s' l' dp']⟩],[.gone])=>some (p∧dp≠0∧dp'≠0∧vr.all Qhx=true∧fresh=true,.one (.fr (d,0) s' l' dp'),us)
     | _=>none
    | _,_=>none
   | []=>none
  else none
 | none=>none
def Qfb:List AV→Option (List AV×AV)
 | []=>none
 | [x]=>some ([],x)
 | x::y::r=>match Qfb (y::r)with
  | some (a,b)=>some (x::a,b)
  | none=>none
def QuO:List AV→List Bool
 | []=>[]
 | [_]=>[true]
 | _::y::r=>false::QuO (y::r)
def QhA(T:QS)(d:Nat)(ob:Id→Ob)(fresh:Bool)(f:FuncId)(vs:List AV):Option (Prop×AV×List (Id×Ob)):=
 match T.ct f with
 | some c=>if c.muts=QuO vs∧c.alias=true then match Qfb vs with
   | some (vi,v0)=>match QeB ob (QsK ob v0) v0,Qce ob [] vi with
    | some (l,dp,us),some as=>match c.run (as++[.arr (QsK ob v0) l dp])with
     | some (p,[⟨false,[.own s' l' dp']⟩],[.gone])=>some (p∧dp≠0∧dp'≠0∧vi.all Qhx=true∧fresh=true,.one (.fr (d,0) s' l' dp'),us)
     | _=>none
    | _,_=>none
   | none=>none
  else none
 | none=>none
def QrS(T:QS):Option (Prop×AV×List (Id×Ob))→Option (Prop×AV×List (Id×Ob))
 | some (p,v,us)=>if(T.bx 1000&&us.any fun q=>T.bx (1001+q.1.1))=true then none else some (p,v,us)
 | none=>none
theorem QbH{T:QS}{r:Option (Prop×AV×List (Id×Ob))}{q:Prop×AV×List (Id×Ob)}(h:QrS T r=some q):r=some q∧(T.bx 1000=true→∀x∈q.2.2,T.bx (1001+x.1.1)=false):=by
 cases r with
 | none=>cases h
 | some r=>
  obtain⟨p,v,us⟩:=r;simp only[QrS]at h
  split at h
  ·cases h
  ·rename_i hn
   refine⟨h,fun hb x hx=>?_⟩
   simp only[KA]at h
   subst h;rw[hb,KY,List.any_eq_true]at hn;cases hk:T.bx (1001+x.1.1)with
   | false=>rfl
   | true=>exact absurd ⟨x,hx,hk⟩ hn
def Qy2(ob:Id→Ob):List QI→Option (Prop×List QI×List (Id×Ob))
 | []=>none
 | .ltf id id2 s2 l2 dp2::r=>match ob id,ob id2 with
  | .none,.none=>some (id2≠id∧dp2≠0,.osl id::r,[(id2,.dead),(id,.arr 1 [[.sl s2 l2]] 1)])
  | _,_=>none
 | c::r=>match Qy2 ob r with
  | some (p,cs,us)=>some (p,c::cs,us)
  | none=>none
def QEB(ob:Id→Ob):AV→Option (Prop×AV×List (Id×Ob))
 | .agg cs=>match Qy2 ob cs with
  | some (p,cs',us)=>some (p,.agg cs',us)
  | none=>none
 | _=>none
def QnR(T:QS)(ob:Id→Ob)(t:TypeId)(va vx:AV):Option (Prop×AV×List (Id×Ob)):=
 match T.ty t,QgY ob vx with
  | some y,some (v,us)=>match Qct v with
   | some cs=>if cs.length=y.size then match va with
     | .one (.bptr id o)=>match ob id with
      | .box cs0=>if o+cs.length≤cs0.length then some (True,.unk,us++[(id,.box (cs0.take o++cs++cs0.drop (o+cs.length)))])else none
      | _=>none
     | .one (.optr id i o)=>match ob id,Qy cs with
      | .arr s l dp,some ds=>some (i<l.length∧o+ds.length≤s∧(∀x∈((l.getD i []).drop o).take ds.length,QaO x),.unk,[(id,.arr s (l.set i ((l.getD i []).take o++ds++(l.getD i []).drop (o+ds.length))) (min dp 1))])
      | .arr s l 1,none=>match vx with
       | .one (.fr id2 s2 l2 dp2)=>match ob id2 with
        | .none=>some (i<l.length∧o<s∧dp2≠0∧id2≠id,.unk,[(id2,.dead),(id,.arr s (l.set i ((l.getD i []).set o (.sl s2 l2))) 1)])
        | _=>none
       | _=>none
      | _,_=>none
     | .one (.nptr id i o s' j)=>match ob id,Qy cs with
      | .arr sz l 2,some ds=>match (l.getD i []).getD o default with
       | .sl s r=>some (s=s'∧ds.length=s∧j<r.length∧(∀x∈r.getD j [],QaO x),.unk,[(id,.arr sz (l.set i ((l.getD i []).set o (.sl s (r.set j ds)))) 2)])
       | _=>none
      | _,_=>none
     | _=>none
    else none
   | none=>none
  | _,_=>none
def QnQ(T:QS)(ρ:Operand→AV)(ob:Id→Ob)(t:TypeId)(a x:Operand):Option (Prop×AV×List (Id×Ob)):=
 match QEB ob (ρ x)with
 | some (p0,vx,us0)=>match QnR T (Q7 ob us0) t (ρ a) vx with
  | some (p,v,us)=>some (p0∧p,v,us0++us)
  | none=>none
 | none=>QnR T ob t (ρ a) (ρ x)
def Qmt(ob:Id→Ob):AV→Option (AV×List (Id×Ob))
 | .one (.fb id ds)=>match ob id with
  | .none=>some (.one (.bptr id 0),[(id,.box (ds.map .d))])
  | _=>none
 | _=>none
def QjL(T:QS)(d:Nat)(ob:Id→Ob)(fresh:Bool)(f:FuncId)(vs:List AV):Option (Prop×AV×List (Id×Ob)):=
 match vs with
 | v0::vr=>match Qmt ob v0 with
  | some (v1,us0)=>match QgB T d (Q7 ob us0) fresh f (v1::vr)with
   | some (p,v,us)=>some (p,v,us0++us)
   | none=>none
  | none=>none
 | []=>none
def QjT(ob:Id→Ob):List QI→Option (List (D ⊕ (Nat×List (List D)×Nat)))
 | []=>some []
 | .d x::r=>match QjT ob r with
  | some l=>some (.inl x::l)
  | none=>none
 | .n x::r=>match QjT ob r with
  | some l=>some (.inl x::l)
  | none=>none
 | .osl id::r=>match ob id,QjT ob r with
  | .arr s m dp,some l=>if dp=0 then none else some (.inr (s,m,dp)::l)
  | _,_=>none
 | _=>none
def Qew:List QI→List Id
 | []=>[]
 | .osl id::r=>id::Qew r
 | _::r=>Qew r
def QjU(nw:Bool)(row:Nat):Nat→List (D ⊕ (Nat×List (List D)×Nat))→List QI
 | _,[]=>[]
 | k,.inl x::l=>QbL nw x::QjU nw row k l
 | k,.inr _::l=> .osl (row,k)::QjU nw row (k+1) l
def Qdo(dp row:Nat):Nat→List (D ⊕ (Nat×List (List D)×Nat))→List (Id×Ob)
 | _,[]=>[]
 | k,.inl _::l=>Qdo dp row k l
 | k,.inr (s,m,_)::l=>((row,k),.arr s m dp)::Qdo dp row (k+1) l
def QjO(ob:Id→Ob)(row:Nat):Nat→List (D ⊕ (Nat×List (List D)×Nat))→Bool
 | _,[]=>true
 | k,.inl _::l=>QjO ob row k l
 | k,.inr _::l=>(match ob (row,k)with| .none=>true|_=>false)&&QjO ob row (k+1) l
def QjY(ob:Id→Ob)(row:Nat)(l:List (D ⊕ (Nat×List (List D)×Nat))):Nat:=if QjO ob row 10 l=true then 10 else 20
def QfQ:QI→Bool
 | .osl _=>true
 | c=>QbM c
def QhB(T:QS)(d:Nat)(ob:Id→Ob)(fresh:Bool)(f:FuncId)(vs:List AV):Option (Prop×AV×List (Id×Ob)):=
 match T.ct f with
 | some c=>if c.muts=[true]∧c.alias=false then match vs with
   | .one (.bptr id 0)::vr=>match ob id with
    | .box cs=>match QjT ob cs,Qce ob [] vr with
     | some l,some as=>match c.run (.mbx l::as)with
      | some (p,rs,[.mbx ns])=>some (p∧QjO ob id.1 (QjY ob id.1 ns) ns=true∧rvN rs≤4∧(QdY rs=true→fresh=true)∧vr.all Qhx=true∧(Qew cs).Nodup,Qjn d true false rs,
        (Qew cs).map (fun i=>(i,Ob.dead))++(Qdo 1 id.1 (QjY ob id.1 ns) ns++[(id,.box (QjU (vr.all Qis&&cs.all QfQ) id.1 (QjY ob id.1 ns) ns))]))
      | _=>none
     | _,_=>none
    | _=>none
   | _=>none
  else none
 | none=>none
def bxs(T:QS):Operand→Bool
 | .tmp k=>T.bx 1000&&T.bx (3001+k)
 | _=>false
def stK(T:QS)(a:Operand)(r:Option (Prop×AV×List (Id×Ob))):Option (Prop×AV×List (Id×Ob)):=if bxs T a=true then QrS T r else r
theorem QyT{T:QS}{a:Operand}{r:Option (Prop×AV×List (Id×Ob))}{q:Prop×AV×List (Id×Ob)}(h:stK T a r=some q):r=some q:=by
 unfold stK at h;split at h
 ·exact(QbH h).1
 ·exact h
def opM(T:QS)(d:Nat)(ρ:Operand→AV)(ob:Id→Ob)(fresh:Bool):Op→Option (Prop×AV×List (Id×Ob))
 | .assign x=>if(bxq T x&& !QEJ (ρ x))=true then none else match QgY ob (ρ x)with
  | some (v,us)=>some (True,v,us)
  | none=>match ρ x with
   | .tup _=>none
   | .lit id s els=>Qni ob id s els
   | .one (.fb id ds)=>match ob id with
    | .none=>QrS T (some (True,.one (.bptr id 0),[(id,.box (ds.map .d))]))
    | _=>none
   | .one _=>none
   | .agg _=>none
   | v=>some (True,v,[])
 | .box t x=>match T.ty t,QgY ob (ρ x)with
  | some y,some (v,us)=>match Qct v with
   | some cs=>if cs.length=y.size then some (fresh=true,.one (.bptr (d,0) 0),us++[((d,0),.box cs)])else none
   | none=>none
  | _,_=>none
 | .alloc t=>match T.ty t with
  | some y=>some (fresh=true,.one (.bptr (d,0) 0),[((d,0),.box (y.zero.map fun v=> .d (.v v)))])
  | none=>none
 | .store t a x=>stK T a (QnQ T ρ ob t a x)
 | .call {callee:= .builtin .append,args:=as,argTypes:=ts}=>match as.toList.map ρ,ts.toList with
  | [x,y],[t,t']=>if t=t' then(if T.im d then QCK T d ob fresh t x y else match QCJ T d ob fresh t x y with
    | some r=>some r
    | none=>QCL T d ob fresh t x y)
   else none
  | _,_=>none
 | .call {callee:= .value (.func f),args:=as,..}=>frG T ob (as.toList.map ρ) <| QrS T (match QgB T d ob fresh f (as.toList.map ρ)with
  | some r=>some r
  | none=>match Qhz T d ob fresh f (as.toList.map ρ)with
   | some r=>some r
   | none=>match QhA T d ob fresh f (as.toList.map ρ)with
    | some r=>some r
    | none=>match QhB T d ob fresh f (as.toList.map ρ)with
     | some r=>some r
     | none=>QjL T d ob fresh f (as.toList.map ρ))
 | .slice t x none hi none=>match T.ty t,Qhw ρ hi,QeB ob (QsK ob (ρ x)) (ρ x)with
  | some {d:= .slice e,..},some (some h),some (l,dp,us)=>match T.ty e with
   | some y=>some (y.size=QsK ob (ρ x)∧0<y.size∧dp≠0∧0≤h∧h≤l.length∧fresh=true,.one (.fr (d,0) y.size (l.take h.toNat) dp),us)
   | none=>none
  | _,_,_=>none
 | _=>none
def opF(T:QS)(d:Nat)(ρ:Operand→AV)(ob:Id→Ob)(fresh im:Bool)(o:Op):Option (Prop×AV×List (Id×Ob)):=
 match cls T o with
 | .P=>match opP T ρ o with
  | some (p,v)=>some (p,v,[])
  | none=>none
 | .R=>match opR T d ρ ob fresh im o with
  | some (p,v)=>some (p,v,[])
  | none=>none
 | .M=>opM T d ρ ob fresh o
def gOf(ops:Array Oper)(s:St)(o:Oper):Option (Option Bool):=
 match o.guard with
 | none=>some none
 | some (j,want)=>match (ops[j]?).bind (·.dst)with
  | some t=>match s.sl t with
   | .one (.d (.v (.bool b)))=>some (some (b==want))
   | .cnd g (.one (.d (.v (.bool b))))=>some (some (g&&(b==want)))
   | .cnd false .unk=>some (some false)
   | _=>none
  | none=>none
def QcI:AV→AV
 | .cnd _ v=>v
 | v=>v
def QdT(g:Bool):AV→Prop
 | .cnd g' _=>g=true→g'=true
 | _=>True
def Ob.isNone:Ob→Bool
 | .none=>true
 | _=>false
def Qr(s:St):Option Nat→Bool
 | some d=>(s.sl d).isAny&&(s.ob (d,0)).isNone&&(s.ob (d,1)).isNone&&(s.ob (d,2)).isNone&&(s.ob (d,3)).isNone
 | none=>false
def QjX(s:St)(g:Bool):Op→Option (Prop×AV)
 | .pick c a b=>match QcI (rho s c)with
  | .one (.d (.v (.bool x)))=>match Qgn x (rho s a),Qgn (!x) (rho s b)with
   | some (p,y),some (q,z)=>some (QdT g (rho s c)∧p∧q,bV (cond x y z))
   | _,_=>none
  | _=>none
 | _=>none
def F1(T:QS)(ops:Array Oper)(o:Oper)(s:St):Option (Prop×AV×List (Id×Ob)):=
 match gOf ops s o with
 | none=>none
 | some none=>opF T (o.dst.getD 0) (rho s) s.ob (Qr s o.dst) (T.im (o.dst.getD 0)) o.op
 | some (some g)=>match cls T o.op with
  | .M=>if T.bx 999=true then(if g=true then(match opF T (o.dst.getD 0) (fun x=>QcI (rho s x)) s.ob (Qr s o.dst) false o.op with
    | some (p,v,us)=>some ((∀x∈o.op.operands.toList,QdT true (rho s x))∧p,v,us)
    | none=>none)else some (True,.cnd false .unk,[]))else none
  | _=>if(T.bx 999&& !g)=true then some (True,.cnd false .unk,[])else match QjX s g o.op with
   | some (p,v)=>some (g=true→p,.cnd g v,[])
   | none=>match opF T (o.dst.getD 0) (fun x=>QcI (rho s x)) s.ob false true o.op with
    | some (p,v,_)=>some (g=true→((∀x∈o.op.operands.toList,QdT g (rho s x))∧p),.cnd g v,[])
    | none=>none
def Qcv(r:Option (Prop×AV×List (Id×Ob)))(K:AV→List (Id×Ob)→Prop):Prop:=
 match r with
 | some (p,v,us)=>p∧K v us
 | none=>False
def TL(T:QS)(ops:Array Oper)(Q:St→Prop):List Oper→St→Prop
 | [],s=>Q s
 | o::r,s=>Qcv (F1 T ops o s) fun v us=>TL T ops Q r (s.put o.dst v us)
end
section
variable {hd:Hid}
section
variable {T:QS} {ρ ρ':Operand→AV}
theorem QdW{as:Array Operand}(h:∀x∈as,ρ x=ρ' x):as.toList.map ρ=as.toList.map ρ':=
 List.map_congr_left fun x hx=>h x (by simpa using hx)
theorem Qvj(o:Op)(h:∀x∈o.operands,ρ x=ρ' x):opP T ρ o=opP T ρ' o:=by
 cases o with
 | makeFunc fn first bs=>
  have hb:bs.toList.map ρ=bs.toList.map ρ':=List.map_congr_left fun x hx=>h x (by
   simp only[Op.operands,Array.mem_append];exact .inr (by simpa using hx))
  cases fn<;>first|rfl|(unfold opP;dsimp only;rw[hb])
 | _=>simp only[Op.operands]at h<;>simp only[opP]<;>(first|rfl|(simp_all;done))
theorem Qfi{x:Option Operand}(h:∀y∈x.toList,ρ y=ρ' y):Qhw ρ x=Qhw ρ' x:=by
 cases x with
 | none=>rfl
 | some x=>simp only[Qhw];rw[h x (by simp)]
theorem Qjg(d:Nat)(ob:Id→Ob)(fr im:Bool)(o:Op)(h:∀x∈o.operands,ρ x=ρ' x):opR T d ρ ob fr im o=opR T d ρ' ob fr im o:=by
 cases o with
 | load t x=>simp only[Op.operands]at h;simp only[opR];rw[h x (by simp)]
 | indexAddr t x i=>simp only[Op.operands]at h;simp only[opR];rw[h x (by simp),h i (by simp)]
 | index t x i=>simp only[Op.operands]at h;simp only[opR];rw[h x (by simp),h i (by simp)]
 | slice t x lo hi mx=>
  simp only[Op.operands]at h
  simp only[opR]
  rw[h x (by simp),Qfi (x:=lo) (fun y hy=>h y (by simp at hy ⊢;simp[hy])),Qfi (x:=hi) (fun y hy=>h y (by simp at hy ⊢;simp[hy]))]
 | convert a b x=>simp only[Op.operands]at h;simp only[opR];rw[h x (by simp)]
 | makeSlice t n c=>simp only[Op.operands]at h;simp only[opR];rw[h n (by simp),h c (by simp)]
 | buildSlice t n ps=>
  simp only[Op.operands]at h
  have hp:((ps.toList.map (·.2)).map fun x=>Qpk ob (ρ x))=(ps.toList.map (·.2)).map fun x=>Qpk ob (ρ' x):=List.map_congr_left fun x hx=>by rw[h x (by simpa using hx)]
  simp only[opR,Qka,hp]
 | build t ps=>
  simp only[Op.operands]at h
  have hp:(ps.toList.map (·.2)).map ρ=(ps.toList.map (·.2)).map ρ':=List.map_congr_left fun x hx=>h x (by simpa using hx)
  simp only[opR,hp]
 | call c=>
  obtain⟨cal,as,ts⟩:=c;have ha:as.toList.map ρ=as.toList.map ρ':=QdW fun x hx=>h x (by simp[Op.operands,Call.operands,hx])
  cases cal with
  | builtin b=>cases b<;>simp only[opR,ha]
  | invoke r m=>simp only[opR]
  | value f=>
   have hf:ρ f=ρ' f:=h f (by simp[Op.operands,Call.operands])
   cases f<;>simp only[opR,ha,hf]
 | _=>rfl
theorem Qvi(d:Nat)(ob:Id→Ob)(fr:Bool)(o:Op)(h:∀x∈o.operands,ρ x=ρ' x):opM T d ρ ob fr o=opM T d ρ' ob fr o:=by
 cases o with
 | assign x=>simp only[Op.operands]at h;simp only[opM];rw[h x (by simp)]
 | box t x=>simp only[Op.operands]at h;simp only[opM];rw[h x (by simp)]
 | store t a x=>simp only[Op.operands]at h;simp only[opM,QnQ,h x (by simp),h a (by simp)]
 | slice t x lo hi mx=>
  cases lo with
  | some _=>rfl
  | none=>
   cases mx with
   | some _=>rfl
   | none=>
    simp only[Op.operands]at h
    simp only[opM]
    rw[h x (by simp),Qfi (x:=hi) (fun y hy=>h y (by simp at hy ⊢;simp[hy]))]
 | call c=>
  obtain⟨cal,as,ts⟩:=c;have ha:as.toList.map ρ=as.toList.map ρ':=QdW fun x hx=>h x (by simp[Op.operands,Call.operands,hx])
  cases cal with
  | builtin b=>cases b<;>simp only[opM,ha]
  | invoke r m=>simp only[opM]
  | value f=>cases f<;>simp only[opM,ha]
 | _=>rfl
theorem Qge(d:Nat)(ob:Id→Ob)(fr im:Bool)(o:Op)(h:∀x∈o.operands,ρ x=ρ' x):opF T d ρ ob fr im o=opF T d ρ' ob fr im o:=by
 simp only[opF]
 cases cls T o with
 | P=>simp only[Qvj o h]
 | R=>simp only[Qjg d ob fr im o h]
 | M=>simp only[Qvi d ob fr o h]
end
theorem QE6(T:QS)(d:Nat)(ρ:Operand→AV)(ob ob':Id→Ob)(fr fr' im:Bool)(o:Op)(h:cls T o= .P):opF T d ρ ob fr im o=opF T d ρ ob' fr' im o:=by
 simp only[opF,h]
def Qrz(T:QS)(t:TypeId):Bool:=match T.ty t with
 | some {d:= .str,..}=>true
 | some {d:= .int _,..}=>true
 | _=>false
def QjW(T:QS):Op→Cls
 | .assign x=>if bxq T x then .P else .M
 | .build .. => .P
 | .index .. => .P
 | .slice t x _ _ _=>if bxq T x then .M else if Qrz T t||T.bx 997 then .P else .R
 | .convert t u _=>if Qrz T t&&Qrz T u then .P else .R
 | o=>cls T o
theorem Qvk(T:QS)(d:Nat)(ρ:Operand→AV)(ob ob':Id→Ob)(fr fr' im:Bool)(t:TypeId)(x i:Operand):opR T d ρ ob fr im (.index t x i)=opR T d ρ ob' fr' im (.index t x i):=rfl
theorem Qvl(T:QS)(d:Nat)(ρ:Operand→AV)(ob ob':Id→Ob)(fr fr' im:Bool)(t:TypeId)(x:Operand)(lo hi mx:Option Operand)(h:(Qrz T t||T.bx 997)=true):opR T d ρ ob fr im (.slice t x lo hi mx)=opR T d ρ ob' fr' im (.slice t x lo hi mx):=by
 rw[Kq]at h;rcases h with h|h
 rotate_left
 ·simp only[opR,h,if_true]
 unfold Qrz at h;unfold opR;dsimp only;split at h
 ·rename_i hT
  rw[hT];cases Qhw ρ lo<;>cases Qhw ρ hi<;>cases mx<;>rfl
 ·rename_i hT
  rw[hT]
 ·cases h
theorem Qo6(T:QS)(d:Nat)(ρ:Operand→AV)(ob ob':Id→Ob)(fr fr' im:Bool)(t u:TypeId)(x:Operand)(h:(Qrz T t&&Qrz T u)=true):opR T d ρ ob fr im (.convert t u x)=opR T d ρ ob' fr' im (.convert t u x):=by
 rw[KB]at h;obtain⟨h,h'⟩:=h;unfold Qrz at h h';unfold opR;dsimp only;split at h
 ·rename_i hT
  split at h'
  ·rename_i hU
   rw[hT,hU];cases ρ x with
   | one c=>cases c with
    | d z=>cases z with
     | v q=>cases q<;>rfl
     | _=>rfl
    | _=>rfl
   | _=>rfl
  ·rename_i hU
   rw[hT,hU]
  ·cases h'
 ·rename_i hT
  split at h'
  ·rename_i hU
   rw[hT,hU]
  ·rename_i hU
   rw[hT,hU];cases ρ x with
   | one c=>cases c with
    | d z=>cases z with
     | v q=>cases q<;>rfl
     | _=>rfl
    | _=>rfl
   | _=>rfl
  ·cases h'
 ·cases h
theorem Qgf{T:QS}{d:Nat}{ρ:Operand→AV}{ob:Id→Ob}{fr:Bool}{x:Operand}(h:bxq T x=true):opM T d ρ ob fr (.assign x)=if QEJ (ρ x)=true then some (True,ρ x,[])else none:=by
 simp only[opM,h,KY]
 unfold QEJ;split<;>simp[QgY, *]
theorem QBD(T:QS)(d:Nat)(ρ:Operand→AV)(ob ob':Id→Ob)(fr fr' im:Bool)(o:Op)(h:QjW T o= .P):opF T d ρ ob fr im o=opF T d ρ ob' fr' im o:=by
 cases o with
 | assign x=>
  have hb:bxq T x=true:=by
   cases e:bxq T x with
   | true=>rfl
   | false=>simp[QjW,e]at h
  simp only[opF,cls,Qgf hb]
 | build t ps=>simp only[opF,cls,opR]
 | index t x i=>simp only[opF,cls,Qvk T d ρ ob ob' fr fr']
 | slice t x lo hi mx=>
  cases e:bxq T x with
  | true=>simp[QjW,e]at h
  | false=>
   have hw:(Qrz T t||T.bx 997)=true:=by
    cases e':(Qrz T t||T.bx 997)with
    | true=>rfl
    | false=>simp only[QjW,e,e',KX,if_false]at h;cases h
   simp only[opF,cls,e,KX,if_false,Qvl T d ρ ob ob' fr fr' im t x lo hi mx hw]
 | convert t u x=>
  have hw:(Qrz T t&&Qrz T u)=true:=by
   cases e':(Qrz T t&&Qrz T u)with
   | true=>rfl
   | false=>simp only[QjW,e',KX,if_false]at h;cases h
  simp only[opF,cls,Qo6 T d ρ ob ob' fr fr' im t u x hw]
 | _=>exact QE6 _ _ _ _ _ _ _ _ _ h
theorem QkH{T:QS}{d:Nat}{ρ:Operand→AV}{ob:Id→Ob}{fr im:Bool}{o:Op}{p v us}(h:cls T o≠ .M)(hf:opF T d ρ ob fr im o=some (p,v,us)):us=[]:=by
 simp only[opF]at hf
 cases hc:cls T o with
 | P=>simp only[hc]at hf;split at hf<;>simp at hf;exact hf.2.2
 | R=>simp only[hc]at hf;split at hf<;>simp at hf;exact hf.2.2
 | M=>exact absurd hc h
theorem Qvh{T:QS}{d:Nat}{ρ:Operand→AV}{ob:Id→Ob}{fr im:Bool}{o:Op}{p v us}(h:QjW T o≠ .M)(hf:opF T d ρ ob fr im o=some (p,v,us)):us=[]:=by
 cases o with
 | assign x=>
  have hb:bxq T x=true:=by
   cases e:bxq T x with
   | true=>rfl
   | false=>simp[QjW,e]at h
  simp only[opF,cls,Qgf hb]at hf
  split at hf
  ·simp at hf;exact hf.2.2
  ·cases hf
 | build t ps=>exact QkH (fun h=>by cases h) hf
 | index t x i=>exact QkH (fun h=>by cases h) hf
 | convert t u x=>exact QkH (fun h=>by cases h) hf
 | slice t x lo hi mx=>
  refine QkH (fun h'=>h ?_) hf
  cases e:bxq T x with
  | true=>simp[QjW,e]
  | false=>simp[cls,e]at h'
 | _=>
  refine QkH ?_ hf
  exact h
theorem Qgj{s s':St}{x:Operand}(h:∀t,x= .tmp t→s'.sl t=s.sl t):rho s' x=rho s x:=by
 cases x with
 | tmp t=>exact h t rfl
 | _=>rfl
theorem QcP{T:QS}{ops:Array Oper}(o:Oper){s s':St}(h1:∀t∈o.looksAt ops,s'.sl t=s.sl t)(h2:∀d,o.dst=some d→s'.sl d=s.sl d)
  (h3:QjW T o.op= .P∨s'.ob=s.ob):F1 T ops o s'=F1 T ops o s:=by
 have hr:∀x∈o.op.operands,rho s' x=rho s x:=fun x hx=>Qgj fun t ht=>h1 t (by
  subst ht;exact YH _ (YY.2 ⟨.tmp t,by simpa using hx,rfl⟩))
 have hg:gOf ops s' o=gOf ops s o:=by
  unfold gOf;cases hgo:o.guard with
  | none=>rfl
  | some jw=>
   obtain⟨j,want⟩:=jw;cases hj:(ops[j]?).bind (·.dst)with
   | none=>simp only[hj]
   | some t=>
    have:=h1 t (by simp[Oper.looksAt,hgo,hj])
    simp only[hj,this]
 have hfr:s'.ob=s.ob→Qr s' o.dst=Qr s o.dst:=fun ho=>by
  cases hd:o.dst with
  | none=>rfl
  | some d=>simp only[Qr,h2 d hd,ho]
 have e1:∀b2,opF T (o.dst.getD 0) (rho s') s'.ob (Qr s' o.dst) b2 o.op=opF T (o.dst.getD 0) (rho s) s.ob (Qr s o.dst) b2 o.op:=fun b2=>by
  rw[Qge (ρ:=rho s') (ρ':=rho s) _ _ _ _ _ hr];rcases h3 with h|h
  ·exact QBD _ _ _ _ _ _ _ _ _ h
  ·rw[hfr h,h]
 have e2:∀b1 b2,opF T (o.dst.getD 0) (fun x=>QcI (rho s' x)) s'.ob b1 b2 o.op=opF T (o.dst.getD 0) (fun x=>QcI (rho s x)) s.ob b1 b2 o.op:=fun b1 b2=>by
  rw[Qge (ρ:=fun x=>QcI (rho s' x)) (ρ':=fun x=>QcI (rho s x)) _ _ _ _ _ fun x hx=>by rw[hr x hx]]
  rcases h3 with h|h
  ·exact QBD _ _ _ _ _ _ _ _ _ h
  ·rw[h]
 have e5:∀b2,opF T (o.dst.getD 0) (fun x=>QcI (rho s' x)) s'.ob (Qr s' o.dst) b2 o.op=opF T (o.dst.getD 0) (fun x=>QcI (rho s x)) s.ob (Qr s o.dst) b2 o.op:=fun b2=>by
  rw[Qge (ρ:=fun x=>QcI (rho s' x)) (ρ':=fun x=>QcI (rho s x)) _ _ _ _ _ fun x hx=>by rw[hr x hx]]
  rcases h3 with h|h
  ·exact QBD _ _ _ _ _ _ _ _ _ h
  ·rw[hfr h,h]
 have e3:∀g,(∀x∈o.op.operands.toList,QdT g (rho s' x))=(∀x∈o.op.operands.toList,QdT g (rho s x)):=fun g=>by
  refine propext ⟨fun H x hx=>?_,fun H x hx=>?_⟩
  ·rw[←hr x (by simpa using hx)];exact H x hx
  ·rw[hr x (by simpa using hx)];exact H x hx
 have e4:∀g,QjX s' g o.op=QjX s g o.op:=fun g=>by
  obtain⟨dst,op,type,pos,after,guard⟩:=o;dsimp only at hr ⊢;cases op with
  | pick c a b=>
   have q1:=hr c (by simp[Op.operands])
   have q2:=hr a (by simp[Op.operands])
   have q3:=hr b (by simp[Op.operands])
   simp only[QjX,q1,q2,q3]
  | _=>rfl
 unfold F1;rw[hg];simp only[e5]
 simp only[e1,e2,e3,e4]
theorem Qn4{T:QS}{ops:Array Oper}{o:Oper}{s:St}{p v us}(h:QjW T o.op≠ .M)(hf:F1 T ops o s=some (p,v,us)):us=[]:=by
 unfold F1 at hf;split at hf
 ·cases hf
 ·exact Qvh h hf
 ·split at hf
  ·split at hf
   ·split at hf
    ·split at hf
     ·rename_i h0
      simp only[KA,KC]at hf
      obtain⟨_,_,rfl⟩:=hf;exact Qvh h h0
     ·cases hf
    ·simp at hf;exact hf.2.2
   ·cases hf
  ·split at hf
   ·simp at hf;exact hf.2.2
   ·split at hf
    ·simp at hf;exact hf.2.2
    ·split at hf
     ·simp at hf;exact hf.2.2
     ·cases hf
theorem Qrx(f:Nat→AV){d e:Nat}(u v:AV)(h:d≠e):upd (upd f d u) e v=upd (upd f e v) d u:=by
 funext i
 simp only[upd]
 split<;>split<;>simp_all
theorem St.put_comm(s:St){x y:Option Nat}{u v:AV}{us vs:List (Id×Ob)}(h:∀d,x=some d→y≠some d)(hu:us=[]∨vs=[]):
  (s.put x u us).put y v vs=(s.put y v vs).put x u us:=by
 have ho:Q7 (Q7 s.ob us) vs=Q7 (Q7 s.ob vs) us:=by
  rcases hu with rfl|rfl<;>rfl
 cases x with
 | none=>cases y<;>simp only[St.put,ho]
 | some d=>
  cases y with
  | none=>simp only[St.put,ho]
  | some e=>
   have hde:d≠e:=fun he=>h d rfl (by rw[he])
   simp only[St.put,ho,Qrx s.sl _ _ hde]
def QE4(T:QS):Op→Op→Bool
 | .load _ x,.call {callee:= .builtin .append,..}=>bxq T x
 | .call {callee:= .builtin .append,..},.load _ x=>bxq T x
 | .load _ x,.call {callee:= .value (.func _),..}=>bxq T x&&T.bx 1000
 | .call {callee:= .value (.func _),..},.load _ x=>bxq T x&&T.bx 1000
 | .load _ x,.store _ a _=>bxq T x&&bxs T a
 | .store _ a _,.load _ x=>bxq T x&&bxs T a
 | .load _ x,.assign _=>bxq T x&&T.bx 1000
 | .assign _,.load _ x=>bxq T x&&T.bx 1000
 | _,_=>false
def QuG:Op→Bool
 | .load .. | .indexAddr .. =>true
 | _=>false
def QFP:Op→Op→Bool
 | x,.alloc _=>QuG x
 | _,_=>false
def Quz(T:QS)(ops:Array Oper)(x y:Oper):Bool:=
 x.apart ops y&&((match QjW T x.op,QjW T y.op with
  | .M,.P| .P,_| .R,.P| .R,.R=>true
  | _,_=>false)||QE4 T x.op y.op)
def bsD(T:QS)(o:Oper):Bool:=match o.op,o.dst with
 | .buildSlice _ 0 ps,some d=>ps.toList.isEmpty&&(T.bx 1000&&T.bx (1001+d))
 | _,_=>false
def QcB:Op→Bool
 | .call {callee:= .value (.func _),..}=>true
 | _=>false
def QEU(T:QS)(x y:Oper):Bool:=match y.op with
 | .alloc _=>QcB x.op&&(T.bx 996&&(x.guard.isNone&&y.guard.isNone))
 | _=>false
def Quy(T:QS)(ops:Array Oper)(x y:Oper):Bool:=Quz T ops x y||(x.apart ops y&&(QFP x.op y.op||QEU T x y))||(x.apart ops y&&((bsD T x&&QcB y.op)||(QcB x.op&&bsD T y)))
theorem Qnr{T:QS}{d d':Nat}{ρ:Operand→AV}{ob ob':Id→Ob}{fr fr' im im':Bool}{t:TypeId}{x:Operand}(hb:bxq T x=true)(hbox:∀id,QlD T id=true→∀cs,ob' id= .box cs↔ob id= .box cs):
  opR T d ρ ob' fr' im' (.load t x)=opR T d' ρ ob fr im (.load t x):=by
 simp only[opR,hb,KY]
 cases hx:ρ x with
 | one c=>
  cases c with
  | bptr id o=>
   simp only[Qnc]
   by_cases hk:QlD T id=true
   rotate_left
   ·rw[KS]at hk;simp[hk]
   ·have hbox:=hbox id hk
    simp only[hk,YV,KX,if_false]
    cases h:ob id with
    | box cs=>simp only[(hbox cs).2 h]
    | _=>
     cases h':ob' id with
     | box cs=>rw[(hbox cs).1 h']at h;cases h
     | _=>rfl
  | _=>simp only[Qnc,YU,if_true]
 | _=>simp only[Qnc,YU,if_true]
theorem Qih{T:QS}{ops:Array Oper}(o:Oper){s s':St}{t:TypeId}{x:Operand}(ho:o.op= .load t x)(hb:bxq T x=true)(h1:∀t∈o.looksAt ops,s'.sl t=s.sl t)(hbox:∀id,QlD T id=true→∀cs,s'.ob id= .box cs↔s.ob id= .box cs):F1 T ops o s'=F1 T ops o s:=by
 have hr:∀x∈o.op.operands,rho s' x=rho s x:=fun x hx=>Qgj fun t ht=>h1 t (by
  subst ht;exact YH _ (YY.2 ⟨.tmp t,by simpa using hx,rfl⟩))
 have hg:gOf ops s' o=gOf ops s o:=by
  unfold gOf;cases hgo:o.guard with
  | none=>rfl
  | some jw=>
   obtain⟨j,want⟩:=jw;cases hj:(ops[j]?).bind (·.dst)with
   | none=>simp only[hj]
   | some t=>
    have:=h1 t (by simp[Oper.looksAt,hgo,hj])
    simp only[hj,this]
 have hxx:rho s' x=rho s x:=hr x (by rw[ho];simp[Op.operands])
 have e0:∀(f f':Operand→AV) (hf:f x=f' x) (b1 b1' b2:Bool),opF T (o.dst.getD 0) f s'.ob b1 b2 o.op=opF T (o.dst.getD 0) f' s.ob b1' b2 o.op:=fun f f' hf b1 b1' b2=>by
  rw[ho];have e:opR T (o.dst.getD 0) f s'.ob b1 b2 (.load t x)=opR T (o.dst.getD 0) f' s.ob b1' b2 (.load t x):=by
   rw[Qjg (ρ:=f) (ρ':=f') _ _ _ _ _ (fun y hy=>by simp[Op.operands]at hy;rw[hy,hf])]
   exact Qnr hb hbox
  have hc:cls T (.load t x)= .R:=rfl
  simp only[opF,hc,e]
 have e3:∀g,(∀x∈o.op.operands.toList,QdT g (rho s' x))=(∀x∈o.op.operands.toList,QdT g (rho s x)):=fun g=>by
  refine propext ⟨fun H x hx=>?_,fun H x hx=>?_⟩
  ·rw[←hr x (by simpa using hx)];exact H x hx
  ·rw[hr x (by simpa using hx)];exact H x hx
 have e4:∀g,QjX s' g o.op=QjX s g o.op:=fun g=>by rw[ho];rfl
 unfold F1;rw[hg];simp only[e0 (rho s') (rho s) hxx (Qr s' o.dst) (Qr s o.dst),e0 (fun x=>QcI (rho s' x)) (fun x=>QcI (rho s x)) (by rw[hxx]) false false,e0 (fun x=>QcI (rho s' x)) (fun x=>QcI (rho s x)) (by rw[hxx]) (Qr s' o.dst) (Qr s o.dst),e3,e4]
theorem Qie{cs:List QI}{id:Id}:∀{us:List (Id×Ob)} {ob:Id→Ob},(∀q∈us,(∀cs,q.2≠ .box cs)∧∀cs,ob q.1≠ .box cs)→(Q7 ob us id= .box cs↔ob id= .box cs)
 | [],ob,_=>Iff.rfl
 | (k,o)::us,ob,h=>by
  obtain⟨hk0,hk⟩:=h (k,o) (by simp)
  rw[Q7,Qie (us:=us) fun q hq=>⟨(h q (by simp[hq])).1,fun cs=>?_⟩]
  ·by_cases e:id=k
   ·subst e;simp only[if_true];exact⟨fun h=>absurd h (hk0 cs),fun h=>absurd h (hk cs)⟩
   ·simp only[e,if_false]
  ·by_cases e:q.1=k
   ·simp only[e,if_true];exact hk0 cs
   ·simp only[e,if_false];exact(h q (by simp[hq])).2 cs
theorem Qfv{ob:Id→Ob}{c:QI}{id:Id}{r}(h:Qw ob c=some (id,r)):∀cs,ob id≠ .box cs:=by
 intro cs hc;cases c with
 | fr id'=>
  simp only[Qw]at h
  split at h
  ·rename_i e
   simp only[KA,KC]at h
   obtain⟨rfl,_⟩:=h;rw[hc]at e;cases e
  ·cases h
 | osl id'=>
  simp only[Qw]at h
  split at h
  ·rename_i e
   simp only[KA,KC]at h
   obtain⟨rfl,_⟩:=h;rw[hc]at e;cases e
  ·cases h
 | _=>simp[Qw]at h
theorem Qv6{ob:Id→Ob}{sz:Nat}{x:AV}{l dp us}(h:QeB ob sz x=some (l,dp,us)):∀q∈us,(∀cs,q.2≠ .box cs)∧∀cs,ob q.1≠ .box cs:=by
 unfold QeB at h;split at h
 ·simp only[KA,KC]at h;obtain⟨_,_,rfl⟩:=h;simp
 ·split at h
  ·rename_i ho
   split at h
   ·simp only[KA,KC]at h;obtain⟨_,_,rfl⟩:=h
    intro q hq;simp only[KH]at hq;subst hq;exact⟨(fun _ h=>nomatch h),Qfv ho⟩
   ·cases h
  ·cases h
 ·split at h
  ·rename_i ho _
   split at h
   ·simp only[KA,KC]at h;obtain⟨_,_,rfl⟩:=h
    intro q hq;simp only[KH]at hq;subst hq;exact⟨(fun _ h=>nomatch h),fun cs hc=>by rw[hc]at ho;cases ho⟩
   ·cases h
  ·cases h
 ·cases h
theorem Qv2{ob:Id→Ob}{sz dp:Nat}{deep:Bool}{x:AV}{p l dp' us}(h:QsG ob sz deep dp x=some (p,l,dp',us)):∀q∈us,(∀cs,q.2≠ .box cs)∧∀cs,ob q.1≠ .box cs:=by
 have nil:∀{P:Id×Ob→Prop},us=[]→∀q∈us,P q:=fun h q hq=>by rw[h]at hq;cases hq
 unfold QsG at h;split at h
 ·split at h
  ·split at h
   ·split at h
    ·simp only[KA,KC]at h;exact nil h.2.2.2.symm
    ·split at h
     ·split at h
      ·rename_i ho
       split at h
       ·cases h
       ·simp only[KA,KC]at h
        intro q hq;rw[←h.2.2.2]at hq;simp only[KH]at hq
        subst hq;exact⟨(fun _ h=>nomatch h),Qfv ho⟩
      ·split at h
       ·simp only[KA,KC]at h;exact nil h.2.2.2.symm
       ·cases h
     ·split at h
      ·simp only[KA,KC]at h;exact nil h.2.2.2.symm
      ·cases h
   ·cases h
  ·cases h
 ·split at h
  ·simp only[KA,KC]at h;exact nil h.2.2.2.symm
  ·split at h
   ·simp only[KA,KC]at h;exact nil h.2.2.2.symm
   ·simp only[KA,KC]at h;exact nil h.2.2.2.symm
   ·cases h
 ·cases h
theorem QwL{T:QS}{d:Nat}{ob:Id→Ob}{fresh:Bool}{t:TypeId}{x y:AV}{p v us}(h:QCJ T d ob fresh t x y=some (p,v,us)):∀q∈us,(∀cs,q.2≠ .box cs)∧∀cs,ob q.1≠ .box cs:=by
 unfold QCJ at h;split at h
 ·split at h
  ·split at h
   ·rename_i l dp us1 ht
    split at h
    ·rename_i q m dp' us2 hs
     simp only[KA,KC]at h
     obtain⟨_,_,rfl⟩:=h;intro q hq;rcases KG.1 hq with hq|hq
     ·exact Qv6 ht q hq
     ·refine⟨(Qv2 hs q hq).1,fun cs hcs=>(Qv2 hs q hq).2 cs ((Qie (Qv6 ht)).2 hcs)⟩
    ·cases h
   ·cases h
  ·cases h
 ·cases h
theorem QwN{T:QS}{d:Nat}{ob:Id→Ob}{fresh:Bool}{t:TypeId}{x y:AV}{p v us}(h:QCL T d ob fresh t x y=some (p,v,us)):∀q∈us,(∀cs,q.2≠ .box cs)∧∀cs,ob q.1≠ .box cs:=by
 unfold QCL at h;split at h
 ·split at h
  ·rename_i ho
   simp only[KA,KC]at h
   obtain⟨_,_,rfl⟩:=h;intro q hq;rw[KH]at hq;subst hq;refine⟨(fun _ h=>nomatch h),fun cs hcs=>?_⟩
   rw[ho]at hcs;cases hcs
  ·cases h
 ·cases h
theorem QwM{T:QS}{d:Nat}{ob:Id→Ob}{fresh:Bool}{t:TypeId}{x y:AV}{p v us}(h:QCK T d ob fresh t x y=some (p,v,us)):∀q∈us,(∀cs,q.2≠ .box cs)∧∀cs,ob q.1≠ .box cs:=by
 unfold QCK at h;split at h
 ·split at h
  ·rename_i h1 h2 h3 h4
   simp only[KA,KC]at h
   obtain⟨_,_,rfl⟩:=h;intro q hq;simp only[KI,YK,or_false]at hq
   rcases hq with rfl|rfl|rfl
   ·exact⟨(fun _ h=>nomatch h),fun cs hcs=>by rw[h1]at hcs;cases hcs⟩
   ·exact⟨(fun _ h=>nomatch h),fun cs hcs=>by rw[h3]at hcs;cases hcs⟩
   ·exact⟨(fun _ h=>nomatch h),fun cs hcs=>by rw[h4]at hcs;cases hcs⟩
  ·cases h
 ·cases h
theorem Qj7{T:QS}{d:Nat}{ρ:Operand→AV}{ob:Id→Ob}{fr im:Bool}{op:Op}{as:Array Operand}{ts:Array TypeId}{p v us}(ho:op= .call ⟨.builtin .append,as,ts⟩)(h:opF T d ρ ob fr im op=some (p,v,us)):∀q∈us,(∀cs,q.2≠ .box cs)∧∀cs,ob q.1≠ .box cs:=by
 have hc:cls T op= .M:=by rw[ho];rfl
 simp only[opF,hc]at h
 rw[ho]at h;unfold opM at h;dsimp only at h;split at h
 ·split at h
  ·split at h
   ·exact QwM h
   ·split at h
    ·rename_i h1
     rw[h]at h1;exact QwL h1
    ·exact QwN h
  ·cases h
 ·cases h
theorem QrH{T:QS}{ops:Array Oper}{o:Oper}{s:St}{as:Array Operand}{ts:Array TypeId}{p v us}(ho:o.op= .call ⟨.builtin .append,as,ts⟩)(h:F1 T ops o s=some (p,v,us)):∀q∈us,(∀cs,q.2≠ .box cs)∧∀cs,s.ob q.1≠ .box cs:=by
 have hc:cls T o.op= .M:=by rw[ho];rfl
 unfold F1 at h;split at h
 ·cases h
 ·exact Qj7 ho h
 ·simp only[hc]at h
  split at h
  ·split at h
   ·split at h
    ·rename_i h0
     simp only[KA,KC]at h
     obtain⟨_,_,rfl⟩:=h;exact Qj7 ho h0
    ·cases h
   ·simp only[KA,KC]at h
    obtain⟨_,_,rfl⟩:=h;intro q hq;cases hq
  ·cases h
def Qqx(T:QS):Op→Bool
 | .call {callee:= .builtin .append,..}=>true
 | .call {callee:= .value (.func _),..}=>T.bx 1000
 | .store _ a _=>bxs T a
 | .assign _=>T.bx 1000
 | _=>false
theorem QeD{id:Id}:∀{us:List (Id×Ob)} {ob:Id→Ob},(∀q∈us,q.1≠id)→Q7 ob us id=ob id
 | [],ob,_=>rfl
 | (k,o)::us,ob,h=>by
  rw[Q7,QeD (us:=us) fun q hq=>h q (by simp[hq]),if_neg]
  exact fun e=>h (k,o) (by simp) e.symm
theorem Qf4{T:QS}{d:Nat}{ρ:Operand→AV}{ob:Id→Ob}{fr im:Bool}{op:Op}{f:FuncId}{as:Array Operand}{ts:Array TypeId}{p v us}(e:op= .call ⟨.value (.func f),as,ts⟩)(hk:T.bx 1000=true)(h:opF T d ρ ob fr im op=some (p,v,us)){id:Id}(hid':T.bx (1001+id.1)=true):us=[]∨∀q∈us,q.1≠id:=by
 unfold opF at h;split at h
 ·split at h
  ·simp at h;exact .inl h.2.2
  ·cases h
 ·split at h
  ·simp at h;exact .inl h.2.2
  ·cases h
 ·rw[e]at h
  unfold opM at h;have:=(QbH (QdJ h).1).2 hk
  exact .inr fun q hq e2=>by rw[←e2,this q hq]at hid';cases hid'
theorem Qqy{T:QS}{d:Nat}{ρ:Operand→AV}{ob:Id→Ob}{fr im:Bool}{op:Op}{t:TypeId}{a x:Operand}{p v us}(e:op= .store t a x)(hk:bxs T a=true)(h:opF T d ρ ob fr im op=some (p,v,us)){id:Id}(hid':T.bx (1001+id.1)=true):us=[]∨∀q∈us,q.1≠id:=by
 have hc:cls T op= .M:=by rw[e];rfl
 simp only[opF,hc]at h
 rw[e]at h;simp only[opM,stK,if_pos hk]at h
 have hb:T.bx 1000=true:=by
  unfold bxs at hk;split at hk
  ·rw[KB]at hk;exact hk.1
  ·cases hk
 have:=(QbH h).2 hb
 exact .inr fun q hq e2=>by rw[←e2,this q hq]at hid';cases hid'
theorem Qes{ob:Id→Ob}:∀{cs cs':List QI} {us:List (Id×Ob)},Qa8 ob cs=some (cs',us)→∀q∈us,(∀cs,q.2≠ .box cs)∧∀cs,ob q.1≠ .box cs
 | [],cs',us,h=>by
  simp only[Qa8,KA,KC]at h
  obtain⟨_,rfl⟩:=h;intro q hq;cases hq
 | c::cs,cs',us,h=>by
  have plain:∀{cs1 us1},Qa8 ob cs=some (cs1,us1)→us=us1→∀q∈us,(∀cs,q.2≠ .box cs)∧∀cs,ob q.1≠ .box cs:=fun h1 h2=>by
   subst h2;exact Qes h1
  cases c with
  | fr id sz l dp=>
   simp only[Qa8]at h
   split at h
   ·rename_i cs1 us1 ho hm1
    simp only[KA,KC]at h
    obtain⟨_,rfl⟩:=h;intro q hq;rcases KI.1 hq with rfl|hq
    ·exact⟨(fun _ h=>nomatch h),fun cs hcs=>by rw[ho]at hcs;cases hcs⟩
    ·exact Qes hm1 q hq
   ·cases h
  | _=>
   simp only[Qa8]at h
   split at h
   ·rename_i hm1
    simp only[KA,KC]at h
    exact plain hm1 h.2.symm
   ·cases h
theorem QuY{ob:Id→Ob}{av av':AV}{us:List (Id×Ob)}(h:QgY ob av=some (av',us)):∀q∈us,(∀cs,q.2≠ .box cs)∧∀cs,ob q.1≠ .box cs:=by
 have one:∀{id:Id} {o:Ob},ob id= .none→(∀cs,o≠ .box cs)→us=[(id,o)]→∀q∈us,(∀cs,q.2≠ .box cs)∧∀cs,ob q.1≠ .box cs:=fun {id o} ho h2 h3 q hq=>by
  subst h3;rw[KH]at hq;subst hq;exact⟨h2,fun cs hcs=>by rw[ho]at hcs;cases hcs⟩
 unfold QgY at h;split at h
 ·split at h
  ·simp only[KA,KC]at h
   exact one ‹_› (by intro _ h;cases h) h.2.symm
  ·cases h
 ·cases h
 ·simp only[KA,KC]at h
  obtain⟨_,rfl⟩:=h;intro q hq;cases hq
 ·split at h
  ·rename_i hm
   split at h
   ·simp only[KA,KC]at h
    obtain⟨_,rfl⟩:=h;exact Qes hm
   ·cases h
  ·cases h
 ·split at h
  ·split at h
   ·simp only[KA,KC]at h
    exact one ‹_› (by intro _ h;cases h) h.2.symm
   ·split at h
    ·simp only[KA,KC]at h
     exact one ‹_› (by intro _ h;cases h) h.2.symm
    ·cases h
  ·cases h
 ·cases h
theorem Qsn{ob:Id→Ob}{id:Id}{s:Nat}{els:List (List QI)}{p v us}(h:Qni ob id s els=some (p,v,us)):∀q∈us,(∀cs,q.2≠ .box cs)∧∀cs,ob q.1≠ .box cs:=by
 unfold Qni at h;split at h
 ·split at h
  ·rename_i ho ho2
   simp only[KA,KC]at h
   obtain⟨_,_,rfl⟩:=h;intro q hq;simp only[KI,YK,or_false]at hq
   rcases hq with rfl|rfl
   ·exact⟨(fun _ h=>nomatch h),Qfv ho2⟩
   ·exact⟨(fun _ h=>nomatch h),fun cs hcs=>by rw[ho]at hcs;cases hcs⟩
  ·cases h
 ·cases h
theorem Qj8{T:QS}{d:Nat}{ρ:Operand→AV}{ob:Id→Ob}{fr im:Bool}{op:Op}{x:Operand}{p v us}(e:op= .assign x)(hk:T.bx 1000=true)(h:opF T d ρ ob fr im op=some (p,v,us)){id:Id}(hid':T.bx (1001+id.1)=true):
  (∀q∈us,(∀cs,q.2≠ .box cs)∧∀cs,ob q.1≠ .box cs)∨∀q∈us,q.1≠id:=by
 have hc:cls T op= .M:=by rw[e];rfl
 simp only[opF,hc]at h
 rw[e]at h;unfold opM at h;dsimp only at h;split at h
 ·cases h
 split at h
 ·rename_i hm
  simp only[KA,KC]at h
  obtain⟨_,_,rfl⟩:=h;exact .inl (QuY hm)
 ·split at h
  ·cases h
  ·exact .inl (Qsn h)
  ·split at h
   ·have:=(QbH h).2 hk
    exact .inr fun q hq e2=>by rw[←e2,this q hq]at hid';cases hid'
   ·cases h
  ·cases h
  ·cases h
  ·simp only[KA,KC]at h
   obtain⟨_,_,rfl⟩:=h;exact .inl fun q hq=>nomatch hq
theorem Qnf{T:QS}{ops:Array Oper}{o:Oper}{s:St}{p v us}(hk:Qqx T o.op=true)(h:F1 T ops o s=some (p,v,us)){id:Id}(hid:QlD T id=true)(cs:List QI):Q7 s.ob us id= .box cs↔s.ob id= .box cs:=by
 unfold Qqx at hk;split at hk
 ·rename_i e;exact Qie (QrH e h)
 ·rename_i f as ts e
  have hid':T.bx (1001+id.1)=true:=by unfold QlD at hid;rw[hk]at hid;simpa using hid
  have:us=[]∨∀q∈us,q.1≠id:=by
   unfold F1 at h;split at h
   ·cases h
   ·exact Qf4 e hk h hid'
   ·split at h
    ·split at h
     ·split at h
      ·split at h
       ·rename_i h0
        simp only[KA,KC]at h
        obtain⟨_,_,rfl⟩:=h;exact Qf4 e hk h0 hid'
       ·cases h
      ·simp at h;exact .inl h.2.2
     ·cases h
    ·split at h
     ·simp at h;exact .inl h.2.2
     ·split at h
      ·simp at h;exact .inl h.2.2
      ·split at h
       ·simp at h;exact .inl h.2.2
       ·cases h
  rcases this with rfl|this
  ·exact Iff.rfl
  ·rw[QeD this]
 ·rename_i t a x e
  have hb:T.bx 1000=true:=by
   have hk:=hk
   unfold bxs at hk;split at hk
   ·rw[KB]at hk;exact hk.1
   ·cases hk
  have hid':T.bx (1001+id.1)=true:=by unfold QlD at hid;rw[hb]at hid;simpa using hid
  have:us=[]∨∀q∈us,q.1≠id:=by
   unfold F1 at h;split at h
   ·cases h
   ·exact Qqy e hk h hid'
   ·split at h
    ·split at h
     ·split at h
      ·split at h
       ·rename_i h0
        simp only[KA,KC]at h
        obtain⟨_,_,rfl⟩:=h;exact Qqy e hk h0 hid'
       ·cases h
      ·simp at h;exact .inl h.2.2
     ·cases h
    ·split at h
     ·simp at h;exact .inl h.2.2
     ·split at h
      ·simp at h;exact .inl h.2.2
      ·split at h
       ·simp at h;exact .inl h.2.2
       ·cases h
  rcases this with rfl|this
  ·exact Iff.rfl
  ·rw[QeD this]
 ·rename_i x e
  have hid':T.bx (1001+id.1)=true:=by unfold QlD at hid;rw[hk]at hid;simpa using hid
  have nil:us=[]→(∀q∈us,(∀cs,q.2≠ .box cs)∧∀cs,s.ob q.1≠ .box cs)∨∀q∈us,q.1≠id:=fun h=>by subst h;exact .inl fun q hq=>nomatch hq
  have:(∀q∈us,(∀cs,q.2≠ .box cs)∧∀cs,s.ob q.1≠ .box cs)∨∀q∈us,q.1≠id:=by
   unfold F1 at h;split at h
   ·cases h
   ·exact Qj8 e hk h hid'
   ·split at h
    ·split at h
     ·split at h
      ·split at h
       ·rename_i h0
        simp only[KA,KC]at h
        obtain⟨_,_,rfl⟩:=h;exact Qj8 e hk h0 hid'
       ·cases h
      ·simp at h;exact nil h.2.2
     ·cases h
    ·split at h
     ·simp at h;exact nil h.2.2
     ·split at h
      ·simp at h;exact nil h.2.2
      ·split at h
       ·simp at h;exact nil h.2.2
       ·cases h
  rcases this with this|this
  ·exact Qie this
  ·rw[QeD this]
 ·cases hk
theorem QD(s:St)(x:Option Nat)(u:AV)(us:List (Id×Ob))(t:Nat)(h:x≠some t):(s.put x u us).sl t=s.sl t:=by
 cases x with
 | none=>rfl
 | some d=>simp only[St.put];exact Qwd _ _ _ _ fun e=>h (e▸rfl)
theorem Qwx{T:QS}{ops:Array Oper}{x y:Oper}(h:Quz T ops x y=true){K:St→Prop}{s:St}
  (H:Qcv (F1 T ops x s) fun v us=>Qcv (F1 T ops y (s.put x.dst v us)) fun u vs=>K ((s.put x.dst v us).put y.dst u vs)):
  Qcv (F1 T ops y s) fun v us=>Qcv (F1 T ops x (s.put y.dst v us)) fun u vs=>K ((s.put y.dst v us).put x.dst u vs):=by
 unfold Quz at h;rw[KB]at h;obtain⟨ha,hc⟩:=h;obtain⟨h1,h2,h3⟩:=Oper.apart_spec ha;rw[Kq]at hc;have hc':QE4 T x.op y.op=true→(∃t z,x.op= .load t z∧Qqx T y.op=true∧bxq T z=true)∨(∃t z,y.op= .load t z∧Qqx T x.op=true∧bxq T z=true):=fun h=>by
  unfold QE4 at h;split at h
  ·rename_i e1 e2;exact .inl ⟨_,_,e1,by rw[e2];rfl,h⟩
  ·rename_i e1 e2;exact .inr ⟨_,_,e2,by rw[e1];rfl,h⟩
  ·rename_i e1 e2;rw[KB]at h;exact .inl ⟨_,_,e1,by rw[e2];exact h.2,h.1⟩
  ·rename_i e1 e2;rw[KB]at h;exact .inr ⟨_,_,e2,by rw[e1];exact h.2,h.1⟩
  ·rename_i e1 e2;rw[KB]at h;exact .inl ⟨_,_,e1,by rw[e2];exact h.2,h.1⟩
  ·rename_i e1 e2;rw[KB]at h;exact .inr ⟨_,_,e2,by rw[e1];exact h.2,h.1⟩
  ·rename_i e1 e2;rw[KB]at h;exact .inl ⟨_,_,e1,by rw[e2];exact h.2,h.1⟩
  ·rename_i e1 e2;rw[KB]at h;exact .inr ⟨_,_,e2,by rw[e1];exact h.2,h.1⟩
  ·cases h
 have hdst:∀d,y.dst=some d→x.dst≠some d:=fun d hy hx=>h2 d hx hy
 cases hx:F1 T ops x s with
 | none=>rw[hx]at H;exact H.elim
 | some r=>
  obtain⟨p,v,us⟩:=r;rw[hx]at H;obtain⟨hp,H⟩:=H;have cx:QjW T x.op= .M∨us=[]:=by
   by_cases hm:QjW T x.op= .M
   ·exact .inl hm
   ·exact .inr (Qn4 hm hx)
  have ey:F1 T ops y (s.put x.dst v us)=F1 T ops y s:=by
   rcases cx with hm|rfl
   ·rcases hc with hc|hc
    ·refine QcP y (fun t ht=>QD _ _ _ _ _ fun e=>h1 t e ht) (fun d hd=>QD _ _ _ _ _ (hdst d hd)) ?_
     rw[hm]at hc;left
     cases hy:QjW T y.op<;>simp_all
    ·rcases hc' hc with⟨t,z,e1,e2,e3⟩|⟨t,z,e1,e2,e3⟩
     ·rw[e1]at hm;cases hm
     ·exact Qih y e1 e3 (fun t ht=>QD _ _ _ _ _ fun e=>h1 t e ht) fun id hk cs=>by rw[St.put_ob];exact Qnf e2 hx hk cs
   ·refine QcP y (fun t ht=>QD _ _ _ _ _ fun e=>h1 t e ht) (fun d hd=>QD _ _ _ _ _ (hdst d hd)) ?_
    right;rw[St.put_ob];rfl
  rw[ey]at H;cases hy:F1 T ops y s with
  | none=>rw[hy]at H;exact H.elim
  | some r=>
   obtain⟨q,u,vs⟩:=r;rw[hy]at H;obtain⟨hq,H⟩:=H;have cy:QjW T y.op= .M∨vs=[]:=by
    by_cases hm:QjW T y.op= .M
    ·exact .inl hm
    ·exact .inr (Qn4 hm hy)
   have ex:F1 T ops x (s.put y.dst u vs)=F1 T ops x s:=by
    rcases cy with hm|rfl
    ·rcases hc with hc|hc
     ·refine QcP x (fun t ht=>QD _ _ _ _ _ fun e=>h3 t e ht) (fun d hd=>QD _ _ _ _ _ fun e=>h2 d hd e) ?_
      rw[hm]at hc;left
      cases hx':QjW T x.op<;>simp_all
     ·rcases hc' hc with⟨t,z,e1,e2,e3⟩|⟨t,z,e1,e2,e3⟩
      ·exact Qih x e1 e3 (fun t ht=>QD _ _ _ _ _ fun e=>h3 t e ht) fun id hk cs=>by rw[St.put_ob];exact Qnf e2 hy hk cs
      ·rw[e1]at hm;cases hm
    ·refine QcP x (fun t ht=>QD _ _ _ _ _ fun e=>h3 t e ht) (fun d hd=>QD _ _ _ _ _ fun e=>h2 d hd e) ?_
     right;rw[St.put_ob];rfl
   refine⟨hq,?_⟩
   simp only
   rw[ex,hx];refine⟨hp,?_⟩
   show K ((s.put y.dst u vs).put x.dst v us)
   rw[show(s.put y.dst u vs).put x.dst v us=(s.put x.dst v us).put y.dst u vs from(St.put_comm s h2 ?_).symm]
   ·exact H
   ·rcases cx with hm|rfl
    ·rcases cy with hm'|rfl
     ·rcases hc with hc|hc
      ·rw[hm,hm']at hc;simp at hc
      ·rcases hc' hc with⟨t,z,e1,e2,e3⟩|⟨t,z,e1,e2,e3⟩
       ·rw[e1]at hm;cases hm
       ·rw[e1]at hm';cases hm'
     ·exact .inr rfl
    ·exact .inl rfl
theorem QBE{T:QS}{d d':Nat}{ρ:Operand→AV}{ob:Id→Ob}{fr fr' im im':Bool}{o:Op}{k:Id}{o0:Ob}{r}(hl:QuG o=true)(h0:ob k= .none)(hs:opR T d ρ ob fr im o=some r):
  opR T d' ρ (fun id=>if id=k then o0 else ob id) fr' im' o=some r:=by
 cases o with
 | load t x=>
  simp only[opR]at hs ⊢
  split at hs
  ·cases hs
  ·rename_i hb
   rw[if_neg hb];cases hx:ρ x with
   | one c=>
    cases c with
    | bptr id o=>
     simp only[hx]at hs ⊢
     by_cases e:id=k
     ·subst e
      rw[h0]at hs;split at hs<;>cases hs
     ·simp only[e,if_false]
      exact hs
    | optr id i o=>
     simp only[hx]at hs ⊢
     by_cases e:id=k
     ·subst e
      rw[h0]at hs;split at hs<;>cases hs
     ·simp only[e,if_false]
      exact hs
    | nptr id i o s' j=>
     simp only[hx]at hs ⊢
     by_cases e:id=k
     ·subst e
      rw[h0]at hs;split at hs<;>cases hs
     ·simp only[e,if_false]
      exact hs
    | _=>simp only[hx]at hs ⊢;exact hs
   | _=>simp only[hx]at hs ⊢;exact hs
 | indexAddr t x i=>
  simp only[opR]at hs ⊢
  cases hx:ρ x with
  | one c=>
   cases c with
   | osl id=>
    simp only[hx]at hs ⊢
    by_cases e:id=k
    ·subst e
     rw[h0]at hs;split at hs
     ·split at hs<;>cases hs
     ·cases hs
    ·simp only[e,if_false]
     exact hs
   | d z=>cases z<;>(simp only[hx]at hs ⊢;exact hs)
   | n z=>cases z<;>(simp only[hx]at hs ⊢;exact hs)
   | isl id i' o=>
    simp only[hx]at hs ⊢
    by_cases e:id=k
    ·subst e
     rw[h0]at hs;split at hs
     ·split at hs<;>cases hs
     ·cases hs
    ·simp only[e,if_false]
     exact hs
   | _=>simp only[hx]at hs ⊢;exact hs
  | _=>simp only[hx]at hs ⊢;exact hs
 | _=>cases hl
theorem Qsk{T:QS}{o:Op}(h:QuG o=true):QjW T o≠ .M:=by
 cases o<;>first|(cases h;done)|(intro e;cases e)
theorem QrB{T:QS}{ops:Array Oper}(o:Oper){s s':St}{k:Id}{o0:Ob}{r}(hl:QuG o.op=true)(h1:∀t∈o.looksAt ops,s'.sl t=s.sl t)(h0:s.ob k= .none)
  (hob:s'.ob=fun id=>if id=k then o0 else s.ob id) (hs:F1 T ops o s=some r):F1 T ops o s'=some r:=by
 have hr:∀x∈o.op.operands,rho s' x=rho s x:=fun x hx=>Qgj fun t ht=>h1 t (by
  subst ht;exact YH _ (YY.2 ⟨.tmp t,by simpa using hx,rfl⟩))
 have hg:gOf ops s' o=gOf ops s o:=by
  unfold gOf;cases hgo:o.guard with
  | none=>rfl
  | some jw=>
   obtain⟨j,want⟩:=jw;cases hj:(ops[j]?).bind (·.dst)with
   | none=>simp only[hj]
   | some t=>
    have:=h1 t (by simp[Oper.looksAt,hgo,hj])
    simp only[hj,this]
 have hcc:cls T o.op= .R:=by
  cases ho:o.op<;>first|rfl|(rw[ho]at hl;cases hl)
 have e4:∀s g,QjX s g o.op=none:=fun s g=>by
  cases ho:o.op<;>first|rfl|(rw[ho]at hl;cases hl)
 have e0:∀(f f':Operand→AV) (hf:∀y∈o.op.operands,f y=f' y) (b1 b1' b2:Bool) (q),opF T (o.dst.getD 0) f' s.ob b1' b2 o.op=some q→opF T (o.dst.getD 0) f s'.ob b1 b2 o.op=some q:=fun f f' hf b1 b1' b2 q hq=>by
  simp only[opF,hcc]at hq ⊢
  cases hR:opR T (o.dst.getD 0) f' s.ob b1' b2 o.op with
  | none=>rw[hR]at hq;cases hq
  | some z=>
   rw[hR]at hq;rw[Qjg (ρ:=f) (ρ':=f') _ _ _ _ _ hf,hob,QBE hl h0 hR];exact hq
 have e3:∀g,(∀x∈o.op.operands.toList,QdT g (rho s' x))=(∀x∈o.op.operands.toList,QdT g (rho s x)):=fun g=>by
  refine propext ⟨fun H x hx=>?_,fun H x hx=>?_⟩
  ·rw[←hr x (by simpa using hx)];exact H x hx
  ·rw[hr x (by simpa using hx)];exact H x hx
 unfold F1 at hs ⊢;rw[hg];split at hs
 ·cases hs
 ·exact e0 _ _ hr _ _ _ _ hs
 ·rename_i g _
  simp only[hcc,e4,e3]at hs ⊢
  by_cases h9:(T.bx 999&& !g)=true
  ·rw[if_pos h9]at hs ⊢;exact hs
  rw[if_neg h9]at hs ⊢;cases hq:opF T (o.dst.getD 0) (fun x=>QcI (rho s x)) s.ob false true o.op with
  | none=>rw[hq]at hs;cases hs
  | some z=>
   rw[hq]at hs;rw[e0 (fun x=>QcI (rho s' x)) (fun x=>QcI (rho s x)) (fun y hy=>by rw[hr y hy]) false false true z hq]
   exact hs
theorem Qin{T:QS}{o:Oper}{s:St}{ρ:Operand→AV}{im:Bool}{t:TypeId}{p v us}(ho:o.op= .alloc t)(h:opF T (o.dst.getD 0) ρ s.ob (Qr s o.dst) im o.op=some (p,v,us))(hp:p):∃o0,us=[((o.dst.getD 0,0),o0)]∧s.ob (o.dst.getD 0,0)= .none:=by
 have hc:cls T o.op= .M:=by rw[ho];rfl
 simp only[opF,hc]at h
 rw[ho]at h;unfold opM at h;dsimp only at h;split at h
 ·simp only[KA,KC]at h
  obtain⟨h1,_,h3⟩:=h;refine⟨_,h3.symm,?_⟩
  rw[←h1]at hp;cases hd:o.dst with
  | none=>rw[hd]at hp;cases hp
  | some d=>
   rw[hd]at hp;simp only[Qr,KB]at hp
   have:=hp.1.1.1.2
   show s.ob (d,0)= .none
   cases e:s.ob (d,0)<;>simp_all[Ob.isNone]
 ·cases h
theorem QwG{T:QS}{ops:Array Oper}{o:Oper}{s:St}{t:TypeId}{p v us}(ho:o.op= .alloc t)(h:F1 T ops o s=some (p,v,us))(hp:p):us=[]∨∃o0,us=[((o.dst.getD 0,0),o0)]∧s.ob (o.dst.getD 0,0)= .none:=by
 have hc:cls T o.op= .M:=by rw[ho];rfl
 unfold F1 at h;split at h
 ·cases h
 ·exact .inr (Qin ho h hp)
 ·simp only[hc]at h
  split at h
  ·split at h
   ·split at h
    ·rename_i h0
     simp only[KA,KC]at h
     obtain⟨e1,_,rfl⟩:=h;rw[←e1]at hp;exact .inr (Qin ho h0 hp.2)
    ·cases h
   ·simp only[KA,KC]at h
    exact .inl h.2.2.symm
  ·cases h
theorem QCR{T:QS}{ops:Array Oper}(o:Oper){s s':St}(hb:bsD T o=true)(h1:∀t∈o.looksAt ops,s'.sl t=s.sl t)(h2:∀d,o.dst=some d→s'.sl d=s.sl d)(h3:∀d k,o.dst=some d→s'.ob (d,k)=s.ob (d,k)):F1 T ops o s'=F1 T ops o s:=by
 have hg:gOf ops s' o=gOf ops s o:=by
  unfold gOf;cases hgo:o.guard with
  | none=>rfl
  | some jw=>
   obtain⟨j,want⟩:=jw;cases hj:(ops[j]?).bind (·.dst)with
   | none=>simp only[hj]
   | some t=>
    have:=h1 t (by simp[Oper.looksAt,hgo,hj])
    simp only[hj,this]
 have hfr:Qr s' o.dst=Qr s o.dst:=by
  cases hd:o.dst with
  | none=>rfl
  | some d=>simp only[Qr,h2 d hd,h3 d _ hd]
 obtain⟨t,ps,ho,hps⟩:∃t ps,o.op= .buildSlice t 0 ps∧ps.toList=[]:=by
  unfold bsD at hb;split at hb
  ·rename_i t ps d e1 e2
   rw[KB,List.isEmpty_iff]at hb;exact⟨_,_,e1,hb.1⟩
  ·cases hb
 have hc:cls T o.op= .R:=by rw[ho];rfl
 have e0:∀(f f':Operand→AV) (ob ob':Id→Ob) (b1 b2:Bool),opF T (o.dst.getD 0) f ob b1 b2 o.op=opF T (o.dst.getD 0) f' ob' b1 b2 o.op:=fun f f' ob ob' b1 b2=>by
  simp only[opF,hc]
  rw[ho];simp only[opR,Qka,hps,List.map_nil]
 have e3:∀g (s:St),(∀x∈o.op.operands.toList,QdT g (rho s x))=True:=fun g s=>by
  refine propext ⟨fun _=>trivial,fun _ x hx=>?_⟩
  rw[ho]at hx;have:ps=#[]:=by apply Array.toList_inj.1;simpa using hps
  subst this;simp[Op.operands]at hx
 have e4:∀s g,QjX s g o.op=none:=fun s g=>by rw[ho];rfl
 unfold F1;rw[hg];simp only[e0 (rho s') (rho s) s'.ob s.ob,e0 (fun x=>QcI (rho s' x)) (fun x=>QcI (rho s x)) s'.ob s.ob,hfr,e3,e4]
theorem QmF{T:QS}{ops:Array Oper}{o:Oper}{s:St}{p v us}(hk:QcB o.op=true)(hb:T.bx 1000=true)(h:F1 T ops o s=some (p,v,us)){id:Id}(hid:T.bx (1001+id.1)=true):Q7 s.ob us id=s.ob id:=by
 unfold QcB at hk;split at hk
 ·rename_i f as ts e
  have:us=[]∨∀q∈us,q.1≠id:=by
   unfold F1 at h;split at h
   ·cases h
   ·exact Qf4 e hb h hid
   ·split at h
    ·split at h
     ·split at h
      ·split at h
       ·rename_i h0
        simp only[KA,KC]at h
        obtain⟨_,_,rfl⟩:=h;exact Qf4 e hb h0 hid
       ·cases h
      ·simp at h;exact .inl h.2.2
     ·cases h
    ·split at h
     ·simp at h;exact .inl h.2.2
     ·split at h
      ·simp at h;exact .inl h.2.2
      ·split at h
       ·simp at h;exact .inl h.2.2
       ·cases h
  rcases this with rfl|this
  ·rfl
  ·rw[QeD this]
 ·cases hk
theorem Qj9{T:QS}{o:Oper}(h:bsD T o=true):T.bx 1000=true∧QjW T o.op≠ .M∧∀d,o.dst=some d→T.bx (1001+d)=true:=by
 unfold bsD at h;split at h
 ·rename_i t ps d e1 e2
  simp only[KB]at h
  have hne:QjW T o.op≠ .M:=by rw[e1];exact fun e=>(nomatch e)
  refine⟨h.2.1,hne,fun d' hd=>?_⟩
  rw[e2]at hd;obtain rfl:=K0 hd;exact h.2.2
 ·cases h
theorem Qwy{T:QS}{ops:Array Oper}{x y:Oper}(ha:x.apart ops y=true)(h:(bsD T x&&QcB y.op)=true∨(QcB x.op&&bsD T y)=true){K:St→Prop}{s:St}
  (H:Qcv (F1 T ops x s) fun v us=>Qcv (F1 T ops y (s.put x.dst v us)) fun u vs=>K ((s.put x.dst v us).put y.dst u vs)):
  Qcv (F1 T ops y s) fun v us=>Qcv (F1 T ops x (s.put y.dst v us)) fun u vs=>K ((s.put y.dst v us).put x.dst u vs):=by
 obtain⟨h1,h2,h3⟩:=Oper.apart_spec ha;have hdst:∀d,y.dst=some d→x.dst≠some d:=fun d hy hx=>h2 d hx hy
 cases hx:F1 T ops x s with
 | none=>rw[hx]at H;exact H.elim
 | some r=>
  obtain⟨p,v,us⟩:=r;rw[hx]at H;obtain⟨hp,H⟩:=H;have ey:F1 T ops y (s.put x.dst v us)=F1 T ops y s:=by
   rcases h with h|h
   ·rw[KB]at h
    obtain⟨b1,b2,b3⟩:=Qj9 h.1;have hus:us=[]:=Qn4 b2 hx
    subst hus;exact QcP y (fun t ht=>QD _ _ _ _ _ fun e=>h1 t e ht) (fun d hd=>QD _ _ _ _ _ (hdst d hd)) (.inr (by rw[St.put_ob];rfl))
   ·rw[KB]at h
    obtain⟨b1,b2,b3⟩:=Qj9 h.2;exact QCR y h.2 (fun t ht=>QD _ _ _ _ _ fun e=>h1 t e ht) (fun d hd=>QD _ _ _ _ _ (hdst d hd)) fun d k hd=>by
     rw[St.put_ob];exact QmF h.1 b1 hx (id:=(d,k)) (b3 d hd)
  rw[ey]at H;cases hy:F1 T ops y s with
  | none=>rw[hy]at H;exact H.elim
  | some r=>
   obtain⟨q,u,vs⟩:=r;rw[hy]at H;obtain⟨hq,H⟩:=H;have ex:F1 T ops x (s.put y.dst u vs)=F1 T ops x s:=by
    rcases h with h|h
    ·rw[KB]at h
     obtain⟨b1,b2,b3⟩:=Qj9 h.1;exact QCR x h.1 (fun t ht=>QD _ _ _ _ _ fun e=>h3 t e ht) (fun d hd=>QD _ _ _ _ _ fun e=>h2 d hd e) fun d k hd=>by
      rw[St.put_ob];exact QmF h.2 b1 hy (id:=(d,k)) (b3 d hd)
    ·rw[KB]at h
     obtain⟨b1,b2,b3⟩:=Qj9 h.2;have hvs:vs=[]:=Qn4 b2 hy
     subst hvs;exact QcP x (fun t ht=>QD _ _ _ _ _ fun e=>h3 t e ht) (fun d hd=>QD _ _ _ _ _ fun e=>h2 d hd e) (.inr (by rw[St.put_ob];rfl))
   have hor:us=[]∨vs=[]:=by
    rcases h with h|h
    ·rw[KB]at h;exact .inl (Qn4 (Qj9 h.1).2.1 hx)
    ·rw[KB]at h;exact .inr (Qn4 (Qj9 h.2).2.1 hy)
   refine⟨hq,?_⟩
   simp only
   rw[ex,hx];refine⟨hp,?_⟩
   show K ((s.put y.dst u vs).put x.dst v us)
   rw[show(s.put y.dst u vs).put x.dst v us=(s.put x.dst v us).put y.dst u vs from(St.put_comm s h2 hor).symm]
   exact H
section
variable {ob:Id→Ob} {k:Id} {cs0:List QI}
def QeX(ob:Id→Ob)(k:Id)(cs0:List QI):Id→Ob:=fun id=>if id=k then .box cs0 else ob id
theorem QaD{id:Id}(h:id≠k):QeX ob k cs0 id=ob id:=by unfold QeX;rw[if_neg h]
theorem Qbn:QeX ob k cs0 k= .box cs0:=by unfold QeX;rw[if_pos rfl]
theorem Qrt(h0:ob k= .none){c:QI}(hc:QcS c=false):toD (QeX ob k cs0) c=toD ob c:=by
 cases c with
 | osl id=>
  simp only[toD]
  by_cases e:id=k
  ·subst e;rw[h0,Qbn]
  ·rw[QaD e]
   cases hb:ob id with
   | inn j i o=>
    dsimp only
    by_cases e2:j=k
    ·subst e2;rw[h0,Qbn]
    ·rw[QaD e2]
   | _=>rfl
 | isl id i o=>
  simp only[toD]
  by_cases e:id=k
  ·subst e;rw[h0,Qbn]
  ·rw[QaD e]
 | sub id lo hi=>
  simp only[toD]
  by_cases e:id=k
  ·subst e;rw[h0,Qbn]
  ·rw[QaD e]
 | fr=>cases hc
 | _=>rfl
theorem Qiz(h0:ob k= .none):∀{cs:List QI},cs.any QcS=false→Qcx (QeX ob k cs0) cs=Qcx ob cs
 | [],_=>rfl
 | c::r,h=>by
  simp only[List.any_cons,Kt]at h
  simp only[Qcx,Qrt h0 h.1,Qiz h0 h.2]
theorem Qh2(h0:ob k= .none):∀{cs:List QI},QdM (QeX ob k cs0) cs=QdM ob cs
 | []=>rfl
 | c::r=>by
  cases c with
  | d=>simp only[QdM,@Qh2 h0 r]
  | osl id=>
   simp only[QdM,@Qh2 h0 r]
   by_cases e:id=k
   ·subst e;rw[h0,Qbn]
   ·rw[QaD e]
  | _=>rfl
theorem QlM(h0:ob k= .none):∀{cs:List QI},QjT (QeX ob k cs0) cs=QjT ob cs
 | []=>rfl
 | c::r=>by
  cases c with
  | d=>simp only[QjT,@QlM h0 r]
  | n=>simp only[QjT,@QlM h0 r]
  | osl id=>
   simp only[QjT,@QlM h0 r]
   by_cases e:id=k
   ·subst e;rw[h0,Qbn]
   ·rw[QaD e]
  | _=>rfl
theorem Qjr(h0:ob k= .none):∀{cs:List QI} {ns},QW (QeX ob k cs0) cs ns=QW ob cs ns
 | [],[]=>rfl
 | [],_::_=>rfl
 | c::r,[]=>by cases c<;>rfl
 | c::r,n::ns=>by
  cases c with
  | d=>cases n<;>simp only[QW,@Qjr h0 r ns]
  | osl id=>
   cases n with
   | inl=>rfl
   | inr z=>
    obtain⟨a,b,c⟩:=z;simp only[QW,@Qjr h0 r ns]
    by_cases e:id=k
    ·subst e;rw[h0,Qbn]
    ·rw[QaD e]
  | _=>cases n<;>rfl
theorem QwO(h0:ob k= .none){v:AV}(hf:QjF ob v=false)(hk:v≠ .one (.bptr k 0))(m:Bool):Qfh (QeX ob k cs0) m v=Qfh ob m v:=by
 cases v with
 | one c=>
  cases c with
  | bptr id off=>
   by_cases e:id=k
   ·subst e
    cases off with
    | zero=>exact absurd rfl hk
    | succ n=>cases m<;>rfl
   ·cases off with
    | zero=>
     simp only[QjF]at hf
     simp only[Qfh,QaD e]
     cases hb:ob id with
     | box cs=>
      rw[hb]at hf;dsimp only;rw[Qiz h0 hf]
     | _=>rfl
    | succ n=>cases m<;>rfl
  | osl id=>
   have:=@Qrt ob k cs0 h0 (.osl id) rfl
   simp only[Qfh,this]
   cases m
   ·rfl
   ·simp only[if_true]
    by_cases e:id=k
    ·subst e;rw[h0,Qbn]
    ·rw[QaD e]
  | isl id i o=>
   have:=@Qrt ob k cs0 h0 (.isl id i o) rfl
   simp only[Qfh,this]
   cases m
   ·rfl
   ·simp only[if_true]
    by_cases e:id=k
    ·subst e;rw[h0,Qbn]
    ·rw[QaD e]
  | fr=>cases hf
  | fb=>cases hf
  | ltf=>cases hf
  | fn=>cases hf
  | sub id lo hi=>
   have:=@Qrt ob k cs0 h0 (.sub id lo hi) rfl
   simp only[Qfh,this]
  | _=>cases m<;>rfl
 | agg cs=>
  simp only[Qfh,Qh2 h0,Qiz h0 (show cs.any QcS=false from hf)]
 | _=>rfl
theorem Qc8(h0:ob k= .none):∀{vs:List AV} {ms:List Bool},vs.any (QjF ob)=false→(∀v∈vs,v≠ .one (.bptr k 0))→Qce (QeX ob k cs0) ms vs=Qce ob ms vs
 | [],ms,_,_=>by simp only[Qce]
 | v::r,ms,h,hk=>by
  simp only[List.any_cons,Kt]at h
  simp only[Qce,QwO h0 h.1 (hk v (by simp)),Qc8 h0 h.2 fun x hx=>hk x (by simp[hx])]
theorem Qc9(h0:ob k= .none):∀{vs:List AV} {ms:List Bool} {as:List Arg},Qce ob ms vs=some as→∀v∈vs,v≠ .one (.bptr k 0)
 | [],_,_,_,v,hv=>by cases hv
 | x::r,ms,as,h,v,hv=>by
  simp only[Qce]at h
  split at h
  ·rename_i a l ha hl
   rcases KI.1 hv with rfl|hv
   ·rintro rfl
    cases hm:ms.headD false
    ·rw[hm]at ha;simp[Qfh,h0]at ha
    ·rw[hm]at ha;simp[Qfh,h0]at ha
   ·exact Qc9 h0 hl v hv
  ·cases h
theorem Qxb{T:QS}{d:Nat}{fr im mu:Bool}{f:FuncId}{vs:List AV}(h0:ob k= .none)(hf:vs.any (QjF ob)=false){r}(hs:QgA T d ob fr im mu f vs=some r):QgA T d (QeX ob k cs0) fr im mu f vs=some r:=by
 have hne:∀v∈vs,v≠ .one (.bptr k 0):=by
  unfold QgA at hs;split at hs
  ·split at hs
   ·cases hs
   ·split at hs
    ·rename_i has
     exact Qc9 h0 has
    ·cases hs
  ·cases hs
 rw[←hs];unfold QgA;cases T.ct f with
 | none=>rfl
 | some c=>simp only[Qc8 h0 hf hne]
theorem Qv5(h0:ob k= .none){v:AV}:QsK (QeX ob k cs0) v=QsK ob v:=by
 cases v with
 | one c=>
  cases c with
  | osl id=>
   simp only[QsK]
   by_cases e:id=k
   ·subst e;rw[h0,Qbn]
   ·rw[QaD e]
  | _=>rfl
 | _=>rfl
theorem Qrr(h0:ob k= .none){v:AV}(hf:QjF ob v=false){sz:Nat}:QeB (QeX ob k cs0) sz v=QeB ob sz v:=by
 have own:∀c,QcS c=false→Qw (QeX ob k cs0) c=Qw ob c:=fun c hc=>by
  cases c with
  | fr=>cases hc
  | osl id=>
   simp only[Qw]
   by_cases e:id=k
   ·subst e;rw[h0,Qbn]
   ·rw[QaD e]
  | _=>rfl
 unfold QeB;split
 ·rfl
 ·rename_i c _
  have hc:QcS c=false:=by
   cases c<;>first|rfl|(exact hf)
  rw[own c hc]
 ·cases hf
 ·rfl
theorem Qrs(h0:ob k= .none){v:AV}{sz:Nat}{r}(h:QeB ob sz v=some r):v≠ .one (.bptr k 0)∧∀q∈r.2.2,q.1≠k∨QjF ob v=true:=by
 constructor
 ·rintro rfl
  simp[QeB,Qw]at h
 ·unfold QeB at h
  split at h
  ·simp only[KA]at h;subst h;simp
  ·rename_i c _
   split at h
   ·rename_i id s l dp ho
    split at h
    ·simp only[KA]at h
     subst h;intro q hq;simp only[KH]at hq
     subst hq;cases c with
     | fr=>exact .inr rfl
     | osl i=>
      simp only[Qw]at ho
      split at ho
      ·rename_i hb
       simp only[KA,KC]at ho
       refine .inl fun e=>?_
       dsimp only at e;rw[←e,←ho.1,hb]at h0;cases h0
      ·cases ho
     | _=>simp[Qw]at ho
    ·cases h
   ·cases h
  ·rename_i id s els
   intro q _;exact .inr rfl
  ·cases h
theorem Qu6(h0:ob k= .none){v:AV}(hk:v≠ .one (.bptr k 0)):Qgb (QeX ob k cs0) v=Qgb ob v:=by
 unfold Qgb;split
 ·rename_i id
  by_cases e:id=k
  ·subst e;rw[h0,Qbn]
  ·rw[QaD e]
 ·rename_i id i o
  by_cases e:id=k
  ·subst e;rw[h0,Qbn]
  ·rw[QaD e]
 ·rename_i id
  rw[QaD fun e=>hk (by rw[e])]
 ·rw[Qh2 h0]
 ·rfl
theorem Qu7(h0:ob k= .none){v:AV}{a}(h:Qgb ob v=some a):v≠ .one (.bptr k 0):=by
 rintro rfl;simp[Qgb,h0]at h
theorem QvT(h0:ob k= .none){v:AV}{nw:Bool}{a:Arg}(hk:v≠ .one (.bptr k 0)):Qbm nw (QeX ob k cs0) v a=Qbm nw ob v a:=by
 unfold Qbm;split
 ·rename_i id _ _ _
  by_cases e:id=k
  ·subst e;rw[h0,Qbn]
  ·rw[QaD e]
 ·rename_i id i o _ _ _
  by_cases e:id=k
  ·subst e;rw[h0,Qbn]
  ·rw[QaD e]
 ·rename_i id _
  rw[QaD fun e=>hk (by rw[e])]
 ·rw[Qjr h0]
 ·rfl
theorem Qjt:∀{cs:List QI} {ns} {p:Prop} {us:List (Id×Ob)},QW ob cs ns=some (p,us)→∀q∈us,q.2≠ .none
 | [],[],p,us,h,q,hq=>by simp[QW]at h;rw[h.2]at hq;cases hq
 | [],_::_,p,us,h,q,hq=>by simp[QW]at h
 | c::r,[],p,us,h,q,hq=>by cases c<;>simp[QW]at h
 | c::r,n::ns,p,us,h,q,hq=>by
  cases c with
  | d=>cases n with
   | inl=>simp only[QW]at h;exact Qjt h q hq
   | inr=>simp[QW]at h
  | osl id=>
   cases n with
   | inl=>simp[QW]at h
   | inr z=>
    obtain⟨a,b,c⟩:=z;simp only[QW]at h
    split at h
    ·rename_i hb hr
     simp only[KA,KC]at h
     obtain⟨_,rfl⟩:=h;rcases KI.1 hq with rfl|hq
     ·simp
     ·exact Qjt hr q hq
    ·cases h
  | _=>cases n<;>simp[QW]at h
theorem QnM{v:AV}{nw:Bool}{a:Arg}{p:Prop}{us:List (Id×Ob)}(h:Qbm nw ob v a=some (p,us)):∀q∈us,q.2≠ .none:=by
 unfold Qbm at h;split at h
 ·split at h
  ·simp only[KA,KC]at h
   obtain⟨_,rfl⟩:=h;simp
  ·cases h
 ·split at h
  ·split at h
   ·simp only[KA,KC]at h
    obtain⟨_,rfl⟩:=h;simp
   ·cases h
  ·cases h
 ·split at h
  ·simp only[KA,KC]at h
   obtain⟨_,rfl⟩:=h;simp
  ·cases h
 ·exact Qjt h
 ·cases h
theorem Qic{v:AV}{sz:Nat}{r}(h:QeB ob sz v=some r):∀q∈r.2.2,q.2≠ .none:=by
 unfold QeB at h;split at h
 ·simp only[KA]at h;subst h;simp
 ·split at h
  ·split at h
   ·simp only[KA]at h;subst h;simp
   ·cases h
  ·cases h
 ·split at h
  ·split at h
   ·simp only[KA]at h;subst h;simp
   ·cases h
  ·cases h
 ·cases h
theorem Qjs(h0:ob k= .none):∀{cs:List QI} {ns} {p:Prop} {us:List (Id×Ob)},QW ob cs ns=some (p,us)→∀q∈us,q.1≠k
 | [],[],p,us,h,q,hq=>by simp[QW]at h;rw[h.2]at hq;cases hq
 | [],_::_,p,us,h,q,hq=>by simp[QW]at h
 | c::r,[],p,us,h,q,hq=>by cases c<;>simp[QW]at h
 | c::r,n::ns,p,us,h,q,hq=>by
  cases c with
  | d=>cases n with
   | inl=>simp only[QW]at h;exact Qjs h0 h q hq
   | inr=>simp[QW]at h
  | osl id=>
   cases n with
   | inl=>simp[QW]at h
   | inr z=>
    obtain⟨a,b,c⟩:=z;simp only[QW]at h
    split at h
    ·rename_i hb hr
     simp only[KA,KC]at h
     obtain⟨_,rfl⟩:=h;rcases KI.1 hq with rfl|hq
     ·intro e
      dsimp only at e;rw[e,h0]at hb;cases hb
     ·exact Qjs h0 hr q hq
    ·cases h
  | _=>cases n<;>simp[QW]at h
theorem QvU(h0:ob k= .none){v:AV}{nw:Bool}{a:Arg}{p:Prop}{us:List (Id×Ob)}(h:Qbm nw ob v a=some (p,us)):∀q∈us,q.1≠k:=by
 unfold Qbm at h;split at h
 ·split at h
  ·rename_i hb
   simp only[KA,KC]at h
   obtain⟨_,rfl⟩:=h;intro q hq e;rw[KH]at hq;subst hq;dsimp only at e;rw[e,h0]at hb;cases hb
  ·cases h
 ·split at h
  ·rename_i hb
   split at h
   ·simp only[KA,KC]at h
    obtain⟨_,rfl⟩:=h;intro q hq e;rw[KH]at hq;subst hq;dsimp only at e;rw[e,h0]at hb;cases hb
   ·cases h
  ·cases h
 ·split at h
  ·rename_i hb
   simp only[KA,KC]at h
   obtain⟨_,rfl⟩:=h;intro q hq e;rw[KH]at hq;subst hq;dsimp only at e;rw[e,h0]at hb;cases hb
  ·cases h
 ·exact Qjs h0 h
 ·cases h
theorem Qtr(h0:ob k= .none){v:AV}(hk:v≠ .one (.bptr k 0)):Qe8 (QeX ob k cs0) v=Qe8 ob v:=by
 unfold Qe8;split
 ·rename_i id
  rw[QaD fun e=>hk (by rw[e])]
 ·rfl
theorem Qxe{T:QS}{d:Nat}{fr:Bool}{f:FuncId}{vs:List AV}(h0:ob k= .none)(hf:vs.any (QjF ob)=false)(hne:∀v∈vs,v≠ .one (.bptr k 0)):QgB T d (QeX ob k cs0) fr f vs=QgB T d ob fr f vs:=by
 unfold QgB;cases T.ct f with
 | none=>rfl
 | some c=>
  cases vs with
  | nil=>rfl
  | cons v0 vr=>
   simp only[List.any_cons,Kt]at hf
   have h1:=hne v0 (by simp)
   simp only[Qu6 h0 h1,Qc8 h0 hf.2 fun x hx=>hne x (by simp[hx]),QvT h0 h1,Qtr h0 h1]
theorem Qw9{T:QS}{d:Nat}{fr:Bool}{f:FuncId}{vs:List AV}(h0:ob k= .none)(hf:vs.any (QjF ob)=false)(hne:∀v∈vs,v≠ .one (.bptr k 0)):Qhz T d (QeX ob k cs0) fr f vs=Qhz T d ob fr f vs:=by
 unfold Qhz;cases T.ct f with
 | none=>rfl
 | some c=>
  cases vs with
  | nil=>rfl
  | cons v0 vr=>
   simp only[List.any_cons,Kt]at hf
   simp only[Qv5 h0,Qrr h0 hf.1,Qc8 h0 hf.2 fun x hx=>hne x (by simp[hx])]
theorem Qhc:∀{vs vi:List AV} {v0:AV},Qfb vs=some (vi,v0)→(∀x∈vi,x∈vs)∧v0∈vs∧∀x∈vs,x∈vi∨x=v0
 | [],vi,v0,h=>by cases h
 | [x],vi,v0,h=>by
  simp only[Qfb,KA,KC]at h
  obtain⟨rfl,rfl⟩:=h;simp
 | x::y::r,vi,v0,h=>by
  rw[Qfb]at h;split at h
  ·rename_i a b hs
   simp only[KA,KC]at h
   obtain⟨rfl,rfl⟩:=h;obtain⟨h1,h2,h3⟩:=Qhc hs;refine⟨fun z hz=>?_,YP _ h2,fun z hz=>?_⟩
   ·rcases KI.1 hz with rfl|hz
    ·simp
    ·exact YP _ (h1 z hz)
   ·rcases KI.1 hz with rfl|hz
    ·simp
    ·rcases h3 z hz with h|h
     ·exact .inl (YP _ h)
     ·exact .inr h
  ·cases h
theorem Qxc{T:QS}{d:Nat}{fr:Bool}{f:FuncId}{vs:List AV}(h0:ob k= .none)(hf:vs.any (QjF ob)=false)(hne:∀v∈vs,v≠ .one (.bptr k 0)):QhA T d (QeX ob k cs0) fr f vs=QhA T d ob fr f vs:=by
 unfold QhA;cases T.ct f with
 | none=>rfl
 | some c=>
  cases hs:Qfb vs with
  | none=>rfl
  | some z=>
   obtain⟨vi,v0⟩:=z;obtain⟨h1,h2,_⟩:=Qhc hs;rw[List.any_eq_false]at hf;have hf1:vi.any (QjF ob)=false:=List.any_eq_false.2 fun x hx=>hf x (h1 x hx)
   have hf0:QjF ob v0=false:=by simpa using hf v0 h2
   simp only[Qv5 h0,Qrr h0 hf0,Qc8 h0 hf1 fun x hx=>hne x (h1 x hx)]
theorem QhW(h0:ob k= .none){row:Nat}:∀{l:List (D ⊕ (Nat×List (List D)×Nat))} {n:Nat},k.2<n→QjO (QeX ob k cs0) row n l=QjO ob row n l
 | [],n,h=>rfl
 | .inl _::l,n,h=>@QhW h0 row l n h
 | .inr _::l,n,h=>by
  have e:(row,n)≠k:=fun e=>by rw[←e]at h;exact Nat.lt_irrefl _ h
  simp only[QjO,QaD e,@QhW h0 row l (n+1) (by omega)]
theorem QyI(h0:ob k= .none)(hk0:k.2=0){row:Nat}{l:List (D ⊕ (Nat×List (List D)×Nat))}:QjY (QeX ob k cs0) row l=QjY ob row l:=by
 unfold QjY;rw[QhW h0 (by omega)]
theorem Qrh{row:Nat}{l:List (D ⊕ (Nat×List (List D)×Nat))}:10≤QjY ob row l:=by
 unfold QjY;split<;>omega
theorem Qxf{T:QS}{d:Nat}{fr:Bool}{f:FuncId}{vs:List AV}(h0:ob k= .none)(hk0:k.2=0)(hf:vs.any (QjF ob)=false)(hne:∀v∈vs,v≠ .one (.bptr k 0)):QhB T d (QeX ob k cs0) fr f vs=QhB T d ob fr f vs:=by
 unfold QhB;cases T.ct f with
 | none=>rfl
 | some c=>
  cases vs with
  | nil=>rfl
  | cons v0 vr=>
   simp only[List.any_cons,Kt]at hf
   cases v0 with
   | one cc=>
    cases cc with
    | bptr id off=>
     cases off with
     | zero=>
      have e:id≠k:=fun e=>hne _ (List.mem_cons_self ..) (by rw[e])
      simp only[QaD e,QlM h0,Qc8 h0 hf.2 fun x hx=>hne x (by simp[hx]),QyI h0 hk0,QhW h0 (Nat.lt_of_lt_of_le (show k.2<10 by omega) Qrh)]
     | succ=>rfl
    | _=>rfl
   | _=>rfl
theorem Qgz{T:QS}{d:Nat}{ob:Id→Ob}{fr:Bool}{f:FuncId}{vs:List AV}{ob':Id→Ob}(hf:vs.any (QjF ob')=false):QjL T d ob fr f vs=none:=by
 unfold QjL;cases vs with
 | nil=>rfl
 | cons v0 vr=>
  simp only[List.any_cons,Kt]at hf
  cases v0 with
  | one c=>cases c<;>first|rfl|(cases hf.1;done)
  | _=>rfl
theorem QrR{T:QS}{d:Nat}{fr:Bool}{f:FuncId}{vs:List AV}(h0:ob k= .none)(hk0:k.2=0)(hf:vs.any (QjF ob)=false){p v us}
  (hs:(match QgB T d ob fr f vs with
   | some r=>some r
   | none=>match Qhz T d ob fr f vs with
    | some r=>some r
    | none=>match QhA T d ob fr f vs with
     | some r=>some r
     | none=>match QhB T d ob fr f vs with
      | some r=>some r
      | none=>QjL T d ob fr f vs)=some (p,v,us)):
  (match QgB T d (QeX ob k cs0) fr f vs with
   | some r=>some r
   | none=>match Qhz T d (QeX ob k cs0) fr f vs with
    | some r=>some r
    | none=>match QhA T d (QeX ob k cs0) fr f vs with
     | some r=>some r
     | none=>match QhB T d (QeX ob k cs0) fr f vs with
      | some r=>some r
      | none=>QjL T d (QeX ob k cs0) fr f vs)=some (p,v,us)∧∀q∈us,q.1≠k∧q.2≠ .none:=by
 have hne:(∀v∈vs,v≠ .one (.bptr k 0))∧∀q∈us,q.1≠k∧q.2≠ .none:=by
  split at hs
  ·rename_i r hr
   obtain rfl:=K0 hs;unfold QgB at hr;split at hr
   ·split at hr
    ·split at hr
     ·split at hr
      ·rename_i v0 vr _ a0 as hm has
       split at hr
       ·split at hr
        ·rename_i hset
         simp only[KA,KC]at hr
         obtain⟨_,_,rfl⟩:=hr;refine⟨fun x hx=>?_,fun q hq=>⟨QvU h0 hset q hq,QnM hset q hq⟩⟩
         rcases KI.1 hx with rfl|hx
         ·exact Qu7 h0 hm
         ·exact Qc9 h0 has x hx
        ·cases hr
       ·cases hr
      ·cases hr
     ·cases hr
    ·cases hr
   ·cases hr
  ·rename_i hn1;clear hn1
   split at hs
   ·rename_i r hr
    obtain rfl:=K0 hs;unfold Qhz at hr;split at hr
    ·split at hr
     ·split at hr
      ·split at hr
       ·rename_i v0 vr _ l dp us1 as hm has
        split at hr
        ·simp only[KA,KC]at hr
         obtain⟨_,_,rfl⟩:=hr;simp only[List.any_cons,Kt]at hf
         obtain⟨t1,t2⟩:=Qrs h0 hm;refine⟨fun x hx=>?_,fun q hq=>⟨(t2 q hq).resolve_right (by rw[hf.1];decide),Qic hm q hq⟩⟩
         rcases KI.1 hx with rfl|hx
         ·exact t1
         ·exact Qc9 h0 has x hx
        ·cases hr
       ·cases hr
      ·cases hr
     ·cases hr
    ·cases hr
   ·rename_i hn2;clear hn2
    split at hs
    ·rename_i r hr
     obtain rfl:=K0 hs;unfold QhA at hr;split at hr
     ·split at hr
      ·split at hr
       ·rename_i vi v0 hsp
        split at hr
        ·rename_i l dp us1 as hm has
         split at hr
         ·simp only[KA,KC]at hr
          obtain⟨_,_,rfl⟩:=hr;obtain⟨m1,m2,m3⟩:=Qhc hsp;have hf0:QjF ob v0=false:=by rw[List.any_eq_false]at hf;simpa using hf v0 m2
          obtain⟨t1,t2⟩:=Qrs h0 hm;refine⟨fun x hx=>?_,fun q hq=>⟨(t2 q hq).resolve_right (by rw[hf0];decide),Qic hm q hq⟩⟩
          rcases m3 x hx with hx|rfl
          ·exact Qc9 h0 has x hx
          ·exact t1
         ·cases hr
        ·cases hr
       ·cases hr
      ·cases hr
     ·cases hr
    ·rename_i hn3;clear hn3
     split at hs
     ·rename_i r hr
      obtain rfl:=K0 hs;unfold QhB at hr;split at hr
      ·split at hr
       ·split at hr
        ·rename_i id vr
         split at hr
         ·rename_i cs hb
          split at hr
          ·rename_i l as hm has
           split at hr
           ·rename_i ns _
            simp only[KA,KC]at hr
            obtain⟨_,_,rfl⟩:=hr;have hid:id≠k:=fun e=>by rw[e,h0]at hb;cases hb
            refine⟨fun x hx=>?_,fun q hq=>?_⟩
            ·rcases KI.1 hx with rfl|hx
             ·intro e
              simp only[AV.one.injEq,QI.bptr.injEq,and_true]at e
              exact hid e
             ·exact Qc9 h0 has x hx
            ·rcases KG.1 hq with hq|hq
             ·obtain⟨i,hi,rfl⟩:=KQ.1 hq
              have key:∀{cs:List QI} {l},QjT ob cs=some l→∀i∈Qew cs,i≠k:=by
               intro cs;induction cs with
               | nil=>intro l _ i hi;cases hi
               | cons c r ih=>
                intro l hm i hi;cases c with
                | d=>
                 simp only[QjT]at hm
                 split at hm
                 ·rename_i h1;exact ih h1 i hi
                 ·cases hm
                | n=>
                 simp only[QjT]at hm
                 split at hm
                 ·rename_i h1;exact ih h1 i hi
                 ·cases hm
                | osl j=>
                 simp only[QjT]at hm
                 split at hm
                 ·rename_i h1 h2
                  simp only[Qew,KI]at hi
                  rcases hi with rfl|hi
                  ·intro e;rw[e,h0]at h1;cases h1
                  ·exact ih h2 i hi
                 ·cases hm
                | _=>simp[QjT]at hm
              exact⟨key hm i hi,by simp⟩
             ·rcases KG.1 hq with hq|hq
              ·have key:∀{l:List (D ⊕ (Nat×List (List D)×Nat))} {n:Nat},1≤n→∀q∈Qdo 1 id.1 n l,q.1≠k∧q.2≠ .none:=by
                intro l;induction l with
                | nil=>intro n _ q hq;cases hq
                | cons z l ih=>
                 intro n hn q hq;cases z with
                 | inl=>exact ih hn q hq
                 | inr z=>
                  obtain⟨a,b,c⟩:=z;simp only[Qdo,KI]at hq
                  rcases hq with rfl|hq
                  ·exact⟨fun e=>by rw[←e]at hk0;dsimp only at hk0;omega,by simp⟩
                  ·exact ih (by omega) q hq
               exact key (KF (by omega) Qrh) q hq
              ·rw[KH]at hq
               subst hq;exact⟨hid,by simp⟩
           ·cases hr
          ·cases hr
         ·cases hr
        ·cases hr
       ·cases hr
      ·cases hr
     ·rw[Qgz hf]at hs;cases hs
 refine⟨?_,hne.2⟩
 rw[←hs,Qxe h0 hf hne.1,Qw9 h0 hf hne.1,Qxc h0 hf hne.1,Qxf h0 hk0 hf hne.1,Qgz hf,Qgz hf]
theorem QA5(hc0:cs0.any QcS=false)(h0:ob k= .none){v:AV}(h:QjF ob v=false):QjF (QeX ob k cs0) v=false:=by
 cases v with
 | one c=>
  cases c with
  | bptr id off=>
   cases off with
   | zero=>
    simp only[QjF]at h ⊢
    by_cases e:id=k
    ·subst e;rw[Qbn];exact hc0
    ·rw[QaD e];exact h
   | succ=>rfl
  | _=>exact h
 | _=>exact h
theorem Qzq{α:Type}{T:QS}(h6:T.bx 996=true)(hc0:cs0.any QcS=false)(h0:ob k= .none){vs:List AV}{r r':Option α}{q:α}(h:frG T ob vs r=some q)(hr:r=some q→r'=some q):frG T (QeX ob k cs0) vs r'=some q:=by
 obtain⟨e1,e2⟩:=QdJ h;have e3:=e2 h6
 unfold frG;rw[if_pos h6,if_neg,hr e1];rw[KS,List.any_eq_false];rw[List.any_eq_false]at e3;intro x hx;have:=QA5 hc0 h0 (show QjF ob x=false by simpa using e3 x hx)
 rw[this];decide
theorem Qnq{T:QS}{d:Nat}{ρ:Operand→AV}{fr im:Bool}{op:Op}(hop:QcB op=true)(h6:T.bx 996=true)(hc0:cs0.any QcS=false)(h0:ob k= .none)(hk0:k.2=0){p v us}(hs:opF T d ρ ob fr im op=some (p,v,us)):
  opF T d ρ (QeX ob k cs0) fr im op=some (p,v,us)∧∀q∈us,q.1≠k∧q.2≠ .none:=by
 unfold QcB at hop;split at hop
 ·rename_i f as ts
  unfold opF at hs ⊢;cases hc:cls T (.call ⟨.value (.func f),as,ts⟩)with
  | P=>rw[hc]at hs;simp only[opP]at hs;cases hs
  | R=>
   rw[hc]at hs;dsimp only at hs ⊢;cases hR:opR T d ρ ob fr im (.call ⟨.value (.func f),as,ts⟩)with
   | none=>rw[hR]at hs;cases hs
   | some z=>
    rw[hR]at hs;have e:opR T d ρ (QeX ob k cs0) fr im (.call ⟨.value (.func f),as,ts⟩)=some z:=by
     unfold opR at hR ⊢;dsimp only at hR ⊢;split at hR
     ·rename_i p0 v0 hcf
      have hnf:=(QdJ hcf).2 h6
      rw[Qzq h6 hc0 h0 hcf fun h=>Qxb h0 hnf h]
      exact hR
     ·cases hR
    rw[e];refine⟨hs,?_⟩
    simp only[KA,KC]at hs
    rw[←hs.2.2];simp
  | M=>
   rw[hc]at hs;dsimp only at hs ⊢;unfold opM at hs ⊢;dsimp only at hs ⊢;obtain⟨e1,e2⟩:=QdJ hs;obtain⟨e3,e4⟩:=QbH e1;obtain⟨g1,g2⟩:=QrR (cs0:=cs0) h0 hk0 (e2 h6) e3;refine⟨Qzq h6 hc0 h0 hs fun _=>?_,g2⟩
   rw[g1];rw[e3]at e1;exact e1
 ·cases hop
end
theorem QkU{k:Id}{o0:Ob}:∀{us:List (Id×Ob)} {ob:Id→Ob},(∀q∈us,q.1≠k)→Q7 (Q7 ob [(k,o0)]) us=Q7 (Q7 ob us) [(k,o0)]
 | [],ob,_=>rfl
 | (i,o)::us,ob,h=>by
  have hi:i≠k:=h (i,o) (by simp)
  have e:(fun id=>if id=i then o else Q7 ob [(k,o0)] id)=Q7 (fun id=>if id=i then o else ob id) [(k,o0)]:=by
   funext id
   simp only[Q7]
   by_cases e1:id=i
   ·subst e1;simp[hi]
   ·simp[e1]
  show Q7 (fun id=>if id=i then o else Q7 ob [(k,o0)] id) us=Q7 (Q7 (fun id=>if id=i then o else ob id) us) [(k,o0)]
  rw[e];exact QkU fun q hq=>h q (by simp[hq])
theorem Qtd{T:QS}{o:Oper}{s:St}{ρ:Operand→AV}{im:Bool}{t:TypeId}{p v us}(ho:o.op= .alloc t)(h:opF T (o.dst.getD 0) ρ s.ob (Qr s o.dst) im o.op=some (p,v,us)):∃zs:List Value,us=[((o.dst.getD 0,0),.box (zs.map fun v=> .d (.v v)))]:=by
 have hc:cls T o.op= .M:=by rw[ho];rfl
 simp only[opF,hc]at h
 rw[ho]at h;unfold opM at h;dsimp only at h;split at h
 ·simp only[KA,KC]at h
  exact⟨_,h.2.2.symm⟩
 ·cases h
theorem QpG{T:QS}{d:Nat}{ob:Id→Ob}{fr:Bool}{f:FuncId}{vs:List AV}{p v us}(hr:QgB T d ob fr f vs=some (p,v,us)):∀q∈us,q.2≠ .none:=by
 unfold QgB at hr;split at hr
 ·split at hr
  ·split at hr
   ·split at hr
    ·split at hr
     ·split at hr
      ·rename_i hset
       simp only[KA,KC]at hr
       obtain⟨_,_,rfl⟩:=hr;exact QnM hset
      ·cases hr
     ·cases hr
    ·cases hr
   ·cases hr
  ·cases hr
 ·cases hr
theorem Qxa{T:QS}{d:Nat}{ob:Id→Ob}{fr:Bool}{f:FuncId}{vs:List AV}{p v us}(hr:Qhz T d ob fr f vs=some (p,v,us)):∀q∈us,q.2≠ .none:=by
 unfold Qhz at hr;split at hr
 ·split at hr
  ·split at hr
   ·split at hr
    ·rename_i v0 vr _ l dp us1 as hm has
     split at hr
     ·simp only[KA,KC]at hr
      obtain⟨_,_,rfl⟩:=hr;exact Qic hm
     ·cases hr
    ·cases hr
   ·cases hr
  ·cases hr
 ·cases hr
theorem Qxd{T:QS}{d:Nat}{ob:Id→Ob}{fr:Bool}{f:FuncId}{vs:List AV}{p v us}(hr:QhA T d ob fr f vs=some (p,v,us)):∀q∈us,q.2≠ .none:=by
 unfold QhA at hr;split at hr
 ·split at hr
  ·split at hr
   ·split at hr
    ·rename_i l dp us1 as hm has
     split at hr
     ·simp only[KA,KC]at hr
      obtain⟨_,_,rfl⟩:=hr;exact Qic hm
     ·cases hr
    ·cases hr
   ·cases hr
  ·cases hr
 ·cases hr
theorem Qxg{T:QS}{d:Nat}{ob:Id→Ob}{fr:Bool}{f:FuncId}{vs:List AV}{p v us}(hr:QhB T d ob fr f vs=some (p,v,us)):∀q∈us,q.2≠ .none:=by
 unfold QhB at hr;split at hr
 ·split at hr
  ·split at hr
   ·split at hr
    ·split at hr
     ·split at hr
      ·simp only[KA,KC]at hr
       obtain⟨_,_,rfl⟩:=hr;intro q hq;rcases KG.1 hq with hq|hq
       ·obtain⟨i,_,rfl⟩:=KQ.1 hq
        simp
       ·rcases KG.1 hq with hq|hq
        ·have key:∀{row:Nat} {l:List (D ⊕ (Nat×List (List D)×Nat))} {n:Nat},∀q∈Qdo 1 row n l,q.2≠ .none:=by
          intro row l;induction l with
          | nil=>intro n q hq;cases hq
          | cons z l ih=>
           intro n q hq;cases z with
           | inl=>exact ih q hq
           | inr z=>
            obtain⟨a,b,c⟩:=z;simp only[Qdo,KI]at hq
            rcases hq with rfl|hq
            ·simp
            ·exact ih q hq
         exact key q hq
        ·rw[KH]at hq
         subst hq;simp
      ·cases hr
     ·cases hr
    ·cases hr
   ·cases hr
  ·cases hr
 ·cases hr
theorem Qw8{T:QS}{d:Nat}{ob:Id→Ob}{fr:Bool}{f:FuncId}{vs:List AV}{p v us}(hr:QjL T d ob fr f vs=some (p,v,us)):∀q∈us,q.2≠ .none:=by
 unfold QjL at hr;split at hr
 ·split at hr
  ·rename_i h1
   split at hr
   ·rename_i h2
    simp only[KA,KC]at hr
    obtain⟨_,_,rfl⟩:=hr;intro q hq;rcases KG.1 hq with hq|hq
    ·unfold Qmt at h1
     split at h1
     ·split at h1
      ·simp only[KA,KC]at h1
       rw[←h1.2,KH]at hq;subst hq;simp
      ·cases h1
     ·cases h1
    ·exact QpG h2 q hq
   ·cases hr
  ·cases hr
 ·cases hr
theorem Qwb{id:Id}:∀{us:List (Id×Ob)} {ob:Id→Ob},(∀q∈us,q.2≠ .none)→Q7 ob us id= .none→ob id= .none
 | [],ob,_,h=>h
 | (i,o)::us,ob,hn,h=>by
  have:=Qwb (us:=us) (fun q hq=>hn q (by simp[hq])) h
  split at this
  ·exact absurd this (hn (i,o) (by simp))
  ·exact this
theorem Qjf{T:QS}{d:Nat}{ρ:Operand→AV}{ob:Id→Ob}{fr im:Bool}{op:Op}(hop:QcB op=true){p v us}(hs:opF T d ρ ob fr im op=some (p,v,us)){id:Id}(h:Q7 ob us id= .none):ob id= .none:=by
 refine Qwb ?_ h
 unfold QcB at hop;split at hop
 ·rename_i f as ts
  by_cases hc:cls T (.call ⟨.value (.func f),as,ts⟩)= .M
  ·unfold opF at hs
   rw[hc]at hs;dsimp only at hs;unfold opM at hs;dsimp only at hs;have e3:=(QbH (QdJ hs).1).1
   split at e3
   ·rename_i hr;obtain rfl:=K0 e3;exact QpG hr
   ·split at e3
    ·rename_i hr;obtain rfl:=K0 e3;exact Qxa hr
    ·split at e3
     ·rename_i hr;obtain rfl:=K0 e3;exact Qxd hr
     ·split at e3
      ·rename_i hr;obtain rfl:=K0 e3;exact Qxg hr
      ·exact Qw8 e3
  ·rw[QkH hc hs];simp
 ·cases hop
theorem Qwz{T:QS}{ops:Array Oper}{x y:Oper}(ha:x.apart ops y=true)(hc:QEU T x y=true){K:St→Prop}{s:St}
  (H:Qcv (F1 T ops x s) fun v us=>Qcv (F1 T ops y (s.put x.dst v us)) fun u vs=>K ((s.put x.dst v us).put y.dst u vs)):
  Qcv (F1 T ops y s) fun v us=>Qcv (F1 T ops x (s.put y.dst v us)) fun u vs=>K ((s.put y.dst v us).put x.dst u vs):=by
 obtain⟨h1,h2,h3⟩:=Oper.apart_spec ha;have hdst:∀d,y.dst=some d→x.dst≠some d:=fun d hy hx=>h2 d hx hy
 unfold QEU at hc;split at hc;rotate_left
 ·cases hc
 rename_i t2 e2;rw[KB,KB]at hc;obtain⟨hcf,h6,hgd⟩:=hc;rw[KB,Option.isNone_iff_eq_none,Option.isNone_iff_eq_none]at hgd;obtain⟨hgd,hgy⟩:=hgd;cases hx:F1 T ops x s with
 | none=>rw[hx]at H;exact H.elim
 | some r=>
  obtain⟨p,v,us⟩:=r;rw[hx]at H;obtain⟨hp,H⟩:=H;have hxo:opF T (x.dst.getD 0) (rho s) s.ob (Qr s x.dst) (T.im (x.dst.getD 0)) x.op=some (p,v,us):=by
   unfold F1 at hx;have:gOf ops s x=some none:=by unfold gOf;rw[hgd]
   rw[this]at hx;exact hx
  cases hy:F1 T ops y (s.put x.dst v us)with
  | none=>rw[hy]at H;exact H.elim
  | some r=>
   obtain⟨q,u,vs⟩:=r;rw[hy]at H;obtain⟨hq,H⟩:=H;have hcM:cls T y.op= .M:=by rw[e2];rfl
   have hyo:opF T (y.dst.getD 0) (rho (s.put x.dst v us)) (s.put x.dst v us).ob (Qr (s.put x.dst v us) y.dst) (T.im (y.dst.getD 0)) y.op=some (q,u,vs):=by
    unfold F1 at hy;have:gOf ops (s.put x.dst v us) y=some none:=by unfold gOf;rw[hgy]
    rw[this]at hy;exact hy
   obtain⟨o0,hvs,h0'⟩:=Qin e2 hyo hq;obtain⟨zs,hzs⟩:=Qtd e2 hyo;have ho0:o0= .box (zs.map fun v=> .d (.v v)):=by
    rw[hvs]at hzs;simp only[YO,KC,and_true,true_and]at hzs
    exact hzs
   subst ho0;rw[St.put_ob]at h0';have h0:s.ob (y.dst.getD 0,0)= .none:=Qjf hcf hxo h0'
   have hfr:Qr (s.put x.dst v us) y.dst=true:=by
    simp only[opF,hcM]at hyo
    rw[e2]at hyo;unfold opM at hyo;dsimp only at hyo;split at hyo
    ·simp only[KA,KC]at hyo
     rw[hyo.1];exact hq
    ·cases hyo
   have hfr2:Qr s y.dst=true:=by
    cases hd:y.dst with
    | none=>rw[hd]at hfr;cases hfr
    | some d=>
     rw[hd]at hfr;simp only[Qr,KB]at hfr ⊢
     obtain⟨⟨⟨⟨f1,f2⟩,f3⟩,f4⟩,f5⟩:=hfr;rw[QD _ _ _ _ _ (hdst d hd)]at f1;have key:∀j,((s.put x.dst v us).ob (d,j)).isNone=true→(s.ob (d,j)).isNone=true:=fun j hj=>by
      rw[St.put_ob]at hj;have:Q7 s.ob us (d,j)= .none:=by cases e:Q7 s.ob us (d,j)<;>simp_all[Ob.isNone]
      rw[Qjf hcf hxo this];rfl
     exact⟨⟨⟨⟨f1,key 0 f2⟩,key 1 f3⟩,key 2 f4⟩,key 3 f5⟩
   have hyS:F1 T ops y s=some (q,u,vs):=by
    unfold F1;have:gOf ops s y=some none:=by unfold gOf;rw[hgy]
    rw[this];dsimp only;rw[hfr2];rw[hfr]at hyo;simp only[opF,hcM]at hyo ⊢
    rw[e2]at hyo ⊢;exact hyo
   have hc0:(zs.map fun v=>QI.d (.v v)).any QcS=false:=by
    rw[List.any_eq_false];intro c hc;obtain⟨z,_,rfl⟩:=KQ.1 hc;simp[QcS]
   obtain⟨g1,g2⟩:=Qnq (cs0:=zs.map fun v=> .d (.v v)) hcf h6 hc0 h0 rfl hxo
   have hob:(s.put y.dst u vs).ob=QeX s.ob (y.dst.getD 0,0) (zs.map fun v=> .d (.v v)):=by
    rw[St.put_ob,hvs];rfl
   have hfx:Qr (s.put y.dst u vs) x.dst=Qr s x.dst:=by
    cases hd:x.dst with
    | none=>rfl
    | some d=>
     have hne:y.dst≠some d:=fun e=>hdst d e hd
     have hk:∀j,(s.put y.dst u vs).ob (d,j)=s.ob (d,j):=fun j=>by
      rw[hob];refine QaD fun e=>?_
      simp only[KC]at e
      cases hd2:y.dst with
      | none=>rw[hd2]at hfr2;cases hfr2
      | some d2=>
       rw[hd2]at e;exact hne (by rw[hd2,e.1];rfl)
     simp only[Qr,QD _ _ _ _ _ hne,hk]
   have hxS:F1 T ops x (s.put y.dst u vs)=some (p,v,us):=by
    unfold F1;have:gOf ops (s.put y.dst u vs) x=some none:=by unfold gOf;rw[hgd]
    rw[this];dsimp only;rw[hfx,hob,Qge (ρ:=rho (s.put y.dst u vs)) (ρ':=rho s) _ _ _ _ _ fun z hz=>Qgj fun t ht=>QD _ _ _ _ _ fun e=>h3 t e (by
     subst ht;exact YH _ (YY.2 ⟨.tmp t,by simpa using hz,rfl⟩))]
    exact g1
   rw[hyS];refine⟨hq,?_⟩
   simp only
   rw[hxS];refine⟨hp,?_⟩
   have hst:(s.put y.dst u vs).put x.dst v us=(s.put x.dst v us).put y.dst u vs:=by
    have ho:Q7 (Q7 s.ob vs) us=Q7 (Q7 s.ob us) vs:=by
     rw[hvs];exact QkU fun q hq=>(g2 q hq).1
    cases hxd:x.dst with
    | none=>cases y.dst<;>simp only[St.put,ho]
    | some d=>
     cases hyd:y.dst with
     | none=>simp only[St.put,ho]
     | some e=>
      have hde:d≠e:=fun he=>hdst e hyd (by rw[hxd,he])
      simp only[St.put,ho,Qrx s.sl _ _ hde]
   show K ((s.put y.dst u vs).put x.dst v us)
   rw[hst];exact H
theorem Qz4{T:QS}{ops:Array Oper}{x y:Oper}(h:Quy T ops x y=true){K:St→Prop}{s:St}
  (H:Qcv (F1 T ops x s) fun v us=>Qcv (F1 T ops y (s.put x.dst v us)) fun u vs=>K ((s.put x.dst v us).put y.dst u vs)):
  Qcv (F1 T ops y s) fun v us=>Qcv (F1 T ops x (s.put y.dst v us)) fun u vs=>K ((s.put y.dst v us).put x.dst u vs):=by
 unfold Quy at h;rw[Kq]at h;rcases h with h|h
 rotate_left
 ·rw[KB,Kq]at h
  exact Qwy h.1 h.2 H
 rw[Kq]at h;rcases h with h|h
 ·exact Qwx h H
 ·rw[KB,Kq]at h
  obtain⟨ha,hc⟩:=h;rcases hc with hc|hc
  rotate_left
  ·exact Qwz ha hc H
  obtain⟨h1,h2,h3⟩:=Oper.apart_spec ha;have hc':QuG x.op=true∧∃t2,y.op= .alloc t2:=by
   unfold QFP at hc;split at hc
   ·rename_i e2;exact⟨hc,_,e2⟩
   ·cases hc
  obtain⟨e1,t2,e2⟩:=hc';have hdst:∀d,y.dst=some d→x.dst≠some d:=fun d hy hx=>h2 d hx hy
  cases hx:F1 T ops x s with
  | none=>rw[hx]at H;exact H.elim
  | some r=>
   obtain⟨p,v,us⟩:=r;rw[hx]at H;obtain⟨hp,H⟩:=H;have hus:us=[]:=Qn4 (Qsk e1) hx
   subst hus;have ey:F1 T ops y (s.put x.dst v [])=F1 T ops y s:=
    QcP y (fun t ht=>QD _ _ _ _ _ fun e=>h1 t e ht) (fun d hd=>QD _ _ _ _ _ (hdst d hd)) (.inr (by rw[St.put_ob];rfl))
   rw[ey]at H;cases hy:F1 T ops y s with
   | none=>rw[hy]at H;exact H.elim
   | some r=>
    obtain⟨q,u,vs⟩:=r;rw[hy]at H;obtain⟨hq,H⟩:=H;have ex:F1 T ops x (s.put y.dst u vs)=some (p,v,[]):=by
     rcases QwG e2 hy hq with hvs|⟨o0,hvs,h0⟩
     ·rw[QcP x (fun t ht=>QD _ _ _ _ _ fun e=>h3 t e ht) (fun d hd=>QD _ _ _ _ _ fun e=>hdst d e hd) (.inr (by rw[St.put_ob,hvs];rfl))]
      exact hx
     exact QrB x (k:=(y.dst.getD 0,0)) (o0:=o0) e1 (fun t ht=>QD _ _ _ _ _ fun e=>h3 t e ht) h0 (by rw[St.put_ob,hvs];rfl) hx
    refine⟨hq,?_⟩
    simp only
    rw[ex];refine⟨hp,?_⟩
    show K ((s.put y.dst u vs).put x.dst v [])
    rw[show(s.put y.dst u vs).put x.dst v []=(s.put x.dst v []).put y.dst u vs from(St.put_comm s h2 (.inl rfl)).symm]
    exact H
theorem Qgv{r:Option (Prop×AV×List (Id×Ob))}{K K':AV→List (Id×Ob)→Prop}(h:∀v us,K v us→K' v us)(H:Qcv r K):Qcv r K':=by
 unfold Qcv at *;split at H
 ·exact⟨H.1,h _ _ H.2⟩
 ·exact H.elim
theorem Qpq{T:QS}{ops:Array Oper}{Q:St→Prop}{x:Oper}{post:List Oper}:∀(pre:List Oper) (_:∀y∈pre,Quy T ops y x=true) (s:St),
  TL T ops Q (pre++x::post) s→TL T ops Q (x::(pre++post)) s
 | [],_,_,H=>H
 | y::pre,hi,s,H=>by
  have H1:Qcv (F1 T ops y s) fun v us=>TL T ops Q (x::(pre++post)) (s.put y.dst v us):=
   Qgv (fun v us h=>Qpq pre (fun z hz=>hi z (by simp[hz])) _ h) H
  exact Qz4 (K:=TL T ops Q (pre++post)) (hi y (by simp)) H1
end
variable {hd:Hid}
def Qj2 [Hid] (X:Ctx)(T:QS)(ops:Array Oper)(o:Oper):Prop:=
 ∀{s p v us},F1 T ops o s=some (p,v,us)→p→∀{a w},QhJ X s a w→∀(K:Act→World→Prop) (Q:Exit→Act→World→Prop),
  (∀u w',QhJ X (s.put o.dst v us) (a.put o.dst u) w'→K (a.put o.dst u) w')→
  if Region.wanted o (yielded ops a.tmps)then o.wp X.P a w K Q else K (a.put o.dst undef) w
section
variable {X:Ctx} {T:QS} {ops:Array Oper} {Q:St→Prop} {Q':Exit→Act→World→Prop}
theorem Qri{i:Nat}{o:Oper}(hi:ops[i]? =some o)(hS:Qj2 X T ops o){s:St}{a:Act}{w:World}{K:Act→World→Prop}{N:AV→List (Id×Ob)→Prop}
  (H:Qcv (F1 T ops o s) N) (c:QhJ X s a w) (hK:∀v us u w',N v us→QhJ X (s.put o.dst v us) (a.put o.dst u) w'→K (a.put o.dst u) w'):wpOp X.P ops Q' i K a w:=by
 unfold wpOp;simp only[hi]
 cases hf:F1 T ops o s with
 | none=>rw[hf]at H;exact H.elim
 | some r=>
  obtain⟨p,v,us⟩:=r;rw[hf]at H;have h:=hS hf H.1 c K Q' (fun u w' h=>hK v us u w' H.2 h)
  split
  ·rename_i hw;simp only[hw,if_true]at h;exact .inl h
  ·rename_i hw;simp only[hw]at h;exact h
theorem Qns(hS:∀o∈ops.toList,Qj2 X T ops o)(hQ:∀s a w,Q s→QhJ X s a w→Q' .normal a w):∀(l:List Nat) (s:St) (a:Act) (w:World),
  (∀i∈l,i<ops.size)→TL T ops Q (l.filterMap (ops[·]?)) s→QhJ X s a w→wpOps X.P ops Q' l a w
 | [],s,a,w,_,H,c=>hQ s a w H c
 | i::l,s,a,w,hl,H,c=>by
  have hi:=hl i (by simp)
  have ho:ops[i]? =some ops[i]:=K4 hi
  rw[wpOps_cons];simp only[List.filterMap_cons,ho,TL]at H
  exact Qri ho (hS _ (by simp)) H c fun v us u w' hn hc=>Qns hS hQ l _ _ _ (fun j hj=>hl j (by simp[hj])) hn hc
def QhI(ops:Array Oper)(i:Nat):List Nat:=
 match ops[i]? with
 | some o=>(o.after.toList.filter (Region.binds .any)).map (·.on)
 | none=>[]
def Qwo(ops:Array Oper):Nat→List (List Nat)
 | 0=>[]
 | n+1=>Qwo ops n++[((QhI ops n).flatMap fun k=>k::(Qwo ops n).getD k []).eraseDups]
def QlV(T:QS)(ops:Array Oper):Bool:=
 let L:=Qwo ops ops.size
 (List.range ops.size).all fun i=>(QhI ops i).all (·<i)&&(List.range i).all fun k=>(L.getD i []).contains k||match ops[k]?,ops[i]? with
  | some x,some y=>Quy T ops x y
  | _,_=>false
theorem QhP(ops:Array Oper):∀n,(Qwo ops n).length=n
 | 0=>rfl
 | n+1=>by simp[Qwo,QhP ops n]
theorem QpO(ops:Array Oper):∀n i,i<n→(Qwo ops n).getD i []=((QhI ops i).flatMap fun k=>k::(Qwo ops i).getD k []).eraseDups
 | n+1,i,h=>by
  simp only[Qwo,KD]
  by_cases hi:i<n
  ·rw[List.getElem?_append_left (by rw[QhP];exact hi)]
   have:=QpO ops n i hi
   simp only[KD]at this
   exact this
  ·obtain rfl:i=n:=by omega
   rw[List.getElem?_append_right (by rw[QhP];exact KP _)]
   simp[QhP]
theorem QtQ(ops:Array Oper){L:Nat→Prop}(hlt:∀i,∀k∈QhI ops i,k<i)(hd:∀j,L j→∀k∈QhI ops j,L k):∀n i,i<n→(∀k∈QhI ops i,L k)→∀k∈(Qwo ops n).getD i [],L k:=by
 intro n i hin hp k hk;induction i using Nat.strongRecOn generalizing n with
 | _ i ih=>
  rw[QpO ops n i hin,List.mem_eraseDups,List.mem_flatMap]at hk;obtain⟨m,hm,hk⟩:=hk;rcases KI.1 hk with rfl|hk
  ·exact hp k hm
  ·exact ih m (hlt i m hm) i (hlt i m hm) (hd m (hp m hm)) hk
theorem QgZ{j:Nat}{listed:Array Bool}:j∈Region.ready .any ops listed↔listed.getD j true=false∧j<ops.size∧∀k∈QhI ops j,listed.getD k false=true:=by
 rw[mem_ready];constructor
 ·rintro⟨h0,o,ho,hall⟩
  refine⟨h0,(Kb.1 ho).1,fun k hk=>?_⟩
  simp only[QhI,ho,KQ,Ku]at hk
  obtain⟨e,⟨he,hb⟩,rfl⟩:=hk;exact hall e (by simpa using he) hb
 ·rintro⟨h0,hj,hall⟩
  have ho:ops[j]? =some ops[j]:=K4 hj
  refine⟨h0,ops[j],ho,fun e he hb=>hall e.on ?_⟩
  simp only[QhI,ho,KQ,Ku]
  exact⟨e,⟨by simpa using he,hb⟩,rfl⟩
def Qal(n:Nat)(listed:Array Bool):List Nat:=(List.range n).filter fun i=> !listed.getD i true
theorem Qtf(hS:∀o∈ops.toList,Qj2 X T ops o)(hO:QlV T ops=true)(hQ:∀s a w,Q s→QhJ X s a w→Q' .normal a w):∀(fuel:Nat) (listed:Array Bool) (s:St) (a:Act) (w:World),
  listed.size=ops.size→(∀j,listed.getD j false=true→∀k∈QhI ops j,listed.getD k false=true)→(Qal ops.size listed).length≤fuel→
  TL T ops Q ((Qal ops.size listed).filterMap (ops[·]?)) s→QhJ X s a w→wpAny X.P .any ops Q' fuel listed a w:=by
 have hlt:∀i,∀k∈QhI ops i,k<i:=by
  intro i k hk
  by_cases hi:i<ops.size
  ·simp only[QlV,Kg,List.mem_range,KB,KK]at hO
   exact(hO i hi).1 k hk
  ·simp[QhI,Array.getElem?_eq_none (Nat.le_of_not_lt hi)]at hk
 have hind:∀i k,i<ops.size→k<i→k∉(Qwo ops ops.size).getD i []→∀x y,ops[k]? =some x→ops[i]? =some y→Quy T ops x y=true:=by
  intro i k hi hk hno x y hx hy;simp only[QlV,Kg,List.mem_range,KB,Kq,Kz]at hO
  rcases(hO i hi).2 k hk with h|h
  ·exact absurd h hno
  ·simpa only[hx,hy]using h
 have first:∀(listed:Array Bool),Region.ready .any ops listed=[]→listed.size=ops.size→Qal ops.size listed=[]:=by
  intro listed hr hsz;cases hR:Qal ops.size listed with
  | nil=>rfl
  | cons i r=>
   exfalso
   have hmem:i∈Qal ops.size listed:=by rw[hR];simp
   have hi:i<ops.size∧listed.getD i true=false:=by simpa [Qal]using hmem
   have:i∈Region.ready .any ops listed:=by
    rw[QgZ];refine⟨hi.2,hi.1,fun k hk=>?_⟩
    have hki:=hlt i k hk
    cases hl:listed.getD k false with
    | true=>rfl
    | false=>
     have hk2:k∈Qal ops.size listed:=by
      simp only[Qal,Ku,List.mem_range]
      refine⟨by omega,?_⟩
      have:k<listed.size:=by omega
      simp[this]at hl ⊢
      exact hl
     have hp:(Qal ops.size listed).Pairwise (·<·):=(List.pairwise_lt_range).filter _
     rw[hR]at hp hk2;rcases KI.1 hk2 with rfl|h
     ·omega
     ·have:=(YZ.1 hp).1 k h;omega
   rw[hr]at this;cases this
 intro fuel;induction fuel with
 | zero=>
  intro listed s a w hsz _ hf H c;have hR:Qal ops.size listed=[]:=Kd (by omega)
  rw[hR]at H;refine⟨?_,hQ s a w H c⟩
  cases hr:Region.ready .any ops listed with
  | nil=>rfl
  | cons i r=>
   exfalso
   have hm:i∈Region.ready .any ops listed:=by rw[hr];simp
   rw[QgZ]at hm;have:i∈Qal ops.size listed:=by simp only[Qal,Ku,List.mem_range];exact⟨hm.2.1,by rw[hm.1];rfl⟩
   rw[hR]at this;cases this
 | succ fuel ih=>
  intro listed s a w hsz hd hf H c;refine⟨fun hr=>?_,fun i hi=>?_⟩
  ·rw[first listed hr hsz]at H
   exact hQ s a w H c
  ·rw[QgZ]at hi
   obtain⟨h0,hin,hpre⟩:=hi;have ho:ops[i]? =some ops[i]:=K4 hin
   have hmem:i∈Qal ops.size listed:=by simp only[Qal,Ku,List.mem_range];exact⟨hin,by rw[h0];rfl⟩
   obtain⟨pre,post,hsp⟩:=List.append_of_mem hmem;have hp:(Qal ops.size listed).Pairwise (·<·):=(List.pairwise_lt_range).filter _
   rw[hsp]at hp;have hlt1:∀k∈pre,k<i:=fun k hk=>(List.pairwise_append.1 hp).2.2 k hk i (by simp)
   have hlt2:∀k∈post,i<k:=(YZ.1 (List.pairwise_append.1 hp).2.1).1
   have hpn:∀k∈pre,listed.getD k true=false:=fun k hk=>by
    have:k∈Qal ops.size listed:=by rw[hsp];simp[hk]
    simp only[Qal,Ku]at this
    simpa using this.2
   have hnew:Qal ops.size (listed.setIfInBounds i true)=pre++post:=by
    have e1:Qal ops.size (listed.setIfInBounds i true)=(Qal ops.size listed).filter (· ≠i):=by
     simp only[Qal,List.filter_filter]
     refine List.filter_congr fun k hk=>?_
     by_cases hki:k=i
     ·subst hki;simp[hsz,hin]
     ·simp[Array.getElem?_setIfInBounds_ne (Ne.symm hki),hki]
    rw[e1,hsp,List.filter_append,List.filter_cons];simp only[ne_eq,not_true_eq_false,decide_false,KX,if_false]
    rw[List.filter_eq_self.2 (fun k hk=>by have:=hlt1 k hk;simp;omega),List.filter_eq_self.2 (fun k hk=>by have:=hlt2 k hk;simp;omega)]
   rw[hsp]at H;simp only[List.filterMap_append,List.filterMap_cons,ho]at H
   have H2:=Qpq (x:=ops[i]) _ (fun y hy=>by
    rw[YY]at hy;obtain⟨k,hk,hky⟩:=hy;refine hind i k hin (hlt1 k hk) (fun hc=>?_) y ops[i] hky ho
    have:=QtQ ops (L:=fun j=>listed.getD j false=true) hlt hd ops.size i hin hpre k hc
    have h2:=hpn k hk
    have hkl:k<listed.size:=by have:=hlt1 k hk;omega
    simp[hkl]at this h2
    rw[this]at h2;cases h2) s H
   refine Qri ho (hS _ (by simp)) H2 c fun v us u w' hn hc=>?_
   refine ih _ _ _ _ (by simp[hsz]) ?_ ?_ ?_ hc
   ·intro j hj k hk
    by_cases hji:j=i
    ·subst hji;exact getD_set_true (hpre k hk)
    ·have:listed.getD j false=true:=by rw[getD_set_ne false (Ne.symm hji)]at hj;exact hj
     exact getD_set_true (hd j this k hk)
   ·rw[hnew]
    rw[hsp]at hf;simp only[KN,List.length_cons]at hf ⊢
    omega
   ·rw[hnew,List.filterMap_append]
    exact hn
end
end Go.Own
