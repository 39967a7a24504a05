/- Contracts. Conditions: as stated. -/
import Derived.Test.YtnmkpepdacbfaaaGreatDoorRp02
import Derived.Laws.OwnMore
import Derived.Laws.StructEq
set_option linter.all false
namespace Go.Own
open Go
section
variable {hd:Hid}
section
variable {X:Ctx} {T:QS} {own own':Id→List Nat} {s s':St} {w:World} {a:Act} {ρ:Operand→AV} {h:Q6}
variable {dst:Option Nat} {type:TypeId} {pos:String} {after:Array Edge} {guard:Option (Nat×Bool)} {p:Prop} {v:AV} {d:Nat} {fresh im:Bool} {us:List (Id×Ob)}
def QEP(h:Q6)(sz:Nat)(v:Value)(n:Nat)(xs:List Value):Prop:=
 (v= .slice none 0 0∧n=0∧xs=[])∨∃b cap c e,v= .slice (some ⟨b,0,none⟩) n cap∧h[b]? =some (.cells c e (0,0))∧n≤cap∧cap≤maxLen∧c.size=cap*sz∧c.toList.take (n*sz)=xs
def QCI(w:World)(sz:Nat)(u:Value)(m:Nat)(news:List Value):Prop:=
 (u= .slice none 0 0∧m=0∧news=[])∨∃(ad:Addr) (cap:Nat),u= .slice (some ad) m cap∧news.length=m*sz∧∀j x,news[j]? =some x→w.cell? (ad.add j)=some x
theorem QvF{P:Program}{t ty e:TypeId}{y:TyI}(hu:P.underlying t=some (.slice e))(hy:Qb9 P e y)(hsz:0<y.size){v u:Value}{n m:Nat}{xs news:List Value}(hv:QEP w.heap y.size v n xs)(hs:QCI w y.size u m news)
    (h1:∀z∈news,z.oneCell'=true) (h63:n+m≤maxLen) (hby:(n+m)*y.bytes≤140737488355328):
    ∃v' w',(Builtin.append_ #[t,t] ty #[v,u]).run P w= .ok v' w'∧w'.os=w.os∧w'.tape=w.tape∧w'.output=w.output∧w.heap.size≤w'.heap.size∧
      ((v= .slice none 0 0∧m=0∧v'= .slice none 0 0∧w'=w)∨
       (∃b cap c' e',v= .slice (some ⟨b,0,none⟩) n cap∧v'= .slice (some ⟨b,0,none⟩) (n+m) cap∧w'.heap[b]? =some (.cells c' e' (0,0))∧(∀k,k≠b→w'.heap[k]? =w.heap[k]?)∧n+m≤cap∧cap≤maxLen∧c'.size=cap*y.size∧c'.toList.take ((n+m)*y.size)=xs++news)∨
       (∃cap c',v'= .slice (some ⟨w.heap.size,0,none⟩) (n+m) cap∧w'.heap[w.heap.size]? =some (.cells c' e (0,0))∧w.heap.size<w'.heap.size∧(∀k,k<w.heap.size→w'.heap[k]? =w.heap[k]?)∧n+m≤cap∧cap≤maxLen∧c'.size=cap*y.size∧c'.toList.take ((n+m)*y.size)=xs++news)):=by
  obtain⟨⟨i,z,g1,g2,g3,g4,g5⟩,g6,_⟩:=hy;have hzs:z.cells.size=y.size:=by rw[←g6,←g5];simp
  have hsmall:n+m≤9223372036854775807:=by unfold maxLen at h63;omega
  have newrow:∀(olds:List Value) (need old:Nat),olds.length=need*y.size→need≤maxLen→
      need≤grownCap w need old e∧grownCap w need old e≤maxLen∧(olds.toArray++Builtin.zeroCells z.cells (grownCap w need old e-need)).size=grownCap w need old e*y.size∧(olds.toArray++Builtin.zeroCells z.cells (grownCap w need old e-need)).toList.take (need*y.size)=olds:=fun olds need old ho hm=>by
    have q1:=grownCap_ge w need old e
    refine⟨q1,grownCap_le_maxLen w need old e hm,?_,?_⟩
    · simp only[Array.size_append,List.size_toArray,size_zeroCells,hzs,ho,←YD]
      congr 1
      omega
    · simp only[Array.toList_append]
      rw[←ho];exact List.take_left
  rcases hs with⟨rfl,rfl,rfl⟩|⟨ad,scap,rfl,hl,hcell'⟩
  · rcases hv with⟨rfl,rfl,rfl⟩|⟨b,cap,c,e',rfl,hb,hn,hcm,hcs,htake⟩
    · exact⟨.slice none 0 0,w,by simp[Builtin.append_,run_underlying hu,sizeOf,typeInfo,g1,Builtin.lenOf,Builtin.firstCells],rfl,rfl,rfl,KP _,.inl ⟨rfl,rfl,rfl,rfl⟩⟩
    · refine⟨.slice (some ⟨b,0,none⟩) n cap,w,by simp[Builtin.append_,run_underlying hu,sizeOf,typeInfo,g1,Builtin.lenOf,Builtin.firstCells,hn,storeCells],rfl,rfl,rfl,KP _,.inr (.inl ⟨b,cap,c,e',rfl,rfl,hb,fun _ _=>rfl,by omega,hcm,hcs,by simpa using htake⟩)⟩
  · rcases hv with⟨rfl,rfl,rfl⟩|⟨b,cap,c,e',rfl,hb,hn,hcm,hcs,htake⟩
    · by_cases hm:m=0
      · subst hm
        have hnn:news=[]:=Kd (by simpa using hl)
        subst hnn;exact⟨.slice none 0 0,w,by simp[Builtin.append_,run_underlying hu,sizeOf,typeInfo,g1,Builtin.lenOf,Builtin.firstCells,loadCells,loadCellsFrom],rfl,rfl,rfl,KP _,.inl ⟨rfl,rfl,rfl,rfl⟩⟩
      · rw[←g2]at hl
        have hr:=run_append_nil (P:=P) w t ty e i z hu g1 g4 ad m scap news hl hcell' (by omega) (by omega) (by rw[g3];simp only[Ya]at hby;omega)
        rw[g2]at hl;obtain⟨q1,q2,q3,q4⟩:=newrow news m 0 hl (by omega)
        exact⟨_,_,hr,rfl,rfl,rfl,by simp,.inr (.inr ⟨_,_,by simp,heap_alloc_new w.drew _,by simp,fun k hk=>heap_alloc_old w.drew _ hk,by simpa using q1,q2,q3,by simpa using q4⟩)⟩
    · by_cases hroom:n+m≤cap
      · have hf:=run_firstCells_some (P:=P) w i.size m ad m scap news (by rw[g2];exact hl) hcell'
        have hle:(n+m)*y.size≤cap*y.size:=Ka _ hroom
        have hnm:(n+m)*y.size=n*y.size+m*y.size:=YD ..
        have hfit:n*y.size+news.length≤c.size:=by omega
        have hst:=run_storeCells_at P b (n*i.size) e' news 0 c w hb (by rw[g2];simpa using hfit) h1
        simp only[Nat.add_zero]at hst
        refine⟨.slice (some ⟨b,0,none⟩) (n+m) cap,w.setRow b (c.toList.take (n*y.size)++news++c.toList.drop (n*y.size+news.length)).toArray,?_,rfl,rfl,rfl,by simp,.inr (.inl ⟨b,cap,_,e',rfl,rfl,setRow_heap w b c _ e' (0,0) hb,fun k hk=>setRow_other w b k _ hk,hroom,hcm,?_,?_⟩)⟩
        · rw[←g2]
          simp[Builtin.append_,run_underlying hu,sizeOf,typeInfo,g1,Builtin.lenOf,hroom,hf,Addr.add_lit,hst]
        · simp only[List.size_toArray,KN,KO,Kk,YN]
          omega
        · rw[htake]
          have hxl:(xs++news).length=(n+m)*y.size:=by rw[KN,←htake,KO];simp;omega
          rw[←hxl];exact List.take_left
      · have hxl:xs.length=n*i.size:=by
          rw[←htake,g2,KO];have:=Ka y.size hn
          simp;omega
        have holds:∀j x,xs[j]? =some x→w.cell? ((⟨b,0,none⟩:Addr).add j)=some x:=fun j x hj=>by
          rw[QbK,Qb0 rfl hb];rw[←htake,List.getElem?_take]at hj;split at hj
          · simpa using hj
          · cases hj
        have hfits:=growslice_fits (need:=n+m) (old:=cap) (bytes:=i.bytes) (by omega) (by rw[g3];exact hby)
        have hr:=run_append_grow (P:=P) w t ty e i z hu g1 g4 ⟨b,0,none⟩ n cap xs hxl holds ad m scap news (by rw[g2];exact hl) hcell' (by omega) (by omega) hfits
        obtain⟨q1,q2,q3,q4⟩:=newrow (xs++news) (n+m) cap (by rw[KN,hxl,hl,g2,YD]) h63
        refine⟨_,_,hr,rfl,rfl,rfl,by simp,.inr (.inr ⟨_,_,rfl,heap_alloc_new w.drew _,by simp,fun k hk=>heap_alloc_old w.drew _ hk,q1,q2,?_,?_⟩)⟩
        · simpa using q3
        · simpa using q4
def Qs1 [Hid] (own:Id→List Nat)(h:Q6)(sz:Nat)(l:List (List D))(dp:Nat)(v:Value)(oid:Option Id):Prop:=
 (v= .slice none 0 0∧l=[]∧∀id,oid=some id→own id=[])∨∃id b cap,oid=some id∧v= .slice (some ⟨b,0,none⟩) l.length cap∧Qj1 own h id sz l dp b cap
theorem Qid{sz:Nat}{x:AV}{l:List (List D)}{dp:Nat}(hx:QeB s.ob sz x=some (l,dp,us)){u:Value}(a:QM own h s x u):
  ∃oid:Option Id,us=(oid.toList.map fun id=>(id,Ob.dead))∧(∀id,oid=some id→s.sl id.1≠ .any)∧Qs1 own h sz l dp u oid:=by
 unfold QeB at hx;split at hx
 ·simp only[KA,KC]at hx
  obtain⟨rfl,rfl,rfl⟩:=hx;exact⟨none,rfl,by simp,.inl ⟨Qad a,rfl,by simp⟩⟩
 ·rename_i c _
  split at hx
  ·rename_i id s' l' dp' ho
   split at hx
   ·rename_i hs
    subst hs;simp only[KA,KC]at hx
    obtain⟨rfl,rfl,rfl⟩:=hx;have hr:s.sl id.1≠ .any:=by
     cases c with
     | fr id'=>simp only[Qw]at ho;split at ho<;>simp at ho;obtain⟨rfl,_⟩:=ho;exact a.2.1
     | osl id'=>simp only[Qw]at ho;split at ho<;>simp at ho;obtain⟨rfl,_⟩:=ho;exact a.2.1
     | _=>simp[Qw]at ho
    refine⟨some id,rfl,fun i hi=>by cases hi;exact hr,?_⟩
    rcases Qcr ho a with⟨h1,h2,h3⟩|⟨b,cap,h1,h2⟩
    ·exact .inl ⟨h1,h2,fun i hi=>by cases hi;exact h3⟩
    ·exact .inr ⟨id,b,cap,rfl,h1,h2⟩
   ·cases hx
  ·cases hx
 ·rename_i id s' els
  split at hx
  ·rename_i l' ho hl
   split at hx
   ·rename_i hs
    subst hs;simp only[KA,KC]at hx
    obtain⟨rfl,rfl,rfl⟩:=hx;have hm:QgY s.ob (.lit id s' els)=some (.one (.osl id),[(id,.arr s' l' 1)]):=by simp[QgY,ho,hl]
    obtain⟨m,ha⟩:=QeS hm a;refine⟨some id,rfl,fun i hi=>by cases hi;exact a.2.1,?_⟩
    have h3:=ha.2.2
    have:(s.put none .unk [(id,.arr s' l' 1)]).ob id= .arr s' l' 1:=Qbk m.1 _ id _ (by simp)
    rw[this]at h3;rcases h3 with⟨h1,h2,h3⟩|⟨b,cap,h1,h2⟩
    ·exact .inl ⟨h1,h2,fun i hi=>by cases hi;exact h3⟩
    ·exact .inr ⟨id,b,cap,rfl,h1,h2⟩
   ·cases hx
  ·cases hx
 ·cases hx
def Qz2 [Hid] (own:Id→List Nat)(w:World)(s:St)(sz:Nat)(dp:Nat)(m:List (List D))(dp':Nat)(u:Value)(oid2:Option Id):Prop:=
 ∃news G,QCI w sz u m.length news∧(∀e∈m,e.length=sz)∧Qn (dp' !=0) w.heap m.flatten news G∧
  ((G=[]∧oid2=none∧dp'=dp)∨(∃id2,oid2=some id2∧G=own id2∧s.sl id2.1≠ .any∧dp≠0∧dp'=1)∨((∀b∈G,Imm own w.heap b)∧oid2=none∧dp'=0))
theorem QoY{id:Id}{sz:Nat}{els:List (List QI)}{u:Value}(hb:QEA own w.heap s id sz els u):∃news,QCI w sz u els.length news∧Qk own w.heap s els.flatten news:=by
 obtain⟨b,c,e,g1,g2,g3,g4,g5,g6,g7⟩:=hb;refine⟨c.toList,.inr ⟨⟨b,0,none⟩,els.length,g1,by simpa using g4,fun j x hj=>?_⟩,g7⟩
 rw[QbK,Qb0 rfl g3];simpa using hj
theorem Qil{dp:Nat}{id:Id}{sz:Nat}{els:List (List QI)}{u:Value}(hb:QEA own w.heap s id sz els u){l:List (List D)}(hl:QK Qao els=some l):Qz2 own w s sz dp l 0 u none:=by
 obtain⟨news,h1,h2⟩:=QoY hb;obtain⟨g1,g2,F,g3,g4⟩:=QaR (fun cs ds vs h1 h2=>QbB h1 h2) hl h2
 obtain⟨_,_,_,_,_,_,_,_,g6,_⟩:=hb;exact⟨news,F,by rw[g1];exact h1,g2 sz g6,g3,.inr (.inr ⟨g4,rfl,rfl⟩)⟩
theorem QyR{sz dp:Nat}{deep:Bool}{x:AV}{q:Prop}{m:List (List D)}{dp':Nat}{us':List (Id×Ob)}{us0:List (Id×Ob)}(hus0:∀q∈us0,q.2=Ob.dead)(hx:QsG (Q7 s.ob us0) sz deep dp x=some (q,m,dp',us'))(hq:q){u:Value}(a:QM own w.heap s x u):
  ∃oid2:Option Id,us'=(oid2.toList.map fun id=>(id,Ob.dead))∧(∀id,oid2=some id→id∉us0.map (·.1))∧Qz2 own w s sz dp m dp' u oid2:=by
 have hdead:∀id,(Q7 s.ob us0 id=s.ob id∧id∉us0.map (·.1))∨Q7 s.ob us0 id= .dead:=fun id=>by
  by_cases hid:id∈us0.map (·.1)
  ·right
   have:∀(us0:List (Id×Ob)) (g:Id→Ob),(∀q∈us0,q.2=Ob.dead)→id∈us0.map (·.1)→Q7 g us0 id= .dead:=by
    intro us0;induction us0 with
    | nil=>intro g _ h;cases h
    | cons z r ih=>
     intro g h1 h2;obtain⟨k,o⟩:=z;have ho:o= .dead:=h1 (k,o) (by simp)
     simp only[Q7]
     by_cases hr:id∈r.map (·.1)
     ·exact ih _ (fun q hq=>h1 q (by simp[hq])) hr
     ·rw[QeC _ _ hr]
      simp only[List.map_cons,KI]at h2
      rcases h2 with h2|h2
      ·rw[if_pos h2,ho]
      ·exact absurd h2 hr
   exact this us0 s.ob hus0 hid
  ·exact .inl ⟨QeC _ _ hid,hid⟩
 unfold QsG at hx;split at hx
 ·rename_i id s' els
  split at hx
  ·rename_i ho
   have ho':s.ob id= .none:=by
    rcases hdead id with h|h
    ·rw[←h.1];exact ho
    ·rw[h]at ho;cases ho
   have hb:=a.2.2 ho'
   split at hx
   ·rename_i hs
    subst hs;split at hx
    ·rename_i l hl
     simp only[KA,KC]at hx
     obtain⟨rfl,rfl,rfl,rfl⟩:=hx;refine⟨none,rfl,by simp,?_⟩
     obtain⟨news,h1,h2⟩:=QoY hb;obtain⟨g1,g2,F,g3,g4⟩:=QaR (fun cs ds vs h1 h2=>⟨(Qap (W:=false) h1 h2).1,[],(Qap h1 h2).2.2,by simp⟩) hl h2
     have hsc:∀{els:List (List QI)} {l:List (List D)},QK Qy els=some l→∀z∈l.flatten,QaO z:=by
      intro els;induction els with
      | nil=>intro l h1;simp only[QK,KA]at h1;subst h1;simp
      | cons cc els ih=>
       intro l h1;simp only[QK]at h1
       split at h1
       ·rename_i z l' e1 e2
        simp only[KA]at h1
        subst h1;have e3:∀{cs:List QI} {ds:List D},Qy cs=some ds→∀z∈ds,QaO z:=by
         intro cs;induction cs with
         | nil=>intro ds h;simp only[Qy,KA]at h;subst h;simp
         | cons c1 cs ih2=>
          intro ds h;simp only[Qy]at h
          split at h
          ·rename_i y ys f1 f2
           simp only[KA]at h
           subst h;intro z hz;rcases KI.1 hz with rfl|hz
           ·cases c1 with
            | d y=>cases y<;>simp[QbR]at f1;subst f1;trivial
            | _=>simp[QbR]at f1
           ·exact ih2 f2 z hz
          ·cases h
        intro z hz;simp only[List.flatten_cons,KG]at hz
        rcases hz with hz|hz
        ·exact e3 e1 z hz
        ·exact ih e2 z hz
       ·cases h1
     have hF:=Qex g3 (hsc hl)
     subst hF;obtain⟨_,_,_,_,_,_,_,_,g6,_⟩:=hb;exact⟨news,[],by rw[g1];exact h1,g2 s' g6,g3.scalUp (hsc hl),.inl ⟨rfl,rfl,rfl⟩⟩
    ·split at hx
     ·rename_i c hno
      split at hx
      ·rename_i id2 s2 l2 dp2 ho2
       split at hx
       ·cases hx
       ·rename_i hdp
        simp only[not_or]at hdp
        simp only[KA,KC]at hx
        obtain⟨rfl,rfl,rfl,rfl⟩:=hx;obtain⟨news,h1,h2⟩:=QoY hb;have hg6:s'=1:=by
         obtain⟨_,_,_,_,_,_,_,_,g6,_⟩:=hb;exact(g6 [c] (by simp)).symm
        subst hg6;cases h2 with
        | @cons _ v0 _ vs0 hc0 hr0=>
         cases hr0
         have hob2:Qw s.ob c=some (id2,s2,l2,dp2)∧id2∉us0.map (·.1):=by
          cases c with
          | fr id'=>
           simp only[Qw]at ho2 ⊢
           rcases hdead id' with h|h
           ·rw[h.1]at ho2
            split at ho2
            ·simp only[KA,KC]at ho2
             obtain⟨rfl,rfl,rfl,rfl⟩:=ho2;exact⟨rfl,h.2⟩
            ·cases ho2
           ·rw[h]at ho2;cases ho2
          | osl id'=>
           simp only[Qw]at ho2 ⊢
           rcases hdead id' with h|h
           ·rw[h.1]at ho2
            split at ho2
            ·simp only[KA,KC]at ho2
             obtain⟨rfl,rfl,rfl,rfl⟩:=ho2;exact⟨rfl,h.2⟩
            ·cases ho2
           ·rw[h]at ho2;cases ho2
          | _=>simp[Qw]at ho2
         have hr:s.sl id2.1≠ .any:=by
          have ho3:=hob2.1
          cases c with
          | fr id'=>simp only[Qw]at ho3;split at ho3<;>simp at ho3;obtain⟨rfl,_⟩:=ho3;exact hc0.2.1
          | osl id'=>simp only[Qw]at ho3;split at ho3<;>simp at ho3;obtain⟨rfl,_⟩:=ho3;exact hc0.2.1
          | _=>simp[Qw]at ho3
         refine⟨some id2,rfl,fun i hi=>by cases hi;exact hob2.2,?_⟩
         obtain⟨FN,rN,hFN⟩:∃FN,Qn true w.heap [.sl s2 l2] [v0] FN∧FN=own id2:=QaX.repsW (Qcr hob2.1 hc0) hdp.2;exact⟨[v0],FN,by simpa using h1,by simp,by simpa [(by decide:((1:Nat)!=0)=true)]using rN,.inr (.inl ⟨id2,rfl,hFN,hr,hdp.1,rfl⟩)⟩
      ·split at hx
       ·rename_i l hl
        simp only[KA,KC]at hx
        obtain⟨rfl,rfl,rfl,rfl⟩:=hx;exact⟨none,rfl,by simp,Qil hb hl⟩
       ·cases hx
     ·split at hx
      ·rename_i l hl
       simp only[KA,KC]at hx
       obtain⟨rfl,rfl,rfl,rfl⟩:=hx;exact⟨none,rfl,by simp,Qil hb hl⟩
      ·cases hx
   ·cases hx
  ·cases hx
 ·rename_i c
  have toDs:∀{x:D},toD (Q7 s.ob us0) c=some x→toD s.ob c=some x:=fun {x} ht=>by
   cases c with
   | fr id'=>simp only[toD]at ht ⊢;rcases hdead id' with h|h<;>simp_all
   | osl id'=>
    simp only[toD]at ht ⊢
    rcases hdead id' with⟨h,_⟩|h
    ·rw[h]at ht
     revert ht
     cases s.ob id' with
     | inn j i o=>
      intro ht;dsimp only at ht ⊢;rcases hdead j with⟨h,_⟩|h
      ·rw[h]at ht;exact ht
      ·rw[h]at ht;cases ht
     | _=>exact fun h=>h
    ·rw[h]at ht;cases ht
   | isl id'=>simp only[toD]at ht ⊢;rcases hdead id' with h|h<;>simp_all
   | sub id'=>simp only[toD]at ht ⊢;rcases hdead id' with h|h<;>simp_all
   | _=>exact ht
  split at hx
  ·rename_i s1 m1 hi
   simp only[KA,KC]at hx
   obtain⟨rfl,rfl,rfl,rfl⟩:=hx;subst hq;refine⟨none,rfl,by simp,?_⟩
   have hc:QbO c=some (.sl s1 m1):=by
    split at hi
    ·exact hi
    ·cases hi
   obtain⟨F,r,hF⟩:∃F,Qbl w.heap [.sl s1 m1] [u] F∧∀b∈F,Imm own w.heap b:=by
    cases c with
    | d y=>simp only[QbO,KA]at hc;subst hc;exact a
    | n y=>simp only[QbO,KA]at hc;subst hc;obtain⟨F,r,hF⟩:=a;exact⟨F,r,fun b hb=>(hF b hb).1⟩
    | _=>simp[QbO]at hc
   rcases r.sl_inv with⟨a0,hu,rfl,_⟩|⟨b,off,cap,cc,e,fz,G,hu,a1,a2,a3,a4,a5,a6,hFG⟩
   ·cases a0 with
    | none=>exact⟨[],[],.inl ⟨hu,rfl,rfl⟩,by simp,.nil,.inr (.inr ⟨by simp,rfl,rfl⟩)⟩
    | some ad=>exact⟨[],[],.inr ⟨ad,0,hu,by simp,by simp⟩,by simp,.nil,.inr (.inr ⟨by simp,rfl,rfl⟩)⟩
   ·refine⟨_,G,.inr ⟨⟨b,off,none⟩,cap,hu,?_,fun j x hj=>?_⟩,a5,a6,.inr (.inr ⟨fun z hz=>hF z ?_,rfl,rfl⟩)⟩
    ·rw[KO,Kk];simp;omega
    ·rw[QbK,Qb0 rfl a1]
     rw[List.getElem?_take]at hj;split at hj
     ·rw[YQ]at hj;simpa using hj
     ·cases hj
    ·simp[hFG,hz]
  ·split at hx
   ·rename_i s1 m1 ht
    simp only[KA,KC]at hx
    obtain⟨rfl,rfl,rfl,rfl⟩:=hx;obtain⟨rfl,hsc⟩:=hq;refine⟨none,rfl,by simp,?_⟩
    obtain⟨F,r,_⟩:=Qjy (toDs ht) a;rcases r.sl_inv with⟨a0,hu,rfl,_⟩|⟨b,off,cap,cc,e,fz,G,hu,a1,a2,a3,a4,a5,a6,_⟩
    ·cases a0 with
     | none=>exact⟨[],[],.inl ⟨hu,rfl,rfl⟩,by simp,.nil,.inl ⟨rfl,rfl,rfl⟩⟩
     | some ad=>exact⟨[],[],.inr ⟨ad,0,hu,by simp,by simp⟩,by simp,.nil,.inl ⟨rfl,rfl,rfl⟩⟩
    ·have hG:=Qex a6 (fun z hz=>by
      rw[Kf]at hz;obtain⟨e,he,hz⟩:=hz;exact hsc e he z hz)
     subst hG;refine⟨_,[],.inr ⟨⟨b,off,none⟩,cap,hu,?_,fun j x hj=>?_⟩,a5,a6.scalUp (fun z hz=>by
       rw[Kf]at hz;obtain⟨e,he,hz⟩:=hz;exact hsc e he z hz),.inl ⟨rfl,rfl,rfl⟩⟩
     ·rw[KO,Kk];simp;omega
     ·rw[QbK,Qb0 rfl a1]
      rw[List.getElem?_take]at hj;split at hj
      ·rw[YQ]at hj;simpa using hj
      ·cases hj
   ·rename_i ht
    simp only[KA,KC]at hx
    obtain⟨rfl,rfl,rfl,rfl⟩:=hx;obtain⟨F,r,_⟩:=Qjy (toDs ht) a;refine⟨none,rfl,by simp,[],[],.inl ⟨?_,rfl,rfl⟩,by simp,.nil,.inl ⟨rfl,rfl,rfl⟩⟩
    cases r with|v _ _=>rfl
   ·cases hx
 ·cases hx
def Q1(own:Id→List Nat)(d:Nat)(I:List Id)(nl:List Nat):Id→List Nat:=fun j=>if j=(d,0)then nl else if j∈I then []else own j
theorem Qio{t ty e:TypeId}{y:TyI}{tv uv:Value}{l m:List (List D)}{dp dp':Nat}{oid oid2:Option Id}{news:List Value}{Gm:List Nat}(hu:X.P.underlying t=some (.slice e))(hy:Qb9 X.P e y)(hsz:0<y.size)(c:Qt X own s a w)(hd:X.dok d=true)(hfs:Qfd s d)
  (ht:Qs1 own w.heap y.size l dp tv oid) (hor:∀id,oid=some id→s.sl id.1≠ .any) (s1:QCI w y.size uv m.length news) (s2:∀e∈m,e.length=y.size) (s3:Qn (dp' !=0) w.heap m.flatten news Gm) (s4:(Gm=[]∧oid2=none∧dp'=dp)∨(∃id2,oid2=some id2∧Gm=own id2∧s.sl id2.1≠ .any∧dp≠0∧dp'=1)∨((∀b∈Gm,Imm own w.heap b)∧oid2=none∧dp'=0)) (hne:∀id,oid=some id→oid2≠some id) (h63:l.length+m.length≤maxLen) (hby:(l.length+m.length)*y.bytes≤140737488355328):
  ∃v' w' nl,(Builtin.append_ #[t,t] ty #[tv,uv]).run X.P w= .ok v' w'∧w'.os=w.os∧w'.tape=w.tape∧w'.output=w.output∧w.heap.size≤w'.heap.size∧(∀id∈oid.toList++oid2.toList,s.sl id.1≠ .any)∧
   (∀k,k<w.heap.size→(∀id∈oid.toList++oid2.toList,k∉own id)→w'.heap[k]? =w.heap[k]?)∧(∀z∈nl,z<w'.heap.size∧(w.heap.size≤z∨∃id,id∈oid.toList++oid2.toList∧z∈own id))∧nl.Nodup∧
   QaX (Q1 own d (oid.toList++oid2.toList) nl) w'.heap (d,0) y.size (l++m) dp' v'∧
   (m≠[]→∃b cap c' e',v'= .slice (some ⟨b,0,none⟩) (l.length+m.length) cap∧w'.heap[b]? =some (.cells c' e' (0,0))∧(∃xs:List Value,xs.length=l.length*y.size∧c'.toList.take ((l.length+m.length)*y.size)=xs++news)∧Q1 own d (oid.toList++oid2.toList) nl (d,0)=b::nl.tail):=by
 have htv:∃xs Gl,QEP w.heap y.size tv l.length xs∧Qn (dp !=0) w.heap l.flatten xs Gl∧(∀z∈l,z.length=y.size)∧
   ((tv= .slice none 0 0∧Gl=[]∧∀id,oid=some id→own id=[])∨∃id b,oid=some id∧(∃cap,tv= .slice (some ⟨b,0,none⟩) l.length cap)∧own id=b::(if dp=0 then []else Gl)∧b∉Gl∧(dp=0→∀z∈Gl,Imm own w.heap z)):=by
  rcases ht with⟨h1,h2,h3⟩|⟨id,b,cap,h1,h2,cc,ee,G,a1,a2,a3,a4,a5,a6,a7,a8⟩
  ·subst h2
   exact⟨[],[],.inl ⟨h1,rfl,rfl⟩,.nil,by simp,.inl ⟨h1,rfl,h3⟩⟩
  ·refine⟨_,G,.inr ⟨b,cap,cc,ee,h2,a2,a3,a4,a5,rfl⟩,a7,a6,.inr ⟨id,b,h1,⟨cap,h2⟩,a1,?_,a8⟩⟩
   by_cases h0:dp=0
   ·intro hm;exact(a8 h0 b hm).2.1 id (by rw[a1];simp)
   ·have hnd:=c.nodup id
    rw[a1]at hnd;simp only[h0,if_false,Ke]at hnd
    exact hnd.1
 obtain⟨xs,Gl,t1,t2,t3,t4⟩:=htv;obtain⟨v',w',r1,r2,r3,r4,r5,r6⟩:=QvF (P:=X.P) (ty:=ty) hu hy hsz t1 s1 s3.ones h63 hby
 have hGl:∀z∈Gl,Imm own w.heap z∨∃id,oid=some id∧z∈own id∧dp≠0:=fun z hz=>by
  rcases t4 with⟨_,rfl,_⟩|⟨id,b,h1,_,h2,_,h3⟩
  ·cases hz
  ·by_cases h0:dp=0
   ·exact .inl (h3 h0 z hz)
   ·exact .inr ⟨id,h1,by rw[h2];simp[h0,hz],h0⟩
 have hGm:∀z∈Gm,Imm own w.heap z∨∃id,oid2=some id∧z∈own id∧dp≠0:=fun z hz=>by
  rcases s4 with⟨rfl,_⟩|⟨id2,h1,rfl,_,h2,_⟩|⟨h1,_⟩
  ·cases hz
  ·exact .inr ⟨id2,h1,hz,h2⟩
  ·exact .inl (h1 z hz)
 have hd2:∀id,oid2=some id→s.sl id.1≠ .any:=fun id hid=>by
  rcases s4 with⟨_,h,_⟩|⟨id2,h1,_,h3,_⟩|⟨_,h,_⟩
  ·rw[h]at hid;cases hid
  ·rw[h1]at hid;cases hid;exact h3
  ·rw[h]at hid;cases hid
 have hI:∀id∈oid.toList++oid2.toList,s.sl id.1≠ .any:=fun id hid=>by
  simp only[KG,Option.mem_toList]at hid
  rcases hid with h|h
  ·exact hor id h
  ·exact hd2 id h
 have hId:(d,0)∉oid.toList++oid2.toList:=fun h=>hI _ h hfs.row
 have hxl:xs.length=l.length*y.size:=by rw[←t2.length,QaT _ _ t3]
 have t2':Qn (dp' !=0) w.heap l.flatten xs Gl:=by
  rcases s4 with⟨_,_,rfl⟩|⟨_,_,_,_,h0,rfl⟩|⟨_,_,rfl⟩
  ·exact t2
  ·rw[bne_iff_ne.2 h0]at t2;exact t2
  ·exact t2.weak
 have hrep:∀(nl:List Nat) (b':Nat) (cap':Nat) (c':Array Value) (e':TypeId),v'= .slice (some ⟨b',0,none⟩) (l.length+m.length) cap'→w'.heap[b']? =some (.cells c' e' (0,0))→l.length+m.length≤cap'→cap'≤maxLen→c'.size=cap'*y.size→
   c'.toList.take ((l.length+m.length)*y.size)=xs++news→nl=b'::(if dp'=0 then []else Gl++Gm)→(∀z∈Gl++Gm,w'.heap[z]? =w.heap[z]?)→b'∉Gl++Gm→w.heap.size≤w'.heap.size→
   QaX (Q1 own d (oid.toList++oid2.toList) nl) w'.heap (d,0) y.size (l++m) dp' v':=by
  intro nl b' cap' c' e' q1 q2 q3 q4 q5 q6 q7 q8 q9 q10;refine .inr ⟨b',cap',by rw[KN];exact q1,c',e',Gl++Gm,?_,q2,by rw[KN];exact q3,q4,q5,fun z hz=>?_,?_,fun h0 z hz=>?_⟩
  ·simp only[Q1,if_true];exact q7
  ·rcases KG.1 hz with hz|hz
   ·exact t3 z hz
   ·exact s2 z hz
  ·rw[YR,KN,q6]
   exact(t2'.append s3).frame q8
  ·have hlt:z<w.heap.size:=(t2'.append s3).lt z hz
   have hz':Imm own w.heap z∨∃id,id∈oid.toList++oid2.toList∧z∈own id:=by
    rcases KG.1 hz with hz|hz
    ·rcases hGl z hz with h|⟨id,h1,h2,_⟩
     ·exact .inl h
     ·exact .inr ⟨id,by simp[h1],h2⟩
    ·rcases hGm z hz with h|⟨id,h1,h2,_⟩
     ·exact .inl h
     ·exact .inr ⟨id,by simp[h1],h2⟩
   refine⟨by omega,fun j hj=>?_,hz'.elim (fun h=>h.2.2) fun⟨id,_,h2⟩=>c.nh h2⟩
   simp only[Q1]at hj
   split at hj
   ·rw[q7,h0]at hj
    simp at hj
    subst hj;exact q9 hz
   ·split at hj
    ·cases hj
    ·rename_i n1 n2
     rcases hz' with h|⟨id,h1,h2⟩
     ·exact h.2.1 j hj
     ·exact n2 (c.disj id j z h2 hj▸h1)
 have hdpne:dp'≠0→dp≠0:=fun h=>by
  rcases s4 with⟨_,_,h1⟩|⟨_,_,_,_,h1,_⟩|⟨_,_,h1⟩
  ·rw[←h1];exact h
  ·exact h1
  ·exact absurd h1 h
 have hGlm:∀z∈Gl,dp≠0→dp'≠0→z∉Gm:=fun z hz h0 h0' hm=>by
  rcases t4 with⟨_,rfl,_⟩|⟨id,b,h1,_,h2,_,_⟩
  ·cases hz
  ·rcases s4 with⟨rfl,_⟩|⟨id2,g1,rfl,_⟩|⟨_,_,g⟩
   ·cases hm
   ·exact hne id h1 (by rw[g1,c.disj id id2 z (by rw[h2];simp[h0,hz]) hm])
   ·exact h0' g
 have hGmn:dp'≠0→Gm.Nodup:=fun h0=>by
  rcases s4 with⟨rfl,_⟩|⟨id2,_,rfl,_⟩|⟨_,_,g⟩
  ·simp
  ·exact c.nodup id2
  ·exact absurd g h0
 have hGln:dp≠0→Gl.Nodup:=fun h0=>by
  rcases t4 with⟨_,rfl,_⟩|⟨id,b,h1,_,h2,_,_⟩
  ·simp
  ·have:=c.nodup id
   rw[h2]at this;simp only[h0,if_false,Ke]at this
   exact this.2
 have hin:∀z∈(if dp'=0 then []else Gl++Gm),∃id,id∈oid.toList++oid2.toList∧z∈own id:=fun z hz=>by
  split at hz
  ·cases hz
  ·rename_i h0
   have h0':=hdpne h0
   rcases KG.1 hz with hz|hz
   ·rcases t4 with⟨_,rfl,_⟩|⟨id,b,h1,_,h2,_,_⟩
    ·cases hz
    ·exact⟨id,by simp[h1],by rw[h2];simp[h0',hz]⟩
   ·rcases s4 with⟨rfl,_⟩|⟨id2,g1,rfl,_⟩|⟨_,_,g⟩
    ·cases hz
    ·exact⟨id2,by simp[g1],hz⟩
    ·exact absurd g h0
 have hnod:∀b',b'∉Gl++Gm→(b'::(if dp'=0 then []else Gl++Gm)).Nodup:=fun b' hb'=>by
  split
  ·simp
  ·rename_i h0
   rw[Ke];exact⟨hb',Km.2 ⟨hGln (hdpne h0),hGmn h0,fun x hx z hz e=>hGlm x hx (hdpne h0) h0 (e▸hz)⟩⟩
 rcases r6 with⟨q1,q2,q3,q4⟩|⟨b,cap,c',e',q1,q2,q3,q4,q5,q6,q7,q8⟩|⟨cap,c',q1,q2,q2',q3,q4,q5,q6,q7⟩
 ·have hm:m=[]:=Kd q2
  refine⟨v',w',[],r1,r2,r3,r4,r5,hI,(fun k hk _=>by rw[q4]),(by simp),(by simp),.inl ⟨q3,?_,by simp[Q1]⟩,fun h=>absurd hm h⟩
  have hl:l=[]:=by
   rcases t4 with _|⟨id',b,h1,⟨cap,h2⟩,_⟩
   ·rcases ht with⟨_,h2,_⟩|⟨_,_,_,_,h2,_⟩
    ·exact h2
    ·rw[q1]at h2;cases h2
   ·rw[q1]at h2;cases h2
  rw[hl,hm];rfl
 ·obtain⟨id,h1,h2,h3,h4⟩:∃id,oid=some id∧own id=b::(if dp=0 then []else Gl)∧b∉Gl∧(dp=0→∀z∈Gl,Imm own w.heap z):=by
   rcases t4 with⟨h0,_⟩|⟨id,b1,h1,⟨cap1,h2⟩,h3,h4,h5⟩
   ·rw[q1]at h0;cases h0
   ·rw[q1]at h2
    simp only[Value.slice.injEq,KA,Addr.mk.injEq]at h2
    obtain⟨⟨rfl,_⟩,_⟩:=h2;exact⟨id,h1,h3,h4,h5⟩
  have hbo:b∈own id:=by rw[h2];simp
  have hbGm:b∉Gm:=fun hm=>by
   rcases hGm b hm with h|⟨id2,g1,g2,_⟩
   ·exact h.2.1 id hbo
   ·exact hne id h1 (by rw[g1,c.disj id2 id b g2 hbo])
  have hb':b∉Gl++Gm:=by simp[h3,hbGm]
  refine⟨v',w',b::(if dp'=0 then []else Gl++Gm),r1,r2,r3,r4,r5,hI,(fun k hk hno=>q4 k fun e=>hno id (by simp[h1]) (e▸hbo)),(fun z hz=>?_),(hnod b hb'),hrep _ b cap c' e' q2 q3 q5 q6 q7 q8 rfl (fun z hz=>q4 z fun e=>hb' (e▸hz)) hb' r5,fun _=>⟨b,cap,c',e',q2,q3,⟨xs,hxl,q8⟩,by simp[Q1]⟩⟩
  rcases KI.1 hz with rfl|hz
  ·have:=(c.lt id _ hbo).1
   exact⟨by omega,.inr ⟨id,by simp[h1],hbo⟩⟩
  ·obtain⟨i,hi,hzi⟩:=hin z hz
   have:=(c.lt i z hzi).1
   exact⟨by omega,.inr ⟨i,hi,hzi⟩⟩
 ·have hb':w.heap.size∉Gl++Gm:=fun hm=>by have:=(t2'.append s3).lt _ hm;omega
  refine⟨v',w',w.heap.size::(if dp'=0 then []else Gl++Gm),r1,r2,r3,r4,r5,hI,(fun k hk _=>q3 k hk),(fun z hz=>?_),(hnod _ hb'),hrep _ w.heap.size cap c' e q1 q2 q4 q5 q6 q7 rfl (fun z hz=>q3 z ((t2'.append s3).lt z hz)) hb' r5,fun _=>⟨w.heap.size,cap,c',e,q1,q2,⟨xs,hxl,q7⟩,by simp[Q1]⟩⟩
  rcases KI.1 hz with rfl|hz
  ·exact⟨q2',.inl (KP _)⟩
  ·obtain⟨i,hi,hzi⟩:=hin z hz
   have:=(c.lt i z hzi).1
   exact⟨by omega,.inr ⟨i,hi,hzi⟩⟩
theorem Qv9{I:List Id}{j:Id}:∀(g:Id→Ob),Q7 g (I.map fun id=>(id,Ob.dead)) j=if j∈I then .dead else g j:=by
 induction I with
 | nil=>intro g;simp[Q7]
 | cons i I ih=>
  intro g;simp only[List.map_cons,Q7]
  rw[ih]
  by_cases h1:j∈I
  ·simp[h1]
  ·by_cases h2:j=i<;>simp[h1,h2]
theorem Qt.take{w':World}{d:Nat}{I:List Id}{nl:List Nat}{sz dp:Nat}{l:List (List D)}{v':Value}(c:Qt X own s a w)(hd:X.dok d=true)(hfs:Qfd s d)(hI:∀id∈I,s.sl id.1≠ .any)
  (ho:w'.os=w.os) (ht:w'.tape=w.tape) (hp:w'.output=w.output) (hg:w.heap.size≤w'.heap.size) (hheap:∀k,k<w.heap.size→(∀id∈I,k∉own id)→w'.heap[k]? =w.heap[k]?)
  (hnl:∀z∈nl,z<w'.heap.size∧(w.heap.size≤z∨∃id,id∈I∧z∈own id)) (hnd:nl.Nodup)
  (hfin:Qav own (Q1 own d I nl) w.heap w'.heap s (s.put (some d) (.one (.fr (d,0) sz l dp)) (I.map fun id=>(id,Ob.dead)))→QaX (Q1 own d I nl) w'.heap (d,0) sz l dp v'):
  Qt X (Q1 own d I nl) (s.put (some d) (.one (.fr (d,0) sz l dp)) (I.map fun id=>(id,Ob.dead))) (a.put (some d) v') w':=by
 have hId:(d,0)∉I:=fun h=>hI _ h hfs.row
 have hob:∀j,(s.put (some d) (.one (.fr (d,0) sz l dp)) (I.map fun id=>(id,Ob.dead))).ob j=if j∈I then .dead else s.ob j:=fun j=>by
  rw[St.put_ob];exact Qv9 s.ob
 have hown:∀j,j≠(d,0)→j∉I→Q1 own d I nl j=own j:=fun j h1 h2=>by simp only[Q1];rw[if_neg h1,if_neg h2]
 have hownI:∀j,j∈I→Q1 own d I nl j=[]:=fun j h1=>by
  simp only[Q1]
  rw[if_neg (fun e:j=(d,0)=>hId (e▸h1)),if_pos h1]
 have hownD:Q1 own d I nl (d,0)=nl:=by simp[Q1]
 have hne2:∀id:Id,s.sl id.1≠ .any→id≠(d,0):=fun id h e=>h (by rw[e];exact hfs.row)
 have k:Qav own (Q1 own d I nl) w.heap w'.heap s (s.put (some d) (.one (.fr (d,0) sz l dp)) (I.map fun id=>(id,Ob.dead))):=by
  refine⟨St.put_bs _ _ _ _,fun b hb=>⟨⟨by have:=hb.1;omega,fun id hm=>?_⟩,hheap b hb.1 fun id _=>hb.2 id⟩,St.put_row s (some d) _ _,fun id hid=>?_,fun id _ _ _ _ _ _ _ h1 h2=>Qeu h1 h2 (by
   rw[hob]
   by_cases h3:id∈I
   ·rw[if_pos h3];exact .inr fun _ _ _ h=>by cases h
   ·rw[if_neg h3];exact .inl rfl)⟩
  ·by_cases h1:id=(d,0)
   ·subst h1
    rw[hownD]at hm;rcases(hnl b hm).2 with h|⟨j,_,h⟩
    ·have:=hb.1;omega
    ·exact hb.2 j h
   ·by_cases h2:id∈I
    ·rw[hownI id h2]at hm;cases hm
    ·rw[hown id h1 h2]at hm;exact hb.2 id hm
  ·rw[hob]
   by_cases h2:id∈I
   ·rw[if_pos h2];exact .dead _
   ·rw[if_neg h2]
    refine .same _ (hown id (hne2 id hid) h2) fun b hb=>hheap b (c.lt id b hb).1 fun j hj hbj=>?_
    have:=c.disj id j b hb hbj
    subst this;exact h2 hj
 refine c.turn k ho ht hp hg (fun x hx=>by cases hx;exact hd) (fun j b hb=>?_) (fun j=>?_) (fun j j' b h1 h2=>?_) (fun j=>?_) ?_
 ·by_cases h1:j=(d,0)
  ·subst h1
   rw[hownD]at hb;obtain⟨q1,q2⟩:=hnl b hb;refine⟨q1,?_⟩
   rcases q2 with q2|⟨i,_,q2⟩
   ·exact .inl (by have:=c.grow;omega)
   ·exact(c.lt i b q2).2
  ·by_cases h2:j∈I
   ·rw[hownI j h2]at hb;cases hb
   ·rw[hown j h1 h2]at hb
    have:=c.lt j b hb
    exact⟨by omega,this.2⟩
 ·by_cases h1:j=(d,0)
  ·subst h1;rw[hownD];exact hnd
  ·by_cases h2:j∈I
   ·rw[hownI j h2];simp
   ·rw[hown j h1 h2];exact c.nodup j
 ·have key:∀j b,b∈Q1 own d I nl j→(j=(d,0)∧(w.heap.size≤b∨∃id,id∈I∧b∈own id))∨(j≠(d,0)∧j∉I∧b∈own j):=fun j b hb=>by
   by_cases h1:j=(d,0)
   ·subst h1;rw[hownD]at hb;exact .inl ⟨rfl,(hnl b hb).2⟩
   ·by_cases h2:j∈I
    ·rw[hownI j h2]at hb;cases hb
    ·rw[hown j h1 h2]at hb;exact .inr ⟨h1,h2,hb⟩
  rcases key j b h1 with⟨rfl,q⟩|⟨n1,n2,q⟩
  ·rcases key j' b h2 with⟨rfl,_⟩|⟨m1,m2,q'⟩
   ·rfl
   ·exfalso
    rcases q with q|⟨i,hi,q⟩
    ·have:=(c.lt j' b q').1;omega
    ·exact m2 (c.disj i j' b q q'▸hi)
  ·rcases key j' b h2 with⟨rfl,q'⟩|⟨m1,m2,q'⟩
   ·exfalso
    rcases q' with q'|⟨i,hi,q'⟩
    ·have:=(c.lt j b q).1;omega
    ·exact n2 (c.disj i j b q' q▸hi)
   ·exact c.disj j j' b q q'
 ·rw[hob]
  by_cases h2:j∈I
  ·rw[if_pos h2];trivial
  ·rw[if_neg h2]
   by_cases h1:j=(d,0)
   ·subst h1;rw[hfs.ob 0 (by omega)];trivial
   ·have:=Qc4.keep (id:=j) k (by rw[hob,if_neg h2]) (hown j h1 h2) (fun b hb=>hheap b (c.lt j b hb).1 fun i hi hbi=>by
     have:=c.disj j i b hb hbi
     subst this;exact h2 hi) (c.obs j)
    rw[hob,if_neg h2]at this;exact this
 ·have hok:=hfin k
  refine⟨?_,St.put_dst s d _ _,fun _=>hok⟩
  rcases hok with⟨h1,_⟩|⟨b,cap,h1,_⟩<;>rw[h1]<;>rfl
theorem Qt.takeI{w':World}{d:Nat}{id id2:Id}{nl:List Nat}{l:List (List D)}{s2 dp2:Nat}{l2:List (List D)}{v':Value}(c:Qt X own s a w)(hd:X.dok d=true)(hfs:Qfd s d)(hI:∀i∈[id,id2],s.sl i.1≠ .any)(hne:id2≠id)(ho2:s.ob id2= .arr s2 l2 dp2)
  (ho:w'.os=w.os) (ht:w'.tape=w.tape) (hp:w'.output=w.output) (hg:w.heap.size≤w'.heap.size) (hheap:∀k,k<w.heap.size→(∀i∈[id,id2],k∉own i)→w'.heap[k]? =w.heap[k]?)
  (hnl:∀z∈nl,z<w'.heap.size∧(w.heap.size≤z∨∃i,i∈[id,id2]∧z∈own i)) (hnd:nl.Nodup)
  (hok:QaX (Q1 own d [id,id2] nl) w'.heap (d,0) 1 (l++[[.sl s2 l2]]) 1 v')
  (hcell:∀v,QaX own w.heap id2 s2 l2 dp2 v→∃b cap cc e,v'= .slice (some ⟨b,0,none⟩) (l.length+1) cap∧w'.heap[b]? =some (.cells cc e (0,0))∧cc[l.length]? =some v):
  Qt X (Q1 own d [id,id2] nl) (s.put (some d) (.one (.osl (d,0))) [(id,.dead),(id2,.inn (d,0) l.length 0),((d,0),.arr 1 (l++[[.sl s2 l2]]) 2)]) (a.put (some d) v') w':=by
 obtain⟨I,hIe⟩:∃I,I=[id,id2]:=⟨_,rfl⟩;rw[←hIe]at hI hheap hnl hok ⊢;have hId:(d,0)∉I:=fun h=>hI _ h hfs.row
 have hid:id∈I:=by rw[hIe];simp
 have hid2:id2∈I:=by rw[hIe];simp
 have hdn:id≠(d,0):=fun e=>hId (e▸hid)
 have hdn2:id2≠(d,0):=fun e=>hId (e▸hid2)
 have hob:∀j,(s.put (some d) (.one (.osl (d,0))) [(id,.dead),(id2,.inn (d,0) l.length 0),((d,0),.arr 1 (l++[[.sl s2 l2]]) 2)]).ob j=if j=(d,0)then .arr 1 (l++[[D.sl s2 l2]]) 2 else if j=id2 then .inn (d,0) l.length 0 else if j=id then .dead else s.ob j:=fun j=>by
  rw[St.put_ob];rfl
 have hobD:=(hob (d,0)).trans (if_pos rfl)
 have hown:∀j,j≠(d,0)→j∉I→Q1 own d I nl j=own j:=fun j h1 h2=>by simp only[Q1];rw[if_neg h1,if_neg h2]
 have hownI:∀j,j∈I→Q1 own d I nl j=[]:=fun j h1=>by
  simp only[Q1]
  rw[if_neg (fun e:j=(d,0)=>hId (e▸h1)),if_pos h1]
 have hownD:Q1 own d I nl (d,0)=nl:=by simp[Q1]
 have hne2:∀i:Id,s.sl i.1≠ .any→i≠(d,0):=fun i h e=>h (by rw[e];exact hfs.row)
 have hnI:∀j,j∉I→j≠id2∧j≠id:=fun j h=>⟨fun e=>h (e▸hid2),fun e=>h (e▸hid)⟩
 have hobn:∀j,j≠(d,0)→j∉I→(s.put (some d) (.one (.osl (d,0))) [(id,.dead),(id2,.inn (d,0) l.length 0),((d,0),.arr 1 (l++[[.sl s2 l2]]) 2)]).ob j=s.ob j:=fun j h1 h2=>by rw[hob,if_neg h1,if_neg (hnI j h2).1,if_neg (hnI j h2).2]
 have hok2:∃b cap,v'= .slice (some ⟨b,0,none⟩) (l++[[D.sl s2 l2]]).length cap∧Qj1 (Q1 own d I nl) w'.heap (d,0) 1 (l++[[.sl s2 l2]]) 2 b cap:=by
  rcases hok with⟨_,h2,_⟩|⟨b,cap,h1,cc,e,G,a1,a2,a3,a4,a5,a6,a7,a8⟩
  ·simp at h2
  ·exact⟨b,cap,h1,cc,e,G,a1,a2,a3,a4,a5,a6,a7,fun h=>by cases h⟩
 obtain⟨b0,cap0,hv0,hA⟩:=hok2;have k:Qav own (Q1 own d I nl) w.heap w'.heap s (s.put (some d) (.one (.osl (d,0))) [(id,.dead),(id2,.inn (d,0) l.length 0),((d,0),.arr 1 (l++[[.sl s2 l2]]) 2)]):=by
  refine⟨St.put_bs _ _ _ _,fun b hb=>⟨⟨by have:=hb.1;omega,fun i hm=>?_⟩,hheap b hb.1 fun i _=>hb.2 i⟩,St.put_row s (some d) _ _,fun i hid=>?_,fun i sz' l' dp' j i' off hrow h1 h2 v hv1 hv=>?_⟩
  ·by_cases h1:i=(d,0)
   ·subst h1
    rw[hownD]at hm;rcases(hnl b hm).2 with h|⟨j,_,h⟩
    ·have:=hb.1;omega
    ·exact hb.2 j h
   ·by_cases h2:i∈I
    ·rw[hownI i h2]at hm;cases hm
    ·rw[hown i h1 h2]at hm;exact hb.2 i hm
  ·by_cases h2:i∈I
   ·rw[hIe]at h2
    simp only[KI,YK,or_false]at h2
    rcases h2 with rfl|rfl
    ·rw[hob,if_neg hdn,if_neg (Ne.symm hne),if_pos rfl];exact .dead _
    ·rw[hob,if_neg hdn2,if_pos rfl,ho2];exact .inn _ _ _ _ _ _
   ·rw[hobn i (hne2 i hid) h2]
    refine .same _ (hown i (hne2 i hid) h2) fun b hb=>hheap b (c.lt i b hb).1 fun j hj hbj=>?_
    have:=c.disj i j b hb hbj
    subst this;exact h2 hj
  ·rw[hob]at h2
   rw[if_neg (hne2 i hrow)]at h2
   by_cases e2:i=id2
   ·subst e2
    rw[if_pos rfl]at h2;simp only[Ob.inn.injEq]at h2
    obtain⟨rfl,rfl,rfl⟩:=h2;rw[ho2]at h1;simp only[Ob.arr.injEq]at h1
    obtain⟨rfl,rfl,rfl⟩:=h1;obtain⟨b,cap,cc,e,q1,q2,q3⟩:=hcell v hv;refine⟨hv1,St.put_dst s d _ _,?_⟩
    rw[hobD];intro _;rw[hv0]at q1;simp only[Value.slice.injEq,KA,Addr.mk.injEq]at q1
    obtain⟨⟨rfl,_⟩,_,rfl⟩:=q1;exact⟨b0,cap0,cc,e,hA,q2,by decide,by simp,by simpa using q3⟩
   ·rw[if_neg e2]at h2
    split at h2
    ·cases h2
    ·rw[h1]at h2;cases h2
 refine c.turn k ho ht hp hg (fun x hx=>by cases hx;exact hd) (fun j b hb=>?_) (fun j=>?_) (fun j j' b h1 h2=>?_) (fun j=>?_) ?_
 ·by_cases h1:j=(d,0)
  ·subst h1
   rw[hownD]at hb;obtain⟨q1,q2⟩:=hnl b hb;refine⟨q1,?_⟩
   rcases q2 with q2|⟨i,_,q2⟩
   ·exact .inl (by have:=c.grow;omega)
   ·exact(c.lt i b q2).2
  ·by_cases h2:j∈I
   ·rw[hownI j h2]at hb;cases hb
   ·rw[hown j h1 h2]at hb
    have:=c.lt j b hb
    exact⟨by omega,this.2⟩
 ·by_cases h1:j=(d,0)
  ·subst h1;rw[hownD];exact hnd
  ·by_cases h2:j∈I
   ·rw[hownI j h2];simp
   ·rw[hown j h1 h2];exact c.nodup j
 ·have key:∀j b,b∈Q1 own d I nl j→(j=(d,0)∧(w.heap.size≤b∨∃id,id∈I∧b∈own id))∨(j≠(d,0)∧j∉I∧b∈own j):=fun j b hb=>by
   by_cases h1:j=(d,0)
   ·subst h1;rw[hownD]at hb;exact .inl ⟨rfl,(hnl b hb).2⟩
   ·by_cases h2:j∈I
    ·rw[hownI j h2]at hb;cases hb
    ·rw[hown j h1 h2]at hb;exact .inr ⟨h1,h2,hb⟩
  rcases key j b h1 with⟨rfl,q⟩|⟨n1,n2,q⟩
  ·rcases key j' b h2 with⟨rfl,_⟩|⟨m1,m2,q'⟩
   ·rfl
   ·exfalso
    rcases q with q|⟨i,hi,q⟩
    ·have:=(c.lt j' b q').1;omega
    ·exact m2 (c.disj i j' b q q'▸hi)
  ·rcases key j' b h2 with⟨rfl,q'⟩|⟨m1,m2,q'⟩
   ·exfalso
    rcases q' with q'|⟨i,hi,q'⟩
    ·have:=(c.lt j b q).1;omega
    ·exact n2 (c.disj i j b q' q▸hi)
   ·exact c.disj j j' b q q'
 ·by_cases h1:j=(d,0)
  ·subst h1;rw[hobD];trivial
  ·by_cases h2:j∈I
   ·rw[hob,if_neg h1]
    split
    ·trivial
    ·split
     ·trivial
     ·rename_i n1 n2
      rw[hIe]at h2;simp only[KI,YK,or_false]at h2
      rcases h2 with rfl|rfl
      ·exact absurd rfl n2
      ·exact absurd rfl n1
   ·have:=Qc4.keep (id:=j) k (hobn j h1 h2) (hown j h1 h2) (fun b hb=>hheap b (c.lt j b hb).1 fun i hi hbi=>by
     have:=c.disj j i b hb hbi
     subst this;exact h2 hi) (c.obs j)
    exact this
 ·refine⟨by rw[hv0];rfl,St.put_dst s d _ _,?_⟩
  rw[hobD];exact .inr ⟨b0,cap0,hv0,hA⟩
theorem QaX.det{id:Id}{sz dp:Nat}{l:List (List D)}{v v2:Value}(hsz:0<sz)(h1:QaX own h id sz l dp v)(h2:QaX own h id sz l dp v2):v=v2:=by
 rcases h1 with⟨a1,_,a3⟩|⟨b,cap,a1,c,e,G,a2,a3,a4,a5,a6,_⟩
 ·rcases h2 with⟨b1,_,_⟩|⟨b,cap,b1,c,e,G,b2,_⟩
  ·rw[a1,b1]
  ·rw[a3]at b2;cases b2
 ·rcases h2 with⟨_,_,b3⟩|⟨b',cap',b1,c',e',G',b2,b3,b4,b5,b6,_⟩
  ·rw[a2]at b3;cases b3
  ·rw[a2]at b2
   simp only[YO]at b2
   obtain⟨rfl,_⟩:=b2;rw[a3]at b3;simp only[KA,Obj.cells.injEq]at b3
   obtain⟨rfl,_⟩:=b3;rw[a6]at b6;have:=Nat.eq_of_mul_eq_mul_right hsz b6
   rw[a1,b1,this]
theorem Qof{t ty e:TypeId}{y:TyI}{tv uv:Value}{l m:List (List D)}{dp dp':Nat}{oid oid2:Option Id}(hu:X.P.underlying t=some (.slice e))(hy:Qb9 X.P e y)(hsz:0<y.size)(c:Qt X own s a w)(hd:X.dok d=true)(hfs:Qfd s d)
  (ht:Qs1 own w.heap y.size l dp tv oid) (hor:∀id,oid=some id→s.sl id.1≠ .any) (hs:Qz2 own w s y.size dp m dp' uv oid2) (hne:∀id,oid=some id→oid2≠some id) (h63:l.length+m.length≤maxLen) (hby:(l.length+m.length)*y.bytes≤140737488355328):
  ∃v' w' nl,(Builtin.append_ #[t,t] ty #[tv,uv]).run X.P w= .ok v' w'∧
   Qt X (Q1 own d (oid.toList++oid2.toList) nl) (s.put (some d) (.one (.fr (d,0) y.size (l++m) dp')) ((oid.toList++oid2.toList).map fun id=>(id,Ob.dead))) (a.put (some d) v') w':=by
 obtain⟨news,Gm,s1,s2,s3,s4⟩:=hs;obtain⟨v',w',nl,r1,r2,r3,r4,r5,hI,g1,g2,g3,g4,_⟩:=Qio (ty:=ty) hu hy hsz c hd hfs ht hor s1 s2 s3 s4 hne h63 hby
 exact⟨v',w',nl,r1,c.take hd hfs hI r2 r3 r4 r5 g1 g2 g3 fun _=>g4⟩
theorem QsW{t:TypeId}{x' y':Operand}(hty:∀t y,T.ty t=some y→Qb9 X.P t y)(c:Qt X own s a w)(hd:∀x,dst=some x→X.dok x=true)(hdd:d=dst.getD 0)(hfr:fresh=true→Qr s dst=true)
  (hx:∀x∈(#[x',y']:Array Operand),QM own w.heap s (ρ x) (a.eval x)) (hf:QCK T d s.ob fresh t (ρ x') (ρ y')=some (p,v,us)) (hp:p):QbE X s a w ⟨dst,.call ⟨.builtin .append,#[x',y'],#[t,t]⟩,type,pos,after,guard⟩ v us:=by
 have hX:=hx x' (by simp)
 have hY:=hx y' (by simp)
 unfold QCK at hf;split at hf
 ·rename_i id id1 s1 id2 sz by_ ag eq e zr e1 e2 hyt
  rw[e1]at hX;rw[e2]at hY;have hu:=(hty t _ hyt).2.2.2.2
  simp only at hu
  split at hf
  ·rename_i yi sx l dp s2 l2 dp2 hye o1 o2 o3 o4
   simp only[KA,KC]at hf
   obtain⟨rfl,rfl,rfl⟩:=hf;obtain⟨g1,g2,g3,hdp,hdp2,hne,hfresh,h63,hby,hs2⟩:=hp;obtain⟨dd,rfl,hfs⟩:=Qau (hfr hfresh);obtain rfl:d=dd:=hdd;have hty':=hty e yi hye
   have hA1:=hX.2.2
   rw[o1]at hA1;have ht:Qs1 own w.heap yi.size l dp (a.eval x') (some id):=by
    rw[←g1];rcases hA1 with⟨q1,q2,q3⟩|⟨b,cap,q1,q2⟩
    ·exact .inl ⟨q1,q2,fun i hi=>by cases hi;exact q3⟩
    ·exact .inr ⟨id,b,cap,rfl,q1,q2⟩
   obtain⟨b1,c1,ee1,k1,k2,k3,k4,k5,k6,k7⟩:=hY.2.2 o2;have hg6:s1=1:=by rw[g2,g3]
   cases hk7:c1.toList with
   | nil=>rw[hk7]at k7;cases k7
   | cons v0 vr=>
    rw[hk7]at k7;cases k7 with
    | cons hc0 hr0=>
     cases hr0
     have hA2:=hc0.2.2
     rw[o3]at hA2;have hsz1:c1.size=1:=by rw[k4,hg6];rfl
     have s1v:QCI w yi.size (a.eval y') ([[D.sl s2 l2]]:List (List D)).length [v0]:=by
      refine .inr ⟨⟨b1,0,none⟩,1,k1,by rw[g3];rfl,fun j x hj=>?_⟩
      rw[QbK,Qb0 rfl k3];rw[←hk7]at hj;simpa using hj
     obtain⟨m2,hR⟩:∃G,Qn true w.heap [D.sl s2 l2] [v0] G∧G=own id2:=by
      rcases hA2 with⟨q1,q2,q3⟩|⟨b,cap,q1,cc,e',G,q2,q3,q4,q5,q6,q7,q8,q9⟩
      ·subst q2;rw[q1,q3];exact⟨[],.none (fun _=>rfl) .nil,rfl⟩
      ·rw[q1]
       refine⟨b::(G++[]),.sl (fun _=>⟨rfl,rfl,q6⟩) q3 q4 q5 (by rw[Ya,q6];exact Ka _ q4) q7 ?_ .nil,by rw[q2,if_neg hdp2,KM]⟩
       rw[bne_iff_ne.2 hdp2]at q8;simpa using q8
     obtain⟨hR1,hR2⟩:=hR;obtain⟨v',w',nl,r1,r2,r3,r4,r5,hI,f1,f2,f3,f4,f5⟩:=Qio (ty:=type) (dp':=1) (oid:=some id) (oid2:=some id2) (Gm:=m2) (m:=[[D.sl s2 l2]]) hu.1 hty' (by rw[g3];decide) c (hd d rfl) hfs ht (fun i hi=>by cases hi;exact hX.2.1) s1v (by rw[g3];simp)
      (by simpa using hR1) (.inr (.inl ⟨id2,rfl,hR2,hc0.2.1,hdp,rfl⟩)) (fun i hi h2=>by cases hi;cases h2;exact hne rfl) (by simpa using h63) (by simpa using hby)
     obtain⟨bb,cap,cc,ec,p1,p2,⟨xs,p3,p4⟩,_⟩:=f5 (by simp)
     rw[g3]at f4 p3 p4;have hI2:(some id).toList++(some id2).toList=[id,id2]:=rfl
     rw[hI2]at hI f1 f2 f4;have fin:=c.takeI (hd d rfl) hfs hI hne o3 r2 r3 r4 r5 f1 f2 f3 f4 fun v hv=>by
      have hvv:=QaX.det hs2 hv hA2
      refine⟨bb,cap,cc,ec,p1,p2,?_⟩
      have:(cc.toList.take ((l.length+1)*1))[l.length]? =some v:=by
       have p4':cc.toList.take ((l.length+1)*1)=xs++[v0]:=p4
       rw[p4',List.getElem?_append_right (by omega),p3,hvv]
       simp
      rw[Ky (by omega)]at this
      simpa using this
     refine QbE.of_value (u:=v') (w':=w') ?_ fin
     simp only[execOp,resolve,invoke,builtin,Sem.run_bind,Sem.run_pure,Result.andThen_ok]
     simp only[Array.map,←Array.toList_map]at r1 ⊢
     simp[r1]
  ·cases hf
 ·cases hf
theorem QsV{t:TypeId}{x' y':Operand}(hty:∀t y,T.ty t=some y→Qb9 X.P t y)(c:Qt X own s a w)(hd:∀x,dst=some x→X.dok x=true)(hdd:d=dst.getD 0)(hfr:fresh=true→Qr s dst=true)
  (hx:∀x∈(#[x',y']:Array Operand),QM own w.heap s (ρ x) (a.eval x)) (hf:QCJ T d s.ob fresh t (ρ x') (ρ y')=some (p,v,us)) (hp:p):QbE X s a w ⟨dst,.call ⟨.builtin .append,#[x',y'],#[t,t]⟩,type,pos,after,guard⟩ v us:=by
 unfold QCJ at hf;split at hf
 ·rename_i e _ hyt
  have hu:=(hty t _ hyt).2.2.2.2
  simp only at hu
  split at hf
  ·rename_i yi hye
   split at hf
   ·rename_i l dp us1 htgt
    split at hf
    ·rename_i q m dp' us2 hsrc
     simp only[KA,KC]at hf
     obtain⟨rfl,rfl,rfl⟩:=hf;obtain⟨hq,hsz,hfresh,h63,hby⟩:=hp;obtain⟨dd,rfl,hfs⟩:=Qau (hfr hfresh);obtain rfl:d=dd:=hdd;obtain⟨oid,rfl,hor,ht⟩:=Qid htgt (hx x' (by simp))
     obtain⟨oid2,rfl,hne,hs⟩:=QyR (us0:=oid.toList.map fun id=>(id,Ob.dead)) (fun q hq=>by obtain⟨_,_,rfl⟩:=KQ.1 hq;rfl) hsrc hq (hx y' (by simp))
     obtain⟨v',w',nl,f1,f2⟩:=Qof (ty:=type) hu.1 (hty e yi hye) hsz c (hd d rfl) hfs ht hor hs (fun id hid h2=>hne id h2 (by simp[hid])) h63 hby
     rw[Kv]at f2;refine QbE.of_value (u:=v') (w':=w') ?_ f2
     simp only[execOp,resolve,invoke,builtin,Sem.run_bind,Sem.run_pure,Result.andThen_ok]
     simp only[Array.map,←Array.toList_map]at f1 ⊢
     simp[f1]
    ·cases hf
   ·cases hf
  ·cases hf
 ·cases hf
end
end
section
variable {hd:Hid}
section
variable {X:Ctx} {T:QS} {own own':Id→List Nat} {s:St} {w w':World} {a:Act} {h h':Q6}
theorem Qt.mutTurn{ids:List Id}{us:List (Id×Ob)}{dst:Option Nat}{av:AV}{u:Value}{d:Nat}{os:List (List Nat)}(c:Qt X own s a w)(hd:∀x,dst=some x→X.dok x=true)
  (ho:w'.os=w.os) (ht:w'.tape=w.tape) (hp:w'.output=w.output) (hg:w.heap.size≤w'.heap.size)
  (h1:∀id,id∉ids→own' id=own id) (hnd:∀id∈ids,(own' id).Nodup) (hdj:∀id∈ids,∀id'∈ids,∀b,b∈own' id→b∈own' id'→id=id')
  (hlt:∀id∈ids,∀b∈own' id,b<w'.heap.size∧(w.heap.size≤b∨∃id2∈ids,b∈own id2))
  (hold:∀b,b<w.heap.size→(∀id∈ids,b∉own id)→w'.heap[b]? =w.heap[b]?)
  (hfr:os≠[]→∃d',dst=some d'∧d=d'∧Qfd s d') (h4:os.length≤4) (hos:∀b∈os.flatten,w.heap.size≤b∧b<w'.heap.size) (hosn:os.flatten.Nodup) (hosd:∀id∈ids,∀b∈own' id,b∉os.flatten)
  (hne:∀id∈ids,s.ob id≠ .none∨s.sl id.1≠ .any)
  (hob0:∀id,id∉ids→Q7 s.ob us id=s.ob id) (hni:∀id∈ids,∀j i off,Q7 s.ob us id≠ .inn j i off)
  (hobI:∀id∈ids,Qc4 (QU own' d false os) w'.heap (s.put dst av us) id (Q7 s.ob us id))
  (htr:∀own2:Id→List Nat,(∀id∈ids,own2 id=own' id)→∀id∈ids,QfG own own2 w.heap w'.heap id (s.ob id) (Q7 s.ob us id))
  (hv:Qav own (QU own' d false os) w.heap w'.heap s (s.put dst av us)→QM (QU own' d false os) w'.heap (s.put dst av us) av u):Qt X (QU own' d false os) (s.put dst av us) (a.put dst u) w':=by
 have oc:∀id:Id,(QU own' d false os id=own' id)∨(id.1=d∧os[id.2]? =some (QU own' d false os id)∧Qfd s d∧id∉ids):=fun id=>by
  unfold QU;split
  ·rename_i hc
   cases hm:os[id.2]? with
   | none=>exact .inl rfl
   | some m=>
    obtain⟨d',_,e2,e3⟩:=hfr (fun h0=>by rw[h0]at hm;simp at hm)
    subst e2;refine .inr ⟨hc.2,by simp,e3,fun hi=>(hne id hi).elim (fun hne=>hne ?_) fun hne=>hne (by rw[hc.2];exact e3.row)⟩
    have hlt4:id.2<4:=by
     have:=(K5.1 hm).1
     omega
    have:=e3.ob id.2 hlt4
    rwa [←hc.2]at this
  ·exact .inl rfl
 have os_mem:∀(k:Nat) m b,os[k]? =some m→b∈m→b∈os.flatten:=fun k m b hm hb=>Kf.2 ⟨_,Ki hm,hb⟩
 have oid:∀id∈ids,QU own' d false os id=own' id:=fun id hi=>by
  rcases oc id with h|⟨_,_,_,h⟩
  ·exact h
  ·exact absurd hi h
 have k:Qav own (QU own' d false os) w.heap w'.heap s (s.put dst av us):=by
  refine⟨St.put_bs _ _ _ _,fun b hb=>⟨⟨by have:=hb.1;omega,fun id hm=>?_⟩,hold b hb.1 fun id _=>hb.2 id⟩,St.put_row s dst av us,fun id hid=>?_,fun id _ _ _ _ _ _ _ q1 q2=>Qeu q1 q2 (by
   rw[St.put_ob]
   by_cases hi:id∈ids
   ·exact .inr (hni id hi)
   ·exact .inl (hob0 id hi))⟩
  ·rcases oc id with e|⟨_,e,_,_⟩
   ·rw[e]at hm
    by_cases hi:id∈ids
    ·rcases(hlt id hi b hm).2 with q|⟨id2,_,q⟩
     ·have:=hb.1;omega
     ·exact hb.2 id2 q
    ·rw[h1 id hi]at hm;exact hb.2 id hm
   ·have:=(hos b (os_mem _ _ _ e hm)).1
    have:=hb.1
    omega
  ·rw[St.put_ob]
   by_cases hi:id∈ids
   ·exact htr _ oid id hi
   ·rw[hob0 id hi]
    have e:QU own' d false os id=own' id:=by
     rcases oc id with e|⟨e1,_,e3,_⟩
     ·exact e
     ·exact absurd (by rw[e1];exact e3.row) hid
    exact .same _ (e.trans (h1 id hi)) fun b hb=>hold b (c.lt id b hb).1 fun id2 h2 hb2=>hi (c.disj id id2 b hb hb2▸h2)
 have cs:∀id b,b∈QU own' d false os id→(id∈ids∧b∈own' id)∨(id∉ids∧b∈own id)∨(id.1=d∧os[id.2]? =some (QU own' d false os id)∧b∈os.flatten):=fun id b hb=>by
  rcases oc id with e|⟨e1,e,_,e4⟩
  ·rw[e]at hb
   by_cases hi:id∈ids
   ·exact .inl ⟨hi,hb⟩
   ·rw[h1 id hi]at hb;exact .inr (.inl ⟨hi,hb⟩)
  ·exact .inr (.inr ⟨e1,e,os_mem _ _ _ e hb⟩)
 have mixed:∀{id id' b},id∈ids→b∈own' id→id'∉ids→b∈own id'→False:=fun {id id' b} hi hb hi' hb'=>by
  rcases(hlt id hi b hb).2 with q|⟨id2,q0,q⟩
  ·have:=(c.lt id' b hb').1;omega
  ·exact absurd (c.disj id2 id' b q hb'▸q0) hi'
 refine c.turn k ho ht hp hg hd (fun id b hb=>?_) (fun id=>?_) (fun id id' b hb hb'=>?_) (fun id=>?_) (hv k)
 ·rcases cs id b hb with⟨hi,hb⟩|⟨hi,hb⟩|⟨_,_,hb⟩
  ·obtain⟨q1,q2⟩:=hlt id hi b hb
   refine⟨q1,?_⟩
   rcases q2 with q|⟨id2,_,q⟩
   ·exact .inl (by have:=c.grow;omega)
   ·exact(c.lt id2 b q).2
  ·have:=c.lt id b hb
   exact⟨by omega,this.2⟩
  ·have:=hos b hb
   exact⟨this.2,.inl (by have:=c.grow;omega)⟩
 ·rcases oc id with e|⟨_,e,_,_⟩
  ·rw[e]
   by_cases hi:id∈ids
   ·exact hnd id hi
   ·rw[h1 id hi];exact c.nodup id
  ·exact Qac hosn (Ki e)
 ·rcases cs id b hb with⟨hi,q⟩|⟨hi,q⟩|⟨e1,e2,q⟩
  ·rcases cs id' b hb' with⟨hi',q'⟩|⟨hi',q'⟩|⟨_,_,q'⟩
   ·exact hdj id hi id' hi' b q q'
   ·exact(mixed hi q hi' q').elim
   ·exact absurd q' (hosd id hi b q)
  ·rcases cs id' b hb' with⟨hi',q'⟩|⟨hi',q'⟩|⟨_,_,q'⟩
   ·exact(mixed hi' q' hi q).elim
   ·exact c.disj id id' b q q'
   ·have:=(c.lt id b q).1
    have:=(hos b q').1
    omega
  ·rcases cs id' b hb' with⟨hi',q'⟩|⟨hi',q'⟩|⟨e1',e2',q'⟩
   ·exact absurd q (hosd id' hi' b q')
   ·have:=(c.lt id' b q').1
    have:=(hos b q).1
    omega
   ·exact Prod.ext (e1.trans e1'.symm) (QaQ hosn e2 e2' hb hb')
 ·rw[St.put_ob]
  by_cases hi:id∈ids
  ·exact hobI id hi
  ·rcases oc id with e|⟨e1,e2,e3,_⟩
   ·have:=Qc4.keep (id:=id) k (by rw[St.put_ob];exact hob0 id hi) (e.trans (h1 id hi)) (fun b hb=>hold b (c.lt id b hb).1 fun id2 h2 hb2=>hi (c.disj id id2 b hb hb2▸h2)) (c.obs id)
    rwa [St.put_ob]at this
   ·have:s.ob id= .none:=by
     have hlt4:id.2<4:=by
      have:=(K5.1 e2).1
      omega
     have:=e3.ob id.2 hlt4
     rwa [←e1]at this
    rw[hob0 id hi,this];trivial
theorem Qar.repsW{m F:List Nat}{sz:Nat}{l:List (List D)}{dp:Nat}{v:Value}(q:Qar h m F sz l dp v)(hd:dp≠0):Qn true h [.sl sz l] [v] m:=by
 rcases q with⟨rfl,rfl,rfl,rfl⟩|⟨b,cap,c,e,G,rfl,rfl,rfl,a2,a3,a4,a5,a6,a7⟩
 ·exact .none (fun _=>rfl) .nil
 ·rw[bne_iff_ne.2 hd]at a7
  rw[if_neg hd];have:=Qn.sl (W:=true) (off:=0) (ds:=[]) (vs:=[]) (F:=[]) (fun _=>⟨rfl,rfl,a5⟩) a2 a3 a4 (by have:=Ka sz a3;omega) a6 (by simpa using a7) .nil
  simpa using this
theorem Qar.of_repsW{m:List Nat}{sz:Nat}{l:List (List D)}{v:Value}(r:Qn true h [.sl sz l] [v] m):Qar h m [] sz l 1 v:=by
 rcases r.sl_invW with⟨a0,rfl,rfl,rfl,h0⟩|⟨b,off,cap,c,e,fz,G,rfl,a1,a2,a3,a4,a5,a6,rfl,h0⟩
 ·obtain rfl:=h0 rfl
  exact .inl ⟨rfl,rfl,rfl,rfl⟩
 ·obtain⟨rfl,rfl,h1⟩:=h0 rfl
  exact .inr ⟨b,cap,c,e,G,rfl,rfl,rfl,a1,a2,a3,h1,a5,by simpa using a6⟩
def Qmp [Hid] (own:Id→List Nat)(h h':Q6)(s:St)(us:List (Id×Ob))(id:Id)(m':List Nat):Prop:=
 ∃sz l dp l' dp' x,s.ob id= .arr sz l dp∧dp≠0∧0<sz∧(id,Ob.arr sz l' 1)∈us∧QaX own h id sz l dp x∧Qar h' m' [] sz l' dp' x∧dp'≠0
theorem Qmp.trans{us:List (Id×Ob)}{id:Id}{m':List Nat}(hn:(us.map (·.1)).Nodup)(q:Qmp own h h' s us id m')(ho:own' id=m'):
  QfG own own' h h' id (s.ob id) (Q7 s.ob us id)∧∃sz l dp,Q7 s.ob us id= .arr sz l dp:=by
 obtain⟨sz,l,dp,l',dp',x,e1,h0,hsz,hus,hA,hB,h0'⟩:=q;have e2:=Qbk hn s.ob id _ hus
 rw[e1,e2];refine⟨?_,_,_,_,rfl⟩
 rcases hA with⟨rfl,rfl,e3⟩|⟨b,cap,rfl,hb⟩
 ·rcases hB with⟨_,rfl,rfl,_⟩|⟨b',cap',c',e',G',q1,_⟩
  ·exact .upd _ _ _ _ _ (fun _=>ho) rfl (fun b cap hb=>by obtain⟨_,_,_,q,_⟩:=hb;rw[e3]at q;cases q) (fun h=>by cases h)
  ·cases q1
 ·rcases hB with⟨q1,_⟩|⟨b',cap',c',e',G',q1,rfl,_,a2,a3,a4,a5,a6,a7⟩
  ·cases q1
  ·simp only[Value.slice.injEq,KA,Addr.mk.injEq,and_true]at q1
   obtain⟨rfl,q2,rfl⟩:=q1;refine .upd _ _ _ _ _ (fun hh=>?_) q2.symm (fun b2 cap2 hb2=>?_) (fun h=>by cases h)
   ·obtain⟨_,_,_,q,_⟩:=hb;rw[hh]at q;cases q
   ·obtain⟨c,e,G,f1,f2,f3,f4,f5,f6,f7,f8⟩:=hb
    obtain⟨c2,e2,G2,g1,g2,g3,g4,g5,g6,g7,g8⟩:=hb2;rw[f1]at g1;obtain⟨rfl,_⟩:=List.cons.inj g1;rw[f2]at g2;simp only[KA,Obj.cells.injEq]at g2
    obtain⟨rfl,_⟩:=g2;have hcap:cap2=cap:=Nat.eq_of_mul_eq_mul_right hsz (g5.symm.trans f5)
    subst hcap;rw[bne_iff_ne.2 h0']at a7;exact⟨c',e',G',by rw[ho];simp[h0'],a2,a3,a4,a5,a6,a7,fun h=>by cases h⟩
def Qhv:List Id→List (List Nat)→(Id→List Nat)→Id→List Nat
 | i::is,m::ms,f=>fun j=>if j=i then m else Qhv is ms f j
 | _,_,f=>f
theorem QCE{P:Id→List Nat→Prop}{f:Id→List Nat}{ids:List Id}{ms:List (List Nat)}(q:Qas P ids ms){j:Id}(hj:j∉ids):Qhv ids ms f j=f j:=by
 induction q with
 | nil=>rfl
 | cons _ _ ih=>
  simp only[KI,not_or]at hj
  simp only[Qhv,if_neg hj.1]
  exact ih hj.2
theorem QCD{P:Id→List Nat→Prop}{f:Id→List Nat}{ids:List Id}{ms:List (List Nat)}(q:Qas P ids ms)(hn:ids.Nodup):∀{id:Id},id∈ids→∃k:Nat,ids[k]? =some id∧∃m',ms[k]? =some m'∧P id m'∧Qhv ids ms f id=m':=by
 induction q with
 | nil=>intro id h;cases h
 | @cons i m is ms h1 h2 ih=>
  intro id hid;rw[Ke]at hn;rcases KI.1 hid with rfl|hid
  ·exact⟨0,rfl,m,rfl,h1,by simp[Qhv]⟩
  ·obtain⟨k,e1,m',e2,e3,e4⟩:=ih hn.2 hid
   have hne:id≠i:=fun e=>hn.1 (e▸hid)
   exact⟨k+1,by simpa using e1,m',by simpa using e2,e3,by simp only[Qhv,if_neg hne];exact e4⟩
def QCH [Hid] (nw:Bool)(own:Id→List Nat)(h:Q6)(s:St)(x:Value)(a0 a1:Arg)(us:List (Id×Ob)):Prop:=
 ∃(F0:List Nat) (Ms:List (List Nat)) (ids:List Id),Qbi h a0 x F0 Ms∧Ms.flatten.Nodup∧(∀b∈F0,Imm own h b∧(nw=true→s.bs b))∧(∀b∈Ms.flatten,∃id∈ids,b∈own id)∧(∀id,id∉ids→Q7 s.ob us id=s.ob id)∧(∀id∈ids,s.ob id≠ .none)∧
  ∀h' F2 Ms',Qbi h' a1 x F2 Ms'→Ms'.flatten.Nodup→(∀b∈Ms'.flatten,b<h'.size∧(h.size≤b∨b∈Ms.flatten))→h.size≤h'.size→(∀b,b<h.size→b∉Ms.flatten→h'[b]? =h[b]?)→
   ∃own':Id→List Nat,(∀id,id∉ids→own' id=own id)∧(∀id∈ids,(own' id).Nodup)∧(∀id∈ids,∀id'∈ids,∀b,b∈own' id→b∈own' id'→id=id')∧
    (∀id∈ids,∀b∈own' id,b<h'.size∧((h.size≤b∧b∈Ms'.flatten)∨∃id2∈ids,b∈own id2))∧(∀own2:Id→List Nat,(∀id∈ids,own2 id=own' id)→∀id∈ids,QfG own own2 h h' id (s.ob id) (Q7 s.ob us id))∧(∀id∈ids,(∃sz l dp,Q7 s.ob us id= .arr sz l dp)∨∃(ds:List D) (b:Nat) (c:Array Value) (e:TypeId),Q7 s.ob us id= .box (ds.map (QbL nw))∧own' id=[b]∧h'[b]? =some (.cells c e (0,0))∧Qbl h' ds c.toList F2)
theorem Qrv{us:List (Id×Ob)}:∀(g:Id→Ob) (k:Id),k∉us.map (·.1)→Q7 g us k=g k:=by
 induction us with
 | nil=>intros;rfl
 | cons q us ih=>
  intro g k hk;obtain⟨i,o⟩:=q;simp only[List.map_cons,KI,not_or]at hk
  rw[Q7,ih _ k hk.2,if_neg hk.1]
theorem QqW{nw:Bool}(hnw:nw=false){x:Value}{a0 a1:Arg}{us:List (Id×Ob)}{F0:List Nat}(hn:(us.map (·.1)).Nodup)(hdis:∀id id' b,b∈own id→b∈own id'→id=id')(hnd:∀id,(own id).Nodup)(hA:Qbi h a0 x F0 ((us.map (·.1)).map own))(hF:∀b∈F0,Imm own h b)
  (hP:∀h' F2 Ms',Qbi h' a1 x F2 Ms'→Qas (Qmp own h h' s us) (us.map (·.1)) Ms') (hne:∀id∈us.map (·.1),s.ob id≠ .none):QCH nw own h s x a0 a1 us:=by
 refine⟨F0,_,us.map (·.1),hA,?_,fun b hb=>⟨hF b hb,fun h=>by rw[hnw]at h;cases h⟩,fun b hb=>?_,fun id hid=>Qrv _ _ hid,hne,fun h' F2 Ms' hA' hnd' hlt hg hold=>?_⟩
 ·clear hA hP
  generalize us.map (·.1)=ids at hn;induction ids with
  | nil=>simp
  | cons i is ih=>
   rw[Ke]at hn;simp only[List.map_cons,List.flatten_cons,Km]
   refine⟨hnd i,ih hn.2,fun p hp q hq e=>?_⟩
   subst e;obtain⟨m,hm,hq⟩:=Kf.1 hq;obtain⟨j,hj,rfl⟩:=KQ.1 hm;exact hn.1 (hdis i j p hp hq▸hj)
 ·obtain⟨m,hm,hb⟩:=Kf.1 hb
  obtain⟨j,hj,rfl⟩:=KQ.1 hm;exact⟨j,hj,hb⟩
 ·have hz:=hP h' F2 Ms' hA'
  have get:=fun {id:Id} (hi:id∈us.map (·.1))=>QCD (f:=own) hz hn hi
  refine⟨Qhv (us.map (·.1)) Ms' own,fun id hi=>QCE hz hi,fun id hi=>?_,fun id hi id' hi' b hb hb'=>?_,fun id hi b hb=>?_,fun own2 ho2 id hi=>?_,fun id hi=> .inl ?_⟩
  ·obtain⟨k,e1,m',e2,e3,e4⟩:=get hi
   rw[e4];exact Qac hnd' (Ki e2)
  ·obtain⟨k,e1,m',e2,e3,e4⟩:=get hi
   obtain⟨k',e1',m'',e2',e3',e4'⟩:=get hi';rw[e4]at hb;rw[e4']at hb';have:=QaQ hnd' e2 e2' hb hb'
   subst this;rw[e1]at e1';exact K0 e1'
  ·obtain⟨k,e1,m',e2,e3,e4⟩:=get hi
   rw[e4]at hb;have hbm:=Kf.2 ⟨m',Ki e2,hb⟩
   obtain⟨q1,q2⟩:=hlt b hbm;refine⟨q1,q2.imp (fun q=>⟨q,hbm⟩) fun q=>?_⟩
   obtain⟨m,hm,hb⟩:=Kf.1 q;obtain⟨j,hj,rfl⟩:=KQ.1 hm;exact⟨j,hj,hb⟩
  ·obtain⟨k,e1,m',e2,e3,e4⟩:=get hi
   exact(e3.trans hn ((ho2 id hi).trans e4)).1
  ·obtain⟨k,e1,m',e2,e3,e4⟩:=get hi
   exact(Qmp.trans (own':=Qhv (us.map (·.1)) Ms' own) hn e3 e4).2
theorem Qar.own_nil{m F:List Nat}{sz:Nat}{l:List (List D)}{dp:Nat}{v:Value}(q:Qar h m F sz l dp v)(hd:dp≠0):F=[]:=by
 rcases q with⟨_,_,_,rfl⟩|⟨b,cap,c,e,G,_,_,rfl,_⟩
 ·rfl
 ·rw[if_neg hd]
theorem Qyx{nw:Bool}(hnw:nw=false){id:Id}{sz:Nat}{l:List (List D)}{dp:Nat}{a1:Arg}{x:Value}{q:Prop}{us:List (Id×Ob)}(hdis:∀id id' b,b∈own id→b∈own id'→id=id')(hnd:∀id,(own id).Nodup)(ho:s.ob id= .arr sz l dp)(h0:dp≠0)(hx:QR own h s (.osl id) x)(hs:Qbm nw s.ob (.one (.osl id)) a1=some (q,us))(hq:q):
  QCH nw own h s x (.arr sz l dp) a1 us:=by
 have hA:=hx.2.2
 rw[ho]at hA;obtain⟨F,hA2,hF⟩:=Qar.of_ok hA;have:=hA2.own_nil h0
 subst this;cases a1 with
 | arr s' l' dp'=>
  simp only[Qbm,ho,KA,KC]at hs
  obtain⟨rfl,rfl⟩:=hs;obtain⟨rfl,hsz⟩:=hq;refine QqW hnw (F0:=[]) (by simp) hdis hnd (.arr hA2 h0) (by simp) (fun h' F2 Ms' hA'=>?_) ?_
  cases hA' with
  | arr g1 g2=>exact .cons ⟨_,l,dp,l',dp',x,ho,h0,hsz,by simp,hA,g1,g2⟩ .nil
  intro i hi;simp only[List.map_cons,List.map_nil,KH]at hi
  rw[hi,ho];simp
 | _=>simp[Qbm]at hs
theorem QlL:∀{cs:List QI} {l ns:List (D ⊕ (Nat×List (List D)×Nat))} {vs:List Value} {q:Prop} {us us0:List (Id×Ob)},QdM s.ob cs=some l→QW s.ob cs ns=some (q,us)→q→(∀z∈us,z∈us0)→Qk own h s cs vs→
  ∃F,Qc5 h l vs F ((us.map (·.1)).map own)∧(∀b∈F,Imm own h b)∧∀h' F2 Ms',Qc5 h' ns vs F2 Ms'→Qas (Qmp own h h' s us0) (us.map (·.1)) Ms'
 | [],l,ns,vs,q,us,us0,hm,hs,hq,hsub,hc=>by
  simp only[QdM,KA]at hm
  subst hm;cases ns with
  | cons=>simp[QW]at hs
  | nil=>
   simp only[QW,KA,KC]at hs
   obtain⟨rfl,rfl⟩:=hs;cases hc
   refine⟨[],.nil,by simp,fun h' F2 Ms' hM=>?_⟩
   cases hM
   exact .nil
 | c::cs,l,ns,vs,q,us,us0,hm,hs,hq,hsub,hc=>by
  cases c with
  | d y=>
   simp only[QdM]at hm
   split at hm
   ·rename_i l0 hl0
    simp only[KA]at hm
    subst hm;cases ns with
    | nil=>simp[QW]at hs
    | cons n ns=>
     cases n with
     | inr z=>simp[QW]at hs
     | inl y'=>
      simp only[QW]at hs
      cases hc with
      | cons c1 c2=>
       obtain⟨F1,r1,i1⟩:=c1;obtain⟨F,g1,g2,g3⟩:=QlL hl0 hs hq hsub c2;refine⟨F1++F,.d r1 g1,fun b hb=>(KG.1 hb).elim (i1 b) (g2 b),fun h' F2 Ms' hM=>?_⟩
       cases hM with
       | d _ hM=>exact g3 _ _ _ hM
   ·cases hm
  | osl id=>
   simp only[QdM]at hm
   split at hm
   ·rename_i sz m dp l0 ho hl0
    split at hm
    ·cases hm
    ·rename_i h0
     simp only[KA]at hm
     subst hm;cases ns with
     | nil=>simp[QW]at hs
     | cons n ns=>
      cases n with
      | inl z=>simp[QW]at hs
      | inr z=>
       obtain⟨s',l',dp'⟩:=z;simp only[QW,ho]at hs
       split at hs
       ·rename_i _ _ _ p0 us1 he hs1
        simp only[Ob.arr.injEq]at he
        obtain⟨rfl,rfl,rfl⟩:=he;simp only[KA,KC]at hs
        obtain⟨rfl,rfl⟩:=hs;obtain⟨⟨rfl,hsz⟩,hq⟩:=hq;cases hc with
        | @cons _ v _ vs c1 c2=>
         obtain⟨F,g1,g2,g3⟩:=QlL hl0 hs1 hq (fun z hz=>hsub z (by simp[hz])) c2
         have hA:=c1.2.2
         rw[ho]at hA;obtain⟨F',hA2,_⟩:=Qar.of_ok hA;have:=hA2.own_nil h0
         subst this;refine⟨F,.arr hA2 h0 g1,g2,fun h' F2 Ms' hM=>?_⟩
         cases hM with
         | arr q1 q2 hM=>exact .cons ⟨_,m,dp,l',dp',v,ho,h0,hsz,hsub _ (by simp),hA,q1,q2⟩ (g3 _ _ _ hM)
       ·cases hs
   ·cases hm
  | _=>simp[QdM]at hm
theorem QlK:∀{cs:List QI} {l ns:List (D ⊕ (Nat×List (List D)×Nat))} {q:Prop} {us:List (Id×Ob)},QdM s.ob cs=some l→QW s.ob cs ns=some (q,us)→∀id∈us.map (·.1),s.ob id≠ .none
 | [],l,ns,q,us,hm,hs=>by
  cases ns with
  | cons=>simp[QW]at hs
  | nil=>
   simp only[QW,KA,KC]at hs
   obtain⟨_,rfl⟩:=hs;simp
 | c::cs,l,ns,q,us,hm,hs=>by
  cases c with
  | d y=>
   simp only[QdM]at hm
   split at hm
   ·rename_i l0 hl0
    cases ns with
    | nil=>simp[QW]at hs
    | cons n ns=>
     cases n with
     | inr z=>simp[QW]at hs
     | inl y'=>
      simp only[QW]at hs
      exact QlK hl0 hs
   ·cases hm
  | osl id=>
   simp only[QdM]at hm
   split at hm
   ·rename_i sz m dp l0 ho hl0
    cases ns with
    | nil=>simp[QW]at hs
    | cons n ns=>
     cases n with
     | inl z=>simp[QW]at hs
     | inr z=>
      obtain⟨s',l',dp'⟩:=z;simp only[QW,ho]at hs
      split at hs
      ·rename_i _ _ _ p0 us1 he hs1
       simp only[KA,KC]at hs
       obtain⟨_,rfl⟩:=hs;intro i hi;simp only[List.map_cons,KI]at hi
       rcases hi with rfl|hi
       ·rw[ho];simp
       ·exact QlK hl0 hs1 i hi
      ·cases hs
   ·cases hm
  | _=>simp[QdM]at hm
theorem Qyw{nw:Bool}(hnw:nw=false){cs:List QI}{l:List (D ⊕ (Nat×List (List D)×Nat))}{a1:Arg}{x:Value}{q:Prop}{us:List (Id×Ob)}(hdis:∀id id' b,b∈own id→b∈own id'→id=id')(hnd:∀id,(own id).Nodup)(hm:QdM s.ob cs=some l)(hx:QM own h s (.agg cs) x)(hs:Qbm nw s.ob (.agg cs) a1=some (q,us))(hq:q)(hn:(us.map (·.1)).Nodup):
  QCH nw own h s x (.mag l) a1 us:=by
 obtain⟨vs,rfl,hc⟩:=hx;cases a1 with
 | mag ns=>
  simp only[Qbm]at hs
  obtain⟨F,g1,g2,g3⟩:=QlL hm hs hq (fun _ hz=>hz) hc
  have hne:∀id∈us.map (·.1),s.ob id≠ .none:=QlK hm hs
  refine QqW hnw hn hdis hnd (by simpa using Qbi.mag g1) g2 (fun h' F2 Ms' hA'=>?_) hne
  generalize hv:Value.agg vs=x at hA';cases hA' with
  | @mag _ vs' _ _ hM=>
   simp only[Value.agg.injEq]at hv
   subst hv;exact g3 h' F2 Ms' (by simpa using hM)
 | _=>simp[Qbm]at hs
theorem Qyv{nw:Bool}(hnw:nw=false){id:Id}{i o sz:Nat}{l:List (List D)}{s0:Nat}{r:List (List D)}{a1:Arg}{x:Value}{q:Prop}{us:List (Id×Ob)}(hdis:∀id id' b,b∈own id→b∈own id'→id=id')(hnd:∀id,(own id).Nodup)(ho:s.ob id= .arr sz l 2)(hD:(l.getD i []).getD o default= .sl s0 r)
  (hx:QR own h s (.isl id i o) x) (hs:Qbm nw s.ob (.one (.isl id i o)) a1=some (q,us)) (hq:q):QCH nw own h s x (.arr s0 r 1) a1 us:=by
 have hA:=hx.2.2
 rw[ho]at hA;obtain⟨b,cap,c,e,hB,hb,hoz,hil,hcx⟩:=hA rfl;obtain⟨c1,e1,G,f1,f2,f3,f4,f5,f6,f7,f8⟩:=_root_.id hB;rw[hb]at f2;simp only[KA,Obj.cells.injEq]at f2
 obtain⟨rfl,rfl,_⟩:=f2;rw[if_neg (by decide)]at f1
 have f7':Qn true h l.flatten (c.toList.take (l.length*sz)) G:=f7
 obtain⟨p1,p2,p3,p4⟩:=Qir f6 hil (o:=o) (n:=1) (by omega)
 have hget:l.getD i []=l[i]:=by simp[KD,hil]
 have hli:(l.getD i []).length=sz:=by rw[hget];exact f6 _ (YJ hil)
 have hone:((l.getD i []).drop o).take 1=[.sl s0 r]:=by
  rw[YX (by omega)]
  simp only[List.take_succ_cons,Kw,YO,and_true]
  rw[←hD];simp only[KD (l:=l.getD i []),Kc (show o<(l.getD i []).length by omega),YF]
 rw[hone]at p1 p3;rw[p1]at f7';obtain⟨v1,v2,F1,G2,g1,g2,r1,r2⟩:=Qn.split _ _ f7';obtain⟨v3,v4,FM,F2,g3,g4,r3,r4⟩:=Qn.split _ _ r2;subst g2 g4;have l1:=r1.length
 have l3:=r3.length
 rw[p2]at l1;match v3,l3 with
 | [y],_=>
  have hle:(i+1)*sz≤l.length*sz:=Ka _ hil
  rw[YD]at hle;have hy:y=x:=by
   have:(c.toList.take (l.length*sz))[i*sz+o]? =some y:=by rw[g1,g3,List.getElem?_append_right (by omega),←l1];simp
   rw[Ky (by omega)]at this
   have h2:c.toList[i*sz+o]? =some x:=by simpa using hcx
   rw[h2]at this;exact(K0 this).symm
  subst hy;cases a1 with
  | arr s' r' dp'=>
   simp only[Qbm,ho,hD,KA,KC]at hs
   obtain⟨rfl,rfl⟩:=hs;subst hq;have hndo:=hnd id
   rw[f1]at hndo;have hset:(l.getD i []).take o++[D.sl s' r']++(l.getD i []).drop (o+1)=(l.getD i []).set o (.sl s' r'):=by
    rw[List.set_eq_take_append_cons_drop,if_pos (by omega)];simp
   have p4':=p4 [.sl s' r']
   rw[hset]at p4';refine⟨[],[FM],[id],.arr (Qar.of_repsW r3) (by decide),?_,by simp,fun z hz=>⟨id,by simp,?_⟩,fun j hj=>?_,fun j hj=>by rw[KH.1 hj,ho];simp,fun h' F2' Ms' hA' hnd' hlt hg hold=>?_⟩
   ·simp only[List.flatten_cons,Yc,KM]
    simp only[Ke,Km]at hndo
    exact hndo.2.2.1.1
   ·simp only[List.flatten_cons,Yc,KM]at hz
    rw[f1];simp[hz]
   ·simp only[KH]at hj
    simp[Q7,hj]
   ·cases hA' with
    | @arr _ _ _ _ m' q1 q2=>
     simp only[List.flatten_cons,Yc,KM]at hnd' hlt hold
     have rN:=q1.repsW q2
     have hbn:b∉F1++(FM++F2):=by simp only[Ke]at hndo;exact hndo.1
     have hbs:b<h.size:=(Kb.1 hb).1
     have hbM:b∉FM:=fun hm=>hbn (by simp[hm])
     have hb':h'[b]? =h[b]? :=hold b hbs hbM
     have hF1:∀z∈F1,z∉FM:=fun z hz hm=>by
      simp only[Ke,Km]at hndo
      exact hndo.2.2.2 z hz z (by simp[hm]) rfl
     have hF2:∀z∈F2,z∉FM:=fun z hz hm=>by
      simp only[Ke,Km]at hndo
      exact hndo.2.2.1.2.2 z hm z hz rfl
     have r1':=r1.frame fun z hz=>hold z (r1.lt z hz) (hF1 z hz)
     have r4':=r4.frame fun z hz=>hold z (r4.lt z hz) (hF2 z hz)
     have hnew:=r1'.append (rN.append r4')
     rw[←p4']at hnew;have hcells:v1++([y]++v4)=c.toList.take (l.length*sz):=by rw[g1,g3]
     rw[hcells]at hnew;have hup:Q7 s.ob [(id,Ob.arr sz (l.set i ((l.getD i []).set o (.sl s' r'))) 2)] id= .arr sz (l.set i ((l.getD i []).set o (.sl s' r'))) 2:=by simp[Q7]
     have hlow:∀z∈m',z∈FM∨h.size≤z:=fun z hz=>(hlt z hz).2.symm
     refine⟨fun j=>if j=id then b::(F1++(m'++F2))else own j,fun j hj=>?_,fun j hj=>?_,fun j hj j' hj' z _ _=>?_,fun j hj z hz=>?_,fun own2 ho2 j hj=>?_,fun j hj=> .inl ?_⟩
     ·simp only[KH]at hj;simp[hj]
     ·simp only[KH]at hj
      subst hj;simp only[if_true]
      have big:∀z,z∈F1∨z∈F2∨z=b→¬h.size≤z:=fun z hz=>by
       rcases hz with hz|hz|rfl
       ·have:=r1.lt z hz;omega
       ·have:=r4.lt z hz;omega
       ·omega
      simp only[Ke,Km,KG,not_or]at hndo ⊢
      obtain⟨⟨u1,u2,u3⟩,u4,⟨u5,u6,u7⟩,u8⟩:=hndo;refine⟨⟨u1,fun hm=>(hlow b hm).elim u2 (big b (.inr (.inr rfl))),u3⟩,u4,⟨hnd',u6,fun z hz z' hz' e=>?_⟩,fun z hz z' hz' e=>?_⟩
      ·subst e;exact(hlow z hz).elim (fun q=>u7 z q z hz' rfl) (big z (.inr (.inl hz')))
      ·subst e
       rcases hz' with hz'|hz'
       ·exact(hlow z hz').elim (fun q=>hF1 z hz q) (big z (.inl hz))
       ·exact u8 z hz z (.inr hz') rfl
     ·simp only[KH]at hj hj';rw[hj,hj']
     ·simp only[KH]at hj
      subst hj;simp only[if_true,KI,KG]at hz
      rcases hz with rfl|hz|hz|hz
      ·exact⟨by omega,.inr ⟨j,by simp,by rw[f1];simp⟩⟩
      ·exact⟨by have:=r1.lt z hz;omega,.inr ⟨j,by simp,by rw[f1];simp[hz]⟩⟩
      ·refine⟨(hlt z hz).1,?_⟩
       rcases(hlt z hz).2 with q|q
       ·exact .inl ⟨q,by simpa using hz⟩
       ·exact .inr ⟨j,by simp,by rw[f1];simp[q]⟩
      ·exact⟨by have:=r4.lt z hz;omega,.inr ⟨j,by simp,by rw[f1];simp[hz]⟩⟩
     ·simp only[KH]at hj
      subst hj;have ho3:own2 j=b::(F1++(m'++F2)):=by rw[ho2 j (by simp)];simp
      rw[hup,ho];refine .upd _ _ _ _ _ (fun hh=>by rw[f1]at hh;cases hh) (by simp) (fun b2 cap2 hb2=>?_) (fun _=>⟨rfl,fun z hz=>?_⟩)
      ·obtain⟨c2,e2,G2,k1,k2,k3,k4,k5,k6,k7,k8⟩:=hb2
       rw[f1]at k1;obtain⟨rfl,_⟩:=List.cons.inj k1;rw[hb]at k2;simp only[KA,Obj.cells.injEq]at k2
       obtain⟨rfl,rfl,_⟩:=k2;refine⟨c,e,F1++(m'++F2),by rw[ho3];simp,hb'.trans hb,by simpa using k3,k4,k5,fun z hz=>?_,?_,fun h=>by cases h⟩
       ·rcases List.mem_or_eq_of_mem_set hz with hz|rfl
        ·exact k6 z hz
        ·rw[List.length_set];exact hli
       ·rw[List.length_set];exact hnew
      ·rw[f1]at hz
       simp only[List.head?_cons,Option.mem_def,KA]at hz
       subst hz;exact hb'
     ·simp only[KH]at hj
      subst hj;exact⟨_,_,_,hup⟩
  | _=>simp[Qbm]at hs
theorem Qyu{nw:Bool}{id:Id}{cs:List QI}{ds:List D}{a1:Arg}{x:Value}{q:Prop}{us:List (Id×Ob)}(ho:s.ob id= .box cs)(hds:Qao cs=some ds)(hob:Qc4 own h s id (s.ob id))(hnw:nw=true→cs.all QbM=true)
  (hx:QR own h s (.bptr id 0) x) (hs:Qbm nw s.ob (.one (.bptr id 0)) a1=some (q,us)) (hq:q):QCH nw own h s x (.box ds) a1 us:=by
 obtain⟨_,b,rfl,hx⟩:=hx;rw[ho]at hx hob;obtain⟨b',c,e,g1,g2,g3⟩:=hob;have hx':own id=[b]:=hx
 have:b'=b:=by rw[g1]at hx';simpa using hx'
 subst this;obtain⟨F,r,hF⟩:∃F,Qbl h ds c.toList F∧∀b∈F,Imm own h b∧(nw=true→s.bs b):=by
  cases hn:nw with
  | true=>obtain⟨F,r,hF⟩:=QcF hds (hnw hn) g3;exact⟨F,r,fun b hb=>⟨(hF b hb).1,fun _=>(hF b hb).2⟩⟩
  | false=>obtain⟨_,F,r,hF⟩:=QbB hds g3;exact⟨F,r,fun b hb=>⟨hF b hb,fun h=>by cases h⟩⟩
 cases a1 with
 | box ds'=>
  simp only[Qbm,ho,KA,KC]at hs
  obtain⟨rfl,rfl⟩:=hs;refine⟨F,[[b']],[id],.box g2 r,by simp,hF,fun z hz=>⟨id,by simp,by simpa [g1]using hz⟩,fun j hj=>?_,fun j hj=>by rw[KH.1 hj,ho];simp,fun h' F2 Ms' hA' hnd' hlt hg hold=>?_⟩
  ·simp only[KH]at hj
   simp[Q7,hj]
  ·generalize hv:Value.pointer (some ⟨b',0,none⟩)=v at hA'
   cases hA' with
   | @box _ b2 c2 e2 _ q1 q2=>
    simp only[Value.pointer.injEq,KA,Addr.mk.injEq,and_true]at hv
    subst hv;refine⟨own,fun _ _=>rfl,fun j hj=>?_,fun j hj j' hj' _ _ _=>by rw[KH.1 hj,KH.1 hj'],fun j hj z hz=>?_,fun own2 ho2 j hj=>?_,fun j hj=> .inr ⟨ds',b',c2,e2,?_,?_,q1,q2⟩⟩
    ·rw[KH.1 hj,g1];simp
    ·rw[KH.1 hj]at hz
     have hb:=(Kb.1 q1).1
     refine⟨?_,.inr ⟨id,by simp,hz⟩⟩
     rw[g1,KH]at hz;subst hz;exact hb
    ·have:=ho2 j hj
     rw[KH.1 hj]at this ⊢;rw[ho];have e3:Q7 s.ob [(id,Ob.box (ds'.map (QbL nw)))] id= .box (ds'.map (QbL nw)):=by simp[Q7]
     rw[e3];exact .boxed _ _ this
    ·rw[KH.1 hj];simp[Q7]
    ·rw[KH.1 hj];exact g1
 | _=>simp[Qbm]at hs
theorem Qyo{nw:Bool}{v0:AV}{x:Value}{a0 a1:Arg}{q:Prop}{us:List (Id×Ob)}(hdis:∀id id' b,b∈own id→b∈own id'→id=id')(hnd:∀id,(own id).Nodup)(hm:Qgb s.ob v0=some a0)(hs:Qbm nw s.ob v0 a1=some (q,us))(hq:q)(hn:(us.map (·.1)).Nodup)(hob:∀id,Qc4 own h s id (s.ob id))(hnw:nw=true→Qe8 s.ob v0=true)(hx:QM own h s v0 x):
  QCH nw own h s x a0 a1 us:=by
 unfold Qgb at hm;split at hm
 ·rename_i id
  split at hm
  ·rename_i sz l dp ho
   split at hm
   ·cases hm
   ·simp only[KA]at hm
    subst hm;exact Qyx (by cases hn2:nw with|false=>rfl|true=>have:=hnw hn2;simp[Qe8]at this) hdis hnd ho ‹_› hx hs hq
  ·cases hm
 ·rename_i id i o
  split at hm
  ·rename_i s0 l ho
   split at hm
   ·rename_i sz r hD
    simp only[KA]at hm
    subst hm;exact Qyv (by cases hn2:nw with|false=>rfl|true=>have:=hnw hn2;simp[Qe8]at this) hdis hnd ho hD hx hs hq
   ·cases hm
  ·cases hm
 ·rename_i id
  split at hm
  ·rename_i cs ho
   split at hm
   ·rename_i ds hds
    simp only[KA]at hm
    subst hm;exact Qyu ho hds (hob id) (fun h=>by have:=hnw h;simpa [Qe8,ho]using this) hx hs hq
   ·cases hm
  ·cases hm
 ·rename_i cs
  split at hm
  ·rename_i l hl
   simp only[KA]at hm
   subst hm;exact Qyw (by cases hn2:nw with|false=>rfl|true=>have:=hnw hn2;simp[Qe8]at this) hdis hnd hl hx hs hq hn
  ·cases hm
 ·cases hm
theorem Qix{d:Nat}{dst:Option Nat}{fresh:Bool}{f:FuncId}{vs:List AV}{vals:List Value}{p:Prop}{v:AV}{us:List (Id×Ob)}(hT:Qcd X.toEnv T)(c:Qt X own s a w)(hd:∀x,dst=some x→X.dok x=true)(hdd:d=dst.getD 0)
  (hfr:fresh=true→Qr s dst=true) (hvs:Qas (QM own w.heap s) vs vals) (hf:QgB T d s.ob fresh f vs=some (p,v,us)) (hp:p):
  Qe6 X.P f∧Calls X.P f vals.toArray w fun e w'=>∃u,e= .returned u∧∃own',Qt X own' (s.put dst v us) (a.put dst u) w':=by
 unfold QgB at hf;split at hf
 ·rename_i ct hct
  obtain⟨hfn,hck⟩:=hT.ct f ct hct;refine⟨hfn,?_⟩
  split at hf
  ·rename_i hmu
   obtain⟨hmu,hal⟩:=hmu;cases hvs with
   | nil=>cases hf
   | @cons v0 x vr xr hx hr=>
    dsimp only at hf;split at hf
    ·rename_i a0 as hm has
     split at hf
     ·rename_i p0 rs a1 hrun
      split at hf
      ·rename_i q us1 hset
       simp only[KA,KC]at hf
       obtain⟨rfl,rfl,rfl⟩:=hf;obtain⟨hp0,hq,hrn,hfresh,himm,hn⟩:=hp;obtain⟨F0,Ms,ids,g1,g2,g3,g4,g5,g5',g6⟩:=Qyo c.disj c.nodup hm hset hq hn c.obs (fun h=>(KB _ _ |>.mp h).2) hx
       obtain⟨F,k1,k2,k3,k4⟩:=Qda c.obs (ms:=[]) rfl has hr;have hN:X.N≤w.heap.size:=by have:=c.hN.1;have:=c.grow;omega
       have hargs:Q5 w.heap (a0::as) (x::xr) (F0++F) (Ms++[]):= .cons g1 k1
       have hFM:∀b∈F0++F,b∉(Ms++[]).flatten:=fun b hb hm=>by
        rw[KM]at hm;obtain⟨id,_,hid⟩:=g4 b hm;rcases KG.1 hb with hb|hb
        ·exact(g3 b hb).1.2.1 id hid
        ·exact(k3 himm b hb).2.1 id hid
       have hMN:∀b∈(Ms++[]).flatten,X.N≤b:=fun b hb=>by
        rw[KM]at hb;obtain⟨id,_,hid⟩:=g4 b hb;rcases(c.lt id b hid).2 with q|q
        ·have:=c.hN.1;omega
        ·exact c.hN.2 b q
       refine(hck _ _ _ _ hrun hp0 w (x::xr) (F0++F) (Ms++[]) hargs (by rw[KM];exact g2) hFM c.hJ hN hMN).mono ?_
       rintro e w' ⟨u,rfl,po⟩;refine⟨u,rfl,?_⟩
       obtain⟨F',os,F2,Ms',r1,r2,r3,r4,r5,r6,r7,r8⟩:=po.res;have hlen:=Qh9 r1
       rw[KM]at r4 r7;have hnew:∀b∈os.flatten,w.heap.size≤b∧b<w'.heap.size:=fun b hb=>by
        obtain⟨q1,q2⟩:=r4 b hb;refine⟨?_,q2⟩
        rcases q1 with q1|⟨q1,_⟩
        ·exact q1
        ·rw[hal]at q1;cases q1
       have hfro:os≠[]→∃d',dst=some d'∧d=d'∧Qfd s d':=fun ho=>by
        have:QdY rs=true:=by
         simp only[QdY,bne_iff_ne]
         rw[hlen];intro h0;exact ho (Kd h0)
        obtain⟨d',e1,e2⟩:=Qau (hfr (hfresh this));exact⟨d',e1,hdd.trans (by rw[e1];rfl),e2⟩
       rw[hmu]at r2;have hmv:Q0 [true] (x::xr)=[x]:=by
        simp only[Q0,List.headD_cons,if_true,List.tail_cons]
        rw[QbC (by rfl)]
       rw[hmv]at r2;obtain⟨F2a,Ms2,rfl,q1,hF2⟩:∃F2a Ms2,Ms'=Ms2∧Qbi w'.heap a1 x F2a Ms2∧∀b∈F2a,b∈F2:=by
        cases r2 with
        | cons h1 h2=>cases h2;exact⟨_,_,by simp,h1,fun b hb=>by simp[hb]⟩
       have hold:∀b,b<w.heap.size→b∉Ms.flatten→w'.heap[b]? =w.heap[b]? :=fun b h1 h2=>po.old b h1 (by rw[KM];exact h2)
       obtain⟨own',o1,o2,o3,o4,o5,o6⟩:=g6 w'.heap F2a Ms' q1 r6 (fun b hb=>⟨(r7 b hb).1,(r7 b hb).2.2⟩) po.grow hold
       have hosd:∀id∈ids,∀b∈own' id,b∉os.flatten:=fun id hi b hb hbo=>by
        rcases(o4 id hi b hb).2 with⟨_,q⟩|⟨id2,_,q⟩
        ·exact(r7 b q).2.1 hbo
        ·have:=(c.lt id2 b q).1
         have:=(hnew b hbo).1
         omega
       have hFimm:∀b∈F0++F,Imm own w.heap b:=fun b hb=>(KG.1 hb).elim (fun hb=>(g3 b hb).1) fun hb=>k3 himm b hb
       have himm2:∀b,b<w'.heap.size→b∉os.flatten→b∉Ms'.flatten→(w.heap.size≤b∨b∈F0++F)→Imm (QU own' d false os) w'.heap b:=fun b t1 t2 t3 t4=>by
        refine⟨t1,fun id hm=>?_,t4.elim (fun h=>c.nhN (KF c.grow h)) fun h=>(hFimm b h).2.2⟩
        have hm2:b∈own' id∨b∈os.flatten:=by
         unfold QU at hm;split at hm
         ·cases he:os[id.2]? with
          | none=>rw[he]at hm;exact .inl hm
          | some m=>rw[he]at hm;exact .inr (Kf.2 ⟨_,Ki he,hm⟩)
         ·exact .inl hm
        rcases hm2 with hm|hm
        ·by_cases hi:id∈ids
         ·rcases(o4 id hi b hm).2 with⟨_,q⟩|⟨id2,_,q⟩
          ·exact t3 q
          ·have:=(c.lt id2 b q).1
           rcases t4 with t4|t4
           ·omega
           ·exact(hFimm b t4).2.1 id2 q
         ·rw[o1 id hi]at hm
          have:=(c.lt id b hm).1
          rcases t4 with t4|t4
          ·omega
          ·exact(hFimm b t4).2.1 id hm
        ·exact t2 hm
       have hrow:os≠[]→(s.put dst (Qjn d true false rs) us1).sl d≠ .any:=fun ho=>by
        obtain⟨d',e1,e2,_⟩:=hfro ho;rw[e1,e2];exact St.put_dst s d' _ _
       refine⟨QU own' d false os,c.mutTurn (ids:=ids) hd po.os po.tape po.output po.grow o1 o2 o3 (fun id hi b hb=>⟨(o4 id hi b hb).1,(o4 id hi b hb).2.imp (fun q=>q.1) fun q=>q⟩) (fun b h1 h2=>hold b h1 fun hm=>?_) hfro (by rw[←hlen];exact hrn) hnew r3 hosd (fun id hi=> .inl (g5' id hi)) g5 (fun id hi j i off h=>by rcases o6 id hi with⟨sz,l,dp,e⟩|⟨ds,b,cc,ce,e,_⟩<;>rw[e]at h<;>cases h) (fun id hi=>?_) o5 fun k=>?_⟩
       ·obtain⟨id,hi,hid⟩:=g4 b hm
        exact h2 id hi hid
       ·rcases o6 id hi with⟨sz,l,dp,e⟩|⟨ds,b,cc,ce,e,e1,e2,e3⟩
        ·rw[e];trivial
        ·rw[e]
         have e4:QU own' d false os id=own' id:=by
          unfold QU;split
          ·rename_i hc
           cases he:os[id.2]? with
           | none=>rfl
           | some m=>
            exfalso
            obtain⟨d',_,e2,e3⟩:=hfro (fun h0=>by rw[h0]at he;simp at he)
            subst e2;refine g5' id hi ?_
            have hlt4:id.2<4:=by
             have:=(K5.1 he).1
             omega
            have:=e3.ob id.2 hlt4
            rwa [←hc.2]at this
          ·rfl
         refine⟨b,cc,ce,e4.trans e1,e2,Qcm e3 fun z hz=>?_⟩
         obtain⟨t1,t2,t3,t4⟩:=r8 z (hF2 z hz);refine⟨himm2 z t1 t2 t3 t4,fun hnw=>?_⟩
         rw[St.put_bs];rw[KB]at hnw;rcases t4 with t4|t4
         ·exact c.bsle z (KF c.grow t4)
         ·rcases KG.1 t4 with t4|t4
          ·exact(g3 z t4).2 (by rw[KB];exact hnw)
          ·exact(k4 hnw.1 z t4).2
       ·refine(Qpb r1 (fun b hb=>?_) (fun hi=>by cases hi) (fun _ j m hm=>?_)).1
        ·obtain⟨t1,t2,t3,t4⟩:=r5 b hb
         have t4':w.heap.size≤b:=by
          rcases t4 with t4|⟨t4,_⟩
          ·exact t4
          ·rw[hal]at t4;cases t4
         exact⟨himm2 b t1 t2 t3 (.inl t4'),fun _=>by rw[St.put_bs];exact c.bsle b (KF c.grow t4')⟩
        ·refine⟨?_,hrow (fun h0=>by rw[h0]at hm;simp at hm)⟩
         unfold QU;rw[if_pos ⟨rfl,rfl⟩];show(os[j]?).getD _=m
         rw[hm];rfl
      ·cases hf
     ·cases hf
    ·cases hf
  ·cases hf
 ·cases hf
theorem Qar.dp'{m F:List Nat}{sz:Nat}{l:List (List D)}{dp dp':Nat}{v:Value}(a:Qar h m F sz l dp v)(h0:dp≠0)(h1:dp'≠0):Qar h m F sz l dp' v:=by
 unfold Qar at *;simpa only[h0,h1,if_false,bne_iff_ne.2 h0,bne_iff_ne.2 h1]using a
theorem Qnu{own':Id→List Nat}{d:Nat}{dst:Option Nat}{os:List (List Nat)}(hfr:os≠[]→∃d',dst=some d'∧d=d'∧Qfd s d')(h4:os.length≤4){i:Id}(hi:s.ob i≠ .none∨s.sl i.1≠ .any):QU own' d false os i=own' i:=by
 unfold QU;split
 ·rename_i hc
  cases he:os[i.2]? with
  | none=>rfl
  | some m=>
   exfalso
   obtain⟨d',_,e2,e3⟩:=hfr (fun h0=>by rw[h0]at he;simp at he)
   subst e2;have hlt4:i.2<4:=by
    have:=(K5.1 he).1
    omega
   rcases hi with hi|hi
   ·have:=e3.ob i.2 hlt4
    exact hi (by rwa [←hc.2]at this)
   ·exact hi (by rw[hc.2];exact e3.row)
 ·rfl
def nX:List (D ⊕ (Nat×List (List D)×Nat))→Nat
 | []=>0
 | .inl _::l=>nX l
 | .inr _::l=>nX l+1
theorem Qc5.len{l:List (D ⊕ (Nat×List (List D)×Nat))}{vs:List Value}{F:List Nat}{ms:List (List Nat)}(a:Qc5 h l vs F ms):ms.length=nX l:=by
 induction a with
 | nil=>rfl
 | d _ _ ih=>exact ih
 | arr _ _ _ ih=>simp[nX,ih]
theorem QdN{dp row:Nat}:∀{l:List (D ⊕ (Nat×List (List D)×Nat))} {k:Nat} {q:Id×Ob},q∈Qdo dp row k l→∃j,j<nX l∧q.1=(row,k+j)∧∃s m,q.2= .arr s m dp
 | [],k,q,h=>by simp[Qdo]at h
 | .inl _::l,k,q,h=>QdN (l:=l) h
 | .inr (s,m,_)::l,k,q,h=>by
  simp only[Qdo,KI]at h
  rcases h with rfl|h
  ·exact⟨0,by simp[nX],rfl,s,m,rfl⟩
  ·obtain⟨j,h1,h2,h3⟩:=QdN (l:=l) h
   exact⟨j+1,by simp[nX];omega,by rw[h2];congr 1;omega,h3⟩
theorem QlU{dp row:Nat}:∀{l:List (D ⊕ (Nat×List (List D)×Nat))} {k j:Nat},j<nX l→(row,k+j)∈(Qdo dp row k l).map (·.1)
 | [],k,j,h=>by simp[nX]at h
 | .inl _::l,k,j,h=>QlU (l:=l) h
 | .inr (s,m,_)::l,k,j,h=>by
  simp only[Qdo,List.map_cons,KI]
  cases j with
  | zero=>exact .inl rfl
  | succ j=>
   refine .inr ?_
   have:=QlU (dp:=dp) (row:=row) (l:=l) (k:=k+1) (j:=j) (by simp[nX]at h;omega)
   rwa [show k+1+j=k+(j+1)by omega]at this
theorem QeU{dp row:Nat}:∀{l:List (D ⊕ (Nat×List (List D)×Nat))} {k:Nat},((Qdo dp row k l).map (·.1)).Nodup
 | [],k=>by simp[Qdo]
 | .inl _::l,k=>QeU (l:=l)
 | .inr (s,m,_)::l,k=>by
  simp only[Qdo,List.map_cons,Ke]
  refine⟨fun hm=>?_,QeU⟩
  obtain⟨q,hq,e⟩:=KQ.1 hm;obtain⟨j,_,h2,_⟩:=QdN hq;rw[h2]at e;simp only[KC,true_and]at e
  omega
theorem QgP{ob:Id→Ob}{dp row:Nat}:∀{l:List (D ⊕ (Nat×List (List D)×Nat))} {k:Nat},QjO ob row k l=true→∀q∈Qdo dp row k l,ob q.1= .none
 | [],k,h,q,hq=>by simp[Qdo]at hq
 | .inl _::l,k,h,q,hq=>QgP (l:=l) h q hq
 | .inr (s,m,_)::l,k,h,q,hq=>by
  simp only[QjO,KB]at h
  simp only[Qdo,KI]at hq
  rcases hq with rfl|hq
  ·have h1:=h.1
   dsimp only at h1 ⊢;split at h1
   ·assumption
   ·cases h1
  ·exact QgP (l:=l) h.2 q hq
theorem QlS{h':Q6}{s2:St}{own2:Id→List Nat}{nw:Bool}{row dp:Nat}(hdp:dp≠0):∀{l:List (D ⊕ (Nat×List (List D)×Nat))} {k:Nat} {vs:List Value} {F:List Nat} {ms:List (List Nat)},Qc5 h' l vs F ms→(∀b∈F,Imm own2 h' b∧(nw=true→s2.bs b))→
  (∀j m,ms[j]? =some m→own2 (row,k+j)=m)→s2.sl row≠ .any→(∀q∈Qdo dp row k l,s2.ob q.1=q.2)→Qk own2 h' s2 (QjU nw row k l) vs
 | [],k,vs,F,ms,a,hF,hM,hs,ho=>by cases a;exact .nil
 | .inl x::l,k,vs,F,ms,a,hF,hM,hs,ho=>by
  cases a with
  | @d _ v F1 _ vs G _ r a=>
   have:=Qcm (s:=s2) (al:=nw) r fun b hb=>hF b (by simp[hb])
   cases this with
   | cons q1 _=>exact .cons q1 (QlS hdp a (fun b hb=>hF b (by simp[hb])) hM hs ho)
 | .inr (s',l',dp')::l,k,vs,F,ms,a,hF,hM,hs,ho=>by
  cases a with
  | @arr _ _ _ v m _ vs _ ms q h0 a=>
   refine .cons ?_ (QlS (k:=k+1) hdp a hF (fun j m hj=>by rw[show k+1+j=k+(j+1)by omega];exact hM (j+1) m (by simpa using hj)) hs fun q hq=>ho q (by simp[Qdo,hq]))
   have e1:=ho ((row,k),.arr s' l' dp) (by simp[Qdo])
   have e2:own2 (row,k)=m:=by simpa using hM 0 m rfl
   dsimp only at e1;refine⟨(q.repsW h0).weak.one,hs,?_⟩
   rw[e1];exact Qar.to_ok (F:=[]) (by rw[e2];exact q.dp' h0 hdp) (by simp)
theorem QlN:∀{cs:List QI} {l:List (D ⊕ (Nat×List (List D)×Nat))} {vs:List Value},QjT s.ob cs=some l→Qk own h s cs vs→
  ∃F,Qc5 h l vs F ((Qew cs).map own)∧(∀b∈F,Imm own h b∧(cs.all QfQ=true→s.bs b))∧∀i∈Qew cs,∃sz m dp,s.ob i= .arr sz m dp
 | [],l,vs,hm,a=>by
  simp only[QjT,KA]at hm
  subst hm;cases a
  exact⟨[],.nil,by simp,by simp[Qew]⟩
 | c::cs,l,vs,hm,a=>by
  cases a with
  | @cons _ v _ vs a1 a2=>
   cases c with
   | d x=>
    simp only[QjT]at hm
    split at hm
    ·rename_i l0 h0
     simp only[KA]at hm
     subst hm;obtain⟨F,g1,g2,g3⟩:=QlN h0 a2;obtain⟨F1,r,hF1⟩:=a1;refine⟨F1++F,.d r g1,fun b hb=>?_,g3⟩
     rcases KG.1 hb with hb|hb
     ·refine⟨hF1 b hb,fun hn=>?_⟩
      simp only[List.all_cons,KB]at hn
      cases x with
      | v=>cases r with|v _ r=>cases r;cases hb
      | sl=>simp[QfQ,QbM]at hn
     ·exact⟨(g2 b hb).1,fun hn=>(g2 b hb).2 (by simp only[List.all_cons,KB]at hn;exact hn.2)⟩
    ·cases hm
   | n x=>
    simp only[QjT]at hm
    split at hm
    ·rename_i l0 h0
     simp only[KA]at hm
     subst hm;obtain⟨F,g1,g2,g3⟩:=QlN h0 a2;obtain⟨F1,r,hF1⟩:=a1;refine⟨F1++F,.d r g1,fun b hb=>?_,g3⟩
     rcases KG.1 hb with hb|hb
     ·exact⟨(hF1 b hb).1,fun _=>(hF1 b hb).2⟩
     ·exact⟨(g2 b hb).1,fun hn=>(g2 b hb).2 (by simp only[List.all_cons,KB]at hn;exact hn.2)⟩
    ·cases hm
   | osl id=>
    simp only[QjT]at hm
    split at hm
    ·rename_i sz m dp l0 ho h0
     split at hm
     ·cases hm
     ·rename_i hdp
      simp only[KA]at hm
      subst hm;obtain⟨F,g1,g2,g3⟩:=QlN h0 a2;have hA:=a1.2.2
      rw[ho]at hA;obtain⟨F',hA2,_⟩:=Qar.of_ok hA;have:=hA2.own_nil hdp
      subst this;refine⟨F,.arr hA2 hdp g1,fun b hb=>⟨(g2 b hb).1,fun hn=>(g2 b hb).2 (by simp only[List.all_cons,KB]at hn;exact hn.2)⟩,fun i hi=>?_⟩
      simp only[Qew,KI]at hi
      rcases hi with rfl|hi
      ·exact⟨_,_,_,ho⟩
      ·exact g3 i hi
    ·cases hm
   | _=>simp[QjT]at hm
theorem Qoq{d:Nat}{dst:Option Nat}{fresh:Bool}{f:FuncId}{vs:List AV}{vals:List Value}{p:Prop}{v:AV}{us:List (Id×Ob)}(hT:Qcd X.toEnv T)(c:Qt X own s a w)(hd:∀x,dst=some x→X.dok x=true)(hdd:d=dst.getD 0)
  (hfr:fresh=true→Qr s dst=true) (hvs:Qas (QM own w.heap s) vs vals) (hf:QhB T d s.ob fresh f vs=some (p,v,us)) (hp:p):
  Qe6 X.P f∧Calls X.P f vals.toArray w fun e w'=>∃u,e= .returned u∧∃own',Qt X own' (s.put dst v us) (a.put dst u) w':=by
 unfold QhB at hf;split at hf;rotate_left
 ·cases hf
 rename_i ct hct;obtain⟨hfn,hck⟩:=hT.ct f ct hct;refine⟨hfn,?_⟩
 split at hf;rotate_left
 ·cases hf
 rename_i hmu;obtain⟨hmu,hal⟩:=hmu;split at hf;rotate_left
 ·cases hf
 rename_i id vr;cases hvs with
 | @cons _ x _ xr hx hr=>
 split at hf;rotate_left
 ·cases hf
 rename_i cs ho;split at hf;rotate_left
 ·cases hf
 rename_i l as hm has;split at hf;rotate_left
 ·cases hf
 rename_i p0 rs ns hrun;simp only[KA,KC]at hf
 obtain⟨rfl,rfl,rfl⟩:=hf;obtain⟨hp0,hfree,hrn,hfresh,himm,hnd⟩:=hp;obtain⟨hrow,b,rfl,hxb⟩:=hx;rw[ho]at hxb;have hxb':own id=[b]:=hxb
 have hob:=c.obs id
 rw[ho]at hob;obtain⟨b',cv,ce,g1,g2,g3⟩:=hob;have:b'=b:=by rw[g1]at hxb';simpa using hxb'
 subst this;obtain⟨F0,m1,m2,m3⟩:=QlN hm g3;obtain⟨F,k1,k2,k3,k4⟩:=Qda c.obs (ms:=[]) rfl has hr;generalize QjY s.ob id.1 ns=k0 at *;generalize hnw:(vr.all Qis&&cs.all QfQ)=nw at *;have hN:X.N≤w.heap.size:=by have:=c.hN.1;have:=c.grow;omega
 have hne_id:∀i∈Qew cs,i≠id:=fun i hi e=>by
  obtain⟨_,_,_,e2⟩:=m3 i hi;rw[e,ho]at e2;cases e2
 have hbo:b'∈own id:=by rw[g1];simp
 have hMs:∀z∈([b']::(Qew cs).map own).flatten,z=b'∨∃i∈Qew cs,z∈own i:=fun z hz=>by
  simp only[List.flatten_cons,KG,KH]at hz
  rcases hz with hz|hz
  ·exact .inl hz
  ·obtain⟨m,hm,hz⟩:=Kf.1 hz
   obtain⟨i,hi,rfl⟩:=KQ.1 hm;exact .inr ⟨i,hi,hz⟩
 have hMs':∀z∈([b']::(Qew cs).map own).flatten,∃i,(i=id∨i∈Qew cs)∧z∈own i:=fun z hz=>by
  rcases hMs z hz with rfl|⟨i,hi,hz⟩
  ·exact⟨id,.inl rfl,hbo⟩
  ·exact⟨i,.inr hi,hz⟩
 have hnodup:([b']::(Qew cs).map own).flatten.Nodup:=by
  simp only[List.flatten_cons,List.singleton_append,Ke]
  refine⟨fun hm=>?_,?_⟩
  ·obtain⟨m,hm,hz⟩:=Kf.1 hm
   obtain⟨i,hi,rfl⟩:=KQ.1 hm;exact hne_id i hi (c.disj i id b' hz hbo)
  ·clear hm hMs hMs' m1 m2 m3 hne_id
   generalize Qew cs=L at hnd;induction L with
   | nil=>simp
   | cons i is ih=>
    rw[Ke]at hnd;simp only[List.map_cons,List.flatten_cons,Km]
    refine⟨c.nodup i,ih hnd.2,fun p hp q hq e=>?_⟩
    subst e;obtain⟨m,hm,hq⟩:=Kf.1 hq;obtain⟨j,hj,rfl⟩:=KQ.1 hm;exact hnd.1 (c.disj i j p hp hq▸hj)
 have hargs:Q5 w.heap (.mbx l::as) (.pointer (some ⟨b',0,none⟩)::xr) (F0++F) (([b']::(Qew cs).map own)++[]):= .cons (.mbx g2 m1) k1
 have hFimm:∀z∈F0++F,Imm own w.heap z:=fun z hz=>(KG.1 hz).elim (fun hz=>(m2 z hz).1) fun hz=>k3 himm z hz
 have hFM:∀z∈F0++F,z∉(([b']::(Qew cs).map own)++[]).flatten:=fun z hz hm=>by
  rw[KM]at hm;obtain⟨i,_,hi⟩:=hMs' z hm;exact(hFimm z hz).2.1 i hi
 have hMN:∀z∈(([b']::(Qew cs).map own)++[]).flatten,X.N≤z:=fun z hz=>by
  rw[KM]at hz;obtain⟨i,_,hi⟩:=hMs' z hz;rcases(c.lt i z hi).2 with q|q
  ·have:=c.hN.1;omega
  ·exact c.hN.2 z q
 refine(hck _ _ _ _ hrun hp0 w _ (F0++F) _ hargs (by rw[KM];exact hnodup) hFM c.hJ hN hMN).mono ?_
 rintro e w' ⟨u,rfl,po⟩;refine⟨u,rfl,?_⟩
 obtain⟨F',os,F2,Ms',r1,r2,r3,r4,r5,r6,r7,r8⟩:=po.res;have hlen:=Qh9 r1
 rw[KM]at r4 r7;have hnew:∀z∈os.flatten,w.heap.size≤z∧z<w'.heap.size:=fun z hz=>by
  obtain⟨q1,q2⟩:=r4 z hz;refine⟨?_,q2⟩
  rcases q1 with q1|⟨q1,_⟩
  ·exact q1
  ·rw[hal]at q1;cases q1
 have hfro:os≠[]→∃d',dst=some d'∧d=d'∧Qfd s d':=fun ho=>by
  have:QdY rs=true:=by
   simp only[QdY,bne_iff_ne]
   rw[hlen];intro h0;exact ho (Kd h0)
  obtain⟨d',e1,e2⟩:=Qau (hfr (hfresh this));exact⟨d',e1,hdd.trans (by rw[e1];rfl),e2⟩
 rw[hmu]at r2;have hmv:Q0 [true] (Value.pointer (some ⟨b',0,none⟩)::xr)=[Value.pointer (some ⟨b',0,none⟩)]:=by
  simp only[Q0,List.headD_cons,if_true,List.tail_cons]
  rw[QbC (by rfl)]
 rw[hmv]at r2;obtain⟨F2a,c2,e2,ms2,rfl,q1,q2,hF2⟩:∃F2a c2 e2 ms2,Ms'=[b']::ms2∧w'.heap[b']? =some (.cells c2 e2 (0,0))∧Qc5 w'.heap ns c2.toList F2a ms2∧∀z∈F2a,z∈F2:=by
  generalize hv:Value.pointer (some ⟨b',0,none⟩)=vv at r2;cases r2 with
  | cons h1 h2=>
   cases h2
   cases h1 with
   | @mbx _ b2 c2 e2 _ _ q1 q2=>
    simp only[Value.pointer.injEq,KA,Addr.mk.injEq,and_true]at hv
    subst hv;exact⟨_,c2,e2,_,by simp,q1,q2,fun z hz=>by simp[hz]⟩
 have hold:∀z,z<w.heap.size→z∉([b']::(Qew cs).map own).flatten→w'.heap[z]? =w.heap[z]? :=fun z h1 h2=>po.old z h1 (by rw[KM];exact h2)
 have hml:=q2.len;obtain⟨isN,hisN⟩:∃f:Id→Bool,f=fun i=>decide (i.1=id.1)&&decide (k0≤i.2)&&decide (i.2<k0+ms2.length):=⟨_,rfl⟩
 obtain⟨own',hown'⟩:∃f:Id→List Nat,f=fun i=>if i∈Qew cs then []else if isN i=true then ms2.getD (i.2-k0) []else own i:=⟨_,rfl⟩
 have newIds:∀i,i∈(Qdo 1 id.1 k0 ns).map (·.1)↔isN i=true:=fun i=>by
  rw[hisN];simp only[KB,KK]
  constructor
  ·intro hi
   obtain⟨q,hq,rfl⟩:=KQ.1 hi;obtain⟨j,h1,h2,_⟩:=QdN hq;rw[h2,hml];exact⟨⟨rfl,by simp⟩,by simpa using h1⟩
  ·rintro⟨⟨h1,h2⟩,h3⟩
   have:=QlU (dp:=1) (row:=id.1) (l:=ns) (k:=k0) (j:=i.2-k0) (by omega)
   rw[show k0+(i.2-k0)=i.2 by omega,←h1]at this
   rw[←h1];exact this
 have newNone:∀i,isN i=true→s.ob i= .none:=fun i hi=>by
  obtain⟨q,hq,rfl⟩:=KQ.1 ((newIds i).2 hi);exact QgP hfree q hq
 have newRow:∀i,isN i=true→s.sl i.1≠ .any:=fun i hi=>by
  rw[hisN]at hi;simp only[KB,KK]at hi
  rw[hi.1.1];exact hrow
 have idN:isN id=false:=by
  cases h:isN id with
  | false=>rfl
  | true=>have:=newNone id h;rw[ho]at this;cases this
 have oldN:∀i∈Qew cs,isN i=false:=fun i hi=>by
  cases h:isN i with
  | false=>rfl
  | true=>have:=newNone i h;obtain⟨_,_,_,e⟩:=m3 i hi;rw[e]at this;cases this
 have own_id:own' id=[b']:=by
  rw[hown'];simp only[idN,KX,if_false]
  rw[if_neg fun h=>hne_id id h rfl,g1]
 have own_old:∀i∈Qew cs,own' i=[]:=fun i hi=>by rw[hown'];simp[hi]
 have own_new:∀j m,ms2[j]? =some m→own' (id.1,k0+j)=m∧isN (id.1,k0+j)=true:=fun j m hj=>by
  have hjl:=(K5.1 hj).1
  have h1:isN (id.1,k0+j)=true:=by rw[hisN];simp[hjl]
  refine⟨?_,h1⟩
  rw[hown'];dsimp only;rw[if_neg (fun h=>by have:=oldN _ h;rw[h1]at this;cases this),if_pos h1]
  simp[KD,hj]
 have own_isN:∀i,isN i=true→∃m,ms2[i.2-k0]? =some m∧own' i=m∧i=(id.1,k0+(i.2-k0)):=fun i hi=>by
  have hi2:=hi
  rw[hisN]at hi2;simp only[KB,KK]at hi2
  obtain⟨⟨h1,h2⟩,h3⟩:=hi2;have hlt:i.2-k0<ms2.length:=by omega
  refine⟨ms2[i.2-k0],by simp[hlt],?_,Prod.ext h1 (by dsimp only;omega)⟩
  rw[hown'];dsimp only;rw[if_neg (fun h=>by have:=oldN _ h;rw[hi]at this;cases this),if_pos hi]
  simp[KD,hlt]
 have ms_flat:∀{j:Nat} {m:List Nat} {z:Nat},ms2[j]? =some m→z∈m→z∈([b']::ms2).flatten:=fun {j m z} hj hz=>by
  simp only[List.flatten_cons,KG]
  exact .inr (Kf.2 ⟨m,Ki hj,hz⟩)
 have b_flat:b'∈([b']::ms2).flatten:=by simp
 have b_ms:∀{j:Nat} {m:List Nat},ms2[j]? =some m→b'∉m:=fun {j m} hj hz=>by
  simp only[List.flatten_cons,List.singleton_append,Ke]at r6
  exact r6.1 (Kf.2 ⟨m,Ki hj,hz⟩)
 have ms_nd:ms2.flatten.Nodup:=by
  simp only[List.flatten_cons,List.singleton_append,Ke]at r6
  exact r6.2
 let ids:List Id:=id::(Qew cs++(Qdo 1 id.1 k0 ns).map (·.1))
 have mem_ids:∀i,i∈ids→i=id∨i∈Qew cs∨isN i=true:=fun i hi=>by
  simp only[ids,KI,KG]at hi
  rcases hi with h|h|h
  ·exact .inl h
  ·exact .inr (.inl h)
  ·exact .inr (.inr ((newIds i).1 h))
 have ids_mem:∀i,i=id∨i∈Qew cs∨isN i=true→i∈ids:=fun i hi=>by
  simp only[ids,KI,KG]
  rcases hi with h|h|h
  ·exact .inl h
  ·exact .inr (.inl h)
  ·exact .inr (.inr ((newIds i).2 h))
 have ids_ne:∀i∈ids,s.ob i≠ .none∨s.sl i.1≠ .any:=fun i hi=>by
  rcases mem_ids i hi with rfl|h|h
  ·exact .inr hrow
  ·obtain⟨_,_,_,e⟩:=m3 i h
   exact .inl (by rw[e];simp)
  ·exact .inr (newRow i h)
 have key_nd:(((Qew cs).map (fun i=>(i,Ob.dead))++(Qdo 1 id.1 k0 ns++[(id,Ob.box (QjU nw id.1 k0 ns))])).map (·.1)).Nodup:=by
  simp only[Kv,List.map_map,List.map_cons,List.map_nil]
  rw[show((·.1)∘fun i:Id=>(i,Ob.dead))=fun i=>i from rfl,List.map_id',Km,Km]
  refine⟨hnd,⟨QeU,by simp,fun i hi j hj e=>?_⟩,fun i hi j hj e=>?_⟩
  ·rw[KH]at hj
   have:=(newIds i).1 hi
   rw[e,hj,idN]at this;cases this
  ·subst e
   rcases KG.1 hj with hj|hj
   ·have:=(newIds i).1 hj
    rw[oldN i hi]at this;cases this
   ·rw[KH]at hj
    exact hne_id i hi hj
 have up_id:Q7 s.ob ((Qew cs).map (fun i=>(i,Ob.dead))++(Qdo 1 id.1 k0 ns++[(id,Ob.box (QjU nw id.1 k0 ns))])) id= .box (QjU nw id.1 k0 ns):=Qbk key_nd _ _ _ (by simp)
 have up_old:∀i∈Qew cs,Q7 s.ob ((Qew cs).map (fun i=>(i,Ob.dead))++(Qdo 1 id.1 k0 ns++[(id,Ob.box (QjU nw id.1 k0 ns))])) i= .dead:=fun i hi=>Qbk key_nd _ _ _ (YH _ (KQ.2 ⟨i,hi,rfl⟩))
 have up_new:∀q∈Qdo 1 id.1 k0 ns,Q7 s.ob ((Qew cs).map (fun i=>(i,Ob.dead))++(Qdo 1 id.1 k0 ns++[(id,Ob.box (QjU nw id.1 k0 ns))])) q.1=q.2:=fun q hq=>Qbk key_nd _ _ _ (List.mem_append_right _ (YH _ hq))
 have up_out:∀i,i∉ids→Q7 s.ob ((Qew cs).map (fun i=>(i,Ob.dead))++(Qdo 1 id.1 k0 ns++[(id,Ob.box (QjU nw id.1 k0 ns))])) i=s.ob i:=fun i hi=>Qrv _ _ fun hm=>hi (by
  simp only[Kv,List.map_map,List.map_cons,List.map_nil,KG,KH]at hm
  rw[show((·.1)∘fun i:Id=>(i,Ob.dead))=fun i=>i from rfl,List.map_id']at hm
  rcases hm with hm|hm|hm
  ·exact ids_mem i (.inr (.inl hm))
  ·exact ids_mem i (.inr (.inr ((newIds i).1 hm)))
  ·exact ids_mem i (.inl hm))
 have isN_ob:∀i,isN i=true→∃sz m,(i,Ob.arr sz m 1)∈Qdo 1 id.1 k0 ns:=fun i hi=>by
  obtain⟨q,hq,rfl⟩:=KQ.1 ((newIds i).2 hi);obtain⟨_,_,_,sz,m,e⟩:=QdN hq;exact⟨sz,m,by rw[←e];exact hq⟩
 generalize hus:(Qew cs).map (fun i=>(i,Ob.dead))++(Qdo 1 id.1 k0 ns++[(id,Ob.box (QjU nw id.1 k0 ns))])=us1 at up_id up_old up_new up_out ⊢
 have h4:os.length≤4:=by rw[←hlen];exact hrn
 have oid:∀i∈ids,QU own' d false os i=own' i:=fun i hi=>Qnu hfro h4 (ids_ne i hi)
 have hlt':∀i∈ids,∀z∈own' i,z<w'.heap.size∧z∉os.flatten∧(w.heap.size≤z∨∃i2∈ids,z∈own i2):=fun i hi z hz=>by
  have hzf:z∈([b']::ms2).flatten:=by
   rcases mem_ids i hi with rfl|h|h
   ·rw[own_id,KH]at hz;subst hz;exact b_flat
   ·rw[own_old i h]at hz;cases hz
   ·obtain⟨m,e1,e2,_⟩:=own_isN i h
    rw[e2]at hz;exact ms_flat e1 hz
  obtain⟨t1,t2,t3⟩:=r7 z hzf;refine⟨t1,t2,t3.imp (fun q=>q) fun q=>?_⟩
  obtain⟨i2,h1,h2⟩:=hMs' z q;exact⟨i2,ids_mem i2 (h1.elim .inl fun h=> .inr (.inl h)),h2⟩
 have own_out:∀i,i∉ids→own' i=own i:=fun i hi=>by
  rw[hown'];dsimp only;rw[if_neg fun h=>hi (ids_mem i (.inr (.inl h))),if_neg fun h=>hi (ids_mem i (.inr (.inr h)))]
 have himm2:∀z,z<w'.heap.size→z∉os.flatten→z∉([b']::ms2).flatten→(w.heap.size≤z∨z∈F0++F)→Imm (QU own' d false os) w'.heap z:=fun z t1 t2 t3 t4=>by
  refine⟨t1,fun i hm=>?_,t4.elim (fun h=>c.nhN (KF c.grow h)) fun h=>(hFimm z h).2.2⟩
  have hm2:z∈own' i∨z∈os.flatten:=by
   unfold QU at hm;split at hm
   ·cases he:os[i.2]? with
    | none=>rw[he]at hm;exact .inl hm
    | some m=>rw[he]at hm;exact .inr (Kf.2 ⟨_,Ki he,hm⟩)
   ·exact .inl hm
  rcases hm2 with hm|hm
  ·by_cases hi:i∈ids
   ·rcases mem_ids i hi with rfl|h|h
    ·rw[own_id,KH]at hm;subst hm;exact t3 b_flat
    ·rw[own_old i h]at hm;cases hm
    ·obtain⟨m,e1,e2,_⟩:=own_isN i h
     rw[e2]at hm;exact t3 (ms_flat e1 hm)
   ·rw[own_out i hi]at hm
    have:=(c.lt i z hm).1
    rcases t4 with t4|t4
    ·omega
    ·exact(hFimm z t4).2.1 i hm
  ·exact t2 hm
 have hrow2:os≠[]→(s.put dst (Qjn d true false rs) us1).sl d≠ .any:=fun ho=>by
  obtain⟨d',e1,e2,_⟩:=hfro ho;rw[e1,e2];exact St.put_dst s d' _ _
 have hcells:Qk (QU own' d false os) w'.heap (s.put dst (Qjn d true false rs) us1) (QjU nw id.1 k0 ns) c2.toList:=by
  refine QlS (dp:=1) (by decide) q2 (fun z hz=>?_) (fun j m hj=>?_) (St.put_row s dst _ _ _ hrow) fun q hq=>by rw[St.put_ob];exact up_new q hq
  ·obtain⟨t1,t2,t3,t4⟩:=r8 z (hF2 z hz)
   refine⟨himm2 z t1 t2 t3 t4,fun hn=>?_⟩
   rw[St.put_bs];rw[←hnw,KB]at hn;rcases t4 with t4|t4
   ·exact c.bsle z (KF c.grow t4)
   ·rcases KG.1 t4 with t4|t4
    ·exact(m2 z t4).2 hn.2
    ·exact(k4 hn.1 z t4).2
  ·obtain⟨e1,e2⟩:=own_new j m hj
   rw[oid _ (ids_mem _ (.inr (.inr e2)))];exact e1
 refine⟨QU own' d false os,c.mutTurn (ids:=ids) hd po.os po.tape po.output po.grow own_out (fun i hi=>?_) (fun i hi i' hi' z h1 h2=>?_) (fun i hi z hz=>⟨(hlt' i hi z hz).1,(hlt' i hi z hz).2.2⟩) (fun z h1 h2=>hold z h1 fun hm=>?_) hfro h4 hnew r3 (fun i hi z hz=>(hlt' i hi z hz).2.1) ids_ne up_out (fun i hi j i' off h=>?_) (fun i hi=>?_) (fun own2 ho2 i hi=>?_) fun k=>?_⟩
 ·rcases mem_ids i hi with rfl|h|h
  ·rw[own_id];simp
  ·rw[own_old i h];simp
  ·obtain⟨m,e1,e2,_⟩:=own_isN i h
   rw[e2];exact Qac ms_nd (Ki e1)
 ·rcases mem_ids i hi with rfl|h|h
  ·rw[own_id,KH]at h1
   subst h1;rcases mem_ids i' hi' with rfl|h'|h'
   ·rfl
   ·rw[own_old i' h']at h2;cases h2
   ·obtain⟨m,e1,e2,_⟩:=own_isN i' h'
    rw[e2]at h2;exact absurd h2 (b_ms e1)
  ·rw[own_old i h]at h1;cases h1
  ·obtain⟨m,e1,e2,e3⟩:=own_isN i h
   rw[e2]at h1;rcases mem_ids i' hi' with rfl|h'|h'
   ·rw[own_id,KH]at h2
    subst h2;exact absurd h1 (b_ms e1)
   ·rw[own_old i' h']at h2;cases h2
   ·obtain⟨m',e1',e2',e3'⟩:=own_isN i' h'
    rw[e2']at h2;have:=QaQ ms_nd e1 e1' h1 h2
    rw[e3,e3',this]
 ·obtain⟨i,h1',h2'⟩:=hMs' z hm
  exact h2 i (ids_mem i (h1'.elim .inl fun h=> .inr (.inl h))) h2'
 ·rcases mem_ids i hi with rfl|h'|h'
  ·rw[up_id]at h;cases h
  ·rw[up_old i h']at h;cases h
  ·obtain⟨sz,m,hq⟩:=isN_ob i h'
   rw[up_new _ hq]at h;cases h
 ·rcases mem_ids i hi with rfl|h'|h'
  ·rw[up_id]
   exact⟨b',c2,e2,by rw[oid _ hi];exact own_id,q1,hcells⟩
  ·rw[up_old i h'];trivial
  ·obtain⟨sz,m,hq⟩:=isN_ob i h'
   rw[up_new _ hq];trivial
 ·have ho2':=ho2 i hi
  rcases mem_ids i hi with rfl|h'|h'
  ·rw[up_id,ho]
   exact .boxed _ _ (by rw[ho2',own_id,g1])
  ·rw[up_old i h'];exact .dead _
  ·obtain⟨sz,m,hq⟩:=isN_ob i h'
   rw[up_new _ hq,newNone i h'];exact .mat _ _ _
 ·refine(Qpb r1 (fun z hz=>?_) (fun hi=>by cases hi) (fun _ j m hm=>?_)).1
  ·obtain⟨t1,t2,t3,t4⟩:=r5 z hz
   have t4':w.heap.size≤z:=by
    rcases t4 with t4|⟨t4,_⟩
    ·exact t4
    ·rw[hal]at t4;cases t4
   exact⟨himm2 z t1 t2 t3 (.inl t4'),fun _=>by rw[St.put_bs];exact c.bsle z (KF c.grow t4')⟩
  ·refine⟨?_,hrow2 (fun h0=>by rw[h0]at hm;simp at hm)⟩
   unfold QU;rw[if_pos ⟨rfl,rfl⟩];show(os[j]?).getD _=m
   rw[hm];rfl
theorem Qpj{sz dp:Nat}{l:List (List D)}{v:Value}{oid:Option Id}(t:Qs1 own h sz l dp v oid)(h0:dp≠0):∃m,Qar h m [] sz l dp v∧(∀b∈m,∃id,oid=some id∧b∈own id)∧((∀id,oid=some id→own id=m)∨m=[]):=by
 rcases t with⟨h1,h2,h3⟩|⟨id,b,cap,h1,h2,c,e,G,a1,a2,a3,a4,a5,a6,a7,a8⟩
 ·exact⟨[],.inl ⟨h1,h2,rfl,rfl⟩,by simp,.inr rfl⟩
 ·refine⟨own id,.inr ⟨b,cap,c,e,G,h2,a1,by rw[if_neg h0],a2,a3,a4,a5,a6,a7⟩,fun b hb=>⟨id,h1,hb⟩,.inl fun id' hid=>?_⟩
  rw[h1]at hid;cases hid;rfl
theorem Qoo{d:Nat}{dst:Option Nat}{fresh:Bool}{f:FuncId}{vs:List AV}{vals:List Value}{p:Prop}{v:AV}{us:List (Id×Ob)}(hT:Qcd X.toEnv T)(c:Qt X own s a w)(hd:∀x,dst=some x→X.dok x=true)(hdd:d=dst.getD 0)
  (hfr:fresh=true→Qr s dst=true) (hvs:Qas (QM own w.heap s) vs vals) (hf:Qhz T d s.ob fresh f vs=some (p,v,us)) (hp:p):
  Qe6 X.P f∧Calls X.P f vals.toArray w fun e w'=>∃u,e= .returned u∧∃own',Qt X own' (s.put dst v us) (a.put dst u) w':=by
 unfold Qhz at hf;split at hf
 ·rename_i ct hct
  obtain⟨hfn,hck⟩:=hT.ct f ct hct;refine⟨hfn,?_⟩
  split at hf
  ·rename_i hmu
   obtain⟨hmu,hal⟩:=hmu;cases hvs with
   | nil=>cases hf
   | @cons v0 x vr xr hx hr=>
    dsimp only at hf;generalize QsK s.ob v0=sz at hf;split at hf
    ·rename_i l dp us1 as hm has
     split at hf
     ·rename_i p0 s' l' dp' hrun
      simp only[KA,KC]at hf
      obtain⟨rfl,rfl,rfl⟩:=hf;obtain⟨hp0,hdp,hdp',himm,hfresh⟩:=hp;obtain⟨oid,rfl,hrow,htgt⟩:=Qid hm hx;obtain⟨m,hA,hmo,hmeq⟩:=Qpj htgt hdp;obtain⟨F,k1,k2,k3,_⟩:=Qda c.obs (ms:=[]) rfl has hr;obtain⟨d',rfl,hfs⟩:=Qau (hfr hfresh);obtain rfl:d=d':=hdd;have hN:X.N≤w.heap.size:=by have:=c.hN.1;have:=c.grow;omega
      have hargs:Q5 w.heap (.arr sz l dp::as) (x::xr) ([]++F) ([m]++[]):= .cons (.arr hA hdp) k1
      have hmnd:m.Nodup:=by
       rcases hmeq with h|h
       ·cases oid with
        | none=>
         cases m with
         | nil=>simp
         | cons b m=>obtain⟨id,h1,_⟩:=hmo b (by simp);cases h1
        | some id=>rw[←h id rfl];exact c.nodup id
       ·rw[h];simp
      refine(hck _ _ _ _ hrun hp0 w (x::xr) ([]++F) ([m]++[]) hargs (by simpa using hmnd) (fun b hb hbm=>?_) c.hJ hN (fun b hb=>?_)).mono ?_
      ·obtain⟨id,_,hid⟩:=hmo b (by simpa using hbm)
       exact(k3 himm b (by simpa using hb)).2.1 id hid
      ·obtain⟨id,_,hid⟩:=hmo b (by simpa using hb)
       rcases(c.lt id b hid).2 with q|q
       ·have:=c.hN.1;omega
       ·exact c.hN.2 b q
      ·rintro e w' ⟨u,rfl,po⟩
       refine⟨u,rfl,?_⟩
       obtain⟨F',os,F2,Ms',r1,r2,r3,r4,r5,r6,r7,r8⟩:=po.res;obtain⟨m',rfl,hA'⟩:∃m',os=[m']∧Qar w'.heap m' F' s' l' dp' u:=by
        have r1':QaN w'.heap [.own s' l' dp'] [u] F' os:=r1
        cases r1' with
        | own q1 q2=>
         cases q2
         exact⟨_,rfl,by simpa using q1⟩
       have hF0:=hA'.own_nil hdp'
       subst hF0;refine⟨Q1 own d oid.toList m',c.take (hd d rfl) hfs (fun id hid=>hrow id (by simpa using hid)) po.os po.tape po.output po.grow (fun k hk hn=>po.old k hk fun hkm=>?_) (fun z hz=>?_) (by simpa using r3) fun _=>?_⟩
       ·obtain⟨id,h1,h2⟩:=hmo k (by simpa using hkm)
        exact hn id (by simp[h1]) h2
       ·obtain⟨q1,q2⟩:=r4 z (by simpa using hz)
        refine⟨q2,q1.imp id fun q=>?_⟩
        obtain⟨id,h1,h2⟩:=hmo z (by simpa using q.2)
        exact⟨id,by simp[h1],h2⟩
       ·exact Qar.to_ok (F:=[]) (by simpa [Q1]using hA') (by simp)
     ·cases hf
    ·cases hf
  ·cases hf
 ·cases hf
theorem Q5.append{h:Q6}{l l':List Arg}{vs vs':List Value}{F F':List Nat}{ms ms':List (List Nat)}(a:Q5 h l vs F ms)(b:Q5 h l' vs' F' ms'):Q5 h (l++l') (vs++vs') (F++F') (ms++ms'):=by
 induction a with
 | nil=>exact b
 | cons h1 _ ih=>
  rw[List.cons_append,List.cons_append,Kn,Kn];exact .cons h1 ih
theorem Qjv:∀{vs vi:List AV} {v0:AV},Qfb vs=some (vi,v0)→vs=vi++[v0]∧QuO vs=List.replicate vi.length false++[true]
 | [],vi,v0,h=>by cases h
 | [x],vi,v0,h=>by
  simp only[Qfb,KA,KC]at h
  obtain⟨rfl,rfl⟩:=h;exact⟨rfl,rfl⟩
 | x::y::r,vi,v0,h=>by
  rw[Qfb]at h;split at h
  ·rename_i a b hs
   simp only[KA,KC]at h
   obtain⟨rfl,rfl⟩:=h;obtain⟨e1,e2⟩:=Qjv hs;refine⟨by rw[e1];rfl,?_⟩
   rw[QuO,e2];rfl
  ·cases h
theorem Qas.snoc_inv{α β:Type}{R:α→β→Prop}:∀{l:List α} {x:α} {m:List β},Qas R (l++[x]) m→∃m' y,m=m'++[y]∧Qas R l m'∧R x y
 | [],x,m,h=>by
  cases h with
  | cons h1 h2=>cases h2;exact⟨[],_,rfl,.nil,h1⟩
 | a::l,x,m,h=>by
  cases h with
  | cons h1 h2=>
   obtain⟨m',y,rfl,h3,h4⟩:=Qas.snoc_inv h2;exact⟨_::m',y,rfl,.cons h1 h3,h4⟩
theorem Qho:∀{vs:List Value} {x:Value},Q0 (List.replicate vs.length false++[true]) (vs++[x])=[x]
 | [],x=>rfl
 | v::vs,x=>by
  rw[List.length_cons,List.replicate_succ,List.cons_append,List.cons_append];exact Qho (vs:=vs)
theorem Qop{d:Nat}{dst:Option Nat}{fresh:Bool}{f:FuncId}{vs:List AV}{vals:List Value}{p:Prop}{v:AV}{us:List (Id×Ob)}(hT:Qcd X.toEnv T)(c:Qt X own s a w)(hd:∀x,dst=some x→X.dok x=true)(hdd:d=dst.getD 0)
  (hfr:fresh=true→Qr s dst=true) (hvs:Qas (QM own w.heap s) vs vals) (hf:QhA T d s.ob fresh f vs=some (p,v,us)) (hp:p):
  Qe6 X.P f∧Calls X.P f vals.toArray w fun e w'=>∃u,e= .returned u∧∃own',Qt X own' (s.put dst v us) (a.put dst u) w':=by
 unfold QhA at hf;split at hf
 ·rename_i ct hct
  obtain⟨hfn,hck⟩:=hT.ct f ct hct;refine⟨hfn,?_⟩
  split at hf
  ·rename_i hmu
   obtain⟨hmu,hal⟩:=hmu;split at hf
   ·rename_i vi v0 hsp
    obtain⟨rfl,hlb⟩:=Qjv hsp;obtain⟨xr,x,rfl,hr,hx⟩:=Qas.snoc_inv hvs;generalize QsK s.ob v0=sz at hf;split at hf
    ·rename_i l dp us1 as hm has
     split at hf
     ·rename_i p0 s' l' dp' hrun
      simp only[KA,KC]at hf
      obtain⟨rfl,rfl,rfl⟩:=hf;obtain⟨hp0,hdp,hdp',himm,hfresh⟩:=hp;obtain⟨oid,rfl,hrow,htgt⟩:=Qid hm hx;obtain⟨m,hA,hmo,hmeq⟩:=Qpj htgt hdp;obtain⟨F,k1,k2,k3,_⟩:=Qda c.obs (ms:=[]) rfl has hr;obtain⟨d',rfl,hfs⟩:=Qau (hfr hfresh);obtain rfl:d=d':=hdd;have hN:X.N≤w.heap.size:=by have:=c.hN.1;have:=c.grow;omega
      have hargs:Q5 w.heap (as++[.arr sz l dp]) (xr++[x]) (F++([]++[])) ([]++([m]++[])):=k1.append (.cons (.arr hA hdp) .nil)
      have hmnd:m.Nodup:=by
       rcases hmeq with h|h
       ·cases oid with
        | none=>
         cases m with
         | nil=>simp
         | cons b m=>obtain⟨id,h1,_⟩:=hmo b (by simp);cases h1
        | some id=>rw[←h id rfl];exact c.nodup id
       ·rw[h];simp
      refine(hck _ _ _ _ hrun hp0 w (xr++[x]) (F++([]++[])) ([]++([m]++[])) hargs (by simpa using hmnd) (fun b hb hbm=>?_) c.hJ hN (fun b hb=>?_)).mono ?_
      ·obtain⟨id,_,hid⟩:=hmo b (by simpa using hbm)
       exact(k3 himm b (by simpa using hb)).2.1 id hid
      ·obtain⟨id,_,hid⟩:=hmo b (by simpa using hb)
       rcases(c.lt id b hid).2 with q|q
       ·have:=c.hN.1;omega
       ·exact c.hN.2 b q
      ·rintro e w' ⟨u,rfl,po⟩
       refine⟨u,rfl,?_⟩
       obtain⟨F',os,F2,Ms',r1,r2,r3,r4,r5,r6,r7,r8⟩:=po.res;obtain⟨m',rfl,hA'⟩:∃m',os=[m']∧Qar w'.heap m' F' s' l' dp' u:=by
        have r1':QaN w'.heap [.own s' l' dp'] [u] F' os:=r1
        cases r1' with
        | own q1 q2=>
         cases q2
         exact⟨_,rfl,by simpa using q1⟩
       have hF0:=hA'.own_nil hdp'
       subst hF0;refine⟨Q1 own d oid.toList m',c.take (hd d rfl) hfs (fun id hid=>hrow id (by simpa using hid)) po.os po.tape po.output po.grow (fun k hk hn=>po.old k hk fun hkm=>?_) (fun z hz=>?_) (by simpa using r3) fun _=>?_⟩
       ·obtain⟨id,h1,h2⟩:=hmo k (by simpa using hkm)
        exact hn id (by simp[h1]) h2
       ·obtain⟨q1,q2⟩:=r4 z (by simpa using hz)
        refine⟨q2,q1.imp id fun q=>?_⟩
        obtain⟨id,h1,h2⟩:=hmo z (by simpa using q.2)
        exact⟨id,by simp[h1],h2⟩
       ·exact Qar.to_ok (F:=[]) (by simpa [Q1]using hA') (by simp)
     ·cases hf
    ·cases hf
   ·cases hf
  ·cases hf
 ·cases hf
theorem Qar.cut{P:Program}{sz:Nat}{e:TypeId}{y:TyI}{t:TypeId}(hu:P.underlying t=some (.slice e))(hye:Qb9 P e y)(hsz:y.size=sz){l:List (List D)}{hi:Option Operand}{h:Int}
  (hh:(hi=none∧some h=none)∨∃y k n,hi=some y∧some h=some n∧a.eval y= .int k n) (h0:0≤h) (h1:h≤l.length) {m:List Nat} {dp:Nat} {v:Value} (hd:dp≠0) (q:Qar w.heap m [] sz l dp v) (hnd:m.Nodup):
  ∃u m',(Instr.sliceAt t v none (hi.map a.eval) none).run P w= .ok u w∧Qar w.heap m' [] sz (l.take h.toNat) dp u∧(∀b∈m',b∈m)∧m'.Nodup:=by
 obtain⟨n,rfl⟩:=KL h0;rw[KE];rcases q with⟨rfl,rfl,rfl,_⟩|⟨b,cap,c,ee,G,rfl,rfl,hF,a1,a2,a3,a4,a5,a6⟩
 ·have hn:n=0:=by simp only[Yb]at h1;omega
  subst hn;have hb:=Qa3 (P:=P) (w:=w) (a:=a) (isS:=true) (len:=0) (cap:=0) (lo:=none) (l:=none) (KP _) (.inl ⟨rfl,rfl⟩) hh (by simp) (by simp) (by simp)
  refine⟨.slice none 0 0,[],?_,.inl ⟨rfl,by simp,rfl,rfl⟩,by simp,by simp⟩
  simp only[Option.map_none]at hb
  simp[Instr.sliceAt,Instr.slice,run_underlying hu,hb,hye.size]
 ·have hnl:n≤l.length:=by omega
  have hb:=Qa3 (P:=P) (w:=w) (a:=a) (isS:=true) (len:=l.length) (cap:=cap) (lo:=none) (l:=none) a2 (.inl ⟨rfl,rfl⟩) hh (by simp) (by simp) (by simpa using h1)
  simp only[Option.map_none,Option.getD_none,Int.toNat_zero,YF,KE]at hb
  have e2:l.flatten=(l.take n).flatten++(l.drop n).flatten:=by
   conv=>lhs;rw[←Kr n l]
   rw[YR]
  rw[e2]at a6;obtain⟨v1,v2,F1,F2,hv,hG,r1,r2⟩:=Qn.split _ _ a6;have f1:(l.take n).flatten.length=n*sz:=by rw[QaT _ sz (fun x hx=>a5 x (Ks hx)),KO,YT hnl]
  have l1:=r1.length
  have hv1:v1=c.toList.take (n*sz):=by
   have:(c.toList.take (l.length*sz)).take (n*sz)=v1:=by
    rw[hv,List.take_append_of_le_length (by omega),Kj (by omega)]
   rw[←this,List.take_take,YT (Ka _ hnl)]
  rw[hv1]at r1;rw[if_neg hd]at hnd ⊢;subst hG;have hlt:(l.take n).length=n:=by rw[KO,YT hnl]
  refine⟨.slice (some ⟨b,0,none⟩) n cap,b::F1,?_,.inr ⟨b,cap,c,ee,F1,by rw[hlt],by rw[if_neg hd],by rw[if_neg hd],a1,by omega,a3,a4,fun x hx=>a5 x (Ks hx),by rw[hlt];exact r1⟩,?_,?_⟩
  ·simp only[Instr.sliceAt,Instr.slice,Sem.run_bind,run_underlying hu,Result.andThen_ok,hb,hye.size,hsz,Sem.run_pure]
   split<;>simp[QbK]
  ·intro x hx
   rcases KI.1 hx with rfl|hx
   ·simp
   ·simp[hx]
  ·rw[Ke]at hnd ⊢
   refine⟨fun hm=>hnd.1 (by simp[hm]),?_⟩
   exact(Km.1 hnd.2).1
theorem QzS{dst:Option Nat}{d:Nat}{fresh:Bool}{type:TypeId}{pos:_}{after:_}{guard:_}{t:TypeId}{x:Operand}{hi:Option Operand}{ρ:Operand→AV}{p:Prop}{v:AV}{us:List (Id×Ob)}(hty:∀t y,T.ty t=some y→Qb9 X.P t y)(c:Qt X own s a w)(hd:∀x,dst=some x→X.dok x=true)(hdd:d=dst.getD 0)(hfr:fresh=true→Qr s dst=true)
  (hx:QM own w.heap s (ρ x) (a.eval x)) (hhi:∀y∈hi.toList,QM own w.heap s (ρ y) (a.eval y))
  (hf:opM T d ρ s.ob fresh (.slice t x none hi none)=some (p,v,us)) (hp:p):QbE X s a w ⟨dst,.slice t x none hi none,type,pos,after,guard⟩ v us:=by
 unfold opM at hf;dsimp only at hf;generalize QsK s.ob (ρ x)=sz at hf;split at hf
 ·rename_i e h l dp us1 hyt e2 ht
  split at hf
  ·rename_i y hye
   simp only[KA,KC]at hf
   obtain⟨rfl,rfl,rfl⟩:=hf;obtain⟨hsz,hpos,hdp,h0,h1,hfresh⟩:=hp;obtain⟨oid,rfl,hrow,htgt⟩:=Qid ht hx;obtain⟨m,hA,hmo,hmeq⟩:=Qpj htgt hdp;obtain⟨d',rfl,hfs⟩:=Qau (hfr hfresh);obtain rfl:d=d':=hdd;have hu:=(hty t _ hyt).2.2.2.2
   simp only at hu
   have hh:=QfK e2 hhi
   have hmnd:m.Nodup:=by
    rcases hmeq with h|h
    ·cases oid with
     | none=>
      cases m with
      | nil=>simp
      | cons b m=>obtain⟨id,h1,_⟩:=hmo b (by simp);cases h1
     | some id=>rw[←h id rfl];exact c.nodup id
    ·rw[h];simp
   subst hsz;obtain⟨u,m',g1,g2,g3,g4⟩:=Qar.cut (w:=w) (a:=a) hu.1 (hty _ y hye) rfl hh h0 h1 hdp hA hmnd;refine QbE.of_value (own':=Q1 own d oid.toList m') (u:=u) (w':=w) (by simp only[execOp,Option.map_none,Sem.run_bind,g1,Result.andThen_ok,Sem.run_pure]) (c.take (hd d rfl) hfs (fun id hid=>hrow id (by simpa using hid)) rfl rfl rfl (KP _) (fun k hk _=>rfl) (fun z hz=>?_) g4 fun _=>?_)
   ·obtain⟨id,h1,h2⟩:=hmo z (g3 z hz)
    exact⟨(c.lt id z h2).1,.inr ⟨id,by simp[h1],h2⟩⟩
   ·exact Qar.to_ok (F:=[]) (by simpa [Q1]using g2) (by simp)
  ·cases hf
 ·cases hf
theorem QsX{dst:Option Nat}{d:Nat}{fresh:Bool}{type:TypeId}{pos:_}{after:_}{guard:_}{t:TypeId}{x' y':Operand}{ρ:Operand→AV}{p:Prop}{v:AV}{us:List (Id×Ob)}(hty:∀t y,T.ty t=some y→Qb9 X.P t y)(c:Qt X own s a w)(hd:∀x,dst=some x→X.dok x=true)(hdd:d=dst.getD 0)(hfr:fresh=true→Qr s dst=true)
  (hx:∀x∈(#[x',y']:Array Operand),QM own w.heap s (ρ x) (a.eval x)) (hf:QCL T d s.ob fresh t (ρ x') (ρ y')=some (p,v,us)) (hp:p):QbE X s a w ⟨dst,.call ⟨.builtin .append,#[x',y'],#[t,t]⟩,type,pos,after,guard⟩ v us:=by
 unfold QCL at hf;split at hf
 ·rename_i id lo hi id' lo' hi' _ _ _ _ e _ e1 e2 hyt
  have hu:=(hty t _ hyt).2.2.2.2
  simp only at hu
  split at hf
  ·rename_i yi sz l dp hye ho
   simp only[KA,KC]at hf
   obtain⟨rfl,rfl,rfl⟩:=hf;obtain⟨rfl,rfl,rfl,hpos,hdp,hle,rfl,hfresh,hby⟩:=hp;obtain⟨d',rfl,hfs⟩:=Qau (hfr hfresh);obtain rfl:d=d':=hdd;have h1:=hx x' (by simp)
   have h2:=hx y' (by simp)
   rw[e1]at h1;rw[e2]at h2;obtain⟨hrow,ad1,n1,k1,g1,h1⟩:=h1;obtain⟨_,ad2,n2,k2,g2,h2⟩:=h2;rw[ho]at h1 h2;obtain⟨b,cap,z1,z2,z3,_,hhi,cc,ce,G,a1,a2,a3,a4,a5,a6,a7,_⟩:=h1;rw[z1,z2,z3]at g1;obtain⟨b2,cap2,z4,z5,z6,h5,_,cc2,ce2,G2,b1,b2',b3,b4,b5,_⟩:=h2;rw[z4,z5,z6]at g2;have hbb:b2=b:=by rw[a1]at b1;simpa using(List.cons.inj b1).1.symm
   subst hbb;rw[a2]at b2';simp only[KA,Obj.cells.injEq]at b2'
   obtain⟨rfl,rfl,_⟩:=b2';have hcc:cap2=cap:=Nat.eq_of_mul_eq_mul_right hpos (b5.symm.trans a5)
   subst hcc;rw[if_neg hdp]at a1;have hof:(if cap2=0 then 0 else 0*yi.size)=0:=by split<;>simp
   rw[hof,Nat.sub_zero,Nat.sub_zero]at g1;have e3:l=l.take hi++((l.take lo').drop hi++l.drop lo'):=by
    rw[←Kn];have:l.take hi++(l.take lo').drop hi=l.take lo':=by
     conv=>rhs;rw[←Kr hi (l.take lo')]
     rw[List.take_take,YT hle]
    rw[this,Kr]
   have e4:l.flatten=(l.take hi).flatten++(((l.take lo').drop hi).flatten++(l.drop lo').flatten):=by
    conv=>lhs;rw[e3]
    rw[YR,YR]
   have f1:(l.take hi).flatten.length=hi*yi.size:=by rw[QaT _ yi.size (fun x hx=>a6 x (Ks hx)),KO,YT hhi]
   have f2:((l.take lo').drop hi).flatten.length=(lo'-hi)*yi.size:=by rw[QaT _ yi.size (fun x hx=>a6 x (Ks (YI hx))),Kk,KO,YT h5]
   have f3:(l.drop lo').flatten.length=(l.length-lo')*yi.size:=by rw[QaT _ yi.size (fun x hx=>a6 x (YI hx)),Kk]
   have a7':=a7
   rw[e4]at a7';obtain⟨v1,v2,F1,F2,hv,hG,r1,r2⟩:=Qn.split _ _ a7';obtain⟨v3,v4,F3,F4,hv',hG',r3,r4⟩:=Qn.split _ _ r2;have l1:=r1.length
   have l3:=r3.length
   have l4:=r4.length
   have hlow:lo'*yi.size=hi*yi.size+(lo'-hi)*yi.size:=by rw[←YD];congr 1;omega
   have hv1:cc.toList.take (hi*yi.size)=v1:=by
    have:(cc.toList.take (l.length*yi.size)).take (hi*yi.size)=v1:=by
     rw[hv,List.take_append_of_le_length (by omega),Kj (by omega)]
    rw[←this,List.take_take,YT (Ka _ hhi)]
   have hv4:(cc.toList.drop (lo'*yi.size)).take ((l.length-lo')*yi.size)=v4:=by
    have h3:(cc.toList.take (l.length*yi.size)).drop (lo'*yi.size)=v4:=by
     rw[hv,hv',hlow,←Kn];rw[List.drop_append_of_le_length (by simp;omega),List.drop_eq_nil_of_le (by simp;omega),List.nil_append]
    rw[←h3,List.drop_take];congr 1
    rw[Nat.sub_mul]
   have hcap:l.length*yi.size≤cap2*yi.size:=Ka _ a3
   have hone:∀z∈v4,z.oneCell'=true:=r4.ones
   have htv:QEP w.heap yi.size (a.eval x') hi v1:= .inr ⟨b2,cap2,cc,ce,g1,a2,by omega,a4,a5,hv1⟩
   have hsv:QCI w yi.size (a.eval y') (l.length-lo') v4:=by
    refine .inr ⟨_,_,g2,by omega,fun j x hj=>?_⟩
    by_cases hcl:cap2=lo'
    ·have h0:l.length-lo'=0:=by omega
     have:v4=[]:=Kd (by rw[←l4,f3,h0,Nat.zero_mul])
     rw[this]at hj;simp at hj
    ·rw[if_neg hcl,QbK,Qb0 rfl a2]
     rw[←hv4,List.getElem?_take]at hj;split at hj
     ·rw[YQ]at hj
      simpa using hj
     ·cases hj
   have hmax:hi+(l.length-lo')≤maxLen:=by omega
   have hbyt:(hi+(l.length-lo'))*yi.bytes≤140737488355328:=KF (Ka _ (by omega)) hby
   obtain⟨v',w',r5,q1,q2,q3,q4,r6⟩:=QvF (P:=X.P) (ty:=type) hu.1 (hty e yi hye) hpos htv hsv hone hmax hbyt;have hnd:=c.nodup id'
   rw[a1,hG,hG',Ke]at hnd;have hnd1:(F1++F4).Nodup:=by
    have h3:=Km.1 hnd.2
    have h4:=Km.1 h3.2.1
    exact Km.2 ⟨h3.1,h4.2.1,fun x hx y hy=>h3.2.2 x hx y (by simp[hy])⟩
   have hsub:∀z∈F1++F4,z∈own id'∧z≠b2:=fun z hz=>by
    have:z∈F1++(F3++F4):=by
     rcases KG.1 hz with hz|hz<;>simp[hz]
    refine⟨by rw[a1,hG,hG'];simp only[KI];exact .inr this,fun e=>hnd.1 (by rw[←e];exact this)⟩
   have hbo:b2∈own id':=by rw[a1];simp
   have hlen:(l.take hi++l.drop lo').length=hi+(l.length-lo'):=by rw[KN,KO,Kk,YT hhi]
   have hall:∀x∈l.take hi++l.drop lo',x.length=yi.size:=fun x hx=>by
    rcases KG.1 hx with hx|hx
    ·exact a6 x (Ks hx)
    ·exact a6 x (YI hx)
   have hrow':∀id∈[id'],s.sl id.1≠ .any:=fun id hid=>by rw[KH]at hid;subst hid;exact hrow
   have fin:∀(nb:Nat) (c':Array Value) (e':TypeId),w'.heap[nb]? =some (.cells c' e' (0,0))→(∀z∈F1++F4,w'.heap[z]? =w.heap[z]?)→hi+(l.length-lo')≤cap2∨True→∀cap',hi+(l.length-lo')≤cap'→cap'≤maxLen→c'.size=cap'*yi.size→c'.toList.take ((hi+(l.length-lo'))*yi.size)=v1++v4→
     v'= .slice (some ⟨nb,0,none⟩) (hi+(l.length-lo')) cap'→QaX (Q1 own d [id'] (nb::(F1++F4))) w'.heap (d,0) yi.size (l.take hi++l.drop lo') dp v':=fun nb c' e' t1 t2 _ cap' t3 t4 t5 t6 t7=>by
    refine .inr ⟨nb,cap',by rw[hlen];exact t7,c',e',F1++F4,?_,t1,by rw[hlen];exact t3,t4,t5,hall,?_,fun h0=>absurd h0 hdp⟩
    ·rw[if_neg hdp];simp[Q1]
    ·rw[hlen,t6,YR]
     exact(Qn.append r1 r4).frame t2
   have hrun:(execOp a.eval ⟨some d,.call ⟨.builtin .append,#[x',y'],#[t,t]⟩,type,pos,after,guard⟩).run X.P w= .ok (.value v') w':=by
    simp only[execOp,resolve,invoke,builtin,Sem.run_bind,Sem.run_pure,Result.andThen_ok]
    simp only[Array.map,←Array.toList_map]at r5 ⊢
    simp[r5]
   rcases r6 with⟨s1,_⟩|⟨b',cap',c',e',s1,s2,s3,s4,s5,s6,s7,s8⟩|⟨cap',c',s2,s3,s3',s4,s5,s6,s7,s8⟩
   ·rw[g1]at s1;cases s1
   ·rw[g1]at s1
    simp only[Value.slice.injEq,KA,Addr.mk.injEq]at s1
    obtain⟨⟨rfl,_⟩,_,rfl⟩:=s1;refine QbE.of_value (own':=Q1 own d [id'] (b2::(F1++F4))) (u:=v') (w':=w') hrun (c.take (I:=[id']) (hd d rfl) hfs hrow' q1 q2 q3 q4 (fun k hk hn=>s4 k fun e=>hn id' (by simp) (e▸hbo)) (fun z hz=>?_) ?_ fun _=>fin b2 c' e' s3 (fun z hz=>s4 z (hsub z hz).2) (.inr trivial) cap2 s5 s6 s7 s8 s2)
    ·rcases KI.1 hz with rfl|hz
     ·have:=(c.lt id' _ hbo).1;exact⟨by omega,.inr ⟨id',by simp,hbo⟩⟩
     ·have:=(c.lt id' z (hsub z hz).1).1;exact⟨by omega,.inr ⟨id',by simp,(hsub z hz).1⟩⟩
    ·rw[Ke]
     exact⟨fun hm=>(hsub b2 hm).2 rfl,hnd1⟩
   ·refine QbE.of_value (own':=Q1 own d [id'] (w.heap.size::(F1++F4))) (u:=v') (w':=w') hrun (c.take (I:=[id']) (hd d rfl) hfs hrow' q1 q2 q3 q4 (fun k hk hn=>s4 k hk) (fun z hz=>?_) ?_ fun _=>fin w.heap.size c' e s3 (fun z hz=>s4 z (c.lt id' z (hsub z hz).1).1) (.inr trivial) cap' s5 s6 s7 s8 s2)
    ·rcases KI.1 hz with rfl|hz
     ·exact⟨s3',.inl (KP _)⟩
     ·have:=(c.lt id' z (hsub z hz).1).1;exact⟨by omega,.inr ⟨id',by simp,(hsub z hz).1⟩⟩
    ·rw[Ke]
     exact⟨fun hm=>by have:=(c.lt id' _ (hsub _ hm).1).1;omega,hnd1⟩
  ·cases hf
 ·cases hf
theorem Qwu{dst:Option Nat}{d:Nat}{fresh:Bool}{type:TypeId}{pos:_}{after:_}{guard:_}{ρ:Operand→AV}{p:Prop}{v:AV}{us:List (Id×Ob)}{cl:Call}(hc:cl.callee= .builtin .append)(hty:∀t y,T.ty t=some y→Qb9 X.P t y)(c:Qt X own s a w)(hd:∀x,dst=some x→X.dok x=true)(hdd:d=dst.getD 0)(hfr:fresh=true→Qr s dst=true)
  (hx:∀x∈cl.args,QM own w.heap s (ρ x) (a.eval x)) (hf:opM T d ρ s.ob fresh (.call cl)=some (p,v,us)) (hp:p):QbE X s a w ⟨dst,.call cl,type,pos,after,guard⟩ v us:=by
 obtain⟨cal,as,ts⟩:=cl;dsimp only at hc hx;subst hc;unfold opM at hf;dsimp only at hf;split at hf
 ·rename_i x y t t' e1 e2
  split at hf
  ·rename_i htt
   subst htt;have hargs:∃x' y',as=#[x',y']∧ρ x'=x∧ρ y'=y:=by
    obtain⟨as⟩:=as;match as,e1 with
    | [x',y'],h=>simp at h;exact⟨x',y',rfl,h.1,h.2⟩
    | [],h=>simp at h
    | [_],h=>simp at h
    | _::_::_::_,h=>simp at h
   obtain⟨x',y',rfl,rfl,rfl⟩:=hargs;have hts:ts=#[t,t]:=by
    obtain⟨ts⟩:=ts;simpa using e2
   subst hts;split at hf
   ·exact QsW hty c hd hdd hfr hx hf hp
   ·split at hf
    ·rename_i r hr
     rw[hf]at hr;exact QsV hty c hd hdd hfr hx hr hp
    ·exact QsX hty c hd hdd hfr hx hf hp
  ·cases hf
 ·cases hf
theorem QwB{av av':AV}{us:List (Id×Ob)}(c:Qt X own s a w)(hm:Qmt s.ob av=some (av',us)){u:Value}(hx:QM own w.heap s av u):
  Qt X own (s.put none .unk us) a w∧Qav own own w.heap w.heap s (s.put none .unk us)∧QM own w.heap (s.put none .unk us) av' u∧∀dst,Qr s dst=true→Qr (s.put none .unk us) dst=true:=by
 unfold Qmt at hm;split at hm
 ·rename_i id ds
  split at hm
  ·rename_i ho
   simp only[KA,KC]at hm
   obtain⟨rfl,rfl⟩:=hm;obtain⟨_,hrow,hx⟩:=hx;obtain⟨b,cv,e,F,g1,g2,g3,g4,g5⟩:=hx ho;have hup:∀id',(s.put none .unk [(id,Ob.box (ds.map .d))]).ob id'=if id'=id then .box (ds.map .d)else s.ob id':=fun id'=>by
    rw[St.put_ob];rfl
   have k:Qav own own w.heap w.heap s (s.put none .unk [(id,Ob.box (ds.map .d))]):=by
    refine⟨St.put_bs _ _ _ _,fun b hb=>⟨hb,rfl⟩,St.put_row s none _ _,fun id' _=>?_,fun id' _ _ _ _ _ _ _ h1 h2=>Qeu h1 h2 (by
     rw[hup]
     by_cases hi:id'=id
     ·rw[if_pos hi];exact .inr fun _ _ _ h=>by cases h
     ·rw[if_neg hi];exact .inl rfl)⟩
    rw[hup]
    by_cases hi:id'=id
    ·subst hi;rw[if_pos rfl,ho];exact .matb _
    ·rw[if_neg hi];exact .same _ rfl fun _ _=>rfl
   refine⟨?_,k,?_,?_⟩
   ·have:=c.turn (d:=none) (av:= .unk) (v:=undef) k rfl rfl rfl (KP _) (fun x hx=>by cases hx) c.lt c.nodup c.disj (fun id'=>?_) trivial
    ·exact this
    ·rw[hup]
     by_cases hi:id'=id
     ·subst hi
      rw[if_pos rfl];refine⟨b,cv,e,g2,g3,?_⟩
      exact Qfl g4 g5
     ·rw[if_neg hi]
      exact Qc4.keep (s:=s) k (by rw[hup,if_neg hi]) rfl (fun _ _=>rfl) (c.obs id') |> fun h=>by rw[hup,if_neg hi]at h;exact h
   ·refine⟨hrow,b,g1,?_⟩
    rw[hup,if_pos rfl];exact g2
   ·intro dst hf
    cases dst with
    | none=>simp[Qr]at hf
    | some d=>
     have hsl:(s.put none .unk [(id,Ob.box (ds.map .d))]).sl d=s.sl d:=rfl
     simp only[Qr,KB]at hf ⊢
     have hany:s.sl d= .any:=by
      have:=hf.1.1.1.1
      cases hs:s.sl d<;>simp_all[AV.isAny]
     have hne:∀j,(d,j)≠id:=fun j e=>hrow (by rw[←e];exact hany)
     rw[hsl,hup,hup,hup,hup,if_neg (hne 0),if_neg (hne 1),if_neg (hne 2),if_neg (hne 3)];exact hf
  ·cases hm
 ·cases hm
theorem Qon{d:Nat}{dst:Option Nat}{fresh:Bool}{f:FuncId}{vs:List AV}{vals:List Value}{p:Prop}{v:AV}{us:List (Id×Ob)}(hT:Qcd X.toEnv T)(c:Qt X own s a w)(hd:∀x,dst=some x→X.dok x=true)(hdd:d=dst.getD 0)
  (hfr:fresh=true→Qr s dst=true) (hvs:Qas (QM own w.heap s) vs vals) (hf:QjL T d s.ob fresh f vs=some (p,v,us)) (hp:p):
  Qe6 X.P f∧Calls X.P f vals.toArray w fun e w'=>∃u,e= .returned u∧∃own',Qt X own' (s.put dst v us) (a.put dst u) w':=by
 unfold QjL at hf;cases hvs with
 | nil=>cases hf
 | @cons v0 x vr xr hx hr=>
  dsimp only at hf;split at hf
  ·rename_i v1 us0 had
   split at hf
   ·rename_i p0 v2 us1 hcm
    simp only[KA,KC]at hf
    obtain⟨rfl,rfl,rfl⟩:=hf;obtain⟨c1,k,hx1,hfr1⟩:=QwB c had hx;have h:=Qix hT c1 hd hdd (fun hh=>hfr1 dst (hfr hh)) (.cons hx1 (QdI (fun _ _ q=>q.keep k) hr)) (by rw[St.put_ob];exact hcm) hp
    simp only[Qb6]at h
    exact h
   ·cases hf
  ·cases hf
end
end
section
variable {hd:Hid}
section
variable {X:Ctx} {T:QS} {own:Id→List Nat} {s:St} {w:World} {a:Act} {ρ:Operand→AV} {p:Prop} {v:AV} {us:List (Id×Ob)} {d:Nat} {fresh im:Bool}
theorem QkO(c:Qt X own s a w)(x:Operand):QM own w.heap s (rho s x) (a.eval x):=by
 cases x with
 | tmp t=>exact c.sls t
 | const v=>
  simp only[rho,Act.eval]
  split
  ·exact Qaw v ‹_›
  ·trivial
 | global g=>trivial
 | func f=>exact⟨[],rfl,.nil⟩
theorem Qas.of_map{R:AV→Value→Prop}{f:Operand→AV}{g:Operand→Value}:∀(xs:List Operand),(∀x∈xs,R (f x) (g x))→Qas R (xs.map f) (xs.map g)
 | [],_=> .nil
 | x::xs,h=> .cons (h x (by simp)) (Qas.of_map xs fun y hy=>h y (by simp[hy]))
theorem QD0{h:Q6}{ev:Operand→Value}{o:Oper}(hty:∀t y,T.ty t=some y→Qb9 X.P t y)(hx:∀x∈o.op.operands.toList,QM own h s (ρ x) (ev x))(hf:opP T ρ o.op=some (p,v))(hp:p):Q3 X.P own h s o ev w v:=by
 obtain⟨dst,op,type,pos,after,guard⟩:=o;dsimp only at hx hf;cases op with
 | move x=>exact QCT (hx x (by simp[Op.operands])) hf
 | pick c x y=>exact QCU (hx c (by simp[Op.operands])) (hx x (by simp[Op.operands])) (hx y (by simp[Op.operands])) hf hp
 | unOp op t x=>exact QCV (hx x (by simp[Op.operands])) hf hp
 | binOp op t x y ty=>exact QzV hty (hx x (by simp[Op.operands])) (hx y (by simp[Op.operands])) hf hp
 | fieldAddr t x f=>exact Qn8 hty (hx x (by simp[Op.operands])) hf hp
 | field t x f=>exact QzW hty (hx x (by simp[Op.operands])) hf
 | extract x i=>exact QsY (hx x (by simp[Op.operands])) hf
 | makeFunc fn first bs=>exact QrC (fun x hm=>hx x (by simp[Op.operands];exact .inr (by simpa using hm))) hf
 | nilCheck x=>exact QrD (hx x (by simp[Op.operands])) hf
 | _=>simp[opP]at hf
theorem Ql0{P:Program}{f:FuncId}(h:Qe6 P f)(args:Array Value)(w:World):(callFunc f args).run P w= .ok (.enter f args) w:=by
 obtain⟨fn,h1,h2,h3⟩:=h;have h2':fn.name≠ "runtime.NumGoroutine" :=by simpa using h2
 have h3':fn.body≠none:=fun h=>by rw[h]at h3;cases h3
 simp[callFunc,go_sem,h1,h2',h3']
theorem QfZ{P:Program}{f:FuncId}(h:Qe6 P f){x:Operand}{vs:Array Value}(hv:a.eval x= .func (.func f) #[] vs){dst:Option Nat}{as:Array Operand}{ts:Array TypeId}{type:TypeId}{pos:String}{after:Array Edge}{guard:Option (Nat×Bool)}:
  (execOp a.eval ⟨dst,.call {callee:= .value x,args:=as,argTypes:=ts},type,pos,after,guard⟩).run P w= .ok (.enter f (as.map a.eval++vs)) w:=by
 simp only[execOp,resolve,hv,Deferred.ofValue,Sem.run_bind,Sem.run_pure,Result.andThen_ok,invoke]
 rw[Ql0 h];simp
theorem QbE.of_call{f:FuncId}{args:Array Value}{o:Oper}(h:(execOp a.eval o).run X.P w= .ok (.enter f args) w)
  (hc:Calls X.P f args w fun e w'=>∃u,e= .returned u∧∃own',Qt X own' (s.put o.dst v us) (a.put o.dst u) w'):QbE X s a w o v us:=by
 intro K Q hK;unfold Oper.wp;rw[h,Oper.upon_enter];refine hc.mono ?_
 rintro e w' ⟨u,rfl,own',hh⟩;exact hK u w' ⟨own',hh⟩
theorem QD1{o:Oper}(hT:Qcd X.toEnv T)(c:Qt X own s a w)(hd:∀x,o.dst=some x→X.dok x=true)(hdd:d=o.dst.getD 0)(hfr:fresh=true→Qr s o.dst=true)
  (hx:∀x∈o.op.operands.toList,QM own w.heap s (ρ x) (a.eval x)) (hf:opR T d ρ s.ob fresh im o.op=some (p,v)) (hp:p):QbE X s a w o v []:=by
 have hty:=hT.ty
 obtain⟨dst,op,type,pos,after,guard⟩:=o;dsimp only at hd hdd hfr hx hf;have C:∀{v},Q3 X.P own w.heap s ⟨dst,op,type,pos,after,guard⟩ a.eval w v→QbE X s a w ⟨dst,op,type,pos,after,guard⟩ v []:=fun h=>QbE.of_computes c hd h
 cases op with
 | load t x=>exact C (QCY hty c (hx x (by simp[Op.operands])) hf hp)
 | indexAddr t x i=>exact C (Qn9 hty (hx x (by simp[Op.operands])) (hx i (by simp[Op.operands])) hf hp)
 | index t x i=>exact C (Qz0 hty (hx x (by simp[Op.operands])) (hx i (by simp[Op.operands])) hf hp)
 | slice t x lo hi mx=>exact C (Qz1 hty (hx x (by simp[Op.operands])) (fun y hy=>hx y (by cases lo<;>simp_all[Op.operands])) (fun y hy=>hx y (by cases hi<;>simp_all[Op.operands])) hf hp)
 | convert t u x=>exact C (QsZ hty (hx x (by simp[Op.operands])) hf hp)
 | makeSlice t n cc=>exact Qoa hty c hd hdd hfr (hx n (by simp[Op.operands])) (hx cc (by simp[Op.operands])) hf hp
 | buildSlice t n ps=>exact Qmq hty c hd hdd hfr (fun q hq=>hx q.2 (by simp[Op.operands];exact⟨q.1,hq⟩)) hf hp
 | build t ps=>exact C (QzZ hty (fun q hq=>hx q.2 (by simp[Op.operands];exact⟨q.1,hq⟩)) hf)
 | call cl=>
  obtain⟨cal,as,ts⟩:=cl;have hargs:∀x∈as.toList,QM own w.heap s (ρ x) (a.eval x):=fun x hm=>hx x (by cases cal<;>simp_all[Op.operands,Call.operands])
  cases cal with
  | builtin b=>
   cases b with
   | len=>exact C (QEO rfl hty (fun x hm=>hargs x (by simpa using hm)) hf)
   | max=>exact C (Qpp (mx:=true) rfl (fun x hm=>hargs x (by simpa using hm)) hf)
   | min=>exact C (Qpp (mx:=false) rfl (fun x hm=>hargs x (by simpa using hm)) hf)
   | _=>simp[opR]at hf
  | invoke r n=>simp[opR]at hf
  | value x=>
   have hxx:QM own w.heap s (ρ x) (a.eval x):=hx x (by simp[Op.operands,Call.operands])
   have key:∀{f:FuncId} {p0:Prop} {v0:AV},QgA T d s.ob fresh im false f (as.toList.map ρ)=some (p0,v0,[])→p0→a.eval x= .func (.func f) #[] #[]→QbE X s a w ⟨dst,.call ⟨.value x,as,ts⟩,type,pos,after,guard⟩ v0 []:=fun hcf hp0 hv=>by
    obtain⟨g1,g2⟩:=QgC hT c hd hdd hfr (Qas.of_map as.toList hargs) hcf hp0;exact QbE.of_call (QfZ g1 hv) (by
     have e:(as.toList.map a.eval).toArray=as.map a.eval++#[]:=by apply Array.toList_inj.1;simp
     rw[←e];exact g2)
   have key2:∀{f:FuncId} {caps:List Id},ρ x= .one (.fn f caps)→(match QgA T d s.ob fresh im false f (as.toList.map ρ++caps.map fun id=> .one (.bptr id 0))with
     | some (p,v,[])=>some (p,v)
     | _=>none)=some (p,v)→QbE X s a w ⟨dst,.call ⟨.value x,as,ts⟩,type,pos,after,guard⟩ v []:=fun {f caps} hr hf=>by
    rw[hr]at hxx;obtain⟨vs,hv,hcs⟩:=hxx;split at hf
    ·rename_i p0 v0 hcf
     simp only[KA,KC]at hf
     obtain⟨rfl,rfl⟩:=hf;have hall:Qas (QM own w.heap s) (caps.map fun id=> .one (.bptr id 0)) vs:=by
      clear hcf hr hv;induction hcs with
      | nil=>exact .nil
      | cons h1 _ ih=>exact .cons h1 ih
     obtain⟨g1,g2⟩:=QgC hT c hd hdd hfr ((Qas.of_map as.toList hargs).append hall) hcf hp;exact QbE.of_call (QfZ g1 hv) (by
      have e:(as.toList.map a.eval++vs).toArray=as.map a.eval++vs.toArray:=by apply Array.toList_inj.1;simp
      rw[←e];exact g2)
    ·cases hf
   have key3:∀{f:FuncId} {l:List (List D)},ρ x= .one (.fni f l)→(match QgA T d s.ob fresh im false f (as.toList.map ρ++l.map fun ds=> .one (.iptr ds))with
     | some (p,v,[])=>some (p,v)
     | _=>none)=some (p,v)→QbE X s a w ⟨dst,.call ⟨.value x,as,ts⟩,type,pos,after,guard⟩ v []:=fun {f l} hr hf=>by
    rw[hr]at hxx;obtain⟨vs,F,hv,hcs,hF⟩:=hxx;split at hf
    ·rename_i p0 v0 hcf
     simp only[KA,KC]at hf
     obtain⟨rfl,rfl⟩:=hf;have hall:Qas (QM own w.heap s) (l.map fun ds=> .one (.iptr ds)) vs:=by
      clear hcf hr hv;induction hcs with
      | nil=>exact .nil
      | @cons ds b c e fz F l vs G h1 h2 _ ih=>
       refine .cons ?_ (ih fun b hb=>hF b (by simp[hb]))
       have hlen:ds.length=c.toList.length:=h2.length
       exact⟨b,0,c,e,fz,F,rfl,h1,by simp at hlen;omega,by rw[K1,hlen,KR];exact h2,hF b (by simp),fun x hx=>hF x (by simp[hx])⟩
     obtain⟨g1,g2⟩:=QgC hT c hd hdd hfr ((Qas.of_map as.toList hargs).append hall) hcf hp;exact QbE.of_call (QfZ g1 hv) (by
      have e:(as.toList.map a.eval++vs).toArray=as.map a.eval++vs.toArray:=by apply Array.toList_inj.1;simp
      rw[←e];exact g2)
    ·cases hf
   cases x with
   | func f=>
    unfold opR at hf;dsimp only at hf;split at hf
    ·rename_i p0 v0 hcf
     simp only[KA,KC]at hf
     obtain⟨rfl,rfl⟩:=hf;exact key (QdJ hcf).1 hp rfl
    ·cases hf
   | _=>
    unfold opR at hf;dsimp only at hf;split at hf
    ·exact key3 ‹_› hf
    ·exact key2 ‹_› hf
    ·cases hf
 | _=>simp[opR]at hf
theorem QDZ{o:Oper}(hT:Qcd X.toEnv T)(c:Qt X own s a w)(hd:∀x,o.dst=some x→X.dok x=true)(hdd:d=o.dst.getD 0)(hfr:fresh=true→Qr s o.dst=true)(hst:∀t x y,o.op= .store t x y→o.dst=none)
  (hx:∀x∈o.op.operands.toList,QM own w.heap s (ρ x) (a.eval x)) (hf:opM T d ρ s.ob fresh o.op=some (p,v,us)) (hp:p):QbE X s a w o v us:=by
 have hty:=hT.ty
 obtain⟨dst,op,type,pos,after,guard⟩:=o;dsimp only at hd hdd hfr hx hf hst;cases op with
 | assign x=>exact Qwv c hd (hx x (by simp[Op.operands])) hf hp
 | box t x=>exact QEM hty c hd hdd hfr (hx x (by simp[Op.operands])) hf hp
 | alloc t=>exact QzR hty c hd hdd hfr hf hp
 | store t ad x=>exact QzT hty c (hst _ _ _ rfl) (hx ad (by simp[Op.operands])) (hx x (by simp[Op.operands])) hf hp
 | slice t x lo hi mx=>
  cases lo with
  | some _=>simp[opM]at hf
  | none=>
   cases mx with
   | some _=>simp[opM]at hf
   | none=>exact QzS hty c hd hdd hfr (hx x (by simp[Op.operands])) (fun y hy=>hx y (by cases hi<;>simp_all[Op.operands])) hf hp
 | call cl=>
  obtain⟨cal,as,ts⟩:=cl;have hargs:∀x∈as.toList,QM own w.heap s (ρ x) (a.eval x):=fun x hm=>hx x (by cases cal<;>simp_all[Op.operands,Call.operands])
  cases cal with
  | builtin b=>
   cases b with
   | append=>exact Qwu rfl hty c hd hdd hfr (fun x hm=>hargs x (by simpa using hm)) hf hp
   | _=>simp[opM]at hf
  | invoke r n=>simp[opM]at hf
  | value x=>
   cases x with
   | func f=>
    have hg:Qe6 X.P f∧Calls X.P f (as.toList.map a.eval).toArray w fun e w'=>∃u,e= .returned u∧∃own',Qt X own' (s.put dst v us) (a.put dst u) w':=by
     simp only[opM]at hf
     replace hf:=(QbH (QdJ hf).1).1;split at hf
     ·rename_i r hr
      obtain rfl:=K0 hf;exact Qix hT c hd hdd hfr (Qas.of_map as.toList hargs) hr hp
     ·split at hf
      ·rename_i r hr
       obtain rfl:=K0 hf;exact Qoo hT c hd hdd hfr (Qas.of_map as.toList hargs) hr hp
      ·split at hf
       ·rename_i r hr
        obtain rfl:=K0 hf;exact Qop hT c hd hdd hfr (Qas.of_map as.toList hargs) hr hp
       ·split at hf
        ·rename_i r hr
         obtain rfl:=K0 hf;exact Qoq hT c hd hdd hfr (Qas.of_map as.toList hargs) hr hp
        ·exact Qon hT c hd hdd hfr (Qas.of_map as.toList hargs) hf hp
    obtain⟨g1,g2⟩:=hg;exact QbE.of_call (QfZ g1 (vs:=#[]) rfl) (by
     have e:(as.toList.map a.eval).toArray=as.map a.eval++#[]:=by apply Array.toList_inj.1;simp
     rw[←e];exact g2)
   | _=>simp[opM]at hf
 | _=>simp[opM]at hf
theorem Qvg{o:Oper}(hT:Qcd X.toEnv T)(c:Qt X own s a w)(hd:∀x,o.dst=some x→X.dok x=true)(hdd:d=o.dst.getD 0)(hfr:fresh=true→Qr s o.dst=true)(hst:∀t x y,o.op= .store t x y→o.dst=none)
  (hx:∀x∈o.op.operands.toList,QM own w.heap s (ρ x) (a.eval x)) (hf:opF T d ρ s.ob fresh im o.op=some (p,v,us)) (hp:p):QbE X s a w o v us:=by
 unfold opF at hf;split at hf
 ·split at hf
  ·rename_i h1
   simp only[KA,KC]at hf
   obtain⟨rfl,rfl,rfl⟩:=hf;exact QbE.of_computes c hd (QD0 hT.ty hx h1 hp)
  ·cases hf
 ·split at hf
  ·rename_i h1
   simp only[KA,KC]at hf
   obtain⟨rfl,rfl,rfl⟩:=hf;exact QD1 hT c hd hdd hfr hx h1 hp
  ·cases hf
 ·exact QDZ hT c hd hdd hfr hst hx hf hp
theorem QpS{dst:Option Nat}(c:Qt X own (s.put dst v []) a w):Qt X own (s.put dst (.cnd true v) []) a w:=by
 have hbs:(s.put dst (.cnd true v) []).bs=(s.put dst v []).bs:=by rw[St.put_bs,St.put_bs]
 have hob:(s.put dst (.cnd true v) []).ob=(s.put dst v []).ob:=by rw[St.put_ob,St.put_ob]
 have k:Qav own own w.heap w.heap (s.put dst v []) (s.put dst (.cnd true v) []):=by
  refine Qav.refl_heap (fun r hr=>?_) hbs hob
  cases dst with
  | none=>exact hr
  | some d=>
   simp only[St.put,upd]at hr ⊢
   split
   ·simp[AV.mk]
   ·rename_i h;rw[if_neg h]at hr;exact hr
 refine c.next c.defers c.size rfl rfl rfl (KP _) (fun _ _ _=>rfl) c.lt c.nodup c.disj hbs (fun id=>?_) (fun i=>?_) fun _ _=>rfl
 ·exact Qc4.keep k (by rw[hob]) rfl (fun _ _=>rfl) (c.obs id)
 ·have h:=(c.sls i).keep k
  cases dst with
  | none=>exact h
  | some d=>
   by_cases hi:i=d
   ·subst hi
    have e1:(s.put (some i) v []).sl i=v.mk:=by simp[St.put,Qif]
    have e2:(s.put (some i) (.cnd true v) []).sl i= .cnd true v:=by simp[St.put,Qif,AV.mk]
    rw[e1]at h;rw[e2];refine⟨fun _=>?_,fun h=>by cases h⟩
    cases v<;>first|exact h|trivial
   ·have e1:(s.put (some d) v []).sl i=(s.put (some d) (.cnd true v) []).sl i:=by simp[St.put,Qwd _ _ _ _ hi]
    rw[←e1];exact h
theorem Qj0(b:Bool):undef≠ .bool b:=by simp[undef]
theorem Qhu{ops:Array Oper}{t j:Nat}{b:Bool}(hj:(ops[j]?).bind (·.dst)=some t)(hv:a.tmps.getD t undef= .bool b):yielded ops a.tmps j=some b:=by
 unfold yielded;have ht:a.tmps[t]? =some (.bool b):=by
  rw[K9]at hv;cases h:a.tmps[t]? with
  | none=>rw[h]at hv;exact absurd hv (Qj0 b)
  | some x=>rw[h]at hv;simpa using hv
 simp[hj,ht]
theorem Qgp{ops:Array Oper}{t j:Nat}(hj:(ops[j]?).bind (·.dst)=some t)(hv:a.tmps.getD t undef=undef):yielded ops a.tmps j=none:=by
 unfold yielded;rw[hj];rw[K9]at hv;cases h:a.tmps[t]? with
 | none=>simp[h]
 | some x=>rw[h]at hv;simp at hv;subst hv;simp[h,undef]
theorem QxR{ops:Array Oper}{o:Oper}{y:Nat→Option Bool}(h:gOf ops s o=some none):Region.wanted o y=true:=by
 unfold gOf at h;unfold Region.wanted;split at h
 ·rename_i e;rw[e]
 ·split at h
  ·split at h<;>simp at h
  ·cases h
theorem QxS{ops:Array Oper}{o:Oper}{g:Bool}(c:Qt X own s a w)(h:gOf ops s o=some (some g)):Region.wanted o (yielded ops a.tmps)=g:=by
 unfold gOf at h;unfold Region.wanted;split at h
 ·cases h
 ·rename_i j want e
  rw[e];dsimp only;split at h
  ·rename_i t ht
   have hv:=c.sls t
   split at h
   ·rename_i b hb
    rw[hb]at hv;simp only[KA]at h
    subst h;rw[Qhu ht (Qad hv)];cases b<;>cases want<;>rfl
   ·rename_i g0 b hb
    rw[hb]at hv;simp only[KA]at h
    subst h;cases g0 with
    | true=>
     rw[Qhu ht (Qad (hv.1 rfl))];cases b<;>cases want<;>rfl
    | false=>
     rw[Qgp ht (hv.2 rfl)];simp
   ·rename_i hb
    rw[hb]at hv;simp only[KA]at h
    subst h;rw[Qgp ht (hv.2 rfl)];simp
   ·cases h
  ·cases h
theorem QnO(hT:Qcd X.toEnv T)(ops:Array Oper)(o:Oper)(ho:∀d,o.dst=some d→X.dok d=true∧QoR o.op=false):Qj2 X T ops o:=by
 intro s p v us hf hp a w hc K Q hK;obtain⟨own,c⟩:=hc;have hd:∀x,o.dst=some x→X.dok x=true:=fun x hx=>(ho x hx).1
 have hst:∀t x y,o.op= .store t x y→o.dst=none:=fun t x y h=>by
  cases h1:o.dst with
  | none=>rfl
  | some d=>have:=(ho d h1).2;rw[h]at this;cases this
 unfold F1 at hf;split at hf
 ·cases hf
 ·rename_i hg
  rw[if_pos (QxR hg)];exact Qvg hT c hd rfl (fun h=>h) hst (fun x _=>QkO c x) hf hp K Q hK
 ·rename_i g hg
  rw[QxS c hg];have key:∀{p0:Prop} {v0:AV} {us0:List (Id×Ob)},cls T o.op≠ .M→opF T (o.dst.getD 0) (fun x=>QcI (rho s x)) s.ob false true o.op=some (p0,v0,us0)→p=(g=true→((∀x∈o.op.operands.toList,QdT g (rho s x))∧p0))→v= .cnd g v0→us=[]→
    if g=true then o.wp X.P a w K Q else K (a.put o.dst undef) w:=fun {p0 v0 us0} hnm h0 hpp hvv huu=>by
   subst hpp hvv huu;cases g with
   | false=>
    simp only[KX,if_false]
    exact hK undef w ⟨own,c.pure rfl rfl rfl rfl hd ⟨(fun h=>(nomatch h)),fun _=>rfl⟩⟩
   | true=>
    obtain⟨h1,h2⟩:=hp rfl;rw[if_pos rfl];have hus:us0=[]:=by
     unfold opF at h0;split at h0
     ·split at h0
      ·simp only[KA,KC]at h0;exact h0.2.2.symm
      ·cases h0
     ·split at h0
      ·simp only[KA,KC]at h0;exact h0.2.2.symm
      ·cases h0
     ·rename_i hh;exact absurd hh hnm
    subst hus;refine Qvg hT c hd rfl (fun h=>by cases h) hst (fun x hx=>?_) h0 h2 K Q fun u w' hcc=>?_
    ·have hr:=QkO c x
     have hc:=h1 x hx
     cases hrr:rho s x with
     | cnd g' v'=>
      rw[hrr]at hr hc;exact hr.1 (hc rfl)
     | _=>rw[hrr]at hr;exact hr
    ·obtain⟨own',hcc⟩:=hcc
     exact hK u w' ⟨own',QpS hcc⟩
  split at hf
  ·split at hf
   ·split at hf
    ·rename_i hgt
     split at hf
     ·rename_i h0
      simp only[KA,KC]at hf
      obtain⟨rfl,rfl,rfl⟩:=hf;obtain⟨h1,h2⟩:=hp;rw[if_pos hgt];refine Qvg hT c hd rfl (fun h=>h) hst (fun x hx=>?_) h0 h2 K Q hK
      have hr:=QkO c x
      have hc:=h1 x hx
      cases hrr:rho s x with
      | cnd g' v'=>
       rw[hrr]at hr hc;exact hr.1 (hc rfl)
      | _=>rw[hrr]at hr;exact hr
     ·cases hf
    ·rename_i hgf
     simp only[KA,KC]at hf
     obtain⟨_,rfl,rfl⟩:=hf;rw[if_neg hgf];exact hK undef w ⟨own,c.pure rfl rfl rfl rfl hd ⟨(fun h=>(nomatch h)),fun _=>rfl⟩⟩
   ·cases hf
  ·rename_i hnm
   split at hf
   ·rename_i h9
    simp only[KA,KC]at hf
    obtain⟨_,rfl,rfl⟩:=hf;rw[KB,Ko]at h9;rw[h9.2];simp only[KX,if_false]
    exact hK undef w ⟨own,c.pure rfl rfl rfl rfl hd ⟨(fun h=>(nomatch h)),fun _=>rfl⟩⟩
   split at hf
   ·rename_i h0
    simp only[KA,KC]at hf
    obtain⟨rfl,rfl,rfl⟩:=hf;cases g with
    | false=>
     simp only[KX,if_false]
     exact hK undef w ⟨own,c.pure rfl rfl rfl rfl hd ⟨(fun h=>(nomatch h)),fun _=>rfl⟩⟩
    | true=>
     have hp:=hp rfl
     rw[if_pos rfl];unfold QjX at h0;split at h0
     ·rename_i cc x y hop
      split at h0
      ·rename_i b hb
       split at h0
       ·rename_i q1 y1 q2 z1 h1 h2
        simp only[KA,KC]at h0
        obtain⟨rfl,rfl⟩:=h0;have hc:QM own w.heap s (bV b) (a.eval cc):=by
         have hr:=QkO c cc
         have h3:=hp.1
         cases hrr:rho s cc with
         | cnd g' v'=>
          rw[hrr]at hr h3 hb;have hb':v'=bV b:=hb
          rw[←hb'];exact hr.1 (h3 rfl)
         | _=>rw[hrr]at hr hb;simp only[QcI]at hb;first|(rw[hb]at hr;exact hr)|cases hb
        obtain⟨dst,op,type,pos,after,guard⟩:=o;dsimp only at hop;subst hop;refine QbE.of_computes c hd (QzX hc (QkO c x) (QkO c y) h1 h2 hp.2) K Q fun u w' hcc=>?_
        obtain⟨own',hcc⟩:=hcc;exact hK u w' ⟨own',QpS hcc⟩
       ·cases h0
      ·cases h0
     ·cases h0
   split at hf
   ·rename_i h0
    simp only[KA,KC]at hf
    exact key (by intro h;exact hnm h) h0 hf.1.symm hf.2.1.symm hf.2.2.symm
   ·cases hf
end
end
section
variable {hd:Hid}
def QbA(al:Bool):Arg→AV
 | .one d=> .one (QbL al d)
 | .agg ds=> .agg (ds.map (QbL al))
 | .ptr ds=> .one (.iptr ds)
 | .fnc f []=> .one (.fn f [])
 | .fnc f l=> .one (.fni f l)
 | _=> .unk
def QnC:Arg→Bool
 | .one _| .agg _| .ptr _| .fnc .. =>true
 | _=>false
def Qm9(al:Bool)(bs:Nat→Prop)(args:List Arg):St:=⟨bs,fun i=>(args.map (QbA al)).getD i .any,fun _=> .none⟩
def Qsy(T:QS)(s:St):ResultVar→Option AV
 | .tmp t=>some (s.sl t)
 | .cell a t=>match T.ty t,s.sl a with
  | some y,.one (.bptr id 0)=>match s.ob id with
   | .box cs=>Qhq y.agg 0 y.size cs
   | _=>none
  | _,_=>none
def QnB(tmps:Array Value):ResultVar→Sem Value
 | .tmp t=>pure (tmps.getD t undef)
 | .cell a t=>do loadVar t (←asAddr (tmps.getD a undef))
theorem QeZ(fn:Func)(tmps:Array Value):results fn tmps=(do
  let vs ←fn.results.mapM (QnB tmps)
  pure (if h:vs.size=1 then vs[0]else .tuple vs)):=by
 unfold results;have:QnB tmps=(fun
  | .tmp t=>pure (tmps.getD t undef)
  | .cell a t=>do loadVar t (←asAddr (tmps.getD a undef))):=by
  funext x
  cases x<;>rfl
 rw[this];rfl
def QpI(ob:Id→Ob):QI→RC→Option (Prop×List (Option Id))
 | .d (.v (.slice none 0 0)),.d (.sl _ l')=>some (l'=[],[])
 | .d (.v x),.d y=>some (D.v x=y,[])
 | .d (.v (.slice none 0 0)),.own _ l' dp'=>some (l'=[]∧dp'≠0,[none])
 | .n x,.d y=>some (x=y,[])
 | .fr id s l dp,.own s' l' dp'=>match ob id with
  | .none=>some (s=s'∧l=l'∧dp'≠0∧dp≠0,[some id])
  | _=>none
 | .osl id,.own s' l' dp'=>match ob id with
  | .arr s l dp=>some (s=s'∧l=l'∧dp'≠0∧dp≠0,[some id])
  | _=>none
 | .bptr id 0,.box ds'=>match ob id with
  | .box cs=>match Qao cs with
   | some ds=>some (ds=ds'∧cs.all QbM=true,[some id])
   | none=>none
  | _=>none
 | _,_=>none
def QdD(ob:Id→Ob):List QI→List RC→Option (Prop×List (Option Id))
 | [],[]=>some (True,[])
 | c::cs,r::rs=>match QpI ob c r,QdD ob cs rs with
  | some (p,l),some (q,m)=>some (p∧q,l++m)
  | _,_=>none
 | _,_=>none
def Qh5(own:Id→List Nat):Option Id→List Nat
 | some id=>own id
 | none=>[]
def QED(ob:Id→Ob)(av:AV)(r:RV):Option (Prop×List (Option Id)):=
 match r,av with
 | ⟨false,[c]⟩,.one c'=>QdD ob [c'] [c]
 | ⟨true,cs⟩,.agg cs'=>QdD ob cs' cs
 | _,_=>none
def QdX(T:QS)(s:St):List ResultVar→List RV→Option (Prop×List (Option Id))
 | [],[]=>some (True,[])
 | x::xs,r::rs=>match Qsy T s x with
  | some av=>match QED s.ob av r,QdX T s xs rs with
   | some (p,l),some (q,m)=>some (p∧q,l++m)
   | _,_=>none
  | none=>none
 | _,_=>none
def Qhf(T:QS)(xs:List ResultVar)(rs:List RV)(s:St):Prop:=
 match QdX T s xs rs with
 | some (p,l)=>p∧(l.filterMap fun x=>x).Nodup
 | none=>False
def QzY(T:QS)(xs:List ResultVar)(rs:List RV):Exit→St→Prop
 | .normal,s=>Qhf T xs rs s
 | .ret,s=>Qhf T xs rs s
 | _,_=>False
def QtL(ob:Id→Ob):QI→Bool
 | .d (.v _)=>true
 | .n _=>true
 | .fr _ _ _ dp=>dp !=0
 | .osl id=>match ob id with
  | .arr _ _ dp=>dp !=0
  | _=>false
 | _=>false
def QDX:QI→D→Option Prop
 | .d (.v v),.sl _ l=>some (v= .slice none 0 0∧l=[])
 | _,_=>none
def QpJ(al:Bool)(ob:Id→Ob)(c:QI):RC→Option Prop
 | .d y=>match QDX c y with
  | some p=>some p
  | none=>match toD ob c with
   | some x=>if(al||QtL ob c)=true then some (x=y)else none
   | none=>none
 | _=>none
def Qeb(al:Bool)(ob:Id→Ob):List QI→List RC→Option Prop
 | [],[]=>some True
 | c::cs,r::rs=>match QpJ al ob c r,Qeb al ob cs rs with
  | some p,some q=>some (p∧q)
  | _,_=>none
 | _,_=>none
def QEC(al:Bool)(ob:Id→Ob)(av:AV)(r:RV):Option Prop:=
 match r,av with
 | ⟨false,[c]⟩,.one c'=>Qeb al ob [c'] [c]
 | ⟨true,cs⟩,.agg cs'=>Qeb al ob cs' cs
 | _,_=>none
def Qpa(al:Bool)(T:QS)(s:St):List ResultVar→List RV→Option Prop
 | [],[]=>some True
 | x::xs,r::rs=>match Qsy T s x with
  | some av=>match QEC al s.ob av r,Qpa al T s xs rs with
   | some p,some q=>some (p∧q)
   | _,_=>none
  | none=>none
 | _,_=>none
def QrE(T:QS)(xs:List ResultVar)(rs:List RV)(s:St):Prop:=
 match QdX T s xs rs with
 | some (p,l)=>p∧(l.filterMap fun x=>x).Nodup
 | none=>match Qpa (T.bx 998) T s xs rs with
  | some p=>p
  | none=>False
def Qy1(T:QS)(xs:List ResultVar)(rs:List RV):Exit→St→Prop
 | .normal,s=>QrE T xs rs s
 | .ret,s=>QrE T xs rs s
 | _,_=>False
section
variable {X:Ctx} {T:QS} {own:Id→List Nat} {s:St} {w:World} {a:Act} {h:Q6}
theorem Qdb{al:Bool}:∀{args:List Arg} {vals:List Value} {F:List Nat} {Ms:List (List Nat)},Q5 h args vals F Ms→args.all QnC=true→(∀b∈F,Imm own h b∧(al=true→s.bs b))→
  Qas (QM own h s) (args.map (QbA al)) vals
 | [],vals,F,Ms,a,_,_=>by cases a;exact .nil
 | x::xs,vals,F,Ms,a,hr,hF=>by
  cases a with
  | @cons _ v F1 ms _ vs G ns h1 h2=>
   simp only[List.all_cons,KB]at hr
   refine .cons ?_ (Qdb h2 hr.2 fun b hb=>hF b (by simp[hb]))
   cases h1 with
   | one r=>
    have:=Qcm (s:=s) (al:=al) r fun b hb=>hF b (by simp[hb])
    cases this with
    | cons h1 _=>exact h1
   | agg r=>
    exact⟨_,rfl,by simpa using Qcm (s:=s) (al:=al) r fun b hb=>hF b (by simp[hb])⟩
   | @ptr ds b off c e fz F a1 a2 r=>
    exact⟨b,off,c,e,fz,F,rfl,a1,a2,r,(hF b (by simp)).1,fun x hx=>(hF x (by simp[hx])).1⟩
   | @fnc f l vs F r=>
    cases r with
    | nil=>exact⟨[],rfl,.nil⟩
    | cons q1 q2 q3=>exact⟨_,_,rfl,.cons q1 q2 q3,fun b hb=>(hF b (by simp only[KG];exact .inl hb)).1⟩
   | _=>cases hr.1
theorem QfJ{h:Q6}{args:List Arg}{vals:List Value}{F:List Nat}{Ms:List (List Nat)}(a:Q5 h args vals F Ms):args.length=vals.length:=by
 induction a with
 | nil=>rfl
 | cons _ _ ih=>simp[ih]
theorem Qip{h:Q6}{args:List Arg}{vals:List Value}{F:List Nat}{Ms:List (List Nat)}(a:Q5 h args vals F Ms)(hr:args.all QnC=true):∀b∈F,b<h.size:=by
 induction a with
 | nil=>simp
 | cons h1 _ ih=>
  simp only[List.all_cons,KB]at hr
  intro b hb;rcases KG.1 hb with hb|hb
  ·cases h1 with
   | one r=>exact r.lt b hb
   | agg r=>exact r.lt b hb
   | ptr a1 _ r=>
    rcases KI.1 hb with rfl|hb
    ·exact(Kb.1 a1).1
    ·exact r.lt b hb
   | fnc r=>exact r.lt b hb
   | _=>cases hr.1
  ·exact ih hr.2 b hb
theorem Qiq{h:Q6}{args:List Arg}{vals:List Value}{F:List Nat}{Ms:List (List Nat)}(a:Q5 h args vals F Ms)(hr:args.all QnC=true):Ms=[]:=by
 induction a with
 | nil=>rfl
 | cons h1 _ ih=>
  simp only[List.all_cons,KB]at hr
  rw[ih hr.2];cases h1<;>first|rfl|cases hr.1
theorem Qar.dp{m F:List Nat}{sz:Nat}{l:List (List D)}{dp dp':Nat}{v:Value}(a:Qar h m F sz l dp v)(h0:dp≠0)(h1:dp'≠0):Qar h m F sz l dp' v:=by
 unfold Qar at *;simpa only[h0,h1,if_false,bne_iff_ne.2 h0,bne_iff_ne.2 h1]using a
theorem QtM(hob:∀id,Qc4 own h s id (s.ob id)){c:QI}{r:RC}{p:Prop}{l:List (Option Id)}{v:Value}(hc:QpI s.ob c r=some (p,l))(hp:p)(a:QR own h s c v):
  ∃F os,QaN h [r] [v] F os∧os=l.map (Qh5 own)∧∀b∈F,Imm own h b∧s.bs b:=by
 unfold QpI at hc;split at hc
 ·simp only[KA,KC]at hc
  obtain⟨rfl,rfl⟩:=hc;subst hp;obtain⟨F,r,_⟩:=a;cases r with
  | v h1 r=>cases r;exact⟨[],[],by simpa using QaN.d (.none (fun h=>nomatch h) .nil) .nil,rfl,by simp⟩
 ·simp only[KA,KC]at hc
  obtain⟨rfl,rfl⟩:=hc;subst hp;obtain⟨F,r,_⟩:=a;cases r with
  | v h1 r=>cases r;exact⟨[],[],by simpa using QaN.d (.v h1 .nil) .nil,rfl,by simp⟩
 ·simp only[KA,KC]at hc
  obtain⟨rfl,rfl⟩:=hc;obtain⟨rfl,hdp⟩:=hp;obtain⟨F,r,_⟩:=a;cases r with
  | v h1 r=>cases r;exact⟨[]++[],[[]],.own (.inl ⟨rfl,rfl,rfl,rfl⟩) .nil,rfl,by simp⟩
 ·simp only[KA,KC]at hc
  obtain⟨rfl,rfl⟩:=hc;subst hp;obtain⟨F,r,hF⟩:=a;exact⟨F,[],by simpa using QaN.d r .nil,rfl,hF⟩
 ·rename_i id sz l dp sz' l' dp'
  split at hc
  ·rename_i ho
   simp only[KA,KC]at hc
   obtain⟨rfl,rfl⟩:=hc;obtain⟨rfl,rfl,hdp2,hdp⟩:=hp;obtain⟨F,hA,hF⟩:=Qar.of_ok (a.2.2 ho);refine⟨F++[],[own id],.own (hA.dp hdp hdp2) .nil,rfl,fun b hb=>?_⟩
   simp only[KM]at hb
   rcases hA with⟨_,_,_,rfl⟩|⟨b',cap,c,e,G,h1,a1,rfl,_⟩
   ·cases hb
   ·simp[hdp]at hb
  ·cases hc
 ·rename_i id sz' l' dp'
  split at hc
  ·rename_i sz l dp ho
   simp only[KA,KC]at hc
   obtain⟨rfl,rfl⟩:=hc;obtain⟨rfl,rfl,hdp2,hdp⟩:=hp;have ha:=a.2.2
   rw[ho]at ha;obtain⟨F,hA,hF⟩:=Qar.of_ok ha;refine⟨F++[],[own id],.own (hA.dp hdp hdp2) .nil,rfl,fun b hb=>?_⟩
   simp only[KM]at hb
   rcases hA with⟨_,_,_,rfl⟩|⟨b',cap,c,e,G,h1,a1,rfl,_⟩
   ·cases hb
   ·simp[hdp]at hb
  ·cases hc
 ·rename_i id ds'
  split at hc
  ·rename_i cs ho
   split at hc
   ·rename_i ds hds
    simp only[KA,KC]at hc
    obtain⟨rfl,rfl⟩:=hc;obtain⟨rfl,hnew⟩:=hp;obtain⟨_,b,rfl,hb⟩:=a;rw[ho]at hb;have hb':own id=[b]:=hb
    have hobi:=hob id
    rw[ho]at hobi;obtain⟨b2,cv,e,g1,g2,g3⟩:=hobi;have:b2=b:=by rw[g1]at hb';simpa using hb'
    subst this;obtain⟨F,r,hF⟩:=QcF hds hnew g3;refine⟨F++[],[[b2]],.box g2 r .nil,by simp[Qh5,g1],fun x hx=>hF x (by simpa using hx)⟩
   ·cases hc
  ·cases hc
 ·cases hc
theorem QaN.cons'{r:RC}{v:Value}{F:List Nat}{os:List (List Nat)}{rs:List RC}{vs:List Value}{G:List Nat}{ps:List (List Nat)}(a:QaN h [r] [v] F os)(b:QaN h rs vs G ps):QaN h (r::rs) (v::vs) (F++G) (os++ps):=by
 cases a with
 | d r' n=>cases n;simpa using QaN.d r' b
 | own r' n=>cases n;simpa using QaN.own r' b
 | box q1 q2 n=>cases n;simpa using QaN.box q1 q2 b
theorem QgD(hob:∀id,Qc4 own h s id (s.ob id)):∀{cs:List QI} {rs:List RC} {p:Prop} {l:List (Option Id)} {vs:List Value},QdD s.ob cs rs=some (p,l)→p→Qk own h s cs vs→∃F os,QaN h rs vs F os∧os=l.map (Qh5 own)∧∀b∈F,Imm own h b∧s.bs b
 | [],[],p,l,vs,hc,hp,a=>by
  simp only[QdD,KA,KC]at hc
  obtain⟨rfl,rfl⟩:=hc;cases a
  exact⟨[],[],.nil,rfl,by simp⟩
 | c::cs,r::rs,p,l,vs,hc,hp,a=>by
  simp only[QdD]at hc
  split at hc
  ·rename_i p1 l1 q m h1 h2
   simp only[KA,KC]at hc
   obtain⟨rfl,rfl⟩:=hc;cases a with
   | cons a1 a2=>
    obtain⟨F,os,f1,rfl,f3⟩:=QtM hob h1 hp.1 a1;obtain⟨G,ps,g1,rfl,g3⟩:=QgD hob h2 hp.2 a2;exact⟨_,_,f1.cons' g1,by simp,fun b hb=>(KG.1 hb).elim (f3 b) (g3 b)⟩
  ·cases hc
 | [],_::_,p,l,vs,hc,hp,a=>by simp[QdD]at hc
 | _::_,[],p,l,vs,hc,hp,a=>by simp[QdD]at hc
theorem QAe(hob:∀id,Qc4 own h s id (s.ob id)){av:AV}{r:RV}{p:Prop}{l:List (Option Id)}{v:Value}(hc:QED s.ob av r=some (p,l))(hp:p)(a:QM own h s av v):∃F os,QnW h r v F os∧os=l.map (Qh5 own)∧∀b∈F,Imm own h b∧s.bs b:=by
 unfold QED at hc;split at hc
 ·obtain⟨F,os,f1,f2,f3⟩:=QgD hob hc hp (.cons a .nil)
  exact⟨F,os,f1,f2,f3⟩
 ·obtain⟨vs,rfl,hcs⟩:=a
  obtain⟨F,os,f1,f2,f3⟩:=QgD hob hc hp hcs;exact⟨F,os,⟨vs,rfl,f1⟩,f2,f3⟩
 ·cases hc
theorem Qq7(hty:∀t y,T.ty t=some y→Qb9 X.P t y)(c:Qt X own s a w){x:ResultVar}{av:AV}(hr:Qsy T s x=some av):
  ∃v,(QnB a.tmps x).run X.P w= .ok v w∧QM own w.heap s av v:=by
 cases x with
 | tmp t=>
  simp only[Qsy,KA]at hr
  subst hr;exact⟨_,rfl,c.sls t⟩
 | cell b t=>
  simp only[Qsy]at hr
  split at hr
  ·rename_i y id hy hb
   split at hr
   ·rename_i cs ho
    have hs:=c.sls b
    rw[hb]at hs;obtain⟨_,b1,e1,e2⟩:=hs;rw[ho]at e2;have hob:=c.obs id
    rw[ho]at hob;obtain⟨b2,cv,e,h1,h2,h3⟩:=hob;have:b2=b1:=by rw[h1]at e2;simpa using e2
    subst this;obtain⟨u,g1,g2⟩:=Qja (hty t y hy) h2 hr h3;refine⟨u,?_,g2⟩
    show(do loadVar t (←asAddr (a.tmps.getD b undef)):Sem Value).run X.P w=_
    rw[e1];simpa [asAddr,go_sem]using g1
   ·cases hr
  ·cases hr
theorem Qgi(hty:∀t y,T.ty t=some y→Qb9 X.P t y)(c:Qt X own s a w):∀{xs:List ResultVar} {rs:List RV} {p:Prop} {l:List (Option Id)},QdX T s xs rs=some (p,l)→p→
  ∃vs F os,(xs.mapM (QnB a.tmps)).run X.P w= .ok vs w∧QkY w.heap rs vs F os∧os=l.map (Qh5 own)∧∀b∈F,Imm own w.heap b∧s.bs b
 | [],[],p,l,hr,hp=>by
  simp only[QdX,KA,KC]at hr
  obtain⟨rfl,rfl⟩:=hr;exact⟨[],[],[],rfl,.nil,rfl,by simp⟩
 | x::xs,r::rs,p,l,hr,hp=>by
  simp only[QdX]at hr
  split at hr
  ·rename_i av hav
   split at hr
   ·rename_i p1 l1 q m h1 h2
    simp only[KA,KC]at hr
    obtain⟨rfl,rfl⟩:=hr;obtain⟨v,e1,e2⟩:=Qq7 hty c hav;obtain⟨F,os,f1,rfl,f3⟩:=QAe c.obs h1 hp.1 e2;obtain⟨vs,G,ps,g0,g1,rfl,g3⟩:=Qgi hty c h2 hp.2;refine⟨v::vs,F++G,_,?_,.cons f1 g1,by simp,fun b hb=>(KG.1 hb).elim (f3 b) (g3 b)⟩
    simp only[List.mapM_cons,Sem.run_bind]
    rw[e1];simp only[Result.andThen_ok]
    rw[g0];simp[go_sem]
   ·cases hr
  ·cases hr
 | [],_::_,p,l,hr,hp=>by simp[QdX]at hr
 | _::_,[],p,l,hr,hp=>by simp[QdX]at hr
theorem QaX.repsO{id:Id}{sz:Nat}{l:List (List D)}{dp:Nat}{v:Value}(h0:dp≠0)(a:QaX own h id sz l dp v):∃F,Qbl h [.sl sz l] [v] F∧∀b∈F,b∈own id:=by
 rcases a with⟨rfl,rfl,_⟩|⟨b,cap,rfl,c,e,G,h1,h2,h3,h4,h5,h6,h7,_⟩
 ·exact⟨[],.none (fun h=>nomatch h) .nil,by simp⟩
 ·rw[if_neg h0]at h1
  refine⟨b::(G++[]),.sl (off:=0) (fun h=>nomatch h) h2 h3 h4 ?_ h6 (by simpa using h7.weak) .nil,fun x hx=>by rw[h1];simpa using hx⟩
  have:=Ka sz h3
  omega
theorem Qvc{c:QI}{y:D}{p:Prop}{v:Value}(hc:QDX c y=some p)(hp:p)(a:QR own h s c v):Qbl h [y] [v] []:=by
 unfold QDX at hc;split at hc
 ·simp only[KA]at hc
  subst hc;obtain⟨rfl,rfl⟩:=hp;obtain⟨F,r,_⟩:=a;cases r with
  | v h1 r=>cases r;exact .none (fun h=>nomatch h) .nil
 ·cases hc
theorem QtN{al:Bool}(hM:∀id b,b∈own id→b<h.size∧s.bs b)(hal:al=true→∀b,Imm own h b→s.bs b){c:QI}{r:RC}{p:Prop}{v:Value}(hc:QpJ al s.ob c r=some p)(hp:p)(a:QR own h s c v):
  ∃F,QaN h [r] [v] F []∧∀b∈F,b<h.size∧s.bs b:=by
 unfold QpJ at hc;split at hc
 ·rename_i y
  split at hc
  ·rename_i q hq
   simp only[KA]at hc
   subst hc;exact⟨[]++[],QaN.d (Qvc hq hp a) .nil,by simp⟩
  split at hc
  ·rename_i x ht
   split at hc
   ·rename_i hf
    simp only[KA]at hc
    subst hc;subst hp;obtain⟨F,hr,hF⟩:∃F,Qbl h [x] [v] F∧∀b∈F,b<h.size∧s.bs b:=by
     cases al with
     | true=>
      obtain⟨F,hr,hF⟩:=Qjy ht a;refine⟨F,hr,fun b hb=>?_⟩
      rcases hF b hb with⟨id,hid⟩|hi
      ·exact hM id b hid
      ·exact⟨hi.1,hal rfl b hi⟩
     | false=>
      rw[K8]at hf;unfold QtL at hf;split at hf
      ·simp only[toD,KA]at ht
       subst ht;obtain⟨F,r,_⟩:=a;cases r with
       | v h1 r=>cases r;exact⟨[],.v h1 .nil,by simp⟩
      ·simp only[toD,KA]at ht
       subst ht;obtain⟨F,r,hF⟩:=a;exact⟨F,r,fun b hb=>⟨(hF b hb).1.1,(hF b hb).2⟩⟩
      ·rename_i id sz l dp
       simp only[toD]at ht
       split at ht
       ·rename_i ho
        simp only[KA]at ht
        subst ht;obtain⟨F,r,hF⟩:=(a.2.2 ho).repsO (by simpa using hf)
        exact⟨F,r,fun b hb=>hM _ b (hF b hb)⟩
       ·cases ht
      ·rename_i id
       split at hf
       ·rename_i sz l dp ho
        simp only[toD,ho,KA]at ht
        subst ht;have ha:=a.2.2
        rw[ho]at ha;obtain⟨F,r,hF⟩:=QaX.repsO (by simpa using hf) ha
        exact⟨F,r,fun b hb=>hM _ b (hF b hb)⟩
       ·cases hf
      ·cases hf
    exact⟨F++[],QaN.d hr .nil,fun b hb=>hF b (by simpa using hb)⟩
   ·cases hc
  ·cases hc
 ·cases hc
theorem QgE{al:Bool}(hM:∀id b,b∈own id→b<h.size∧s.bs b)(hal:al=true→∀b,Imm own h b→s.bs b):∀{cs:List QI} {rs:List RC} {p:Prop} {vs:List Value},Qeb al s.ob cs rs=some p→p→Qk own h s cs vs→∃F,QaN h rs vs F []∧∀b∈F,b<h.size∧s.bs b
 | [],[],p,vs,hc,hp,a=>by
  cases a
  exact⟨[],.nil,by simp⟩
 | c::cs,r::rs,p,vs,hc,hp,a=>by
  simp only[Qeb]at hc
  split at hc
  ·rename_i p1 q h1 h2
   simp only[KA]at hc
   subst hc;cases a with
   | cons a1 a2=>
    obtain⟨F,f1,f3⟩:=QtN hM hal h1 hp.1 a1;obtain⟨G,g1,g3⟩:=QgE hM hal h2 hp.2 a2;exact⟨_,f1.cons' g1,fun b hb=>(KG.1 hb).elim (f3 b) (g3 b)⟩
  ·cases hc
 | [],_::_,p,vs,hc,hp,a=>by simp[Qeb]at hc
 | _::_,[],p,vs,hc,hp,a=>by simp[Qeb]at hc
theorem QAd{al:Bool}(hM:∀id b,b∈own id→b<h.size∧s.bs b)(hal:al=true→∀b,Imm own h b→s.bs b){av:AV}{r:RV}{p:Prop}{v:Value}(hc:QEC al s.ob av r=some p)(hp:p)(a:QM own h s av v):∃F,QnW h r v F []∧∀b∈F,b<h.size∧s.bs b:=by
 unfold QEC at hc;split at hc
 ·obtain⟨F,f1,f3⟩:=QgE hM hal hc hp (.cons a .nil)
  exact⟨F,f1,f3⟩
 ·obtain⟨vs,rfl,hcs⟩:=a
  obtain⟨F,f1,f3⟩:=QgE hM hal hc hp hcs;exact⟨F,⟨vs,rfl,f1⟩,f3⟩
 ·cases hc
theorem Qq8{al:Bool}(hty:∀t y,T.ty t=some y→Qb9 X.P t y)(c:Qt X own s a w)(hM:∀id b,b∈own id→b<w.heap.size∧s.bs b)(hal:al=true→∀b,Imm own w.heap b→s.bs b):∀{xs:List ResultVar} {rs:List RV} {p:Prop},Qpa al T s xs rs=some p→p→
  ∃vs F,(xs.mapM (QnB a.tmps)).run X.P w= .ok vs w∧QkY w.heap rs vs F []∧∀b∈F,b<w.heap.size∧s.bs b
 | [],[],p,hr,hp=>⟨[],[],rfl,.nil,by simp⟩
 | x::xs,r::rs,p,hr,hp=>by
  simp only[Qpa]at hr
  split at hr
  ·rename_i av hav
   split at hr
   ·rename_i p1 q h1 h2
    simp only[KA]at hr
    subst hr;obtain⟨v,e1,e2⟩:=Qq7 hty c hav;obtain⟨F,f1,f3⟩:=QAd hM hal h1 hp.1 e2;obtain⟨vs,G,g0,g1,g3⟩:=Qq8 hty c hM hal h2 hp.2;refine⟨v::vs,F++G,?_,.cons f1 g1,fun b hb=>(KG.1 hb).elim (f3 b) (g3 b)⟩
    simp only[List.mapM_cons,Sem.run_bind]
    rw[e1];simp only[Result.andThen_ok]
    rw[g0];simp[go_sem]
   ·cases hr
  ·cases hr
 | [],_::_,p,hr,hp=>by simp[Qpa]at hr
 | _::_,[],p,hr,hp=>by simp[Qpa]at hr
theorem Qt.flatO(c:Qt X own s a w):∀{l:List (Option Id)},(l.filterMap fun x=>x).Nodup→(l.map (Qh5 own)).flatten.Nodup
 | [],_=>by simp
 | none::l,h=>by simpa [Qh5]using c.flatO (l:=l) (by simpa using h)
 | some id::l,h=>by
  simp only[List.filterMap_cons,Ke]at h
  simp only[List.map_cons,List.flatten_cons,Qh5]
  rw[Km];refine⟨c.nodup id,c.flatO h.2,fun x hx y hy e=>?_⟩
  subst e;obtain⟨m,hm,hy⟩:=Kf.1 hy;obtain⟨o,ho,rfl⟩:=KQ.1 hm;cases o with
  | none=>cases hy
  | some id'=>exact h.1 (YY.2 ⟨some id',ho,by rw[c.disj id id' x hx hy]⟩)
theorem QB2{fn:Func}(hty:∀t y,T.ty t=some y→Qb9 X.P t y)(c:Qt X own s a w)(hM:∀id b,b∈own id→s.bs b)(hal:T.bx 998=true→∀b,Imm own w.heap b→s.bs b){rs:List RV}(hr:QrE T fn.results.toList rs s):
  ∃v F os,(results fn a.tmps).run X.P w= .ok v w∧QbF w.heap rs v F os∧os.flatten.Nodup∧(∀b∈os.flatten,∃id,b∈own id)∧∀b∈F,b<w.heap.size∧b∉os.flatten∧s.bs b:=by
 unfold QrE at hr;split at hr
 ·rename_i p l hrs
  obtain⟨hp,hl⟩:=hr;obtain⟨vs,F,os,g0,g1,rfl,g3⟩:=Qgi hty c hrs hp;refine⟨if h:vs.toArray.size=1 then vs.toArray[0]else .tuple vs.toArray,F,l.map (Qh5 own),?_,?_,?_,?_,?_⟩
  ·rw[QeZ,Array.mapM_eq_mapM_toList,map_eq_pure_bind]
   simp only[Sem.run_bind]
   rw[g0];simp only[Result.andThen_ok,Sem.run_pure]
  ·unfold QbF
   generalize l.map (Qh5 own)=os at g1;cases g1 with
   | nil=>exact⟨rfl,rfl⟩
   | @cons r v F1 os1 l' vs' G ps h1 h2=>
    cases h2 with
    | nil=>simpa using h1
    | cons h3 h4=>
     refine⟨_,?_,.cons h1 (.cons h3 h4)⟩
     simp
  ·exact c.flatO hl
  ·intro b hb
   obtain⟨m,hm,hb⟩:=Kf.1 hb;obtain⟨o,_,rfl⟩:=KQ.1 hm;cases o with
   | none=>cases hb
   | some id=>exact⟨id,hb⟩
  ·intro b hb
   obtain⟨q1,q2⟩:=g3 b hb;refine⟨q1.1,fun hm=>?_,q2⟩
   obtain⟨m,hm,hb⟩:=Kf.1 hm;obtain⟨o,_,rfl⟩:=KQ.1 hm;cases o with
   | none=>cases hb
   | some id=>exact q1.2.1 id hb
 ·split at hr
  ·rename_i p hrs
   obtain⟨vs,F,g0,g1,g3⟩:=Qq8 hty c (fun id b hb=>⟨(c.lt id b hb).1,hM id b hb⟩) hal hrs hr
   refine⟨if h:vs.toArray.size=1 then vs.toArray[0]else .tuple vs.toArray,F,[],?_,?_,by simp,by simp,fun b hb=>⟨(g3 b hb).1,by simp,(g3 b hb).2⟩⟩
   ·rw[QeZ,Array.mapM_eq_mapM_toList,map_eq_pure_bind]
    simp only[Sem.run_bind]
    rw[g0];simp only[Result.andThen_ok,Sem.run_pure]
   ·unfold QbF
    generalize ho:([]:List (List Nat))=os at g1;cases g1 with
    | nil=>exact⟨rfl,rfl⟩
    | @cons r v F1 os1 l' vs' G ps h1 h2=>
     cases h2 with
     | nil=>simpa using h1
     | cons h3 h4=>
      refine⟨_,?_,.cons h1 (.cons h3 h4)⟩
      simp
  ·exact hr.elim
theorem Qq9{fn:Func}(hty:∀t y,T.ty t=some y→Qb9 X.P t y)(c:Qt X own s a w){rs:List RV}(hr:Qhf T fn.results.toList rs s):
  ∃v F os,(results fn a.tmps).run X.P w= .ok v w∧QbF w.heap rs v F os∧os.flatten.Nodup∧(∀b∈os.flatten,∃id,b∈own id)∧∀b∈F,Imm own w.heap b∧s.bs b:=by
 unfold Qhf at hr;split at hr
 ·rename_i p l hrs
  obtain⟨hp,hl⟩:=hr;obtain⟨vs,F,os,g0,g1,rfl,g3⟩:=Qgi hty c hrs hp;refine⟨if h:vs.toArray.size=1 then vs.toArray[0]else .tuple vs.toArray,F,l.map (Qh5 own),?_,?_,?_,?_,g3⟩
  ·rw[QeZ,Array.mapM_eq_mapM_toList,map_eq_pure_bind]
   simp only[Sem.run_bind]
   rw[g0];simp only[Result.andThen_ok,Sem.run_pure]
  ·unfold QbF
   generalize l.map (Qh5 own)=os at g1;cases g1 with
   | nil=>exact⟨rfl,rfl⟩
   | @cons r v F1 os1 l' vs' G ps h1 h2=>
    cases h2 with
    | nil=>simpa using h1
    | cons h3 h4=>
     refine⟨_,?_,.cons h1 (.cons h3 h4)⟩
     simp
  ·exact c.flatO hl
  ·intro b hb
   obtain⟨m,hm,hb⟩:=Kf.1 hb;obtain⟨o,_,rfl⟩:=KQ.1 hm;cases o with
   | none=>cases hb
   | some id=>exact⟨id,hb⟩
 ·exact hr.elim
theorem Qra{fn:Func}(hty:∀t y,T.ty t=some y→Qb9 X.P t y)(c:Qt X own s a w){rs:List RV}{p:Prop}{l:List (Option Id)}(hrs:QdX T s fn.results.toList rs=some (p,l))(hp:p)(hl:(l.filterMap fun x=>x).Nodup):
  ∃v F,(results fn a.tmps).run X.P w= .ok v w∧QbF w.heap rs v F (l.map (Qh5 own))∧(l.map (Qh5 own)).flatten.Nodup∧∀b∈F,Imm own w.heap b∧s.bs b:=by
 obtain⟨vs,F,os,g0,g1,rfl,g3⟩:=Qgi hty c hrs hp;refine⟨if h:vs.toArray.size=1 then vs.toArray[0]else .tuple vs.toArray,F,?_,?_,c.flatO hl,g3⟩
 ·rw[QeZ,Array.mapM_eq_mapM_toList,map_eq_pure_bind]
  simp only[Sem.run_bind]
  rw[g0];simp only[Result.andThen_ok,Sem.run_pure]
 ·unfold QbF
  generalize l.map (Qh5 own)=os at g1;cases g1 with
  | nil=>exact⟨rfl,rfl⟩
  | @cons r v F1 os1 l' vs' G ps h1 h2=>
   cases h2 with
   | nil=>simpa using h1
   | cons h3 h4=>
    refine⟨_,?_,.cons h1 (.cons h3 h4)⟩
    simp
theorem QG{E:Env}{T:QS}{f:FuncId}{fn:Func}{body:Code}{c:Qb}(hT:Qcd E T)
  (hf:E.P.funcs[f]? =some fn) (hname:(fn.name== "runtime.NumGoroutine")=false) (hb:fn.body=some body) (hm:E.P.follows .mixedOrders=true) (hst:QcH T (fun x=>decide (x<fn.ntmps)) body=true) (hmu:Qu8 c.muts=false)
  (hrun:∀args p rs ms,c.run args=some (p,rs,ms)→args.all QnC=true∧ms=[]∧args.length≤fn.ntmps∧(p→∀bs,wpc T body (Qy1 T fn.results.toList rs) (Qm9 c.alias bs args)))
  (hla:T.bx 998=true→c.alias=true:=by first|(intro h;cases h;done)|(intro _;rfl)):Qa E f c:=by
 refine⟨⟨fn,hf,hname,by rw[hb];rfl⟩,?_⟩
 intro args p rs ms hr hp w vals F Ms ha hnd hF hJ hN hMN;obtain⟨hro,rfl,hlen,hw⟩:=hrun args p rs ms hr;have hMs:=Qiq ha hro
 subst hMs;have hl:=QfJ ha
 letI:Hid:=⟨fun b=>c.alias=true∧b<w.heap.size∧b∉F⟩
 let X:Ctx:={toEnv:=E,n:=fn.ntmps,dok:=fun x=>decide (x<fn.ntmps),hdok:=fun x hx=>of_decide_eq_true hx,tm:=fun _=>undef,w0:=w,M:=[],nw:=fun b=>w.heap.size≤b∨(c.alias=true∧b∈F),hnw:=fun b hb=> .inl hb,hh:=fun b h=>⟨h.2.1,by simp⟩}
 have h0:=hw hp X.nw
 have hall:Qas (QM (fun _=>[]) w.heap (Qm9 c.alias X.nw args)) (args.map (QbA c.alias)) vals:=Qdb ha hro fun b hb=>⟨⟨Qip ha hro b hb,by simp,fun h=>h.2.2 hb⟩,fun hal=> .inr ⟨hal,hb⟩⟩
 have hinit:QhJ X (Qm9 c.alias X.nw args) {tmps:=vals.toArray++Array.replicate (fn.ntmps-vals.toArray.size) undef,defers:=[]} w:=by
  refine⟨fun _=>[],⟨rfl,?_,fun x hx=>?_,rfl,rfl,rfl,rfl,KP _,fun _ _ _=>rfl,⟨hN,by simp[X]⟩,hJ,by simp,by simp,by simp,fun _=>trivial,fun i=>?_⟩⟩
  ·simp[X];omega
  ·have hx':¬x<fn.ntmps:=of_decide_eq_false hx
   rw[K9,Array.getElem?_eq_none (by simp;omega)];rfl
  ·show QM _ _ _ ((args.map (QbA c.alias)).getD i .any) _
   rw[KD];cases h:(args.map (QbA c.alias))[i]? with
   | none=>trivial
   | some av=>
    obtain⟨v,hv,hok⟩:=Qas.get hall i av h;have hi:i<vals.length:=(K5.1 h |>.1) |> fun h=>by simpa [hl]using h
    have:(vals.toArray++Array.replicate (fn.ntmps-vals.toArray.size) undef).getD i undef=v:=by
     rw[K9,YE (by simpa using hi)]
     simp[hv]
    rw[this];exact hok
 refine calls_of_wp hf hb (wp_mono (Qbh (T:=T) (X:=X) (fun ops o _ ho=>QnO hT ops o ho) hm (fun _=>rfl) body hst h0 hinit) fun e a' w' hq=>?_)
 obtain⟨s',hq,own,hc⟩:=hq;have fin:QrE T fn.results.toList rs s'→a'.defers=[]∧∃v,(results fn a'.tmps).run E.P w'= .ok v w'∧(fun e w'=>∃v,e=Ending.returned v∧Qd3 c.alias w w' F [] (Q0 c.muts vals) rs [] v) (.returned v) w':=fun hret=>by
  obtain⟨v,F',os,r1,r2,r3,r4,r5⟩:=QB2 (X:=X) hT.ty hc (fun id b hb=>hc.bsle b (by simpa [X]using(hc.lt id b hb).2)) (fun hb b hi=>by
   rw[hc.bs]
   by_cases h1:w.heap.size≤b
   ·exact .inl h1
   ·refine .inr ⟨hla hb,Decidable.byContradiction fun h2=>hi.2.2 ⟨hla hb,by omega,h2⟩⟩) hret
  refine⟨hc.defers,v,r1,v,rfl,⟨hc.os,hc.tape,hc.output,hc.grow,fun b h1 _=>hc.old b h1 (by simp[X]),F',os,[],[],r2,?_,r3,fun b hb=>?_,fun b hb=>?_,by simp,by simp,by simp⟩⟩
  ·rw[QbC hmu];exact .nil
  ·obtain⟨id,hid⟩:=r4 b hb
   obtain⟨q1,q2⟩:=hc.lt id b hid;exact⟨.inl (by simpa [X]using q2),q1⟩
  ·obtain⟨q1,q2,q3⟩:=r5 b hb
   refine⟨q1,q2,by simp,?_⟩
   rw[hc.bs]at q3;exact q3
 cases e with
 | normal=>exact fin hq
 | ret=>exact fin hq
 | _=>exact hq.elim
def Qf6:Nat→List (D ⊕ (Nat×List (List D)×Nat))→List QI
 | _,[]=>[]
 | k,.inl x::r=> .d x::Qf6 k r
 | k,.inr _::r=> .osl (0,k)::Qf6 (k+1) r
def Qb5:Nat→List (D ⊕ (Nat×List (List D)×Nat))→List (Id×Ob)
 | _,[]=>[]
 | k,.inl _::r=>Qb5 k r
 | k,.inr (s,l,_)::r=>((0,k),.arr s l 2)::Qb5 (k+1) r
def Qpx:Arg→AV
 | .arr .. => .one (.osl (0,0))
 | .mag l=> .agg (Qf6 0 l)
 | _=> .unk
def Qo5:Arg→List (Id×Ob)
 | .arr s l _=>[((0,0),.arr s l 2)]
 | .mag l=>Qb5 0 l
 | _=>[]
def Qx7:Arg→Bool
 | .arr .. | .mag _=>true
 | _=>false
def Qsg(bs:Nat→Prop)(a0:Arg)(Qal:List Arg):St:=⟨bs,fun i=>(Qpx a0::Qal.map (QbA false)).getD i .any,Q7 (fun _=> .none) (Qo5 a0)⟩
def isV:D→Bool
 | .v _=>true
 | _=>false
def QqH(ob:Id→Ob):List QI→List (D ⊕ (Nat×List (List D)×Nat))→Option (Prop×List Id)
 | [],[]=>some (True,[])
 | .d x::cs,.inl y::ns=>match QqH ob cs ns with
  | some (p,l)=>some ((x=y∧isV x=true)∧p,l)
  | none=>none
 | .osl id::cs,.inr (s',l',dp')::ns=>match ob id,QqH ob cs ns with
  | .arr s l dp,some (p,ids)=>some ((s=s'∧l=l'∧dp≠0∧dp'≠0)∧p,id::ids)
  | _,_=>none
 | _,_=>none
def QzA(ob:Id→Ob):AV→Arg→Option (Prop×List Id)
 | .one (.osl id),.arr s' l' dp'=>match ob id with
  | .arr s l dp=>some (s=s'∧l=l'∧dp≠0∧dp'≠0,[id])
  | _=>none
 | .agg cs,.mag ns=>QqH ob cs ns
 | _,_=>none
def Qs0(T:QS)(xs:List ResultVar)(rs:List RV)(a1:Arg)(s:St):Prop:=
 Qhf T xs rs s∧match QzA s.ob (s.sl 0) a1 with
  | some (p,l)=>p∧l.Nodup
  | none=>False
def QEN(T:QS)(xs:List ResultVar)(rs:List RV)(a1:Arg):Exit→St→Prop
 | .normal,s=>Qs0 T xs rs a1 s
 | .ret,s=>Qs0 T xs rs a1 s
 | _,_=>False
theorem QlO:∀{l:List (D ⊕ (Nat×List (List D)×Nat))} {vs:List Value} {F:List Nat} {Ms:List (List Nat)} {k:Nat},Qc5 h l vs F Ms→(∀b∈F,Imm own h b)→(∀j m,Ms[j]? =some m→own (0,k+j)=m)→s.sl 0≠ .any→
  (∀j z,(Qb5 k l)[j]? =some z→s.ob z.1=z.2∧z.1=(0,k+j))→Qk own h s (Qf6 k l) vs
 | [],vs,F,Ms,k,a,hF,hM,hs,ho=>by cases a;exact .nil
 | .inl x::l,vs,F,Ms,k,a,hF,hM,hs,ho=>by
  cases a with
  | d r a=>exact .cons ⟨_,r,fun b hb=>hF b (by simp[hb])⟩ (QlO a (fun b hb=>hF b (by simp[hb])) hM hs ho)
 | .inr (s',l',dp')::l,vs,F,Ms,k,a,hF,hM,hs,ho=>by
  cases a with
  | @arr _ _ _ v m _ vs _ ms q h0 a=>
   refine .cons ?_ (QlO (k:=k+1) a hF (fun j m hj=>by rw[show k+1+j=k+(j+1)by omega];exact hM (j+1) m (by simpa using hj)) hs (fun j z hj=>?_))
   ·have e1:=(ho 0 ((0,k),.arr s' l' 2) rfl).1
    have e2:own (0,k)=m:=by simpa using hM 0 m rfl
    dsimp only at e1;refine⟨(q.repsW h0).weak.one,hs,?_⟩
    rw[e1];exact Qar.to_ok (F:=[]) (by rw[e2];exact q.dp h0 (by decide)) (by simp)
   ·have:=ho (j+1) z (by simpa [Qb5]using hj)
    exact⟨this.1,by rw[this.2];congr 1;omega⟩
theorem QeR:∀{l:List (D ⊕ (Nat×List (List D)×Nat))} {k j:Nat} {z:Id×Ob},(Qb5 k l)[j]? =some z→z.1=(0,k+j)
 | [],k,j,z,h=>by simp[Qb5]at h
 | .inl x::l,k,j,z,h=>QeR (l:=l) (by simpa [Qb5]using h)
 | .inr (a,b,c)::l,k,0,z,h=>by simp[Qb5]at h;rw[←h];rfl
 | .inr (a,b,c)::l,k,j+1,z,h=>by
  have:=QeR (l:=l) (k:=k+1) (j:=j) (z:=z) (by simpa [Qb5]using h)
  rw[this];congr 1;omega
theorem Qer:∀{l:List (D ⊕ (Nat×List (List D)×Nat))} {k:Nat},((Qb5 k l).map (·.1)).Nodup
 | [],k=>by simp[Qb5]
 | .inl x::l,k=>Qer (l:=l)
 | .inr (a,b,c)::l,k=>by
  simp only[Qb5,List.map_cons,Ke]
  refine⟨fun hm=>?_,Qer⟩
  obtain⟨z,hz,e⟩:=KQ.1 hm;obtain⟨j,hj⟩:=List.getElem?_of_mem hz;have:=QeR hj
  rw[this]at e;simp only[KC,true_and]at e
  omega
theorem Qdu:∀{us:List (Id×Ob)} {g:Id→Ob} {k:Id},Q7 g us k=g k∨∃z∈us,Q7 g us k=z.2
 | [],g,k=> .inl rfl
 | (i,o)::us,g,k=>by
  rw[Q7];rcases Qdu (us:=us) (g:=fun id=>if id=i then o else g id) (k:=k)with h|⟨z,hz,h⟩
  ·by_cases e:k=i
   ·exact .inr ⟨(i,o),by simp,by rw[h,if_pos e]⟩
   ·exact .inl (by rw[h,if_neg e])
  ·exact .inr ⟨z,by simp[hz],h⟩
theorem QeQ:∀{l:List (D ⊕ (Nat×List (List D)×Nat))} {k:Nat},∀z∈Qb5 k l,∃a b c,z.2= .arr a b c
 | [],k,z,hz=>by simp[Qb5]at hz
 | .inl x::l,k,z,hz=>QeQ (l:=l) z hz
 | .inr (a,b,c)::l,k,z,hz=>by
  simp only[Qb5,KI]at hz
  rcases hz with rfl|hz
  ·exact⟨_,_,_,rfl⟩
  ·exact QeQ z hz
theorem Qc5.lt{l:List (D ⊕ (Nat×List (List D)×Nat))}{vs:List Value}{F:List Nat}{ms:List (List Nat)}(a:Qc5 h l vs F ms):(∀b∈F,b<h.size)∧∀b∈ms.flatten,b<h.size:=by
 induction a with
 | nil=>simp
 | d r _ ih=>exact⟨fun b hb=>(KG.1 hb).elim (r.lt b) (ih.1 b),ih.2⟩
 | arr q _ _ ih=>exact⟨ih.1,fun b hb=>by
   simp only[List.flatten_cons,KG]at hb
   exact hb.elim (q.lt.1 b) (ih.2 b)⟩
theorem Qbi.ltM{a0:Arg}{v:Value}{F:List Nat}{ms:List (List Nat)}(a:Qbi h a0 v F ms)(hm:Qx7 a0=true):(∀b∈F,b<h.size)∧∀b∈ms.flatten,b<h.size:=by
 cases a with
 | arr q _=>exact⟨by simp,by simpa using q.lt.1⟩
 | mag q=>exact q.lt
 | _=>cases hm
theorem Qth{a0:Arg}{v:Value}{F:List Nat}{ms:List (List Nat)}(a:Qbi h a0 v F ms)(hm:Qx7 a0=true)(hF:∀b∈F,Imm own h b)(hM:∀j m,ms[j]? =some m→own (0,0+j)=m)(hs:s.sl 0≠ .any)(ho:s.ob=Q7 (fun _=> .none) (Qo5 a0)):QM own h s (Qpx a0) v:=by
 cases a with
 | @arr sz l dp v m q h0=>
  have e1:s.ob (0,0)= .arr sz l 2:=by rw[ho];simp[Qo5,Q7]
  have e2:own (0,0)=m:=hM 0 m rfl
  refine⟨(q.repsW h0).weak.one,hs,?_⟩
  rw[e1];exact Qar.to_ok (F:=[]) (by rw[e2];exact q.dp h0 (by decide)) (by simp)
 | @mag l vs F ms q=>
  refine⟨_,rfl,?_⟩
  have:=QlO (k:=0) (own:=own) (s:=s) q hF hM hs fun j z hz=>⟨by rw[ho];exact Qbk Qer _ _ _ (Ki hz),QeR hz⟩
  simpa using this
 | _=>cases hm
def Qm8(bs:Nat→Prop)(ds:List D)(Qal:List Arg):St:=⟨bs,fun i=>(.one (.bptr (0,0) 0)::Qal.map (QbA false)).getD i .any,Q7 (fun _=> .none) [((0,0),.box (ds.map (QbL true)))]⟩
def QE1(ob:Id→Ob)(ds':List D):AV→Option (Prop×Id)
 | .one (.bptr id 0)=>match ob id with
  | .box cs=>match Qao cs with
   | some ds=>some (ds=ds'∧cs.all QbM=true,id)
   | none=>none
  | _=>none
 | _=>none
def Qmr(T:QS)(xs:List ResultVar)(rs:List RV)(ds':List D)(s:St):Prop:=
 match QdX T s xs rs,QE1 s.ob ds' (s.sl 0)with
 | some (p,l),some (q,id)=>p∧q∧(l.filterMap fun x=>x).Nodup∧id∉l.filterMap fun x=>x
 | _,_=>False
def QCW(T:QS)(xs:List ResultVar)(rs:List RV)(ds':List D):Exit→St→Prop
 | .normal,s=>Qmr T xs rs ds' s
 | .ret,s=>Qmr T xs rs ds' s
 | _,_=>False
def QfA:RC→Bool
 | .d (.v _)=>true
 | .own _ _ dp=>dp !=0
 | _=>false
def Qjo(rs:List RV):Bool:=rs.all fun r=>r.cs.all QfA
theorem Qnz:∀{l:List RC} {vs:List Value} {F:List Nat} {os:List (List Nat)},QaN h l vs F os→l.all QfA=true→F=[]:=by
 intro l vs F os r;induction r with
 | nil=>intros;rfl
 | @d x v F1 l vs G os r _ ih=>
  intro hp;simp only[List.all_cons,KB]at hp
  rw[ih hp.2];cases x with
  | v z=>cases r with|v q r=>cases r;rfl
  | sl=>cases hp.1
 | own q _ ih=>
  intro hp;simp only[List.all_cons,KB,QfA,bne_iff_ne]at hp
  rw[ih hp.2,q.own_nil hp.1];rfl
 | box=>intro hp;simp[QfA]at hp
theorem QkN{rs:List RV}{v:Value}{F:List Nat}{os:List (List Nat)}(r:QbF h rs v F os)(hp:Qjo rs=true):F=[]:=by
 have rv:∀{r:RV} {v:Value} {F:List Nat} {os:List (List Nat)},QnW h r v F os→r.cs.all QfA=true→F=[]:=fun {r v F os} hr hp=>by
  unfold QnW at hr;split at hr
  ·obtain⟨_,_,hr⟩:=hr;exact Qnz hr hp
  ·exact Qnz hr hp
 unfold Qjo at hp;unfold QbF at r;split at r
 ·exact r.1
 ·simp only[List.all_cons,List.all_nil,Yd]at hp
  exact rv r hp
 ·obtain⟨vs,_,r⟩:=r
  have key:∀{rs:List RV} {vl:List Value} {F:List Nat} {os:List (List Nat)},QkY h rs vl F os→(rs.all fun r=>r.cs.all QfA)=true→F=[]:=by
   intro rs vl F os r;induction r with
   | nil=>intro _;rfl
   | cons h1 _ ih=>
    intro hp;simp only[List.all_cons,KB]at hp
    rw[rv h1 hp.1,ih hp.2];rfl
  exact key r hp
theorem Qaa{E:Env}{T:QS}{f:FuncId}{fn:Func}{body:Code}{c:Qb}(hT:Qcd E T)(hnm:T.nm=false)
  (hf:E.P.funcs[f]? =some fn) (hname:(fn.name== "runtime.NumGoroutine")=false) (hb:fn.body=some body) (hm:E.P.follows .mixedOrders=true) (hst:QcH T (fun x=>decide (x<fn.ntmps)&&x !=0) body=true) (hmu:c.muts=[true]) (hal:c.alias=false) (hn0:0<fn.ntmps)
  (hrun:∀args p rs ms,c.run args=some (p,rs,ms)→∃ds Qal ds',args= .box ds::Qal∧Qal.all QnC=true∧ms=[.box ds']∧Qjo rs=true∧args.length≤fn.ntmps∧(p→∀bs,wpc T body (QCW T fn.results.toList rs ds') (Qm8 bs ds Qal))):Qa E f c:=by
 refine⟨⟨fn,hf,hname,by rw[hb];rfl⟩,?_⟩
 intro args p rs ms hr hp w vals F Ms ha hnd hF hJ hN hMN;obtain⟨ds,Qal,ds',rfl,hro,rfl,hpl,hlen,hw⟩:=hrun args p rs ms hr;cases ha with
 | @cons _ x F0 Ms0 _ vs F1 Ms1 h1 h2=>
  have hMs:=Qiq h2 hro
  subst hMs;rw[KM]at hnd hF hMN ⊢;have hl:=QfJ h2
  cases h1 with
  | @box _ bb cv ce _ k1 k2=>
   have hlt:bb<w.heap.size:=(Kb.1 k1).1
   have hF1:=Qip h2 hro
   simp only[List.flatten_cons,Yc,KM,KH]at hF hMN
   obtain⟨own0,hown⟩:∃o:Id→List Nat,o=fun id=>if id=(0,0)then [bb]else []:=⟨_,rfl⟩
   have own00:own0 (0,0)=[bb]:=by rw[hown];simp
   have own_mem:∀id b,b∈own0 id→id=(0,0)∧b=bb:=fun id b hb=>by
    rw[hown]at hb;dsimp only at hb;split at hb
    ·exact⟨‹_›,by simpa using hb⟩
    ·cases hb
   letI:Hid:=⟨fun _=>False⟩
   have himm:∀b∈F0++F1,Imm own0 w.heap b:=fun b hb=>⟨(KG.1 hb).elim (k2.lt b) (hF1 b),fun id hm=>hF b hb (own_mem id b hm).2,fun h=>h.elim⟩
   let x:Value:= .pointer (some ⟨bb,0,none⟩)
   let t0:Array Value:=(x::vs).toArray++Array.replicate (fn.ntmps-(x::vs).toArray.size) undef
   let X:Ctx:={toEnv:=E,n:=fn.ntmps,dok:=fun x=>decide (x<fn.ntmps)&&x !=0,hdok:=fun x hx=>by simp only[KB,KK]at hx;exact hx.1,tm:=fun i=>t0.getD i undef,w0:=w,M:=[bb],nw:=fun b=>w.heap.size≤b∨b∈F0,hnw:=fun b hb=> .inl hb,hh:=fun b h=>h.elim}
   have h0:=hw hp X.nw
   have hob0:∀id,(Qm8 X.nw ds Qal).ob id=if id=(0,0)then .box (ds.map (QbL true))else .none:=fun id=>rfl
   have hs0:(Qm8 X.nw ds Qal).sl 0≠ .any:=by
    show AV.one _≠ .any
    simp
   have hcell:QM own0 w.heap (Qm8 X.nw ds Qal) (.one (.bptr (0,0) 0)) x:=⟨hs0,bb,rfl,by rw[hob0,if_pos rfl];exact own00⟩
   have hall:Qas (QM own0 w.heap (Qm8 X.nw ds Qal)) (.one (.bptr (0,0) 0)::Qal.map (QbA false)) (x::vs):=
    .cons hcell (Qdb h2 hro fun b hb=>⟨himm b (by simp[hb]),fun h=>by cases h⟩)
   have hsz:t0.size=fn.ntmps:=by
    simp only[List.length_cons]at hlen
    simp[t0];omega
   have hget:∀i v,(x::vs)[i]? =some v→t0.getD i undef=v:=fun i v hv=>by
    have hi:=(K5.1 hv).1
    rw[K9,YE (by simpa using hi)]
    simp only[List.getElem?_toArray]
    rw[hv];rfl
   have hinit:QhJ X (Qm8 X.nw ds Qal) {tmps:=t0,defers:=[]} w:=by
    refine⟨own0,⟨rfl,hsz,fun x hx=>rfl,rfl,rfl,rfl,rfl,KP _,fun _ _ _=>rfl,⟨hN,fun b hb=>hMN b (by simpa [X]using hb)⟩,hJ,fun id b hb=>?_,fun id=>?_,fun id id' b hb hb'=>?_,fun id=>?_,fun i=>?_⟩⟩
    ·obtain⟨_,rfl⟩:=own_mem id b hb
     exact⟨hlt,.inr (by simp[X])⟩
    ·rw[hown]
     dsimp only;split<;>simp
    ·rw[(own_mem id b hb).1,(own_mem id' b hb').1]
    ·rw[hob0]
     split
     ·rename_i e
      subst e;exact⟨bb,cv,ce,own00,k1,Qcm k2 fun b hb=>⟨himm b (by simp[hb]),fun _=> .inr hb⟩⟩
     ·trivial
    ·show QM _ _ _ ((.one (.bptr (0,0) 0)::Qal.map (QbA false)).getD i .any) (t0.getD i undef)
     rw[KD];cases hq:(AV.one (.bptr (0,0) 0)::Qal.map (QbA false))[i]? with
     | none=>trivial
     | some av=>
      obtain⟨v,hv,hok⟩:=Qas.get hall i av hq;rw[hget i v hv];exact hok
   refine calls_of_wp hf hb (wp_mono (Qbh (T:=T) (X:=X) (fun ops o _ ho=>QnO hT ops o ho) hm (fun h=>by rw[hnm]at h;cases h) body hst h0 hinit) fun e a' w' hq=>?_)
   obtain⟨s',hq,own,hc⟩:=hq;have fin:Qmr T fn.results.toList rs ds' s'→a'.defers=[]∧∃v,(results fn a'.tmps).run E.P w'= .ok v w'∧(fun e w'=>∃v,e=Ending.returned v∧Qd3 c.alias w w' (F0++F1) [[bb]] (Q0 c.muts (x::vs)) rs [.box ds'] v) (.returned v) w':=fun hret=>by
    unfold Qmr at hret;split at hret
    ·rename_i p1 l q1 id hrs hfin
     obtain⟨hp1,hq1,hl1,hid⟩:=hret;obtain⟨v,F',r1,r2,r3,r5⟩:=Qra (X:=X) hT.ty hc hrs hp1 hl1;have hF':=QkN r2 hpl
     subst hF';have hx0:a'.tmps.getD 0 undef=x:=by rw[hc.fix 0 (by simp[X])];exact hget 0 x rfl
     have hav:=hc.sls 0
     rw[hx0]at hav;unfold QE1 at hfin;split at hfin
     ·rename_i id' hs0'
      split at hfin
      ·rename_i cs ho
       split at hfin
       ·rename_i dsx hds
        simp only[KA,KC]at hfin
        obtain⟨rfl,rfl⟩:=hfin;obtain⟨rfl,hnew⟩:=hq1;rw[hs0']at hav;obtain⟨_,b1,e1,e2⟩:=hav;rw[ho]at e2;have e2':own id'=[b1]:=e2
        have hb1:b1=bb:=by
         simp only[x,Value.pointer.injEq,KA,Addr.mk.injEq,and_true]at e1
         exact e1.symm
        subst hb1;have hobi:=hc.obs id'
        rw[ho]at hobi;obtain⟨b2,cv2,ce2,g1,g2,g3⟩:=hobi;have:b2=b1:=by rw[g1]at e2';simpa using e2'
        subst this;obtain⟨F2,f1,f2⟩:=QcF hds hnew g3;have os_id:∀b,b∈(l.map (Qh5 own)).flatten→∃j,some j∈l∧b∈own j:=fun b hb=>by
         obtain⟨m,hm,hb⟩:=Kf.1 hb;obtain⟨o,ho,rfl⟩:=KQ.1 hm;cases o with
         | none=>cases hb
         | some j=>exact⟨j,ho,hb⟩
        have bb_os:b2∉(l.map (Qh5 own)).flatten:=fun hm=>by
         obtain⟨j,hj,hb⟩:=os_id b2 hm;have:j=id':=hc.disj j id' b2 hb (by rw[g1];simp)
         subst this;exact hid (YY.2 ⟨some j,hj,rfl⟩)
        refine⟨hc.defers,v,r1,v,rfl,⟨hc.os,hc.tape,hc.output,hc.grow,fun b h1 h2=>hc.old b h1 (by simpa [X]using h2),[],l.map (Qh5 own),F2++[],[[b2]]++[],r2,?_,r3,fun b hb=>?_,by simp,by simp,fun b hb=>?_,fun b hb=>?_⟩⟩
        ·rw[hmu]
         have:Q0 [true] (x::vs)=[x]:=by
          simp only[Q0,List.headD_cons,if_true,List.tail_cons]
          rw[QbC (by rfl)]
         rw[this];exact .cons (.box g2 f1) .nil
        ·obtain⟨j,hj,hbj⟩:=os_id b hb
         obtain⟨q1,q2⟩:=hc.lt j b hbj;refine⟨.inl ?_,q1⟩
         rcases q2 with q2|q2
         ·exact q2
         ·simp only[X,KH]at q2
          subst q2;exact absurd hb bb_os
        ·simp only[KM,List.flatten_cons,Yc,KH]at hb
         subst hb;exact⟨(Kb.1 g2).1,bb_os,.inr (by simp)⟩
        ·rw[KM]at hb
         obtain⟨⟨q1,q2,_⟩,q3⟩:=f2 b hb;refine⟨q1,fun hm=>?_,fun hm=>?_,?_⟩
         ·obtain⟨j,_,hbj⟩:=os_id b hm
          exact q2 j hbj
         ·simp only[KM,List.flatten_cons,Yc,KH]at hm
          subst hm;exact q2 id' (by rw[g1];simp)
         ·rw[hc.bs]at q3
          exact q3.imp (fun h=>h) fun h=>by simp[h]
       ·cases hfin
      ·cases hfin
     ·cases hfin
    ·exact hret.elim
   cases e with
   | normal=>exact fin hq
   | ret=>exact fin hq
   | _=>exact hq.elim
def Qly(bs:Nat→Prop)(l:List (D ⊕ (Nat×List (List D)×Nat)))(Qal:List Arg):St:=⟨bs,fun i=>(.one (.bptr (0,0) 0)::Qal.map (QbA true)).getD i .any,Q7 (fun _=> .none) (Qdo 2 0 1 l++[((0,0),.box (QjU true 0 1 l))])⟩
def Qxh(ob:Id→Ob):QI→D ⊕ (Nat×List (List D)×Nat)→Option (Prop×List (Option Id))
 | c,.inl y=>match QDX c y with
  | some p=>some (p,[])
  | none=>match QbO c with
   | some x=>some (x=y∧QbM c=true,[])
   | none=>none
 | .d (.v (.slice none 0 0)),.inr (_,l',dp')=>some (l'=[]∧dp'≠0,[none])
 | .osl id,.inr (s',l',dp')=>match ob id with
  | .arr s l dp=>some (s=s'∧l=l'∧dp'≠0∧dp≠0,[some id])
  | _=>none
 | _,_=>none
def Qhh(ob:Id→Ob):List QI→List (D ⊕ (Nat×List (List D)×Nat))→Option (Prop×List (Option Id))
 | [],[]=>some (True,[])
 | c::cs,r::rs=>match Qxh ob c r,Qhh ob cs rs with
  | some (p,l),some (q,m)=>some (p∧q,l++m)
  | _,_=>none
 | _,_=>none
def QE2(ob:Id→Ob)(ns:List (D ⊕ (Nat×List (List D)×Nat))):AV→Option (Prop×Id×List (Option Id))
 | .one (.bptr id 0)=>match ob id with
  | .box cs=>match Qhh ob cs ns with
   | some (p,m)=>some (p,id,m)
   | none=>none
  | _=>none
 | _=>none
def Qms(T:QS)(xs:List ResultVar)(rs:List RV)(ns:List (D ⊕ (Nat×List (List D)×Nat)))(s:St):Prop:=
 match QdX T s xs rs,QE2 s.ob ns (s.sl 0)with
 | some (p,l),some (q,id,m)=>p∧q∧((l++m).filterMap fun x=>x).Nodup∧id∉(l++m).filterMap fun x=>x
 | _,_=>False
def QCX(T:QS)(xs:List ResultVar)(rs:List RV)(ns:List (D ⊕ (Nat×List (List D)×Nat))):Exit→St→Prop
 | .normal,s=>Qms T xs rs ns s
 | .ret,s=>Qms T xs rs ns s
 | _,_=>False
theorem Qxi{c:QI}{r:D ⊕ (Nat×List (List D)×Nat)}{p:Prop}{l:List (Option Id)}{v:Value}{rs:List (D ⊕ (Nat×List (List D)×Nat))}{vs:List Value}{G:List Nat}{ms:List (List Nat)}(hc:Qxh s.ob c r=some (p,l))(hp:p)(a:QR own h s c v)
  (hG:Qc5 h rs vs G ms):∃F,Qc5 h (r::rs) (v::vs) (F++G) (l.map (Qh5 own)++ms)∧∀b∈F,Imm own h b∧s.bs b:=by
 unfold Qxh at hc;split at hc
 ·rename_i y
  split at hc
  ·rename_i q hq
   simp only[KA,KC]at hc
   obtain⟨rfl,rfl⟩:=hc;exact⟨[],.d (Qvc hq hp a) hG,by simp⟩
  ·split at hc
   ·rename_i x hx
    simp only[KA,KC]at hc
    obtain⟨rfl,rfl⟩:=hc;obtain⟨rfl,hn⟩:=hp;obtain⟨F,f1,f2⟩:=QcF (cs:=[c]) (ds:=[x]) (vs:=[v]) (by simp[Qao,hx]) (by simp[hn]) (.cons a .nil)
    exact⟨F,.d f1 hG,f2⟩
   ·cases hc
 ·simp only[KA,KC]at hc
  obtain⟨rfl,rfl⟩:=hc;obtain⟨rfl,hdp⟩:=hp;obtain⟨F,r,_⟩:=a;cases r with
  | v h1 r=>cases r;exact⟨[],.arr (.inl ⟨rfl,rfl,rfl,rfl⟩) hdp hG,by simp⟩
 ·rename_i id s' l' dp'
  split at hc
  ·rename_i sz m dp ho
   simp only[KA,KC]at hc
   obtain⟨rfl,rfl⟩:=hc;obtain⟨rfl,rfl,q1,q0⟩:=hp;have hA:=a.2.2
   rw[ho]at hA;obtain⟨F',hA2,_⟩:=Qar.of_ok hA;have:=hA2.own_nil q0
   subst this;exact⟨[],.arr (hA2.dp q0 q1) q1 hG,by simp⟩
  ·cases hc
 ·cases hc
theorem QmJ:∀{cs:List QI} {rs:List (D ⊕ (Nat×List (List D)×Nat))} {p:Prop} {l:List (Option Id)} {vs:List Value},Qhh s.ob cs rs=some (p,l)→p→Qk own h s cs vs→∃F,Qc5 h rs vs F (l.map (Qh5 own))∧∀b∈F,Imm own h b∧s.bs b
 | [],[],p,l,vs,hc,hp,a=>by
  simp only[Qhh,KA,KC]at hc
  obtain⟨rfl,rfl⟩:=hc;cases a
  exact⟨[],.nil,by simp⟩
 | c::cs,r::rs,p,l,vs,hc,hp,a=>by
  simp only[Qhh]at hc
  split at hc
  ·rename_i p1 l1 q m h1 h2
   simp only[KA,KC]at hc
   obtain⟨rfl,rfl⟩:=hc;cases a with
   | cons a1 a2=>
    obtain⟨G,g1,g3⟩:=QmJ h2 hp.2 a2;obtain⟨F,f1,f3⟩:=Qxi h1 hp.1 a1 g1;exact⟨F++G,by simpa using f1,fun b hb=>(KG.1 hb).elim (f3 b) (g3 b)⟩
  ·cases hc
 | [],_::_,p,l,vs,hc,hp,a=>by simp[Qhh]at hc
 | _::_,[],p,l,vs,hc,hp,a=>by simp[Qhh]at hc
theorem Qbu{E:Env}{T:QS}{f:FuncId}{fn:Func}{body:Code}{c:Qb}(hT:Qcd E T)(hnm:T.nm=false)
  (hf:E.P.funcs[f]? =some fn) (hname:(fn.name== "runtime.NumGoroutine")=false) (hb:fn.body=some body) (hm:E.P.follows .mixedOrders=true) (hst:QcH T (fun x=>decide (x<fn.ntmps)&&x !=0) body=true) (hmu:c.muts=[true]) (hal:c.alias=false) (hn0:0<fn.ntmps)
  (hrun:∀args p rs ms,c.run args=some (p,rs,ms)→∃l Qal ns,args= .mbx l::Qal∧Qal.all QnC=true∧ms=[.mbx ns]∧(Qjo rs=true∧rvN rs=0)∧args.length≤fn.ntmps∧(p→∀bs,wpc T body (QCX T fn.results.toList rs ns) (Qly bs l Qal))):Qa E f c:=by
 refine⟨⟨fn,hf,hname,by rw[hb];rfl⟩,?_⟩
 intro args p rs ms hr hp w vals F Ms ha hnd hF hJ hN hMN;obtain⟨l0,Qal,ns,rfl,hro,rfl,⟨hpl,hrn⟩,hlen,hw⟩:=hrun args p rs ms hr;cases ha with
 | @cons _ x F0 Ms0 _ vs F1 Ms1 h1 h2=>
  have hMs:=Qiq h2 hro
  subst hMs;rw[KM]at hnd hF hMN ⊢;have hl:=QfJ h2
  cases h1 with
  | @mbx _ bb cv ce _ ms0 k1 k2=>
   have hltb:bb<w.heap.size:=(Kb.1 k1).1
   have hlt:=k2.lt
   have hF1:=Qip h2 hro
   have hml:=k2.len;have hnd0:bb∉ms0.flatten∧ms0.flatten.Nodup:=by simpa using hnd
   obtain⟨own0,hown⟩:∃o:Id→List Nat,o=fun id=>if id=(0,0)then [bb]else if id.1=0∧1≤id.2 then ms0.getD (id.2-1) []else []:=⟨_,rfl⟩
   have own00:own0 (0,0)=[bb]:=by rw[hown];simp
   have own_mem:∀id b,b∈own0 id→(id=(0,0)∧b=bb)∨(∃j m,id=(0,1+j)∧ms0[j]? =some m∧own0 id=m∧b∈m):=fun id b hb=>by
    have hb0:=hb
    rw[hown]at hb;dsimp only at hb;split at hb
    ·exact .inl ⟨‹_›,by simpa using hb⟩
    ·rename_i n0
     split at hb
     ·rename_i n1
      rw[KD]at hb;cases hm:ms0[id.2-1]? with
      | none=>rw[hm]at hb;cases hb
      | some m=>
       rw[hm]at hb;refine .inr ⟨id.2-1,m,Prod.ext n1.1 (by dsimp only;omega),hm,?_,hb⟩
       rw[hown];dsimp only;rw[if_neg n0,if_pos n1,KD,hm];rfl
     ·cases hb
   have own_get:∀j m,ms0[j]? =some m→own0 (0,1+j)=m:=fun j m hj=>by
    rw[hown];dsimp only;rw[if_neg (by simp only[KC,true_and];omega),if_pos ⟨rfl,by omega⟩]
    simp[KD,hj]
   have own_flat:∀id b,b∈own0 id→b∈([bb]::ms0).flatten:=fun id b hb=>by
    rcases own_mem id b hb with⟨_,rfl⟩|⟨j,m,_,hj,_,hb⟩
    ·simp
    ·simp only[List.flatten_cons,KG]
     exact .inr (Kf.2 ⟨m,Ki hj,hb⟩)
   have own_lt:∀id b,b∈own0 id→b<w.heap.size:=fun id b hb=>by
    rcases own_mem id b hb with⟨_,rfl⟩|⟨j,m,_,hj,_,hb⟩
    ·exact hltb
    ·exact hlt.2 b (Kf.2 ⟨m,Ki hj,hb⟩)
   letI:Hid:=⟨fun _=>False⟩
   have himm:∀b∈F0++F1,Imm own0 w.heap b:=fun b hb=>⟨(KG.1 hb).elim (hlt.1 b) (hF1 b),fun id hm=>hF b hb (own_flat id b hm),fun h=>h.elim⟩
   let x:Value:= .pointer (some ⟨bb,0,none⟩)
   let t0:Array Value:=(x::vs).toArray++Array.replicate (fn.ntmps-(x::vs).toArray.size) undef
   let X:Ctx:={toEnv:=E,n:=fn.ntmps,dok:=fun x=>decide (x<fn.ntmps)&&x !=0,hdok:=fun x hx=>by simp only[KB,KK]at hx;exact hx.1,tm:=fun i=>t0.getD i undef,w0:=w,M:=([bb]::ms0).flatten,nw:=fun b=>w.heap.size≤b∨b∈F0++F1,hnw:=fun b hb=> .inl hb,hh:=fun b h=>h.elim}
   have h0:=hw hp X.nw
   have hkn:((Qdo 2 0 1 l0++[(((0,0):Id),Ob.box (QjU true 0 1 l0))]).map (·.1)).Nodup:=by
    rw[Kv,Km];refine⟨QeU,by simp,fun i hi j hj e=>?_⟩
    subst e;obtain⟨q,hq,rfl⟩:=KQ.1 hi;obtain⟨j,_,h2,_⟩:=QdN hq;simp only[List.map_cons,List.map_nil,KH]at hj
    rw[h2]at hj;simp only[KC,true_and]at hj
    omega
   have hobb:(Qly X.nw l0 Qal).ob (0,0)= .box (QjU true 0 1 l0):=Qbk hkn _ _ _ (by simp)
   have hobn:∀q∈Qdo 2 0 1 l0,(Qly X.nw l0 Qal).ob q.1=q.2:=fun q hq=>Qbk hkn _ _ _ (YH _ hq)
   have hs0:(Qly X.nw l0 Qal).sl 0≠ .any:=by
    show AV.one _≠ .any
    simp
   have hcell:QM own0 w.heap (Qly X.nw l0 Qal) (.one (.bptr (0,0) 0)) x:=⟨hs0,bb,rfl,by rw[hobb];exact own00⟩
   have hall:Qas (QM own0 w.heap (Qly X.nw l0 Qal)) (.one (.bptr (0,0) 0)::Qal.map (QbA true)) (x::vs):=
    .cons hcell (Qdb h2 hro fun b hb=>⟨himm b (by simp[hb]),fun _=> .inr (by simp[hb])⟩)
   have hsz:t0.size=fn.ntmps:=by
    simp only[List.length_cons]at hlen
    simp[t0];omega
   have hget:∀i v,(x::vs)[i]? =some v→t0.getD i undef=v:=fun i v hv=>by
    have hi:=(K5.1 hv).1
    rw[K9,YE (by simpa using hi)]
    simp only[List.getElem?_toArray]
    rw[hv];rfl
   have hinit:QhJ X (Qly X.nw l0 Qal) {tmps:=t0,defers:=[]} w:=by
    refine⟨own0,⟨rfl,hsz,fun x hx=>rfl,rfl,rfl,rfl,rfl,KP _,fun _ _ _=>rfl,⟨hN,fun b hb=>hMN b hb⟩,hJ,fun id b hb=>⟨own_lt id b hb,.inr (own_flat id b hb)⟩,fun id=>?_,fun id id' b hb hb'=>?_,fun id=>?_,fun i=>?_⟩⟩
    ·rw[hown]
     dsimp only;split
     ·simp
     ·split
      ·rw[KD]
       cases hm:ms0[id.2-1]? with
       | none=>simp
       | some m=>exact Qac hnd0.2 (Ki hm)
      ·simp
    ·rcases own_mem id b hb with⟨e1,rfl⟩|⟨j,m,e1,hj,_,hbm⟩
     ·rcases own_mem id' b hb' with⟨e2,_⟩|⟨j',m',e2,hj',_,hbm'⟩
      ·rw[e1,e2]
      ·exact absurd (Kf.2 ⟨m',Ki hj',hbm'⟩) hnd0.1
     ·rcases own_mem id' b hb' with⟨e2,rfl⟩|⟨j',m',e2,hj',_,hbm'⟩
      ·exact absurd (Kf.2 ⟨m,Ki hj,hbm⟩) hnd0.1
      ·rw[e1,e2,QaQ hnd0.2 hj hj' hbm hbm']
    ·show Qc4 _ _ _ id (Q7 (fun _=> .none) _ id)
     rcases Qdu (us:=Qdo 2 0 1 l0++[(((0,0):Id),Ob.box (QjU true 0 1 l0))]) (g:=fun _=>Ob.none) (k:=id)with q|⟨z,hz,q⟩
     ·rw[q];trivial
     ·by_cases hid:id=(0,0)
      ·subst hid
       have:Q7 (fun _=>Ob.none) (Qdo 2 0 1 l0++[(((0,0):Id),Ob.box (QjU true 0 1 l0))]) (0,0)= .box (QjU true 0 1 l0):=hobb
       rw[this];exact⟨bb,cv,ce,own00,k1,QlS (dp:=2) (by decide) k2 (fun b hb=>⟨himm b (by simp[hb]),fun _=> .inr (by simp[hb])⟩) own_get hs0 hobn⟩
      ·have:Q7 (fun _=>Ob.none) (Qdo 2 0 1 l0++[(((0,0):Id),Ob.box (QjU true 0 1 l0))]) id=Q7 (fun _=>Ob.none) (Qdo 2 0 1 l0) id:=by
        rw[QfC];simp[Q7,hid]
       rw[this];rcases Qdu (us:=Qdo 2 0 1 l0) (g:=fun _=>Ob.none) (k:=id)with q|⟨z,hz,q⟩
       ·rw[q];trivial
       ·obtain⟨_,_,_,sz,m,e⟩:=QdN hz
        rw[q,e];trivial
    ·show QM _ _ _ ((.one (.bptr (0,0) 0)::Qal.map (QbA true)).getD i .any) (t0.getD i undef)
     rw[KD];cases hq:(AV.one (.bptr (0,0) 0)::Qal.map (QbA true))[i]? with
     | none=>trivial
     | some av=>
      obtain⟨v,hv,hok⟩:=Qas.get hall i av hq;rw[hget i v hv];exact hok
   refine calls_of_wp hf hb (wp_mono (Qbh (T:=T) (X:=X) (fun ops o _ ho=>QnO hT ops o ho) hm (fun h=>by rw[hnm]at h;cases h) body hst h0 hinit) fun e a' w' hq=>?_)
   obtain⟨s',hq,own,hc⟩:=hq;have fin:Qms T fn.results.toList rs ns s'→a'.defers=[]∧∃v,(results fn a'.tmps).run E.P w'= .ok v w'∧(fun e w'=>∃v,e=Ending.returned v∧Qd3 c.alias w w' (F0++F1) ([bb]::ms0) (Q0 c.muts (x::vs)) rs [.mbx ns] v) (.returned v) w':=fun hret=>by
    unfold Qms at hret;split at hret
    ·rename_i p1 l q1 id m hrs hfin
     obtain⟨hp1,hq1,hlm,hid⟩:=hret;have hl1:(l.filterMap fun x=>x).Nodup:=by
      rw[List.filterMap_append,Km]at hlm;exact hlm.1
     obtain⟨v,F',r1,r2,r3,r5⟩:=Qra (X:=X) hT.ty hc hrs hp1 hl1;have hF':=QkN r2 hpl
     subst hF';have hx0:a'.tmps.getD 0 undef=x:=by rw[hc.fix 0 (by simp[X])];exact hget 0 x rfl
     have hav:=hc.sls 0
     rw[hx0]at hav;unfold QE2 at hfin;split at hfin
     ·rename_i id' hs0'
      split at hfin
      ·rename_i cs ho
       split at hfin
       ·rename_i p2 m2 hcx
        simp only[KA,KC]at hfin
        obtain⟨rfl,rfl,rfl⟩:=hfin;rw[hs0']at hav;obtain⟨_,b1,e1,e2⟩:=hav;rw[ho]at e2;have e2':own id'=[b1]:=e2
        have hb1:b1=bb:=by
         simp only[x,Value.pointer.injEq,KA,Addr.mk.injEq,and_true]at e1
         exact e1.symm
        subst hb1;have hobi:=hc.obs id'
        rw[ho]at hobi;obtain⟨b2,cv2,ce2,g1,g2,g3⟩:=hobi;have:b2=b1:=by rw[g1]at e2';simpa using e2'
        subst this;obtain⟨F2,f1,f2⟩:=QmJ hcx hq1 g3;have os_id:∀{l:List (Option Id)} b,b∈(l.map (Qh5 own)).flatten→∃j,some j∈l∧b∈own j:=fun {l} b hb=>by
         obtain⟨m,hm,hb⟩:=Kf.1 hb;obtain⟨o,ho,rfl⟩:=KQ.1 hm;cases o with
         | none=>cases hb
         | some j=>exact⟨j,ho,hb⟩
        have hfl:=hc.flatO hlm
        rw[Kv,YR,Km]at hfl;have bb_all:∀{j:Id},some j∈l++m2→b2∉own j:=fun {j} hj hb=>by
         have:j=id':=hc.disj j id' b2 hb (by rw[g1];simp)
         subst this;exact hid (YY.2 ⟨some j,hj,rfl⟩)
        have bb_os:b2∉(l.map (Qh5 own)).flatten:=fun hm=>by
         obtain⟨j,hj,hb⟩:=os_id b2 hm;exact bb_all (YH _ hj) hb
        have bb_ms:b2∉(m2.map (Qh5 own)).flatten:=fun hm=>by
         obtain⟨j,hj,hb⟩:=os_id b2 hm;exact bb_all (List.mem_append_right _ hj) hb
        have hl0:l=[]:=Kd (by have:=Qh9 r2;rw[hrn,KV]at this;exact this.symm)
        subst hl0;refine⟨hc.defers,v,r1,v,rfl,⟨hc.os,hc.tape,hc.output,hc.grow,fun b h1 h2=>hc.old b h1 h2,[],[],F2++[],([b2]::m2.map (Qh5 own))++[],r2,?_,by simp,by simp,by simp,?_,fun b hb=>?_,fun b hb=>?_⟩⟩
        ·rw[hmu]
         have:Q0 [true] (x::vs)=[x]:=by
          simp only[Q0,List.headD_cons,if_true,List.tail_cons]
          rw[QbC (by rfl)]
         rw[this];exact .cons (.mbx g2 f1) .nil
        ·rw[KM,List.flatten_cons,List.singleton_append,Ke]
         exact⟨bb_ms,hfl.2.1⟩
        ·rw[KM]at hb
         simp only[List.flatten_cons,List.singleton_append,KI]at hb
         rcases hb with rfl|hb
         ·exact⟨(Kb.1 g2).1,by simp,.inr (by simp)⟩
         ·obtain⟨j,hj,hbj⟩:=os_id b hb
          obtain⟨q1,q2⟩:=hc.lt j b hbj;exact⟨q1,by simp,q2⟩
        ·rw[KM]at hb
         obtain⟨⟨q1,q2,_⟩,q3⟩:=f2 b hb;refine⟨q1,by simp,fun hm=>?_,?_⟩
         ·rw[KM]at hm
          simp only[List.flatten_cons,List.singleton_append,KI]at hm
          rcases hm with rfl|hm
          ·exact q2 id' (by rw[g1];simp)
          ·obtain⟨j,_,hbj⟩:=os_id b hm
           exact q2 j hbj
         ·rw[hc.bs]at q3
          exact q3
       ·cases hfin
      ·cases hfin
     ·cases hfin
    ·exact hret.elim
   cases e with
   | normal=>exact fin hq
   | ret=>exact fin hq
   | _=>exact hq.elim
theorem QhD{E:Env}{T:QS}{f:FuncId}{fn:Func}{body:Code}{c:Qb}(hT:Qcd E T)(hnm:T.nm=false)
  (hf:E.P.funcs[f]? =some fn) (hname:(fn.name== "runtime.NumGoroutine")=false) (hb:fn.body=some body) (hm:E.P.follows .mixedOrders=true) (hst:QcH T (fun x=>decide (x<fn.ntmps)) body=true) (hmu:c.muts=[true]) (hal:c.alias=true) (hn0:0<fn.ntmps)
  (hrun:∀args p rs ms,c.run args=some (p,rs,ms)→∃a0 Qal,args=a0::Qal∧Qx7 a0=true∧Qal.all QnC=true∧ms=[.gone]∧args.length≤fn.ntmps∧(p→∀bs,wpc T body (QzY T fn.results.toList rs) (Qsg bs a0 Qal))):Qa E f c:=by
 refine⟨⟨fn,hf,hname,by rw[hb];rfl⟩,?_⟩
 intro args p rs ms hr hp w vals F Ms ha hnd hF hJ hN hMN;obtain⟨a0,Qal,rfl,hmut,hro,rfl,hlen,hw⟩:=hrun args p rs ms hr;cases ha with
 | @cons _ x F0 Ms0 _ vs F1 Ms1 h1 h2=>
  have hMs:=Qiq h2 hro
  subst hMs;rw[KM]at hnd hF hMN ⊢;have hl:=QfJ h2
  obtain⟨own0,hown⟩:∃o:Id→List Nat,o=fun id=>if id.1=0 then Ms0.getD id.2 []else []:=⟨_,rfl⟩
  have own_mem:∀id b,b∈own0 id→id.1=0∧∃m,Ms0[id.2]? =some m∧b∈m:=fun id b hb=>by
   rw[hown]at hb;dsimp only at hb;split at hb
   ·refine⟨‹_›,?_⟩
    rw[KD]at hb;cases hm:Ms0[id.2]? with
    | none=>rw[hm]at hb;cases hb
    | some m=>rw[hm]at hb;exact⟨m,rfl,hb⟩
   ·cases hb
  have own_get:∀j m,Ms0[j]? =some m→own0 (0,0+j)=m:=fun j m hj=>by
   rw[hown];simp[KD,hj]
  have hlt:=h1.ltM hmut
  have hF1:=Qip h2 hro
  have own_flat:∀id b,b∈own0 id→b∈Ms0.flatten:=fun id b hb=>by
   obtain⟨_,m,hm,hb⟩:=own_mem id b hb;exact Kf.2 ⟨m,Ki hm,hb⟩
  letI:Hid:=⟨fun _=>False⟩
  have himm:∀b∈F0++F1,Imm own0 w.heap b:=fun b hb=>⟨(KG.1 hb).elim (hlt.1 b) (hF1 b),fun id hm=>hF b hb (own_flat id b hm),fun h=>h.elim⟩
  let t0:Array Value:=(x::vs).toArray++Array.replicate (fn.ntmps-(x::vs).toArray.size) undef
  let X:Ctx:={toEnv:=E,n:=fn.ntmps,dok:=fun x=>decide (x<fn.ntmps),hdok:=fun x hx=>of_decide_eq_true hx,tm:=fun i=>t0.getD i undef,w0:=w,M:=Ms0.flatten,nw:=fun b=>w.heap.size≤b,hnw:=fun b hb=>hb,hh:=fun b h=>h.elim}
  have h0:=hw hp X.nw
  have hs0:(Qsg X.nw a0 Qal).sl 0≠ .any:=by
   show Qpx a0≠ .any
   cases a0<;>simp[Qpx]
  have hall:Qas (QM own0 w.heap (Qsg X.nw a0 Qal)) (Qpx a0::Qal.map (QbA false)) (x::vs):=
   .cons (Qth h1 hmut (fun b hb=>himm b (by simp[hb])) own_get hs0 rfl) (Qdb h2 hro fun b hb=>⟨himm b (by simp[hb]),fun h=>by cases h⟩)
  have hsz:t0.size=fn.ntmps:=by
   simp only[List.length_cons]at hlen
   simp[t0];omega
  have hget:∀i v,(x::vs)[i]? =some v→t0.getD i undef=v:=fun i v hv=>by
   have hi:=(K5.1 hv).1
   rw[K9,YE (by simpa using hi)]
   simp only[List.getElem?_toArray]
   rw[hv];rfl
  have hinit:QhJ X (Qsg X.nw a0 Qal) {tmps:=t0,defers:=[]} w:=by
   refine⟨own0,⟨rfl,hsz,fun x hx=>rfl,rfl,rfl,rfl,rfl,KP _,fun _ _ _=>rfl,⟨hN,fun b hb=>hMN b hb⟩,hJ,fun id b hb=>⟨hlt.2 b (own_flat id b hb),.inr (own_flat id b hb)⟩,fun id=>?_,fun id id' b hb hb'=>?_,fun id=>?_,fun i=>?_⟩⟩
   ·rw[hown]
    dsimp only;split
    ·rw[KD]
     cases hm:Ms0[id.2]? with
     | none=>simp
     | some m=>exact Qac hnd (Ki hm)
    ·simp
   ·obtain⟨e1,m,e2,e3⟩:=own_mem id b hb
    obtain⟨e1',m',e2',e3'⟩:=own_mem id' b hb';exact Prod.ext (e1.trans e1'.symm) (QaQ hnd e2 e2' e3 e3')
   ·show Qc4 _ _ _ id (Q7 (fun _=> .none) (Qo5 a0) id)
    rcases Qdu (us:=Qo5 a0) (g:=fun _=>Ob.none) (k:=id)with q|⟨z,hz,q⟩
    ·rw[q];trivial
    ·rw[q]
     have:∃p q r,z.2= .arr p q r:=by
      cases a0 with
      | arr=>simp only[Qo5,KH]at hz;subst hz;exact⟨_,_,_,rfl⟩
      | mag l=>exact QeQ z hz
      | _=>simp[Qo5]at hz
     obtain⟨p,q,r,e⟩:=this;rw[e];trivial
   ·show QM _ _ _ ((Qpx a0::Qal.map (QbA false)).getD i .any) (t0.getD i undef)
    rw[KD];cases hq:(Qpx a0::Qal.map (QbA false))[i]? with
    | none=>trivial
    | some av=>
     obtain⟨v,hv,hok⟩:=Qas.get hall i av hq;rw[hget i v hv];exact hok
  refine calls_of_wp hf hb (wp_mono (Qbh (T:=T) (X:=X) (fun ops o _ ho=>QnO hT ops o ho) hm (fun h=>by rw[hnm]at h;cases h) body hst h0 hinit) fun e a' w' hq=>?_)
  obtain⟨s',hq,own,hc⟩:=hq;have fin:Qhf T fn.results.toList rs s'→a'.defers=[]∧∃v,(results fn a'.tmps).run E.P w'= .ok v w'∧(fun e w'=>∃v,e=Ending.returned v∧Qd3 c.alias w w' (F0++F1) Ms0 (Q0 c.muts (x::vs)) rs [.gone] v) (.returned v) w':=fun hret=>by
   obtain⟨v,F',os,r1,r2,r3,r4,r5⟩:=Qq9 (X:=X) hT.ty hc hret;refine⟨hc.defers,v,r1,v,rfl,⟨hc.os,hc.tape,hc.output,hc.grow,fun b h1 h2=>hc.old b h1 h2,F',os,[]++[],[]++[],r2,?_,r3,fun b hb=>?_,fun b hb=>?_,by simp,by simp,by simp⟩⟩
   ·rw[hmu]
    have:Q0 [true] (x::vs)=[x]:=by
     simp only[Q0,List.headD_cons,if_true,List.tail_cons]
     rw[QbC (by rfl)]
    rw[this];exact .cons .gone .nil
   ·obtain⟨j,hid⟩:=r4 b hb
    obtain⟨q1,q2⟩:=hc.lt j b hid;exact⟨q2.imp (fun q=>q) (fun q=>⟨hal,q⟩),q1⟩
   ·obtain⟨q1,q2⟩:=r5 b hb
    refine⟨q1.1,fun hm=>?_,by simp,.inl ?_⟩
    ·obtain⟨j,hid⟩:=r4 b hm
     exact q1.2.1 j hid
    ·rw[hc.bs]at q2;exact q2
  cases e with
  | normal=>exact fin hq
  | ret=>exact fin hq
  | _=>exact hq.elim
def Qsf(bs:Nat→Prop)(a0:Arg)(Qal:List Arg):St:=⟨bs,fun i=>(Qal.map (QbA false)++[Qpx a0]).getD i .any,Q7 (fun _=> .none) (Qo5 a0)⟩
theorem Qtg{al:Bool}{x:Arg}:QbA al x≠ .any:=by
 cases x with
 | fnc f l=>cases l<;>simp[QbA]
 | _=>simp[QbA]
theorem Qmx{h:Q6}:∀{Qal:List Arg} {a0:Arg} {vals:List Value} {F:List Nat} {Ms:List (List Nat)},Q5 h (Qal++[a0]) vals F Ms→∃vs x F1 F0 Ms1 Ms0,vals=vs++[x]∧F=F1++F0∧Ms=Ms1++Ms0∧Q5 h Qal vs F1 Ms1∧Qbi h a0 x F0 Ms0
 | [],a0,vals,F,Ms,a=>by
  cases a with
  | cons h1 h2=>
   cases h2
   exact⟨[],_,[],_,[],_,rfl,by simp,by simp,.nil,h1⟩
 | r::Qal,a0,vals,F,Ms,a=>by
  cases a with
  | cons h1 h2=>
   obtain⟨vs,x,F1,F0,Ms1,Ms0,rfl,rfl,rfl,h3,h4⟩:=Qmx h2;exact⟨_::vs,x,_,F0,_,Ms0,rfl,by rw[Kn],by rw[Kn],.cons h1 h3,h4⟩
theorem QhE{E:Env}{T:QS}{f:FuncId}{fn:Func}{body:Code}{c:Qb}(hT:Qcd E T)(hnm:T.nm=false)
  (hf:E.P.funcs[f]? =some fn) (hname:(fn.name== "runtime.NumGoroutine")=false) (hb:fn.body=some body) (hm:E.P.follows .mixedOrders=true) (hst:QcH T (fun x=>decide (x<fn.ntmps)) body=true) (hal:c.alias=true) (hn0:0<fn.ntmps)
  (hrun:∀args p rs ms,c.run args=some (p,rs,ms)→∃a0 Qal,args=Qal++[a0]∧Qal≠[]∧c.muts=List.replicate Qal.length false++[true]∧Qx7 a0=true∧Qal.all QnC=true∧ms=[.gone]∧args.length≤fn.ntmps∧(p→∀bs,wpc T body (QzY T fn.results.toList rs) (Qsf bs a0 Qal))):Qa E f c:=by
 refine⟨⟨fn,hf,hname,by rw[hb];rfl⟩,?_⟩
 intro args p rs ms hr hp w vals F Ms ha hnd hF hJ hN hMN;obtain⟨a0,Qal,rfl,hne,hmu,hmut,hro,rfl,hlen,hw⟩:=hrun args p rs ms hr;obtain⟨vs,x,F1,F0,Ms1,Ms0,rfl,rfl,rfl,h2,h1⟩:=Qmx ha
 ·skip
  have hMs:=Qiq h2 hro
  subst hMs;rw[List.nil_append]at hnd hF hMN ⊢;have hl:=QfJ h2
  obtain⟨own0,hown⟩:∃o:Id→List Nat,o=fun id=>if id.1=0 then Ms0.getD id.2 []else []:=⟨_,rfl⟩
  have own_mem:∀id b,b∈own0 id→id.1=0∧∃m,Ms0[id.2]? =some m∧b∈m:=fun id b hb=>by
   rw[hown]at hb;dsimp only at hb;split at hb
   ·refine⟨‹_›,?_⟩
    rw[KD]at hb;cases hm:Ms0[id.2]? with
    | none=>rw[hm]at hb;cases hb
    | some m=>rw[hm]at hb;exact⟨m,rfl,hb⟩
   ·cases hb
  have own_get:∀j m,Ms0[j]? =some m→own0 (0,0+j)=m:=fun j m hj=>by
   rw[hown];simp[KD,hj]
  have hlt:=h1.ltM hmut
  have hF1:=Qip h2 hro
  have own_flat:∀id b,b∈own0 id→b∈Ms0.flatten:=fun id b hb=>by
   obtain⟨_,m,hm,hb⟩:=own_mem id b hb;exact Kf.2 ⟨m,Ki hm,hb⟩
  letI:Hid:=⟨fun _=>False⟩
  have himm:∀b∈F1++F0,Imm own0 w.heap b:=fun b hb=>⟨(KG.1 hb).elim (hF1 b) (hlt.1 b),fun id hm=>hF b hb (own_flat id b hm),fun h=>h.elim⟩
  let t0:Array Value:=(vs++[x]).toArray++Array.replicate (fn.ntmps-(vs++[x]).toArray.size) undef
  let X:Ctx:={toEnv:=E,n:=fn.ntmps,dok:=fun x=>decide (x<fn.ntmps),hdok:=fun x hx=>of_decide_eq_true hx,tm:=fun i=>t0.getD i undef,w0:=w,M:=Ms0.flatten,nw:=fun b=>w.heap.size≤b,hnw:=fun b hb=>hb,hh:=fun b h=>h.elim}
  have h0:=hw hp X.nw
  have hs0:(Qsf X.nw a0 Qal).sl 0≠ .any:=by
   cases Qal with
   | nil=>exact absurd rfl hne
   | cons r0 Qal=>
    show QbA false r0≠ .any
    exact Qtg
  have hall:Qas (QM own0 w.heap (Qsf X.nw a0 Qal)) (Qal.map (QbA false)++[Qpx a0]) (vs++[x]):=
   (Qdb h2 hro fun b hb=>⟨himm b (by simp[hb]),fun h=>by cases h⟩).append (.cons (Qth h1 hmut (fun b hb=>himm b (by simp[hb])) own_get hs0 rfl) .nil)
  have hsz:t0.size=fn.ntmps:=by
   simp only[KN,List.length_singleton]at hlen
   simp[t0];omega
  have hget:∀i v,(vs++[x])[i]? =some v→t0.getD i undef=v:=fun i v hv=>by
   have hi:=(K5.1 hv).1
   rw[K9,YE (by simpa using hi)]
   simp only[List.getElem?_toArray]
   rw[hv];rfl
  have hinit:QhJ X (Qsf X.nw a0 Qal) {tmps:=t0,defers:=[]} w:=by
   refine⟨own0,⟨rfl,hsz,fun x hx=>rfl,rfl,rfl,rfl,rfl,KP _,fun _ _ _=>rfl,⟨hN,fun b hb=>hMN b hb⟩,hJ,fun id b hb=>⟨hlt.2 b (own_flat id b hb),.inr (own_flat id b hb)⟩,fun id=>?_,fun id id' b hb hb'=>?_,fun id=>?_,fun i=>?_⟩⟩
   ·rw[hown]
    dsimp only;split
    ·rw[KD]
     cases hm:Ms0[id.2]? with
     | none=>simp
     | some m=>exact Qac hnd (Ki hm)
    ·simp
   ·obtain⟨e1,m,e2,e3⟩:=own_mem id b hb
    obtain⟨e1',m',e2',e3'⟩:=own_mem id' b hb';exact Prod.ext (e1.trans e1'.symm) (QaQ hnd e2 e2' e3 e3')
   ·show Qc4 _ _ _ id (Q7 (fun _=> .none) (Qo5 a0) id)
    rcases Qdu (us:=Qo5 a0) (g:=fun _=>Ob.none) (k:=id)with q|⟨z,hz,q⟩
    ·rw[q];trivial
    ·rw[q]
     have:∃p q r,z.2= .arr p q r:=by
      cases a0 with
      | arr=>simp only[Qo5,KH]at hz;subst hz;exact⟨_,_,_,rfl⟩
      | mag l=>exact QeQ z hz
      | _=>simp[Qo5]at hz
     obtain⟨p,q,r,e⟩:=this;rw[e];trivial
   ·show QM _ _ _ ((Qal.map (QbA false)++[Qpx a0]).getD i .any) (t0.getD i undef)
    rw[KD];cases hq:(Qal.map (QbA false)++[Qpx a0])[i]? with
    | none=>trivial
    | some av=>
     obtain⟨v,hv,hok⟩:=Qas.get hall i av hq;rw[hget i v hv];exact hok
  refine calls_of_wp hf hb (wp_mono (Qbh (T:=T) (X:=X) (fun ops o _ ho=>QnO hT ops o ho) hm (fun h=>by rw[hnm]at h;cases h) body hst h0 hinit) fun e a' w' hq=>?_)
  obtain⟨s',hq,own,hc⟩:=hq;have fin:Qhf T fn.results.toList rs s'→a'.defers=[]∧∃v,(results fn a'.tmps).run E.P w'= .ok v w'∧(fun e w'=>∃v,e=Ending.returned v∧Qd3 c.alias w w' (F1++F0) Ms0 (Q0 c.muts (vs++[x])) rs [.gone] v) (.returned v) w':=fun hret=>by
   obtain⟨v,F',os,r1,r2,r3,r4,r5⟩:=Qq9 (X:=X) hT.ty hc hret;refine⟨hc.defers,v,r1,v,rfl,⟨hc.os,hc.tape,hc.output,hc.grow,fun b h1 h2=>hc.old b h1 h2,F',os,[]++[],[]++[],r2,?_,r3,fun b hb=>?_,fun b hb=>?_,by simp,by simp,by simp⟩⟩
   ·rw[hmu]
    rw[hl,Qho];exact .cons .gone .nil
   ·obtain⟨j,hid⟩:=r4 b hb
    obtain⟨q1,q2⟩:=hc.lt j b hid;exact⟨q2.imp (fun q=>q) (fun q=>⟨hal,q⟩),q1⟩
   ·obtain⟨q1,q2⟩:=r5 b hb
    refine⟨q1.1,fun hm=>?_,by simp,.inl ?_⟩
    ·obtain⟨j,hid⟩:=r4 b hm
     exact q1.2.1 j hid
    ·rw[hc.bs]at q2;exact q2
  cases e with
  | normal=>exact fin hq
  | ret=>exact fin hq
  | _=>exact hq.elim
end
end
instance (priority:=low) hid0:Hid:=⟨fun _=>False⟩
def Qf3(P:Program):Nat→List Field→Bool
 | _,[]=>true
 | k,f::fs=>(f.name != "_")&&(f.offset==k)&&(match P.underlying f.type with
  | some (.int _)=>true
  | _=>false)&&Qf3 P (k+1) fs
def Qcy(P:Program)(t:TypeId):Nat:=match P.underlying t with
 | some (.int _)=>1
 | some (.struct F)=>match P.info? t with
  | some i=>if(Qf3 P 0 F.toList&&(i.size==F.size)&& !P.stoodInHeld t)=true then F.size else 0
  | none=>0
 | _=>0
def QeN(P:Program):Nat→List Field→Bool
 | _,[]=>true
 | k,f::fs=>(f.name != "_")&&(f.offset==k)&&(Qcy P f.type !=0)&&QeN P (k+Qcy P f.type) fs
def QEo(P:Program):List Field→Nat
 | []=>0
 | f::fs=>Qcy P f.type+QEo P fs
def eqB(P:Program)(t:TypeId):Bool:=match P.underlying t,P.info? t with
 | some (.struct F),some i=>QeN P 0 F.toList&&(i.size==QEo P F.toList)&& !P.stoodInHeld t&& !P.eqGuardType P.depth t
 | _,_=>false
theorem QcZ{P:Program}{t:TypeId}{k:IntKind}(h:P.underlying t=some (.int k)){cs:Array Value}{off:Nat}{v:Value}(hv:cs[off]? =some v)(w:World):(part t cs off).run P w= .ok v w:=by
 simp[part,isAgg,run_underlying h,hv]
theorem Qhm{P:Program}(d:Nat)(w:World)(zx zy:List (IntKind×Int))(hk:zx.map (fun q=>q.1)=zy.map (fun q=>q.1)):∀(fs:List Field) (k:Nat),Qf3 P k fs=true→zx.length=k+fs.length→
  (Op.eqFields (d+1) (zx.map fun q=>Value.int q.1 q.2).toArray (zy.map fun q=>Value.int q.1 q.2).toArray fs).run P w= .ok ((zx.drop k).map (fun q=>q.2)==(zy.drop k).map (fun q=>q.2)) w
 | [],k,_,hl=>by
  have hl2:zy.length=zx.length:=by have:=congrArg List.length hk;simpa using this.symm
  simp only[Yb,Nat.add_zero]at hl
  rw[YB (by omega),YB (by omega)]
  simp[Op.eqFields]
 | f::fs,k,hf,hl=>by
  have hl2:zy.length=zx.length:=by have:=congrArg List.length hk;simpa using this.symm
  simp only[Qf3,KB,bne_iff_ne,Kh]at hf
  obtain⟨⟨⟨h1,h2⟩,h3⟩,h4⟩:=hf;simp only[List.length_cons]at hl
  have hx:k<zx.length:=by omega
  have hy:k<zy.length:=by omega
  have hkk:zx[k].1=zy[k].1:=by
   have:=congrArg (fun l=>l[k]?) hk
   simpa [YG,Kc hx,Kc hy]using this
  split at h3
  ·rename_i kk hu
   have e1:(zx.map fun q=>Value.int q.1 q.2).toArray[f.offset]? =some (.int zx[k].1 zx[k].2):=by
    rw[h2];simp[YG,Kc hx]
   have e2:(zy.map fun q=>Value.int q.1 q.2).toArray[f.offset]? =some (.int zx[k].1 zy[k].2):=by
    rw[h2,hkk];simp[YG,Kc hy]
   have ih:=Qhm d w zx zy hk fs (k+1) h4 (by omega)
   simp only[Op.eqFields,if_pos h1,Sem.run_bind,QcZ hu e1,QcZ hu e2,Result.andThen_ok,run_equalIn_int w d f.type zx[k].1 kk zx[k].2 zy[k].2 hu]
   rw[YX hx,YX hy];cases hb:(zx[k].2==zy[k].2)with
   | true=>
    simp only[YV,KX,if_false,ih,List.map_cons]
    have:zx[k].2=zy[k].2:=by simpa using hb
    rw[this];simp
   | false=>
    simp only[YU,if_true,Sem.run_pure,List.map_cons,List.cons_beq_cons,hb,KT]
  ·cases h3
theorem QAn{a b c d:List Int}(h:a.length=c.length):(a++b==c++d)=(a==c&&b==d):=by
 rw[Kp,KB,Kh,Kh,Kh];constructor
 ·intro e;exact List.append_inj e h
 ·rintro⟨rfl,rfl⟩;rfl
theorem Qup{P:Program}(d:Nat)(w:World)(zx zy:List (IntKind×Int))(hk:zx.map (fun q=>q.1)=zy.map (fun q=>q.1)){t:TypeId}{k:Nat}(h0:Qcy P t≠0)(hl:k+Qcy P t≤zx.length):
  ∃u v,(part t (zx.map fun q=>Value.int q.1 q.2).toArray k).run P w= .ok u w∧(part t (zy.map fun q=>Value.int q.1 q.2).toArray k).run P w= .ok v w∧
   (Op.equalIn (d+2) t u v).run P w= .ok (((zx.drop k).take (Qcy P t)).map (fun q=>q.2)==((zy.drop k).take (Qcy P t)).map (fun q=>q.2)) w:=by
 have hl2:zy.length=zx.length:=by have:=congrArg List.length hk;simpa using this.symm
 have hW:Qcy P t=Qcy P t:=rfl
 unfold Qcy at h0 hl ⊢;split at h0
 ·rename_i kk hu
  simp only[hu]at hl ⊢
  have hx:k<zx.length:=by omega
  have hy:k<zy.length:=by omega
  have hkk:zx[k].1=zy[k].1:=by
   have:=congrArg (fun l=>l[k]?) hk
   simpa [YG,Kc hx,Kc hy]using this
  have e1:(zx.map fun q=>Value.int q.1 q.2).toArray[k]? =some (.int zx[k].1 zx[k].2):=by simp[YG,Kc hx]
  have e2:(zy.map fun q=>Value.int q.1 q.2).toArray[k]? =some (.int zx[k].1 zy[k].2):=by rw[hkk];simp[YG,Kc hy]
  refine⟨_,_,QcZ hu e1 w,QcZ hu e2 w,?_⟩
  rw[run_equalIn_int w (d+1) t zx[k].1 kk zx[k].2 zy[k].2 hu,YX hx,YX hy];simp only[List.take_succ_cons,Kw,List.map_cons,List.map_nil]
  congr 1
  rw[Kp];simp
 ·rename_i F hu
  rw[hu]at hl;simp only[hu]at h0 hl ⊢
  split at h0
  ·rename_i i hi
   simp only[hi]at hl ⊢
   split at h0
   ·rename_i hc
    rw[if_pos hc]at hl ⊢;simp only[KB,Ko,Kh]at hc
    obtain⟨⟨c1,c2⟩,c3⟩:=hc;have hF:P.fieldsOf t=F:=by unfold Program.fieldsOf;rw[hu]
    have hu':P.underlying t=some (.struct (P.fieldsOf t)):=by rw[hF];exact hu
    have hp:∀(zs:List (IntKind×Int)),(part t (zs.map fun q=>Value.int q.1 q.2).toArray k).run P w= .ok (.agg ((((zs.drop k).take F.size).map fun q=>Value.int q.1 q.2).toArray)) w:=by
     intro zs;have e:((zs.map fun q=>Value.int q.1 q.2).toArray.extract k (k+F.size))=(((zs.drop k).take F.size).map fun q=>Value.int q.1 q.2).toArray:=by
      apply Array.toList_inj.1
      simp[List.map_drop,List.map_take]
     simp only[part,isAgg,Sem.run_bind,run_underlying hu,Result.andThen_ok,Sem.run_pure,if_true,sizeOf,typeInfo,run_program,hi,c2,e]
    refine⟨_,_,hp zx,hp zy,?_⟩
    rw[run_equalIn_struct w (d+1) t _ _ hu' c3,hF];have hk2:((zx.drop k).take F.size).map (fun q=>q.1)=((zy.drop k).take F.size).map (fun q=>q.1):=by
     rw[List.map_take,List.map_drop,hk,List.map_take,List.map_drop]
    rw[Qhm d w ((zx.drop k).take F.size) ((zy.drop k).take F.size) hk2 F.toList 0 c1 (by simp;omega),K1,K1]
   ·exact absurd rfl h0
  ·exact absurd rfl h0
 ·exact absurd rfl h0
theorem Qch{P:Program}(d:Nat)(w:World)(zx zy:List (IntKind×Int))(hk:zx.map (fun q=>q.1)=zy.map (fun q=>q.1)):∀(fs:List Field) (k:Nat),QeN P k fs=true→zx.length=k+QEo P fs→
  (Op.eqFields (d+2) (zx.map fun q=>Value.int q.1 q.2).toArray (zy.map fun q=>Value.int q.1 q.2).toArray fs).run P w= .ok ((zx.drop k).map (fun q=>q.2)==(zy.drop k).map (fun q=>q.2)) w
 | [],k,_,hl=>by
  have hl2:zy.length=zx.length:=by have:=congrArg List.length hk;simpa using this.symm
  simp only[QEo,Nat.add_zero]at hl
  rw[YB (by omega),YB (by omega)]
  simp[Op.eqFields]
 | f::fs,k,hf,hl=>by
  have hl2:zy.length=zx.length:=by have:=congrArg List.length hk;simpa using this.symm
  simp only[QeN,KB,bne_iff_ne,Kh]at hf
  obtain⟨⟨⟨h1,h2⟩,h3⟩,h4⟩:=hf;simp only[QEo]at hl
  obtain⟨u,v,p1,p2,p3⟩:=Qup d w zx zy hk (t:=f.type) (k:=k) h3 (by omega)
  have ih:=Qch d w zx zy hk fs (k+Qcy P f.type) h4 (by omega)
  have hd:∀zs:List (IntKind×Int),(zs.drop k).map (fun q=>q.2)=((zs.drop k).take (Qcy P f.type)).map (fun q=>q.2)++(zs.drop (k+Qcy P f.type)).map (fun q=>q.2):=fun zs=>by
   rw[←Kv,←List.drop_drop,Kr]
  rw[hd zx,hd zy,QAn (by simp;omega)]
  simp only[Op.eqFields,if_pos h1,h2,Sem.run_bind,p1,p2,p3,Result.andThen_ok]
  cases hb:(((zx.drop k).take (Qcy P f.type)).map (fun q=>q.2)==((zy.drop k).take (Qcy P f.type)).map (fun q=>q.2))with
  | true=>simp only[YV,KX,if_false,ih,KY]
  | false=>simp only[YU,if_true,Sem.run_pure,KT]
theorem QDx{P:Program}{t:TypeId}{i:TypeInfo}(hi:P.info? t=some i)(h:eqB P t=true):QFK P t i.size:=by
 unfold eqB at h;split at h
 ·rename_i F i' hu hi'
  rw[hi]at hi';obtain rfl:=K0 hi';simp only[KB,Ko,Kh]at h
  obtain⟨⟨⟨h1,h2⟩,h3⟩,h4⟩:=h;intro op x y xs ys w hx hy hk hop;have hF:P.fieldsOf t=F:=by unfold Program.fieldsOf;rw[hu]
  have hu':P.underlying t=some (.struct (P.fieldsOf t)):=by rw[hF];exact hu
  have run:=run_equalIn_struct w 9999 t (xs.map fun q=>Value.int q.1 q.2).toArray (ys.map fun q=>Value.int q.1 q.2).toArray hu' h3
  rw[hF,Qch 9997 w xs ys hk F.toList 0 h1 (by omega)]at run
  simp only[K1]at run
  simp only[Sem.run_bind,QlA]
  rw[run_eqGuard_agg w op t x y _ _ h4];simp only[Result.andThen_ok]
  rcases hop with rfl|rfl
  ·rw[run_eql_struct,run];simp[Result.andThen]
  ·rw[run_neq_struct,run];simp[Result.andThen]
 ·cases h
def Qb8(P:Program)(t:TypeId):Option TyI:=
 match P.info? t with
 | some i=>match i.zero with
  | some z=>if z.cells.toList.length=i.size∧z.cells.toList.all (·.oneCell')=true then
    match P.underlying t with
    | some (.slice e)=>some ⟨i.size,i.bytes,false,false,.slice e,z.cells.toList⟩
    | some (.struct F)=>some ⟨i.size,i.bytes,true,eqB P t,.struct (F.toList.map fun f=>(f.offset,f.type)),z.cells.toList⟩
    | some (.int k)=>some ⟨i.size,i.bytes,false,false,.int k,z.cells.toList⟩
    | some .bool=>some ⟨i.size,i.bytes,false,false,.bool,z.cells.toList⟩
    | some .string=>some ⟨i.size,i.bytes,false,false,.str,z.cells.toList⟩
    | _=>none
   else none
  | none=>none
 | none=>none
theorem QCr{P:Program}{t:TypeId}{y:TyI}(h:Qb8 P t=some y):Qb9 P t y:=by
 unfold Qb8 at h;split at h
 ·rename_i i hi
  split at h
  ·rename_i z hz
   split at h
   ·rename_i hh
    obtain⟨h1,h2⟩:=hh;have h3:∀v∈z.cells.toList,v.oneCell'=true:=fun v hv=>Kg.1 h2 v hv
    split at h
    ·rename_i e hu
     simp only[KA]at h
     subst h;exact⟨⟨i,z,hi,rfl,rfl,hz,rfl⟩,h1,h3,(by simp),hu,rfl⟩
    ·rename_i F hu
     simp only[KA]at h
     subst h;exact⟨⟨i,z,hi,rfl,rfl,hz,rfl⟩,h1,h3,(fun hq=>QDx hi hq),⟨F,hu,rfl⟩,rfl⟩
    ·rename_i k hu
     simp only[KA]at h
     subst h;exact⟨⟨i,z,hi,rfl,rfl,hz,rfl⟩,h1,h3,(by simp),hu,rfl⟩
    ·rename_i hu
     simp only[KA]at h
     subst h;exact⟨⟨i,z,hi,rfl,rfl,hz,rfl⟩,h1,h3,(by simp),hu,rfl⟩
    ·rename_i hu
     simp only[KA]at h
     subst h;exact⟨⟨i,z,hi,rfl,rfl,hz,rfl⟩,h1,h3,(by simp),hu,rfl⟩
    ·cases h
   ·cases h
  ·cases h
 ·cases h
def look(l:List (FuncId×Qb))(f:FuncId):Option Qb:=match l with
 | []=>none
 | (g,c)::r=>if g=f then some c else look r f
def mkT(P:Program)(l:List (FuncId×Qb))(wr:Bool)(im:Nat→Bool)(nm:Bool)(bx:Nat→Bool):QS:=⟨Qb8 P,look l,wr,im,nm,bx⟩
inductive QCF(E:Env):List (FuncId×Qb)→Prop
  | nil:QCF E []
  | cons {f c l}:Qa E f c→QCF E l→QCF E ((f,c)::l)
theorem QCF.look{E:Env}{l:List (FuncId×Qb)}(a:QCF E l){f:FuncId}{c:Qb}(h:look l f=some c):Qa E f c:=by
 induction a with
 | nil=>cases h
 | cons h1 _ ih=>
  simp only[Own.look]at h
  split at h
  ·rename_i e
   simp only[KA]at h
   subst e h;exact h1
  ·exact ih h
theorem Qd{E:Env}{l:List (FuncId×Qb)}{wr:Bool}{im:Nat→Bool}{nm:Bool}{bx:Nat→Bool}(a:QCF E l):Qcd E (mkT E.P l wr im nm bx):=⟨fun _ _ h=>QCr h,fun _ _ h=>a.look h⟩
section
variable {T:QS} {Q:Exit→St→Prop} {s:St}
theorem QyZ:wpc T .skip Q s=Q .normal s:=rfl
theorem Qwh{l:Nat}:wpc T (.label l) Q s=Q .normal s:=rfl
theorem QkV{i:Nat}{ops:Array Oper}{dr:Bool}:wpc T (.region i ops dr) Q s=TL T ops (Q .normal) ops.toList s:=rfl
theorem Qwi{a b:Code}:wpc T (.seq a b) Q s=wpc T a (QCb (wpc T b Q) Q) s:=rfl
theorem QnV{i:Nat}{c:Code}:wpc T (.block i c) Q s=wpc T c (Qe7 i Q) s:=rfl
theorem Qry{i:Nat}:wpc T (.exit i) Q s=Q (.exit i) s:=rfl
theorem QCA:wpc T .ret Q s=Q .ret s:=rfl
theorem QCZ{ops:Array Oper}{K:St→Prop}:TL T ops K [] s=K s:=rfl
def QCk(r:Option (Prop×AV×List (Id×Ob)))(T:QS)(ops:Array Oper)(K:St→Prop)(dst:Option Nat)(l:List Oper)(s:St):Prop:=Qcv r fun v us=>TL T ops K l (s.put dst v us)
def QCG(p:Prop)(T:QS)(ops:Array Oper)(K:St→Prop)(dst:Option Nat)(l:List Oper)(s:St)(v:AV)(us:List (Id×Ob)):Prop:=p∧TL T ops K l (s.put dst v us)
def QoK(v:AV)(T:QS)(x y:Code)(Q:Exit→St→Prop)(s:St):Prop:=Qlc v (wpc T x Q s) (wpc T y Q s)
theorem Qz3{ops:Array Oper}{K:St→Prop}{o:Oper}{r:List Oper}:TL T ops K (o::r) s=QCk (F1 T ops o s) T ops K o.dst r s:=rfl
theorem QsH{p:Prop}{v:AV}{us:List (Id×Ob)}{ops:Array Oper}{K:St→Prop}{d:Option Nat}{r:List Oper}:QCk (some (p,v,us)) T ops K d r s=QCG p T ops K d r s v us:=rfl
theorem Quu{v:AV}{us:List (Id×Ob)}{ops:Array Oper}{K:St→Prop}{d:Option Nat}{r:List Oper}:QCG True T ops K d r s v us=TL T ops K r (s.put d v us):=by simp[QCG]
theorem QeM{p:Prop}{v:AV}{us:List (Id×Ob)}{ops:Array Oper}{K:St→Prop}{d:Option Nat}{r:List Oper}(h:p)(k:p→TL T ops K r (s.put d v us)):QCG p T ops K d r s v us:=⟨h,k h⟩
theorem QyY{c:Operand}{x y:Code}:wpc T (.cond c x y) Q s=QoK (rho s c) T x y Q s:=rfl
theorem Quq{x y:Code}:QoK (.one (.d (.v (.bool true)))) T x y Q s=wpc T x Q s:=by simp[QoK,Qlc]
theorem Qsb{x y:Code}:QoK (.one (.d (.v (.bool false)))) T x y Q s=wpc T y Q s:=by simp[QoK,Qlc]
theorem fkI{b:Bool}{x y:Code}(h1:b=true→wpc T x Q s)(h2:b=false→wpc T y Q s):QoK (.one (.d (.v (.bool b)))) T x y Q s:=⟨h1,h2⟩
theorem lpI{c:Code}(I:QY)(h1:I.chk (Qqa c)=true)(i0:I.ι)(h2:I.ok i0)(h3:Qig T.nm I i0 s)(h4:∀i,I.ok i→wpc T c (QlI T.nm I i Q) (Qbd I.rs s (I.st i) I.alis)):wpc T (.loop c) Q s:=
 ⟨I,h1,⟨i0,h2,h3⟩,h4⟩
theorem lpN{nm:Bool}{I:QY}{i:I.ι}(j:I.ι)(h1:I.ok j)(h2:I.mu j<I.mu i)(h3:Qig nm I j s):QlI nm I i Q .normal s:=⟨j,h1,h2,h3⟩
attribute [irreducible] QCG QoK QCk
theorem Qjq{k:St→Prop}:QCb k Q .normal s=k s:=rfl
theorem QnL{k:St→Prop}{i:Nat}:QCb k Q (.exit i) s=Q (.exit i) s:=rfl
theorem QyG{k:St→Prop}:QCb k Q .ret s=Q .ret s:=rfl
theorem QfL{i:Nat}:Qe7 i Q .normal s=Q .normal s:=rfl
theorem Qit{i j:Nat}:Qe7 i Q (.exit j) s=if j=i then Q .normal s else Q (.exit j) s:=rfl
theorem QrK{i:Nat}:Qe7 i Q .ret s=Q .ret s:=rfl
theorem Qso{nm:Bool}{I:QY}{i:I.ι}{k:Nat}:QlI nm I i Q (.exit k) s=Q (.exit k) s:=rfl
theorem QuT{nm:Bool}{I:QY}{i:I.ι}:QlI nm I i Q .ret s=Q .ret s:=rfl
theorem QD6{d:Nat}{v:AV}{us:List (Id×Ob)}{t:Nat}:(s.put (some d) v us).sl t=if t=d then v.mk else s.sl t:=rfl
theorem QBU{v:AV}{us:List (Id×Ob)}{t:Nat}:(s.put none v us).sl t=s.sl t:=rfl
theorem QBT{d:Option Nat}{v:AV}{us:List (Id×Ob)}:(s.put d v us).ob=Q7 s.ob us:=St.put_ob s d v us
theorem Qwa{g:Id→Ob}:Q7 g []=g:=rfl
theorem QsL{g:Id→Ob}{k:Id}{o:Ob}{r:List (Id×Ob)}{i:Id}:Q7 g ((k,o)::r) i=Q7 (fun id=>if id=k then o else g id) r i:=rfl
theorem QsM{g:Id→Ob}{i:Id}:Q7 g [] i=g i:=rfl
theorem QBg{al:Bool}{bs:Nat→Prop}{args:List Arg}{t:Nat}:(Qm9 al bs args).sl t=(args.map (QbA al)).getD t .any:=rfl
theorem QBf{al:Bool}{bs:Nat→Prop}{args:List Arg}{i:Id}:(Qm9 al bs args).ob i= .none:=rfl
theorem Qx3{bs:Nat→Prop}{a0:Arg}{Qal:List Arg}{t:Nat}:(Qsg bs a0 Qal).sl t=(Qpx a0::Qal.map (QbA false)).getD t .any:=rfl
theorem Qx1{bs:Nat→Prop}{a0:Arg}{Qal:List Arg}{t:Nat}:(Qsf bs a0 Qal).sl t=(Qal.map (QbA false)++[Qpx a0]).getD t .any:=rfl
theorem Qx0{bs:Nat→Prop}{a0:Arg}{Qal:List Arg}{i:Id}:(Qsf bs a0 Qal).ob i=Q7 (fun _=> .none) (Qo5 a0) i:=rfl
theorem Qx5{bs:Nat→Prop}{l:List (D ⊕ (Nat×List (List D)×Nat))}{Qal:List Arg}{t:Nat}:(Qly bs l Qal).sl t=(.one (.bptr (0,0) 0)::Qal.map (QbA true)).getD t .any:=rfl
theorem Qx4{bs:Nat→Prop}{l:List (D ⊕ (Nat×List (List D)×Nat))}{Qal:List Arg}{i:Id}:(Qly bs l Qal).ob i=Q7 (fun _=> .none) (Qdo 2 0 1 l++[((0,0),.box (QjU true 0 1 l))]) i:=rfl
theorem QxZ{bs:Nat→Prop}{ds:List D}{Qal:List Arg}{t:Nat}:(Qm8 bs ds Qal).sl t=(.one (.bptr (0,0) 0)::Qal.map (QbA false)).getD t .any:=rfl
theorem QxY{bs:Nat→Prop}{ds:List D}{Qal:List Arg}{i:Id}:(Qm8 bs ds Qal).ob i=Q7 (fun _=> .none) [((0,0),.box (ds.map (QbL true)))] i:=rfl
theorem Qx2{bs:Nat→Prop}{a0:Arg}{Qal:List Arg}{i:Id}:(Qsg bs a0 Qal).ob i=Q7 (fun _=> .none) (Qo5 a0) i:=rfl
theorem QBc{rs:List (Nat×Nat)}{ps:List (Nat×Pat)}{as:List (Nat×Nat)}{t:Nat}:(Qbd rs s ps as).sl t=Qff rs s.sl ps as t:=rfl
theorem Qz8{rs:List (Nat×Nat)}{f:Nat→AV}{ps:List (Nat×Pat)}{j:Nat}:Qff rs f ps [] j=Qam rs f ps j:=rfl
theorem QwE{rs:List (Nat×Nat)}{f:Nat→AV}{ps:List (Nat×Pat)}{r:List (Nat×Nat)}{p q j:Nat}:Qff rs f ps ((p,q)::r) j=if j=p then Qam rs f ps q else Qff rs f ps r j:=rfl
theorem QBb{rs:List (Nat×Nat)}{ps:List (Nat×Pat)}{as:List (Nat×Nat)}{i:Id}:(Qbd rs s ps as).ob i=Q7 (fun _=> .none) (QcX ps) i:=rfl
theorem QvX{rs:List (Nat×Nat)}{f:Nat→AV}{j:Nat}:Qam rs f [] j=if Qzs rs j then .any else scrub (f j):=rfl
theorem QsA{rs:List (Nat×Nat)}{f:Nat→AV}{j p:Nat}{x:Pat}{r:List (Nat×Pat)}:Qam rs f ((p,x)::r) j=if j=p then(Q4 p x).1 else Qam rs f r j:=rfl
theorem QDT{P:Program}{l:List (FuncId×Qb)}{wr:Bool}{im:Nat→Bool}{nm:Bool}{bx:Nat→Bool}{f:FuncId}:(mkT P l wr im nm bx).ct f=look l f:=rfl
theorem QDW{P:Program}{l:List (FuncId×Qb)}{wr:Bool}{im:Nat→Bool}{nm:Bool}{bx:Nat→Bool}:(mkT P l wr im nm bx).wr=wr:=rfl
theorem QDU{P:Program}{l:List (FuncId×Qb)}{wr:Bool}{im:Nat→Bool}{nm:Bool}{bx:Nat→Bool}{d:Nat}:(mkT P l wr im nm bx).im d=im d:=rfl
theorem QDS{P:Program}{l:List (FuncId×Qb)}{wr:Bool}{im:Nat→Bool}{nm:Bool}{bx:Nat→Bool}{d:Nat}:(mkT P l wr im nm bx).bx d=bx d:=rfl
theorem QDV{P:Program}{l:List (FuncId×Qb)}{wr:Bool}{im:Nat→Bool}{nm:Bool}{bx:Nat→Bool}:(mkT P l wr im nm bx).nm=nm:=rfl
def iL(xs:List Int):List (List D):=xs.map fun n=>[D.v (.int .i64 n)]
theorem Qs(xs:List Int):(iL xs).length=xs.length:=by simp[iL]
theorem QDE{xs:List Int}{i:Nat}(h:i<xs.length):(iL xs).getD i []=[D.v (.int .i64 (xs.getD i 0))]:=by
 simp[iL,KD,h]
theorem QDG{xs:List Int}{i:Nat}{n:Int}:(iL xs).set i [D.v (.int .i64 n)]=iL (xs.set i n):=by
 simp[iL,List.map_set]
theorem QCl{i:Nat}:((i:Int)+1=((i+1:Nat):Int))=True:=by simp
theorem QEi{x:Value}:QaO (.v x)=True:=rfl
theorem QB8{n:Nat}{l:List (List D)}:QaO (.sl n l)=False:=rfl
theorem QBe{ys:List Int}{k i:Nat}:(∀x∈List.take k ((iL ys).getD i []),QaO x)↔True:=by
 refine⟨fun _=>trivial,fun _ x hx=>?_⟩
 have:=Ks hx
 simp only[iL,KD,YG]at this
 cases h:ys[i]? with
 | none=>simp[h]at this
 | some n=>simp[h]at this;subst this;trivial
theorem Qxt{a b:Bool}:cond a b false=(a&&b):=by cases a<;>rfl
theorem QAG{a b:Bool}:cond a true b=(a||b):=by cases a<;>rfl
theorem QE3{n:Int}:inR .i64 n=(-9223372036854775808≤n∧n≤9223372036854775807):=rfl
def unI(l:List (List D)):List Int:=l.map fun
 | [.v (.int .i64 n)]=>n
 | _=>0
theorem QaH(xs:List Int):unI (iL xs)=xs:=by simp[unI,iL,Function.comp_def]
def sL(rs:List (List Int)):List (List D):=rs.map fun r=>[D.sl 1 (iL r)]
def unS(l:List (List D)):List (List Int):=l.map fun
 | [.sl _ r]=>unI r
 | _=>[]
theorem QB(rs:List (List Int)):unS (sL rs)=rs:=by simp[unS,sL,Function.comp_def,QaH]
theorem Qai(rs:List (List Int)):(sL rs).length=rs.length:=by simp[sL]
theorem QEf{rs:List (List Int)}{i:Nat}(h:i<rs.length):(sL rs).getD i []=[D.sl 1 (iL (rs.getD i []))]:=by
 simp[sL,KD,h]
theorem QEg{rs ss:List (List Int)}:sL rs=sL ss↔rs=ss:=by
 constructor
 ·intro h
  have:=congrArg unS h
  simpa only[QB]using this
 ·rintro rfl;rfl
def WfI(l:List (List D)):Prop:=l=iL (unI l)∧l.length≤maxLen
def WfS(l:List (List D)):Prop:=l=sL (unS l)∧l.length≤maxLen∧∀r∈unS l,r.length≤maxLen
theorem QzO{xs:List Int}:WfI (iL xs)↔xs.length≤maxLen:=by simp[WfI,QaH,Qs]
theorem QEt{rs:List (List Int)}:WfS (sL rs)↔rs.length≤maxLen∧∀r∈rs,r.length≤maxLen:=by simp[WfS,QB,Qai]
theorem WfI.ex{l:List (List D)}(h:WfI l):∃xs,l=iL xs∧xs.length≤maxLen:=⟨unI l,h.1,by have:=h.2;rw[h.1,Qs]at this;exact this⟩
theorem WfS.ex{l:List (List D)}(h:WfS l):∃rs,l=sL rs∧rs.length≤maxLen∧∀r∈rs,r.length≤maxLen:=⟨unS l,h.1,by have:=h.2.1;rw[h.1,Qai]at this;exact this,h.2.2⟩
theorem QDF{xs ys:List Int}:iL xs=iL ys↔xs=ys:=by
 constructor
 ·intro h
  have:=congrArg (List.map fun(l:List D)=>match l with
   | [.v (.int .i64 n)]=>n
   | _=>0) h
  simpa [iL,Function.comp_def]using this
 ·rintro rfl;rfl
end
end Go.Own
