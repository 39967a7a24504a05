/- Contracts. Conditions: as stated. -/
import Derived.Test.YtnmkpepdacbfaaaGreatDoorRp01
set_option linter.all false
namespace Go.Own
open Go
section
variable {hd:Hid}
section
variable {X:Ctx} {T:QS} {own:Id→List Nat} {s:St} {w:World} {a:Act} {ρ:Operand→AV}
variable {dst:Option Nat} {type:TypeId} {pos:String} {after:Array Edge} {guard:Option (Nat×Bool)} {p:Prop} {v:AV} {d:Nat} {fresh im:Bool}
theorem Qqk(off:Nat):∀(vs:List Value) (j0:Nat) (cells:Array Value),off+j0+vs.length≤cells.size→
  ((vs.zipIdx j0).foldl (fun cs (q:Value×Nat)=>cs.setIfInBounds (off+q.2) q.1) cells).toList=cells.toList.take (off+j0)++vs++cells.toList.drop (off+j0+vs.length)
 | [],j0,cells,_=>by simp
 | v::vs,j0,cells,h=>by
  simp only[List.length_cons]at h
  simp only[List.zipIdx_cons,List.foldl_cons]
  rw[Qqk off vs (j0+1) _ (by simp;omega)]
  have hlen:off+j0<cells.toList.length:=by simp;omega
  have hk:(cells.toList.take (off+j0)).length=off+j0:=by simp;omega
  have e1:(cells.setIfInBounds (off+j0) v).toList=cells.toList.take (off+j0)++v::cells.toList.drop (off+j0+1):=by
   rw[Array.toList_setIfInBounds,List.set_eq_take_append_cons_drop,if_pos hlen]
  rw[e1];have e2:(cells.toList.take (off+j0)++v::cells.toList.drop (off+j0+1)).take (off+(j0+1))=cells.toList.take (off+j0)++[v]:=by
   rw[show off+(j0+1)=(cells.toList.take (off+j0)).length+1 from by omega,List.take_length_add_append]
   rfl
  have e3:(cells.toList.take (off+j0)++v::cells.toList.drop (off+j0+1)).drop (off+(j0+1)+vs.length)=cells.toList.drop (off+j0+(vs.length+1)):=by
   rw[show off+(j0+1)+vs.length=(cells.toList.take (off+j0)).length+(vs.length+1)from by omega,List.drop_length_add_append,List.drop_succ_cons,List.drop_drop]
   congr 1
   omega
  rw[e2,e3];simp
theorem Qqh(place:Nat→Option (Nat×Nat))(cells:Array Value)(i off size:Nat)(v:Value)(Qal:List (Nat×Value))(hp:place i=some (off,size))(hs:v.cells.size=size)(hle:off+size≤cells.size):
  ∃c',Instr.fill place cells ((i,v)::Qal)=Instr.fill place c' Qal∧c'.toList=cells.toList.take off++v.cells.toList++cells.toList.drop (off+size):=by
 refine⟨v.cells.zipIdx.foldl (fun cs (q:Value×Nat)=>cs.setIfInBounds (off+q.2) q.1) cells,?_,?_⟩
 ·simp only[Instr.fill,hp]
  rw[if_neg];simp[hs];omega
 ·have:=Qqk off v.cells.toList 0 cells (by simp[hs];omega)
  rw[←Array.foldl_toList,Array.toList_zipIdx];rw[this];simp[hs]
theorem Qqi(size N:Nat):∀(L:List Value) (k:Nat) (cells:Array Value),cells.size=N*size→k+L.length≤N→(∀v∈L,v.cells.size=size)→
  ∃r,Instr.fill (fun i=>some (i*size,size)) cells ((List.range' k L.length).zip L)=some r∧r.toList=cells.toList.take (k*size)++(L.map fun v=>v.cells.toList).flatten++cells.toList.drop ((k+L.length)*size)
 | [],k,cells,_,_,_=>⟨cells,by simp[Instr.fill],by simp⟩
 | v::L,k,cells,h1,h2,h3=>by
  simp only[List.length_cons]at h2
  have hv:=h3 v (by simp)
  have hks:k*size+size≤cells.size:=by
   rw[h1];have:(k+1)*size≤N*size:=Ka _ (by omega)
   rw[YD]at this;omega
  obtain⟨c',e1,e2⟩:=Qqh (fun i=>some (i*size,size)) cells k (k*size) size v ((List.range' (k+1) L.length).zip L) rfl hv hks
  have hc':c'.size=N*size:=by
   have h:=congrArg List.length e2
   simp[hv]at h
   omega
  obtain⟨r,f1,f2⟩:=Qqi size N L (k+1) c' hc' (by omega) (fun x hx=>h3 x (by simp[hx]))
  refine⟨r,?_,?_⟩
  ·simp only[List.length_cons,List.range'_succ,List.zip_cons_cons,e1];exact f1
  ·rw[f2,e2]
   simp only[List.map_cons,List.flatten_cons,List.length_cons]
   have hl:(cells.toList.take (k*size)++v.cells.toList).length=(k+1)*size:=by simp[hv];rw[YD];omega
   have t1:(cells.toList.take (k*size)++v.cells.toList++cells.toList.drop (k*size+size)).take ((k+1)*size)=cells.toList.take (k*size)++v.cells.toList:=by
    rw[←hl,List.take_left]
   have t2:(cells.toList.take (k*size)++v.cells.toList++cells.toList.drop (k*size+size)).drop ((k+1+L.length)*size)=cells.toList.drop ((k+(L.length+1))*size):=by
    have:(k+1+L.length)*size=(k+1)*size+L.length*size:=by rw[YD]
    rw[this,←List.drop_drop,←hl,List.drop_left,List.drop_drop];congr 1
    rw[show k+(L.length+1)=k+1+L.length from by omega,YD,YD]
    omega
   rw[t1,t2];simp[Kn]
theorem QfS{v:Value}(h:v.oneCell'=true):v.cells=#[v]:=by cases v<;>first|rfl|(simp[Value.oneCell']at h)
theorem Qdd{h:Q6}{av:AV}{cs:List QI}(hc:Qct av=some cs){v:Value}(a:QM own h s av v):Qk own h s cs v.cells.toList:=by
 cases av with
 | one c=>
  simp only[Qct,KA]at hc
  subst hc;rw[QfS (QR.one a)];exact .cons a .nil
 | agg cs'=>
  simp only[Qct,KA]at hc
  subst hc;obtain⟨vs,rfl,a⟩:=a;exact a
 | lit id sz els=>
  unfold Qct at hc;split at hc
  ·rename_i e;cases e
  ·rename_i e;cases e
  ·rename_i id' id2 s2 l2 dp2 e
   cases e
   simp only[KA]at hc
   subst hc;obtain⟨a0,a1,a2⟩:=a;rw[QfS a0];refine .cons ⟨a0,a1,fun hn=>?_⟩ .nil
   obtain⟨b,c,e,g1,g2,g3,g4,g5,g6,g7⟩:=a2 hn;cases hcl:c.toList with
   | nil=>rw[hcl]at g7;cases g7
   | cons v0 r=>
    rw[hcl]at g7;cases g7 with
    | cons q1 q2=>
     cases q2
     exact⟨b,c,e,v0,by simpa using g1,g2,g3,hcl,q1.1,q1.2.1,q1.2.2⟩
  ·cases hc
 | _=>simp[Qct]at hc
theorem Qi8{h:Q6}{ev:Operand→Value}{sz:Nat}:∀{xs:List Operand} {els:List (List QI)},((sz=1∧Qeq (xs.map ρ)=some els)∨Qep sz (xs.map ρ)=some els)→(∀x∈xs,QM own h s (ρ x) (ev x))→
  els.length=xs.length∧(∀e∈els,e.length=sz)∧(∀x∈xs,(ev x).cells.size=sz)∧Qk own h s els.flatten ((xs.map fun x=>(ev x).cells.toList).flatten)
 | [],els,hl,_=>by
  have:els=[]:=by rcases hl with⟨_,hl⟩|hl<;>simpa [Qeq,Qep]using hl.symm
  subst this;exact⟨rfl,by simp,by simp,.nil⟩
 | x::xs,els,hl,hx=>by
  have hx0:=hx x (by simp)
  rcases hl with⟨rfl,hl⟩|hl
  ·simp only[List.map_cons]at hl
   unfold Qeq at hl;split at hl
   ·rename_i heq;cases heq
   ·rename_i c r heq
    simp only[YO]at heq
    obtain⟨h1,rfl⟩:=heq;split at hl
    ·rename_i l hl'
     simp only[KA]at hl
     subst hl;obtain⟨g1,g2,g3,g4⟩:=Qi8 (.inl ⟨rfl,hl'⟩) (fun y hy=>hx y (by simp[hy]))
     rw[h1]at hx0;have hcell:=QfS (QR.one hx0)
     refine⟨by simp[g1],fun e he=>by rcases KI.1 he with rfl|he;rfl;exact g2 e he,fun y hy=>by rcases KI.1 hy with rfl|hy;rw[hcell];rfl;exact g3 y hy,?_⟩
     simp only[List.map_cons,List.flatten_cons,hcell]
     exact .cons hx0 g4
    ·cases hl
   ·cases hl
  ·simp only[List.map_cons]at hl
   unfold Qep at hl;split at hl
   ·rename_i heq;cases heq
   ·rename_i cs r heq
    simp only[YO]at heq
    obtain⟨h1,rfl⟩:=heq;split at hl
    ·rename_i hlen
     split at hl
     ·rename_i l hl'
      simp only[KA]at hl
      subst hl;obtain⟨g1,g2,g3,g4⟩:=Qi8 (.inr hl') (fun y hy=>hx y (by simp[hy]))
      rw[h1]at hx0;obtain⟨vs,hv,hc⟩:=hx0;refine⟨by simp[g1],fun e he=>by rcases KI.1 he with rfl|he;exact hlen;exact g2 e he,fun y hy=>?_,?_⟩
      ·rcases KI.1 hy with rfl|hy
       ·rw[hv]
        have:=Qas.length hc
        simp[Value.cells]at this ⊢
        omega
       ·exact g3 y hy
      ·simp only[List.map_cons,List.flatten_cons,hv,Value.cells]
       exact Qas.append hc g4
     ·cases hl
    ·cases hl
   ·cases hl
theorem Qap{h:Q6}{W:Bool}:∀{cs:List QI} {ds:List D} {vs:List Value},Qy cs=some ds→Qk own h s cs vs→ds.length=cs.length∧(∀x∈ds,QaO x)∧Qn W h ds vs []
 | [],ds,vs,hc,a=>by
  simp only[Qy,KA]at hc
  subst hc;cases a
  exact⟨rfl,by simp,.nil⟩
 | c::cs,ds,vs,hc,a=>by
  simp only[Qy]at hc
  split at hc
  ·rename_i x l h1 h2
   simp only[KA]at hc
   subst hc;cases a with
   | cons a1 a2=>
    obtain⟨g1,g2,g3⟩:=Qap h2 a2;cases c with
    | d y=>
     cases y with
     | v z=>
      simp only[QbR,KA]at h1
      subst h1;have:=Qwe a1
      have ho:=QR.one a1
      subst this;exact⟨by simp[g1],fun x hx=>by rcases KI.1 hx with rfl|hx;trivial;exact g2 x hx,.v ho g3⟩
     | sl=>simp[QbR]at h1
    | _=>simp[QbR]at h1
  ·cases hc
theorem Qgt{h:Q6}:∀{els:List (List QI)} {l:List (List D)} {vs:List Value},QK Qy els=some l→Qk own h s els.flatten vs→
  l.length=els.length∧(∀sz,(∀x∈els,x.length=sz)→∀x∈l,x.length=sz)∧Qbl h l.flatten vs []
 | [],l,vs,hl,a=>by
  simp only[QK,KA]at hl
  subst hl;cases a
  exact⟨rfl,by simp,.nil⟩
 | c::els,l,vs,hl,a=>by
  simp only[QK]at hl
  split at hl
  ·rename_i x l' h1 h2
   simp only[KA]at hl
   subst hl;simp only[List.flatten_cons]at a
   have a1:=Qas.take a c.length
   have a2:=Qas.drop a c.length
   rw[List.take_left]at a1;rw[List.drop_left]at a2;obtain⟨g1,_,g2⟩:=Qap (W:=false) h1 a1;obtain⟨k1,k2,k3⟩:=Qgt h2 a2;refine⟨by simp[k1],fun sz hs y hy=>?_,?_⟩
   ·rcases KI.1 hy with rfl|hy
    ·rw[g1];exact hs c (by simp)
    ·exact k2 sz (fun z hz=>hs z (by simp[hz])) y hy
   ·have:=Qn.append g2 k3
    rw[Kr]at this;simpa using this
  ·cases hl
theorem QaR{h:Q6}{f:List QI→Option (List D)}(hf:∀cs ds vs,f cs=some ds→Qk own h s cs vs→ds.length=cs.length∧∃F,Qbl h ds vs F∧∀b∈F,Imm own h b):∀{els:List (List QI)} {l:List (List D)} {vs:List Value},QK f els=some l→Qk own h s els.flatten vs→
  l.length=els.length∧(∀sz,(∀x∈els,x.length=sz)→∀x∈l,x.length=sz)∧∃F,Qbl h l.flatten vs F∧∀b∈F,Imm own h b
 | [],l,vs,hl,a=>by
  simp only[QK,KA]at hl
  subst hl;cases a
  exact⟨rfl,by simp,[],.nil,by simp⟩
 | c::els,l,vs,hl,a=>by
  simp only[QK]at hl
  split at hl
  ·rename_i x l' h1 h2
   simp only[KA]at hl
   subst hl;simp only[List.flatten_cons]at a
   have a1:=Qas.take a c.length
   have a2:=Qas.drop a c.length
   rw[List.take_left]at a1;rw[List.drop_left]at a2;obtain⟨g1,F,g2,g3⟩:=hf c x _ h1 a1;obtain⟨k1,k2,G,k3,k4⟩:=QaR hf h2 a2;refine⟨by simp[k1],fun sz hs y hy=>?_,F++G,?_,fun b hb=>?_⟩
   ·rcases KI.1 hy with rfl|hy
    ·rw[g1];exact hs c (by simp)
    ·exact k2 sz (fun z hz=>hs z (by simp[hz])) y hy
   ·have:=Qn.append g2 k3
    rw[Kr]at this;simpa using this
   ·rcases KG.1 hb with hb|hb
    ·exact g3 b hb
    ·exact k4 b hb
  ·cases hl
theorem QbB{h:Q6}:∀{cs:List QI} {ds:List D} {vs:List Value},Qao cs=some ds→Qk own h s cs vs→ds.length=cs.length∧∃F,Qbl h ds vs F∧∀b∈F,Imm own h b
 | [],ds,vs,hc,a=>by
  simp only[Qao,KA]at hc
  subst hc;cases a
  exact⟨rfl,[],.nil,by simp⟩
 | c::cs,ds,vs,hc,a=>by
  simp only[Qao]at hc
  split at hc
  ·rename_i x l h1 h2
   simp only[KA]at hc
   subst hc;cases a with
   | @cons _ v _ vs a1 a2=>
    obtain⟨g1,G,g2,g3⟩:=QbB h2 a2;have:∃F,Qbl h [x] [v] F∧∀b∈F,Imm own h b:=by
     cases c with
     | d y=>simp only[QbO,KA]at h1;subst h1;exact a1
     | n y=>simp only[QbO,KA]at h1;subst h1;obtain⟨F,r,hF⟩:=a1;exact⟨F,r,fun b hb=>(hF b hb).1⟩
     | _=>simp[QbO]at h1
    obtain⟨F,f1,f2⟩:=this;refine⟨by simp[g1],F++G,f1.cons g2,fun b hb=>?_⟩
    rcases KG.1 hb with hb|hb
    ·exact f2 b hb
    ·exact g3 b hb
  ·cases hc
theorem Qww{t:TypeId}{n:Nat}{ps:Array (Nat×Operand)}(hty:∀t y,T.ty t=some y→Qb9 X.P t y)(c:Qt X own s a w)(hd:∀x,dst=some x→X.dok x=true)(hdd:d=dst.getD 0)(hfr:fresh=true→Qr s dst=true)
  (hx:∀q∈ps,QM own w.heap s (ρ q.2) (a.eval q.2)) (hf:Qka T d ρ fresh im t n ps=some (p,v)) (hp:p):QbE X s a w ⟨dst,.buildSlice t n ps,type,pos,after,guard⟩ v []:=by
 unfold Qka at hf;split at hf
 ·rename_i e _ hyt
  have hu:=(hty t _ hyt).2.2.2.2
  simp only at hu
  split at hf
  ·rename_i y hye
   have hyo:=hty e y hye
   have run:∀(els:List (List QI)),((y.size=1∧Qeq ((ps.toList.map (·.2)).map ρ)=some els)∨Qep y.size ((ps.toList.map (·.2)).map ρ)=some els)→ps.toList.map (·.1)=List.range n→n*y.size≤16777216→0<y.size→
     ∃r:Array Value,(execOp a.eval ⟨dst,.buildSlice t n ps,type,pos,after,guard⟩).run X.P w= .ok (.value (.slice (some ⟨w.heap.size,0,none⟩) n n)) (w.alloc (.cells r e))∧els.length=n∧n≤maxLen∧
      r.size=n*y.size∧(∀e∈els,e.length=y.size)∧Qk own w.heap s els.flatten r.toList:=fun els hl hidx hle hpos=>by
    obtain⟨g1,g2,g3,g4⟩:=Qi8 (own:=own) (h:=w.heap) (s:=s) (ev:=a.eval) hl (fun x hx'=>by
     obtain⟨q,hq,rfl⟩:=KQ.1 hx';exact hx q (by simpa using hq))
    have hn:ps.toList.length=n:=by have:=congrArg List.length hidx;simpa using this
    simp only[KV]at g1
    have hzip:(ps.map fun(q:Nat×Operand)=>(q.1,a.eval q.2)).toList=(List.range' 0 (ps.toList.map fun q=>a.eval q.2).length).zip (ps.toList.map fun q=>a.eval q.2):=by
     rw[KV,hn,←List.range_eq_range',←hidx];simp only[Array.toList_map]
     generalize ps.toList=L;induction L with
     | nil=>rfl
     | cons q L ih=>simp[ih]
    obtain⟨z,hz1,hz2⟩:=hyo.zeroV w;obtain⟨r,f1,f2⟩:=Qqi y.size n (ps.toList.map fun q=>a.eval q.2) 0 ((Array.range (n*y.size)).map (fun i=>(if n*y.size=0 then #[]else z.cells)[i%(if n*y.size=0 then #[]else z.cells).size]!)) (by simp) (by simp[hn]) (fun x hx'=>by
     obtain⟨q,hq,rfl⟩:=KQ.1 hx';exact g3 q.2 (KQ.2 ⟨q,hq,rfl⟩))
    have hrl:r.toList=((ps.toList.map (·.2)).map fun x=>(a.eval x).cells.toList).flatten:=by
     rw[f2];simp[hn,List.map_map,Function.comp_def]
    have hrun:(execOp a.eval ⟨dst,.buildSlice t n ps,type,pos,after,guard⟩).run X.P w= .ok (.value (.slice (some ⟨w.heap.size,0,none⟩) n n)) (w.alloc (.cells r e)):=by
     have hle':¬n*y.size>2^24:=by simp;omega
     simp only[execOp,Instr.buildSlice,Sem.run_bind,run_underlying hu.1,Result.andThen_ok,hyo.size]
     rw[if_neg hle'];simp only[hzip]
     by_cases h0:n*y.size=0
     ·simp only[h0,if_true]at f1 ⊢
      simp only[Sem.run_pure,Result.andThen_ok,Sem.run_bind]
      rw[f1];simp[newRow]
     ·simp only[h0,if_false]at f1 ⊢
      simp only[Sem.run_pure,Result.andThen_ok,Sem.run_bind,hz1]
      rw[f1];simp[newRow]
    refine⟨r,hrun,by rw[g1,hn],?_,?_,g2,by rw[hrl];exact g4⟩
    ·have:n≤n*y.size:=Nat.le_mul_of_pos_right n hpos
     unfold maxLen;omega
    ·have h4:els.flatten.length=r.toList.length:=by rw[hrl];exact Qas.length g4
     have h5:=QaT els y.size g2
     rw[h5,g1,hn]at h4;simpa using h4.symm
   have key:∀(els:List (List QI)),((y.size=1∧Qeq ((ps.toList.map (·.2)).map ρ)=some els)∨Qep y.size ((ps.toList.map (·.2)).map ρ)=some els)→ps.toList.map (·.1)=List.range n→n*y.size≤16777216→0<y.size→fresh=true→
     QbE X s a w ⟨dst,.buildSlice t n ps,type,pos,after,guard⟩ (.lit (d,0) y.size els) []:=fun els hl hidx hle hpos hfresh=>by
    obtain⟨r,hrun,q1,q2,q3,q4,q5⟩:=run els hl hidx hle hpos;obtain⟨dd,rfl,hfs⟩:=Qau (hfr hfresh);obtain rfl:d=dd:=hdd;refine QbE.of_value (own':=QcY own (d,0) [w.heap.size]) hrun ?_
    refine c.newObj hfs (hd d rfl) rfl rfl rfl rfl (.inl rfl) fun k=>?_
    exact⟨rfl,St.put_dst s d _ _,fun _=>⟨w.heap.size,r,e,by rw[q1],QaC _ _,heap_alloc_new w _,by rw[q1];exact q3,by rw[q1];exact q2,q4,Qk.keep k q5⟩⟩
   have keyI:∀(els:List (List QI)) (l:List (List D)),((y.size=1∧Qeq ((ps.toList.map (·.2)).map ρ)=some els)∨Qep y.size ((ps.toList.map (·.2)).map ρ)=some els)→ps.toList.map (·.1)=List.range n→n*y.size≤16777216→0<y.size→QK Qy els=some l→
     QbE X s a w ⟨dst,.buildSlice t n ps,type,pos,after,guard⟩ (.one (.n (.sl y.size l))) []:=fun els l hl hidx hle hpos hsc=>by
    obtain⟨r,hrun,q1,q2,q3,q4,q5⟩:=run els hl hidx hle hpos;refine QbE.of_value (own':=own) hrun ?_
    have hold:∀b,b<w.heap.size→(w.heap.push (.cells r e))[b]? =w.heap[b]? :=fun b hb=>by rw[Array.getElem?_push,if_neg (by omega)]
    have hsz:(w.heap.push (.cells r e)).size=w.heap.size+1:=by simp
    have k:Qav own own w.heap (w.heap.push (.cells r e)) s (s.put dst (.one (.n (.sl y.size l))) []):=by
     refine⟨St.put_bs _ _ _ _,fun b hb=>⟨⟨by have:=hb.1;omega,hb.2⟩,hold b hb.1⟩,St.put_row s dst _ [],fun id hid=>?_,fun id _ _ _ _ _ _ _ h1 h2=>Qeu h1 h2 (.inl (by rw[St.put_ob];rfl))⟩
     rw[St.put_ob];exact .same _ rfl fun b hb=>hold b (c.lt id b hb).1
    refine c.turn k rfl rfl rfl (by show w.heap.size≤(w.heap.push (.cells r e)).size;omega) hd (fun id b hb=>?_) c.nodup c.disj (fun id=>?_) ?_
    ·have:=c.lt id b hb
     refine⟨?_,this.2⟩
     show b<(w.heap.push (.cells r e)).size
     omega
    ·exact Qc4.keep k (by rw[St.put_ob];rfl) rfl (fun b hb=>hold b (c.lt id b hb).1) (c.obs id)
    ·obtain⟨k1,k2,k3⟩:=Qgt hsc (Qk.keep k q5)
     have hln:l.length=n:=by rw[k1,q1]
     refine⟨w.heap.size::([]++[]),?_,fun b hb=>?_⟩
     ·subst hln
      refine Qn.sl (off:=0) (fz:=(0,0)) (e:=e) (c:=r) (fun h=>nomatch h) (by show(w.heap.push (.cells r e))[w.heap.size]? =_;simp) (KP _) q2 (by omega) (k2 y.size q4) ?_ .nil
      rw[K1,Kj (by simp;omega)]
      exact k3
     ·simp only[KM,KH]at hb
      subst hb;refine⟨⟨?_,fun id hm=>?_,c.nhN c.grow⟩,?_⟩
      ·show w.heap.size<(w.heap.push (.cells r e)).size
       omega
      ·have:=(c.lt id _ hm).1
       omega
      ·rw[St.put_bs];exact c.bsle _ c.grow
   have keyJ:∀(els:List (List QI)) (l:List (List D)),((y.size=1∧Qeq ((ps.toList.map (·.2)).map ρ)=some els)∨Qep y.size ((ps.toList.map (·.2)).map ρ)=some els)→ps.toList.map (·.1)=List.range n→n*y.size≤16777216→0<y.size→QK Qao els=some l→
     QbE X s a w ⟨dst,.buildSlice t n ps,type,pos,after,guard⟩ (.one (.d (.sl y.size l))) []:=fun els l hl hidx hle hpos hsc=>by
    obtain⟨r,hrun,q1,q2,q3,q4,q5⟩:=run els hl hidx hle hpos;refine QbE.of_value (own':=own) hrun ?_
    have hold:∀b,b<w.heap.size→(w.heap.push (.cells r e))[b]? =w.heap[b]? :=fun b hb=>by rw[Array.getElem?_push,if_neg (by omega)]
    have hsz:(w.heap.push (.cells r e)).size=w.heap.size+1:=by simp
    have k:Qav own own w.heap (w.heap.push (.cells r e)) s (s.put dst (.one (.d (.sl y.size l))) []):=by
     refine⟨St.put_bs _ _ _ _,fun b hb=>⟨⟨by have:=hb.1;omega,hb.2⟩,hold b hb.1⟩,St.put_row s dst _ [],fun id hid=>?_,fun id _ _ _ _ _ _ _ h1 h2=>Qeu h1 h2 (.inl (by rw[St.put_ob];rfl))⟩
     rw[St.put_ob];exact .same _ rfl fun b hb=>hold b (c.lt id b hb).1
    refine c.turn k rfl rfl rfl (by show w.heap.size≤(w.heap.push (.cells r e)).size;omega) hd (fun id b hb=>?_) c.nodup c.disj (fun id=>?_) ?_
    ·have:=c.lt id b hb
     refine⟨?_,this.2⟩
     show b<(w.heap.push (.cells r e)).size
     omega
    ·exact Qc4.keep k (by rw[St.put_ob];rfl) rfl (fun b hb=>hold b (c.lt id b hb).1) (c.obs id)
    ·obtain⟨k1,k2,F,k3,k4⟩:=QaR (f:=Qao) (fun _ _ _ h1 h2=>QbB h1 h2) hsc (Qk.keep k q5)
     have hln:l.length=n:=by rw[k1,q1]
     refine⟨w.heap.size::(F++[]),?_,fun b hb=>?_⟩
     ·subst hln
      refine Qn.sl (off:=0) (fz:=(0,0)) (e:=e) (c:=r) (fun h=>nomatch h) (by show(w.heap.push (.cells r e))[w.heap.size]? =_;simp) (KP _) q2 (by omega) (k2 y.size q4) ?_ .nil
      rw[K1,Kj (by simp;omega)]
      exact k3
     ·simp only[KM,KI]at hb
      rcases hb with rfl|hb
      ·refine⟨?_,fun id hm=>?_,c.nhN c.grow⟩
       ·show w.heap.size<(w.heap.push (.cells r e)).size
        omega
       ·have:=(c.lt id _ hm).1
        omega
      ·exact k4 b hb
   have key2:∀(els:List (List QI)),((y.size=1∧Qeq ((ps.toList.map (·.2)).map ρ)=some els)∨Qep y.size ((ps.toList.map (·.2)).map ρ)=some els)→ps.toList.map (·.1)=List.range n→n*y.size≤16777216→0<y.size→QDO d y.size fresh im els=some (p,v)→
     QbE X s a w ⟨dst,.buildSlice t n ps,type,pos,after,guard⟩ v []:=fun els hl hidx hle hpos hf=>by
    unfold QDO at hf;split at hf
    ·split at hf
     ·rename_i l hsc
      simp only[KA,KC]at hf
      obtain⟨_,rfl⟩:=hf;exact keyI els l hl hidx hle hpos hsc
     ·split at hf
      ·rename_i l hsc
       simp only[KA,KC]at hf
       obtain⟨_,rfl⟩:=hf;exact keyJ els l hl hidx hle hpos hsc
      ·simp only[KA,KC]at hf
       obtain⟨rfl,rfl⟩:=hf;exact key els hl hidx hle hpos hp
    ·simp only[KA,KC]at hf
     obtain⟨rfl,rfl⟩:=hf;exact key els hl hidx hle hpos hp
   split at hf
   ·rename_i hc
    obtain⟨hc1,hc2,hc3,hc4,hc5⟩:=hc;split at hf
    ·rename_i els hl
     exact key2 els (.inl ⟨hc2,hl⟩) hc3 hc4 hc5 (by rw[hc2];exact hf)
    ·cases hf
   ·split at hf
    ·rename_i hc
     obtain⟨hc3,hc4,hc5⟩:=hc;split at hf
     ·rename_i els hl
      exact key2 els (.inr hl) hc3 hc4 hc5 hf
     ·cases hf
    ·cases hf
  ·cases hf
 ·cases hf
theorem Qn.scalUp{h:Q6}{W W':Bool}:∀{M:List D} {vs:List Value} {F:List Nat},Qn W h M vs F→(∀x∈M,QaO x)→Qn W' h M vs F
 | [],vs,F,r,_=>by
  cases r;exact .nil
 | .v z::M,vs,F,r,hM=>by
  cases r with|v q r=>exact .v q (r.scalUp fun x hx=>hM x (by simp[hx]))
 | .sl a b::M,vs,F,r,hM=>False.elim (hM (.sl a b) (by simp))
theorem QnJ:∀{cs:List QI} {ds:List D},Qy cs=some ds→∀z∈ds,QaO z
 | [],ds,h=>by simp only[Qy,KA]at h;subst h;simp
 | c1::cs,ds,h=>by
  simp only[Qy]at h
  split at h
  ·rename_i y ys f1 f2
   simp only[KA]at h
   subst h;intro z hz;rcases KI.1 hz with rfl|hz
   ·cases c1 with
    | d y=>cases y<;>simp[QbR]at f1;subst f1;trivial
    | _=>simp[QbR]at f1
   ·exact QnJ f2 z hz
  ·cases h
theorem Qre:∀{els:List (List QI)} {l:List (List D)},QK Qy els=some l→∀z∈l.flatten,QaO z
 | [],l,h1=>by simp only[QK,KA]at h1;subst h1;simp
 | cc::els,l,h1=>by
  simp only[QK]at h1
  split at h1
  ·rename_i z l' e1 e2
   simp only[KA]at h1
   subst h1;intro z hz;simp only[List.flatten_cons,KG]at hz
   rcases hz with hz|hz
   ·exact QnJ e1 z hz
   ·exact Qre e2 z hz
  ·cases h1
theorem QyX{h:Q6}{av:AV}{u:Value}(a:QM own h s av u):QM own h s (Qpk s.ob av) u:=by
 unfold Qpk;split
 ·rename_i id sz els
  split
  ·rename_i ho hl
   obtain⟨_,h1,h2⟩:=a;obtain⟨b,c,e,g1,g2,g3,g4,g5,g6,g7⟩:=h2 ho;obtain⟨k1,k2,k3⟩:=Qgt hl g7;refine⟨by rw[g1];rfl,h1,fun _=> .inr ⟨b,els.length,by rw[g1,k1],c,e,[],by rw[g2];rfl,g3,by omega,g5,g4,k2 sz g6,?_,fun h=>by cases h⟩⟩
   rw[k1,Kj (by simp;omega)]
   exact k3.scalUp (Qre hl)
  ·exact a
 ·exact a
theorem Qmq{t:TypeId}{n:Nat}{ps:Array (Nat×Operand)}(hty:∀t y,T.ty t=some y→Qb9 X.P t y)(c:Qt X own s a w)(hd:∀x,dst=some x→X.dok x=true)(hdd:d=dst.getD 0)(hfr:fresh=true→Qr s dst=true)
  (hx:∀q∈ps,QM own w.heap s (ρ q.2) (a.eval q.2)) (hf:opR T d ρ s.ob fresh im (.buildSlice t n ps)=some (p,v)) (hp:p):QbE X s a w ⟨dst,.buildSlice t n ps,type,pos,after,guard⟩ v []:=
 Qww (ρ:=fun x=>Qpk s.ob (ρ x)) hty c hd hdd hfr (fun q hq=>QyX (hx q hq)) hf hp
theorem Qgl{α β:Type}{P:Program}{f:α→Sem β}{g:α→β}(w:World):∀(l:List α),(∀x∈l,(f x).run P w= .ok (g x) w)→(l.mapM f).run P w= .ok (l.map g) w
 | [],_=>by simp
 | x::l,h=>by
  simp only[List.mapM_cons,Sem.run_bind,h x (by simp),Result.andThen_ok,Qgl w l (fun y hy=>h y (by simp[hy])),Sem.run_pure,List.map_cons]
theorem Qkb{h:Q6}{ev:Operand→Value}{fs:List (Nat×TypeId)}{place:Nat→Option (Nat×Nat)}(hty:∀t y,T.ty t=some y→Qb9 X.P t y)
  (hpl:∀i off ft y,fs[i]? =some (off,ft)→T.ty ft=some y→place i=some (off,y.size)):∀{is:List Nat} {xs:List Operand} {cs:List QI} {p:Prop} {v:AV} {cells:Array Value},is.length=xs.length→
  Qcn T fs cs is (xs.map ρ)=some (p,v)→(∀x∈xs,QM own h s (ρ x) (ev x))→Qk own h s cs cells.toList→
  ∃r cs',Instr.fill place cells (is.zip (xs.map ev))=some r∧v= .agg cs'∧Qk own h s cs' r.toList
 | [],[],cs,p,v,cells,_,hb,_,hc=>by
  simp only[Qcn,List.map_nil,KA,KC]at hb
  obtain⟨_,rfl⟩:=hb;exact⟨cells,cs,rfl,rfl,hc⟩
 | i::is,x::xs,cs,p,v,cells,hl,hb,hx,hc=>by
  simp only[List.map_cons]at hb
  unfold Qcn at hb;split at hb
  ·rename_i off ft hf
   split at hb
   ·rename_i y hy
    split at hb
    ·rename_i new hnew
     split at hb
     ·rename_i hle
      have hcx:=Qdd hnew (hx x (by simp))
      have hlx:=Qas.length hcx
      have hlc:=Qas.length hc
      simp at hlx hlc
      obtain⟨c',e1,e2⟩:=Qqh place cells i off y.size (ev x) (is.zip (xs.map ev)) (hpl i off ft y hf hy) (by omega) (by omega)
      have hc':Qk own h s (cs.take off++new++cs.drop (off+new.length)) c'.toList:=by
       rw[e2,←hle.1];exact Qas.append (Qas.append (Qas.take hc off) hcx) (Qas.drop hc _)
      obtain⟨r,cs',f1,f2,f3⟩:=Qkb hty hpl (by simpa using hl) hb (fun z hz=>hx z (by simp[hz])) hc'
      exact⟨r,cs',by simp only[List.map_cons,List.zip_cons_cons,e1];exact f1,f2,f3⟩
     ·cases hb
    ·cases hb
   ·cases hb
  ·cases hb
 | [],_::_,_,_,_,_,hl,_,_,_=>by simp at hl
 | _::_,[],_,_,_,_,hl,_,_,_=>by simp at hl
theorem Qha{h:Q6}:∀{z:List Value},(∀v∈z,v.oneCell'=true)→Qk own h s (z.map fun v=>QI.d (.v v)) z
 | [],_=> .nil
 | v::z,h3=> .cons (Qzi v (h3 v (by simp))) (Qha fun x hx=>h3 x (by simp[hx]))
theorem QzZ{t:TypeId}{ps:Array (Nat×Operand)}(hty:∀t y,T.ty t=some y→Qb9 X.P t y)(hx:∀q∈ps,QM own w.heap s (ρ q.2) (a.eval q.2))(hf:opR T d ρ s.ob fresh im (.build t ps)=some (p,v)):
  Q3 X.P own w.heap s ⟨dst,.build t ps,type,pos,after,guard⟩ a.eval w v:=by
 unfold opR at hf;dsimp only at hf;split at hf
 ·rename_i sz by' ag eq fs z hyt
  split at hf
  ·cases hf
  ·rename_i hall
   have hall':∀f∈fs,∃y,T.ty f.2=some y:=by
    intro f hf';have:fs.all (fun f=>(T.ty f.2).isSome)=true:=by
     cases hb:fs.all (fun f=>(T.ty f.2).isSome)with
     | true=>rfl
     | false=>exact absurd hb hall
    exact Option.isSome_iff_exists.1 (Kg.1 this f hf')
   have hyo:=hty t _ hyt
   obtain⟨⟨F,hu,hF⟩,_⟩:=hyo.2.2.2.2;obtain⟨zv,hz1,hz2⟩:=hyo.zeroV w;have hF':F.toList.map (fun f=>(f.offset,f.type))=fs:=hF
   have hm:(F.mapM fun(f:Field)=>(do pure (f.offset,←sizeOf f.type):Sem (Nat×Nat))).run X.P w= .ok (F.toList.map fun f=>(f.offset,((T.ty f.type).map (·.size)).getD 0)).toArray w:=by
    rw[Array.mapM_eq_mapM_toList];simp only[Sem.run_map]
    rw[Qgl (g:=fun(f:Field)=>(f.offset,((T.ty f.type).map (·.size)).getD 0)) w F.toList (fun f hf'=>?_)]
    ·rfl
    ·obtain⟨y,hy⟩:=hall' (f.offset,f.type) (by rw[←hF'];exact KQ.2 ⟨f,hf',rfl⟩)
     simp only[Sem.run_bind,(hty _ y hy).size,Result.andThen_ok,Sem.run_pure,hy,Option.map_some,YF]
   have hpl:∀i off ft y,fs[i]? =some (off,ft)→T.ty ft=some y→((F.toList.map fun f=>(f.offset,((T.ty f.type).map (·.size)).getD 0)).toArray[i]?)=some (off,y.size):=fun i off ft y h1 h2=>by
    rw[←hF',YG]at h1;cases hfi:F.toList[i]? with
    | none=>rw[hfi]at h1;cases h1
    | some f=>
     rw[hfi]at h1;simp only[Option.map_some,KA,KC]at h1
     have hfi':F[i]? =some f:=by simpa using hfi
     rw[List.getElem?_toArray,YG,hfi,Option.map_some,h1.1,h1.2,h2];rfl
   have hzc:Qk own w.heap s (z.map fun v=>QI.d (.v v)) zv.cells.toList:=by
    rw[hz2];exact Qha hyo.2.2.1
   obtain⟨r,cs',f1,rfl,f3⟩:=Qkb (X:=X) (T:=T) (ρ:=ρ) (own:=own) (s:=s) (h:=w.heap) (ev:=a.eval) hty hpl (by simp) hf (fun x hx'=>by
    obtain⟨q,hq,rfl⟩:=KQ.1 hx';exact hx q (by simpa using hq)) hzc
   refine⟨.agg r,?_,r,rfl,f3⟩
   have hzip:(ps.map fun(q:Nat×Operand)=>(q.1,a.eval q.2)).toList=(ps.toList.map (·.1)).zip ((ps.toList.map (·.2)).map a.eval):=by
    simp only[Array.toList_map]
    generalize ps.toList=L;induction L with
    | nil=>rfl
    | cons q L ih=>simp[ih]
   simp only[execOp,Instr.build,Sem.run_bind,hz1,Result.andThen_ok,run_underlying hu,hm,hzip,f1,Sem.run_pure]
 ·cases hf
end
end
section
variable {hd:Hid}
def Qar(h:Q6)(m F:List Nat)(sz:Nat)(l:List (List D))(dp:Nat)(v:Value):Prop:=
 (v= .slice none 0 0∧l=[]∧m=[]∧F=[])∨
 ∃b cap c e G,v= .slice (some ⟨b,0,none⟩) l.length cap∧m=b::(if dp=0 then []else G)∧F=(if dp=0 then G else [])∧h[b]? =some (.cells c e (0,0))∧l.length≤cap∧cap≤maxLen∧c.size=cap*sz∧
  (∀x∈l,x.length=sz)∧Qn (dp !=0) h l.flatten (c.toList.take (l.length*sz)) G
theorem Qar.of_ok{own:Id→List Nat}{h:Q6}{id:Id}{sz:Nat}{l:List (List D)}{dp:Nat}{v:Value}(a:QaX own h id sz l dp v):∃F,Qar h (own id) F sz l dp v∧∀x∈F,Imm own h x:=by
 rcases a with⟨h1,h2,h3⟩|⟨b,cap,h1,c,e,G,a1,a2,a3,a4,a5,a6,a7,a8⟩
 ·exact⟨[],.inl ⟨h1,h2,h3,rfl⟩,by simp⟩
 ·refine⟨_,.inr ⟨b,cap,c,e,G,h1,a1,rfl,a2,a3,a4,a5,a6,a7⟩,fun x hx=>?_⟩
  split at hx
  ·exact a8 ‹_› x hx
  ·cases hx
theorem Qar.to_ok{own:Id→List Nat}{h:Q6}{id:Id}{F:List Nat}{sz:Nat}{l:List (List D)}{dp:Nat}{v:Value}(a:Qar h (own id) F sz l dp v)(hF:∀x∈F,Imm own h x):QaX own h id sz l dp v:=by
 rcases a with⟨h1,h2,h3,_⟩|⟨b,cap,c,e,G,h1,a1,rfl,a2,a3,a4,a5,a6,a7⟩
 ·exact .inl ⟨h1,h2,h3⟩
 ·exact .inr ⟨b,cap,h1,c,e,G,a1,a2,a3,a4,a5,a6,a7,fun h0 x hx=>hF x (by rw[if_pos h0];exact hx)⟩
theorem Qar.lt{h:Q6}{m F:List Nat}{sz:Nat}{l:List (List D)}{dp:Nat}{v:Value}(a:Qar h m F sz l dp v):(∀b∈m,b<h.size)∧∀b∈F,b<h.size:=by
 rcases a with⟨_,_,rfl,rfl⟩|⟨b,cap,c,e,G,h1,rfl,rfl,a2,a3,a4,a5,a6,a7⟩
 ·simp
 ·have hb:=(Kb.1 a2).1
  have hG:=a7.lt
  constructor
  ·intro x hx
   rcases KI.1 hx with rfl|hx
   ·exact hb
   ·split at hx
    ·cases hx
    ·exact hG x hx
  ·intro x hx
   split at hx
   ·exact hG x hx
   ·cases hx
theorem Qar.reps{h:Q6}{m F:List Nat}{sz:Nat}{l:List (List D)}{dp:Nat}{v:Value}(a:Qar h m F sz l dp v):∃F',Qbl h [.sl sz l] [v] F'∧∀b∈F',b∈m∨b∈F:=by
 rcases a with⟨rfl,rfl,rfl,rfl⟩|⟨b,cap,c,e,G,rfl,rfl,rfl,a2,a3,a4,a5,a6,a7⟩
 ·exact⟨[],.none (fun h=>nomatch h) .nil,by simp⟩
 ·refine⟨b::(G++[]),.sl (fun h=>nomatch h) a2 a3 a4 (by have:=Ka sz a3;omega) a6 (by simpa using a7.weak) .nil,fun x hx=>?_⟩
  simp only[KM,KI]at hx
  rcases hx with rfl|hx
  ·left;simp
  ·by_cases hd:dp=0
   ·right;simp[hd,hx]
   ·left;simp[hd,hx]
inductive Qc5(h:Q6):List (D ⊕ (Nat×List (List D)×Nat))→List Value→List Nat→List (List Nat)→Prop
  | nil:Qc5 h [] [] [] []
  | d {x v F l vs G ms}:Qbl h [x] [v] F→Qc5 h l vs G ms→Qc5 h (.inl x::l) (v::vs) (F++G) ms
  | arr {s r dp v m l vs G ms}:Qar h m [] s r dp v→dp≠0→Qc5 h l vs G ms→Qc5 h (.inr (s,r,dp)::l) (v::vs) G (m::ms)
inductive Qbi(h:Q6):Arg→Value→List Nat→List (List Nat)→Prop
  | one {d v F}:Qbl h [d] [v] F→Qbi h (.one d) v F []
  | agg {ds vs F}:Qbl h ds vs F→Qbi h (.agg ds) (.agg vs.toArray) F []
  | ptr {ds b off c e fz F}:h[b]? =some (.cells c e fz)→off+ds.length≤c.size→Qbl h ds ((c.toList.drop off).take ds.length) F→Qbi h (.ptr ds) (.pointer (some ⟨b,off,none⟩)) (b::F) []
  | fnc {f l vs F}:Qd2 h l vs F→Qbi h (.fnc f l) (.func (.func f) #[] vs.toArray) F []
  | arr {s l dp v m}:Qar h m [] s l dp v→dp≠0→Qbi h (.arr s l dp) v [] [m]
  | box {ds b c e F}:h[b]? =some (.cells c e (0,0))→Qbl h ds c.toList F→Qbi h (.box ds) (.pointer (some ⟨b,0,none⟩)) F [[b]]
  | mag {l vs F ms}:Qc5 h l vs F ms→Qbi h (.mag l) (.agg vs.toArray) F ms
  | mbx {l b c e F ms}:h[b]? =some (.cells c e (0,0))→Qc5 h l c.toList F ms→Qbi h (.mbx l) (.pointer (some ⟨b,0,none⟩)) F ([b]::ms)
  | gone {v}:Qbi h .gone v [] []
inductive Q5(h:Q6):List Arg→List Value→List Nat→List (List Nat)→Prop
  | nil:Q5 h [] [] [] []
  | cons {x v F ms l vs G ns}:Qbi h x v F ms→Q5 h l vs G ns→Q5 h (x::l) (v::vs) (F++G) (ms++ns)
inductive QaN(h:Q6):List RC→List Value→List Nat→List (List Nat)→Prop
  | nil:QaN h [] [] [] []
  | d {x v F l vs G os}:Qbl h [x] [v] F→QaN h l vs G os→QaN h (.d x::l) (v::vs) (F++G) os
  | own {s r dp v m F l vs G os}:Qar h m F s r dp v→QaN h l vs G os→QaN h (.own s r dp::l) (v::vs) (F++G) (m::os)
  | box {ds b c e F l vs G os}:h[b]? =some (.cells c e (0,0))→Qbl h ds c.toList F→QaN h l vs G os→QaN h (.box ds::l) (.pointer (some ⟨b,0,none⟩)::vs) (F++G) ([b]::os)
def QnW(h:Q6)(r:RV)(v:Value)(F:List Nat)(os:List (List Nat)):Prop:=
 if r.agg then ∃vs,v= .agg vs∧QaN h r.cs vs.toList F os else QaN h r.cs [v] F os
inductive QkY(h:Q6):List RV→List Value→List Nat→List (List Nat)→Prop
  | nil:QkY h [] [] [] []
  | cons {r v F os l vs G ps}:QnW h r v F os→QkY h l vs G ps→QkY h (r::l) (v::vs) (F++G) (os++ps)
def QbF(h:Q6)(rs:List RV)(v:Value)(F:List Nat)(os:List (List Nat)):Prop:=
 match rs with
 | []=>F=[]∧os=[]
 | [r]=>QnW h r v F os
 | rs=>∃vs,v= .tuple vs∧QkY h rs vs.toList F os
def Qe6(P:Program)(f:FuncId):Prop:=∃fn,P.funcs[f]? =some fn∧(fn.name== "runtime.NumGoroutine")=false∧fn.body.isNone=false
def Q0:List Bool→List Value→List Value
 | _,[]=>[]
 | ms,v::r=>if ms.headD false then v::Q0 ms.tail r else Q0 ms.tail r
structure Qd3(alias:Bool)(w w':World)(F:List Nat)(Ms:List (List Nat))(mv:List Value)(rs:List RV)(ms:List Arg)(v:Value):Prop where
  os:w'.os=w.os
  tape:w'.tape=w.tape
  output:w'.output=w.output
  grow:w.heap.size≤w'.heap.size
  old:∀b,b<w.heap.size→b∉Ms.flatten→w'.heap[b]? =w.heap[b]?
  res:∃F' os F2 Ms',QbF w'.heap rs v F' os∧Q5 w'.heap ms mv F2 Ms'∧os.flatten.Nodup∧(∀b∈os.flatten,(w.heap.size≤b∨(alias=true∧b∈Ms.flatten))∧b<w'.heap.size)∧
    (∀b∈F',b<w'.heap.size∧b∉os.flatten∧b∉Ms'.flatten∧(w.heap.size≤b∨(alias=true∧b∈F)))∧
    Ms'.flatten.Nodup∧(∀b∈Ms'.flatten,b<w'.heap.size∧b∉os.flatten∧(w.heap.size≤b∨b∈Ms.flatten))∧
    (∀b∈F2,b<w'.heap.size∧b∉os.flatten∧b∉Ms'.flatten∧(w.heap.size≤b∨b∈F))
def Qa(E:Env)(f:FuncId)(c:Qb):Prop:=
 Qe6 E.P f∧∀args p rs ms,c.run args=some (p,rs,ms)→p→∀(w:World) vals F Ms,Q5 w.heap args vals F Ms→Ms.flatten.Nodup→(∀b∈F,b∉Ms.flatten)→E.J w.heap→E.N≤w.heap.size→(∀b∈Ms.flatten,E.N≤b)→
  Calls E.P f vals.toArray w fun e w'=>∃v,e= .returned v∧Qd3 c.alias w w' F Ms (Q0 c.muts vals) rs ms v
structure Qcd(E:Env)(T:QS):Prop where
  ty:∀t y,T.ty t=some y→Qb9 E.P t y
  ct:∀f c,T.ct f=some c→Qa E f c
section
variable {X:Ctx} {T:QS} {own:Id→List Nat} {s:St} {w:World} {a:Act} {ρ:Operand→AV} {h:Q6}
theorem QtK(hob:∀id,Qc4 own h s id (s.ob id)):∀{caps:List Id} {l:List (List D)} {vs:List Value},Qor s.ob caps=some l→Qas (fun id u=>s.sl id.1≠ .any∧Qhe own s.ob id 0 u) caps vs→∃F,Qd2 h l vs F∧∀b∈F,b<h.size
 | [],l,vs,hc,a=>by
  simp only[Qor,KA]at hc
  subst hc;cases a
  exact⟨[],.nil,by simp⟩
 | id::caps,l,vs,hc,a=>by
  simp only[Qor]at hc
  split at hc
  ·rename_i cs l' ho hl
   split at hc
   ·rename_i ds hds
    simp only[KA]at hc
    subst hc;cases a with
    | cons a1 a2=>
     obtain⟨_,b,hb,hbo⟩:=a1;rw[ho]at hbo;have:=hob id
     rw[ho]at this;obtain⟨b',c,e,h1,h2,h3⟩:=this;have:b'=b:=by rw[h1]at hbo;simpa using hbo
     subst this;obtain⟨G,g1,g2⟩:=QtK hob hl a2;have hcd:∀{cs:List QI} {ds:List D} {us:List Value},Qcx s.ob cs=some ds→Qk own h s cs us→∃F,Qbl h ds us F:=by
      intro cs;induction cs with
      | nil=>intro ds us h1 h2;simp only[Qcx,KA]at h1;subst h1;cases h2;exact⟨[],.nil⟩
      | cons c cs ih=>
       intro ds us h1 h2;simp only[Qcx]at h1
       split at h1
       ·rename_i x l e1 e2
        simp only[KA]at h1
        subst h1;cases h2 with
        | cons h3 h4=>
         obtain⟨F1,r1,_⟩:=Qjy e1 h3;obtain⟨F2,r2⟩:=ih e2 h4;exact⟨_,r1.cons r2⟩
       ·cases h1
     obtain⟨F,r⟩:=hcd hds h3;subst hb;refine⟨_,.cons h2 r g1,fun x hx=>?_⟩
     rcases KI.1 hx with rfl|hx
     ·exact(Kb.1 h2).1
     ·rcases KG.1 hx with hx|hx
      ·exact r.lt x hx
      ·exact g2 x hx
   ·cases hc
  ·cases hc
theorem QiA:∀{cs:List QI} {ds:List D} {us:List Value},Qcx s.ob cs=some ds→Qk own h s cs us→∃F,Qbl h ds us F∧(cs.all Qiy=true→∀b∈F,Imm own h b)∧(cs.all QbM=true→∀b∈F,Imm own h b∧s.bs b):=by
 intro cs;induction cs with
 | nil=>intro ds us h1 h2;simp only[Qcx,KA]at h1;subst h1;cases h2;exact⟨[],.nil,by simp,by simp⟩
 | cons c cs ih=>
  intro ds us h1 h2;simp only[Qcx]at h1
  split at h1
  ·rename_i x l e1 e2
   simp only[KA]at h1
   subst h1;cases h2 with
   | @cons _ v _ vs h3 h4=>
    obtain⟨F2,r2,i2,n2⟩:=ih e2 h4;have:∃F1,Qbl h [x] [v] F1∧(Qiy c=true→∀b∈F1,Imm own h b)∧(QbM c=true→∀b∈F1,Imm own h b∧s.bs b):=by
     cases c with
     | d y=>
      simp only[toD,KA]at e1
      subst e1;obtain⟨F,r,hF⟩:=h3;refine⟨F,r,fun _=>hF,fun hn=>?_⟩
      cases y with
      | v z=>cases r with|v _ r=>cases r;simp
      | sl=>cases hn
     | n y=>
      simp only[toD,KA]at e1
      subst e1;obtain⟨F,r,hF⟩:=h3;exact⟨F,r,fun _ b hb=>(hF b hb).1,fun _=>hF⟩
     | fn f l=>cases e1
     | _=>
      obtain⟨F,r,_⟩:=Qjy e1 h3;exact⟨F,r,fun hi=>(by cases hi),fun hi=>(by cases hi)⟩
    obtain⟨F1,r1,i1,n1⟩:=this;refine⟨F1++F2,r1.cons r2,fun hi b hb=>?_,fun hi b hb=>?_⟩
    ·simp only[List.all_cons,KB]at hi
     rcases KG.1 hb with hb|hb
     ·exact i1 hi.1 b hb
     ·exact i2 hi.2 b hb
    ·simp only[List.all_cons,KB]at hi
     rcases KG.1 hb with hb|hb
     ·exact n1 hi.1 b hb
     ·exact n2 hi.2 b hb
  ·cases h1
theorem QwP(hob:∀id,Qc4 own h s id (s.ob id)){av:AV}{x:Arg}(ha:Qfh s.ob false av=some x){v:Value}(a:QM own h s av v):
  ∃F,Qbi h x v F []∧(∀b∈F,b<h.size)∧(Qhx av=true→∀b∈F,Imm own h b)∧(Qis av=true→∀b∈F,Imm own h b∧s.bs b):=by
 cases av with
 | one c=>
  have one:∀{d:D},toD s.ob c=some d→∃F,Qbi h (.one d) v F []∧(∀b∈F,b<h.size)∧(Qhx (.one c)=true→∀b∈F,Imm own h b)∧(Qis (.one c)=true→∀b∈F,Imm own h b∧s.bs b):=fun {d} hd=>by
   obtain⟨F,r,i,n⟩:=QiA (own:=own) (s:=s) (cs:=[c]) (ds:=[d]) (us:=[v]) (by simp[Qcx,hd]) (.cons a .nil)
   exact⟨F,.one r,r.lt,fun hi=>i (by simpa [Qhx]using hi),fun hi=>n (by simpa [Qis]using hi)⟩
  simp only[Qfh,KX,if_false]at ha
  split at ha
  ·rename_i id
   split at ha
   ·rename_i cs ho
    split at ha
    ·rename_i ds hds
     simp only[KA]at ha
     subst ha;obtain⟨_,b,hb,hbo⟩:=a;rw[ho]at hbo;have:=hob id
     rw[ho]at this;obtain⟨b',c,e,h1,h2,h3⟩:=this;have:b'=b:=by rw[h1]at hbo;simpa using hbo
     subst this;obtain⟨F,r,_⟩:=QiA hds h3;subst hb;have hlen:ds.length=c.toList.length:=r.length
     refine⟨_,.ptr (off:=0) h2 (by simp at hlen;omega) (F:=F) ?_,fun x hx=>?_,fun hi=>(by cases hi),fun hi=>(by cases hi)⟩
     ·rw[K1,hlen,KR];exact r
     ·rcases KI.1 hx with rfl|hx
      ·exact(Kb.1 h2).1
      ·exact r.lt x hx
    ·cases ha
   ·cases ha
  ·rename_i ds
   simp only[KA]at ha
   subst ha;obtain⟨b,off,c,e,fz,F,rfl,a2,a3,a4,a5,a6⟩:=a;exact⟨_,.ptr a2 a3 a4,fun x hx=>by rcases KI.1 hx with rfl|hx;exact a5.1;exact a4.lt x hx,fun hi=>(by cases hi),fun hi=>(by cases hi)⟩
  ·rename_i f l
   simp only[KA]at ha
   subst ha;obtain⟨vs,F,rfl,g1,g2⟩:=a;exact⟨F,.fnc g1,g1.lt,fun hi=>(by cases hi),fun hi=>(by cases hi)⟩
  ·rename_i f caps
   split at ha
   ·rename_i l hl
    simp only[KA]at ha
    subst ha;obtain⟨vs,rfl,hc⟩:=a;obtain⟨F,g1,g2⟩:=QtK hob hl hc;refine⟨F,.fnc g1,g2,fun hi=>?_,fun hi=>(by cases hi)⟩
    cases caps with
    | nil=>
     simp only[Qor,KA]at hl
     subst hl;cases g1
     intro b hb;cases hb
    | cons=>cases hi
   ·cases ha
  ·split at ha
   ·rename_i d hd
    simp only[KA]at ha
    subst ha;exact one hd
   ·cases ha
 | agg cs=>
  simp only[Qfh,KX,if_false]at ha
  split at ha
  ·rename_i ds hds
   simp only[KA]at ha
   subst ha;obtain⟨vs,rfl,hc⟩:=a;obtain⟨F,r,i,n⟩:=QiA hds hc;exact⟨F,by simpa using Qbi.agg r,r.lt,fun hi=>i (by simpa [Qhx]using hi),fun hi=>n (by simpa [Qis]using hi)⟩
  ·cases ha
 | _=>simp[Qfh]at ha
end
end
section
variable {hd:Hid}
section
variable {X:Ctx} {T:QS} {own own':Id→List Nat} {s s':St} {w:World} {a:Act} {ρ:Operand→AV} {h:Q6}
theorem Qda(hob:∀id,Qc4 own h s id (s.ob id)):∀{vs:List AV} {ms:List Bool} {xs:List Arg} {vals:List Value},Qu8 ms=false→Qce s.ob ms vs=some xs→Qas (QM own h s) vs vals→
  ∃F,Q5 h xs vals F []∧(∀b∈F,b<h.size)∧(vs.all Qhx=true→∀b∈F,Imm own h b)∧(vs.all Qis=true→∀b∈F,Imm own h b∧s.bs b)
 | [],ms,xs,vals,_,hx,a=>by
  simp only[Qce,KA]at hx
  subst hx;cases a
  exact⟨[],.nil,by simp,by simp,by simp⟩
 | v::vs,ms,xs,vals,hm,hx,a=>by
  have h1:ms.headD false=false∧Qu8 ms.tail=false:=by
   cases ms with
   | nil=>exact⟨rfl,rfl⟩
   | cons m ms=>simpa [Qu8]using hm
  simp only[Qce,h1.1]at hx
  split at hx
  ·rename_i x l e1 e2
   simp only[KA]at hx
   subst hx;cases a with
   | cons a1 a2=>
    obtain⟨F,f1,f2,f3,f4⟩:=QwP hob e1 a1;obtain⟨G,g1,g2,g3,g4⟩:=Qda hob h1.2 e2 a2;refine⟨F++G,by simpa using Q5.cons f1 g1,fun b hb=>?_,fun hi b hb=>?_,fun hi b hb=>?_⟩
    ·rcases KG.1 hb with hb|hb
     ·exact f2 b hb
     ·exact g2 b hb
    ·simp only[List.all_cons,KB]at hi
     rcases KG.1 hb with hb|hb
     ·exact f3 hi.1 b hb
     ·exact g3 hi.2 b hb
    ·simp only[List.all_cons,KB]at hi
     rcases KG.1 hb with hb|hb
     ·exact f4 hi.1 b hb
     ·exact g4 hi.2 b hb
  ·cases hx
theorem Ql6{c:QI}{v:Value}(a:QR own h s c v):QR own h s (QnI c) v:=by
 unfold QnI;split
 ·obtain⟨F,r,hF⟩:=a;exact⟨F,r,fun b hb=>(hF b hb).1⟩
 ·exact a
theorem Qdq{row:Nat}{nw im:Bool}:∀{l:List RC} {k:Nat} {vs:List Value} {F:List Nat} {os:List (List Nat)},QaN h l vs F os→(∀b∈F,Imm own h b∧(nw=true→s.bs b))→
  (im=true→∀m∈os,∀b∈m,Imm own h b∧s.bs b)→(im=false→∀(j:Nat) m,os[j]? =some m→own (row,k+j)=m∧s.sl row≠ .any)→Qk own h s ((QdO row nw im k l).map QnI) vs∧Qn0 l=os.length
 | [],k,vs,F,os,r,_,_,_=>by cases r;exact⟨.nil,rfl⟩
 | .d x::l,k,vs,F,os,r,hF,hi,ho=>by
  cases r with
  | @d _ v F1 _ vs G _ r1 r2=>
   obtain⟨g1,g2⟩:=Qdq (row:=row) (nw:=nw) (im:=im) (k:=k) r2 (fun b hb=>hF b (by simp[hb])) hi ho
   refine⟨.cons (Ql6 ?_) g1,g2⟩
   cases nw with
   | true=>exact⟨F1,r1,fun b hb=>⟨(hF b (by simp[hb])).1,(hF b (by simp[hb])).2 rfl⟩⟩
   | false=>exact⟨F1,r1,fun b hb=>(hF b (by simp[hb])).1⟩
 | .own sz r0 dp::l,k,vs,F,os,r,hF,hi,ho=>by
  cases r with
  | @own _ _ _ v m F1 _ vs G os' r1 r2=>
   obtain⟨g1,g2⟩:=Qdq (row:=row) (nw:=nw) (im:=im) (k:=k+1) r2 (fun b hb=>hF b (by simp[hb])) (fun hi' m' hm=>hi hi' m' (by simp[hm])) (fun hi' j m' hm=>by
    have:=ho hi' (j+1) m' (by simpa using hm)
    rw[show k+1+j=k+(j+1)from by omega];exact this)
   refine⟨.cons (Ql6 ?_) g1,by simp[Qn0,g2]⟩
   cases im with
   | true=>
    obtain⟨F',f1,f2⟩:=r1.reps;have hall:∀b∈F',Imm own h b∧(nw=true→s.bs b):=fun b hb=>by
     rcases f2 b hb with hb|hb
     ·have:=hi rfl m (by simp) b hb;exact⟨this.1,fun _=>this.2⟩
     ·exact hF b (by simp[hb])
    cases nw with
    | true=>exact⟨F',f1,fun b hb=>⟨(hall b hb).1,(hall b hb).2 rfl⟩⟩
    | false=>exact⟨F',f1,fun b hb=>(hall b hb).1⟩
   | false=>
    obtain⟨o1,o2⟩:=ho rfl 0 m (by simp)
    simp only[Nat.add_zero]at o1
    refine⟨?_,o2,fun _=>?_⟩
    ·obtain⟨F',f1,_⟩:=r1.reps;exact f1.one
    ·rw[←o1]at r1
     exact r1.to_ok fun b hb=>(hF b (by simp[hb])).1
 | .box ds::l,k,vs,F,os,r,hF,hi,ho=>by
  cases r with
  | @box _ b c e F1 _ vs G os' q1 q2 r2=>
   obtain⟨g1,g2⟩:=Qdq (row:=row) (nw:=nw) (im:=im) (k:=k+1) r2 (fun b hb=>hF b (by simp[hb])) (fun hi' m' hm=>hi hi' m' (by simp[hm])) (fun hi' j m' hm=>by
    have:=ho hi' (j+1) m' (by simpa using hm)
    rw[show k+1+j=k+(j+1)from by omega];exact this)
   refine⟨.cons (Ql6 ?_) g1,by simp[Qn0,g2]⟩
   cases im with
   | true=>
    have hlen:ds.length=c.toList.length:=q2.length
    refine⟨b,0,c,e,(0,0),F1,rfl,q1,by simp at hlen;omega,?_,(hi rfl [b] (by simp) b (by simp)).1,fun x hx=>(hF x (by simp[hx])).1⟩
    rw[K1,hlen,KR];exact q2
   | false=>
    obtain⟨o1,o2⟩:=ho rfl 0 [b] (by simp)
    simp only[Nat.add_zero]at o1
    exact⟨rfl,o2,fun _=>⟨b,c,e,F1,rfl,o1,q1,q2,fun x hx=>(hF x (by simp[hx])).1⟩⟩
theorem QvI{row:Nat}{nw im:Bool}{r:RV}{k:Nat}{v:Value}{F:List Nat}{os:List (List Nat)}(hr:QnW h r v F os)(hF:∀b∈F,Imm own h b∧(nw=true→s.bs b))
  (hi:im=true→∀m∈os,∀b∈m,Imm own h b∧s.bs b) (ho:im=false→∀(j:Nat) m,os[j]? =some m→own (row,k+j)=m∧s.sl row≠ .any):
  Qc6 own h s (r.agg,(QdO row nw im k r.cs).map QnI) v∧Qn0 r.cs=os.length:=by
 unfold QnW at hr;unfold Qc6;cases hagg:r.agg with
 | true=>
  rw[hagg]at hr;simp only[if_true]at hr ⊢
  obtain⟨vs,rfl,hc⟩:=hr;obtain⟨g1,g2⟩:=Qdq hc hF hi ho;exact⟨⟨vs,rfl,g1⟩,g2⟩
 | false=>
  rw[hagg]at hr;simp only[KX,if_false]at hr ⊢
  obtain⟨g1,g2⟩:=Qdq hr hF hi ho;refine⟨?_,g2⟩
  generalize (QdO row nw im k r.cs).map QnI=cs at g1;cases g1 with
  | cons g1 g3=>cases g3;exact⟨_,rfl,g1⟩
theorem QBI{q:Bool×List QI}{v:Value}(hp:Qc6 own h s q v):QM own h s (Qvt q) v:=by
 obtain⟨b,cs⟩:=q;unfold Qc6 at hp;cases b with
 | true=>simp only[if_true]at hp;exact hp
 | false=>
  simp only[KX,if_false]at hp
  obtain⟨c,rfl,hc⟩:=hp;exact hc
theorem QnE{row:Nat}{nw im:Bool}:∀{rs:List RV} {k:Nat} {vs:List Value} {F:List Nat} {os:List (List Nat)},QkY h rs vs F os→(∀b∈F,Imm own h b∧(nw=true→s.bs b))→
  (im=true→∀m∈os,∀b∈m,Imm own h b∧s.bs b)→(im=false→∀(j:Nat) m,os[j]? =some m→own (row,k+j)=m∧s.sl row≠ .any)→Qas (Qc6 own h s) (Qh8 row nw im k rs) vs∧rvN rs=os.length
 | [],k,vs,F,os,r,_,_,_=>by cases r;exact⟨.nil,rfl⟩
 | r::rs,k,vs,F,os,hr,hF,hi,ho=>by
  cases hr with
  | @cons _ v F1 o1 _ vs G o2 r1 r2=>
   obtain⟨g1,g2⟩:=QvI (row:=row) (nw:=nw) (im:=im) (k:=k) r1 (fun b hb=>hF b (by simp[hb])) (fun h' m hm=>hi h' m (by simp[hm])) (fun h' j m hm=>ho h' j m (by
    rw[List.getElem?_append_left (by
     rcases Nat.lt_or_ge j o1.length with h|h
     ·exact h
     ·rw[K6 h]at hm;cases hm)]
    exact hm))
   obtain⟨g3,g4⟩:=QnE (row:=row) (nw:=nw) (im:=im) (k:=k+Qn0 r.cs) r2 (fun b hb=>hF b (by simp[hb])) (fun h' m hm=>hi h' m (by simp[hm])) (fun h' j m hm=>by
    have:=ho h' (o1.length+j) m (by rw[List.getElem?_append_right (by omega)];simpa using hm)
    rw[g2,Nat.add_assoc];exact this)
   exact⟨.cons g1 g3,by simp[rvN,g2,g4]⟩
theorem Qpb{row:Nat}{nw im:Bool}{rs:List RV}{v:Value}{F:List Nat}{os:List (List Nat)}(hr:QbF h rs v F os)(hF:∀b∈F,Imm own h b∧(nw=true→s.bs b))
  (hi:im=true→∀m∈os,∀b∈m,Imm own h b∧s.bs b) (ho:im=false→∀(j:Nat) m,os[j]? =some m→own (row,j)=m∧s.sl row≠ .any):QM own h s (Qjn row nw im rs) v∧rvN rs=os.length:=by
 have ho':im=false→∀(j:Nat) m,os[j]? =some m→own (row,0+j)=m∧s.sl row≠ .any:=fun h' j m hm=>by rw[Ya];exact ho h' j m hm
 unfold QbF at hr;unfold Qjn;split at hr
 ·obtain⟨_,rfl⟩:=hr;exact⟨trivial,rfl⟩
 ·obtain⟨g1,g2⟩:=QvI hr hF hi ho'
  exact⟨QBI g1,by simp[rvN,g2]⟩
 ·rename_i rs' h1 h2
  obtain⟨vs,rfl,hc⟩:=hr;obtain⟨g1,g2⟩:=QnE hc hF hi ho';refine⟨?_,g2⟩
  match rs,h1,h2,g1 with
  | [],h1,_,_=>exact absurd rfl h1
  | [r],_,h2,_=>exact absurd rfl (h2 r)
  | r1::r2::rs,_,_,g1=>exact⟨vs,rfl,g1⟩
theorem Qh9{rs:List RV}{v:Value}{F:List Nat}{os:List (List Nat)}(hr:QbF h rs v F os):rvN rs=os.length:=by
 have c1:∀{l vs F os},QaN h l vs F os→Qn0 l=os.length:=by
  intro l vs F os r;induction r with
  | nil=>rfl
  | d _ _ ih=>simpa [Qn0]using ih
  | own _ _ ih=>simp[Qn0,ih]
  | box _ _ _ ih=>simp[Qn0,ih]
 have c2:∀{r v F os},QnW h r v F os→Qn0 r.cs=os.length:=by
  intro r v F os hr;unfold QnW at hr;split at hr
  ·obtain⟨_,_,hr⟩:=hr;exact c1 hr
  ·exact c1 hr
 have c3:∀{rs vs F os},QkY h rs vs F os→rvN rs=os.length:=by
  intro rs vs F os hr;induction hr with
  | nil=>rfl
  | cons r1 _ ih=>simp[rvN,c2 r1,ih]
 unfold QbF at hr;split at hr
 ·obtain⟨_,rfl⟩:=hr;rfl
 ·simp[rvN,c2 hr]
 ·obtain⟨vs,_,hr⟩:=hr
  exact c3 hr
theorem QbC:∀{ms:List Bool} {vs:List Value},Qu8 ms=false→Q0 ms vs=[]
 | _,[],_=>by simp[Q0]
 | ms,v::vs,hm=>by
  have h1:ms.headD false=false∧Qu8 ms.tail=false:=by
   cases ms with
   | nil=>exact⟨rfl,rfl⟩
   | cons m ms=>simpa [Qu8]using hm
  simp only[Q0,h1.1,KX,if_false]
  exact QbC h1.2
def QU(own:Id→List Nat)(d:Nat)(im:Bool)(os:List (List Nat)):Id→List Nat:=fun id=>if im=false∧id.1=d then(os[id.2]?).getD (own id)else own id
theorem QaQ:∀{os:List (List Nat)} {i j:Nat} {m m':List Nat} {b:Nat},os.flatten.Nodup→os[i]? =some m→os[j]? =some m'→b∈m→b∈m'→i=j
 | [],i,j,m,m',b,_,h1,_,_,_=>by simp at h1
 | o::os,i,j,m,m',b,hn,h1,h2,hb,hb'=>by
  simp only[List.flatten_cons,Km]at hn
  cases i with
  | zero=>
   cases j with
   | zero=>rfl
   | succ j=>
    simp at h1 h2
    subst h1;exact absurd rfl (hn.2.2 b hb b (Kf.2 ⟨m',Ki h2,hb'⟩))
  | succ i=>
   cases j with
   | zero=>
    simp at h1 h2
    subst h2;exact absurd rfl (hn.2.2 b hb' b (Kf.2 ⟨m,Ki h1,hb⟩))
   | succ j=>exact congrArg Nat.succ (QaQ (os:=os) (i:=i) (j:=j) hn.2.1 (by simpa using h1) (by simpa using h2) hb hb')
theorem Qac:∀{os:List (List Nat)} {m:List Nat},os.flatten.Nodup→m∈os→m.Nodup
 | o::os,m,hn,hm=>by
  simp only[List.flatten_cons,Km]at hn
  rcases KI.1 hm with rfl|hm
  ·exact hn.1
  ·exact Qac hn.2.1 hm
theorem QgC{d:Nat}{dst:Option Nat}{fresh im:Bool}{f:FuncId}{vs:List AV}{vals:List Value}{p:Prop}{v:AV}(hT:Qcd X.toEnv T)(c:Qt X own s a w)(hd:∀x,dst=some x→X.dok x=true)(hdd:d=dst.getD 0)
  (hfr:fresh=true→Qr s dst=true) (hvs:Qas (QM own w.heap s) vs vals) (hf:QgA T d s.ob fresh im false f vs=some (p,v,[])) (hp:p):
  Qe6 X.P f∧Calls X.P f vals.toArray w fun e w'=>∃u,e= .returned u∧∃own',Qt X own' (s.put dst v []) (a.put dst u) w':=by
 unfold QgA at hf;split at hf
 ·rename_i ct hct
  obtain⟨hfn,hck⟩:=hT.ct f ct hct;refine⟨hfn,?_⟩
  split at hf
  ·cases hf
  ·rename_i hmu
   have hmut:Qu8 ct.muts=false:=by simpa using hmu
   split at hf
   ·rename_i xs hxs
    obtain⟨F,g1,g2,g3,g4⟩:=Qda c.obs hmut hxs hvs;split at hf
    ·rename_i p0 rs ms hrun
     have main:p0→rvN rs≤4→ms=[]→(im=false→QdY rs=true→fresh=true)→(ct.alias=true→vs.all Qhx=true)→∀nw:Bool,(ct.alias=true→nw=true→vs.all Qis=true)→v=Qjn d nw im rs→
       Calls X.P f vals.toArray w fun e w'=>∃u,e= .returned u∧∃own',Qt X own' (s.put dst v []) (a.put dst u) w':=fun hp0 h4 hms hfresh hal nw hnw hv=>by
      have hN:X.N≤w.heap.size:=by have:=c.hN.1;have:=c.grow;omega
      refine(hck xs p0 rs ms hrun hp0 w vals F [] g1 (by simp) (by simp) c.hJ hN (by simp)).mono ?_
      rintro e w' ⟨u,rfl,po⟩;refine⟨u,rfl,?_⟩
      obtain⟨F',os,F2,Ms',r1,_,r3,r4x,r5,_⟩:=po.res;have r4:∀b∈os.flatten,w.heap.size≤b∧b<w'.heap.size:=fun b hb=>⟨(r4x b hb).1.elim id fun h=>(by simp at h),(r4x b hb).2⟩
      have hlen:=Qh9 r1
      have hold:∀b,b<w.heap.size→w'.heap[b]? =w.heap[b]? :=fun b hb=>po.old b hb (by simp)
      have hfrs:im=false→os≠[]→∃d',dst=some d'∧d=d'∧Qfd s d':=fun hi ho=>by
       have:QdY rs=true:=by
        simp only[QdY,bne_iff_ne]
        rw[hlen];intro h0;exact ho (Kd h0)
       obtain⟨d',e1,e2⟩:=Qau (hfr (hfresh hi this));exact⟨d',e1,hdd.trans (by rw[e1];rfl),e2⟩
      have hgot:∀id:Id,im=false→id.1=d→∀m,os[id.2]? =some m→Qfd s d:=fun id hi _ m hm=>by
       obtain⟨d',_,e2,e3⟩:=hfrs hi (fun h0=>by rw[h0]at hm;simp at hm)
       rw[e2];exact e3
      have own_cases:∀id:Id,(QU own d im os id=own id∧(s.sl id.1= .any→True))∨(im=false∧id.1=d∧os[id.2]? =some (QU own d im os id)∧Qfd s d):=fun id=>by
       unfold QU;split
       ·rename_i hc
        cases hm:os[id.2]? with
        | none=>exact .inl ⟨rfl,fun _=>trivial⟩
        | some m=>exact .inr ⟨hc.1,hc.2,by simp,hgot id hc.1 hc.2 m hm⟩
       ·exact .inl ⟨rfl,fun _=>trivial⟩
      have ref_same:∀id:Id,s.sl id.1≠ .any→QU own d im os id=own id:=fun id hid=>by
       rcases own_cases id with h|⟨_,h2,_,h4⟩
       ·exact h.1
       ·exact absurd (by rw[h2];exact h4.row) hid
      have k:Qav own (QU own d im os) w.heap w'.heap s (s.put dst v []):=by
       refine⟨St.put_bs _ _ _ _,fun b hb=>⟨⟨by have:=hb.1;have:=po.grow;omega,fun id hm=>?_⟩,hold b hb.1⟩,St.put_row s dst v [],fun id hid=>?_,fun id _ _ _ _ _ _ _ h1 h2=>Qeu h1 h2 (.inl (by rw[St.put_ob];rfl))⟩
       ·rcases own_cases id with h|⟨_,_,h3,_⟩
        ·rw[h.1]at hm;exact hb.2 id hm
        ·have:=(r4 b (Kf.2 ⟨_,Ki h3,hm⟩)).1
         have:=hb.1
         omega
       ·rw[St.put_ob]
        exact .same _ (ref_same id hid) fun b hb=>hold b (c.lt id b hb).1
      have hrow:os≠[]→im=false→(s.put dst v []).sl d≠ .any:=fun ho hi=>by
       obtain⟨d',e1,e2,_⟩:=hfrs hi ho;rw[e1,e2];exact St.put_dst s d' v []
      have hbs:∀b,w.heap.size≤b→(s.put dst v []).bs b:=fun b hb=>by rw[St.put_bs];exact c.bsle b (KF c.grow hb)
      refine⟨QU own d im os,c.turn k po.os po.tape po.output po.grow hd ?_ ?_ ?_ ?_ ?_⟩
      ·intro id b hb
       rcases own_cases id with h|⟨_,_,h3,_⟩
       ·rw[h.1]at hb
        have:=c.lt id b hb
        exact⟨by have:=po.grow;omega,this.2⟩
       ·have:=r4 b (Kf.2 ⟨_,Ki h3,hb⟩)
        exact⟨this.2,.inl (by have:=c.grow;omega)⟩
      ·intro id
       rcases own_cases id with h|⟨_,_,h3,_⟩
       ·rw[h.1];exact c.nodup id
       ·exact Qac r3 (Ki h3)
      ·intro id id' b h1 h2
       rcases own_cases id with h|⟨_,q1,q2,_⟩
       ·rcases own_cases id' with h'|⟨_,q3,q4,_⟩
        ·rw[h.1]at h1;rw[h'.1]at h2;exact c.disj id id' b h1 h2
        ·exfalso
         rw[h.1]at h1;have:=(c.lt id b h1).1
         have:=(r4 b (Kf.2 ⟨_,Ki q4,h2⟩)).1
         omega
       ·rcases own_cases id' with h'|⟨_,q3,q4,_⟩
        ·exfalso
         rw[h'.1]at h2;have:=(c.lt id' b h2).1
         have:=(r4 b (Kf.2 ⟨_,Ki q2,h1⟩)).1
         omega
        ·have:=QaQ r3 q2 q4 h1 h2
         exact Prod.ext (q1.trans q3.symm) this
      ·intro id
       rcases own_cases id with h|⟨_,q1,q2,q3⟩
       ·exact Qc4.keep k (by rw[St.put_ob];rfl) h.1 (fun b hb=>hold b (c.lt id b hb).1) (c.obs id)
       ·rw[St.put_ob]
        have:s.ob id= .none:=by
         obtain⟨i1,i2⟩:=id;simp only at q1 q2
         subst q1;refine q3.ob i2 ?_
         rcases Nat.lt_or_ge i2 os.length with hlt|hge
         ·omega
         ·rw[K6 hge]at q2;cases q2
        show Qc4 _ _ _ id (Q7 s.ob [] id)
        rw[Q7,this];trivial
      ·rw[hv]
       rw[hv]at k hrow hbs;refine(Qpb r1 (fun b hb=>?_) (fun hi m hm b hb=>?_) (fun hi j m hm=>?_)).1
       ·obtain⟨t1,t2,_,t4⟩:=r5 b hb
        have himm:Imm (QU own d im os) w'.heap b:=by
         refine⟨t1,fun id hm=>?_,?_⟩
         rotate_left
         ·rcases t4 with t4|⟨t4,t5⟩
          ·exact c.nhN (KF c.grow t4)
          ·exact(g3 (hal t4) b t5).2.2
         rcases own_cases id with h|⟨_,_,h3,_⟩
         ·rw[h.1]at hm
          rcases t4 with t4|⟨t4,t5⟩
          ·have:=(c.lt id b hm).1;omega
          ·exact(g3 (hal t4) b t5).2.1 id hm
         ·exact t2 (Kf.2 ⟨_,Ki h3,hm⟩)
        refine⟨himm,fun hn=>?_⟩
        rcases t4 with t4|⟨t4,t5⟩
        ·exact hbs b t4
        ·rw[St.put_bs];exact(g4 (hnw t4 hn) b t5).2
       ·have t:=r4 b (Kf.2 ⟨m,hm,hb⟩)
        refine⟨⟨t.2,fun id hm'=>?_,c.nhN (KF c.grow t.1)⟩,hbs b t.1⟩
        rcases own_cases id with h|⟨h1,_⟩
        ·rw[h.1]at hm';have:=(c.lt id b hm').1;omega
        ·rw[hi]at h1;cases h1
       ·refine⟨?_,hrow (fun h0=>by rw[h0]at hm;simp at hm) hi⟩
        unfold QU;rw[if_pos ⟨hi,rfl⟩];simp[hm]
     split at hf
     ·simp only[KA,KC]at hf
      obtain⟨rfl,hv,hms⟩:=hf;exact main hp.1 hp.2.1 hms hp.2.2.2 (fun _=>hp.2.2.1) _ (fun _ h=>h) hv.symm
     ·rename_i hna
      simp only[KA,KC]at hf
      obtain⟨rfl,hv,hms⟩:=hf;exact main hp.1 hp.2.1 hms hp.2.2 (fun h=>absurd h hna) true (fun h=>absurd h hna) hv.symm
    ·cases hf
   ·cases hf
 ·cases hf
end
end
section
variable {hd:Hid}
section
variable {X:Ctx} {T:QS} {own own':Id→List Nat} {s s':St} {w:World} {a:Act} {ρ:Operand→AV} {h:Q6}
variable {dst:Option Nat} {type:TypeId} {pos:String} {after:Array Edge} {guard:Option (Nat×Bool)} {p:Prop} {v:AV} {d:Nat} {fresh im:Bool} {us:List (Id×Ob)}
theorem QfC(g:Id→Ob):∀(us vs:List (Id×Ob)),Q7 g (us++vs)=Q7 (Q7 g us) vs
 | [],_=>rfl
 | (k,o)::us,vs=>by simp only[List.cons_append,Q7];exact QfC _ us vs
theorem Qb6(s:St)(dst:Option Nat)(v:AV)(us vs:List (Id×Ob)):(s.put none .unk us).put dst v vs=s.put dst v (us++vs):=by
 cases dst<;>simp only[St.put,QfC]
def Qpo(own:Id→List Nat)(h:Q6)(s:St)(us:List (Id×Ob)):Prop:=(us.map (·.1)).Nodup∧∀q∈us,s.sl q.1.1≠ .any∧s.ob q.1= .none∧∃sz l dp,q.2= .arr sz l dp
theorem Qpo.look(m:Qpo own h s us)(id:Id):(Q7 s.ob us id=s.ob id)∨(s.ob id= .none∧∃sz l dp,Q7 s.ob us id= .arr sz l dp):=by
 by_cases hid:id∈us.map (·.1)
 ·obtain⟨q,hq,rfl⟩:=KQ.1 hid
  obtain⟨h1,h2,sz,l,dp,h3⟩:=m.2 q hq;exact .inr ⟨h2,sz,l,dp,by rw[←h3];exact Qbk m.1 _ q.1 q.2 hq⟩
 ·exact .inl (QeC _ _ hid)
theorem Qpo.keeps(m:Qpo own h s us):Qav own own h h s (s.put none .unk us):=by
 refine⟨rfl,fun b hb=>⟨hb,rfl⟩,fun r hr=>hr,fun id hid=>?_,fun id _ _ _ _ _ _ _ h1 h2=>Qeu h1 h2 ((m.look id).imp (fun h=>h) fun⟨_,sz,l,dp,h⟩ j i off hj=>by rw[St.put_ob,h]at hj;cases hj)⟩
 show QfG own own h h id (s.ob id) (Q7 s.ob us id)
 rcases m.look id with h1|⟨h1,sz,l,dp,h2⟩
 ·rw[h1];exact .same _ rfl fun _ _=>rfl
 ·rw[h1,h2];exact .mat sz l dp
theorem Qpo.conc(m:Qpo own w.heap s us)(c:Qt X own s a w):Qt X own (s.put none .unk us) a w:=by
 have:=c.turn (d:=none) (av:= .unk) (v:=undef) (us:=us) m.keeps rfl rfl rfl (KP _) (fun x hx=>by cases hx) c.lt c.nodup c.disj (fun id=>?_) trivial
 ·exact this
 ·show Qc4 own w.heap _ id (Q7 s.ob us id)
  rcases m.look id with h1|⟨_,sz,l,dp,h2⟩
  ·exact Qc4.keep (s:=s) m.keeps (by show Q7 s.ob us id=_;exact h1) rfl (fun _ _=>rfl) (c.obs id)
  ·rw[h2];trivial
theorem Qft:∀{cs cs':List QI} {us:List (Id×Ob)} {vs:List Value},Qa8 s.ob cs=some (cs',us)→Qk own h s cs vs→
  (∀q∈us,s.sl q.1.1≠ .any∧s.ob q.1= .none∧∃sz l dp,q.2= .arr sz l dp)∧
  ∀us',(∀q∈us,q∈us')→Qpo own h s us'→Qk own h (s.put none .unk us') cs' vs
 | [],cs',us,vs,hm,a=>by
  simp only[Qa8,KA,KC]at hm
  obtain⟨rfl,rfl⟩:=hm;cases a
  exact⟨by simp,fun _ _ _=> .nil⟩
 | c::cs,cs',us,vs,hm,a=>by
  cases a with
  | @cons _ v _ vs a1 a2=>
   have plain:∀{cs1 us1},Qa8 s.ob cs=some (cs1,us1)→cs'=c::cs1→us=us1→(∀q∈us,s.sl q.1.1≠ .any∧s.ob q.1= .none∧∃sz l dp,q.2= .arr sz l dp)∧
     ∀us',(∀q∈us,q∈us')→Qpo own h s us'→Qk own h (s.put none .unk us') cs' (v::vs):=fun hm1 h1 h2=>by
    subst h1;subst h2;obtain⟨g1,g2⟩:=Qft hm1 a2;exact⟨g1,fun us' hu m=> .cons (a1.keep m.keeps) (g2 us' hu m)⟩
   cases c with
   | fr id sz l dp=>
    simp only[Qa8]at hm
    split at hm
    ·rename_i cs1 us1 ho hm1
     simp only[KA,KC]at hm
     obtain⟨rfl,rfl⟩:=hm;obtain⟨g1,g2⟩:=Qft hm1 a2;refine⟨fun q hq=>?_,fun us' hu m=>?_⟩
     ·rcases KI.1 hq with rfl|hq
      ·exact⟨a1.2.1,ho,sz,l,dp,rfl⟩
      ·exact g1 q hq
     ·refine .cons ⟨a1.1,a1.2.1,?_⟩ (g2 us' (fun q hq=>hu q (by simp[hq])) m)
      have:(s.put none .unk us').ob id= .arr sz l dp:=Qbk m.1 _ id _ (hu _ (by simp))
      rw[this];exact QaX.same (s:=s) m.keeps rfl (fun _ _=>rfl) (a1.2.2 ho)
    ·cases hm
   | _=>
    simp only[Qa8]at hm
    split at hm
    ·rename_i hm1
     simp only[KA,KC]at hm
     exact plain hm1 hm.1.symm hm.2.symm
    ·cases hm
theorem QuR{id:Id}{sz:Nat}{els:List (List QI)}{u:Value}(hb:QEA own h s id sz els u){l:List (List D)}{dp:Nat}(hl:l.length=els.length)(hs:∀x∈l,x.length=sz)
  (hr:∀c:List Value,Qk own h s els.flatten c→∃F,Qn (dp !=0) h l.flatten c F∧(∀b∈F,Imm own h b)∧(dp≠0→F=[])):QaX own h id sz l dp u:=by
 obtain⟨b,c,e,g1,g2,g3,g4,g5,g6,g7⟩:=hb;obtain⟨F,f1,f2,f3⟩:=hr _ g7;refine .inr ⟨b,els.length,by rw[hl];exact g1,c,e,F,?_,g3,by omega,g5,g4,hs,?_,fun _=>f2⟩
 ·rw[g2]
  by_cases h0:dp=0
  ·simp[h0]
  ·simp[h0,f3 h0]
 ·have:l.length*sz=c.toList.length:=by rw[hl];simp;omega
  rw[this,KR];exact f1
theorem QeS{av av':AV}{us:List (Id×Ob)}(hm:QgY s.ob av=some (av',us)){u:Value}(a:QM own h s av u):Qpo own h s us∧QM own h (s.put none .unk us) av' u:=by
 have m0:Qpo own h s []:=⟨by simp,by simp⟩
 unfold QgY at hm;split at hm
 ·rename_i id sz l dp
  split at hm
  ·rename_i ho
   simp only[KA,KC]at hm
   obtain⟨rfl,rfl⟩:=hm;have m:Qpo own h s [(id,.arr sz l dp)]:=⟨by simp,fun q hq=>by simp at hq;subst hq;exact⟨a.2.1,ho,sz,l,dp,rfl⟩⟩
   refine⟨m,a.1,a.2.1,?_⟩
   have:(s.put none .unk [(id,.arr sz l dp)]).ob id= .arr sz l dp:=Qbk m.1 _ id _ (by simp)
   rw[this];exact QaX.same (s:=s) m.keeps rfl (fun _ _=>rfl) (a.2.2 ho)
  ·cases hm
 ·cases hm
 ·simp only[KA,KC]at hm
  obtain⟨rfl,rfl⟩:=hm;exact⟨m0,QM.keep m0.keeps a⟩
 ·split at hm
  ·rename_i cs us1 hm1
   split at hm
   ·rename_i hnd
    simp only[KA,KC]at hm
    obtain⟨rfl,rfl⟩:=hm;obtain⟨vs,rfl,hc⟩:=a;obtain⟨g1,g2⟩:=Qft hm1 hc;have m:Qpo own h s us1:=⟨hnd,g1⟩
    exact⟨m,vs,rfl,g2 us1 (fun _ hq=>hq) m⟩
   ·cases hm
  ·cases hm
 ·rename_i id sz els
  split at hm
  ·rename_i ho
   have fin:∀{l dp},av'= .one (.osl id)→us=[(id,.arr sz l dp)]→QaX own h id sz l dp u→Qpo own h s us∧QM own h (s.put none .unk us) av' u:=fun {l dp} e1 e2 ha=>by
    subst e1;subst e2;have m:Qpo own h s [(id,.arr sz l dp)]:=⟨by simp,fun q hq=>by simp at hq;subst hq;exact⟨a.2.1,ho,sz,l,dp,rfl⟩⟩
    refine⟨m,a.1,a.2.1,?_⟩
    ·have:(s.put none .unk [(id,.arr sz l dp)]).ob id= .arr sz l dp:=Qbk m.1 _ id _ (by simp)
     rw[this];exact QaX.same (s:=s) m.keeps rfl (fun _ _=>rfl) ha
   have hlit:=a.2.2 ho
   split at hm
   ·rename_i l hl
    simp only[KA,KC]at hm
    refine fin hm.1.symm hm.2.symm (QuR hlit ?_ ?_ fun c hc=>?_)
    ·obtain⟨b,c,e,_,_,_,_,_,_,g7⟩:=hlit
     exact(QaR (fun cs ds vs h1 h2=>⟨(Qap (W:=false) h1 h2).1,[],(Qap h1 h2).2.2,by simp⟩) hl g7).1
    ·obtain⟨b,c,e,_,_,_,_,_,g6,g7⟩:=hlit
     exact(QaR (fun cs ds vs h1 h2=>⟨(Qap (W:=false) h1 h2).1,[],(Qap h1 h2).2.2,by simp⟩) hl g7).2.1 sz g6
    ·have key:∀{els:List (List QI)} {l:List (List D)} {vs:List Value},QK Qy els=some l→Qk own h s els.flatten vs→Qn (1 !=0) h l.flatten vs []:=by
      intro els;induction els with
      | nil=>intro l vs h1 h2;simp only[QK,KA]at h1;subst h1;cases h2;exact .nil
      | cons c els ih=>
       intro l vs h1 h2;simp only[QK]at h1
       split at h1
       ·rename_i x l' e1 e2
        simp only[KA]at h1
        subst h1;simp only[List.flatten_cons]at h2
        have a1:=Qas.take h2 c.length
        have a2:=Qas.drop h2 c.length
        rw[List.take_left]at a1;rw[List.drop_left]at a2;have:=Qn.append (Qap e1 a1).2.2 (ih e2 a2)
        rw[Kr]at this;simpa using this
       ·cases h1
     exact⟨[],key hl hc,by simp,fun _=>rfl⟩
   ·split at hm
    ·rename_i l hl
     simp only[KA,KC]at hm
     refine fin hm.1.symm hm.2.symm (QuR hlit ?_ ?_ fun c hc=>?_)
     ·obtain⟨b,c,e,_,_,_,_,_,_,g7⟩:=hlit
      exact(QaR (fun cs ds vs h1 h2=>QbB h1 h2) hl g7).1
     ·obtain⟨b,c,e,_,_,_,_,_,g6,g7⟩:=hlit
      exact(QaR (fun cs ds vs h1 h2=>QbB h1 h2) hl g7).2.1 sz g6
     ·obtain⟨_,_,F,f1,f2⟩:=QaR (fun cs ds vs h1 h2=>QbB h1 h2) hl hc
      exact⟨F,f1,f2,fun h0=>absurd rfl h0⟩
    ·cases hm
  ·cases hm
 ·cases hm
theorem Qfl:∀{ds:List D} {vs:List Value} {F:List Nat},Qbl h ds vs F→(∀b∈F,Imm own h b)→Qk own h s (ds.map .d) vs
 | [],vs,F,r,_=>by
  have:=r.length
  cases vs with
  | nil=>exact .nil
  | cons=>simp at this
 | d::ds,[],F,r,_=>by have:=r.length;simp at this
 | d::ds,v::vs,F,r,hF=>by
  obtain⟨F1,F2,rfl,r1,r2⟩:=r.cons_inv;exact .cons ⟨F1,r1,fun b hb=>hF b (by simp[hb])⟩ (Qfl r2 fun b hb=>hF b (by simp[hb]))
theorem Qcm{al:Bool}:∀{ds:List D} {vs:List Value} {F:List Nat},Qbl h ds vs F→(∀b∈F,Imm own h b∧(al=true→s.bs b))→Qk own h s (ds.map (QbL al)) vs
 | [],vs,F,r,_=>by
  have:=r.length
  cases vs with
  | nil=>exact .nil
  | cons=>simp at this
 | d::ds,[],F,r,_=>by have:=r.length;simp at this
 | d::ds,v::vs,F,r,hF=>by
  obtain⟨F1,F2,rfl,r1,r2⟩:=r.cons_inv;refine .cons ?_ (Qcm r2 fun b hb=>hF b (by simp[hb]))
  have himm:∀b∈F1,Imm own h b:=fun b hb=>(hF b (by simp[hb])).1
  cases d with
  | v x=>exact⟨F1,r1,himm⟩
  | sl sz l=>
   simp only[QbL]
   split
   ·exact⟨F1,r1,fun b hb=>⟨himm b hb,(hF b (by simp[hb])).2 ‹_›⟩⟩
   ·exact⟨F1,r1,himm⟩
theorem QcF:∀{cs:List QI} {ds:List D} {vs:List Value},Qao cs=some ds→cs.all QbM=true→Qk own h s cs vs→∃F,Qbl h ds vs F∧∀b∈F,Imm own h b∧s.bs b
 | [],ds,vs,hc,_,a=>by
  simp only[Qao,KA]at hc
  subst hc;cases a
  exact⟨[],.nil,by simp⟩
 | c::cs,ds,vs,hc,hn,a=>by
  simp only[Qao]at hc
  split at hc
  ·rename_i x l h1 h2
   simp only[KA]at hc
   subst hc;simp only[List.all_cons,KB]at hn
   cases a with
   | @cons _ v _ vs a1 a2=>
    obtain⟨G,g2,g3⟩:=QcF h2 hn.2 a2;have:∃F,Qbl h [x] [v] F∧∀b∈F,Imm own h b∧s.bs b:=by
     cases c with
     | d y=>
      simp only[QbO,KA]at h1
      subst h1;cases y with
      | v z=>obtain⟨F,r,_⟩:=a1;cases r with|v q r=>cases r;exact⟨[],.v q .nil,by simp⟩
      | sl=>exact absurd hn.1 (by simp[QbM])
     | n y=>simp only[QbO,KA]at h1;subst h1;exact a1
     | _=>simp[QbO]at h1
    obtain⟨F,f1,f2⟩:=this;refine⟨F++G,f1.cons g2,fun b hb=>?_⟩
    rcases KG.1 hb with hb|hb
    ·exact f2 b hb
    ·exact g3 b hb
  ·cases hc
theorem QkE{id id2:Id}{sz s2 dp2:Nat}{l2:List (List D)}{c0:QI}{u:Value}(c:Qt X own s a w)(hd:∀x,dst=some x→X.dok x=true)(hu:QM own w.heap s (.lit id sz [[c0]]) u)(ho:s.ob id= .none)
  (ho2:Qw s.ob c0=some (id2,s2,l2,dp2)) (hne:id2≠id) (hdp:dp2≠0):
  ∃own',Qt X own' (s.put dst (.one (.osl id)) [(id2,.dead),(id,.arr sz [[.sl s2 l2]] 1)]) (a.put dst u) w∧Qav own own' w.heap w.heap s (s.put dst (.one (.osl id)) [(id2,.dead),(id,.arr sz [[.sl s2 l2]] 1)])∧QR own' w.heap (s.put dst (.one (.osl id)) [(id2,.dead),(id,.arr sz [[.sl s2 l2]] 1)]) (.osl id) u:=by
 have hob2:∀j,(s.put dst (.one (.osl id)) [(id2,Ob.dead),(id,Ob.arr sz [[.sl s2 l2]] 1)]).ob j=if j=id then Ob.arr sz [[.sl s2 l2]] 1 else if j=id2 then .dead else s.ob j:=fun j=>by rw[St.put_ob];rfl
 obtain⟨_,hrow,hl⟩:=hu;obtain⟨b,cc,e,rfl,a1,a2,a3,a4,a5,a6⟩:=hl ho;have hsz:sz=1:=(a5 [c0] (by simp)).symm
 subst hsz;have hcl:∃v0,cc.toList=[v0]∧QR own w.heap s c0 v0:=by
  have a6':Qk own w.heap s [c0] cc.toList:=by simpa using a6
  generalize cc.toList=vs at a6';cases a6' with
  | cons h1 h2=>cases h2;exact⟨_,rfl,h1⟩
 obtain⟨v0,hcc,hc0⟩:=hcl;obtain⟨FN,rN,hFN⟩:=QaX.repsW (Qcr ho2 hc0) hdp;obtain⟨own2,hown2⟩:∃o2:Id→List Nat,o2=fun j=>if j=id then b::own id2 else if j=id2 then []else own j:=⟨_,rfl⟩
 have hown_id:own2 id=b::own id2:=by rw[hown2];simp
 have hown_id2:own2 id2=[]:=by rw[hown2];simp[hne]
 have hown_j:∀j,j≠id→j≠id2→own2 j=own j:=fun j h1 h2=>by rw[hown2];simp[h1,h2]
 have hbo:b∈own id:=by rw[a1];simp
 have key:∀j z,z∈own2 j→(j=id∧(z∈own id∨z∈own id2))∨(j≠id∧j≠id2∧z∈own j):=fun j z hz=>by
  by_cases hj:j=id
  ·subst hj
   rw[hown_id]at hz;rcases KI.1 hz with rfl|hz
   ·exact .inl ⟨rfl,.inl hbo⟩
   ·exact .inl ⟨rfl,.inr hz⟩
  ·by_cases h2:j=id2
   ·subst h2;rw[hown_id2]at hz;cases hz
   ·rw[hown_j j hj h2]at hz;exact .inr ⟨hj,h2,hz⟩
 have k:Qav own own2 w.heap w.heap s (s.put dst (.one (.osl id)) [(id2,Ob.dead),(id,Ob.arr 1 [[.sl s2 l2]] 1)]):=by
  refine⟨St.put_bs _ _ _ _,fun z hz=>⟨⟨hz.1,fun j hm=>?_⟩,rfl⟩,St.put_row s dst _ _,fun j _=>?_,fun j _ _ _ _ _ _ _ h1 h2=>Qeu h1 h2 (by
   rw[hob2]
   by_cases hj:j=id
   ·rw[if_pos hj];exact .inr fun _ _ _ h=>by cases h
   ·by_cases h2:j=id2
    ·rw[if_neg hj,if_pos h2];exact .inr fun _ _ _ h=>by cases h
    ·rw[if_neg hj,if_neg h2];exact .inl rfl)⟩
  ·rcases key j z hm with⟨rfl,h|h⟩|⟨_,_,h⟩
   ·exact hz.2 _ h
   ·exact hz.2 _ h
   ·exact hz.2 _ h
  ·rw[hob2]
   by_cases hj:j=id
   ·subst hj;rw[if_pos rfl,ho];exact .mat _ _ _
   ·by_cases h2:j=id2
    ·rw[if_neg hj,if_pos h2];exact .dead _
    ·rw[if_neg hj,if_neg h2];exact .same _ (hown_j j hj h2) fun _ _=>rfl
 have hfin:QR own2 w.heap (s.put dst (.one (.osl id)) [(id2,Ob.dead),(id,Ob.arr 1 [[.sl s2 l2]] 1)]) (.osl id) (.slice (some ⟨b,0,none⟩) [[c0]].length [[c0]].length):=by
  refine⟨rfl,St.put_row s dst _ _ _ hrow,?_⟩
  rw[hob2,if_pos rfl];refine .inr ⟨b,1,rfl,cc,e,FN,by rw[hown_id,hFN];rfl,a2,KP _,by decide,by simpa using a3,fun x hx=>?_,?_,fun h=>by cases h⟩
  ·rw[KH.1 hx];rfl
  ·rw[hcc];exact rN
 refine⟨own2,c.turn k rfl rfl rfl (KP _) hd (fun j z hz=>?_) (fun j=>?_) (fun j j' z h1 h2=>?_) (fun j=>?_) hfin,k,hfin⟩
 ·rcases key j z hz with⟨rfl,h|h⟩|⟨_,_,h⟩
  ·exact c.lt _ z h
  ·exact c.lt _ z h
  ·exact c.lt _ z h
 ·by_cases hj:j=id
  ·subst hj
   rw[hown_id,Ke];exact⟨fun hm=>hne (c.disj id2 _ b hm hbo),c.nodup id2⟩
  ·by_cases h2:j=id2
   ·subst h2;rw[hown_id2];simp
   ·rw[hown_j j hj h2];exact c.nodup j
 ·rcases key j z h1 with⟨rfl,h|h⟩|⟨n1,n2,h⟩
  ·rcases key j' z h2 with⟨rfl,_⟩|⟨m1,m2,h'⟩
   ·rfl
   ·exact c.disj _ _ z h h'
  ·rcases key j' z h2 with⟨rfl,_⟩|⟨m1,m2,h'⟩
   ·rfl
   ·exact absurd (c.disj _ _ z h' h) m2
  ·rcases key j' z h2 with⟨rfl,h'|h'⟩|⟨m1,m2,h'⟩
   ·exact c.disj _ _ z h h'
   ·exact absurd (c.disj _ _ z h h') n2
   ·exact c.disj _ _ z h h'
 ·rw[hob2]
  by_cases hj:j=id
  ·rw[if_pos hj];trivial
  ·by_cases h2:j=id2
   ·rw[if_neg hj,if_pos h2];trivial
   ·rw[if_neg hj,if_neg h2]
    have:=Qc4.keep (id:=j) k (by rw[hob2,if_neg hj,if_neg h2]) (hown_j j hj h2) (fun _ _=>rfl) (c.obs j)
    rwa [hob2,if_neg hj,if_neg h2]at this
theorem QuQ{id id2:Id}{sz s2 dp2:Nat}{l2:List (List D)}{c0:QI}{u:Value}(c:Qt X own s a w)(hd:∀x,dst=some x→X.dok x=true)(hu:QM own w.heap s (.lit id sz [[c0]]) u)(ho:s.ob id= .none)
  (ho2:Qw s.ob c0=some (id2,s2,l2,dp2)) (hne:id2≠id) (hdp:dp2≠0):
  ∃own',Qt X own' (s.put dst (.one (.osl id)) [(id2,.dead),(id,.arr sz [[.sl s2 l2]] 1)]) (a.put dst u) w:=by
 obtain⟨own',h,_⟩:=QkE c hd hu ho ho2 hne hdp;exact⟨own',h⟩
theorem Qs2:∀{cs cs':List QI} {q:Prop} {us:List (Id×Ob)} {vs:List Value} (c:Qt X own s a w),Qy2 s.ob cs=some (q,cs',us)→q→Qk own w.heap s cs vs→
  ∃own',Qt X own' (s.put none .unk us) a w∧Qav own own' w.heap w.heap s (s.put none .unk us)∧Qk own' w.heap (s.put none .unk us) cs' vs
 | [],cs',q,us,vs,c,hm,hq,h=>by simp[Qy2]at hm
 | cc::cs,cs',q,us,vs,c,hm,hq,h=>by
  cases h with
  | @cons _ v _ vs h1 h2=>
   have plain:∀{q1 cs1 us1},Qy2 s.ob cs=some (q1,cs1,us1)→q1=q→cs'=cc::cs1→us=us1→
     ∃own',Qt X own' (s.put none .unk us) a w∧Qav own own' w.heap w.heap s (s.put none .unk us)∧Qk own' w.heap (s.put none .unk us) cs' (v::vs):=fun {q1 cs1 us1} e1 e2 e3 e4=>by
    subst e2 e3 e4;obtain⟨own',g1,g2,g3⟩:=Qs2 c e1 hq h2;exact⟨own',g1,g2,.cons (h1.keep g2) g3⟩
   cases cc with
   | ltf id id2 s2 l2 dp2=>
    simp only[Qy2]at hm
    split at hm
    ·rename_i ho ho2
     simp only[KA,KC]at hm
     obtain⟨rfl,rfl,rfl⟩:=hm;have hl:QM own w.heap s (.lit id 1 [[.fr id2 s2 l2 dp2]]) v:=by
      refine⟨h1.1,h1.2.1,fun hn=>?_⟩
      obtain⟨b,cc,e,v0,g1,g2,g3,g4,g5,g6,g7⟩:=h1.2.2 hn;refine⟨b,cc,e,by simpa using g1,g2,g3,?_,(show(1:Nat)≤maxLen by decide),by simp,?_⟩
      ·rw[←YN,g4];rfl
      ·rw[g4]
       exact .cons (show QR own w.heap s (.fr id2 s2 l2 dp2) v0 from⟨g5,g6,g7⟩) .nil
     obtain⟨own',g1,g2,g3⟩:=QkE (dst:=none) (s2:=s2) (dp2:=dp2) (l2:=l2) (id2:=id2) c (fun x hx=>by cases hx) hl ho (by simp[Qw,ho2]) hq.1 hq.2
     exact⟨own',g1,g2,.cons g3 (Qk.keep g2 h2)⟩
    ·cases hm
   | _=>
    simp only[Qy2]at hm
    split at hm
    ·rename_i hm1
     simp only[KA,KC]at hm
     exact plain hm1 hm.1 hm.2.1.symm hm.2.2.symm
    ·cases hm
theorem Qz5{av av':AV}{q:Prop}{us:List (Id×Ob)}{u:Value}(c:Qt X own s a w)(hm:QEB s.ob av=some (q,av',us))(hq:q)(h:QM own w.heap s av u):
  ∃own',Qt X own' (s.put none .unk us) a w∧Qav own own' w.heap w.heap s (s.put none .unk us)∧QM own' w.heap (s.put none .unk us) av' u:=by
 unfold QEB at hm;split at hm
 ·split at hm
  ·rename_i hm1
   simp only[KA,KC]at hm
   obtain⟨rfl,rfl,rfl⟩:=hm;obtain⟨vs,rfl,h⟩:=h;obtain⟨own',g1,g2,g3⟩:=Qs2 c hm1 hq h;exact⟨own',g1,g2,vs,rfl,g3⟩
  ·cases hm
 ·cases hm
theorem Qwv{x:Operand}(c:Qt X own s a w)(hd:∀x,dst=some x→X.dok x=true)(hx:QM own w.heap s (ρ x) (a.eval x))(hf:opM T d ρ s.ob fresh (.assign x)=some (p,v,us))(hp:p):
  QbE X s a w ⟨dst,.assign x,type,pos,after,guard⟩ v us:=by
 unfold opM at hf;dsimp only at hf;split at hf
 ·cases hf
 split at hf
 ·rename_i v' us' hm
  simp only[KA,KC]at hf
  obtain⟨_,rfl,rfl⟩:=hf;obtain⟨m,ha⟩:=QeS hm hx;refine QbE.of_value (own':=own) (u:=a.eval x) (w':=w) rfl ?_
  have:=(m.conc c).pure (w':=w) rfl rfl rfl rfl hd ha
  rw[Qb6,KM]at this;exact this
 ·split at hf
  ·cases hf
  ·rename_i id sz els e1
   rw[e1]at hx;unfold Qni at hf;split at hf
   ·split at hf
    ·rename_i ho ho2
     simp only[KA,KC]at hf
     obtain⟨rfl,rfl,rfl⟩:=hf;obtain⟨own2,h2⟩:=QuQ (dst:=dst) c hd hx ho ho2 hp.1 hp.2;exact QbE.of_value (own':=own2) (u:=a.eval x) (w':=w) rfl h2
    ·cases hf
   ·cases hf
  ·rename_i id ds e1
   split at hf
   ·rename_i ho
    replace hf:=(QbH hf).1;simp only[KA,KC]at hf
    obtain⟨_,rfl,rfl⟩:=hf;rw[e1]at hx;obtain⟨_,hrow,hx⟩:=hx;obtain⟨b,cv,e,F,g1,g2,g3,g4,g5⟩:=hx ho;have hup:∀id',(s.put dst (.one (.bptr id 0)) [(id,Ob.box (ds.map .d))]).ob id'=if id'=id then .box (ds.map .d)else s.ob id':=fun id'=>by
     rw[St.put_ob];rfl
    have k:Qav own own w.heap w.heap s (s.put dst (.one (.bptr id 0)) [(id,Ob.box (ds.map .d))]):=by
     refine⟨St.put_bs _ _ _ _,fun b hb=>⟨hb,rfl⟩,St.put_row s dst _ _,fun id' _=>?_,fun id' _ _ _ _ _ _ _ h1 h2=>Qeu h1 h2 (by
      rw[hup]
      by_cases hi:id'=id
      ·rw[if_pos hi];exact .inr fun _ _ _ h=>by cases h
      ·rw[if_neg hi];exact .inl rfl)⟩
     rw[hup]
     by_cases hi:id'=id
     ·subst hi;rw[if_pos rfl,ho];exact .matb _
     ·rw[if_neg hi];exact .same _ rfl fun _ _=>rfl
    refine QbE.of_value (own':=own) (u:=a.eval x) (w':=w) rfl (c.turn k rfl rfl rfl (KP _) hd c.lt c.nodup c.disj (fun id'=>?_) ?_)
    ·rw[hup]
     by_cases hi:id'=id
     ·subst hi
      rw[if_pos rfl];refine⟨b,cv,e,g2,g3,?_⟩
      exact Qfl g4 g5
     ·rw[if_neg hi]
      exact Qc4.keep (s:=s) k (by rw[hup,if_neg hi]) rfl (fun _ _=>rfl) (c.obs id') |> fun h=>by rw[hup,if_neg hi]at h;exact h
    ·refine⟨St.put_row s dst _ _ _ hrow,b,g1,?_⟩
     rw[hup,if_pos rfl];exact g2
   ·cases hf
  ·cases hf
  ·cases hf
  ·simp only[KA,KC]at hf
   obtain⟨_,rfl,rfl⟩:=hf;exact QbE.of_value (own':=own) (u:=a.eval x) (w':=w) rfl (c.pure rfl rfl rfl rfl hd hx)
theorem QEM{t:TypeId}{x:Operand}(hty:∀t y,T.ty t=some y→Qb9 X.P t y)(c:Qt X own s a w)(hd:∀x,dst=some x→X.dok x=true)(hdd:d=dst.getD 0)(hfr:fresh=true→Qr s dst=true)(hx:QM own w.heap s (ρ x) (a.eval x))
  (hf:opM T d ρ s.ob fresh (.box t x)=some (p,v,us)) (hp:p):QbE X s a w ⟨dst,.box t x,type,pos,after,guard⟩ v us:=by
 unfold opM at hf;dsimp only at hf;split at hf
 ·rename_i y v' us' hy hm
  split at hf
  ·rename_i cs hcs
   split at hf
   ·rename_i hlen
    simp only[KA,KC]at hf
    obtain⟨rfl,rfl,rfl⟩:=hf;obtain⟨dd,rfl,hfs⟩:=Qau (hfr hp);obtain rfl:d=dd:=hdd;obtain⟨m,ha⟩:=QeS hm hx;have c1:=m.conc c
    have hcells:=Qdd hcs ha
    have hfs1:Qfd (s.put none .unk us') d:=⟨hfs.row,fun k hk=>by
     show Q7 s.ob us' (d,k)= .none
     rcases m.look (d,k)with h1|⟨_,sz,l,dp,h2⟩
     ·rw[h1];exact hfs.ob k hk
     ·exfalso
      by_cases hid:((d,k):Id)∈us'.map (·.1)
      ·obtain⟨q,hq,hqe⟩:=KQ.1 hid
       have:=(m.2 q hq).1
       rw[hqe]at this;exact this hfs.row
      ·rw[QeC _ _ hid,hfs.ob k hk]at h2;cases h2⟩
    refine QbE.of_value (own':=QcY own (d,0) [w.heap.size]) (u:= .pointer (some ⟨w.heap.size,0,none⟩)) (w':=w.alloc (.cells (a.eval x).cells t)) rfl ?_
    have:=c1.newObj (w':=w.alloc (.cells (a.eval x).cells t)) (av:= .one (.bptr (d,0) 0)) (u:= .pointer (some ⟨w.heap.size,0,none⟩)) (us:=[((d,0),.box cs)]) hfs1 (hd d rfl) rfl rfl rfl rfl
     (.inr ⟨_,rfl,fun k=>⟨w.heap.size,(a.eval x).cells,t,QaC _ _,heap_alloc_new w _,Qk.keep k hcells⟩⟩) (fun k=>⟨St.put_dst _ d _ _,w.heap.size,rfl,by
      rw[St.put_ob];simp only[Q7,if_true]
      exact QaC _ _⟩)
    rw[Qb6]at this;exact this
   ·cases hf
  ·cases hf
 ·cases hf
theorem QzR{t:TypeId}(hty:∀t y,T.ty t=some y→Qb9 X.P t y)(c:Qt X own s a w)(hd:∀x,dst=some x→X.dok x=true)(hdd:d=dst.getD 0)(hfr:fresh=true→Qr s dst=true)
  (hf:opM T d ρ s.ob fresh (.alloc t)=some (p,v,us)) (hp:p):QbE X s a w ⟨dst,.alloc t,type,pos,after,guard⟩ v us:=by
 unfold opM at hf;dsimp only at hf;split at hf
 ·rename_i y hy
  simp only[KA,KC]at hf
  obtain⟨rfl,rfl,rfl⟩:=hf;obtain⟨dd,rfl,hfs⟩:=Qau (hfr hp);obtain rfl:d=dd:=hdd;have hyo:=hty t y hy
  obtain⟨z,hz1,hz2⟩:=hyo.zeroV w;refine QbE.of_value (own':=QcY own (d,0) [w.heap.size]) (u:= .pointer (some ⟨w.heap.size,0,none⟩)) (w':=w.alloc (.cells z.cells t)) ?_ ?_
  ·simp[execOp,Instr.alloc,hz1,newVar,newRow]
  ·have hc:Qk own w.heap s (y.zero.map fun v=>QI.d (.v v)) z.cells.toList:=by rw[hz2];exact Qha hyo.2.2.1
   exact c.newObj (w':=w.alloc (.cells z.cells t)) hfs (hd d rfl) rfl rfl rfl rfl (.inr ⟨_,rfl,fun k=>⟨w.heap.size,z.cells,t,QaC _ _,heap_alloc_new w _,Qk.keep k hc⟩⟩) (fun k=>⟨St.put_dst _ d _ _,w.heap.size,rfl,by
      rw[St.put_ob];simp only[Q7,if_true]
      exact QaC _ _⟩)
 ·cases hf
end
end
variable {hd:Hid}
section
variable {X:Ctx} {T:QS} {own own':Id→List Nat} {s s':St} {w:World} {a:Act} {ρ:Operand→AV} {h:Q6}
variable {dst:Option Nat} {type:TypeId} {pos:String} {after:Array Edge} {guard:Option (Nat×Bool)} {p:Prop} {v:AV} {d:Nat} {fresh im:Bool} {us:List (Id×Ob)}
theorem Qc0{P:Program}{t:TypeId}{y:TyI}(hy:Qb9 P t y){u:Value}(hu:u.cells.size=y.size)(h1:∀v∈u.cells.toList,v.oneCell'=true){b o:Nat}{c:Array Value}{e:TypeId}(hb:w.heap[b]? =some (.cells c e (0,0)))(ho:o+y.size≤c.size):
  (storeVar t ⟨b,o,none⟩ u).run P w= .ok () (w.setRow b (c.toList.take o++u.cells.toList++c.toList.drop (o+y.size)).toArray):=by
 have:=run_storeCells_at P b o e u.cells.toList 0 c w hb (by simp;omega) h1
 simp only[Nat.add_zero]at this
 simp only[storeVar,Sem.run_bind,hy.size,Result.andThen_ok,hu,ne_eq,not_true_eq_false,if_false,this]
 rw[show u.cells.toList.length=y.size from by simpa using hu]
theorem QgF{cs:List QI}{vs:List Value}(hc:Qk own h s cs vs):∀v∈vs,v.oneCell'=true:=by
 induction hc with
 | nil=>simp
 | cons a _ ih=>intro v hv;rcases KI.1 hv with rfl|hv;exact QR.one a;exact ih v hv
theorem Qe2{P:Program}{t:TypeId}{x ad:Operand}{b o:Nat}{w':World}(hv:a.eval ad= .pointer (some ⟨b,o,none⟩))(hs:(storeVar t ⟨b,o,none⟩ (a.eval x)).run P w= .ok () w'):
  (execOp a.eval ⟨dst,.store t ad x,type,pos,after,guard⟩).run P w= .ok .skip w':=by
 simp only[execOp,hv,Instr.storeAt,Instr.sureAddr,Sem.run_bind,Sem.run_pure,Result.andThen_ok,hs]
theorem Qt.setRow_keeps{s1:St}(c:Qt X own s a w){id:Id}{b:Nat}(hb:b∈own id)(cs:Array Value){own':Id→List Nat}(hown:∀i,i≠id→own' i=own i∨(s1.ob i= .dead∧own' i=[]))(hsub:∀x∈own' id,x∈own id∨∃i,s1.ob i= .dead∧own' i=[]∧x∈own i)
  (hbs:s1.bs=s.bs) (hrow:∀r,s.sl r≠ .any→s1.sl r≠ .any) (hob:∀i,i≠id→s1.ob i=s.ob i∨(s1.ob i= .dead))
  (hni:∀j i off,s1.ob id≠ .inn j i off) (htr:QfG own own' w.heap (w.setRow b cs).heap id (s.ob id) (s1.ob id)):Qav own own' w.heap (w.setRow b cs).heap s s1:=by
 have hoth:∀x,x≠b→(w.setRow b cs).heap[x]? =w.heap[x]? :=fun x hx=>setRow_other w b x cs hx
 refine⟨hbs,fun x hx=>⟨⟨by simpa using hx.1,fun i hm=>?_⟩,hoth x fun e=>hx.2 id (e▸hb)⟩,hrow,fun i hi=>?_,fun i _ _ _ _ _ _ _ h1 h2=>Qeu h1 h2 (by
  by_cases hid:i=id
  ·subst hid;exact .inr hni
  ·exact(hob i hid).imp (fun h=>h) fun h _ _ _ h3=>by rw[h]at h3;cases h3)⟩
 ·by_cases hid:i=id
  ·subst hid
   rcases hsub x hm with h1|⟨j,_,_,h1⟩
   ·exact hx.2 _ h1
   ·exact hx.2 _ h1
  ·rcases hown i hid with h1|⟨_,h1⟩
   ·rw[h1]at hm;exact hx.2 i hm
   ·rw[h1]at hm;cases hm
 ·by_cases hid:i=id
  ·subst hid;exact htr
  ·rcases hob i hid with h1|h1
   ·rcases hown i hid with h2|⟨h2,_⟩
    ·rw[h1];exact .same _ h2 fun x hx=>hoth x fun e=>hid (c.disj i id x hx (e▸hb))
    ·rw[h2];exact .dead _
   ·rw[h1];exact .dead _
theorem Qn6{t:TypeId}{ad x:Operand}{y:TyI}{v':AV}{us':List (Id×Ob)}{cs cs0:List QI}{id:Id}{o:Nat}(hyo:Qb9 X.P t y)(c:Qt X own s a w)(hdn:dst=none)
  (had:QM own w.heap s (.one (.bptr id o)) (a.eval ad)) (hx:QM own w.heap s (ρ x) (a.eval x)) (hm:QgY s.ob (ρ x)=some (v',us')) (hcs:Qct v'=some cs) (hlen:cs.length=y.size) (ho:s.ob id= .box cs0) (hle:o+cs.length≤cs0.length):
  QbE X s a w ⟨dst,.store t ad x,type,pos,after,guard⟩ .unk (us'++[(id,.box (cs0.take o++cs++cs0.drop (o+cs.length)))]):=by
 subst hdn;obtain⟨m,ha⟩:=QeS hm hx;have c1:=m.conc c
 have hcells:=Qdd hcs ha
 have ho1:(s.put none .unk us').ob id= .box cs0:=by
  show Q7 s.ob us' id=_
  rcases m.look id with h1|⟨h1,_⟩
  ·rw[h1,ho]
  ·rw[h1]at ho;cases ho
 have had1:=QM.keep m.keeps had
 obtain⟨hr,b,hb,hbo⟩:=had1;rw[ho1]at hbo;have hobj:=c1.obs id
 rw[ho1]at hobj;obtain⟨b',cc,e,h1,h2,h3⟩:=hobj;have:b'=b:=by rw[h1]at hbo;simpa using hbo
 subst this;have hl0:=Qas.length h3
 have hlc:=Qas.length hcells
 simp at hl0 hlc
 have hrun:=Qc0 (w:=w) hyo (u:=a.eval x) (by omega) (QgF hcells) h2 (o:=o) (by omega)
 rw[←hlen]at hrun;have hown:∀i,i≠id→own i=own i∨((s.put none .unk us').ob i= .dead∧own i=[]):=fun _ _=> .inl rfl
 refine QbE.of_skip (own':=own) (Qe2 hb hrun) ?_
 have hput:s.put none .unk (us'++[(id,.box (cs0.take o++cs++cs0.drop (o+cs.length)))])=(s.put none .unk us').put none .unk [(id,.box (cs0.take o++cs++cs0.drop (o+cs.length)))]:=(Qb6 s none .unk us' _).symm
 rw[hput];have hob2:∀i,((s.put none .unk us').put none .unk [(id,Ob.box (cs0.take o++cs++cs0.drop (o+cs.length)))]).ob i=if i=id then Ob.box (cs0.take o++cs++cs0.drop (o+cs.length))else(s.put none .unk us').ob i:=fun i=>by
  rw[St.put_ob];rfl
 have k:Qav own own w.heap (w.setRow b' ((cc.toList.take o++(a.eval x).cells.toList++cc.toList.drop (o+cs.length)).toArray)).heap (s.put none .unk us') ((s.put none .unk us').put none .unk [(id,Ob.box (cs0.take o++cs++cs0.drop (o+cs.length)))]):=by
  refine c1.setRow_keeps (id:=id) (by rw[h1];simp) _ (fun _ _=> .inl rfl) (fun x hx=> .inl hx) rfl (fun r hr=>hr) (fun i hi=> .inl (by rw[hob2,if_neg hi])) (fun _ _ _ h=>by rw[hob2,if_pos rfl]at h;cases h) ?_
  rw[ho1,hob2,if_pos rfl];exact .boxed _ _ rfl
 refine c1.turn (d:=none) (av:= .unk) (v:=undef) k rfl rfl rfl (by simp) (fun x hx=>by cases hx) (fun i x hx=>by simpa using c.lt i x hx) c.nodup c.disj (fun i=>?_) trivial
 rw[hob2]
 by_cases hi:i=id
 ·subst hi
  rw[if_pos rfl];refine⟨b',_,e,h1,setRow_heap w b' cc _ e (0,0) h2,?_⟩
  have q1:=Qk.keep k h3
  have q2:=Qk.keep k hcells
  exact Qas.append (Qas.append (Qas.take q1 o) q2) (Qas.drop q1 (o+cs.length))
 ·rw[if_neg hi]
  have:=Qc4.keep (id:=i) k (by rw[hob2,if_neg hi]) rfl (fun x hx=>setRow_other w b' x _ fun e=>hi (c.disj i id x hx (by rw[e,h1];simp))) (c1.obs i)
  rw[hob2,if_neg hi]at this;exact this
theorem Qn.mid{W:Bool}{ds1 M ds2 N:List D}{v1 vM v2 vN:List Value}{F:List Nat}(r:Qn W h (ds1++(M++ds2)) (v1++(vM++v2)) F)(h1:ds1.length=v1.length)(hM:M.length=vM.length){FN:List Nat}(rN:Qn W h N vN FN):
  ∃F1 FM F2,F=F1++(FM++F2)∧Qn W h M vM FM∧Qn W h (ds1++(N++ds2)) (v1++(vN++v2)) (F1++(FN++F2)):=by
 obtain⟨a1,a2,F1,G,e1,e2,r1,r2⟩:=Qn.split _ _ r;obtain⟨b1,b2,FM,F2,e3,e4,r3,r4⟩:=Qn.split _ _ r2;have l1:=r1.length
 have l3:=r3.length
 obtain⟨rfl,e5⟩:=List.append_inj e1 (by omega)
 rw[e3]at e5;obtain⟨rfl,rfl⟩:=List.append_inj e5 (by omega)
 exact⟨F1,FM,F2,by rw[e2,e4],r3,r1.append (rN.append r4)⟩
theorem Qex{W:Bool}:∀{M:List D} {vs:List Value} {F:List Nat},Qn W h M vs F→(∀x∈M,QaO x)→F=[]
 | [],vs,F,r,_=>by
  have:=r.length
  cases vs with
  | nil=>cases r;rfl
  | cons=>simp at this
 | .v z::M,vs,F,r,hM=>by
  cases r with|v _ r=>exact Qex r fun x hx=>hM x (by simp[hx])
 | .sl a b::M,vs,F,r,hM=>False.elim (hM (.sl a b) (by simp))
theorem Qir{sz:Nat}{l:List (List D)}(hs:∀x∈l,x.length=sz){i o n:Nat}(hi:i<l.length)(ho:o+n≤sz):
  l.flatten=((l.take i).flatten++(l.getD i []).take o)++((((l.getD i []).drop o).take n)++((l.getD i []).drop (o+n)++(l.drop (i+1)).flatten))∧((l.take i).flatten++(l.getD i []).take o).length=i*sz+o∧
   (((l.getD i []).drop o).take n).length=n∧∀ds:List D,(l.set i ((l.getD i []).take o++ds++(l.getD i []).drop (o+n))).flatten=((l.take i).flatten++(l.getD i []).take o)++(ds++((l.getD i []).drop (o+n)++(l.drop (i+1)).flatten)):=by
 obtain⟨h1,h2⟩:=QgO l sz i hs hi;have hget:l.getD i []=l[i]:=by simp[KD,hi]
 have hli:l[i].length=sz:=hs _ (YJ hi)
 rw[hget];refine⟨?_,?_,?_,fun ds=>?_⟩
 ·rw[h1]
  conv=>lhs;rw[←Kr o l[i],←Kr n (l[i].drop o),List.drop_drop]
  simp[Kn]
 ·rw[KN,h2,KO,hli];omega
 ·rw[KO,Kk,hli];omega
 ·rw[List.set_eq_take_append_cons_drop,if_pos hi]
  simp[Kn]
theorem Qj1.stored{W:Bool}{sz:Nat}{l:List (List D)}{cap:Nat}{c:Array Value}{G:List Nat}(a5:c.size=cap*sz)(a3:l.length≤cap)(a6:∀x∈l,x.length=sz)
  (a7:Qn W h l.flatten (c.toList.take (l.length*sz)) G) {i o:Nat} (hi:i<l.length) {ds:List D} {xs:List Value} {FN:List Nat} (ho:o+ds.length≤sz) (hx:Qn W h ds xs FN):
  ∃F1 FM F2,G=F1++(FM++F2)∧Qn W h (((l.getD i []).drop o).take ds.length) ((c.toList.drop (i*sz+o)).take ds.length) FM∧
   Qn W h (l.set i ((l.getD i []).take o++ds++(l.getD i []).drop (o+ds.length))).flatten (((c.toList.take (i*sz+o)++xs++c.toList.drop (i*sz+o+ds.length))).take (l.length*sz)) (F1++(FN++F2)):=by
 obtain⟨p1,p2,p3,p4⟩:=Qir a6 hi ho;have hle:(i+1)*sz≤l.length*sz:=Ka _ hi
 rw[YD]at hle;have hcs:l.length*sz≤c.size:=by rw[a5];exact Ka _ a3
 have hv:c.toList.take (l.length*sz)=c.toList.take (i*sz+o)++((c.toList.drop (i*sz+o)).take ds.length++(c.toList.take (l.length*sz)).drop (i*sz+o+ds.length)):=by
  conv=>lhs;rw[←Kr (i*sz+o) (c.toList.take (l.length*sz)),←Kr ds.length ((c.toList.take (l.length*sz)).drop (i*sz+o)),List.drop_drop]
  rw[List.take_take,YT (by omega),List.drop_take,List.take_take,YT (by omega)]
 rw[p1,hv]at a7;have hxl:=hx.length
 obtain⟨F1,FM,F2,q1,q2,q3⟩:=Qn.mid a7 (by rw[p2];simp;omega) (by rw[p3];simp;omega) hx
 refine⟨F1,FM,F2,q1,q2,?_⟩
 rw[p4 ds];have:((c.toList.take (i*sz+o)++xs++c.toList.drop (i*sz+o+ds.length))).take (l.length*sz)=c.toList.take (i*sz+o)++(xs++(c.toList.take (l.length*sz)).drop (i*sz+o+ds.length)):=by
  have l1:(c.toList.take (i*sz+o)).length=i*sz+o:=by simp;omega
  have l2:(c.toList.take (i*sz+o)++xs).length=i*sz+o+ds.length:=by rw[KN,l1];omega
  have e1:l.length*sz=(c.toList.take (i*sz+o)++xs).length+(l.length*sz-(i*sz+o+ds.length)):=by omega
  conv=>lhs;rw[e1,List.take_length_add_append]
  rw[Kn,List.drop_take]
 rw[this];exact q3
theorem Qn5{t:TypeId}{ad x:Operand}{y:TyI}{cs:List QI}{ds:List D}{id:Id}{i o sz dp:Nat}{l:List (List D)}(hyo:Qb9 X.P t y)(c:Qt X own s a w)(hdn:dst=none)
  (had:QM own w.heap s (.one (.optr id i o)) (a.eval ad)) (hcells:Qk own w.heap s cs (a.eval x).cells.toList) (hlen:cs.length=y.size) (ho:s.ob id= .arr sz l dp) (hds:Qy cs=some ds)
  (hp:i<l.length∧o+ds.length≤sz∧∀x∈((l.getD i []).drop o).take ds.length,QaO x):
  QbE X s a w ⟨dst,.store t ad x,type,pos,after,guard⟩ .unk [(id,.arr sz (l.set i ((l.getD i []).take o++ds++(l.getD i []).drop (o+ds.length))) (min dp 1))]:=by
 subst hdn;obtain⟨hr,b,oo,hv,si,hoo,hb⟩:=had;rw[ho]at hb;obtain⟨rfl,cap,hb⟩:=hb;subst hoo;obtain⟨hi,hole,hsc⟩:=hp;obtain⟨cc,e,G,a1,a2,a3,a4,a5,a6,a7,a8⟩:=_root_.id hb;obtain⟨g1,g2,g3⟩:=Qap hds hcells;have hlc:=Qas.length hcells
 simp at hlc
 have hle:(i+1)*sz≤cap*sz:=Ka _ (by omega)
 rw[YD]at hle;have hrun:=Qc0 (w:=w) hyo (u:=a.eval x) (by omega) (QgF hcells) a2 (o:=i*sz+o) (by omega)
 refine QbE.of_skip (own':=own) (Qe2 hv hrun) ?_
 have hbo:b∈own id:=by rw[a1];simp
 have hnd:=c.nodup id
 have hbG:b∉G:=by
  by_cases h0:dp=0
  ·intro hm;exact(a8 h0 b hm).2.1 id hbo
  ·rw[a1]at hnd;simp only[h0,if_false,Ke]at hnd;exact hnd.1
 have hnewlen:∀z∈l.set i ((l.getD i []).take o++ds++(l.getD i []).drop (o+ds.length)),z.length=sz:=fun z hz=>by
  rcases List.mem_or_eq_of_mem_set hz with hz|rfl
  ·exact a6 z hz
  ·have hget:l.getD i []=l[i]:=by simp[KD,hi]
   have hli:(l.getD i []).length=sz:=by rw[hget];exact a6 _ (YJ hi)
   simp only[KN,KO,Kk,hli]
   omega
 have hob2:∀j,(s.put none .unk [(id,Ob.arr sz (l.set i ((l.getD i []).take o++ds++(l.getD i []).drop (o+ds.length))) (min dp 1))]).ob j=if j=id then Ob.arr sz (l.set i ((l.getD i []).take o++ds++(l.getD i []).drop (o+ds.length))) (min dp 1)else s.ob j:=fun j=>by
  rw[St.put_ob];rfl
 have hds':ds.length=y.size:=by omega
 have k:Qav own own w.heap (w.setRow b ((cc.toList.take (i*sz+o)++(a.eval x).cells.toList++cc.toList.drop (i*sz+o+y.size)).toArray)).heap s (s.put none .unk [(id,Ob.arr sz (l.set i ((l.getD i []).take o++ds++(l.getD i []).drop (o+ds.length))) (min dp 1))]):=by
  refine c.setRow_keeps (id:=id) hbo _ (fun _ _=> .inl rfl) (fun x hx=> .inl hx) rfl (fun r hr=>hr) (fun j hj=> .inl (by rw[hob2,if_neg hj])) (fun _ _ _ h=>by rw[hob2,if_pos rfl]at h;cases h) ?_
  rw[ho,hob2,if_pos rfl];refine .upd _ _ _ _ _ (fun hh=>hh) (by simp) (fun b2 cap2 hb2=>?_) (fun h2=>by omega)
  obtain⟨c2,e2,G2,f1,f2,f3,f4,f5,f6,f7,f8⟩:=hb2;have:b2=b:=by rw[a1]at f1;simpa using(List.cons.inj f1).1.symm
  subst this;rw[a2]at f2;simp only[KA,Obj.cells.injEq]at f2
  obtain⟨rfl,rfl,_⟩:=f2;obtain⟨F1,FM,F2,q1,q2,q3⟩:=Qj1.stored f5 f3 f6 f7 hi hole g3;have hFM:=Qex q2 hsc
  subst hFM;simp only[List.nil_append]at q1 q3
  have hG2:b2∉G2:=by
   by_cases h0:dp=0
   ·intro hm;exact(f8 h0 b2 hm).2.1 id hbo
   ·rw[f1]at hnd;simp only[h0,if_false,Ke]at hnd;exact hnd.1
  refine⟨_,e,F1++F2,?_,setRow_heap w b2 cc _ e (0,0) a2,by simpa using f3,f4,?_,hnewlen,?_,fun h0 x hx=>?_⟩
  ·rw[f1,q1]
   by_cases h0:dp=0
   ·simp[h0]
   ·have:¬min dp 1=0:=by omega
    simp[h0,this]
  ·have hlx:(a.eval x).cells.toList.length=y.size:=by simp;omega
   simp only[List.size_toArray,KN,KO,Kk,hlx]
   simp only[YN]
   omega
  ·rw[List.length_set,←hds',show(min dp 1 !=0)=(dp !=0)by cases dp<;>simp[Nat.min_def];try omega]
   refine q3.frame fun x hx=>setRow_other w b2 x _ fun e=>hG2 (by rw[q1];exact e▸hx)
  ·have hx':=f8 (by omega) x (by rw[q1];exact hx)
   exact⟨by simpa using hx'.1,hx'.2⟩
 refine c.turn (d:=none) (av:= .unk) (v:=undef) k rfl rfl rfl (by simp) (fun x hx=>by cases hx) (fun j x hx=>by simpa using c.lt j x hx) c.nodup c.disj (fun j=>?_) trivial
 rw[hob2]
 by_cases hj:j=id
 ·rw[if_pos hj];trivial
 ·rw[if_neg hj]
  have:=Qc4.keep (id:=j) k (by rw[hob2,if_neg hj]) rfl (fun x hx=>setRow_other w b x _ fun e=>hj (c.disj j id x hx (by rw[e];exact hbo))) (c.obs j)
  rw[hob2,if_neg hj]at this;exact this
theorem Qvd{A M B N:List Nat}{b:Nat}(h1:(b::(A++(M++B))).Nodup)(h2:N.Nodup)(h3:∀x∈N,x∉b::(A++(M++B))):(b::(A++(N++B))).Nodup:=by
 simp only[Ke,Km,KG,KI,not_or]at *
 obtain⟨⟨p1,p2,p3⟩,p4,⟨p5,p6,p7⟩,p8⟩:=h1;refine⟨⟨p1,fun hm=>(h3 b hm).1 rfl,p3⟩,p4,⟨h2,p6,fun x hx y hy=>?_⟩,fun x hx y hy=>?_⟩
 ·intro e;subst e;exact(h3 x hx).2.2.2 hy
 ·rcases hy with hy|hy
  ·intro e;subst e;exact(h3 x hy).2.1 hx
  ·exact p8 x hx y (.inr hy)
theorem Qn7{t:TypeId}{ad x:Operand}{y:TyI}{id id2:Id}{i o sz s2 dp2:Nat}{l l2:List (List D)}(hyo:Qb9 X.P t y)(c:Qt X own s a w)(hdn:dst=none)(hsz:y.size=1)
  (had:QM own w.heap s (.one (.optr id i o)) (a.eval ad)) (hx:QR own w.heap s (.fr id2 s2 l2 dp2) (a.eval x)) (ho:s.ob id= .arr sz l 1) (ho2:s.ob id2= .none)
  (hp:i<l.length∧o<sz∧dp2≠0∧id2≠id):
  QbE X s a w ⟨dst,.store t ad x,type,pos,after,guard⟩ .unk [(id2,.dead),(id,.arr sz (l.set i ((l.getD i []).set o (.sl s2 l2))) 1)]:=by
 subst hdn;obtain⟨hr,b,oo,hv,si,hoo,hb⟩:=had;rw[ho]at hb;obtain⟨rfl,cap,hb⟩:=hb;subst hoo;obtain⟨hi,hole,hdp2,hne⟩:=hp;obtain⟨cc,e,G,a1,a2,a3,a4,a5,a6,a7,a8⟩:=_root_.id hb;simp only[Nat.one_ne_zero,if_false]at a1
 have hx1:=hx.1
 obtain⟨FN,rN,hFN⟩:∃FN,Qn true w.heap [.sl s2 l2] [a.eval x] FN∧FN=own id2:=QaX.repsW (hx.2.2 ho2) hdp2;have hcell:=QfS hx1
 have hle:(i+1)*sz≤cap*sz:=Ka _ (by omega)
 rw[YD]at hle;have hrun:=Qc0 (w:=w) hyo (u:=a.eval x) (by rw[hcell,hsz];rfl) (by rw[hcell];simpa using hx1) a2 (o:=i*sz+o) (by omega)
 have hbo:b∈own id:=by rw[a1];simp
 obtain⟨F1,FM,F2,q1,q2,q3⟩:=Qj1.stored (W:=true) a5 a3 a6 a7 hi (o:=o) (ds:=[.sl s2 l2]) (by simp only[List.length_cons,Yb];omega) rN
 have hset:(l.getD i []).take o++[D.sl s2 l2]++(l.getD i []).drop (o+[D.sl s2 l2].length)=(l.getD i []).set o (.sl s2 l2):=by
  have hget:l.getD i []=l[i]:=by simp[KD,hi]
  have hli:(l.getD i []).length=sz:=by rw[hget];exact a6 _ (YJ hi)
  rw[List.set_eq_take_append_cons_drop,if_pos (by omega)]
  simp
 rw[hset]at q3;obtain⟨own2,hown2⟩:∃o2:Id→List Nat,o2=fun j=>if j=id then b::(F1++(FN++F2))else if j=id2 then []else own j:=⟨_,rfl⟩
 have hown_id:own2 id=b::(F1++(FN++F2)):=by rw[hown2];simp
 have hown_id2:own2 id2=[]:=by rw[hown2];simp[hne]
 have hown_j:∀j,j≠id→j≠id2→own2 j=own j:=fun j h1 h2=>by rw[hown2];simp[h1,h2]
 have hsub:∀z∈own2 id,z∈own id∨z∈own id2:=fun z hz=>by
  rw[hown_id]at hz;rw[a1,q1,←hFN];simp only[KI,KG]at hz ⊢
  rcases hz with h|h|h|h
  ·exact .inl (.inl h)
  ·exact .inl (.inr (.inl h))
  ·exact .inr h
  ·exact .inl (.inr (.inr (.inr h)))
 refine QbE.of_skip (own':=own2) (Qe2 hv hrun) ?_
 have hnd:=c.nodup id
 rw[a1,q1]at hnd;have hob2:∀j,(s.put none .unk [(id2,Ob.dead),(id,Ob.arr sz (l.set i ((l.getD i []).set o (.sl s2 l2))) 1)]).ob j=if j=id then Ob.arr sz (l.set i ((l.getD i []).set o (.sl s2 l2))) 1 else if j=id2 then .dead else s.ob j:=fun j=>by
  rw[St.put_ob];rfl
 have hnewlen:∀z∈l.set i ((l.getD i []).set o (.sl s2 l2)),z.length=sz:=fun z hz=>by
  rcases List.mem_or_eq_of_mem_set hz with hz|rfl
  ·exact a6 z hz
  ·have hget:l.getD i []=l[i]:=by simp[KD,hi]
   rw[List.length_set,hget];exact a6 _ (YJ hi)
 have k:Qav own own2 w.heap (w.setRow b ((cc.toList.take (i*sz+o)++(a.eval x).cells.toList++cc.toList.drop (i*sz+o+y.size)).toArray)).heap s (s.put none .unk [(id2,Ob.dead),(id,Ob.arr sz (l.set i ((l.getD i []).set o (.sl s2 l2))) 1)]):=by
  refine c.setRow_keeps (id:=id) hbo _ (fun j hj=>?_) (fun z hz=>?_) rfl (fun r hr=>hr) (fun j hj=>?_) (fun _ _ _ h=>by rw[hob2,if_pos rfl]at h;cases h) ?_
  ·by_cases h2:j=id2
   ·subst h2;exact .inr ⟨by rw[hob2,if_neg hne,if_pos rfl],hown_id2⟩
   ·exact .inl (hown_j j hj h2)
  ·rcases hsub z hz with h|h
   ·exact .inl h
   ·exact .inr ⟨id2,by rw[hob2,if_neg hne,if_pos rfl],hown_id2,h⟩
  ·by_cases h2:j=id2
   ·subst h2;exact .inr (by rw[hob2,if_neg hne,if_pos rfl])
   ·exact .inl (by rw[hob2,if_neg hj,if_neg h2])
  ·rw[ho,hob2,if_pos rfl]
   refine .upd _ _ _ _ _ (fun hh=>by rw[a1]at hh;cases hh) (by simp) (fun b2 cap2 hb2=>?_) (fun h2=>by cases h2)
   obtain⟨c2,e2,G2,f1,f2,f3,f4,f5,f6,f7,f8⟩:=hb2;have:b2=b:=by rw[a1]at f1;simpa using(List.cons.inj f1).1.symm
   subst this;rw[a2]at f2;simp only[KA,Obj.cells.injEq]at f2
   obtain⟨rfl,rfl,_⟩:=f2;refine⟨_,e,F1++(FN++F2),by rw[hown_id];rfl,setRow_heap w b2 cc _ e (0,0) a2,by simpa using f3,f4,?_,hnewlen,?_,fun h0=>by cases h0⟩
   ·rw[hcell]
    simp only[List.size_toArray,KN,KO,Kk,YN]
    simp only[List.length_cons,Yb,hsz]
    omega
   ·rw[List.length_set,hcell,hsz]
    refine q3.frame fun z hz=>setRow_other w b2 z _ fun e=>?_
    subst e;simp only[Ke,KG,not_or]at hnd
    simp only[KG]at hz
    rcases hz with hz|hz|hz
    ·exact hnd.1.1 hz
    ·exact hne (c.disj id2 id z (by rw[←hFN];exact hz) hbo)
    ·exact hnd.1.2.2 hz
 refine c.turn (d:=none) (av:= .unk) (v:=undef) k rfl rfl rfl (by simp) (fun x hx=>by cases hx) (fun j z hz=>?_) (fun j=>?_) (fun j j' z h1 h2=>?_) (fun j=>?_) trivial
 ·by_cases hj:j=id
  ·subst hj
   rcases hsub z hz with h|h
   ·simpa using c.lt _ z h
   ·simpa using c.lt _ z h
  ·by_cases h2:j=id2
   ·subst h2;rw[hown_id2]at hz;cases hz
   ·rw[hown_j j hj h2]at hz;simpa using c.lt j z hz
 ·by_cases hj:j=id
  ·subst hj
   rw[hown_id];refine Qvd hnd (by rw[hFN];exact c.nodup id2) fun z hz hm=>?_
   exact hne (c.disj id2 _ z (by rw[←hFN];exact hz) (by rw[a1,q1];exact hm))
  ·by_cases h2:j=id2
   ·subst h2;rw[hown_id2];simp
   ·rw[hown_j j hj h2];exact c.nodup j
 ·have key:∀j z,z∈own2 j→(j=id∧(z∈own id∨z∈own id2))∨(j≠id∧j≠id2∧z∈own j):=fun j z hz=>by
   by_cases hj:j=id
   ·subst hj;exact .inl ⟨rfl,hsub z hz⟩
   ·by_cases h2:j=id2
    ·subst h2;rw[hown_id2]at hz;cases hz
    ·rw[hown_j j hj h2]at hz;exact .inr ⟨hj,h2,hz⟩
  rcases key j z h1 with⟨rfl,h|h⟩|⟨n1,n2,h⟩
  ·rcases key j' z h2 with⟨rfl,_⟩|⟨m1,m2,h'⟩
   ·rfl
   ·exact c.disj _ _ z h h'
  ·rcases key j' z h2 with⟨rfl,_⟩|⟨m1,m2,h'⟩
   ·rfl
   ·exact absurd (c.disj _ _ z h' h) m2
  ·rcases key j' z h2 with⟨rfl,h'|h'⟩|⟨m1,m2,h'⟩
   ·exact c.disj _ _ z h h'
   ·exact absurd (c.disj _ _ z h h') n2
   ·exact c.disj _ _ z h h'
 ·rw[hob2]
  by_cases hj:j=id
  ·rw[if_pos hj];trivial
  ·by_cases h2:j=id2
   ·rw[if_neg hj,if_pos h2];trivial
   ·rw[if_neg hj,if_neg h2]
    have:=Qc4.keep (id:=j) k (by rw[hob2,if_neg hj,if_neg h2]) (hown_j j hj h2) (fun x hx=>setRow_other w b x _ fun e=>hj (c.disj j id x hx (by rw[e];exact hbo))) (c.obs j)
    rw[hob2,if_neg hj,if_neg h2]at this;exact this
theorem QvP{own1:Id→List Nat}{h1:Q6}:∀{cs:List QI} {ds:List D} {vs:List Value} {s1 s2:St},Qy cs=some ds→Qk own1 h1 s1 cs vs→Qk own1 h1 s2 cs vs:=by
 intro cs;induction cs with
 | nil=>intro ds vs s1 s2 _ h2;cases h2;exact .nil
 | cons cc cs ih=>
  intro ds vs s1 s2 h1 h2;simp only[Qy]at h1
  split at h1
  ·rename_i z l f1 f2
   cases h2 with
   | cons h3 h4=>
    refine .cons ?_ (ih f2 h4)
    cases cc with
    | d=>exact h3
    | _=>simp[QbR]at f1
  ·cases h1
theorem QuI{id:Id}{i o sz:Nat}{l:List (List D)}{s0:Nat}{r:List (List D)}{x:Value}(ho:s.ob id= .arr sz l 2)(hD:(l.getD i []).getD o default= .sl s0 r)(hx:Qe4 own h s id i o x):
  ∃b cap c e F1 FM F2 v1 v4 pre post,own id=b::(F1++(FM++F2))∧h[b]? =some (.cells c e (0,0))∧l.length≤cap∧cap≤maxLen∧c.size=cap*sz∧(∀x∈l,x.length=sz)∧c.toList.take (l.length*sz)=v1++([x]++v4)∧
   Qn true h pre v1 F1∧Qn true h [.sl s0 r] [x] FM∧Qn true h post v4 F2∧(∀z,(l.set i ((l.getD i []).set o z)).flatten=pre++([z]++post))∧(∀z,∀y∈l.set i ((l.getD i []).set o z),y.length=sz):=by
 have hA:=hx.2.2
 rw[ho]at hA;obtain⟨b,cap,c,e,hB,hb,hoz,hil,hcx⟩:=hA rfl;obtain⟨c1,e1,G,f1,f2,f3,f4,f5,f6,f7,f8⟩:=hB;rw[hb]at f2;simp only[KA,Obj.cells.injEq]at f2
 obtain⟨rfl,rfl,_⟩:=f2;rw[if_neg (by decide)]at f1
 have f7':Qn true h l.flatten (c.toList.take (l.length*sz)) G:=f7
 obtain⟨p1,p2,p3,p4⟩:=Qir f6 hil (o:=o) (n:=1) (by omega)
 have hget:l.getD i []=l[i]:=by simp[KD,hil]
 have hli:(l.getD i []).length=sz:=by rw[hget];exact f6 _ (YJ hil)
 have hone:((l.getD i []).drop o).take 1=[.sl s0 r]:=by
  rw[YX (by omega)]
  simp only[List.take_succ_cons,Kw,YO,and_true]
  rw[←hD];simp only[KD (l:=l.getD i []),Kc (show o<(l.getD i []).length by omega),YF]
 rw[hone]at p1 p3;rw[p1]at f7';obtain⟨v1,v2,F1,G2,g1,g2,r1,r2⟩:=Qn.split _ _ f7';obtain⟨v3,v4,FM,F2,g3,g4,r3,r4⟩:=Qn.split _ _ r2;subst g2 g4;have l1:=r1.length
 have l3:=r3.length
 rw[p2]at l1;match v3,l3 with
 | [y],_=>
  have hle:(i+1)*sz≤l.length*sz:=Ka _ hil
  rw[YD]at hle;have hy:y=x:=by
   have:(c.toList.take (l.length*sz))[i*sz+o]? =some y:=by rw[g1,g3,List.getElem?_append_right (by omega),←l1];simp
   rw[Ky (by omega)]at this
   have h2:c.toList[i*sz+o]? =some x:=by simpa using hcx
   rw[h2]at this;exact(K0 this).symm
  subst hy;refine⟨b,cap,c,e,F1,FM,F2,v1,v4,_,_,f1,hb,f3,f4,f5,f6,by rw[g1,g3],r1,r3,r4,fun z=>?_,fun z q hq=>?_⟩
  ·have hset:(l.getD i []).take o++[z]++(l.getD i []).drop (o+1)=(l.getD i []).set o z:=by
    rw[List.set_eq_take_append_cons_drop,if_pos (by omega)];simp
   rw[←hset];exact p4 [z]
  ·rcases List.mem_or_eq_of_mem_set hq with hq|rfl
   ·exact f6 q hq
   ·rw[List.length_set];exact hli
theorem Qmo{t:TypeId}{ad x:Operand}{y:TyI}{cs:List QI}{ds:List D}{id:Id}{i o s0 j sz:Nat}{l r:List (List D)}(hyo:Qb9 X.P t y)(c:Qt X own s a w)(hdn:dst=none)
  (had:QM own w.heap s (.one (.nptr id i o s0 j)) (a.eval ad)) (hcells:Qk own w.heap s cs (a.eval x).cells.toList) (hlen:cs.length=y.size) (ho:s.ob id= .arr sz l 2) (hds:Qy cs=some ds) (hD:(l.getD i []).getD o default= .sl s0 r)
  (hp:ds.length=s0∧j<r.length∧∀x∈r.getD j [],QaO x):
  QbE X s a w ⟨dst,.store t ad x,type,pos,after,guard⟩ .unk [(id,.arr sz (l.set i ((l.getD i []).set o (.sl s0 (r.set j ds)))) 2)]:=by
 subst hdn;obtain⟨b0,len,cap0,hv,hjl,hisl⟩:=had;obtain⟨hdl,hj,hsc⟩:=hp;obtain⟨b,cap,c0,e0,F1,FM,F2,v1,v4,pre,post,f1,f2,f3,f4,f5,f6,f7,r1,r3,r4,hset,hsetl⟩:=QuI ho hD hisl;have hnd:=c.nodup id
 rw[f1]at hnd;obtain⟨g1,g2,g3⟩:=Qap (W:=true) hds hcells;have hlc:=Qas.length hcells
 simp at hlc
 cases r3 with
 | none=>simp at hj
 | sl q hb0 h1 h2 h3 h4 h5 h6=>
  rename_i cc e fz G FF;cases h6
  obtain⟨-,rfl,hcs⟩:=q rfl;have hbo:b0∈own id:=by rw[f1];simp
  have hbne:b≠b0:=fun e=>by
   subst e;exact(Ke.1 hnd).1 (by simp)
  have hjc:(j+1)*s0≤cap0*s0:=Ka _ (by omega)
  rw[YD]at hjc;have hrun:=Qc0 (w:=w) hyo (u:=a.eval x) (by omega) (QgF hcells) hb0 (o:=j*s0) (by omega)
  refine QbE.of_skip (own':=own) (Qe2 hv hrun) ?_
  have hds':ds.length=y.size:=by omega
  have hlx:(a.eval x).cells.toList.length=y.size:=by simp;omega
  obtain⟨A1,AM,A2,q1,q2,q3⟩:=Qj1.stored (W:=true) (o:=0) hcs h1 h4 (by simpa using h5) hj (ds:=ds) (by omega) g3
  have hget:r.getD j []=r[j]:=by simp[KD,hj]
  have hrj:(r.getD j []).length=s0:=by rw[hget];exact h4 _ (YJ hj)
  have hAM:=Qex q2 (fun z hz=>hsc z (YI (Ks hz)))
  subst hAM;simp only[List.nil_append]at q1 q3
  have hnew:(r.getD j []).take 0++ds++(r.getD j []).drop (0+ds.length)=ds:=by
   rw[YB (by omega)];simp
  rw[hnew,Nat.add_zero]at q3;subst q1;have hG:b0∉A1++A2:=by
   simp only[Ke,Km,List.cons_append,KG,KI,not_or,KM]at hnd ⊢
   exact hnd.2.2.1.1.1
  have hF1:b0∉F1:=fun hm=>by
   simp only[Ke,Km]at hnd
   exact hnd.2.2.2 b0 hm b0 (by simp) rfl
  have hF2:b0∉F2:=fun hm=>by
   simp only[Ke,Km]at hnd
   exact hnd.2.2.1.2.2 b0 (by simp) b0 hm rfl
  have hob2:∀k,(s.put none .unk [(id,Ob.arr sz (l.set i ((l.getD i []).set o (.sl s0 (r.set j ds)))) 2)]).ob k=if k=id then Ob.arr sz (l.set i ((l.getD i []).set o (.sl s0 (r.set j ds)))) 2 else s.ob k:=fun k=>by
   rw[St.put_ob];rfl
  have hoth:∀z (cs:Array Value),z≠b0→(w.setRow b0 cs).heap[z]? =w.heap[z]? :=fun z cs hz=>setRow_other w b0 z cs hz
  have k:Qav own own w.heap (w.setRow b0 ((cc.toList.take (j*s0)++(a.eval x).cells.toList++cc.toList.drop (j*s0+y.size)).toArray)).heap s (s.put none .unk [(id,Ob.arr sz (l.set i ((l.getD i []).set o (.sl s0 (r.set j ds)))) 2)]):=by
   refine c.setRow_keeps (id:=id) hbo _ (fun _ _=> .inl rfl) (fun x hx=> .inl hx) rfl (fun r hr=>hr) (fun j hj=> .inl (by rw[hob2,if_neg hj])) (fun _ _ _ h=>by rw[hob2,if_pos rfl]at h;cases h) ?_
   rw[ho,hob2,if_pos rfl];refine .upd _ _ _ _ _ (fun hh=>hh) (by simp) (fun b2 cap2 hb2=>?_) (fun _=>⟨rfl,fun z hz=>?_⟩)
   ·obtain⟨c2,e2,G2,k1,k2,k3,k4,k5,k6,k7,k8⟩:=hb2
    have:b2=b:=by rw[f1]at k1;simpa using(List.cons.inj k1).1.symm
    subst this;rw[f2]at k2;simp only[KA,Obj.cells.injEq]at k2
    obtain⟨rfl,rfl,_⟩:=k2;refine⟨c0,e0,F1++(b0::(A1++A2++[])++F2),by rw[f1];simp,by rw[hoth _ _ hbne];exact f2,by simpa using k3,k4,k5,hsetl _,?_,fun h0=>by cases h0⟩
    show Qn true _ _ _ _
    rw[hset,List.length_set,f7];refine(r1.frame fun z hz=>hoth z _ fun e=>hF1 (e▸hz)).append (Qn.append ?_ (r4.frame fun z hz=>hoth z _ fun e=>hF2 (e▸hz)))
    have hl':(r.set j ds).length=r.length:=List.length_set ..
    rw[←hl'];refine .sl (fun _=>⟨rfl,rfl,?_⟩) (setRow_heap w b0 cc _ e (0,0) hb0) (by rw[hl'];exact h1) h2 ?_ (fun z hz=>?_) ?_ .nil
    ·simp only[List.size_toArray,KN,KO,Kk,hlx]
     simp only[YN]
     omega
    ·rw[hl']
     simp only[List.size_toArray,KN,KO,Kk,hlx]
     simp only[YN]
     omega
    ·rcases List.mem_or_eq_of_mem_set hz with hz|rfl
     ·exact h4 z hz
     ·exact hdl
    ·rw[hl',K1,←hds']
     exact q3.frame fun z hz=>hoth z _ fun e=>hG (e▸hz)
   ·rw[f1]at hz
    simp only[List.head?_cons,Option.mem_def,KA]at hz
    subst hz;exact hoth _ _ hbne
  refine c.turn (d:=none) (av:= .unk) (v:=undef) k rfl rfl rfl (by simp) (fun x hx=>by cases hx) (fun j x hx=>by simpa using c.lt j x hx) c.nodup c.disj (fun j=>?_) trivial
  rw[hob2]
  by_cases hj:j=id
  ·rw[if_pos hj];trivial
  ·rw[if_neg hj]
   have:=Qc4.keep (id:=j) k (by rw[hob2,if_neg hj]) rfl (fun x hx=>setRow_other w b0 x _ fun e=>hj (c.disj j id x hx (by rw[e];exact hbo))) (c.obs j)
   rw[hob2,if_neg hj]at this;exact this
theorem Qpn{t:TypeId}{ad x:Operand}{va vx:AV}(hty:∀t y,T.ty t=some y→Qb9 X.P t y)(c:Qt X own s a w)(hdn:dst=none)(had:QM own w.heap s va (a.eval ad))(hx:QM own w.heap s vx (a.eval x))
  (hf:QnR T s.ob t va vx=some (p,v,us)) (hp:p):QbE X s a w ⟨dst,.store t ad x,type,pos,after,guard⟩ v us:=by
 unfold QnR at hf;split at hf
 ·rename_i y v' us' hy hm
  have hyo:=hty t y hy
  split at hf
  ·rename_i cs hcs
   split at hf
   ·rename_i hlen
    split at hf
    ·rename_i id o
     split at hf
     ·rename_i cs0 ho
      split at hf
      ·rename_i hle
       simp only[KA,KC]at hf
       obtain⟨_,rfl,rfl⟩:=hf;exact Qn6 (ρ:=fun _=>vx) hyo c hdn had hx hm hcs hlen ho hle
      ·cases hf
     ·cases hf
    ·rename_i id i o
     split at hf
     ·rename_i sz l dp ds ho hds
      simp only[KA,KC]at hf
      obtain⟨rfl,rfl,rfl⟩:=hf;obtain⟨m,ha⟩:=QeS hm hx;have hcells:Qk own w.heap s cs (a.eval x).cells.toList:=by
       have:=Qdd hcs ha
       have hr:∀{cs:List QI} {ds:List D} {vs:List Value} {s1 s2:St},Qy cs=some ds→Qk own w.heap s1 cs vs→Qk own w.heap s2 cs vs:=by
        intro cs;induction cs with
        | nil=>intro ds vs s1 s2 _ h2;cases h2;exact .nil
        | cons cc cs ih=>
         intro ds vs s1 s2 h1 h2;simp only[Qy]at h1
         split at h1
         ·rename_i z l f1 f2
          cases h2 with
          | cons h3 h4=>
           refine .cons ?_ (ih f2 h4)
           cases cc with
           | d=>exact h3
           | _=>simp[QbR]at f1
         ·cases h1
       exact hr hds this
      exact Qn5 hyo c hdn had hcells hlen ho hds hp
     ·rename_i sz l ho hds
      split at hf
      ·rename_i id2 s2 l2 dp2
       split at hf
       ·rename_i ho2
        simp only[KA,KC]at hf
        obtain⟨rfl,rfl,rfl⟩:=hf;have hsz:y.size=1:=by
         simp only[QgY,ho2,KA,KC]at hm
         rw[←hm.1]at hcs;simp only[Qct,KA]at hcs
         rw[←hlen,←hcs];rfl
        exact Qn7 hyo c hdn hsz had hx ho ho2 hp
       ·cases hf
      ·cases hf
     ·cases hf
    ·rename_i id i o s' j
     split at hf
     ·rename_i sz l ds ho hds
      split at hf
      ·rename_i s0 r hD
       simp only[KA,KC]at hf
       obtain⟨rfl,rfl,rfl⟩:=hf;obtain⟨rfl,hp⟩:=hp;obtain⟨m,ha⟩:=QeS hm hx;exact Qmo hyo c hdn had (QvP hds (Qdd hcs ha)) hlen ho hds hD hp
      ·cases hf
     ·cases hf
    ·cases hf
   ·cases hf
  ·cases hf
 ·cases hf
theorem QzT{t:TypeId}{ad x:Operand}(hty:∀t y,T.ty t=some y→Qb9 X.P t y)(c:Qt X own s a w)(hdn:dst=none)(had:QM own w.heap s (ρ ad) (a.eval ad))(hx:QM own w.heap s (ρ x) (a.eval x))
  (hf:opM T d ρ s.ob fresh (.store t ad x)=some (p,v,us)) (hp:p):QbE X s a w ⟨dst,.store t ad x,type,pos,after,guard⟩ v us:=by
 have hf:=QyT (show stK T ad (QnQ T ρ s.ob t ad x)=some (p,v,us)from hf)
 unfold QnQ at hf;split at hf
 ·rename_i p0 vx us0 hab
  split at hf
  ·rename_i p1 v1 us1 hst
   simp only[KA,KC]at hf
   obtain⟨rfl,rfl,rfl⟩:=hf;obtain⟨own',g1,g2,g3⟩:=Qz5 c hab hp.1 hx;have hd:=Qpn (type:=type) (pos:=pos) (after:=after) (guard:=guard) hty g1 hdn (had.keep g2) g3 hst hp.2
   intro K Q hK;refine hd K Q fun u w' hc=>hK u w' ?_
   dsimp only at hc ⊢;rw[Qb6]at hc;exact hc
  ·cases hf
 ·exact Qpn hty c hdn had hx hf hp
end
end Go.Own
