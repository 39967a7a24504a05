/- Own contracts. Conditions: as each theorem states them. -/
import Derived.Test.YtnmkpepdacbfaaaGreatDoorRc11
set_option linter.unusedSimpArgs false
set_option linter.unusedVariables false
set_option maxRecDepth 20000
set_option maxHeartbeats 4000000
namespace Go.Own
open Go Go.Proofs
def sam(c:Nat)(rs:List (List Int))(m set:Int)(i j:Nat):Bool:=Q7 set (agL m (rs.getD i []) (rs.getD j []) c)
theorem Qui{c:Nat}{rs:List (List Int)}{m set:Int}{i j:Nat}(hc:c≤5)(hs:R5 set):sam c rs m set i j=true↔∀b:Nat,b<5→Qt set (b:Nat)=true→b<c∧eqc m ((rs.getD i []).getD b 0) ((rs.getD j []).getD b 0)=true:=by
 unfold sam;obtain⟨h1,h2⟩:=@Qnj m (rs.getD i []) (rs.getD j []) c hc;have hr:=Qbe (m:=m) (a:=rs.getD i []) (b:=rs.getD j []) hc
 rw[Qak hs hr];constructor
 ·intro h b hb hset
  have:=h ⟨b,hb⟩ hset
  dsimp only at this;rw[h2 b hb,Bool.and_eq_true,decide_eq_true_eq]at this;exact this
 ·intro h b hset
  rw[h2 b.val b.isLt,Bool.and_eq_true,decide_eq_true_eq];exact h b.val b.isLt hset
theorem Qzj{m a b c:Int}(h1:eqc m a b=true)(h2:eqc m a c=true):eqc m b c=true:=by
 unfold eqc at *;simp only[Bool.and_eq_true,beq_iff_eq]at *
 obtain⟨⟨h3,h4⟩,h5⟩:=h1;obtain⟨⟨h6,h7⟩,h8⟩:=h2;exact⟨⟨h3,by omega⟩,by rw[←h4];exact h5⟩
theorem QBx{m a b:Int}(h1:eqc m a b=true):eqc m b a=true:=by
 unfold eqc at *;simp only[Bool.and_eq_true,beq_iff_eq]at *
 obtain⟨⟨h3,h4⟩,h5⟩:=h1;exact⟨⟨h3,by omega⟩,by rw[←h4];exact h5⟩
structure PEq(S:Nat→Nat→Bool):Prop where
  sy:∀i j,S i j=true→S j i=true
  tri:∀i j k,S i j=true→S i k=true→S j k=true
theorem Qog{c:Nat}{rs:List (List Int)}{m set:Int}(hc:c≤5)(hs:R5 set):PEq (sam c rs m set) where
 sy:=fun i j h=>by
  rw[Qui hc hs]at *;exact fun b hb hset=>⟨(h b hb hset).1,QBx (h b hb hset).2⟩
 tri:=fun i j k h1 h2=>by
  rw[Qui hc hs]at *;exact fun b hb hset=>⟨(h1 b hb hset).1,Qzj (h1 b hb hset).2 (h2 b hb hset).2⟩
def clK(S:Nat→Nat→Bool)(i:Nat):Nat→List Int
 | 0=>[((i:Nat):Int)]
 | t+1=>clK S i t++(if S i (i+1+t)then [((i+1+t:Nat):Int)]else [])
def cl(S:Nat→Nat→Bool)(N i:Nat):List Int:=clK S i (N-(i+1))
def ouK(S:Nat→Nat→Bool)(N:Nat):Nat→List (List Int)×List Int
 | 0=>([],[])
 | i+1=>if(ouK S N i).2.contains ((i:Nat):Int)then ouK S N i else if 1<(cl S N i).length then((ouK S N i).1++[cl S N i],(ouK S N i).2++cl S N i)else ouK S N i
theorem Qkt{S:Nat→Nat→Bool}{i:Nat}:∀{t:Nat},(clK S i t).length≤t+1
 | 0=>Nat.le_refl _
 | t+1=>by
  have:=@Qkt S i t
  rw[clK,List.length_append];split<;>simp<;>omega
theorem Qnw{S:Nat→Nat→Bool}{i:Nat}{x:Int}:∀{t:Nat},x∈clK S i t↔x=(i:Nat)∨∃k:Nat,i<k∧k<i+1+t∧S i k=true∧x=(k:Nat)
 | 0=>by
  rw[clK,List.mem_singleton];constructor
  ·exact .inl
  ·rintro(h|⟨k,h1,h2,_⟩)
   ·exact h
   ·omega
 | t+1=>by
  rw[clK,List.mem_append,@Qnw S i x t];constructor
  ·rintro((h|⟨k,h1,h2,h3,h4⟩)|h)
   ·exact .inl h
   ·exact .inr ⟨k,h1,by omega,h3,h4⟩
   ·split at h
    ·rename_i hs
     rw[List.mem_singleton]at h;exact .inr ⟨i+1+t,by omega,by omega,hs,h⟩
    ·cases h
  ·rintro(h|⟨k,h1,h2,h3,h4⟩)
   ·exact .inl (.inl h)
   ·by_cases e:k=i+1+t
    ·subst e
     right;rw[if_pos h3,List.mem_singleton];exact h4
    ·exact .inl (.inr ⟨k,h1,by omega,h3,h4⟩)
theorem Qh3{S:Nat→Nat→Bool}{i:Nat}:∀{t:Nat},(clK S i t).Nodup
 | 0=>by simp[clK]
 | t+1=>by
  rw[clK,List.nodup_append];refine⟨@Qh3 S i t,by split<;>simp,fun a ha b hb=>?_⟩
  split at hb
  ·rw[List.mem_singleton]at hb
   subst hb;rw[Qnw]at ha;rcases ha with h|⟨k,h1,h2,h3,h4⟩
   ·omega
   ·omega
  ·cases hb
theorem QtZ{S:Nat→Nat→Bool}{N:Nat}{x:Int}:∀{n:Nat},x∈(ouK S N n).2→∃i,i<n∧1<(cl S N i).length∧x∈cl S N i
 | 0,h=>nomatch h
 | n+1,h=>by
  rw[ouK]at h;have ih:=@QtZ S N x n
  split at h
  ·obtain⟨i,h1,h2⟩:=ih h;exact⟨i,by omega,h2⟩
  ·split at h
   ·rename_i hl
    rw[List.mem_append]at h;rcases h with h|h
    ·obtain⟨i,h1,h2⟩:=ih h;exact⟨i,by omega,h2⟩
    ·exact⟨n,by omega,hl,h⟩
   ·obtain⟨i,h1,h2⟩:=ih h;exact⟨i,by omega,h2⟩
theorem QzX{S:Nat→Nat→Bool}{N n:Nat}{x:Int}(h:x∈(ouK S N n).2):x∈(ouK S N (n+1)).2:=by
 rw[ouK];split
 ·exact h
 ·split
  ·exact List.mem_append_left _ h
  ·exact h
theorem QpP{S:Nat→Nat→Bool}{N:Nat}{x:Int}{n:Nat}:∀{d:Nat},x∈(ouK S N n).2→x∈(ouK S N (n+d)).2
 | 0,h=>h
 | d+1,h=>QzX (QpP (d:=d) h)
theorem QzW{S:Nat→Nat→Bool}{N i n:Nat}(hi:i<n)(hl:1<(cl S N i).length)(hd:((i:Nat):Int)∉(ouK S N i).2){x:Int}(hx:x∈cl S N i):x∈(ouK S N n).2:=by
 have h1:x∈(ouK S N (i+1)).2:=by
  rw[ouK,if_neg (by rw[List.contains_iff_mem];exact hd),if_pos hl]
  exact List.mem_append_right _ hx
 have:=@QpP S N x (i+1) (n-(i+1)) h1
 rwa [show i+1+(n-(i+1))=n by omega]at this
theorem QpO{S:Nat→Nat→Bool}{N:Nat}{x:Int}:∀{n:Nat},x∈(ouK S N n).2→∃i,i<n∧((i:Nat):Int)∉(ouK S N i).2∧1<(cl S N i).length∧x∈cl S N i
 | 0,h=>nomatch h
 | n+1,h=>by
  rw[ouK]at h;have ih:=@QpO S N x n
  split at h
  ·obtain⟨i,h1,h2⟩:=ih h;exact⟨i,by omega,h2⟩
  ·rename_i hc
   split at h
   ·rename_i hl
    rw[List.mem_append]at h;rcases h with h|h
    ·obtain⟨i,h1,h2⟩:=ih h;exact⟨i,by omega,h2⟩
    ·exact⟨n,by omega,by rwa [List.contains_iff_mem]at hc,hl,h⟩
   ·obtain⟨i,h1,h2⟩:=ih h;exact⟨i,by omega,h2⟩
theorem QgK{S:Nat→Nat→Bool}{N i:Nat}(hi:i<N){x:Int}:x∈cl S N i↔x=(i:Nat)∨∃k:Nat,i<k∧k<N∧S i k=true∧x=(k:Nat):=by
 unfold cl;rw[Qnw];constructor
 ·rintro(h|⟨k,h1,h2,h3⟩)
  ·exact .inl h
  ·exact .inr ⟨k,h1,by omega,h3⟩
 ·rintro(h|⟨k,h1,h2,h3⟩)
  ·exact .inl h
  ·exact .inr ⟨k,h1,by omega,h3⟩
theorem QtX{S:Nat→Nat→Bool}{N i k:Nat}(hS:PEq S)(hk:k<N)(hik:i<k)(hd:((i:Nat):Int)∉(ouK S N i).2)(hs:S i k=true):((k:Nat):Int)∉(ouK S N i).2:=by
 intro hm;obtain⟨j,h1,h2,h3,h4⟩:=QpO hm;rw[QgK (by omega)]at h4
 rcases h4 with h4|⟨k',h5,h6,h7,h8⟩
 ·omega
 ·have e:k'=k:=by omega
  subst e;have hji:S j i=true:=hS.sy _ _ (hS.tri k' i j (hS.sy _ _ hs) (hS.sy _ _ h7))
  exact hd (QzW h1 h3 h2 ((QgK (by omega)).2 (.inr ⟨i,h1,by omega,hji,rfl⟩)))
theorem Qmz{S:Nat→Nat→Bool}{N:Nat}(hS:PEq S):∀{n:Nat},n≤N→(ouK S N n).2.Nodup
 | 0,_=>by simp[ouK]
 | n+1,hn=>by
  have ih:=@Qmz S N hS n (by omega)
  rw[ouK];split
  ·exact ih
  ·rename_i hc
   rw[List.contains_iff_mem]at hc;split
   ·rw[List.nodup_append]
    refine⟨ih,Qh3,fun a ha b hb e=>?_⟩
    subst e;rw[QgK (by omega)]at hb
    rcases hb with h|⟨k,h1,h2,h3,h4⟩
    ·rw[h]at ha;exact hc ha
    ·rw[h4]at ha;exact QtX hS h2 h1 hc h3 ha
   ·exact ih
theorem QtY{S:Nat→Nat→Bool}{N n:Nat}(hS:PEq S)(hn:n≤N):(ouK S N n).2.length≤N:=by
 have h:=List.Nodup.length_le_of_subset (Qmz hS hn) (l₂:=(List.range N).map fun k=>((k:Nat):Int)) fun x hx=>by
  obtain⟨i,h1,_,h3⟩:=QtZ hx;rw[QgK (by omega)]at h3
  rw[List.mem_map];rcases h3 with h|⟨k,h4,h5,_,h6⟩
  ·exact⟨i,by rw[List.mem_range];omega,h.symm⟩
  ·exact⟨k,by rw[List.mem_range];omega,h6.symm⟩
 simpa using h
theorem Qt0{S:Nat→Nat→Bool}{N:Nat}{l:List Int}:∀{n:Nat},l∈(ouK S N n).1→∃i,i<n∧l=cl S N i
 | 0,h=>nomatch h
 | n+1,h=>by
  rw[ouK]at h;have ih:=@Qt0 S N l n
  split at h
  ·obtain⟨i,h1,h2⟩:=ih h;exact⟨i,by omega,h2⟩
  ·split at h
   ·rw[List.mem_append,List.mem_singleton]at h
    rcases h with h|h
    ·obtain⟨i,h1,h2⟩:=ih h;exact⟨i,by omega,h2⟩
    ·exact⟨n,by omega,h⟩
   ·obtain⟨i,h1,h2⟩:=ih h;exact⟨i,by omega,h2⟩
theorem Qez{S:Nat→Nat→Bool}{N:Nat}:∀{n:Nat},(ouK S N n).1.length≤n
 | 0=>Nat.le_refl _
 | n+1=>by
  have ih:=@Qez S N n
  rw[ouK];split
  ·omega
  ·split
   ·rw[List.length_append,List.length_singleton];omega
   ·omega
def QiW:List (List Int)→Nat
 | []=>0
 | l::ls=>l.length+QiW ls
theorem QiX{l:List Int}:∀{ls:List (List Int)},QiW (ls++[l])=QiW ls+l.length
 | []=>by simp[QiW]
 | x::ls=>by rw[List.cons_append,QiW,@QiX l ls,QiW];omega
theorem QpQ{S:Nat→Nat→Bool}{N:Nat}:∀{n:Nat},QiW (ouK S N n).1=(ouK S N n).2.length
 | 0=>rfl
 | n+1=>by
  have ih:=@QpQ S N n
  rw[ouK];split
  ·exact ih
  ·split
   ·rw[QiX,List.length_append,ih]
   ·exact ih
def QjC(E:Int→Int→Bool)(l:List Int)(p:Nat):Nat→Int
 | 0=>1
 | q+1=>QjC E l p q+(if(q !=p&&E (l.getD p 0) (l.getD q 0))then 1 else 0)
def QdI(E:Int→Int→Bool)(l:List Int):Nat→Int
 | 0=>0
 | p+1=>max (QdI E l p) (QjC E l p l.length)
def Qlf(E:Int→Int→Bool)(ls:List (List Int)):Nat→Int
 | 0=>0
 | k+1=>Qlf E ls k+((ls.getD k []).length-QdI E (ls.getD k []) (ls.getD k []).length)
theorem Qku{E:Int→Int→Bool}{l:List Int}{p:Nat}:∀{q:Nat},1≤QjC E l p q∧QjC E l p q≤q+1
 | 0=>⟨Int.le_refl _,Int.le_refl _⟩
 | q+1=>by
  have:=@Qku E l p q
  rw[QjC];split<;>omega
theorem QoN{E:Int→Int→Bool}{l:List Int}{p:Nat}:∀{q:Nat},QjC E l p q≤q+(if p<q then 0 else 1)
 | 0=>by simp[QjC]
 | q+1=>by
  have:=@QoN E l p q
  rw[QjC]
  by_cases e:q=p
  ·subst e
   rw[bne_self_eq_false,Bool.false_and,if_neg (by decide),if_pos (by omega)]
   rw[if_neg (by omega)]at this
   omega
  ·by_cases h:p<q
   ·have hc:p<q+1:=by omega
    rw[if_pos h]at this;rw[if_pos hc];split<;>omega
   ·have hc:¬p<q+1:=by omega
    rw[if_neg h]at this;rw[if_neg hc];split<;>omega
theorem Qhx{E:Int→Int→Bool}{l:List Int}:∀{p:Nat},p≤l.length→0≤QdI E l p∧QdI E l p≤l.length
 | 0,_=>⟨Int.le_refl _,by simp[QdI]⟩
 | p+1,hp=>by
  have ih:=@Qhx E l p (by omega)
  have h1:=@QoN E l p l.length
  have h2:=@Qku E l p l.length
  rw[if_pos (by omega)]at h1
  rw[QdI];omega
theorem QuB{ls:List (List Int)}{k:Nat}(h:k<ls.length):QiW (ls.take (k+1))=QiW (ls.take k)+(ls.getD k []).length:=by
 rw[Qf h [],QiX]
theorem Qlg{E:Int→Int→Bool}{ls:List (List Int)}:∀{k:Nat},k≤ls.length→0≤Qlf E ls k∧Qlf E ls k≤QiW (ls.take k)
 | 0,_=>⟨Int.le_refl _,by simp[Qlf]⟩
 | k+1,hk=>by
  have ih:=@Qlg E ls k (by omega)
  have h1:=@Qhx E (ls.getD k []) (ls.getD k []).length (Nat.le_refl _)
  rw[Qlf,QuB (by omega)]
  omega
end Go.Own

namespace Go.Own
open Go Go.Proofs
attribute [local go_sem] Tryz.results32 Tryz.results70 Tryz.results33 Tryz.results36
abbrev Cu:=Nat×Int
def WfB(l:List (List D)):Prop:=l=bL (unB l)∧l.length≤maxLen
theorem WfB.ex{l:List (List D)}(h:WfB l):∃bs,l=bL bs∧bs.length≤maxLen:=⟨unB l,h.1,by have:=h.2;rw[h.1,QaI]at this;exact this⟩
theorem Qyc{bs:List Int}:WfB (bL bs)↔bs.length≤maxLen:=by simp[WfB,QdG,QaI]
def cuO(l:List (List D))(s:Cu):List Arg:=[.box [.sl 1 l,.v (.int .i64 (s.1:Nat)),.v (.int .i64 s.2)]]
def rI(n:Int):List RV:=[⟨false,[.d (.v (.int .i64 n))]⟩]
def rB(b:Bool):List RV:=[⟨false,[.d (.v (.bool b))]⟩]
attribute [local go_sem] QdG QaI Qyc
attribute [local go_sem] cuO rI rB
def cuP(bs:List Int)(s:Cu):List PC:=[.n (.sl 1 (bL bs)),.d (.v (.int .i64 (s.1:Nat))),.d (.v (.int .i64 s.2))]
theorem Qmc{xs:List Int}{n:Int}:iL xs++[[D.v (.int .i64 n)]]=iL (xs++[n]):=by simp[iL]
end Go.Own

namespace Go.Own
open Go Go.Proofs
attribute [local go_sem] Tryz.results71
attribute [local go_sem] cuO rI rB cuP QdG QaI Qyc
theorem QmL{rs:List (List Int)}{r:List Int}:sL rs++[[D.sl 1 (iL r)]]=sL (rs++[r]):=by simp[sL]
theorem Qll{rs:List (List Int)}{r:List Int}{d:List D}:(sL (rs++[r])).getD rs.length d=[D.sl 1 (iL r)]:=by simp[sL,List.getD_eq_getElem?_getD]
theorem QBB{xs:List Int}:∀e∈iL xs,∀x∈e,QaH x:=by
 intro e he x hx;obtain⟨n,_,rfl⟩:=List.mem_map.1 he;rw[List.mem_singleton]at hx;rw[hx];trivial
theorem QkM{xs:List Int}:(∀e∈iL xs,∀x∈e,QaH x)↔True:=⟨fun _=>trivial,fun _=>QBB⟩
end Go.Own

namespace Go.Own
open Go Go.Proofs
attribute [local go_sem] QyN QqF Tryz.results67
theorem Qvd:∀l x:Fin 32,(Q6 .and .i64 ((x.val:Nat):Int) ((l.val:Nat):Int)==((l.val:Nat):Int))=Q7 ((l.val:Nat):Int) ((x.val:Nat):Int):=by decide+kernel
theorem Qvc{l x:Int}(hl:R5 l)(hx:R5 x):(Q6 .and .i64 x l==l)=Q7 l x:=by
 obtain⟨l,rfl⟩:=hl.fin;obtain⟨x,rfl⟩:=hx.fin;exact Qvd l x
theorem QkL{xs ys:List Int}:iL xs++iL ys=iL (xs++ys):=by simp[iL]
def QyL:Qb:=⟨[],false,fun
 | [.agg [.v (.int .i64 c),.sl 1 t],.one (.v (.int .i64 m)),.one (.v (.int .i64 set))]=>some (WfS t∧QK c (unS t)=true∧QH m=true∧Ql c set=true,[⟨false,[.own 1 (sL (ouK (sam c.toNat (unS t) m set) (unS t).length (unS t).length).1) 1]⟩],[])
 | _=>none⟩
attribute [local go_sem] QyL
theorem Qsv:Qa E0 67 QyL:=by
 refine QE (E:=E0) (T:=mkT Tryz.prog [(118,QyN),(79,QqF)] false (fun d=>d==54) true (fun _=>false)) (Qd (E:=E0) (.cons Qtb (.cons Qmn .nil))) (fn:=Tryz.f67) Tryz.func67 (by kernel_rfl) rfl Qc (by kernel_rfl) rfl ?_
 intro args p rs ms hr;unfold QyL at hr;dsimp only at hr;split at hr;rotate_left
 ·cases hr
 rename_i c t m set;cases hr;refine⟨rfl,rfl,nLe rfl,?_⟩
 have hm:=mxE;rintro⟨h1,ht,hmo,hat⟩ bs;obtain⟨rs,rfl,hx,hy⟩:=h1.ex;clear h1;rw[Qz]at ht ⊢;have hs5:R5 set:=by have:=Qp hat;exact⟨this.2.2.1,this.2.2.2⟩
 have ht0:=ht
 obtain⟨C,rfl,c1,c5,h40,hlen⟩:=QL ht;rw[Int.toNat_natCast];have hS:=@Qog C rs m set c5 hs5
 have hsam:∀i j,(Q6 .and .i64 (agL m (rs.getD i []) (rs.getD j []) C) set==set)=sam C rs m set i j:=fun i j=>Qvc hs5 (Qbe c5)
 generalize hSS:sam C rs m set=S at hS hsam ⊢;have e0:sL []=[]:=rfl
 have e1:iL []=[]:=rfl
 have hol:=fun n=>@Qez S rs.length n
 have hdl:=fun n (hn:n≤rs.length)=>QtY hS hn
 clear ht hlen;(repeat' first|refine gA fun _=>?_|apply fkI<;>intro hb<;>try simp only[ew,e0,e1]at hb|simp only[go_sem,simprocAttr, *])
 refine lpI {ι:=Nat,rs:=[(10,12),(14,58)],mods:=[(9,fun i=> .one (.d (.v (.int .i64 i)))),(7,fun i=> .one (.own 1 (sL (ouK S rs.length i).1) 1)),(8,fun i=> .one (.own 1 (iL (ouK S rs.length i).2) 1))],boxes:=[(3,fun _=>[.d (.v (.int .i64 C)),.d (.sl 1 (sL rs))])],arrs:=[],ok:=fun i=>i≤rs.length,mu:=fun i=>rs.length-i} rfl 0 (Nat.zero_le _) ?_ fun i hi=>?_
 ·have e2:ouK S rs.length 0=([],[]):=rfl
  clear hol hdl hsam;(repeat' first|refine gA fun _=>?_|apply fkI<;>intro hb<;>try simp only[ew,e0,e1,e2]at hb|simp only[go_sem,simprocAttr, *])
  all_goals first|rfl|skip
 ·dsimp only at i hi
  have o1:=hol i
  have o2:=hdl i hi
  have o3:(ouK S rs.length i).1.length≤maxLen:=Nat.le_trans (show _≤40 by omega) (by decide)
  have o4:(ouK S rs.length i).2.length≤maxLen:=Nat.le_trans (show _≤40 by omega) (by decide)
  clear hol hdl
  by_cases h5:i<rs.length
  ·have eS:ouK S rs.length (i+1)=if(ouK S rs.length i).2.contains ((i:Nat):Int)then ouK S rs.length i else if 1<(cl S rs.length i).length then((ouK S rs.length i).1++[cl S rs.length i],(ouK S rs.length i).2++cl S rs.length i)else ouK S rs.length i:=rfl
   generalize hP:ouK S rs.length i=P at o1 o2 o3 o4 eS;cases hc:P.2.contains ((i:Nat):Int)
   ·rw[hc,if_neg (by decide)]at eS
    have hkl:=fun t=>@Qkt S i t
    (repeat' first|refine gA fun _=>?_|apply fkI<;>intro hb<;>try simp only[ew,hP,hc,e1]at hb|simp only[go_sem,simprocAttr, *,hc])
    refine lpI {ι:=Nat,rs:=[(28,48)],mods:=[(11,fun t=> .one (.d (.v (.int .i64 ((i+1+t:Nat):Int))))),(10,fun t=> .one (.own 1 (iL (clK S i t)) 1))],boxes:=[(3,fun _=>[.d (.v (.int .i64 C)),.d (.sl 1 (sL rs))])],arrs:=[(7,fun _=>(1,sL P.1,1)),(8,fun _=>(1,iL P.2,1))],ok:=fun t=>i+1+t≤rs.length,mu:=fun t=>rs.length-t} rfl 0 (by omega) ?_ fun t htt=>?_
    ·have e3:iL (clK S i 0)=[[D.v (.int .i64 i)]]:=rfl
     clear hkl hsam;(repeat' first|refine gA fun _=>?_|apply fkI<;>intro hb<;>try simp only[ew,e3]at hb|simp only[go_sem,simprocAttr, *])
     all_goals first|rfl|skip
    ·dsimp only at t htt
     have k1:=hkl t
     clear hkl
     by_cases h6:i+1+t<rs.length
     ·have eK:clK S i (t+1)=clK S i t++(if S i (i+1+t)then [((i+1+t:Nat):Int)]else []):=rfl
      have hsk:=hsam i (i+1+t)
      clear hsam;have k2:(clK S i t).length≤41:=by omega
      have k3:(clK S i t).length≤maxLen:=Nat.le_trans k2 (by decide)
      generalize hQ:clK S i t=Q at k1 k2 k3 eK;generalize hK:i+1+t=K at h6 htt hsk eK;have eK1:((i+1+(t+1):Nat):Int)=((K:Nat):Int)+1:=by omega
      cases hb:S i K
      ·rw[hb,if_neg (by decide),List.append_nil]at eK
       (repeat' first|refine gA fun _=>?_|apply fkI<;>intro hb<;>try simp only[ew,hQ,hK,hsk,hb]at hb|simp only[go_sem,simprocAttr, *,hb])
       refine lpN (t+1) (by dsimp only;omega) (by dsimp only;omega) ?_
       (repeat' first|refine gA fun _=>?_|apply fkI<;>intro hb<;>try simp only[ew,eK,eK1]at hb|simp only[go_sem,simprocAttr, *])
       all_goals first|rfl|skip
      ·rw[hb,if_pos rfl]at eK
       (repeat' first|refine gA fun _=>?_|apply fkI<;>intro hb<;>try simp only[ew,hQ,hK,hsk,hb,Qmc]at hb|simp only[go_sem,simprocAttr, *,hb,Qmc])
       refine lpN (t+1) (by dsimp only;omega) (by dsimp only;omega) ?_
       (repeat' first|refine gA fun _=>?_|apply fkI<;>intro hb<;>try simp only[ew,eK,eK1,Qmc]at hb|simp only[go_sem,simprocAttr, *,Qmc])
       all_goals first|rfl|skip
     ·have e6:i+1+t=rs.length:=by omega
      have ecl:clK S i t=cl S rs.length i:=by unfold cl;congr 1;omega
      rw[ecl]at k1;have k3:(cl S rs.length i).length≤41:=by omega
      have k4:(cl S rs.length i).length≤maxLen:=Nat.le_trans k3 (by decide)
      clear hsam;generalize hQ:cl S rs.length i=Q at k1 k3 k4 eS ecl
      by_cases h7:1<Q.length
      ·have d7:decide ((Q.length:Int)>1)=true:=decide_eq_true (by omega)
       rw[if_pos h7]at eS;have eS1:=congrArg Prod.fst eS
       have eS2:=congrArg Prod.snd eS
       dsimp only at eS1 eS2;clear eS;(repeat' first|refine gA fun _=>?_|apply fkI<;>intro hb<;>try simp only[ew,e6,ecl,d7,QmL,QkM,Qll,QkL]at hb|simp only[go_sem,simprocAttr, *,QmL,QkM,Qll,QkL])
       refine lpN (i+1) (by dsimp only;omega) (by dsimp only;omega) ?_
       (repeat' first|refine gA fun _=>?_|apply fkI<;>intro hb<;>try simp only[ew,eS1,eS2,QmL,QkM,Qll,QkL]at hb|simp only[go_sem,simprocAttr, *,QmL,QkM,Qll,QkL])
       all_goals first|rfl|skip
      ·have d7:decide ((Q.length:Int)>1)=false:=decide_eq_false (by omega)
       rw[if_neg h7]at eS;(repeat' first|refine gA fun _=>?_|apply fkI<;>intro hb<;>try simp only[ew,e6,ecl,d7]at hb|simp only[go_sem,simprocAttr, *])
       refine lpN (i+1) (by dsimp only;omega) (by dsimp only;omega) ?_
       (repeat' first|refine gA fun _=>?_|apply fkI<;>intro hb<;>try simp only[ew,eS]at hb|simp only[go_sem,simprocAttr, *])
       all_goals first|rfl|skip
   ·rw[hc,if_pos rfl]at eS
    clear hsam;(repeat' first|refine gA fun _=>?_|apply fkI<;>intro hb<;>try simp only[ew,hP,hc]at hb|simp only[go_sem,simprocAttr, *,hc])
    refine lpN (i+1) (by dsimp only;omega) (by dsimp only;omega) ?_
    (repeat' first|refine gA fun _=>?_|apply fkI<;>intro hb<;>try simp only[ew,eS]at hb|simp only[go_sem,simprocAttr, *])
    all_goals first|rfl|skip
  ·have e5:i=rs.length:=by omega
   subst e5;clear hsam;exact gQ
end Go.Own
