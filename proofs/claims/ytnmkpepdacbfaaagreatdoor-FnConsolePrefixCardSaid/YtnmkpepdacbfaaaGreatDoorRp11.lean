/- Contracts. Conditions: as stated. -/
import Derived.Test.YtnmkpepdacbfaaaGreatDoorRp10
set_option linter.all false
set_option maxRecDepth 20000
set_option maxHeartbeats 2000000
namespace Go.Own
open Go Go.Proofs
def sam(c:Nat)(rs:List (List Int))(m set:Int)(i j:Nat):Bool:=Qab set (agL m (rs.getD i []) (rs.getD j []) c)
theorem QvN{c:Nat}{rs:List (List Int)}{m set:Int}{i j:Nat}(hc:c≤5)(hs:R5 set):sam c rs m set i j=true↔∀b:Nat,b<5→Qu set (b:Nat)=true→b<c∧eqc m ((rs.getD i []).getD b 0) ((rs.getD j []).getD b 0)=true:=by
 unfold sam;obtain⟨h1,h2⟩:=@Qod m (rs.getD i []) (rs.getD j []) c hc;have hr:=Qbq (m:=m) (a:=rs.getD i []) (b:=rs.getD j []) hc
 rw[Qaq hs hr];constructor
 ·intro h b hb hset
  have:=h ⟨b,hb⟩ hset
  dsimp only at this;rw[h2 b hb,KB,KK]at this;exact this
 ·intro h b hset
  rw[h2 b.val b.isLt,KB,KK];exact h b.val b.isLt hset
theorem QA2{m a b c:Int}(h1:eqc m a b=true)(h2:eqc m a c=true):eqc m b c=true:=by
 unfold eqc at *;simp only[KB,Kh]at *
 obtain⟨⟨h3,h4⟩,h5⟩:=h1;obtain⟨⟨h6,h7⟩,h8⟩:=h2;exact⟨⟨h3,by omega⟩,by rw[←h4];exact h5⟩
theorem QDy{m a b:Int}(h1:eqc m a b=true):eqc m b a=true:=by
 unfold eqc at *;simp only[KB,Kh]at *
 obtain⟨⟨h3,h4⟩,h5⟩:=h1;exact⟨⟨h3,by omega⟩,by rw[←h4];exact h5⟩
structure PEq(S:Nat→Nat→Bool):Prop where
  sy:∀i j,S i j=true→S j i=true
  tri:∀i j k,S i j=true→S i k=true→S j k=true
theorem Qpf{c:Nat}{rs:List (List Int)}{m set:Int}(hc:c≤5)(hs:R5 set):PEq (sam c rs m set) where
 sy:=fun i j h=>by
  rw[QvN hc hs]at *;exact fun b hb hset=>⟨(h b hb hset).1,QDy (h b hb hset).2⟩
 tri:=fun i j k h1 h2=>by
  rw[QvN hc hs]at *;exact fun b hb hset=>⟨(h1 b hb hset).1,QA2 (h1 b hb hset).2 (h2 b hb hset).2⟩
def clK(S:Nat→Nat→Bool)(i:Nat):Nat→List Int
 | 0=>[((i:Nat):Int)]
 | t+1=>clK S i t++(if S i (i+1+t)then [((i+1+t:Nat):Int)]else [])
def cl(S:Nat→Nat→Bool)(N i:Nat):List Int:=clK S i (N-(i+1))
def ouK(S:Nat→Nat→Bool)(N:Nat):Nat→List (List Int)×List Int
 | 0=>([],[])
 | i+1=>if(ouK S N i).2.contains ((i:Nat):Int)then ouK S N i else if 1<(cl S N i).length then((ouK S N i).1++[cl S N i],(ouK S N i).2++cl S N i)else ouK S N i
theorem Qla{S:Nat→Nat→Bool}{i:Nat}:∀{t:Nat},(clK S i t).length≤t+1
 | 0=>KP _
 | t+1=>by
  have:=@Qla S i t
  rw[clK,KN];split<;>simp<;>omega
theorem Qot{S:Nat→Nat→Bool}{i:Nat}{x:Int}:∀{t:Nat},x∈clK S i t↔x=(i:Nat)∨∃k:Nat,i<k∧k<i+1+t∧S i k=true∧x=(k:Nat)
 | 0=>by
  rw[clK,KH];constructor
  ·exact .inl
  ·rintro(h|⟨k,h1,h2,_⟩)
   ·exact h
   ·omega
 | t+1=>by
  rw[clK,KG,@Qot S i x t];constructor
  ·rintro((h|⟨k,h1,h2,h3,h4⟩)|h)
   ·exact .inl h
   ·exact .inr ⟨k,h1,by omega,h3,h4⟩
   ·split at h
    ·rename_i hs
     rw[KH]at h;exact .inr ⟨i+1+t,by omega,by omega,hs,h⟩
    ·cases h
  ·rintro(h|⟨k,h1,h2,h3,h4⟩)
   ·exact .inl (.inl h)
   ·by_cases e:k=i+1+t
    ·subst e
     right;rw[if_pos h3,KH];exact h4
    ·exact .inl (.inr ⟨k,h1,by omega,h3,h4⟩)
theorem QiC{S:Nat→Nat→Bool}{i:Nat}:∀{t:Nat},(clK S i t).Nodup
 | 0=>by simp[clK]
 | t+1=>by
  rw[clK,Km];refine⟨@QiC S i t,by split<;>simp,fun a ha b hb=>?_⟩
  split at hb
  ·rw[KH]at hb
   subst hb;rw[Qot]at ha;rcases ha with h|⟨k,h1,h2,h3,h4⟩
   ·omega
   ·omega
  ·cases hb
theorem Qvq{S:Nat→Nat→Bool}{N:Nat}{x:Int}:∀{n:Nat},x∈(ouK S N n).2→∃i,i<n∧1<(cl S N i).length∧x∈cl S N i
 | 0,h=>nomatch h
 | n+1,h=>by
  rw[ouK]at h;have ih:=@Qvq S N x n
  split at h
  ·obtain⟨i,h1,h2⟩:=ih h;exact⟨i,by omega,h2⟩
  ·split at h
   ·rename_i hl
    rw[KG]at h;rcases h with h|h
    ·obtain⟨i,h1,h2⟩:=ih h;exact⟨i,by omega,h2⟩
    ·exact⟨n,by omega,hl,h⟩
   ·obtain⟨i,h1,h2⟩:=ih h;exact⟨i,by omega,h2⟩
theorem QBH{S:Nat→Nat→Bool}{N n:Nat}{x:Int}(h:x∈(ouK S N n).2):x∈(ouK S N (n+1)).2:=by
 rw[ouK];split
 ·exact h
 ·split
  ·exact YH _ h
  ·exact h
theorem QqU{S:Nat→Nat→Bool}{N:Nat}{x:Int}{n:Nat}:∀{d:Nat},x∈(ouK S N n).2→x∈(ouK S N (n+d)).2
 | 0,h=>h
 | d+1,h=>QBH (QqU (d:=d) h)
theorem QBG{S:Nat→Nat→Bool}{N i n:Nat}(hi:i<n)(hl:1<(cl S N i).length)(hd:((i:Nat):Int)∉(ouK S N i).2){x:Int}(hx:x∈cl S N i):x∈(ouK S N n).2:=by
 have h1:x∈(ouK S N (i+1)).2:=by
  rw[ouK,if_neg (by rw[Kz];exact hd),if_pos hl]
  exact List.mem_append_right _ hx
 have:=@QqU S N x (i+1) (n-(i+1)) h1
 rwa [show i+1+(n-(i+1))=n by omega]at this
theorem QqT{S:Nat→Nat→Bool}{N:Nat}{x:Int}:∀{n:Nat},x∈(ouK S N n).2→∃i,i<n∧((i:Nat):Int)∉(ouK S N i).2∧1<(cl S N i).length∧x∈cl S N i
 | 0,h=>nomatch h
 | n+1,h=>by
  rw[ouK]at h;have ih:=@QqT S N x n
  split at h
  ·obtain⟨i,h1,h2⟩:=ih h;exact⟨i,by omega,h2⟩
  ·rename_i hc
   split at h
   ·rename_i hl
    rw[KG]at h;rcases h with h|h
    ·obtain⟨i,h1,h2⟩:=ih h;exact⟨i,by omega,h2⟩
    ·exact⟨n,by omega,by rwa [Kz]at hc,hl,h⟩
   ·obtain⟨i,h1,h2⟩:=ih h;exact⟨i,by omega,h2⟩
theorem Qhi{S:Nat→Nat→Bool}{N i:Nat}(hi:i<N){x:Int}:x∈cl S N i↔x=(i:Nat)∨∃k:Nat,i<k∧k<N∧S i k=true∧x=(k:Nat):=by
 unfold cl;rw[Qot];constructor
 ·rintro(h|⟨k,h1,h2,h3⟩)
  ·exact .inl h
  ·exact .inr ⟨k,h1,by omega,h3⟩
 ·rintro(h|⟨k,h1,h2,h3⟩)
  ·exact .inl h
  ·exact .inr ⟨k,h1,by omega,h3⟩
theorem Qvo{S:Nat→Nat→Bool}{N i k:Nat}(hS:PEq S)(hk:k<N)(hik:i<k)(hd:((i:Nat):Int)∉(ouK S N i).2)(hs:S i k=true):((k:Nat):Int)∉(ouK S N i).2:=by
 intro hm;obtain⟨j,h1,h2,h3,h4⟩:=QqT hm;rw[Qhi (by omega)]at h4
 rcases h4 with h4|⟨k',h5,h6,h7,h8⟩
 ·omega
 ·have e:k'=k:=by omega
  subst e;have hji:S j i=true:=hS.sy _ _ (hS.tri k' i j (hS.sy _ _ hs) (hS.sy _ _ h7))
  exact hd (QBG h1 h3 h2 ((Qhi (by omega)).2 (.inr ⟨i,h1,by omega,hji,rfl⟩)))
theorem Qnt{S:Nat→Nat→Bool}{N:Nat}(hS:PEq S):∀{n:Nat},n≤N→(ouK S N n).2.Nodup
 | 0,_=>by simp[ouK]
 | n+1,hn=>by
  have ih:=@Qnt S N hS n (by omega)
  rw[ouK];split
  ·exact ih
  ·rename_i hc
   rw[Kz]at hc;split
   ·rw[Km]
    refine⟨ih,QiC,fun a ha b hb e=>?_⟩
    subst e;rw[Qhi (by omega)]at hb
    rcases hb with h|⟨k,h1,h2,h3,h4⟩
    ·rw[h]at ha;exact hc ha
    ·rw[h4]at ha;exact Qvo hS h2 h1 hc h3 ha
   ·exact ih
theorem Qvp{S:Nat→Nat→Bool}{N n:Nat}(hS:PEq S)(hn:n≤N):(ouK S N n).2.length≤N:=by
 have h:=List.Nodup.length_le_of_subset (Qnt hS hn) (l₂:=(List.range N).map fun k=>((k:Nat):Int)) fun x hx=>by
  obtain⟨i,h1,_,h3⟩:=Qvq hx;rw[Qhi (by omega)]at h3
  rw[KQ];rcases h3 with h|⟨k,h4,h5,_,h6⟩
  ·exact⟨i,by rw[List.mem_range];omega,h.symm⟩
  ·exact⟨k,by rw[List.mem_range];omega,h6.symm⟩
 simpa using h
theorem Qvr{S:Nat→Nat→Bool}{N:Nat}{l:List Int}:∀{n:Nat},l∈(ouK S N n).1→∃i,i<n∧l=cl S N i
 | 0,h=>nomatch h
 | n+1,h=>by
  rw[ouK]at h;have ih:=@Qvr S N l n
  split at h
  ·obtain⟨i,h1,h2⟩:=ih h;exact⟨i,by omega,h2⟩
  ·split at h
   ·rw[KG,KH]at h
    rcases h with h|h
    ·obtain⟨i,h1,h2⟩:=ih h;exact⟨i,by omega,h2⟩
    ·exact⟨n,by omega,h⟩
   ·obtain⟨i,h1,h2⟩:=ih h;exact⟨i,by omega,h2⟩
theorem QeV{S:Nat→Nat→Bool}{N:Nat}:∀{n:Nat},(ouK S N n).1.length≤n
 | 0=>KP _
 | n+1=>by
  have ih:=@QeV S N n
  rw[ouK];split
  ·omega
  ·split
   ·rw[KN,List.length_singleton];omega
   ·omega
def Qjz:List (List Int)→Nat
 | []=>0
 | l::ls=>l.length+Qjz ls
theorem QjA{l:List Int}:∀{ls:List (List Int)},Qjz (ls++[l])=Qjz ls+l.length
 | []=>by simp[Qjz]
 | x::ls=>by rw[List.cons_append,Qjz,@QjA l ls,Qjz];omega
theorem QqV{S:Nat→Nat→Bool}{N:Nat}:∀{n:Nat},Qjz (ouK S N n).1=(ouK S N n).2.length
 | 0=>rfl
 | n+1=>by
  have ih:=@QqV S N n
  rw[ouK];split
  ·exact ih
  ·split
   ·rw[QjA,KN,ih]
   ·exact ih
def Qki(E:Int→Int→Bool)(l:List Int)(p:Nat):Nat→Int
 | 0=>1
 | q+1=>Qki E l p q+(if(q !=p&&E (l.getD p 0) (l.getD q 0))then 1 else 0)
def Qd0(E:Int→Int→Bool)(l:List Int):Nat→Int
 | 0=>0
 | p+1=>max (Qd0 E l p) (Qki E l p l.length)
def QlY(E:Int→Int→Bool)(ls:List (List Int)):Nat→Int
 | 0=>0
 | k+1=>QlY E ls k+((ls.getD k []).length-Qd0 E (ls.getD k []) (ls.getD k []).length)
theorem Qlb{E:Int→Int→Bool}{l:List Int}{p:Nat}:∀{q:Nat},1≤Qki E l p q∧Qki E l p q≤q+1
 | 0=>⟨Int.le_refl _,Int.le_refl _⟩
 | q+1=>by
  have:=@Qlb E l p q
  rw[Qki];split<;>omega
theorem QpQ{E:Int→Int→Bool}{l:List Int}{p:Nat}:∀{q:Nat},Qki E l p q≤q+(if p<q then 0 else 1)
 | 0=>by simp[Qki]
 | q+1=>by
  have:=@QpQ E l p q
  rw[Qki]
  by_cases e:q=p
  ·subst e
   rw[bne_self_eq_false,KT,if_neg (by decide),if_pos (by omega)]
   rw[if_neg (by omega)]at this
   omega
  ·by_cases h:p<q
   ·have hc:p<q+1:=by omega
    rw[if_pos h]at this;rw[if_pos hc];split<;>omega
   ·have hc:¬p<q+1:=by omega
    rw[if_neg h]at this;rw[if_neg hc];split<;>omega
theorem Qh3{E:Int→Int→Bool}{l:List Int}:∀{p:Nat},p≤l.length→0≤Qd0 E l p∧Qd0 E l p≤l.length
 | 0,_=>⟨Int.le_refl _,by simp[Qd0]⟩
 | p+1,hp=>by
  have ih:=@Qh3 E l p (by omega)
  have h1:=@QpQ E l p l.length
  have h2:=@Qlb E l p l.length
  rw[if_pos (by omega)]at h1
  rw[Qd0];omega
theorem Qv7{ls:List (List Int)}{k:Nat}(h:k<ls.length):Qjz (ls.take (k+1))=Qjz (ls.take k)+(ls.getD k []).length:=by
 rw[Qf h [],QjA]
theorem QlZ{E:Int→Int→Bool}{ls:List (List Int)}:∀{k:Nat},k≤ls.length→0≤QlY E ls k∧QlY E ls k≤Qjz (ls.take k)
 | 0,_=>⟨Int.le_refl _,by simp[QlY]⟩
 | k+1,hk=>by
  have ih:=@QlZ E ls k (by omega)
  have h1:=@Qh3 E (ls.getD k []) (ls.getD k []).length (KP _)
  rw[QlY,Qv7 (by omega)]
  omega
attribute [local go_sem] Tryz.results32 Tryz.results70 Tryz.results33 Tryz.results36
abbrev Cu:=Nat×Int
abbrev Dr(α:Type):=List Int→Cu→α×Cu
def WfB(l:List (List D)):Prop:=l=bL (unB l)∧l.length≤maxLen
theorem WfB.ex{l:List (List D)}(h:WfB l):∃bs,l=bL bs∧bs.length≤maxLen:=⟨unB l,h.1,by have:=h.2;rw[h.1,QZ]at this;exact this⟩
theorem QjD{bs:List Int}:WfB (bL bs)↔bs.length≤maxLen:=by simp[WfB,QaK,QZ]
def cuO(l:List (List D))(s:Cu):List Arg:=[.box [.sl 1 l,.v (.int .i64 (s.1:Nat)),.v (.int .i64 s.2)]]
def rI(n:Int):List RV:=[⟨false,[.d (.v (.int .i64 n))]⟩]
def rB(b:Bool):List RV:=[⟨false,[.d (.v (.bool b))]⟩]
def byH(h:Int):Int:=IntKind.wrap .i64 (IntKind.wrap .i64 (h*6364136223846793005)+1442695040888963407)
def byX(h:Int):Int:=QV .and .i64 (QV .xor .i64 ((byH h).fdiv (2^33)) ((byH h).fdiv (2^45))) 255
def QaI:Dr Int:=fun bs s=>if s.1<bs.length then(QV .and .i64 (IntKind.wrap .i64 (byX s.2+IntKind.wrap .i64 (bs.getD s.1 0))) 255,(s.1+1,byH s.2))else(byX s.2,(s.1,byH s.2))
theorem QC1(x:Int):0≤QV .and .i64 x 255∧QV .and .i64 x 255≤255:=by
 have h:(BitVec.ofInt 64 x&&& BitVec.ofInt 64 255).toNat≤255:=by
  rw[BitVec.toNat_and];exact KF Nat.and_le_right (by decide)
 have e:QV .and .i64 x 255=IntKind.wrap .i64 ((BitVec.ofInt 64 x&&& BitVec.ofInt 64 255).toNat:Nat):=rfl
 rw[e,QdR]
 ·omega
 ·refine⟨?_,?_⟩
  ·show -9223372036854775808≤_;omega
  ·show _≤9223372036854775807;omega
theorem QaS{bs:List Int}{s:Cu}:0≤(QaI bs s).1∧(QaI bs s).1≤255:=by
 unfold QaI byX;split<;>exact QC1 _
def Qp(n:Int):Dr Int:=fun bs s=>if n≤0 then(0,s)else if n≤256 then((QaI bs s).1.tmod n,(QaI bs s).2)else
 let a:=QaI bs s
 let b:=QaI bs a.2
 let c:=QaI bs b.2
 let d:=QaI bs c.2
 ((a.1*16777216+b.1*65536+c.1*256+d.1).tmod n,d.2)
theorem Q2{n:Int}{bs:List Int}{s:Cu}(h:0<n):0≤(Qp n bs s).1∧(Qp n bs s).1<n:=by
 unfold Qp;rw[if_neg (by omega)]
 split
 ·have:=@QaS bs s
  exact⟨Int.tmod_nonneg _ this.1,Int.tmod_lt_of_pos _ h⟩
 ·have h1:=@QaS bs s
  have h2:=@QaS bs (QaI bs s).2
  have h3:=@QaS bs (QaI bs (QaI bs s).2).2
  have h4:=@QaS bs (QaI bs (QaI bs (QaI bs s).2).2).2
  exact⟨Int.tmod_nonneg _ (by omega),Int.tmod_lt_of_pos _ h⟩
def QjV(n:Int):Dr Bool:=fun bs s=>((Qp n bs s).1==0,(Qp n bs s).2)
def QrL:Qb:=⟨[true],false,fun
 | [.box [.sl 1 l,.v (.int .i64 i),.v (.int .i64 h)]]=>some (WfB l∧0≤i,rI (QaI (unB l) (i.toNat,h)).1,cuO l (QaI (unB l) (i.toNat,h)).2)
 | _=>none⟩
attribute [local go_sem] QrL
def QcQ:Qb:=⟨[true],false,fun
 | [.box [.sl 1 l,.v (.int .i64 i),.v (.int .i64 h)],.one (.v (.int .i64 n))]=>some (WfB l∧0≤i,rI (Qp n (unB l) (i.toNat,h)).1,cuO l (Qp n (unB l) (i.toNat,h)).2)
 | _=>none⟩
attribute [local go_sem] QcQ
def Qol:Qb:=⟨[true],false,fun
 | [.box [.sl 1 l,.v (.int .i64 i),.v (.int .i64 h)],.one (.v (.int .i64 n))]=>some (WfB l∧0≤i,rB (QjV n (unB l) (i.toNat,h)).1,cuO l (QjV n (unB l) (i.toNat,h)).2)
 | _=>none⟩
attribute [local go_sem] Qol
def QDB(h b:Int):Int:=QV .and .i64 (h*131+b+7) 1073741823
def Qej(bs:List Int)(n:Nat):Int:=(bs.take n).foldl QDB (10101+bs.length)
def QCP(bs:List Int):Int:=Qej bs 4000
theorem Qte(x:Int):0≤QV .and .i64 x 1073741823∧QV .and .i64 x 1073741823≤1073741823:=by
 have h:(BitVec.ofInt 64 x&&& BitVec.ofInt 64 1073741823).toNat≤1073741823:=by
  rw[BitVec.toNat_and];exact KF Nat.and_le_right (by decide)
 have e:QV .and .i64 x 1073741823=IntKind.wrap .i64 ((BitVec.ofInt 64 x&&& BitVec.ofInt 64 1073741823).toNat:Nat):=rfl
 rw[e,QdR]
 ·omega
 ·refine⟨?_,?_⟩
  ·show -9223372036854775808≤_;omega
  ·show _≤9223372036854775807;omega
theorem QiX{bs:List Int}(h:bs.length≤1048576):∀{n:Nat},0≤Qej bs n∧Qej bs n≤1073741823
 | 0=>by unfold Qej;simp;omega
 | n+1=>by
  have ih:=@QiX bs h n
  by_cases hn:n<bs.length
  ·unfold Qej
   rw[Qf hn 0,YW];exact Qte _
  ·unfold Qej at ih ⊢
   rw[Kj (by omega)]
   rwa [Kj (by omega)]at ih
theorem Qsd{bs:List Int}{n:Nat}(hn:n<bs.length):Qej bs (n+1)=QDB (Qej bs n) (bs.getD n 0):=by
 unfold Qej;rw[Qf hn 0,YW];rfl
def QFQ(bs:List Int):Cu:=(0,QCP bs)
def QtD:Qb:=⟨[],true,fun
 | [.one (.sl 1 l)]=>some (WfB l∧l.length≤1048576∧∀b∈unB l,0≤b∧b≤255,[⟨false,[.box [.sl 1 l,.v (.int .i64 0),.v (.int .i64 (QCP (unB l)))]]⟩],[])
 | _=>none⟩
attribute [local go_sem] QtD QaK QZ QjD
theorem Qtk{bs:List Int}{i:Nat}(h:i<bs.length)(d:List D):(bL bs).getD i d=[D.v (.int .u8 (bs.getD i 0))]:=by
 simp[bL,KD,h]
theorem QCB{n:Int}(h:0≤n∧n≤255):IntKind.wrap .i64 n=n:=QdR ⟨by show -9223372036854775808≤n;omega,by show n≤9223372036854775807;omega⟩
theorem QBw:Qa E0 32 QtD:=by
 refine QG (E:=E0) (T:=mkT Tryz.prog [] false (fun _=>false) true (fun _=>false)) (Qd (E:=E0) .nil) (fn:=Tryz.f32) Tryz.func32 kR rfl Qc kR rfl ?_
 intro args p rs ms hr;unfold QtD at hr;dsimp only at hr;split at hr;rotate_left
 ·cases hr
 rename_i l;cases hr;refine⟨rfl,rfl,nLe rfl,?_⟩
 have hm:=mxE;rintro⟨h1,h2,h3⟩ bs0;obtain⟨bs,rfl,hx⟩:=h1.ex;clear h1;rw[QZ]at h2;rw[QaK]at h3 ⊢;have hh:=fun n=>@QiX bs h2 n
 (repeat' first|refine gA fun _=>?_|apply fkI<;>intro hb<;>try simp only[ew,Qi]at hb|simp only[go_sem,simprocAttr, *,Qi])
 refine lpI {ι:=Nat,rs:=[(8,28)],mods:=[(4,fun i=> .one (.d (.v (.int .i64 i)))),(3,fun i=> .one (.d (.v (.int .i64 (Qej bs i)))))],boxes:=[],arrs:=[],ok:=fun i=>i≤bs.length∧i≤4000,mu:=fun i=>bs.length-i} rfl 0 ⟨KJ _,KJ _⟩ ?_ fun i hi=>?_
 ·have e0:Qej bs 0=10101+bs.length:=rfl
  (repeat' first|refine gA fun _=>?_|apply fkI<;>intro hb<;>try simp only[ew,e0]at hb|simp only[go_sem,simprocAttr, *])
  all_goals first|rfl|skip
 ·dsimp only at i hi
  obtain⟨hi1,hi2⟩:=hi;have hhi:=hh i
  by_cases h5:i<bs.length
  ·by_cases h6:i<4000
   ·have hb:=h3 (bs.getD i 0) (by simp[KD,h5])
    have hw:=QCB hb
    have hg:=Qtk h5
    have eS:QV .and .i64 (Qej bs i*131+bs.getD i 0+7) 1073741823=Qej bs (i+1):=(Qsd h5).symm
    clear h3 hh;have h6':((i:Nat):Int)<4000:=by omega
    generalize hH:Qej bs i=H at hhi eS;generalize hB:bs.getD i 0=b at hb hw hg eS;(repeat' first|refine gA fun _=>?_|apply fkI<;>intro hb<;>try simp only[ew,hH,hg,hw]at hb|simp only[go_sem,simprocAttr, *])
    refine lpN (i+1) ⟨by omega,by omega⟩ (by dsimp only;omega) ?_
    (repeat' first|refine gA fun _=>?_|apply fkI<;>intro hb<;>try simp only[ew,eS]at hb|simp only[go_sem,simprocAttr, *])
   ·have e6:i=4000:=by omega
    subst e6;have e7:QCP bs=Qej bs 4000:=rfl
    clear h3 hh;(repeat' first|refine gA fun _=>?_|apply fkI<;>intro hb<;>try simp only[ew,e7]at hb|simp only[go_sem,simprocAttr, *])
    all_goals first|rfl|skip
  ·have e5:i=bs.length:=by omega
   have e7:QCP bs=Qej bs bs.length:=by
    unfold QCP Qej;rw[Kj (by omega),Kj (KP _)]
   subst e5;clear h3 hh;(repeat' first|refine gA fun _=>?_|apply fkI<;>intro hb<;>try simp only[ew,e7]at hb|simp only[go_sem,simprocAttr, *])
   all_goals first|rfl|skip
theorem Qts:Qa E0 70 QrL:=by
 refine Qaa (E:=E0) (T:=mkT Tryz.prog [] true (fun _=>false) false (fun _=>false)) (Qd (E:=E0) .nil) rfl (fn:=Tryz.f70) Tryz.func70 kR rfl Qc kR rfl rfl (nLe rfl) ?_
 intro args p rs ms hr;unfold QrL at hr;dsimp only at hr;split at hr;rotate_left
 ·cases hr
 rename_i l i h;cases hr;refine⟨_,_,_,rfl,rfl,rfl,rfl,nLe rfl,?_⟩
 have hm:=mxE;rintro⟨h1,h2⟩ bs0;obtain⟨bs,rfl,hx⟩:=h1.ex;clear h1;rw[QaK];obtain⟨i,rfl⟩:=KL h2
 by_cases h5:i<bs.length
 ·have e:QaI bs (((i:Nat):Int).toNat,h)=(QV .and .i64 (IntKind.wrap .i64 (byX h+IntKind.wrap .i64 (bs.getD i 0))) 255,(i+1,byH h)):=by unfold QaI;rw[KE,if_pos h5]
  have hg:=Qtk h5
  have hH:IntKind.wrap .i64 (IntKind.wrap .i64 (h*6364136223846793005)+1442695040888963407)=byH h:=rfl
  have hX:QV .and .i64 (QV .xor .i64 ((byH h).fdiv (2^33)) ((byH h).fdiv (2^45))) 255=byX h:=rfl
  have hi1:IntKind.wrap .i64 (((i:Nat):Int)+1)=((i+1:Nat):Int):=by
    rw[QdR];· rfl
    ·exact⟨by show -9223372036854775808≤_;omega,by show _≤9223372036854775807;unfold maxLen at hx;omega⟩
  rw[e];clear e;(repeat' first|refine gA fun _=>?_|apply fkI<;>intro hb<;>try simp only[ew,Qi,hH,hX,hg,hi1,cuO,rI]at hb|simp only[go_sem,simprocAttr, *,Qi,cuO,rI])
  all_goals first|rfl|skip
 ·have e:QaI bs (((i:Nat):Int).toNat,h)=(byX h,(i,byH h)):=by unfold QaI;rw[KE,if_neg h5]
  have hH:IntKind.wrap .i64 (IntKind.wrap .i64 (h*6364136223846793005)+1442695040888963407)=byH h:=rfl
  have hX:QV .and .i64 (QV .xor .i64 ((byH h).fdiv (2^33)) ((byH h).fdiv (2^45))) 255=byX h:=rfl
  rw[e];clear e;(repeat' first|refine gA fun _=>?_|apply fkI<;>intro hb<;>try simp only[ew,Qi,hH,hX,cuO,rI]at hb|simp only[go_sem,simprocAttr, *,Qi,cuO,rI])
  all_goals first|rfl|skip
attribute [local go_sem] cuO rI rB
theorem QdA:Qa E0 33 QcQ:=by
 refine Qaa (E:=E0) (T:=mkT Tryz.prog [(70,QrL)] false (fun _=>false) false (fun _=>false)) (Qd (E:=E0) (.cons Qts .nil)) rfl (fn:=Tryz.f33) Tryz.func33 kR rfl Qc kR rfl rfl (nLe rfl) ?_
 intro args p rs ms hr;unfold QcQ at hr;dsimp only at hr;split at hr;rotate_left
 ·cases hr
 rename_i l i h n;cases hr;refine⟨_,_,_,rfl,rfl,rfl,rfl,nLe rfl,?_⟩
 have hm:=mxE;rintro⟨h1,h2⟩ bs0;obtain⟨bs,rfl,hx⟩:=h1.ex;clear h1;rw[QaK];obtain⟨i,rfl⟩:=KL h2;rw[KE]
 by_cases h5:n≤0
 ·have e:Qp n bs (i,h)=(0,(i,h)):=by unfold Qp;rw[if_pos h5]
  rw[e];clear e;exact gQ
 ·by_cases h6:n≤256
  ·have e:Qp n bs (i,h)=((QaI bs (i,h)).1.tmod n,(QaI bs (i,h)).2):=by unfold Qp;rw[if_neg h5,if_pos h6]
   rw[e];clear e;generalize hA:QaI bs (i,h)=A;(repeat' first|refine gA fun _=>?_|apply fkI<;>intro hb<;>try simp only[ew,hA]at hb|simp only[go_sem,simprocAttr, *])
   all_goals first|rfl|skip
  ·have e:Qp n bs (i,h)=(((QaI bs (i,h)).1*16777216+(QaI bs (QaI bs (i,h)).2).1*65536+(QaI bs (QaI bs (QaI bs (i,h)).2).2).1*256+(QaI bs (QaI bs (QaI bs (QaI bs (i,h)).2).2).2).1).tmod n,(QaI bs (QaI bs (QaI bs (QaI bs (i,h)).2).2).2).2):=by unfold Qp;rw[if_neg h5,if_neg h6]
   rw[e];clear e;have r1:=@QaS bs (i,h)
   generalize hA:QaI bs (i,h)=A at r1 ⊢;have r2:=@QaS bs A.2
   generalize hB:QaI bs A.2=B at r2 ⊢;have r3:=@QaS bs B.2
   generalize hC:QaI bs B.2=C at r3 ⊢;have r4:=@QaS bs C.2
   generalize hD:QaI bs C.2=D1 at r4 ⊢;(repeat' first|refine gA fun _=>?_|apply fkI<;>intro hb<;>try simp only[ew,hA,hB,hC,hD]at hb|simp only[go_sem,simprocAttr, *])
   all_goals first|rfl|skip
theorem Qvf:Qa E0 36 Qol:=by
 refine Qaa (E:=E0) (T:=mkT Tryz.prog [(33,QcQ)] false (fun _=>false) false (fun _=>false)) (Qd (E:=E0) (.cons QdA .nil)) rfl (fn:=Tryz.f36) Tryz.func36 kR rfl Qc kR rfl rfl (nLe rfl) ?_
 intro args p rs ms hr;unfold Qol at hr;dsimp only at hr;split at hr;rotate_left
 ·cases hr
 rename_i l i h n;cases hr;refine⟨_,_,_,rfl,rfl,rfl,rfl,nLe rfl,?_⟩
 have hm:=mxE;rintro⟨h1,h2⟩ bs0;obtain⟨bs,rfl,hx⟩:=h1.ex;clear h1;rw[QaK];obtain⟨i,rfl⟩:=KL h2;rw[KE];have e:QjV n bs (i,h)=((Qp n bs (i,h)).1==0,(Qp n bs (i,h)).2):=rfl
 rw[e];clear e;generalize hA:Qp n bs (i,h)=A;(repeat' first|refine gA fun _=>?_|apply fkI<;>intro hb<;>try simp only[ew,hA]at hb|simp only[go_sem,simprocAttr, *])
 all_goals first|rfl|skip
def cuP(bs:List Int)(s:Cu):List PC:=[.n (.sl 1 (bL bs)),.d (.v (.int .i64 (s.1:Nat))),.d (.v (.int .i64 s.2))]
theorem Qe5{xs:List Int}{n:Int}:iL xs++[[D.v (.int .i64 n)]]=iL (xs++[n]):=by simp[iL]
end Go.Own
