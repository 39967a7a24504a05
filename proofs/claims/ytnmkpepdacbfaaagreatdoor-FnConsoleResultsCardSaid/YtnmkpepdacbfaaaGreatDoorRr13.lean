/- Own contracts. Conditions: as each theorem states them. -/
import Derived.Test.YtnmkpepdacbfaaaGreatDoorRr12
set_option linter.unusedSimpArgs false
set_option linter.unusedVariables false
set_option maxRecDepth 20000
set_option maxHeartbeats 4000000
namespace Go.Own
open Go Go.Proofs
attribute [local go_sem] Qw5 Qs5 Tryz.results67
theorem Qtr:∀l x:Fin 32,(Qax .and .i64 ((x.val:Nat):Int) ((l.val:Nat):Int)==((l.val:Nat):Int))=Qal ((l.val:Nat):Int) ((x.val:Nat):Int):=by decide+kernel
theorem Qtq{l x:Int}(hl:R5 l)(hx:R5 x):(Qax .and .i64 x l==l)=Qal l x:=by
 obtain⟨l,rfl⟩:=hl.fin;obtain⟨x,rfl⟩:=hx.fin;exact Qtr l x
theorem Qjg{xs ys:List Int}:iL xs++iL ys=iL (xs++ys):=by simp[iL]
def Qze:Qb:=⟨[],false,fun
 | [.agg [.v (.int .i64 c),.sl 1 t],.one (.v (.int .i64 m)),.one (.v (.int .i64 set))]=>some (WfS t∧QC c (unS t)=true∧QJ m=true∧Qj c set=true,[⟨false,[.own 1 (sL (ouK (sam c.toNat (unS t) m set) (unS t).length (unS t).length).1) 1]⟩],[])
 | _=>none⟩
attribute [local go_sem] Qze
theorem Qxg:Qa E0 67 Qze:=by
 refine QV (E:=E0) (T:=mkT Tryz.prog [(118,Qw5),(79,Qs5)] false (fun d=>d==54) true (fun _=>false)) (Qf (E:=E0) (.cons Qri (.cons Qwh .nil))) (fn:=Tryz.f67) Tryz.func67 (by kernel_rfl) rfl Qe (by kernel_rfl) rfl ?_
 intro args p rs ms hr;unfold Qze at hr;dsimp only at hr;split at hr;rotate_left
 ·cases hr
 rename_i c t m set;cases hr;refine⟨rfl,rfl,nLe rfl,?_⟩
 have hm:=mxE;rintro⟨h1,ht,hmo,hat⟩ bs;obtain⟨rs,rfl,hx,hy⟩:=h1.ex;clear h1;rw[QG]at ht ⊢;have hs5:R5 set:=by have:=Qt hat;exact⟨this.2.2.1,this.2.2.2⟩
 have ht0:=ht
 obtain⟨C,rfl,c1,c5,h40,hlen⟩:=QR ht;rw[Int.toNat_natCast];have hS:=@Qms C rs m set c5 hs5
 have hsam:∀i j,(Qax .and .i64 (agL m (rs.getD i []) (rs.getD j []) C) set==set)=sam C rs m set i j:=fun i j=>Qtq hs5 (QaW c5)
 generalize hSS:sam C rs m set=S at hS hsam ⊢;have e0:sL []=[]:=rfl
 have e1:iL []=[]:=rfl
 have hol:=fun n=>@QdY S rs.length n
 have hdl:=fun n (hn:n≤rs.length)=>Qr6 hS hn
 clear ht hlen;(repeat' first|refine gA fun _=>?_|apply fkI<;>intro hb<;>try simp only[ew,e0,e1]at hb|simp only[go_sem,simprocAttr, *])
 refine lpI {ι:=Nat,rs:=[(10,12),(14,58)],mods:=[(9,fun i=> .one (.d (.v (.int .i64 i)))),(7,fun i=> .one (.own 1 (sL (ouK S rs.length i).1) 1)),(8,fun i=> .one (.own 1 (iL (ouK S rs.length i).2) 1))],boxes:=[(3,fun _=>[.d (.v (.int .i64 C)),.d (.sl 1 (sL rs))])],arrs:=[],ok:=fun i=>i≤rs.length,mu:=fun i=>rs.length-i} rfl 0 (Nat.zero_le _) ?_ fun i hi=>?_
 ·have e2:ouK S rs.length 0=([],[]):=rfl
  clear hol hdl hsam;(repeat' first|refine gA fun _=>?_|apply fkI<;>intro hb<;>try simp only[ew,e0,e1,e2]at hb|simp only[go_sem,simprocAttr, *])
  all_goals first|rfl|skip
 ·dsimp only at i hi
  have o1:=hol i
  have o2:=hdl i hi
  have o3:(ouK S rs.length i).1.length≤maxLen:=Nat.le_trans (show _≤40 by omega) (by decide)
  have o4:(ouK S rs.length i).2.length≤maxLen:=Nat.le_trans (show _≤40 by omega) (by decide)
  clear hol hdl
  by_cases h5:i<rs.length
  ·have eS:ouK S rs.length (i+1)=if(ouK S rs.length i).2.contains ((i:Nat):Int)then ouK S rs.length i else if 1<(cl S rs.length i).length then((ouK S rs.length i).1++[cl S rs.length i],(ouK S rs.length i).2++cl S rs.length i)else ouK S rs.length i:=rfl
   generalize hP:ouK S rs.length i=P at o1 o2 o3 o4 eS;cases hc:P.2.contains ((i:Nat):Int)
   ·rw[hc,if_neg (by decide)]at eS
    have hkl:=fun t=>@Qi3 S i t
    (repeat' first|refine gA fun _=>?_|apply fkI<;>intro hb<;>try simp only[ew,hP,hc,e1]at hb|simp only[go_sem,simprocAttr, *,hc])
    refine lpI {ι:=Nat,rs:=[(28,48)],mods:=[(11,fun t=> .one (.d (.v (.int .i64 ((i+1+t:Nat):Int))))),(10,fun t=> .one (.own 1 (iL (clK S i t)) 1))],boxes:=[(3,fun _=>[.d (.v (.int .i64 C)),.d (.sl 1 (sL rs))])],arrs:=[(7,fun _=>(1,sL P.1,1)),(8,fun _=>(1,iL P.2,1))],ok:=fun t=>i+1+t≤rs.length,mu:=fun t=>rs.length-t} rfl 0 (by omega) ?_ fun t htt=>?_
    ·have e3:iL (clK S i 0)=[[D.v (.int .i64 i)]]:=rfl
     clear hkl hsam;(repeat' first|refine gA fun _=>?_|apply fkI<;>intro hb<;>try simp only[ew,e3]at hb|simp only[go_sem,simprocAttr, *])
     all_goals first|rfl|skip
    ·dsimp only at t htt
     have k1:=hkl t
     clear hkl
     by_cases h6:i+1+t<rs.length
     ·have eK:clK S i (t+1)=clK S i t++(if S i (i+1+t)then [((i+1+t:Nat):Int)]else []):=rfl
      have hsk:=hsam i (i+1+t)
      clear hsam;have k2:(clK S i t).length≤41:=by omega
      have k3:(clK S i t).length≤maxLen:=Nat.le_trans k2 (by decide)
      generalize hQ:clK S i t=Q at k1 k2 k3 eK;generalize hK:i+1+t=K at h6 htt hsk eK;have eK1:((i+1+(t+1):Nat):Int)=((K:Nat):Int)+1:=by omega
      cases hb:S i K
      ·rw[hb,if_neg (by decide),List.append_nil]at eK
       (repeat' first|refine gA fun _=>?_|apply fkI<;>intro hb<;>try simp only[ew,hQ,hK,hsk,hb]at hb|simp only[go_sem,simprocAttr, *,hb])
       refine lpN (t+1) (by dsimp only;omega) (by dsimp only;omega) ?_
       (repeat' first|refine gA fun _=>?_|apply fkI<;>intro hb<;>try simp only[ew,eK,eK1]at hb|simp only[go_sem,simprocAttr, *])
       all_goals first|rfl|skip
      ·rw[hb,if_pos rfl]at eK
       (repeat' first|refine gA fun _=>?_|apply fkI<;>intro hb<;>try simp only[ew,hQ,hK,hsk,hb,Qkw]at hb|simp only[go_sem,simprocAttr, *,hb,Qkw])
       refine lpN (t+1) (by dsimp only;omega) (by dsimp only;omega) ?_
       (repeat' first|refine gA fun _=>?_|apply fkI<;>intro hb<;>try simp only[ew,eK,eK1,Qkw]at hb|simp only[go_sem,simprocAttr, *,Qkw])
       all_goals first|rfl|skip
     ·have e6:i+1+t=rs.length:=by omega
      have ecl:clK S i t=cl S rs.length i:=by unfold cl;congr 1;omega
      rw[ecl]at k1;have k3:(cl S rs.length i).length≤41:=by omega
      have k4:(cl S rs.length i).length≤maxLen:=Nat.le_trans k3 (by decide)
      clear hsam;generalize hQ:cl S rs.length i=Q at k1 k3 k4 eS ecl
      by_cases h7:1<Q.length
      ·have d7:decide ((Q.length:Int)>1)=true:=decide_eq_true (by omega)
       rw[if_pos h7]at eS;have eS1:=congrArg Prod.fst eS
       have eS2:=congrArg Prod.snd eS
       dsimp only at eS1 eS2;clear eS;(repeat' first|refine gA fun _=>?_|apply fkI<;>intro hb<;>try simp only[ew,e6,ecl,d7,QkX,Qjh,QjP,Qjg]at hb|simp only[go_sem,simprocAttr, *,QkX,Qjh,QjP,Qjg])
       refine lpN (i+1) (by dsimp only;omega) (by dsimp only;omega) ?_
       (repeat' first|refine gA fun _=>?_|apply fkI<;>intro hb<;>try simp only[ew,eS1,eS2,QkX,Qjh,QjP,Qjg]at hb|simp only[go_sem,simprocAttr, *,QkX,Qjh,QjP,Qjg])
       all_goals first|rfl|skip
      ·have d7:decide ((Q.length:Int)>1)=false:=decide_eq_false (by omega)
       rw[if_neg h7]at eS;(repeat' first|refine gA fun _=>?_|apply fkI<;>intro hb<;>try simp only[ew,e6,ecl,d7]at hb|simp only[go_sem,simprocAttr, *])
       refine lpN (i+1) (by dsimp only;omega) (by dsimp only;omega) ?_
       (repeat' first|refine gA fun _=>?_|apply fkI<;>intro hb<;>try simp only[ew,eS]at hb|simp only[go_sem,simprocAttr, *])
       all_goals first|rfl|skip
   ·rw[hc,if_pos rfl]at eS
    clear hsam;(repeat' first|refine gA fun _=>?_|apply fkI<;>intro hb<;>try simp only[ew,hP,hc]at hb|simp only[go_sem,simprocAttr, *,hc])
    refine lpN (i+1) (by dsimp only;omega) (by dsimp only;omega) ?_
    (repeat' first|refine gA fun _=>?_|apply fkI<;>intro hb<;>try simp only[ew,eS]at hb|simp only[go_sem,simprocAttr, *])
    all_goals first|rfl|skip
  ·have e5:i=rs.length:=by omega
   subst e5;clear hsam;exact gQ
end Go.Own

namespace Go.Own
open Go Go.Proofs
attribute [local go_sem] Qff Qlw Qze Qs5 Tryz.results125
def Qzn(rs:List (List Int))(m r:Int)(x y:Int):Bool:=eqc m ((rs.getD x.toNat []).getD r.toNat 0) ((rs.getD y.toNat []).getD r.toNat 0)
def Qik(c:Int)(rs:List (List Int))(m l:Int):List (List Int):=(ouK (sam c.toNat rs m l) rs.length rs.length).1
def Qpk(c:Int)(rs:List (List Int))(m l r:Int):Int:=if Qbe c rs m l r then QpC (Qzn rs m r) (Qik c rs m l) (Qik c rs m l).length else -1
def QCy(N:Nat)(xs:List Int):Prop:=xs.length≤N∧xs.Nodup∧∀k,k<xs.length→0≤xs.getD k 0∧xs.getD k 0<N
theorem Qkk{c:Int}{rs:List (List Int)}{m l:Int}(hc:c.toNat≤5)(hl:R5 l):(Qik c rs m l).length≤rs.length∧Qk7 (Qik c rs m l)≤rs.length∧∀i,i<(Qik c rs m l).length→QCy rs.length ((Qik c rs m l).getD i []):=by
 have hS:=@Qms c.toNat rs m l hc hl
 unfold Qik;refine⟨QdY,by rw[QnN];exact Qr6 hS (Nat.le_refl _),fun i hi=>?_⟩
 obtain⟨j,hj,e⟩:=Qr8 (QI hi []);rw[e];have hk:(cl (sam c.toNat rs m l) rs.length j).length≤rs.length:=by
  unfold cl;have:=@Qi3 (sam c.toNat rs m l) j (rs.length-(j+1))
  omega
 refine⟨hk,QgW,fun k hk=>?_⟩
 have:=QI hk 0
 rw[QfV hj]at this;rcases this with h|⟨q,h1,h2,_,h4⟩
 ·omega
 ·omega
theorem Qyt{c:Int}{rs:List (List Int)}{m l r:Int}(h:Qbe c rs m l r=true):0≤Qpk c rs m l r∧Qpk c rs m l r≤40:=by
 unfold Qpk;rw[h,if_pos rfl];unfold Qbe at h;simp only[Bool.and_eq_true]at h
 have ht:=h.1.1
 have hd:=h.2
 unfold Q2 at hd;simp only[Bool.and_eq_true]at hd
 have hl5:=Qt hd.1.2
 obtain⟨n,rfl,n1,n5,h40,_⟩:=QR ht;obtain⟨f1,f2,f3⟩:=@Qkk (n:Nat) rs m l (by rw[Int.toNat_natCast];exact n5) ⟨hl5.2.2.1,hl5.2.2.2⟩
 have:=@Qmm (Qzn rs m r) (Qik (n:Nat) rs m l) (Qik (n:Nat) rs m l).length (Nat.le_refl _)
 rw[List.take_length]at this;omega
def Qzg:Qb:=⟨[],false,fun
 | [.agg [.v (.int .i64 c),.sl 1 t],.one (.v (.int .i64 m)),.agg [.v (.int .i64 l),.v (.int .i64 r)]]=>some (WfS t∧ -9223372036854775808≤c∧c≤9223372036854775807,[⟨false,[.d (.v (.int .i64 (Qpk c (unS t) m l r)))]⟩],[])
 | _=>none⟩
attribute [local go_sem] Qzg
end Go.Own
