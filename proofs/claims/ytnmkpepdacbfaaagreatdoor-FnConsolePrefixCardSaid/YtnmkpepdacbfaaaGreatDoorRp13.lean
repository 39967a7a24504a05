/- Contracts. Conditions: as stated. -/
import Derived.Test.YtnmkpepdacbfaaaGreatDoorRp12
set_option linter.all false
set_option maxRecDepth 20000
set_option maxHeartbeats 4000000
namespace Go.Own
open Go Go.Proofs
attribute [local go_sem] Qd7 Qax Tryz.results222 Tryz.results221 Tryz.results220
def bbL(xs:List Bool):List (List D):=xs.map fun b=>[D.v (.bool b)]
theorem QrJ{xs:List Bool}:(bbL xs).length=xs.length:=by simp[bbL]
theorem QAh{xs:List Bool}{i:Nat}(h:i<xs.length):(bbL xs).getD i []=[D.v (.bool (xs.getD i false))]:=by
 simp[bbL,KD,h]
theorem QAj{xs:List Bool}{i:Nat}{b:Bool}:(bbL xs).set i [D.v (.bool b)]=bbL (xs.set i b):=by
 simp[bbL,List.map_set]
theorem QAi{n:Nat}:List.replicate n [D.v (.bool false)]=bbL (List.replicate n false):=by simp[bbL]
attribute [local go_sem] QrJ QAh QAj
theorem QAz{S:Nat→Nat→Bool}{N i j:Nat}(hi:i<N)(h1:i<j)(h2:j<N):(cl S N i).contains ((j:Nat):Int)=S i j:=by
 rw[Kp,Kz,Qhi hi];constructor
 ·rintro(h|⟨k,_,_,h3,h4⟩)
  ·omega
  ·have:k=j:=by omega
   rw[←this];exact h3
 ·intro h;exact .inr ⟨j,h1,h2,h,rfl⟩
theorem Qxk{S:Nat→Nat→Bool}{N i:Nat}(hi:i<N)(hl:¬1<(cl S N i).length){j:Nat}(h1:i<j)(h2:j<N):S i j=false:=by
 cases h:S i j with
 | false=>rfl
 | true=>
  have m1:((i:Nat):Int)∈cl S N i:=(Qhi hi).2 (.inl rfl)
  have m2:((j:Nat):Int)∈cl S N i:=(Qhi hi).2 (.inr ⟨j,h1,h2,h,rfl⟩)
  generalize cl S N i=Q at hl m1 m2;match Q with
  | []=>cases m1
  | [x]=>
   rw[KH]at m1 m2;omega
  | x::y::r=>simp at hl
theorem Qxu{xs ys:List Int}{x:Int}:(xs++ys).contains x=(xs.contains x||ys.contains x):=by
 rw[Kp,Kq,Kz,Kz,Kz,KG]
def QwY:Qb:=⟨[],false,fun
 | [.one (.v (.int .i64 m)),.one (.sl 1 a),.one (.sl 1 b),.one (.v (.int .i64 set))]=>some (WfI a∧WfI b∧a.length=b.length∧a.length≤5,[⟨false,[.d (.v (.bool (Qab set (agL m (unI a) (unI b) a.length))))]⟩],[])
 | _=>none⟩
attribute [local go_sem] QwY
theorem QA0:Qa E0 222 QwY:=by
 refine QG (E:=E0) (T:=mkT Tryz.prog [(144,Qd7),(157,Qax)] false (fun _=>false) true (fun _=>false)) (Qd (E:=E0) (.cons QhM (.cons Qbe .nil))) (fn:=Tryz.f222) Tryz.func222 kR rfl Qc kR rfl ?_
 intro args p rs ms hr;unfold QwY at hr;dsimp only at hr;split at hr;rotate_left
 ·cases hr
 rename_i m a b set;cases hr;refine⟨rfl,rfl,nLe rfl,?_⟩
 have hm:=mxE;rintro⟨h1,h2,h3,h4⟩ bs;obtain⟨xs,rfl,hx⟩:=h1.ex;obtain⟨ys,rfl,hy⟩:=h2.ex;clear h1 h2;rw[QaH,QaH];rw[Qs]at h3 h4 ⊢;rw[Qs]at h3;rw[Qbw];exact gQ
def cP1:Qb:=⟨[],false,fun
 | [.one (.v (.int .i64 i)),.one (.v (.int .i64 j)),.ptr [.v (.int .i64 m)],.ptr [.v (.int .i64 c),.sl 1 t],.ptr [.v (.int .i64 set)]]=>some (WfS t∧QP c (unS t)=true∧(0≤i∧i<t.length)∧0≤j∧j<t.length,[⟨false,[.d (.v (.bool (sam c.toNat (unS t) m set i.toNat j.toNat)))]⟩],[])
 | _=>none⟩
attribute [local go_sem] cP1
theorem QE8:Qa E0 221 cP1:=by
 refine QG (E:=E0) (T:=mkT Tryz.prog [(222,QwY)] false (fun _=>false) true (fun _=>false)) (Qd (E:=E0) (.cons QA0 .nil)) (fn:=Tryz.f221) Tryz.func221 kR rfl Qc kR rfl ?_
 intro args p rs ms hr;unfold cP1 at hr;dsimp only at hr;split at hr;rotate_left
 ·cases hr
 rename_i i j m c t set;cases hr;refine⟨rfl,rfl,nLe rfl,?_⟩
 have hm:=mxE;rintro⟨h1,ht,⟨hi0,hi1⟩,hj0,hj1⟩ bs;obtain⟨rs,rfl,hx,hy⟩:=h1.ex;clear h1;rw[QB]at ht ⊢;rw[Qai]at hi1 hj1;obtain⟨C,rfl,c1,c5,h40,hlen⟩:=QQ ht;obtain⟨i,rfl⟩:=KL hi0;obtain⟨j,rfl⟩:=KL hj0;have hi2:i<rs.length:=by omega
 have hj2:j<rs.length:=by omega
 have hli:=hlen i hi2
 have hlj:=hlen j hj2
 rw[KE,KE,KE];have m1:(rs.getD i []).length≤maxLen:=KF (show _≤5 by omega) (by decide)
 have m2:(rs.getD j []).length≤maxLen:=KF (show _≤5 by omega) (by decide)
 have eE:Qab set (agL m (rs.getD i []) (rs.getD j []) (rs.getD i []).length)=sam C rs m set i j:=by unfold sam;rw[hli]
 have eE2:Qab set (agL m (rs.getD i []) (rs.getD j []) (rs.getD j []).length)=sam C rs m set i j:=by unfold sam;rw[hlj]
 have hab:(rs.getD i []).length=(rs.getD j []).length:=by rw[hli,hlj]
 have ha5:(rs.getD i []).length≤5:=by omega
 clear hlen hli hlj ht;clear eE;exact gP
def Qtx:Qb:=⟨[],false,fun
 | [.one (.v (.int .i64 n)),.fnc f [[.v (.int .i64 m)],[.v (.int .i64 c),.sl 1 t],[.v (.int .i64 set)]]]=>some (f=221∧n=t.length∧WfS t∧QP c (unS t)=true∧Ql c set=true,[⟨false,[.own 1 (sL (QhC c (unS t) m set)) 1]⟩],[])
 | _=>none⟩
attribute [local go_sem] Qtx
theorem QAE:Qa E0 220 Qtx:=by
 refine QG (E:=E0) (T:=mkT Tryz.prog [(221,cP1)] false (fun _=>false) true (fun d=>d==999)) (Qd (E:=E0) (.cons QE8 .nil)) (fn:=Tryz.f220) Tryz.func220 kR rfl Qc kR rfl ?_
 intro args p rs ms hr;unfold Qtx at hr;dsimp only at hr;split at hr;rotate_left
 ·cases hr
 rename_i n f m c t set;cases hr;refine⟨rfl,rfl,nLe rfl,?_⟩
 have hm:=mxE;rintro⟨rfl,rfl,h1,ht,hat⟩ bs;obtain⟨rs,rfl,hx,hy⟩:=h1.ex;clear h1;rw[QB]at ht ⊢;have hs5:R5 set:=by have:=Qq hat;exact⟨this.2.2.1,this.2.2.2⟩
 have ht0:=ht
 obtain⟨C,rfl,c1,c5,h40,hlen⟩:=QQ ht;clear ht hlen;have hS:=@Qpf C rs m set c5 hs5
 have ecl:QhC (C:Int) rs m set=(ouK (sam C rs m set) rs.length rs.length).1:=by unfold QhC;rw[KE]
 rw[ecl];clear ecl;generalize hSS:sam C rs m set=S at hS ⊢;have hkey:=fun i k (h1:i<k) (h2:k<rs.length) h3 h4=>@Qvo S rs.length i k hS h2 h1 h3 h4
 have e0:sL []=[]:=rfl
 have hol:=fun n=>@QeV S rs.length n
 have eB:=@QAi rs.length
 refine gR ?_;intros
 refine lpI {ι:=Nat×List Bool,rs:=[(8,10),(13,56)],mods:=[(7,fun i=> .one (.d (.v (.int .i64 i.1)))),(5,fun i=> .one (.own 1 (sL (ouK S rs.length i.1).1) 1))],boxes:=[],arrs:=[(6,fun i=>(1,bbL i.2,1))],ok:=fun i=>i.1≤rs.length∧i.2.length=rs.length∧∀j,i.1≤j→j<rs.length→i.2.getD j false=(ouK S rs.length i.1).2.contains ((j:Nat):Int),mu:=fun i=>rs.length-i.1} rfl (0,List.replicate rs.length false) ⟨KJ _,by simp,fun j _ hj=>by simp[ouK,KD,hj]⟩ ?_ ?_
 ·have e2:ouK S rs.length 0=([],[]):=rfl
  clear hol hkey;exact gP
 ·rintro⟨i,fl⟩ hi
  dsimp only at hi;obtain⟨hi,hfl,hinv⟩:=hi;have o1:=hol i
  have o3:(ouK S rs.length i).1.length≤maxLen:=KF (show _≤40 by omega) (by decide)
  clear hol
  by_cases h5:i<rs.length
  ·have eS:ouK S rs.length (i+1)=if(ouK S rs.length i).2.contains ((i:Nat):Int)then ouK S rs.length i else if 1<(cl S rs.length i).length then((ouK S rs.length i).1++[cl S rs.length i],(ouK S rs.length i).2++cl S rs.length i)else ouK S rs.length i:=rfl
   have hfi:=hinv i (KP _) h5
   have hkey:=fun k (h1:i<k) (h2:k<rs.length)=>hkey i k h1 h2
   generalize hP:ouK S rs.length i=P at o1 o3 eS hfi hinv hkey;have hif:i<fl.length:=by omega
   cases hc:P.2.contains ((i:Nat):Int)
   ·rw[hc,if_neg (by decide)]at eS
    rw[hc]at hfi;have hni:((i:Nat):Int)∉P.2:=fun h=>by rw[←Kz,hc]at h;cases h
    have hkey:=fun k h1 h2=>hkey k h1 h2 hni
    have hkl:=fun t=>@Qla S i t
    refine gR ?_;intros
    refine lpI {ι:=Nat×List Bool,rs:=[(26,49)],mods:=[(9,fun t=> .one (.d (.v (.int .i64 ((i+1+t.1:Nat):Int))))),(8,fun t=> .one (.own 1 (iL (clK S i t.1)) 1))],boxes:=[],arrs:=[(5,fun _=>(1,sL P.1,1)),(6,fun t=>(1,bbL t.2,1))],ok:=fun t=>i+1+t.1≤rs.length∧t.2.length=rs.length∧(∀j,i+1+t.1≤j→j<rs.length→t.2.getD j false=P.2.contains ((j:Nat):Int))∧∀j,i<j→j<i+1+t.1→t.2.getD j false=(P.2.contains ((j:Nat):Int)||S i j),mu:=fun t=>rs.length-t.1} rfl (0,fl) ⟨by dsimp only;omega,hfl,fun j h1 h2=>hinv j (by dsimp only at h1;omega) h2,fun j h1 h2=>absurd h1 (by dsimp only at h2;omega)⟩ ?_ ?_
    ·have e3:iL (clK S i 0)=[[D.v (.int .i64 i)]]:=rfl
     clear hkl hkey hinv;exact gP
    ·rintro⟨t,gl⟩ htt
     dsimp only at htt;obtain⟨htt,hgl,hv1,hv2⟩:=htt;have k1:=hkl t
     clear hkl hinv
     by_cases h6:i+1+t<rs.length
     ·have eK:clK S i (t+1)=clK S i t++(if S i (i+1+t)then [((i+1+t:Nat):Int)]else []):=rfl
      have hgk:=hv1 (i+1+t) (KP _) h6
      have hkk:=hkey (i+1+t) (by omega) h6
      have eSam:sam C rs m set i (i+1+t)=S i (i+1+t):=by rw[hSS]
      clear hkey;have k2:(clK S i t).length≤41:=by omega
      have k3:(clK S i t).length≤maxLen:=KF k2 (by decide)
      generalize hQ:clK S i t=Q at k1 k2 k3 eK;generalize hK:i+1+t=K at h6 htt hgk hkk eK hv1 hv2 eSam;have eK1:((i+1+(t+1):Nat):Int)=((K:Nat):Int)+1:=by omega
      have hKg:K<gl.length:=by omega
      have hiK:i<K:=by omega
      cases hb:P.2.contains ((K:Nat):Int)
      ·rw[hb]at hgk
       cases hs:S i K
       ·rw[hs,if_neg (by decide),KM]at eK
        rw[hs]at eSam;have hok:(∀j,i+1+(t+1)≤j→j<rs.length→gl.getD j false=P.2.contains ((j:Nat):Int))∧∀j,i<j→j<i+1+(t+1)→gl.getD j false=(P.2.contains ((j:Nat):Int)||S i j):=⟨fun j h1 h2=>hv1 j (by omega) h2,fun j h1 h2=>by
         by_cases e:j=K
         ·subst e;rw[hgk,hb,hs];rfl
         ·exact hv2 j h1 (by omega)⟩
        clear hv1 hv2 hkk;refine gR ?_;intros
        refine lpN (t+1,gl) ⟨by dsimp only;omega,hgl,hok⟩ (by dsimp only;omega) ?_
        clear hok;exact gP
       ·rw[hs,if_pos rfl]at eK
        rw[hs]at eSam;have hok:(∀j,i+1+(t+1)≤j→j<rs.length→(gl.set K true).getD j false=P.2.contains ((j:Nat):Int))∧∀j,i<j→j<i+1+(t+1)→(gl.set K true).getD j false=(P.2.contains ((j:Nat):Int)||S i j):=by
         have hset:∀j,(gl.set K true).getD j false=if j=K then true else gl.getD j false:=fun j=>by
          rw[KD,List.getElem?_set,KD]
          by_cases e:K=j
          ·subst e;rw[if_pos rfl,if_pos rfl,if_pos hKg];rfl
          ·rw[if_neg e,if_neg (Ne.symm e)]
         refine⟨fun j h1 h2=>?_,fun j h1 h2=>?_⟩
         ·rw[hset,if_neg (by omega)];exact hv1 j (by omega) h2
         ·rw[hset]
          by_cases e:j=K
          ·subst e;rw[if_pos rfl,hs,Bool.or_true]
          ·rw[if_neg e];exact hv2 j h1 (by omega)
        have hgl2:(gl.set K true).length=rs.length:=by rw[List.length_set];exact hgl
        clear hv1 hv2 hkk;have q0:=@Qe5;refine gR ?_;clear q0;intros
        refine lpN (t+1,gl.set K true) ⟨by dsimp only;omega,hgl2,hok⟩ (by dsimp only;omega) ?_
        clear hok;have q0:=@Qe5;exact gP
      ·rw[hb]at hgk
       have hs:S i K=false:=by
        cases hs:S i K with
        | false=>rfl
        | true=>
         have:=hkk hs
         rw[←Kz,hb]at this;exact absurd rfl this
       rw[hs,if_neg (by decide),KM]at eK
       have hok:(∀j,i+1+(t+1)≤j→j<rs.length→gl.getD j false=P.2.contains ((j:Nat):Int))∧∀j,i<j→j<i+1+(t+1)→gl.getD j false=(P.2.contains ((j:Nat):Int)||S i j):=⟨fun j h1 h2=>hv1 j (by omega) h2,fun j h1 h2=>by
        by_cases e:j=K
        ·subst e;rw[hgk,hb];rfl
        ·exact hv2 j h1 (by omega)⟩
       clear hv1 hv2 hkk eSam;refine gR ?_;intros
       refine lpN (t+1,gl) ⟨by dsimp only;omega,hgl,hok⟩ (by dsimp only;omega) ?_
       clear hok;exact gP
     ·have e6:i+1+t=rs.length:=by omega
      have ecl:clK S i t=cl S rs.length i:=by unfold cl;congr 1;omega
      rw[ecl]at k1;have k3:(cl S rs.length i).length≤41:=by omega
      have k4:(cl S rs.length i).length≤maxLen:=KF k3 (by decide)
      have hcc:=fun j (h1:i<j) (h2:j<rs.length)=>@QAz S rs.length i j h5 h1 h2
      have hsh:=fun(h:¬1<(cl S rs.length i).length) j (h1:i<j) (h2:j<rs.length)=>@Qxk S rs.length i h5 h j h1 h2
      clear hkey hv1;generalize hQ:cl S rs.length i=Q at k1 k3 k4 eS ecl hcc hsh
      by_cases h7:1<Q.length
      ·have d7:decide ((Q.length:Int)>1)=true:=KZ (by omega)
       rw[if_pos h7]at eS;have eS1:=congrArg Prod.fst eS
       have eS2:=congrArg Prod.snd eS
       dsimp only at eS1 eS2;have hok:∀j,i+1≤j→j<rs.length→gl.getD j false=(ouK S rs.length (i+1)).2.contains ((j:Nat):Int):=fun j h1 h2=>by
        rw[eS2,Qxu,hcc j (by omega) h2]
        exact hv2 j (by omega) (by omega)
       clear eS hv2 hcc hsh eS2;have q0:=@QnF;refine gR ?_;clear q0;intros
       refine lpN (i+1,gl) ⟨by dsimp only;omega,hgl,hok⟩ (by dsimp only;omega) ?_
       clear hok;have q0:=@QnF;exact gP
      ·have d7:decide ((Q.length:Int)>1)=false:=KW (by omega)
       rw[if_neg h7]at eS;have hok:∀j,i+1≤j→j<rs.length→gl.getD j false=(ouK S rs.length (i+1)).2.contains ((j:Nat):Int):=fun j h1 h2=>by
        rw[eS,hv2 j (by omega) (by omega),hsh h7 j (by omega) h2,Bool.or_false]
       clear hv2 hcc hsh;refine gR ?_
       refine lpN (i+1,gl) ⟨by dsimp only;omega,hgl,hok⟩ (by dsimp only;omega) ?_
       clear hok;exact gP
   ·rw[hc,if_pos rfl]at eS
    rw[hc]at hfi;have hok:∀j,i+1≤j→j<rs.length→fl.getD j false=(ouK S rs.length (i+1)).2.contains ((j:Nat):Int):=fun j h1 h2=>by
     rw[eS];exact hinv j (by omega) h2
    clear hkey hinv;refine gR ?_;intros
    refine lpN (i+1,fl) ⟨by dsimp only;omega,hfl,hok⟩ (by dsimp only;omega) ?_
    clear hok;exact gP
  ·have e5:i=rs.length:=by omega
   subst e5;clear hkey hinv;exact gQ
end Go.Own
