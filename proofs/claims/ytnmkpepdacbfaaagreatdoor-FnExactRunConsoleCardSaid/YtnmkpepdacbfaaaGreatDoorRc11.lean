/- Own contracts. Conditions: as each theorem states them. -/
import Derived.Test.YtnmkpepdacbfaaaGreatDoorRc10
set_option linter.unusedSimpArgs false
set_option linter.unusedVariables false
set_option maxRecDepth 20000
set_option maxHeartbeats 2000000
namespace Go.Own
open Go Go.Proofs
attribute [local go_sem] Qar Qcv Tryz.results202 Tryz.results127 Tryz.results164 QO Qhh Tryz.results109 Tryz.results84
attribute [local go_sem] Qh Qe Qaa Qac Qab Qaf QaX QdJ Qu
def Qkq:Qb:=⟨[],false,fun
 | [.one (.sl 2 l),.one (.v (.int .i64 x))]=>some (WfD l∧(∀d∈unD l,Qbn d)∧0≤x∧x≤31,[⟨false,[.d (.v (.int .i64 (clo (unD l) x)))]⟩],[])
 | _=>none⟩
attribute [local go_sem] Qkq
theorem QkE{ds:List (Int×Int)}{i:Nat}(hd:∀d∈ds,Qbn d)(h:i<ds.length):(0≤(ds.getD i (0,0)).1∧(ds.getD i (0,0)).1≤31)∧0≤(ds.getD i (0,0)).2∧(ds.getD i (0,0)).2≤4:=by
 have:=hd _ (QP h (0,0))
 exact⟨this.1,this.2⟩
theorem Qbo{l x:Int}:Q7 l x=(Q6 .andNot .i64 l x==0):=rfl
theorem QAp{r:Int}(h:0≤r∧r≤4):1≤(2:Int)^r.toNat∧(2:Int)^r.toNat≤16:=p5 (c:=r.toNat) (by omega)
theorem Qnk{ds:List (Int×Int)}{x:Int}(hn:∀j,j<ds.length→Qi4 x (ds.getD j (0,0))=false):QdU ds x:=by
 intro d hdm hi;obtain⟨j,hj,e⟩:=List.getElem_of_mem hdm;have:=hn j hj
 simp only[List.getD_eq_getElem?_getD,hj,List.getElem?_eq_getElem,Option.getD_some,e,Qi4,hi,Bool.true_and,Bool.not_eq_false']at this
 exact this
theorem QoB{x r:Int}(hx:R5 x)(hr:0≤r∧r≤4):0≤Qbd x r∧Qbd x r≤31:=QdL hx hr
def QAY(ds:List (Int×Int))(x0:Int)(i:Nat)(x:Int):Prop:=i≤ds.length∧R5 x∧leB x0 x∧leB x (clo ds x0)∧∀j,j<i→Qi4 x (ds.getD j (0,0))=false
theorem QvN{ds:List (Int×Int)}{x0 x:Int}{i:Nat}(hd:∀d∈ds,Qbn d)(h0:R5 x0)(h:QAY ds x0 i x)(h5:i<ds.length)(ha:Qi4 x (ds.getD i (0,0))=true):QAY ds x0 0 (Qbd x (ds.getD i (0,0)).2):=by
 obtain⟨h1,h2,h3,h4,_⟩:=h;have hm:=hd _ (QP h5 (0,0));simp only[Qi4,Bool.and_eq_true,Bool.not_eq_true']at ha
 refine⟨Nat.zero_le _,QdL h2 hm.2,h3.trans (QkX h2 hm.2),QkY h2 hm.2 h4 ?_,fun j hj=>absurd hj (Nat.not_lt_zero _)⟩
 exact QqK hd h0 _ (QP h5 (0,0)) ((Qak hm.1 (Qnx hd h0)).2 (((Qak hm.1 h2).1 ha.1).trans h4))
theorem Qst{ds:List (Int×Int)}{x0 x:Int}{i:Nat}(h:QAY ds x0 i x)(h5:i<ds.length)(ha:Qi4 x (ds.getD i (0,0))=false):QAY ds x0 (i+1) x:=by
 obtain⟨h1,h2,h3,h4,h6⟩:=h;refine⟨h5,h2,h3,h4,fun j hj=>?_⟩
 by_cases e:j=i
 ·subst e;exact ha
 ·exact h6 j (by omega)
theorem QvO{ds:List (Int×Int)}{x0 x:Int}(hd:∀d∈ds,Qbn d)(h0:R5 x0)(h:QAY ds x0 ds.length x):x=clo ds x0:=by
 obtain⟨h1,h2,h3,h4,h6⟩:=h;exact QxC hd h0 h2 h3 h4 (Qnk h6)
def cmu(L:Nat)(i:Nat)(x:Int):Nat:=(5-QgL x)*(L+1)+(L-i)
theorem QoM{L i:Nat}{x:Int}(h:i<L):cmu L (i+1) x<cmu L i x:=by unfold cmu;omega
theorem Qsw{L i:Nat}{x y:Int}(h:QgL x<QgL y)(hi:i<L):cmu L 0 y<cmu L i x:=by
 unfold cmu;have:=QlX y
 have e:5-QgL x=(5-QgL y)+(QgL y-QgL x):=by omega
 rw[e,Nat.add_mul];have:(L+1)≤(QgL y-QgL x)*(L+1):=Nat.le_mul_of_pos_left _ (by omega)
 omega
theorem Qem:Qa E0 202 Qkq:=by
 refine QE (E:=E0) (T:=mkT Tryz.prog [(157,Qar),(149,Qcv)] false (fun _=>false) true (fun _=>false)) (Qd (E:=E0) (.cons Qa4 (.cons Qcm .nil))) (fn:=Tryz.f202) Tryz.func202 (by kernel_rfl) rfl Qc (by kernel_rfl) rfl ?_
 intro args p rs ms hr;unfold Qkq at hr;dsimp only at hr;split at hr;rotate_left
 ·cases hr
 rename_i l x;cases hr;refine⟨rfl,rfl,nLe rfl,?_⟩
 have hm:=mxE;rintro⟨h1,hd,hx1,hx2⟩ bs;obtain⟨ds,rfl,hx⟩:=h1.ex;clear h1;rw[Qh]at hd ⊢;(repeat' first|refine gA fun _=>?_|apply fkI<;>intro hb<;>try simp only[ew]at hb|simp only[go_sem,simprocAttr, *])
 refine lpI {ι:=Nat×Int,rs:=[(6,37)],mods:=[(5,fun i=> .one (.d (.v (.int .i64 i.1)))),(1,fun i=> .one (.d (.v (.int .i64 i.2))))],boxes:=[],arrs:=[],ok:=fun i=>QAY ds x i.1 i.2,mu:=fun i=>cmu ds.length i.1 i.2} rfl (0,x) ⟨Nat.zero_le _,⟨hx1,hx2⟩,leB.refl _,QxD hd ⟨hx1,hx2⟩,fun j hj=>absurd hj (Nat.not_lt_zero _)⟩ ?_ ?_
 ·exact gQ
 ·rintro⟨i,y⟩ hi
  dsimp only at hi;have hi1:=hi.1
  obtain⟨y1,y2⟩:=hi.2.1
  by_cases h5:i<ds.length
  ·obtain⟨⟨d1,d2⟩,d3,d4⟩:=QkE hd h5
   have hs:=QAp ⟨d3,d4⟩
   cases ha:Qi4 y (ds.getD i (0,0))
   ·have hn:=Qst hi h5 ha
    have ha2:(Q7 (ds.getD i (0,0)).1 y&& !Qt y (ds.getD i (0,0)).2)=false:=ha
    rw[Qbo]at ha2;clear hi ha hd hs;(repeat' first|refine gA fun _=>?_|apply fkI<;>intro hb<;>try simp only[ew,ha2]at hb|simp only[go_sem,simprocAttr, *])
    refine lpN (i+1,y) hn (QoM h5) ?_
    clear hn;(repeat' first|refine gA fun _=>?_|apply fkI<;>intro hb<;>try simp only[ew,ha2]at hb|simp only[go_sem,simprocAttr, *])
   ·have hn:=QvN hd ⟨hx1,hx2⟩ hi h5 ha
    have hc:=(Qdf hd ⟨y1,y2⟩ h5 ha).1
    have hb:=QoB ⟨y1,y2⟩ ⟨d3,d4⟩
    have ha2:(Q7 (ds.getD i (0,0)).1 y&& !Qt y (ds.getD i (0,0)).2)=true:=ha
    rw[Qbo]at ha2;have e:Q6 .or .i64 y (1*2^(ds.getD i (0,0)).2.toNat)=Qbd y (ds.getD i (0,0)).2:=rfl
    clear hi ha hd;(repeat' first|refine gA fun _=>?_|apply fkI<;>intro hb<;>try simp only[ew,ha2,e]at hb|simp only[go_sem,simprocAttr, *])
    refine lpN (0,Qbd y (ds.getD i (0,0)).2) hn (Qsw hc h5) ?_
    clear hn hc;(repeat' first|refine gA fun _=>?_|apply fkI<;>intro hb<;>try simp only[ew,ha2,e]at hb|simp only[go_sem,simprocAttr, *])
    all_goals first|rfl|skip
  ·have e5:i=ds.length:=by omega
   subst e5;have e:=QvO hd ⟨hx1,hx2⟩ hi
   clear hi hd;(repeat' first|refine gA fun _=>?_|apply fkI<;>intro hb<;>try simp only[ew]at hb|simp only[go_sem,simprocAttr, *])
   all_goals first|exact e|skip
theorem Qb7:Qa E0 127 Qkq:=by
 refine QE (E:=E0) (T:=mkT Tryz.prog [] false (fun _=>false) true (fun _=>false)) (Qd (E:=E0) .nil) (fn:=Tryz.f127) Tryz.func127 (by kernel_rfl) rfl Qc (by kernel_rfl) rfl ?_
 intro args p rs ms hr;unfold Qkq at hr;dsimp only at hr;split at hr;rotate_left
 ·cases hr
 rename_i l x;cases hr;refine⟨rfl,rfl,nLe rfl,?_⟩
 have hm:=mxE;rintro⟨h1,hd,hx1,hx2⟩ bs;obtain⟨ds,rfl,hx⟩:=h1.ex;clear h1;rw[Qh]at hd ⊢;unfold clo;generalize hF:Qha ds 6 x=F;(repeat' first|refine gA fun _=>?_|apply fkI<;>intro hb<;>try simp only[ew]at hb|simp only[go_sem,simprocAttr, *])
 refine lpI {ι:=Nat×Int,rs:=[(6,38)],mods:=[(5,fun i=> .one (.d (.v (.int .i64 i.1)))),(1,fun i=> .one (.d (.v (.int .i64 i.2))))],boxes:=[],arrs:=[],ok:=fun i=>i.1≤6∧R5 i.2∧Qha ds (6-i.1) i.2=F,mu:=fun i=>6-i.1} rfl (0,x) ⟨by omega,⟨hx1,hx2⟩,hF⟩ ?_ ?_
 ·exact gQ
 ·rintro⟨k,y⟩ hi
  dsimp only at hi;obtain⟨hk,hy,ht⟩:=hi;obtain⟨y1,y2⟩:=hy;clear hF
  by_cases h6:k<6
  ·have h6':(k:Int)≤5:=by omega
   rw[show 6-k=6-(k+1)+1 by omega,Qha]at ht
   generalize hP:Qfc ds y=P at ht;have hPR:R5 P:=hP▸Qgy hd ⟨y1,y2⟩
   (repeat' first|refine gA fun _=>?_|apply fkI<;>intro hb<;>try simp only[ew]at hb|simp only[go_sem,simprocAttr, *])
   refine lpI {ι:=Nat×Int,rs:=[(11,38)],mods:=[(6,fun i=> .one (.d (.v (.int .i64 i.1)))),(1,fun i=> .one (.d (.v (.int .i64 i.2))))],boxes:=[],arrs:=[],ok:=fun i=>i.1≤ds.length∧R5 i.2∧Qfc (ds.drop i.1) i.2=P,mu:=fun i=>ds.length-i.1} rfl (0,y) ⟨Nat.zero_le _,⟨y1,y2⟩,hP⟩ ?_ ?_
   ·clear ht
    exact gQ
   ·rintro⟨i,z⟩ hi
    dsimp only at hi;obtain⟨hi1,hz,hq⟩:=hi;obtain⟨z1,z2⟩:=hz;clear hP
    by_cases h5:i<ds.length
    ·obtain⟨⟨d1,d2⟩,d3,d4⟩:=QkE hd h5
     have hs:=QAp ⟨d3,d4⟩
     rw[QaQ h5 (0,0)]at hq;have hq':Qfc (ds.drop (i+1)) (Qed z (ds.getD i (0,0)))=P:=hq
     have hR:=QiU (d:=ds.getD i (0,0)) (x:=z) ⟨z1,z2⟩ ⟨⟨d1,d2⟩,d3,d4⟩
     have ea:=Qde (l:=(ds.getD i (0,0)).1) (x:=z) ⟨d1,d2⟩ ⟨z1,z2⟩
     cases ha:Q7 (ds.getD i (0,0)).1 z
     ·have e1:Qed z (ds.getD i (0,0))=z:=by unfold Qed;rw[ha];rfl
      rw[ha]at ea;rw[e1]at hq' hR;clear ha hd hs hq ht hPR e1;(repeat' first|refine gA fun _=>?_|apply fkI<;>intro hb<;>try simp only[ew,ea]at hb|simp only[go_sem,simprocAttr, *])
      refine lpN (i+1,z) ⟨h5,hR,hq'⟩ (by dsimp only;omega) ?_
      clear hq';(repeat' first|refine gA fun _=>?_|apply fkI<;>intro hb<;>try simp only[ew,ea]at hb|simp only[go_sem,simprocAttr, *])
     ·have e1:Qed z (ds.getD i (0,0))=Qbd z (ds.getD i (0,0)).2:=by unfold Qed;rw[ha];rfl
      rw[ha]at ea;rw[e1]at hq' hR;have hb:=QoB ⟨z1,z2⟩ ⟨d3,d4⟩
      have e:Q6 .or .i64 z (1*2^(ds.getD i (0,0)).2.toNat)=Qbd z (ds.getD i (0,0)).2:=rfl
      clear ha hd hq ht hPR e1;(repeat' first|refine gA fun _=>?_|apply fkI<;>intro hb<;>try simp only[ew,ea,e]at hb|simp only[go_sem,simprocAttr, *])
      refine lpN (i+1,Qbd z (ds.getD i (0,0)).2) ⟨h5,hR,hq'⟩ (by dsimp only;omega) ?_
      clear hq';(repeat' first|refine gA fun _=>?_|apply fkI<;>intro hb<;>try simp only[ew,ea,e]at hb|simp only[go_sem,simprocAttr, *])
    ·have e5:i=ds.length:=by omega
     subst e5;rw[List.drop_length]at hq;have e:z=P:=hq
     subst e;(repeat' first|refine gA fun _=>?_|apply fkI<;>intro hb<;>try simp only[ew]at hb|simp only[go_sem,simprocAttr, *])
     refine lpN (k+1,z) ⟨by dsimp only;omega,hPR,ht⟩ (by dsimp only;omega) ?_
     clear ht hq hPR;exact gQ
  ·have e6:k=6:=by omega
   subst e6;have e:y=F:=ht
   clear ht;(repeat' first|refine gA fun _=>?_|apply fkI<;>intro hb<;>try simp only[ew]at hb|simp only[go_sem,simprocAttr, *])
   all_goals first|exact e|skip
def QjS(n:Int)(ds:List (Int×Int))(l r:Int):Bool:=QF n ds&&QJ n l r&&Qt (clo ds l) r
def QlQ:Qb:=⟨[],false,fun
 | [.one (.v (.int .i64 n)),.one (.sl 2 l),.agg [.v (.int .i64 a),.v (.int .i64 b)]]=>some (WfD l∧ -9223372036854775808≤n∧n≤9223372036854775807,[⟨false,[.d (.v (.bool (QjS n (unD l) a b)))]⟩],[])
 | _=>none⟩
attribute [local go_sem] QlQ
def Qi6:Qb:=⟨[],false,fun
 | [.one (.sl 2 l),.agg [.v (.int .i64 a),.v (.int .i64 b)]]=>some (WfD l∧(∀d∈unD l,Qbn d)∧(0≤a∧a≤31)∧0≤b∧b≤4,[⟨false,[.d (.v (.bool (Qt (clo (unD l) a) b)))]⟩],[])
 | _=>none⟩
attribute [local go_sem] Qi6
theorem QkO:Qa E0 164 Qi6:=by
 refine QE (E:=E0) (T:=mkT Tryz.prog [(202,Qkq),(149,Qcv)] false (fun _=>false) true (fun _=>false)) (Qd (E:=E0) (.cons Qem (.cons Qcm .nil))) (fn:=Tryz.f164) Tryz.func164 (by kernel_rfl) rfl Qc (by kernel_rfl) rfl ?_
 intro args p rs ms hr;unfold Qi6 at hr;dsimp only at hr;split at hr;rotate_left
 ·cases hr
 rename_i l a b;cases hr;refine⟨rfl,rfl,nLe rfl,?_⟩
 have hm:=mxE;rintro⟨h1,hd,⟨ha1,ha2⟩,hb1,hb2⟩ bs;obtain⟨ds,rfl,hx⟩:=h1.ex;clear h1;rw[Qh]at hd ⊢;exact gQ
theorem Qas{n l r:Int}(h:QJ n l r=true):(0≤l∧l≤31)∧0≤r∧r≤4:=by
 simp only[QJ,Bool.and_eq_true,Qi]at h
 have:=Qp h.1.2
 omega
theorem Qax{n:Int}{ds:List (Int×Int)}(h:QF n ds=true):∀d∈ds,Qbn d:=by
 simp only[QF,Bool.and_eq_true]at h
 exact QBr h.1
theorem QnP:Qa E0 109 QlQ:=by
 refine QE (E:=E0) (T:=mkT Tryz.prog [(163,QO),(105,Qhh),(164,Qi6)] false (fun _=>false) true (fun _=>false)) (Qd (E:=E0) (.cons Qbq (.cons Qic (.cons QkO .nil)))) (fn:=Tryz.f109) Tryz.func109 (by kernel_rfl) rfl Qc (by kernel_rfl) rfl ?_
 intro args p rs ms hr;unfold QlQ at hr;dsimp only at hr;split at hr;rotate_left
 ·cases hr
 rename_i n l a b;cases hr;refine⟨rfl,rfl,nLe rfl,?_⟩
 have hm:=mxE;rintro⟨h1,hn1,hn2⟩ bs;obtain⟨ds,rfl,hx⟩:=h1.ex;clear h1;rw[Qh];unfold QjS;cases hv:(QF n ds&&QJ n a b)
 ·(repeat' first|refine gA fun _=>?_|apply fkI<;>intro hb<;>try simp only[ew,hv]at hb|simp only[go_sem,simprocAttr, *,hv])
 ·rw[Bool.and_eq_true]at hv
  have hd:=Qax hv.1
  obtain⟨⟨a1,a2⟩,b1,b2⟩:=Qas hv.2;obtain⟨v1,v2⟩:=hv;exact gQ
theorem QkP:Qa E0 84 QlQ:=by
 refine QE (E:=E0) (T:=mkT Tryz.prog [(126,QO),(82,Qhh),(127,Qkq)] false (fun _=>false) true (fun _=>false)) (Qd (E:=E0) (.cons Qbr (.cons Qe2 (.cons Qb7 .nil)))) (fn:=Tryz.f84) Tryz.func84 (by kernel_rfl) rfl Qc (by kernel_rfl) rfl ?_
 intro args p rs ms hr;unfold QlQ at hr;dsimp only at hr;split at hr;rotate_left
 ·cases hr
 rename_i n l a b;cases hr;refine⟨rfl,rfl,nLe rfl,?_⟩
 have hm:=mxE;rintro⟨h1,hn1,hn2⟩ bs;obtain⟨ds,rfl,hx⟩:=h1.ex;clear h1;rw[Qh];unfold QjS;cases hv:(QF n ds&&QJ n a b)
 ·(repeat' first|refine gA fun _=>?_|apply fkI<;>intro hb<;>try simp only[ew,hv]at hb|simp only[go_sem,simprocAttr, *,hv])
 ·rw[Bool.and_eq_true]at hv
  have hd:=Qax hv.1
  obtain⟨⟨a1,a2⟩,b1,b2⟩:=Qas hv.2;obtain⟨v1,v2⟩:=hv;unfold Qt;exact gQ
end Go.Own
