/- Contracts. Conditions: as stated. -/
import Derived.Test.YtnmkpepdacbfaaaGreatDoorRp44
set_option linter.all false
set_option maxRecDepth 20000
set_option maxHeartbeats 4000000
namespace Go.Own
open Go Go.Proofs
attribute [local go_sem] cL3 Tryz.results38 Tryz.results41 Tryz.results42 cDL Qw2 cSL QsO QsP Qw4 QfP Tryz.results50 cWl QmD QwX Tryz.results49 Qdi Qdj Qb4 Qf1 Qeg Qeh Qkt Qkx Qhn Qm0 Qm1 Qks Qm2 Qm3 Qku Qkv QiV Qh Qg Qae Qag Qaf Qaj Qa6 Qa7 Qd1 Qv Qa1 Qz QbD QbT Qfc Qht Qez QcJ
def QtE:Qb:=⟨[],false,fun
 | [.one (.sl 1 t),.one (.v (.int .i64 a))]=>some ((WfL t∧∀w∈unT t,w.size≤1073741824)∧0≤a∧a<t.length,[⟨false,[.d (.v (.int .i64 (l3V ((unT t).getD a.toNat ⟨#[]⟩))))]⟩],[])
 | _=>none⟩
attribute [local go_sem] QtE
theorem QBA:Qa E0 38 QtE:=by
 refine QG (E:=E0) (T:=mkT Tryz.prog [(74,cL3)] false (fun _=>false) true (fun _=>false)) (Qd (E:=E0) (.cons Qzx .nil)) (fn:=Tryz.f38) Tryz.func38 kR rfl Qc kR rfl ?_
 intro args p rs ms hr;unfold QtE at hr;dsimp only at hr;split at hr;rotate_left
 ·cases hr
 rename_i t a;cases hr;refine⟨rfl,rfl,nLe rfl,?_⟩
 have hm:=mxE;rintro⟨⟨h4,hs⟩,a0,a1⟩ bs;obtain⟨ws,rfl,hw⟩:=h4.ex;clear h4;rw[Qa1]at hs ⊢;rw[Qz]at a1;obtain⟨k,rfl⟩:=KL a0;rw[KE];have hz:=Qei hs k
 clear hs;have hk:k<ws.length:=by omega
 have h5:¬ws.length≤k:=by omega
 generalize hB:ws.getD k ⟨#[]⟩=b at hz;(repeat' first|refine gA fun _=>?_|apply fkI<;>intro hb<;>try simp only[ew,hB]at hb|simp only[go_sem,simprocAttr, *,hB])
 all_goals first|rfl|skip
def QtH:Qb:=⟨[],false,fun
 | [.one (.sl 1 t)]=>some ((WfL t∧∀w∈unT t,w.size≤1073741824)∧0<t.length∧t.length≤2147483648,[⟨false,[.own 1 (iL (((unT t).drop 1).map l3V)) 1]⟩],[])
 | _=>none⟩
attribute [local go_sem] QtH
theorem QB3:Qa E0 41 QtH:=by
 refine QG (E:=E0) (T:=mkT Tryz.prog [(74,cL3)] false (fun _=>false) true (fun _=>false)) (Qd (E:=E0) (.cons Qzx .nil)) (fn:=Tryz.f41) Tryz.func41 kR rfl Qc kR rfl ?_
 intro args p rs ms hr;unfold QtH at hr;dsimp only at hr;split at hr;rotate_left
 ·cases hr
 rename_i t;cases hr;refine⟨rfl,rfl,nLe rfl,?_⟩
 have hm:=mxE;rintro⟨⟨h4,hs⟩,h0,hw2⟩ bs;obtain⟨ws,rfl,hw⟩:=h4.ex;clear h4;rw[Qa1]at hs ⊢;rw[Qz]at h0 hw2;have hsz:=fun i=>Qei hs i
 clear hs;have ei:iL []=[]:=rfl
 (repeat' first|refine gA fun _=>?_|apply fkI<;>intro hb<;>try simp only[ew,ei]at hb|simp only[go_sem,simprocAttr, *,ei])
 refine lpI {ι:=Nat,rs:=[(6,20)],mods:=[(4,fun k=> .one (.d (.v (.int .i64 k)))),(3,fun k=> .one (.own 1 (iL (((ws.take k).drop 1).map l3V)) 1))],boxes:=[],arrs:=[],ok:=fun k=>1≤k∧k≤ws.length,mu:=fun k=>ws.length-k} rfl 1 ⟨KP _,h0⟩ ?_ fun k hk=>?_
 ·have e1:((ws.take 1).drop 1).map l3V=[]:=by
   rw[List.drop_eq_nil_of_le (by rw[KO];omega)];rfl
  clear hsz;(repeat' first|refine gA fun _=>?_|apply fkI<;>intro hb<;>try simp only[ew,ei,e1]at hb|simp only[go_sem,simprocAttr, *,ei,e1])
  all_goals first|rfl|skip
 ·dsimp only at k hk
  obtain⟨hk1,hk2⟩:=hk
  by_cases h5:k<ws.length
  ·have hz:=hsz k
   clear hsz;have hT:((ws.take (k+1)).drop 1).map l3V=((ws.take k).drop 1).map l3V++[l3V (ws.getD k ⟨#[]⟩)]:=by
    rw[Qf h5 ⟨#[]⟩,List.drop_append_of_le_length (by rw[KO];omega),Kv];rfl
   have hlen:(((ws.take k).drop 1).map l3V).length≤2147483648:=by simp only[KV,Kk,KO];omega
   have hlen2:(((ws.take k).drop 1).map l3V).length≤maxLen:=KF hlen (by decide)
   generalize hV:((ws.take k).drop 1).map l3V=V at hT hlen hlen2;generalize hB:ws.getD k ⟨#[]⟩=b at hz hT;(repeat' first|refine gA fun _=>?_|apply fkI<;>intro hb<;>try simp only[ew,hV,hB,Qo]at hb|simp only[go_sem,simprocAttr, *,hV,hB,Qo])
   refine lpN (k+1) ⟨by omega,by omega⟩ (by dsimp only;omega) ?_
   (repeat' first|refine gA fun _=>?_|apply fkI<;>intro hb<;>try simp only[ew,hT,Qo]at hb|simp only[go_sem,simprocAttr, *,hT,Qo])
  ·have e5:k=ws.length:=by omega
   subst e5;have hT:ws.take ws.length=ws:=KR
   clear hsz;(repeat' first|refine gA fun _=>?_|apply fkI<;>intro hb<;>try simp only[ew,hT]at hb|simp only[go_sem,simprocAttr, *,hT])
   all_goals first|rfl|skip
def QmC:Qb:=⟨[true],false,fun
 | [.mbx [.inl (.v (.int .i64 c)),.inl (.sl 1 l),.inl (.v (.int .i64 m)),.inl (.sl 2 q),.inl (.v (.bool h)),.inr (2,g,_)],.agg [.v (.int .i64 c2),.sl 1 l2,.v (.int .i64 m2),.sl 2 q2],.one (.v (.bool b))]=>some (True,[⟨false,[.d (.v (.string (Qmn b)))]⟩],
   [.mbx [.inl (.v (.int .i64 (if b then c2 else c))),.inl (.sl 1 (if b then l2 else l)),.inl (.v (.int .i64 (if b then m2 else m))),.inl (.sl 2 (if b then q2 else q)),.inl (.v (.bool h)),.inr (2,g,1)]])
 | _=>none⟩
attribute [local go_sem] QmC
theorem QxI:Qa E0 42 QmC:=by
 refine Qbu (E:=E0) (T:=mkT Tryz.prog [] false (fun _=>false) false (fun _=>false)) (Qd (E:=E0) .nil) rfl (fn:=Tryz.f42) Tryz.func42 kR rfl Qc kR rfl rfl (nLe rfl) ?_
 intro args p rs ms hr;unfold QmC at hr;dsimp only at hr;split at hr;rotate_left
 ·cases hr
 rename_i c l m q h g dp c2 l2 m2 q2 b;cases hr;refine⟨_,_,_,rfl,rfl,rfl,⟨rfl,rfl⟩,nLe rfl,?_⟩
 have hm:=mxE;intro _ bs;cases b
 ·simp only[KX,if_false]
  exact gQ
 ·simp only[if_true]
  exact gQ
theorem Qem{w a b:ByteArray}(h:isW w a=true)(hne:a.data.toList≠b.data.toList):isW w b=false:=by
 rw[QoT]at h ⊢;rw[of_decide_eq_true h];exact KW hne
def QtF:Qb:=⟨[true],false,fun
 | [.mbx [.inl (.v (.int .i64 c)),.inl (.sl 1 l),.inl (.v (.int .i64 m)),.inl (.sl 2 q),.inl (.v (.bool h)),.inr (2,g,_)],.one (.v (.string w))]=>some ((WfS l∧WfD q∧WfD g)∧Qdf ⟨c,unS l,m,unD q,unD g⟩,[⟨false,[.d (.v (.string (Qmb ⟨c,unS l,m,unD q,unD g⟩ w).2))]⟩],
   [.mbx [.inl (.v (.int .i64 c)),.inl (.sl 1 l),.inl (.v (.int .i64 m)),.inl (.sl 2 q),.inl (.v (.bool h)),.inr (2,dL (Qmb ⟨c,unS l,m,unD q,unD g⟩ w).1.gv,1)]])
 | _=>none⟩
attribute [local go_sem] QtF
theorem QBB:Qa E0 50 QtF:=by
 refine Qbu (E:=E0) (T:=mkT Tryz.prog [(12,cDL),(15,Qw2),(14,cSL),(81,QsO),(86,QsP),(87,Qw4),(10,QfP)] false (fun _=>false) false (fun _=>false)) (Qd (E:=E0) (.cons QDu (.cons QBv (.cons QzK (.cons Qtb (.cons Qt3 (.cons QCa (.cons QeL .nil)))))))) rfl (fn:=Tryz.f50) Tryz.func50 kR rfl Qc kR rfl rfl (nLe rfl) ?_
 intro args p rs ms hr;unfold QtF at hr;dsimp only at hr;split at hr;rotate_left
 ·cases hr
 rename_i c l m q h g dp w;cases hr;refine⟨_,_,_,rfl,rfl,rfl,⟨rfl,rfl⟩,nLe rfl,?_⟩
 have hm:=mxE;rintro⟨⟨h1,h2,h3⟩,hc⟩ bs;obtain⟨rs,rfl,hx,hy⟩:=h1.ex;obtain⟨ds,rfl,hd⟩:=h2.ex;obtain⟨gv,rfl,hg⟩:=h3.ex;clear h1 h2 h3;rw[QB,Qh,Qh]at hc ⊢;obtain⟨⟨c0,c5⟩,r40,r5,d160,g20⟩:=QbN hc;dsimp only at c0 c5 r40 r5 d160 g20;clear hc r5;generalize hZ:Qmb ⟨c,rs,m,ds,gv⟩ w=Z;unfold Qmb at hZ;dsimp only at hZ;split at hZ
 ·rename_i k1
  subst hZ;exact gQ
 rename_i k1;rw[KS]at k1;split at hZ
 ·rename_i k2
  subst hZ;have f1:=@QoW c rs m
  generalize hK:Qqz c rs m=xs at f1;have f2:xs.length≤maxLen:=KF f1 (by decide)
  (repeat' first|refine gA fun _=>?_|apply fkI<;>intro hb<;>try simp only[ew,hK]at hb|simp only[go_sem,simprocAttr, *,hK])
  all_goals first|rfl|skip
 rename_i k2;rw[KS]at k2;split at hZ
 ·rename_i k3
  subst hZ;have f1:=(@Qd5 c rs m).1
  generalize hK:Qii c rs m=xs at f1;have f2:xs.length≤maxLen:=KF f1 (by decide)
  (repeat' first|refine gA fun _=>?_|apply fkI<;>intro hb<;>try simp only[ew,hK]at hb|simp only[go_sem,simprocAttr, *,hK])
  all_goals first|rfl|skip
 rename_i k3;rw[KS]at k3;split at hZ
 ·rename_i k4
  have j1:=Qem k4 (b:=QkB) (by decide)
  have j2:=Qem k4 (b:=QgT) (by decide)
  have j3:=Qem k4 (b:=Qyf) (by decide)
  have j4:=Qem k4 (b:=Qqv) (by decide)
  subst hZ;have n1:=@Qgd ((rs.length:Nat):Int) (by omega) (by omega)
  (repeat' first|refine gA fun _=>?_|apply fkI<;>intro hb<;>try simp only[ew,n1]at hb|simp only[go_sem,simprocAttr, *,n1])
  all_goals first|rfl|skip
 rename_i k4;rw[KS]at k4;split at hZ
 ·rename_i k5
  have j1:=Qem k5 (b:=QkB) (by decide)
  have j2:=Qem k5 (b:=QgT) (by decide)
  split at hZ
  ·rename_i k6
   subst hZ;exact gQ
  ·rename_i k6
   rw[KS]at k6;subst hZ;(repeat' first|refine gA fun _=>?_|apply fkI<;>intro hb<;>try simp only[ew,Qa5]at hb|simp only[go_sem,simprocAttr, *,Qa5])
   all_goals first|rfl|skip
 rename_i k5;rw[KS]at k5;split at hZ
 ·rename_i k6
  have j1:=Qem k6 (b:=QkB) (by decide)
  have j2:=Qem k6 (b:=QgT) (by decide)
  subst hZ;(repeat' first|refine gA fun _=>?_|apply fkI<;>intro hb<;>try simp only[ew,Qa5]at hb|simp only[go_sem,simprocAttr, *,Qa5])
  all_goals first|rfl|skip
 rename_i k6;rw[KS]at k6;split at hZ
 ·rename_i k7
  subst hZ;have f1:=(@Qdg c gv).2
  generalize hK:QgG c gv=xs at f1;have f2:xs.length≤maxLen:=KF f1 (by decide)
  (repeat' first|refine gA fun _=>?_|apply fkI<;>intro hb<;>try simp only[ew,hK]at hb|simp only[go_sem,simprocAttr, *,hK])
  all_goals first|rfl|skip
 rename_i k7;rw[KS]at k7;split at hZ
 ·rename_i k8
  subst hZ;exact gQ
 ·rename_i k8
  rw[KS]at k8;subst hZ;exact gQ
theorem Qsm{sep:ByteArray}{ss:List ByteArray}(h:∀s∈ss,0<s.size):((jb sep ss).toList==ByteArray.toList ⟨#[]⟩)=ss.isEmpty:=by
 cases ss with
 | nil=>rw[Qb3.2 (show jb sep []=⟨#[]⟩from Qqs)];rfl
 | cons x r=>
  rw[List.isEmpty_cons,Bool.eq_false_iff];intro hq;have e3:(jb sep (x::r)).size=0:=by rw[Qb3.1 hq];rfl
  have e:(jb sep (x::r)).data.toList=x.data.toList++Lib.joinTail sep.data.toList (r.map (·.data.toList)):=by rw[QlB,List.map_cons,Lib.join_cons]
  have e2:=congrArg List.length e
  rw[KN,bsz,bsz]at e2;have:=h x (by simp)
  omega
theorem QAX{n:Int}{ds:List (Int×Int)}{a b:Int}:∀s∈QnY n ds a b,0<s.size:=fun s hs=>by
 unfold QnY at hs;obtain⟨q,_,rfl⟩:=KQ.1 hs;unfold lnB;rw[Qe,Qe,Qe,Qe,Qgx];omega
theorem Qya{sep:ByteArray}{xs:List ByteArray}{i:Nat}(h:i<xs.length):jb sep (xs.take (i+1))=(if i=0 then jb sep (xs.take i)else jb sep (xs.take i)++sep)++xs.getD i ⟨#[]⟩:=by
 have:=QoU (sep:=sep) (f:=id) (d:=⟨#[]⟩) h
 simpa only[List.map_id,id]using this
theorem Qx9{xs:List ByteArray}(h:∀s∈xs,s.size≤32){i:Nat}:(jb ⟨#[59,32]⟩ (xs.take i)).size≤xs.length*34:=by
 have:=Qi3 (sep:=⟨#[59,32]⟩) (B:=32) (ss:=xs.take i) (fun s hs=>h s (Ks hs))
 have e:(⟨#[59,32]⟩:ByteArray).size=2:=rfl
 rw[e,KO]at this;have:min i xs.length≤xs.length:=Nat.min_le_right _ _
 omega
theorem Qzk{n:Int}{ds:List (Int×Int)}{a b:Int}:∀s∈QnY n ds a b,s.size≤32:=fun s hs=>by
 unfold QnY at hs;obtain⟨q,_,rfl⟩:=KQ.1 hs;exact QuS
theorem Qgm:ByteArray.size ⟨#[59,32]⟩=2:=rfl
def Qtz:Qb:=⟨[true],false,fun
 | [.mbx [.inl (.v (.int .i64 c)),.inl (.sl 1 l),.inl (.v (.int .i64 m)),.inl (.sl 2 q),.inl (.v (.bool h)),.inr (2,g,_)],.one (.v (.string w)),.agg [.v (.int .i64 a),.v (.int .i64 b)]]=>some ((WfS l∧WfD q∧WfD g)∧Qdf ⟨c,unS l,m,unD q,unD g⟩,[⟨false,[.d (.v (.string (Qmy ⟨c,unS l,m,unD q,unD g⟩ w (a,b)).2))]⟩],
   [.mbx [.inl (.v (.int .i64 c)),.inl (.sl 1 l),.inl (.v (.int .i64 m)),.inl (.sl 2 q),.inl (.v (.bool h)),.inr (2,dL (Qmy ⟨c,unS l,m,unD q,unD g⟩ w (a,b)).1.gv,1)]])
 | _=>none⟩
attribute [local go_sem] Qtz
theorem QAT:Qa E0 49 Qtz:=by
 refine Qbu (E:=E0) (T:=mkT Tryz.prog [(83,cWl),(10,QfP),(84,QmD),(85,QwX)] false (fun _=>false) false (fun _=>false)) (Qd (E:=E0) (.cons QEv (.cons QeL (.cons Qlx (.cons QAW .nil))))) rfl (fn:=Tryz.f49) Tryz.func49 kR rfl Qc kR rfl rfl (nLe rfl) ?_
 intro args p rs ms hr;unfold Qtz at hr;dsimp only at hr;split at hr;rotate_left
 ·cases hr
 rename_i c l m q h g dp w a b;cases hr;refine⟨_,_,_,rfl,rfl,rfl,⟨rfl,rfl⟩,nLe rfl,?_⟩
 have hm:=mxE;rintro⟨⟨h1,h2,h3⟩,hc⟩ bs;obtain⟨rs,rfl,hx,hy⟩:=h1.ex;obtain⟨ds,rfl,hd⟩:=h2.ex;obtain⟨gv,rfl,hg⟩:=h3.ex;clear h1 h2 h3;rw[QB,Qh,Qh]at hc ⊢;obtain⟨⟨c0,c5⟩,r40,r5,d160,g20⟩:=QbN hc;dsimp only at c0 c5 r40 r5 d160 g20;clear hc r5;generalize hZ:Qmy ⟨c,rs,m,ds,gv⟩ w (a,b)=Z;unfold Qmy at hZ;dsimp only at hZ;split at hZ
 ·rename_i k1
  subst hZ;exact gQ
 rename_i k1;rw[KS]at k1;split at hZ
 ·rename_i k2
  split at hZ
  ·rename_i k3
   subst hZ;exact gQ
  ·rename_i k3
   rw[KS]at k3;have k4:=of_decide_eq_false k3
   subst hZ;have hl:(gv++[(a,b)]).length=gv.length+1:=by simp
   have hm2:gv.length+1≤maxLen:=KF (show _≤21 by omega) (by decide)
   have n1:=@Qgd ((gv.length+1:Nat):Int) (by omega) (by omega)
   clear k4;(repeat' first|refine gA fun _=>?_|apply fkI<;>intro hb<;>try simp only[ew,QpW,hl,n1]at hb|simp only[go_sem,simprocAttr, *,QpW,hl,n1])
   all_goals first|rfl|skip
 rename_i k2;rw[KS]at k2;split at hZ
 ·rename_i k3
  cases hi:Qkz c gv a b
  ·rw[hi,if_neg (by decide)]at hZ
   subst hZ;exact gQ
  ·rw[hi,if_pos rfl]at hZ
   have f1:=@QoH c gv a b
   have f3:=fun i=>@Qx9 _ (@Qzk c gv a b) i
   have f6:=fun i=>Qei (@Qzk c gv a b) i
   have fe:=@Qsm ⟨#[59,32]⟩ _ (@QAX c gv a b)
   generalize hK:QnY c gv a b=xs at f1 f3 f6 fe hZ;have f2:xs.length≤maxLen:=KF f1 (by decide)
   (repeat' first|refine gA fun _=>?_|apply fkI<;>intro hb<;>try simp only[ew,hK]at hb|simp only[go_sem,simprocAttr, *,hK])
   refine lpI {ι:=Nat,rs:=[(73,89)],mods:=[(10,fun i=> .one (.d (.v (.int .i64 i)))),(9,fun i=> .one (.d (.v (.string (jb ⟨#[59,32]⟩ (xs.take i))))))],boxes:=[(0,fun _=>[.n (.v (.int .i64 c)),.n (.sl 1 (sL rs)),.n (.v (.int .i64 m)),.n (.sl 2 (dL ds)),.n (.v (.bool h)),.own 2 (dL gv) 1])],arrs:=[(8,fun _=>(1,tL xs,1))],ok:=fun i=>i≤xs.length,mu:=fun i=>xs.length-i} rfl 0 (KJ _) ?_ fun i hi2=>?_
   ·clear f3 f6 fe hZ
    (repeat' first|refine gA fun _=>?_|apply fkI<;>intro hb<;>try simp only[ew,Kw,Qqs]at hb|simp only[go_sem,simprocAttr, *,Kw,Qqs])
    all_goals first|rfl|skip
   ·dsimp only at i hi2
    have hsz:=f3 i
    have hf:=f6 i
    clear f3 f6
    by_cases h5:i<xs.length
    ·have hs:=Qya (sep:=⟨#[59,32]⟩) h5
     clear fe hZ;generalize hB:xs.getD i ⟨#[]⟩=b2 at hf hs
     by_cases h0:i=0
     ·subst h0
      rw[if_pos rfl]at hs;have e0:decide ((0:Int)>0)=false:=by decide
      rw[Kw]at hs;rw[Ya]at hs;rw[Kw]at hsz;(repeat' first|refine gA fun _=>?_|apply fkI<;>intro hb<;>try simp only[ew,e0,Qgm,Qe,hB]at hb|simp only[go_sem,simprocAttr, *,e0,Qgm,Qe,hB])
      ·refine lpN 1 (by dsimp only;omega) (by dsimp only;omega) ?_
       clear hf hsz;(repeat' first|refine gA fun _=>?_|apply fkI<;>intro hb<;>try simp only[ew,hs]at hb|simp only[go_sem,simprocAttr, *,hs])
       all_goals first|omega|skip
      all_goals (exfalso;omega)
     ·rw[if_neg h0]at hs
      have e0:decide ((i:Int)>0)=true:=KZ (by omega)
      (repeat' first|refine gA fun _=>?_|apply fkI<;>intro hb<;>try simp only[ew,e0,Qgm,Qe,hB]at hb|simp only[go_sem,simprocAttr, *,e0,Qgm,Qe,hB])
      ·refine lpQ (i+1) ?_
       clear hsz hf e0;(repeat' first|refine gA fun _=>?_|apply fkI<;>intro hb<;>try simp only[ew,hs]at hb|simp only[go_sem,simprocAttr, *,hs])
      all_goals (exfalso;omega)
    ·have e5:i=xs.length:=by omega
     subst e5;have e6:xs.take xs.length=xs:=KR
     clear hsz hf;cases he:xs.isEmpty
     ·rw[he]at fe
      rw[he,if_neg (by decide)]at hZ
      subst hZ;(repeat' first|refine gA fun _=>?_|apply fkI<;>intro hb<;>try simp only[ew,e6]at hb|simp only[go_sem,simprocAttr, *,e6])
      all_goals first|rfl|skip
     ·rw[he]at fe
      rw[he,if_pos rfl]at hZ;subst hZ;(repeat' first|refine gA fun _=>?_|apply fkI<;>intro hb<;>try simp only[ew,e6]at hb|simp only[go_sem,simprocAttr, *,e6])
      all_goals first|rfl|skip
 ·rename_i k3
  rw[KS]at k3;subst hZ;exact gQ
end Go.Own
