/-
  The reference's console: what its helpers do. Conditions: as each theorem states them.
-/
import Derived.Test.YtnmkpepdacbfaaaGreatDoorRc46
set_option linter.unusedSimpArgs false
set_option linter.unusedVariables false
set_option maxRecDepth 20000
set_option maxHeartbeats 4000000
namespace Go.Own
open Go Go.Proofs
attribute [local go_sem] cL3 Tryz.results38 Tryz.results41 Tryz.results42 cDL Qvu cSL Qrz QrA Qvw QlS Tryz.results50 cWl QlQ Qvp Tryz.results49
attribute [local go_sem] Qc1 Qc2 QbP QfC QdY QdZ QjM QjQ QgP Ql8 Ql9 QjL Qma Qmb QjN QjO Qij Qh Qe Qaa Qac Qab Qaf QaV QaX QdJ Qu Qbh QC Qbs Qct QfX QgX QgW Qee
def Qsj:Qb:=⟨[],false,fun
 | [.one (.sl 1 t),.one (.v (.int .i64 a))]=>some ((WfL t∧∀w∈unT t,w.size≤1073741824)∧0≤a∧a<t.length,[⟨false,[.d (.v (.int .i64 (l3V ((unT t).getD a.toNat ⟨#[]⟩))))]⟩],[])
 | _=>none⟩
attribute [local go_sem] Qsj
theorem QzQ:Qa E0 38 Qsj:=by
 refine QE (E:=E0) (T:=mkT Tryz.prog [(74,cL3)] false (fun _=>false) true (fun _=>false)) (Qd (E:=E0) (.cons QxW .nil)) (fn:=Tryz.f38) Tryz.func38 (by kernel_rfl) rfl Qc (by kernel_rfl) rfl ?_
 intro args p rs ms hr;unfold Qsj at hr;dsimp only at hr;split at hr;rotate_left
 ·cases hr
 rename_i t a;cases hr;refine⟨rfl,rfl,nLe rfl,?_⟩
 have hm:=mxE;rintro⟨⟨h4,hs⟩,a0,a1⟩ bs;obtain⟨ws,rfl,hw⟩:=h4.ex;clear h4;rw[Qbh]at hs ⊢;rw[QC]at a1;obtain⟨k,rfl⟩:=Int.eq_ofNat_of_zero_le a0;rw[Int.toNat_natCast];have hz:=Qd0 hs k
 clear hs;have hk:k<ws.length:=by omega
 have h5:¬ws.length≤k:=by omega
 generalize hB:ws.getD k ⟨#[]⟩=b at hz;(repeat' first|refine gA fun _=>?_|apply fkI<;>intro hb<;>try simp only[ew,hB]at hb|simp only[go_sem,simprocAttr, *,hB])
 all_goals first|rfl|skip
def Qsm:Qb:=⟨[],false,fun
 | [.one (.sl 1 t)]=>some ((WfL t∧∀w∈unT t,w.size≤1073741824)∧0<t.length∧t.length≤2147483648,[⟨false,[.own 1 (iL (((unT t).drop 1).map l3V)) 1]⟩],[])
 | _=>none⟩
attribute [local go_sem] Qsm
theorem QAh:Qa E0 41 Qsm:=by
 refine QE (E:=E0) (T:=mkT Tryz.prog [(74,cL3)] false (fun _=>false) true (fun _=>false)) (Qd (E:=E0) (.cons QxW .nil)) (fn:=Tryz.f41) Tryz.func41 (by kernel_rfl) rfl Qc (by kernel_rfl) rfl ?_
 intro args p rs ms hr;unfold Qsm at hr;dsimp only at hr;split at hr;rotate_left
 ·cases hr
 rename_i t;cases hr;refine⟨rfl,rfl,nLe rfl,?_⟩
 have hm:=mxE;rintro⟨⟨h4,hs⟩,h0,hw2⟩ bs;obtain⟨ws,rfl,hw⟩:=h4.ex;clear h4;rw[Qbh]at hs ⊢;rw[QC]at h0 hw2;have hsz:=fun i=>Qd0 hs i
 clear hs;have ei:iL []=[]:=rfl
 (repeat' first|refine gA fun _=>?_|apply fkI<;>intro hb<;>try simp only[ew,ei]at hb|simp only[go_sem,simprocAttr, *,ei])
 refine lpI {ι:=Nat,rs:=[(6,20)],mods:=[(4,fun k=> .one (.d (.v (.int .i64 k)))),(3,fun k=> .one (.own 1 (iL (((ws.take k).drop 1).map l3V)) 1))],boxes:=[],arrs:=[],ok:=fun k=>1≤k∧k≤ws.length,mu:=fun k=>ws.length-k} rfl 1 ⟨Nat.le_refl _,h0⟩ ?_ fun k hk=>?_
 ·have e1:((ws.take 1).drop 1).map l3V=[]:=by
   rw[List.drop_eq_nil_of_le (by rw[List.length_take];omega)];rfl
  clear hsz;(repeat' first|refine gA fun _=>?_|apply fkI<;>intro hb<;>try simp only[ew,ei,e1]at hb|simp only[go_sem,simprocAttr, *,ei,e1])
  all_goals first|rfl|skip
 ·dsimp only at k hk
  obtain⟨hk1,hk2⟩:=hk
  by_cases h5:k<ws.length
  ·have hz:=hsz k
   clear hsz;have hT:((ws.take (k+1)).drop 1).map l3V=((ws.take k).drop 1).map l3V++[l3V (ws.getD k ⟨#[]⟩)]:=by
    rw[Qf h5 ⟨#[]⟩,List.drop_append_of_le_length (by rw[List.length_take];omega),List.map_append];rfl
   have hlen:(((ws.take k).drop 1).map l3V).length≤2147483648:=by simp only[List.length_map,List.length_drop,List.length_take];omega
   have hlen2:(((ws.take k).drop 1).map l3V).length≤maxLen:=Nat.le_trans hlen (by decide)
   generalize hV:((ws.take k).drop 1).map l3V=V at hT hlen hlen2;generalize hB:ws.getD k ⟨#[]⟩=b at hz hT;(repeat' first|refine gA fun _=>?_|apply fkI<;>intro hb<;>try simp only[ew,hV,hB,Qo]at hb|simp only[go_sem,simprocAttr, *,hV,hB,Qo])
   refine lpN (k+1) ⟨by omega,by omega⟩ (by dsimp only;omega) ?_
   (repeat' first|refine gA fun _=>?_|apply fkI<;>intro hb<;>try simp only[ew,hT,Qo]at hb|simp only[go_sem,simprocAttr, *,hT,Qo])
  ·have e5:k=ws.length:=by omega
   subst e5;have hT:ws.take ws.length=ws:=List.take_length
   clear hsz;(repeat' first|refine gA fun _=>?_|apply fkI<;>intro hb<;>try simp only[ew,hT]at hb|simp only[go_sem,simprocAttr, *,hT])
   all_goals first|rfl|skip
def QlP:Qb:=⟨[true],false,fun
 | [.mbx [.inl (.v (.int .i64 c)),.inl (.sl 1 l),.inl (.v (.int .i64 m)),.inl (.sl 2 q),.inl (.v (.bool h)),.inr (2,g,_)],.agg [.v (.int .i64 c2),.sl 1 l2,.v (.int .i64 m2),.sl 2 q2],.one (.v (.bool b))]=>some (True,[⟨false,[.d (.v (.string (QlC b)))]⟩],
   [.mbx [.inl (.v (.int .i64 (if b then c2 else c))),.inl (.sl 1 (if b then l2 else l)),.inl (.v (.int .i64 (if b then m2 else m))),.inl (.sl 2 (if b then q2 else q)),.inl (.v (.bool h)),.inr (2,g,1)]])
 | _=>none⟩
attribute [local go_sem] QlP
theorem Qv9:Qa E0 42 QlP:=by
 refine Qbl (E:=E0) (T:=mkT Tryz.prog [] false (fun _=>false) false (fun _=>false)) (Qd (E:=E0) .nil) rfl (fn:=Tryz.f42) Tryz.func42 (by kernel_rfl) rfl Qc (by kernel_rfl) rfl rfl (nLe rfl) ?_
 intro args p rs ms hr;unfold QlP at hr;dsimp only at hr;split at hr;rotate_left
 ·cases hr
 rename_i c l m q h g dp c2 l2 m2 q2 b;cases hr;refine⟨_,_,_,rfl,rfl,rfl,⟨rfl,rfl⟩,nLe rfl,?_⟩
 have hm:=mxE;intro _ bs;cases b
 ·simp only[Bool.false_eq_true,if_false]
  exact gQ
 ·simp only[if_true]
  exact gQ
theorem Qd3{w a b:ByteArray}(h:isW w a=true)(hne:a.data.toList≠b.data.toList):isW w b=false:=by
 rw[Qtl]at h ⊢;rw[of_decide_eq_true h];exact decide_eq_false hne
def Qsk:Qb:=⟨[true],false,fun
 | [.mbx [.inl (.v (.int .i64 c)),.inl (.sl 1 l),.inl (.v (.int .i64 m)),.inl (.sl 2 q),.inl (.v (.bool h)),.inr (2,g,_)],.one (.v (.string w))]=>some ((WfS l∧WfD q∧WfD g)∧QcY ⟨c,unS l,m,unD q,unD g⟩,[⟨false,[.d (.v (.string (QlA ⟨c,unS l,m,unD q,unD g⟩ w).2))]⟩],
   [.mbx [.inl (.v (.int .i64 c)),.inl (.sl 1 l),.inl (.v (.int .i64 m)),.inl (.sl 2 q),.inl (.v (.bool h)),.inr (2,dL (QlA ⟨c,unS l,m,unD q,unD g⟩ w).1.gv,1)]])
 | _=>none⟩
attribute [local go_sem] Qsk
theorem QzR:Qa E0 50 Qsk:=by
 refine Qbl (E:=E0) (T:=mkT Tryz.prog [(12,cDL),(15,Qvu),(14,cSL),(81,Qrz),(86,QrA),(87,Qvw),(10,QlS)] false (fun _=>false) false (fun _=>false)) (Qd (E:=E0) (.cons QBu (.cons QzM (.cons Qx8 (.cons QrY (.cons QsG (.cons QAn (.cons QkJ .nil)))))))) rfl (fn:=Tryz.f50) Tryz.func50 (by kernel_rfl) rfl Qc (by kernel_rfl) rfl rfl (nLe rfl) ?_
 intro args p rs ms hr;unfold Qsk at hr;dsimp only at hr;split at hr;rotate_left
 ·cases hr
 rename_i c l m q h g dp w;cases hr;refine⟨_,_,_,rfl,rfl,rfl,⟨rfl,rfl⟩,nLe rfl,?_⟩
 have hm:=mxE;rintro⟨⟨h1,h2,h3⟩,hc⟩ bs;obtain⟨rs,rfl,hx,hy⟩:=h1.ex;obtain⟨ds,rfl,hd⟩:=h2.ex;obtain⟨gv,rfl,hg⟩:=h3.ex;clear h1 h2 h3;rw[Qz,Qh,Qh]at hc ⊢;obtain⟨⟨c0,c5⟩,r40,r5,d160,g20⟩:=Qbz hc;dsimp only at c0 c5 r40 r5 d160 g20;clear hc r5;generalize hZ:QlA ⟨c,rs,m,ds,gv⟩ w=Z;unfold QlA at hZ;dsimp only at hZ;split at hZ
 ·rename_i k1
  subst hZ;exact gQ
 rename_i k1;rw[Bool.not_eq_true]at k1;split at hZ
 ·rename_i k2
  subst hZ;have f1:=@QnY c rs m
  generalize hK:Qpu c rs m=xs at f1;have f2:xs.length≤maxLen:=Nat.le_trans f1 (by decide)
  (repeat' first|refine gA fun _=>?_|apply fkI<;>intro hb<;>try simp only[ew,hK]at hb|simp only[go_sem,simprocAttr, *,hK])
  all_goals first|rfl|skip
 rename_i k2;rw[Bool.not_eq_true]at k2;split at hZ
 ·rename_i k3
  subst hZ;have f1:=(@QdM c rs m).1
  generalize hK:QhM c rs m=xs at f1;have f2:xs.length≤maxLen:=Nat.le_trans f1 (by decide)
  (repeat' first|refine gA fun _=>?_|apply fkI<;>intro hb<;>try simp only[ew,hK]at hb|simp only[go_sem,simprocAttr, *,hK])
  all_goals first|rfl|skip
 rename_i k3;rw[Bool.not_eq_true]at k3;split at hZ
 ·rename_i k4
  have j1:=Qd3 k4 (b:=QjU) (by decide)
  have j2:=Qd3 k4 (b:=Qgs) (by decide)
  have j3:=Qd3 k4 (b:=QwD) (by decide)
  have j4:=Qd3 k4 (b:=Qpq) (by decide)
  subst hZ;have n1:=@Qhz ((rs.length:Nat):Int) (by omega) (by omega)
  (repeat' first|refine gA fun _=>?_|apply fkI<;>intro hb<;>try simp only[ew,n1]at hb|simp only[go_sem,simprocAttr, *,n1])
  all_goals first|rfl|skip
 rename_i k4;rw[Bool.not_eq_true]at k4;split at hZ
 ·rename_i k5
  have j1:=Qd3 k5 (b:=QjU) (by decide)
  have j2:=Qd3 k5 (b:=Qgs) (by decide)
  split at hZ
  ·rename_i k6
   subst hZ;exact gQ
  ·rename_i k6
   rw[Bool.not_eq_true]at k6;subst hZ;(repeat' first|refine gA fun _=>?_|apply fkI<;>intro hb<;>try simp only[ew,QaU]at hb|simp only[go_sem,simprocAttr, *,QaU])
   all_goals first|rfl|skip
 rename_i k5;rw[Bool.not_eq_true]at k5;split at hZ
 ·rename_i k6
  have j1:=Qd3 k6 (b:=QjU) (by decide)
  have j2:=Qd3 k6 (b:=Qgs) (by decide)
  subst hZ;(repeat' first|refine gA fun _=>?_|apply fkI<;>intro hb<;>try simp only[ew,QaU]at hb|simp only[go_sem,simprocAttr, *,QaU])
  all_goals first|rfl|skip
 rename_i k6;rw[Bool.not_eq_true]at k6;split at hZ
 ·rename_i k7
  subst hZ;have f1:=(@QcZ c gv).2
  generalize hK:Qgf c gv=xs at f1;have f2:xs.length≤maxLen:=Nat.le_trans f1 (by decide)
  (repeat' first|refine gA fun _=>?_|apply fkI<;>intro hb<;>try simp only[ew,hK]at hb|simp only[go_sem,simprocAttr, *,hK])
  all_goals first|rfl|skip
 rename_i k7;rw[Bool.not_eq_true]at k7;split at hZ
 ·rename_i k8
  subst hZ;exact gQ
 ·rename_i k8
  rw[Bool.not_eq_true]at k8;subst hZ;exact gQ
theorem Qq7{sep:ByteArray}{ss:List ByteArray}(h:∀s∈ss,0<s.size):((jb sep ss).toList==ByteArray.toList ⟨#[]⟩)=ss.isEmpty:=by
 cases ss with
 | nil=>rw[QbO.2 (show jb sep []=⟨#[]⟩from Qpn)];rfl
 | cons x r=>
  rw[List.isEmpty_cons,Bool.eq_false_iff];intro hq;have e3:(jb sep (x::r)).size=0:=by rw[QbO.1 hq];rfl
  have e:(jb sep (x::r)).data.toList=x.data.toList++Lib.joinTail sep.data.toList (r.map (·.data.toList)):=by rw[QnV,List.map_cons,Lib.join_cons]
  have e2:=congrArg List.length e
  rw[List.length_append,bsz,bsz]at e2;have:=h x (by simp)
  omega
theorem Qzf{n:Int}{ds:List (Int×Int)}{a b:Int}:∀s∈QnI n ds a b,0<s.size:=fun s hs=>by
 unfold QnI at hs;obtain⟨q,_,rfl⟩:=List.mem_map.1 hs;unfold lnB;rw[Qg,Qg,Qg,Qg,Qf5];omega
theorem Qwy{sep:ByteArray}{xs:List ByteArray}{i:Nat}(h:i<xs.length):jb sep (xs.take (i+1))=(if i=0 then jb sep (xs.take i)else jb sep (xs.take i)++sep)++xs.getD i ⟨#[]⟩:=by
 have:=QnW (sep:=sep) (f:=id) (d:=⟨#[]⟩) h
 simpa only[List.map_id,id]using this
theorem Qwx{xs:List ByteArray}(h:∀s∈xs,s.size≤32){i:Nat}:(jb ⟨#[59,32]⟩ (xs.take i)).size≤xs.length*34:=by
 have:=Qiq (sep:=⟨#[59,32]⟩) (B:=32) (ss:=xs.take i) (fun s hs=>h s (List.mem_of_mem_take hs))
 have e:(⟨#[59,32]⟩:ByteArray).size=2:=rfl
 rw[e,List.length_take]at this;have:min i xs.length≤xs.length:=Nat.min_le_right _ _
 omega
theorem QxJ{n:Int}{ds:List (Int×Int)}{a b:Int}:∀s∈QnI n ds a b,s.size≤32:=fun s hs=>by
 unfold QnI at hs;obtain⟨q,_,rfl⟩:=List.mem_map.1 hs;exact Qtv
theorem QfU:ByteArray.size ⟨#[59,32]⟩=2:=rfl
def Qsf:Qb:=⟨[true],false,fun
 | [.mbx [.inl (.v (.int .i64 c)),.inl (.sl 1 l),.inl (.v (.int .i64 m)),.inl (.sl 2 q),.inl (.v (.bool h)),.inr (2,g,_)],.one (.v (.string w)),.agg [.v (.int .i64 a),.v (.int .i64 b)]]=>some ((WfS l∧WfD q∧WfD g)∧QcY ⟨c,unS l,m,unD q,unD g⟩,[⟨false,[.d (.v (.string (Qm4 ⟨c,unS l,m,unD q,unD g⟩ w (a,b)).2))]⟩],
   [.mbx [.inl (.v (.int .i64 c)),.inl (.sl 1 l),.inl (.v (.int .i64 m)),.inl (.sl 2 q),.inl (.v (.bool h)),.inr (2,dL (Qm4 ⟨c,unS l,m,unD q,unD g⟩ w (a,b)).1.gv,1)]])
 | _=>none⟩
attribute [local go_sem] Qsf
theorem Qzb:Qa E0 49 Qsf:=by
 refine Qbl (E:=E0) (T:=mkT Tryz.prog [(83,cWl),(10,QlS),(84,QlQ),(85,Qvp)] false (fun _=>false) false (fun _=>false)) (Qd (E:=E0) (.cons QCp (.cons QkJ (.cons QkP (.cons Qze .nil))))) rfl (fn:=Tryz.f49) Tryz.func49 (by kernel_rfl) rfl Qc (by kernel_rfl) rfl rfl (nLe rfl) ?_
 intro args p rs ms hr;unfold Qsf at hr;dsimp only at hr;split at hr;rotate_left
 ·cases hr
 rename_i c l m q h g dp w a b;cases hr;refine⟨_,_,_,rfl,rfl,rfl,⟨rfl,rfl⟩,nLe rfl,?_⟩
 have hm:=mxE;rintro⟨⟨h1,h2,h3⟩,hc⟩ bs;obtain⟨rs,rfl,hx,hy⟩:=h1.ex;obtain⟨ds,rfl,hd⟩:=h2.ex;obtain⟨gv,rfl,hg⟩:=h3.ex;clear h1 h2 h3;rw[Qz,Qh,Qh]at hc ⊢;obtain⟨⟨c0,c5⟩,r40,r5,d160,g20⟩:=Qbz hc;dsimp only at c0 c5 r40 r5 d160 g20;clear hc r5;generalize hZ:Qm4 ⟨c,rs,m,ds,gv⟩ w (a,b)=Z;unfold Qm4 at hZ;dsimp only at hZ;split at hZ
 ·rename_i k1
  subst hZ;exact gQ
 rename_i k1;rw[Bool.not_eq_true]at k1;split at hZ
 ·rename_i k2
  split at hZ
  ·rename_i k3
   subst hZ;exact gQ
  ·rename_i k3
   rw[Bool.not_eq_true]at k3;have k4:=of_decide_eq_false k3
   subst hZ;have hl:(gv++[(a,b)]).length=gv.length+1:=by simp
   have hm2:gv.length+1≤maxLen:=Nat.le_trans (show _≤21 by omega) (by decide)
   have n1:=@Qhz ((gv.length+1:Nat):Int) (by omega) (by omega)
   clear k4;(repeat' first|refine gA fun _=>?_|apply fkI<;>intro hb<;>try simp only[ew,QoU,hl,n1]at hb|simp only[go_sem,simprocAttr, *,QoU,hl,n1])
   all_goals first|rfl|skip
 rename_i k2;rw[Bool.not_eq_true]at k2;split at hZ
 ·rename_i k3
  cases hi:QjS c gv a b
  ·rw[hi,if_neg (by decide)]at hZ
   subst hZ;exact gQ
  ·rw[hi,if_pos rfl]at hZ
   have f1:=@QnJ c gv a b
   have f3:=fun i=>@Qwx _ (@QxJ c gv a b) i
   have f6:=fun i=>Qd0 (@QxJ c gv a b) i
   have fe:=@Qq7 ⟨#[59,32]⟩ _ (@Qzf c gv a b)
   generalize hK:QnI c gv a b=xs at f1 f3 f6 fe hZ;have f2:xs.length≤maxLen:=Nat.le_trans f1 (by decide)
   (repeat' first|refine gA fun _=>?_|apply fkI<;>intro hb<;>try simp only[ew,hK]at hb|simp only[go_sem,simprocAttr, *,hK])
   refine lpI {ι:=Nat,rs:=[(73,89)],mods:=[(10,fun i=> .one (.d (.v (.int .i64 i)))),(9,fun i=> .one (.d (.v (.string (jb ⟨#[59,32]⟩ (xs.take i))))))],boxes:=[(0,fun _=>[.n (.v (.int .i64 c)),.n (.sl 1 (sL rs)),.n (.v (.int .i64 m)),.n (.sl 2 (dL ds)),.n (.v (.bool h)),.own 2 (dL gv) 1])],arrs:=[(8,fun _=>(1,tL xs,1))],ok:=fun i=>i≤xs.length,mu:=fun i=>xs.length-i} rfl 0 (Nat.zero_le _) ?_ fun i hi2=>?_
   ·clear f3 f6 fe hZ
    (repeat' first|refine gA fun _=>?_|apply fkI<;>intro hb<;>try simp only[ew,List.take_zero,Qpn]at hb|simp only[go_sem,simprocAttr, *,List.take_zero,Qpn])
    all_goals first|rfl|skip
   ·dsimp only at i hi2
    have hsz:=f3 i
    have hf:=f6 i
    clear f3 f6
    by_cases h5:i<xs.length
    ·have hs:=Qwy (sep:=⟨#[59,32]⟩) h5
     clear fe hZ;generalize hB:xs.getD i ⟨#[]⟩=b2 at hf hs
     by_cases h0:i=0
     ·subst h0
      rw[if_pos rfl]at hs;have e0:decide ((0:Int)>0)=false:=by decide
      rw[List.take_zero]at hs;rw[Nat.zero_add]at hs;rw[List.take_zero]at hsz;(repeat' first|refine gA fun _=>?_|apply fkI<;>intro hb<;>try simp only[ew,e0,QfU,Qg,hB]at hb|simp only[go_sem,simprocAttr, *,e0,QfU,Qg,hB])
      ·refine lpN 1 (by dsimp only;omega) (by dsimp only;omega) ?_
       clear hf hsz;(repeat' first|refine gA fun _=>?_|apply fkI<;>intro hb<;>try simp only[ew,hs]at hb|simp only[go_sem,simprocAttr, *,hs])
       all_goals first|omega|skip
      all_goals (exfalso;omega)
     ·rw[if_neg h0]at hs
      have e0:decide ((i:Int)>0)=true:=decide_eq_true (by omega)
      (repeat' first|refine gA fun _=>?_|apply fkI<;>intro hb<;>try simp only[ew,e0,QfU,Qg,hB]at hb|simp only[go_sem,simprocAttr, *,e0,QfU,Qg,hB])
      ·refine lpN (i+1) (by dsimp only;omega) (by dsimp only;omega) ?_
       clear hsz hf e0;(repeat' first|refine gA fun _=>?_|apply fkI<;>intro hb<;>try simp only[ew,hs]at hb|simp only[go_sem,simprocAttr, *,hs])
      all_goals (exfalso;omega)
    ·have e5:i=xs.length:=by omega
     subst e5;have e6:xs.take xs.length=xs:=List.take_length
     clear hsz hf;cases he:xs.isEmpty
     ·rw[he]at fe
      rw[he,if_neg (by decide)]at hZ
      subst hZ;(repeat' first|refine gA fun _=>?_|apply fkI<;>intro hb<;>try simp only[ew,e6]at hb|simp only[go_sem,simprocAttr, *,e6])
      all_goals first|rfl|skip
     ·rw[he]at fe
      rw[he,if_pos rfl]at hZ;subst hZ;(repeat' first|refine gA fun _=>?_|apply fkI<;>intro hb<;>try simp only[ew,e6]at hb|simp only[go_sem,simprocAttr, *,e6])
      all_goals first|rfl|skip
 ·rename_i k3
  rw[Bool.not_eq_true]at k3;subst hZ;exact gQ
end Go.Own
