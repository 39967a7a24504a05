/- Own contracts. Conditions: as each theorem states them. -/
import Derived.Test.YtnmkpepdacbfaaaGreatDoorRr46
set_option linter.unusedSimpArgs false
set_option linter.unusedVariables false
set_option maxRecDepth 20000
set_option maxHeartbeats 4000000
namespace Go.Own
open Go Go.Proofs
attribute [local go_sem] QtL Qqm Tryz.results7
theorem cOr{a b:Bool}:cond a true b=(a||b):=by cases a<;>rfl
theorem QqC{σ:Con}:Con.mk σ.c σ.rs σ.m σ.ds σ.gv=σ:=rfl
theorem QzT{σ:Con}(h:Qdm σ):σ.rs.length≤maxLen∧(∀r∈σ.rs,r.length≤maxLen)∧σ.ds.length≤maxLen∧σ.gv.length≤maxLen:=by
 obtain⟨_,h1,h2,h3,h4⟩:=QcF h;exact⟨Nat.le_trans h1 (by decide),fun r hr=>Nat.le_trans (h2 r hr) (by decide),Nat.le_trans h3 (by decide),Nat.le_trans h4 (by decide)⟩
def cRC:Qb:=⟨[],false,fun
 | [.one (.v (.string s))]=>some (s.size≤1073741824,[⟨false,[.d (.v (.string (rcF s)))]⟩],[])
 | _=>none⟩
attribute [local go_sem] cRC
attribute [local go_sem] cOr QqC Qiw Qs7 QG Qm Qc QZ Q1 Q0 Q3 QaH Qdb Qr Qbp Qz Qbm Qcu Qf3 QhJ QhI Qew QCw QCx QCD QCE
theorem QAJ:Qa E0 7 cRC:=by
  refine QV (E:=E0) (T:=mkT Tryz.prog [(20,QtL),(21,Qqm)] false (fun d=>d==11||d==44) true (fun d=>d==996)) (Qf (E:=E0) (.cons QyL (.cons Qyy .nil))) (fn:=Tryz.f7) Tryz.func7 (by kernel_rfl) rfl Qe (by kernel_rfl) rfl ?_
  intro args p rs ms hr;unfold cRC at hr;dsimp only at hr;split at hr;rotate_left
  · cases hr
  rename_i s;cases hr;refine⟨rfl,rfl,nLe rfl,?_⟩
  have hm:=mxE;intro h1 bs;have hlt:s.size<4294967281:=by omega
  have l0:=@QqH 10 s
  have l1:=@QmZ 10 s
  have l2:=@QqI 10 s
  have eZ:rcF s=if(decide (s.size>3000)||decide ((Qhk (QbO 10 s)).length>60))=true then⟨#[]⟩else(QN Qkm (Qhk (QbO 10 s))).2:=rfl
  have hlc:=Ql6 l0
  generalize hC:QbO 10 s=C at l0 l1 l2 eZ hlc;generalize hZ:rcF s=Z at eZ;generalize hL:Qhk C=L at eZ hlc;clear hL;have hm1:C.length≤maxLen:=Nat.le_trans (show _≤1073741825 by omega) (by decide)
  have iz:C.length-1<C.length:=by omega
  have hi0:(((C.length:Nat):Int)-1)=((C.length-1:Nat):Int):=by omega
  have hLs:(∀w∈L,w.size≤1073741824)∧L.length≤maxLen:=by
    rcases hlc with⟨_,e⟩|⟨_,e⟩<;>rw[e]
    · exact⟨fun w hw=>Nat.le_trans (l2 w (List.mem_of_mem_take hw)) h1,by rw[List.length_take];omega⟩
    · exact⟨fun w hw=>Nat.le_trans (l2 w hw) h1,hm1⟩
  obtain⟨hLs,hLm⟩:=hLs;have hgs:=fun i=>QlU hLs i
  clear l1 l2 hLs;have hs3:decide (s.size>3000)=decide (((s.size:Nat):Int)>3000):=by
    rw[Bool.eq_iff_iff,decide_eq_true_eq,decide_eq_true_eq];omega
  have hl6:decide (L.length>60)=decide (((L.length:Nat):Int)>60):=by
    rw[Bool.eq_iff_iff,decide_eq_true_eq,decide_eq_true_eq];omega
  rw[hs3,hl6]at eZ;clear hs3 hl6;generalize hD:C.getD (C.length-1) ⟨#[]⟩=D0 at hlc;rcases hlc with⟨q1,e⟩|⟨q1,e⟩
  all_goals
    first
    | (have e2:L=C:=e
       clear e;subst e2)
    | replace e:=e.symm
    cases hq:(decide (((s.size:Nat):Int)>3000)||decide (((L.length:Nat):Int)>60))
    rotate_left
    · rw[hq,if_pos rfl]at eZ
      subst eZ;clear hgs;(repeat' first|refine gA fun _=>?_|apply fkI<;>intro hb<;>try simp only[ew,hC,hi0,hD,QjV,Int.toNat_natCast,List.drop_zero]at hb|simp only[go_sem,simprocAttr, *,hC,hi0,hD,QjV,Int.toNat_natCast,List.drop_zero])
      all_goals first|rfl|skip
    · rw[hq,if_neg (by decide)]at eZ
      have h60:L.length≤60:=by
        rw[Bool.or_eq_false_iff]at hq;have:=of_decide_eq_false hq.2
        omega
      (repeat' first|refine gA fun _=>?_|apply fkI<;>intro hb<;>try simp only[ew,hC,hi0,hD,QjV,Int.toNat_natCast,List.drop_zero]at hb|simp only[go_sem,simprocAttr, *,hC,hi0,hD,QjV,Int.toNat_natCast,List.drop_zero])
      refine lpI {ι:=Nat,rs:=[(7,10),(36,54)],mods:=[(35,fun k=> .one (.d (.v (.int .i64 k)))),(5,fun k=> .one (.d (.v (.string (QN Qkm (L.take k)).2))))],boxes:=[(4,fun k=>[.d (.v (.int .i64 (QN Qkm (L.take k)).1.c)),.d (.sl 1 (sL (QN Qkm (L.take k)).1.rs)),.d (.v (.int .i64 (QN Qkm (L.take k)).1.m)),.d (.sl 2 (dL (QN Qkm (L.take k)).1.ds)),.d (.sl 2 (dL (QN Qkm (L.take k)).1.gv))])],arrs:=[],ok:=fun k=>k≤L.length,mu:=fun k=>L.length-k} rfl 0 (Nat.zero_le _) ?_ fun k hk=>?_
      · have e3:QN Qkm []=(⟨0,[],0,[],[]⟩,⟨#[]⟩):=rfl
        clear hgs;(repeat' first|refine gA fun _=>?_|apply fkI<;>intro hb<;>try simp only[ew,e3,List.take_zero,QdE,Qdo]at hb|simp only[go_sem,simprocAttr, *,e3,List.take_zero,QdE,Qdo])
        all_goals first|rfl|skip
      · dsimp only at k hk
        by_cases h5:k<L.length
        · have hz:=hgs k
          have hT:L.take (k+1)=L.take k++[L.getD k ⟨#[]⟩]:=Qk h5 _
          have hok:=@Qjs (L.take k) Qkm QqB
          have hos:=@Qo8 (L.take k) Qkm QqB
          have hlt:(L.take k).length≤60:=by rw[List.length_take];omega
          generalize hB:L.getD k ⟨#[]⟩=b at hz hT;have hN:=@Qo9 (L.take k) b Qkm
          rw[←hT]at hN;clear hgs hT eZ hq;generalize hS:QN Qkm (L.take k)=S at hok hos hN;cases hb:isW b ⟨#[]⟩
          · rw[hb,if_neg (by decide)]at hN
            have hr:=@Qn3 S.1 (QbO 32 b) hok
            obtain⟨w1,w2,w3,w4⟩:=QzT hok;have v0:=@QqH 32 b
            have v1:=@QmZ 32 b
            have v2:∀w∈QbO 32 b,w.size≤1073741824:=fun w hw=>Nat.le_trans (QqI w hw) hz
            generalize hW:QbO 32 b=ws at hN hr v0 v1 v2;have v3:ws.length≤maxLen:=Nat.le_trans (show _≤1073741825 by omega) (by decide)
            have v4:ws.length≤2147483648:=by omega
            have v5:b.size<4294967281:=by omega
            generalize hR:QfN S.1 ws=R at hN hr;have z1:ByteArray.size ⟨#[10]⟩=1:=rfl
            have o1:S.2.size≤600060:=by omega
            clear hos;(repeat' first|refine gA fun _=>?_|apply fkI<;>intro hb<;>try simp only[ew,hB,hS,hW,hR,Qd,z1]at hb|simp only[go_sem,simprocAttr, *,hB,hS,hW,hR,Qd,z1])
            refine lpN (k+1) (by omega) (by dsimp only;omega) ?_
            (repeat' first|refine gA fun _=>?_|apply fkI<;>intro hb<;>try simp only[ew,hN]at hb|simp only[go_sem,simprocAttr, *,hN])
          · rw[hb,if_pos rfl]at hN
            (repeat' first|refine gA fun _=>?_|apply fkI<;>intro hb<;>try simp only[ew,hB,hS]at hb|simp only[go_sem,simprocAttr, *,hB,hS])
            refine lpN (k+1) (by omega) (by dsimp only;omega) ?_
            (repeat' first|refine gA fun _=>?_|apply fkI<;>intro hb<;>try simp only[ew,hN]at hb|simp only[go_sem,simprocAttr, *,hN])
        · have e5:k=L.length:=by omega
          subst e5;have hT:L.take L.length=L:=List.take_length
          clear hgs;(repeat' first|refine gA fun _=>?_|apply fkI<;>intro hb<;>try simp only[ew,hT,eZ]at hb|simp only[go_sem,simprocAttr, *,hT,eZ])
          all_goals first|rfl|skip
end Go.Own

namespace Go.Own
open Go Go.Proofs
def Qgd(Ls:List (List UInt8)):List UInt8:=(Ls.map (· ++[10])).flatten
theorem QoQ{Ls:List (List UInt8)}{p:List UInt8}:Qgd (Ls++[p])=Qgd Ls++(p++[10]):=by simp[Qgd]
theorem QoP{Ls:List (List UInt8)}{p:List UInt8}:Qgd (p::Ls)=(p++[10])++Qgd Ls:=by simp[Qgd]
theorem Qm0:∀{Ls:List (List UInt8)} {p:List UInt8},(∀l∈Ls,10∉l)→10∉p→Qex 10 (Qgd Ls++p)=Ls++[p]
 | [],p,_,hp=>QbT hp
 | l::Ls,p,h,hp=>by
  rw[QoP];have:(l++[10]++Qgd Ls)++p=l++10::(Qgd Ls++p):=by simp
  rw[this,QbS (h l (by simp)),Qm0 (fun x hx=>h x (by simp[hx])) hp]
  rfl
structure PS where
  cut:Nat
  lines:Nat
  full:Nat
  frm:Nat
theorem Qfz:∀{a b:List ByteArray} {σ:Con},QN σ (a++b)=((QN (QN σ a).1 b).1,(QN σ a).2++(QN (QN σ a).1 b).2)
 | [],b,σ=>by
  rw[List.nil_append,QN];refine Prod.ext rfl ?_
  exact Qa8 (by rw[Qav];rfl)
 | l::a,b,σ=>by
  rw[List.cons_append,QN,QN]
  by_cases h:isW l ⟨#[]⟩=true
  ·rw[if_pos h,if_pos h,Qfz]
  ·rw[if_neg h,if_neg h,Qfz]
   refine Prod.ext rfl ?_
   dsimp only;exact Qa8 (by simp only[Qav,List.append_assoc])
theorem Qrt{l:List UInt8}:isW (toS l) ⟨#[]⟩=l.isEmpty:=by
 rw[QaP,Qd3];cases l<;>rfl
theorem Qo7{Ls:List (List UInt8)}{p:List UInt8}:Qhk ((Ls++[p]).map toS)=(if p.isEmpty then Ls else Ls++[p]).map toS:=by
 unfold Qhk;have e:((Ls++[p]).map toS).getD (((Ls++[p]).map toS).length-1) ⟨#[]⟩=toS p:=by
  rw[List.map_append,List.length_append,List.length_map];simp[List.getD_eq_getElem?_getD]
 rw[e,Qrt];cases p with
 | nil=>simp
 | cons a r=>simp
end Go.Own

namespace Go.Own
open Go Go.Proofs
def QjS(s want:ByteArray)(n:Nat)(rs:List (List Int))(m:Int):Prop:=
 ∃Ls:List (List UInt8),(∀l∈Ls,10∉l)∧s.data.toList=Qgd Ls∧Ls.length=n∧QN Qkm (Ls.map toS)=(⟨3,rs,m,mdL 3 rs m,[]⟩,want)
theorem QiD{σ:Con}{l:List UInt8}(h:l≠[]):QN σ [toS l]=((QfN σ (QbO 32 (toS l))).1,(QfN σ (QbO 32 (toS l))).2++⟨#[10]⟩):=by
 have hn:¬isW (toS l) ⟨#[]⟩=true:=by
  rw[Qrt];cases l with
  | nil=>exact absurd rfl h
  | cons=>simp
 rw[QN,if_neg hn,QN];refine Prod.ext rfl ?_
 exact Qa8 (by rw[Qav];exact List.append_nil _)
theorem Qe7{s want t w2:ByteArray}{n:Nat}{rs rs2:List (List Int)}{m:Int}{l:List UInt8}{a:ByteArray}(h:QjS s want n rs m)(hl:10∉l)(hn:l≠[])(hs:t.data.toList=s.data.toList++(l++[10]))
  (hr:QfN ⟨3,rs,m,mdL 3 rs m,[]⟩ (QbO 32 (toS l))=(⟨3,rs2,m,mdL 3 rs2 m,[]⟩,a)) (hw:w2.data.toList=want.data.toList++(a.data.toList++[10])):QjS t w2 (n+1) rs2 m:=by
 obtain⟨Ls,h1,h2,h3,h4⟩:=h;refine⟨Ls++[l],fun x hx=>?_,?_,by rw[List.length_append,h3];rfl,?_⟩
 ·rcases List.mem_append.1 hx with hx|hx
  ·exact h1 x hx
  ·rw[List.mem_singleton]at hx;subst hx;exact hl
 ·rw[hs,h2,QoQ]
 ·rw[List.map_append,Qfz,h4]
  dsimp only;rw[List.map_cons,List.map_nil,QiD hn,hr];dsimp only;refine Prod.ext rfl ?_
  exact Qa8 (by rw[hw,Qav,Qav])
theorem Qvv{s want:ByteArray}{n:Nat}{rs:List (List Int)}{m:Int}(h:QjS s want n rs m)(hn:n≤60)(hz:s.size≤3000):rcF s=want:=by
 obtain⟨Ls,h1,h2,h3,h4⟩:=h;have hc:Qhk (QbO 10 s)=Ls.map toS:=by
  rw[Qfr,h2,←List.append_nil (Qgd Ls),Qm0 h1 (by simp),Qo7]
  rfl
 unfold rcF;rw[hc,h4,if_neg];rw[List.length_map,h3];simp only[Bool.or_eq_true,decide_eq_true_eq,not_or]
 omega
def Qbs(v:Int):ByteArray:=if v= -1 then Qjo else Qdc v
theorem QjF{v:Int}(h0:0≤v)(h1:v≤999999999):(Qdc v).data.toList=Lib.decDigits v.toNat:=by
 rw[Qdz h0 (by omega)]
 show Lib.itoa v=_
 unfold Lib.itoa;rw[if_neg (by omega)]
theorem QyH{v:Int}(h0:0≤v)(h1:v≤999999999):spF (Qdc v).data.toList=(v,true):=by
 rw[Qdz h0 (by omega)]
 exact Qe6.2 ⟨rfl,by omega,h1⟩
theorem Ql5{v:Int}(h0:0≤v)(h1:v≤999999999):l3V (Qdc v)=v:=by
 have:=QyH h0 h1
 rw[Qny (by rw[this]) (by rw[this];exact h0),this]
theorem QdN{v:Int}(h0: -1≤v)(h1:v≤40):l3V (Qbs v)=v∧∀b∈(Qbs v).data.toList,b≠10∧b≠32:=by
 unfold Qbs
 by_cases hv:v= -1
 ·rw[if_pos hv,hv]
  refine⟨?_,by decide⟩
  unfold l3V;rw[if_pos (by rw[QaP];exact decide_eq_true rfl)]
 ·rw[if_neg hv]
  refine⟨Ql5 (by omega) (by omega),?_⟩
  rw[QjF (by omega) (by omega)]
  intro b hb;have:=QcG b hb
  exact⟨fun e=>by subst e;exact absurd this (by decide),fun e=>by subst e;exact absurd this (by decide)⟩
theorem Qyz{σ:Con}{ws:List ByteArray}(hc:σ.c≠0)(hw:ws≠[]):QfN σ (Qla::ws)=Qsj σ ws:=by
 have e0:(Qla::ws).getD 0 ⟨#[]⟩=Qla:=rfl
 have e1:isW Qla Qbz=false:=by rw[QaP];decide
 have e2:isW Qla Qla=true:=by rw[QaP];decide
 have e3:decide ((Qla::ws).length>1)=true:=by
  cases ws with
  | nil=>exact absurd rfl hw
  | cons=>simp
 unfold QfN;rw[e0,e1,e2,e3,if_neg (by simp),if_neg (by simpa using hc),if_pos (by rfl)]
 rfl
theorem Qve{σ:Con}{w:ByteArray}(hc:σ.c≠0):QfN σ [QeQ,w]=Quj σ w:=by
 have e1:isW QeQ Qbz=false:=by rw[QaP];decide
 have e2:isW QeQ Qla=false:=by rw[QaP];decide
 have e3:isW QeQ Qry=false:=by rw[QaP];decide
 have e4:isW QeQ QeQ=true:=by rw[QaP];decide
 unfold QfN;simp only[List.getD_cons_zero,e1,e2,e3,e4,Bool.false_and,Bool.true_and,Bool.false_eq_true,if_false]
 rw[if_neg (by simpa using hc),if_pos (by rfl)]
 rfl
theorem Qsm{σ:Con}{w:ByteArray}(hc:σ.c≠0)(h:isW w Qhe=true∨isW w Qhf=true):QfN σ [w]=QvA σ w:=by
 have hw:w=Qhe∨w=Qhf:=h.imp QbC.1 QbC.1
 have e:∀k:ByteArray,w.data.toList≠k.data.toList→isW w k=false:=fun k hk=>by rw[QaP];exact decide_eq_false hk
 unfold QfN;simp only[List.getD_cons_zero]
 have e1:isW w Qbz=false:=e _ (by rcases hw with rfl|rfl<;>decide)
 have e2:isW w Qla=false:=e _ (by rcases hw with rfl|rfl<;>decide)
 have e3:isW w Qry=false:=e _ (by rcases hw with rfl|rfl<;>decide)
 have e4:isW w QeQ=false:=e _ (by rcases hw with rfl|rfl<;>decide)
 simp only[e1,e2,e3,e4,Bool.false_and,Bool.false_eq_true,if_false]
 rw[if_neg (by simpa using hc),if_neg (by simp),if_pos (by rfl)]
theorem QsF{s want t w2:ByteArray}{n:Nat}{rs:List (List Int)}{m:Int}(h:QjS s want n rs m)(hs:t.data.toList=s.data.toList++(Qhe.data.toList++[10]))(hw:w2.data.toList=want.data.toList++((dlL (mdL 3 rs m)).data.toList++[10])):QjS t w2 (n+1) rs m:=by
 refine Qe7 h (l:=Qhe.data.toList) (by decide) (by decide) hs ?_ hw
 have e:QbO 32 (toS Qhe.data.toList)=[Qhe]:=by rw[Qfr,Qd3,QbT (by decide)];rfl
 have e0:isW Qhe Qhe=true:=by rw[QaP];decide
 rw[e,Qsm (show(3:Int)≠0 by decide) (.inl e0)]
 unfold QvA;rw[if_pos e0]
theorem QsH{s want t w2:ByteArray}{n:Nat}{rs:List (List Int)}{m:Int}(h:QjS s want n rs m)(hs:t.data.toList=s.data.toList++(Qhf.data.toList++[10]))(hw:w2.data.toList=want.data.toList++((slL (Qj0 3 rs m)).data.toList++[10])):QjS t w2 (n+1) rs m:=by
 refine Qe7 h (l:=Qhf.data.toList) (by decide) (by decide) hs ?_ hw
 have e:QbO 32 (toS Qhf.data.toList)=[Qhf]:=by rw[Qfr,Qd3,QbT (by decide)];rfl
 have e0:isW Qhf Qhf=true:=by rw[QaP];decide
 have e1:isW Qhf Qhe=false:=by rw[QaP];decide
 rw[e,Qsm (show(3:Int)≠0 by decide) (.inr e0)]
 unfold QvA;rw[if_neg (by rw[e1];decide),if_pos e0]
theorem Qnr{rs:List (List Int)}{m:Int}(ht:QC 3 rs=true)(hm:QJ m=true):isM 3 rs m (mdL 3 rs m)=true:=by
 unfold isM;rw[ht,hm];simp
theorem Qvw{s want t w2:ByteArray}{n:Nat}{rs:List (List Int)}{m a b c:Int}(h:QjS s want n rs m)(ht:QC 3 rs=true)(hm:QJ m=true)(hl:rs.length<40)(ha: -1≤a∧a≤40)(hb: -1≤b∧b≤40)(hc: -1≤c∧c≤40)
  (hs:t.data.toList=s.data.toList++((Qla.data.toList++32::((Qbs a).data.toList++32::((Qbs b).data.toList++32::(Qbs c).data.toList)))++[10])) (hw:w2.data.toList=want.data.toList++([111,107]++[10])):
  QjS t w2 (n+1) (rs++[[a,b,c]]) m∧QC 3 (rs++[[a,b,c]])=true:=by
 obtain⟨va,na⟩:=QdN ha.1 ha.2;obtain⟨vb,nb⟩:=QdN hb.1 hb.2;obtain⟨vc,nc⟩:=QdN hc.1 hc.2;have hrow:Qbx [a,b,c] 3=true:=by
  unfold Qbx;simp only[List.all_cons,List.all_nil,Bool.and_true,Bool.and_eq_true,Qh,List.length_cons,List.length_nil,decide_eq_true_eq]
  exact⟨⟨ha,hb,hc⟩,by decide⟩
 have hv:Qiz 3 rs m (mdL 3 rs m) [a,b,c]=true:=by
  unfold Qiz;rw[Qnr ht hm,hrow,decide_eq_true hl];rfl
 have hM:=Ql0 hv
 have hR:QlZ 3 rs m (mdL 3 rs m) [a,b,c]=rs++[[a,b,c]]:=by unfold QlZ;rw[if_pos hv]
 rw[hR]at hM;obtain⟨t1,_,t3⟩:=QaD hM;refine⟨?_,t1⟩
 have n10:∀{x:ByteArray},(∀b∈x.data.toList,b≠10∧b≠32)→10∉x.data.toList:=fun h hx=>(h _ hx).1 rfl
 have n32:∀{x:ByteArray},(∀b∈x.data.toList,b≠10∧b≠32)→32∉x.data.toList:=fun h hx=>(h _ hx).2 rfl
 refine Qe7 h (l:=Qla.data.toList++32::((Qbs a).data.toList++32::((Qbs b).data.toList++32::(Qbs c).data.toList))) ?_ (by simp) hs ?_ hw (a:=sOk)
 ·simp only[List.mem_append,List.mem_cons,not_or]
  exact⟨by decide,by decide,n10 na,by decide,n10 nb,by decide,n10 nc⟩
 ·have e:QbO 32 (toS (Qla.data.toList++32::((Qbs a).data.toList++32::((Qbs b).data.toList++32::(Qbs c).data.toList))))=[Qla,Qbs a,Qbs b,Qbs c]:=by
   rw[Qfr,Qd3,QbS (by decide),QbS (n32 na),QbS (n32 nb),QbT (n32 nc)]
   rfl
  rw[e,Qyz (show(3:Int)≠0 by decide) (by simp)]
  unfold Qsj;simp only[List.map_cons,List.map_nil,va,vb,vc]
  rw[if_pos hv,hR,t3]
theorem QsG{s want t w2:ByteArray}{n k:Nat}{rs:List (List Int)}{m:Int}(h:QjS s want n rs m)(ht:QC 3 rs=true)(hm:QJ m=true)(hk:k<rs.length)
  (hs:t.data.toList=s.data.toList++((QeQ.data.toList++32::(Qdc (k:Nat)).data.toList)++[10])) (hw:w2.data.toList=want.data.toList++([111,107]++[10])):
  QjS t w2 (n+1) (rs.take k++rs.drop (k+1)) m∧QC 3 (rs.take k++rs.drop (k+1))=true:=by
 have h40:rs.length≤40:=by obtain⟨_,_,_,_,h40,_⟩:=QR ht;exact h40
 have hv:QhP 3 rs m (mdL 3 rs m) (k:Nat)=true:=by
  unfold QhP;rw[Qnr ht hm,Qh.2 ⟨by omega,by omega⟩];rfl
 have hM:=(QlM hv).1
 have hR:QfX 3 rs m (mdL 3 rs m) (k:Nat)=rs.take k++rs.drop (k+1):=by unfold QfX;rw[if_pos hv];rfl
 rw[hR]at hM;obtain⟨t1,_,t3⟩:=QaD hM;refine⟨?_,t1⟩
 have hd:∀b∈(Qdc (k:Nat)).data.toList,b≠10∧b≠32:=by
  have:=(QdN (v:=(k:Nat)) (by omega) (by omega)).2
  unfold Qbs at this;rwa [if_neg (by omega)]at this
 refine Qe7 h (l:=QeQ.data.toList++32::(Qdc (k:Nat)).data.toList) ?_ (by simp) hs ?_ hw (a:=sOk)
 ·simp only[List.mem_append,List.mem_cons,not_or]
  exact⟨by decide,by decide,fun hx=>(hd _ hx).1 rfl⟩
 ·have e:QbO 32 (toS (QeQ.data.toList++32::(Qdc (k:Nat)).data.toList))=[QeQ,Qdc (k:Nat)]:=by
   rw[Qfr,Qd3,QbS (by decide),QbT (fun hx=>(hd _ hx).2 rfl)]
   rfl
  rw[e,Qve (show(3:Int)≠0 by decide)]
  unfold Quj;rw[Ql5 (by omega) (by omega)]
  dsimp only;rw[if_pos hv,hR,t3]
def QvT(m:Int):List UInt8:=Qbz.data.toList++32::([51]++32::(if m=1 then Qea else Qeb).data.toList)
theorem Qvu{t:ByteArray}{m:Int}(hm:m=0∨m=1)(hs:t.data.toList=QvT m++[10]):QjS t ⟨#[111,107,10]⟩ 1 [] m∧QC 3 []=true∧QJ m=true:=by
 have hmo:QJ m=true:=by rcases hm with rfl|rfl<;>rfl
 have ht:QC 3 []=true:=rfl
 refine⟨?_,ht,hmo⟩
 have hsp:l3V ⟨#[51]⟩=3:=by
  have:=Ql5 (v:=3) (by decide) (by decide)
  have e:Qdc 3=⟨#[51]⟩:=Qa8 (by rw[QjF (by decide) (by decide)];show Lib.decDigits 3=_;rw[Lib.decDigits_one (by decide)];rfl)
  rwa [e]at this
 have hmd:QrM (if m=1 then Qea else Qeb)=m:=by
  unfold QrM;rcases hm with rfl|rfl
  ·rw[QaP,QaP];rfl
  ·rw[QaP,QaP];rfl
 have h10:10∉QvT m:=by rcases hm with rfl|rfl<;>decide
 have hcut:QbO 32 (toS (QvT m))=[Qbz,⟨#[51]⟩,if m=1 then Qea else Qeb]:=by
  rw[Qfr,Qd3];unfold QvT;rw[QbS (by decide),QbS (by decide),QbT (by rcases hm with rfl|rfl<;>decide)]
  rfl
 have hrun:QfN Qkm (QbO 32 (toS (QvT m)))=(⟨3,[],m,mdL 3 [] m,[]⟩,sOk):=by
  rw[hcut];have e1:isW Qbz Qbz=true:=by rw[QaP];decide
  unfold QfN;simp only[List.getD_cons_zero,e1,Bool.true_and]
  rw[if_pos (by rfl)]
  show QtB Qkm ⟨#[51]⟩ (if m=1 then Qea else Qeb)=_
  unfold QtB;rw[hsp,hmd,if_pos];unfold nmB;rw[ht,hmo];rfl
 refine⟨[QvT m],fun x hx=>?_,?_,rfl,?_⟩
 ·rw[List.mem_singleton]at hx;subst hx;exact h10
 ·rw[hs];simp[Qgd]
 ·rw[List.map_cons,List.map_nil,QiD (by unfold QvT;simp),hrun]
  rfl
end Go.Own
