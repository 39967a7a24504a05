/- Contracts. Conditions: as stated. -/
import Derived.Test.YtnmkpepdacbfaaaGreatDoorRp44
set_option linter.all false
set_option maxRecDepth 20000
set_option maxHeartbeats 4000000
namespace Go.Own
open Go Go.Proofs
section
attribute [local go_sem] Qw5 QtI Tryz.results7
theorem cOr{a b:Bool}:cond a true b=(a||b):=by cases a<;>rfl
theorem QtY{σ:Con}:Con.mk σ.c σ.rs σ.m σ.ds σ.gv=σ:=rfl
theorem Qzh{σ:Con}(h:Qdf σ):σ.rs.length≤maxLen∧(∀r∈σ.rs,r.length≤maxLen)∧σ.ds.length≤maxLen∧σ.gv.length≤maxLen:=by
 obtain⟨_,h1,h2,h3,h4⟩:=QbN h;exact⟨KF h1 (by decide),fun r hr=>KF (h2 r hr) (by decide),KF h3 (by decide),KF h4 (by decide)⟩
def cRC:Qb:=⟨[],false,fun
 | [.one (.v (.string s))]=>some (s.size≤1073741824,[⟨false,[.d (.v (.string (rcF s)))]⟩],[])
 | _=>none⟩
attribute [local go_sem] cRC cOr QtY Qkw Qwq QB Qh Qg Qae Qag Qaf Qaj Qa7 Qd1 Qv Qa1 Qz QbD QbT Qfc Qht Qez QcJ QFW QFX QF3 QF4
theorem QD8:Qa E0 7 cRC:=by
  refine QG (E:=E0) (T:=mkT Tryz.prog [(20,Qw5),(21,QtI)] false (fun d=>d==11||d==44) true (fun d=>d==996)) (Qd (E:=E0) (.cons QCg (.cons QB6 .nil))) (fn:=Tryz.f7) Tryz.func7 kR rfl Qc kR rfl ?_
  intro args p rs ms hr;unfold cRC at hr;dsimp only at hr;split at hr;rotate_left
  · cases hr
  rename_i s;cases hr;refine⟨rfl,rfl,nLe rfl,?_⟩
  have hm:=mxE;intro h1 bs;have hlt:s.size<4294967281:=by omega
  have l0:=@Qle 10 s
  have l1:=@QhS 10 s
  have l2:=@Qlf 10 s
  have eZ:rcF s=if(decide (s.size>3000)||decide ((Qc2 (Qa9 10 s)).length>60))=true then⟨#[]⟩else(QF QfD (Qc2 (Qa9 10 s))).2:=rfl
  have hlc:=Qi5 l0
  generalize hC:Qa9 10 s=C at l0 l1 l2 eZ hlc;generalize hZ:rcF s=Z at eZ;generalize hL:Qc2 C=L at eZ hlc;clear hL;have hm1:C.length≤maxLen:=KF (show _≤1073741825 by omega) (by decide)
  have iz:C.length-1<C.length:=by omega
  have hi0:(((C.length:Nat):Int)-1)=((C.length-1:Nat):Int):=by omega
  have hLs:(∀w∈L,w.size≤1073741824)∧L.length≤maxLen:=by
    rcases hlc with⟨_,e⟩|⟨_,e⟩<;>rw[e]
    · exact⟨fun w hw=>KF (l2 w (Ks hw)) h1,by rw[KO];omega⟩
    · exact⟨fun w hw=>KF (l2 w hw) h1,hm1⟩
  obtain⟨hLs,hLm⟩:=hLs;have hgs:=fun i=>Qei hLs i
  clear l1 l2 hLs;have hs3:decide (s.size>3000)=decide (((s.size:Nat):Int)>3000):=by
    rw[Kp,KK,KK];omega
  have hl6:decide (L.length>60)=decide (((L.length:Nat):Int)>60):=by
    rw[Kp,KK,KK];omega
  rw[hs3,hl6]at eZ;clear hs3 hl6;generalize hD:C.getD (C.length-1) ⟨#[]⟩=D0 at hlc;rcases hlc with⟨q1,e⟩|⟨q1,e⟩
  all_goals
    first
    | (have e2:L=C:=e
       clear e;subst e2)
    | replace e:=e.symm
    cases hq:(decide (((s.size:Nat):Int)>3000)||decide (((L.length:Nat):Int)>60))
    rotate_left
    · rw[hq,if_pos rfl]at eZ
      subst eZ;clear hgs;(repeat' first|refine gA fun _=>?_|apply fkI<;>intro hb<;>try simp only[ew,hC,hi0,hD,QeA,KE,K1]at hb|simp only[go_sem,simprocAttr, *,hC,hi0,hD,QeA,KE,K1])
      all_goals first|rfl|skip
    · rw[hq,if_neg (by decide)]at eZ
      have h60:L.length≤60:=by
        rw[Kt]at hq;have:=of_decide_eq_false hq.2
        omega
      (repeat' first|refine gA fun _=>?_|apply fkI<;>intro hb<;>try simp only[ew,hC,hi0,hD,QeA,KE,K1]at hb|simp only[go_sem,simprocAttr, *,hC,hi0,hD,QeA,KE,K1])
      refine lpI {ι:=Nat,rs:=[(7,10),(36,54)],mods:=[(35,fun k=> .one (.d (.v (.int .i64 k)))),(5,fun k=> .one (.d (.v (.string (QF QfD (L.take k)).2))))],boxes:=[(4,fun k=>[.d (.v (.int .i64 (QF QfD (L.take k)).1.c)),.d (.sl 1 (sL (QF QfD (L.take k)).1.rs)),.d (.v (.int .i64 (QF QfD (L.take k)).1.m)),.d (.sl 2 (dL (QF QfD (L.take k)).1.ds)),.d (.sl 2 (dL (QF QfD (L.take k)).1.gv))])],arrs:=[],ok:=fun k=>k≤L.length,mu:=fun k=>L.length-k} rfl 0 (KJ _) ?_ fun k hk=>?_
      · have e3:QF QfD []=(⟨0,[],0,[],[]⟩,⟨#[]⟩):=rfl
        clear hgs;(repeat' first|refine gA fun _=>?_|apply fkI<;>intro hb<;>try simp only[ew,e3,Kw,Qcc,Qa5]at hb|simp only[go_sem,simprocAttr, *,e3,Kw,Qcc,Qa5])
        all_goals first|rfl|skip
      · dsimp only at k hk
        by_cases h5:k<L.length
        · have hz:=hgs k
          have hT:L.take (k+1)=L.take k++[L.getD k ⟨#[]⟩]:=Qf h5 _
          have hok:=@Qh0 (L.take k) QfD QiG
          have hos:=@QgX (L.take k) QfD QiG
          have hlt:(L.take k).length≤60:=by rw[KO];omega
          generalize hB:L.getD k ⟨#[]⟩=b at hz hT;have hN:=@QkD (L.take k) b QfD
          rw[←hT]at hN;clear hgs hT eZ hq;generalize hS:QF QfD (L.take k)=S at hok hos hN;cases hb:isW b ⟨#[]⟩
          · rw[hb,if_neg (by decide)]at hN
            have hr:=@Ql2 S.1 (Qa9 32 b) hok
            obtain⟨w1,w2,w3,w4⟩:=Qzh hok;have v0:=@Qle 32 b
            have v1:=@QhS 32 b
            have v2:∀w∈Qa9 32 b,w.size≤1073741824:=fun w hw=>KF (Qlf w hw) hz
            generalize hW:Qa9 32 b=ws at hN hr v0 v1 v2;have v3:ws.length≤maxLen:=KF (show _≤1073741825 by omega) (by decide)
            have v4:ws.length≤2147483648:=by omega
            have v5:b.size<4294967281:=by omega
            generalize hR:Qgr S.1 ws=R at hN hr;have z1:ByteArray.size ⟨#[10]⟩=1:=rfl
            have o1:S.2.size≤600060:=by omega
            clear hos;(repeat' first|refine gA fun _=>?_|apply fkI<;>intro hb<;>try simp only[ew,hB,hS,hW,hR,Qe,z1]at hb|simp only[go_sem,simprocAttr, *,hB,hS,hW,hR,Qe,z1])
            refine lpN (k+1) (by omega) (by dsimp only;omega) ?_
            (repeat' first|refine gA fun _=>?_|apply fkI<;>intro hb<;>try simp only[ew,hN]at hb|simp only[go_sem,simprocAttr, *,hN])
          · rw[hb,if_pos rfl]at hN
            (repeat' first|refine gA fun _=>?_|apply fkI<;>intro hb<;>try simp only[ew,hB,hS]at hb|simp only[go_sem,simprocAttr, *,hB,hS])
            refine lpN (k+1) (by omega) (by dsimp only;omega) ?_
            (repeat' first|refine gA fun _=>?_|apply fkI<;>intro hb<;>try simp only[ew,hN]at hb|simp only[go_sem,simprocAttr, *,hN])
        · have e5:k=L.length:=by omega
          subst e5;have hT:L.take L.length=L:=KR
          clear hgs;(repeat' first|refine gA fun _=>?_|apply fkI<;>intro hb<;>try simp only[ew,hT,eZ]at hb|simp only[go_sem,simprocAttr, *,hT,eZ])
          all_goals first|rfl|skip
end
def QcN(Ls:List (List UInt8)):List UInt8:=(Ls.map (· ++[10])).flatten
theorem Qkr{Ls:List (List UInt8)}{p:List UInt8}:QcN (Ls++[p])=QcN Ls++(p++[10]):=by simp[QcN]
theorem Qr9{Ls:List (List UInt8)}{p:List UInt8}:QcN (p::Ls)=(p++[10])++QcN Ls:=by simp[QcN]
theorem QiT{Ls:List (List UInt8)}{k:Nat}:QcN Ls=QcN (Ls.take k)++QcN (Ls.drop k):=by
 unfold QcN;rw[←YR,←Kv,Kr]
theorem Qlg:∀{Ls:List (List UInt8)} {p:List UInt8},(∀l∈Ls,10∉l)→10∉p→QeI 10 (QcN Ls++p)=Ls++[p]
 | [],p,_,hp=>QfX hp
 | l::Ls,p,h,hp=>by
  rw[Qr9];have:(l++[10]++QcN Ls)++p=l++10::(QcN Ls++p):=by simp
  rw[this,Qld (h l (by simp)),Qlg (fun x hx=>h x (by simp[hx])) hp]
  rfl
structure PS where
  cut:Nat
  lines:Nat
  full:Nat
  frm:Nat
def Qvw(k i:Nat)(b:UInt8)(s:PS):PS:=if b=10 then⟨if s.lines+1=k then i+1 else s.cut,s.lines+1,s.full+(if s.frm<i then 1 else 0),i+1⟩else s
def pst(k:Nat)(l:List UInt8):Nat→PS
 | 0=>⟨0,0,0,0⟩
 | i+1=>Qvw k i (l.getD i 0) (pst k l i)
def Qwp(k:Nat)(l:List UInt8):PS:=if(pst k l l.length).frm=l.length then pst k l l.length else⟨(pst k l l.length).cut,(pst k l l.length).lines+1,(pst k l l.length).full+1,(pst k l l.length).frm⟩
def Qsc(Ls:List (List UInt8)):Nat:=(Ls.filter fun l=> !l.isEmpty).length
theorem Qvv{k:Nat}(hk:1≤k){l:List UInt8}:∀{i:Nat},i≤l.length→∃(Ls:List (List UInt8)) (p:List UInt8),(∀x∈Ls,10∉x)∧10∉p∧l.take i=QcN Ls++p∧
  (pst k l i).lines=Ls.length∧(pst k l i).frm+p.length=i∧(pst k l i).full=Qsc Ls∧(pst k l i).cut=if k≤Ls.length then(QcN (Ls.take k)).length else 0
 | 0,_=>⟨[],[],by simp,by simp,by simp[QcN],rfl,rfl,rfl,by rw[if_neg (by simp;omega)];rfl⟩
 | i+1,hi=>by
  obtain⟨Ls,p,h1,h2,h3,h4,h5,h6,h7⟩:=@Qvv k hk l i (by omega)
  have ht:l.take (i+1)=l.take i++[l.getD i 0]:=Qf (by omega) 0
  rw[pst,Qvw]
  by_cases hb:l.getD i 0=10
  ·rw[if_pos hb]
   refine⟨Ls++[p],[],?_,by simp,?_,?_,?_,?_,?_⟩
   ·intro x hx
    rcases KG.1 hx with hx|hx
    ·exact h1 x hx
    ·rw[KH]at hx;subst hx;exact h2
   ·rw[ht,h3,hb,Qkr];simp
   ·simp[h4]
   ·simp
   ·dsimp only
    unfold Qsc at h6 ⊢;rw[List.filter_append,KN,h6];cases p with
    | nil=>
     have:¬(pst k l i).frm<i:=by simp at h5;omega
     rw[if_neg this];simp
    | cons a r=>
     have:(pst k l i).frm<i:=by simp at h5;omega
     rw[if_pos this];simp
   ·dsimp only
    have hlen:(l.take (i+1)).length=i+1:=by rw[KO];omega
    rw[h4,KN,List.length_singleton]
    by_cases hkk:Ls.length+1=k
    ·rw[if_pos hkk,if_pos (by omega),Kj (by simp;omega),Qkr,←hlen,ht,h3,hb]
     simp
    ·rw[if_neg hkk,h7]
     by_cases hk2:k≤Ls.length
     ·rw[if_pos hk2,if_pos (by omega),List.take_append_of_le_length hk2]
     ·rw[if_neg hk2,if_neg (by omega)]
  ·rw[if_neg hb]
   refine⟨Ls,p++[l.getD i 0],h1,?_,?_,h4,?_,h6,h7⟩
   ·rw[KG,KH]
    rintro(h|h)
    ·exact h2 h
    ·exact hb h.symm
   ·rw[ht,h3];simp
   ·simp;omega
theorem QgV:∀{a b:List ByteArray} {σ:Con},QF σ (a++b)=((QF (QF σ a).1 b).1,(QF σ a).2++(QF (QF σ a).1 b).2)
 | [],b,σ=>by
  rw[List.nil_append,QF];refine Prod.ext rfl ?_
  exact QbG (by rw[Qb2];rfl)
 | l::a,b,σ=>by
  rw[List.cons_append,QF,QF]
  by_cases h:isW l ⟨#[]⟩=true
  ·rw[if_pos h,if_pos h,QgV]
  ·rw[if_neg h,if_neg h,QgV]
   refine Prod.ext rfl ?_
   dsimp only;exact QbG (by simp only[Qb2,Kn])
def QmM(s:ByteArray):Nat:=s.data.toList.count 10
theorem QAA{s:ByteArray}(h:cln s):QmM s=0:=List.count_eq_zero.2 fun hm=>h 10 hm rfl
theorem QtV{a b:ByteArray}:QmM (a++b)=QmM a+QmM b:=by unfold QmM;rw[Qb2,List.count_append]
theorem QgW:∀{ls:List ByteArray} {σ:Con},QmM (QF σ ls).2=(ls.filter fun l=> !isW l ⟨#[]⟩).length
 | [],σ=>rfl
 | l::r,σ=>by
  rw[QF]
  by_cases h:isW l ⟨#[]⟩=true
  ·rw[if_pos h,List.filter_cons_of_neg (by simp[h])]
   exact QgW
  ·rw[if_neg h,List.filter_cons_of_pos (by simpa using h)]
   dsimp only;rw[QtV,QtV,QAA QAC,QgW,List.length_cons];have:QmM ⟨#[10]⟩=1:=rfl
   omega
theorem QuH{l:List UInt8}:isW (toS l) ⟨#[]⟩=l.isEmpty:=by
 rw[QoT,Qmc];cases l<;>rfl
theorem QgU{Ls:List (List UInt8)}{p:List UInt8}:Qc2 ((Ls++[p]).map toS)=(if p.isEmpty then Ls else Ls++[p]).map toS:=by
 unfold Qc2;have e:((Ls++[p]).map toS).getD (((Ls++[p]).map toS).length-1) ⟨#[]⟩=toS p:=by
  rw[Kv,KN,KV];simp[KD]
 rw[e,QuH];cases p with
 | nil=>simp
 | cons a r=>simp
theorem QxQ{Ls:List (List UInt8)}:((Ls.map toS).filter fun l=> !isW l ⟨#[]⟩).length=Qsc Ls:=by
 unfold Qsc;rw[List.filter_map,KV];congr 1
 exact List.filter_congr fun x _=>by simp[Function.comp,QuH]
theorem QBQ{s:ByteArray}{k:Nat}(hk:1≤k){E:PS}(hE:E=Qwp k s.data.toList):
  ((decide (E.lines>60)||decide (s.size>3000))=true→rcF s=⟨#[]⟩)∧
  ((decide (E.lines>60)||decide (s.size>3000))=false→E.cut≤s.size∧(∃t,rcF s=rcF (toS (s.data.toList.take E.cut))++t)∧QmM (rcF s)=E.full):=by
 obtain⟨Ls,p,h1,h2,h3,h4,h5,h6,h7⟩:=@Qvv k hk s.data.toList s.data.toList.length (KP _);rw[KR]at h3;have hc:Qc2 (Qa9 10 s)=(if p.isEmpty then Ls else Ls++[p]).map toS:=by
  rw[QoA,h3,Qlg h1 h2,QgU]
 have hsz:s.size=s.data.toList.length:=bsz.symm
 have hL:E.lines=(Qc2 (Qa9 10 s)).length∧E.full=Qsc (if p.isEmpty then Ls else Ls++[p])∧E.cut=if k≤Ls.length then(QcN (Ls.take k)).length else 0:=by
  rw[hc,KV,hE,Qwp];cases p with
  | nil=>
   rw[if_pos (by simpa using h5)]
   exact⟨h4,h6,h7⟩
  | cons a r=>
   rw[if_neg (by rw[List.length_cons]at h5;omega)]
   refine⟨by show(pst k s.data.toList s.data.toList.length).lines+1=_;rw[h4];simp,?_,h7⟩
   dsimp only;rw[h6];unfold Qsc;simp
 obtain⟨l1,l2,l3⟩:=hL;have eR:rcF s=if(decide (E.lines>60)||decide (s.size>3000))=true then⟨#[]⟩else(QF QfD (Qc2 (Qa9 10 s))).2:=by
  unfold rcF;rw[←l1,Bool.or_comm]
 refine⟨fun h=>by rw[eR,if_pos h],fun h=>?_⟩
 rw[eR,if_neg (by rw[h];decide)]
 rw[Kt,Kl,Kl]at h;refine⟨?_,?_,by rw[QgW,hc,QxQ,l2]⟩
 ·rw[l3]
  split
  ·rw[hsz,h3,@QiT Ls k];simp
  ·exact KJ _
 ·rw[l3]
  by_cases hk2:k≤Ls.length
  ·rw[if_pos hk2]
   have e1:s.data.toList.take (QcN (Ls.take k)).length=QcN (Ls.take k)++[]:=by
    rw[h3,@QiT Ls k,Kn,List.take_left,KM]
   have e2:Qc2 (Qa9 10 (toS (s.data.toList.take (QcN (Ls.take k)).length)))=(Ls.take k).map toS:=by
    rw[QoA,Qmc,e1,Qlg (fun x hx=>h1 x (Ks hx)) (by simp),QgU]
    rfl
   have e3:rcF (toS (s.data.toList.take (QcN (Ls.take k)).length))=(QF QfD ((Ls.take k).map toS)).2:=by
    unfold rcF;rw[e2,if_neg];have hs:(toS (s.data.toList.take (QcN (Ls.take k)).length)).size≤s.size:=by
     rw[hsz,Qmd,KO];omega
    have hl:((Ls.take k).map toS).length≤E.lines:=by
     rw[l1,hc,KV,KV,KO];split
     ·omega
     ·rw[KN];omega
    simp only[Kq,KK,not_or]
    exact⟨by omega,by omega⟩
   have e4:Qc2 (Qa9 10 s)=(Ls.take k).map toS++(if p.isEmpty then Ls.drop k else Ls.drop k++[p]).map toS:=by
    rw[hc,←Kv];congr 1
    split
    ·rw[Kr]
    ·rw[←Kn,Kr]
   rw[e3,e4,QgV];exact⟨_,rfl⟩
  ·rw[if_neg hk2,Kw]
   refine⟨(QF QfD (Qc2 (Qa9 10 s))).2,?_⟩
   have:rcF (toS [])=⟨#[]⟩:=by
    have e:Qc2 (Qa9 10 (toS []))=[]:=by
     have:=@QgU [] []
     rw[show Qa9 10 (toS [])=(([]:List (List UInt8))++[[]]).map toS from rfl,this]
     rfl
    unfold rcF;rw[e,if_neg (by decide)]
    rfl
   rw[this];exact QbG (by rw[Qb2];rfl)
def QmI(v:Int):ByteArray:=if v= -1 then QjQ else Qg1 v
theorem Qyt{v:Int}(h0:0≤v)(h1:v≤999999999):(Qg1 v).data.toList=Lib.decDigits v.toNat:=by
 rw[Qgc h0 (by omega)]
 show Lib.itoa v=_
 unfold Lib.itoa;rw[if_neg (by omega)]
attribute [local go_sem] QfP Tryz.results25 Tryz.results9 Tryz.results8
theorem Qve{v:Int}(h0:0≤v)(h1:v≤999999):Qst v=Qg1 v:=@Qgd v h0 (by omega)
def QDc:Qb:=⟨[],false,fun
 | [.one (.v (.int .i64 v))]=>some (-1≤v∧v≤999999,[⟨false,[.d (.v (.string (QmI v)))]⟩],[])
 | _=>none⟩
attribute [local go_sem] QDc
theorem QDK:Qa E0 25 QDc:=by
 refine QG (E:=E0) (T:=mkT Tryz.prog [(10,QfP)] false (fun _=>false) true (fun _=>false)) (Qd (E:=E0) (.cons QeL .nil)) (fn:=Tryz.f25) Tryz.func25 kR rfl Qc kR rfl ?_
 intro args p rs ms hr;unfold QDc at hr;dsimp only at hr;split at hr;rotate_left
 ·cases hr
 rename_i v;cases hr;refine⟨rfl,rfl,nLe rfl,?_⟩
 have hm:=mxE;rintro⟨h0,h1⟩ bs;unfold QmI
 by_cases hv:v= -1
 ·subst hv
  rw[if_pos rfl];exact gQ
 ·rw[if_neg hv]
  have h2:(v== -1)=false:=KU.2 hv
  have h3:0≤v:=by omega
  have h4:=Qve h3 h1
  (repeat' first|refine gA fun _=>?_|apply fkI<;>intro hb<;>try simp only[ew,h2,h4]at hb|simp only[go_sem,simprocAttr, *,h2,h4])
  all_goals first|rfl|skip
attribute [local go_sem] QaK QZ QjD
def atI(bs:List Int)(i:Int):Int:=if i<bs.length then bs.getD i.toNat 0 else Int.tmod (i*37+bs.length*11) 256
theorem Qti{bs:List Int}{i:Int}(h:∀b∈bs,0≤b∧b≤255)(h0:0≤i):0≤atI bs i∧atI bs i≤255:=by
 unfold atI;split
 ·rename_i hi
  exact h _ (QE (by omega) 0)
 ·rw[Int.tmod_eq_emod_of_nonneg (by omega)]
  omega
def QC8:Qb:=⟨[],false,fun
 | [.one (.sl 1 l),.one (.v (.int .i64 i))]=>some ((WfB l∧∀b∈unB l,0≤b∧b≤255)∧l.length≤1048576∧0≤i∧i≤1000,[⟨false,[.d (.v (.int .i64 (atI (unB l) i)))]⟩],[])
 | _=>none⟩
attribute [local go_sem] QC8
theorem QAf{bs:List Int}{i:Nat}(h:i<bs.length):(bL bs).getD i []=[D.v (.int .u8 (bs.getD i 0))]:=by
 simp[bL,KD,h]
theorem QC3:Qa E0 9 QC8:=by
 refine QG (E:=E0) (T:=mkT Tryz.prog [] false (fun _=>false) true (fun _=>false)) (Qd (E:=E0) .nil) (fn:=Tryz.f9) Tryz.func9 kR rfl Qc kR rfl ?_
 intro args p rs ms hr;unfold QC8 at hr;dsimp only at hr;split at hr;rotate_left
 ·cases hr
 rename_i l i;cases hr;refine⟨rfl,rfl,nLe rfl,?_⟩
 have hm:=mxE;rintro⟨⟨h1,h3⟩,h2,h4,h5⟩ bs0;obtain⟨bs,rfl,hx⟩:=h1.ex;clear h1;rw[QaK]at h3 ⊢;rw[QZ]at h2;obtain⟨i,rfl⟩:=KL h4;unfold atI
 by_cases h6:((i:Nat):Int)<bs.length
 ·rw[if_pos h6,KE]
  have h6':i<bs.length:=by omega
  have h7:=h3 _ (QE h6' 0)
  have h8:IntKind.wrap .i64 (bs.getD i 0)=bs.getD i 0:=by
   generalize bs.getD i 0=z at h7;exact QdR (by constructor<;>(simp[IntKind.min,IntKind.max,IntKind.bits,IntKind.signed];omega))
  have h9:=QAf h6'
  clear h3;(repeat' first|refine gA fun _=>?_|apply fkI<;>intro hb<;>try simp only[ew,h8,h9]at hb|simp only[go_sem,simprocAttr, *,h8,h9])
  all_goals first|rfl|skip
 ·rw[if_neg h6]
  clear h3;exact gQ
def Qtv:Qb:=⟨[],false,fun
 | [.one (.sl 1 l)]=>some (WfB l,[⟨false,[.d (.v (.bool (decide (l.length>1048576))))]⟩],[])
 | _=>none⟩
attribute [local go_sem] Qtv
theorem QAo:Qa E0 8 Qtv:=by
 refine QG (E:=E0) (T:=mkT Tryz.prog [] false (fun _=>false) true (fun _=>false)) (Qd (E:=E0) .nil) (fn:=Tryz.f8) Tryz.func8 kR rfl Qc kR rfl ?_
 intro args p rs ms hr;unfold Qtv at hr;dsimp only at hr;split at hr;rotate_left
 ·cases hr
 rename_i l;cases hr;refine⟨rfl,rfl,nLe rfl,?_⟩
 have hm:=mxE;rintro h1 bs0;obtain⟨bs,rfl,hx⟩:=h1.ex;clear h1;(repeat' first|refine gA fun _=>?_|apply fkI<;>intro hb<;>try simp only[ew]at hb|simp only[go_sem,simprocAttr, *])
 all_goals first|rfl|(rw[decide_eq_decide];omega)
end Go.Own
