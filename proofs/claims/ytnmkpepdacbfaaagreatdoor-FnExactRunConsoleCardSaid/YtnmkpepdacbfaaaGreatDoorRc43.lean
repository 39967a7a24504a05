/-
  Sets, values and numbers read from words. Conditions: as each theorem states them.
-/
import Derived.Test.YtnmkpepdacbfaaaGreatDoorRc42
set_option linter.unusedSimpArgs false
set_option linter.unusedVariables false
set_option maxRecDepth 20000
set_option maxHeartbeats 4000000
namespace Go.Own
open Go Go.Proofs
attribute [local go_sem] cFA Tryz.results94 Qfs Tryz.results44 cPI QlS Tryz.results119 Tryz.results74
attribute [local go_sem] Qbh QC Qbs Qct
def cPA:Qb:=⟨[],false,fun
 | [.one (.v (.string s))]=>some (True,[⟨false,[.d (.v (.int .i64 (paF s).1))]⟩,⟨false,[.d (.v (.bool (paF s).2))]⟩],[])
 | _=>none⟩
attribute [local go_sem] cPA
theorem Qx1:Qa E0 94 cPA:=by
 refine QE (E:=E0) (T:=mkT Tryz.prog [(146,cFA)] false (fun _=>false) true (fun _=>false)) (Qd (E:=E0) (.cons Qo9 .nil)) (fn:=Tryz.f94) Tryz.func94 (by kernel_rfl) rfl Qc (by kernel_rfl) rfl ?_
 intro args p rs ms hr;unfold cPA at hr;dsimp only at hr;split at hr;rotate_left
 ·cases hr
 rename_i s;cases hr;refine⟨rfl,rfl,nLe rfl,?_⟩
 have hm:=mxE;intro h1 bs;generalize hF:paF s=F;(repeat' first|refine gA fun _=>?_|apply fkI<;>intro hb<;>try simp only[ew]at hb|simp only[go_sem,simprocAttr, *])
 refine lpI {ι:=Nat,rs:=[(2,4),(5,14)],mods:=[(4,fun x=> .one (.d (.v (.int .i64 x))))],boxes:=[],arrs:=[],ok:=fun x=>x≤32∧paN s (32-x) x=F,mu:=fun x=>32-x} rfl 0 ⟨Nat.zero_le _,hF⟩ ?_ fun x hx=>?_
 ·exact gQ
 ·dsimp only at x hx
  obtain⟨hx,ht⟩:=hx;clear hF
  by_cases h5:x<32
  ·obtain⟨k,hk⟩:∃k,32-x=k+1:=⟨31-x,by omega⟩
   have hk2:32-(x+1)=k:=by omega
   have eD:decide (((x:Nat):Int)<32)=true:=decide_eq_true (by omega)
   rw[hk,paN]at ht;cases hq:((fa (x:Nat)).toList==s.toList)
   ·rw[hq,if_neg (by decide)]at ht
    clear hk;(repeat' first|refine gA fun _=>?_|apply fkI<;>intro hb<;>try simp only[ew,hq,eD]at hb|simp only[go_sem,simprocAttr, *,hq,eD])
    refine lpN (x+1) ⟨by omega,by rw[hk2];exact ht⟩ (by dsimp only;omega) ?_
    clear ht;exact gQ
   ·rw[hq,if_pos rfl]at ht
    rw[←ht];clear hk ht;(repeat' first|refine gA fun _=>?_|apply fkI<;>intro hb<;>try simp only[ew,hq]at hb|simp only[go_sem,simprocAttr, *,hq])
    all_goals first|rfl|skip
  ·have e5:x=32:=by omega
   subst e5;have ht2:F=(0,false):=ht.symm
   rw[ht2];clear ht;have eD:decide (((32:Nat):Int)<32)=false:=by decide
   (repeat' first|refine gA fun _=>?_|apply fkI<;>intro hb<;>try simp only[ew,eD]at hb|simp only[go_sem,simprocAttr, *,eD])
   all_goals first|rfl|skip
theorem Qx2:Qa E0 44 cPA:=by
 refine QE (E:=E0) (T:=mkT Tryz.prog [(24,Qfs),(23,cFA)] false (fun _=>false) true (fun _=>false)) (Qd (E:=E0) (.cons Qf0 (.cons Qpa .nil))) (fn:=Tryz.f44) Tryz.func44 (by kernel_rfl) rfl Qc (by kernel_rfl) rfl ?_
 intro args p rs ms hr;unfold cPA at hr;dsimp only at hr;split at hr;rotate_left
 ·cases hr
 rename_i s;cases hr;refine⟨rfl,rfl,nLe rfl,?_⟩
 have hm:=mxE;intro h1 bs;have ea:QcQ 5=31:=rfl
 generalize hF:paF s=F;(repeat' first|refine gA fun _=>?_|apply fkI<;>intro hb<;>try simp only[ew,ea]at hb|simp only[go_sem,simprocAttr, *,ea])
 refine lpI {ι:=Nat,rs:=[(2,4),(5,15)],mods:=[(4,fun x=> .one (.d (.v (.int .i64 x))))],boxes:=[],arrs:=[],ok:=fun x=>x≤32∧paN s (32-x) x=F,mu:=fun x=>32-x} rfl 0 ⟨Nat.zero_le _,hF⟩ ?_ fun x hx=>?_
 ·(repeat' first|refine gA fun _=>?_|apply fkI<;>intro hb<;>try simp only[ew,ea]at hb|simp only[go_sem,simprocAttr, *,ea])
 ·dsimp only at x hx
  obtain⟨hx,ht⟩:=hx;clear hF
  by_cases h5:x<32
  ·obtain⟨k,hk⟩:∃k,32-x=k+1:=⟨31-x,by omega⟩
   have hk2:32-(x+1)=k:=by omega
   have eD:decide (((x:Nat):Int)≤31)=true:=decide_eq_true (by omega)
   rw[hk,paN]at ht;cases hq:((fa (x:Nat)).toList==s.toList)
   ·rw[hq,if_neg (by decide)]at ht
    clear hk;(repeat' first|refine gA fun _=>?_|apply fkI<;>intro hb<;>try simp only[ew,hq,ea,eD]at hb|simp only[go_sem,simprocAttr, *,hq,ea,eD])
    refine lpN (x+1) ⟨by omega,by rw[hk2];exact ht⟩ (by dsimp only;omega) ?_
    clear ht;exact gQ
   ·rw[hq,if_pos rfl]at ht
    rw[←ht];clear hk ht;(repeat' first|refine gA fun _=>?_|apply fkI<;>intro hb<;>try simp only[ew,hq,ea]at hb|simp only[go_sem,simprocAttr, *,hq,ea])
    all_goals first|rfl|skip
  ·have e5:x=32:=by omega
   subst e5;have ht2:F=(0,false):=ht.symm
   rw[ht2];clear ht;have eD:decide (((32:Nat):Int)≤31)=false:=by decide
   (repeat' first|refine gA fun _=>?_|apply fkI<;>intro hb<;>try simp only[ew,ea,eD]at hb|simp only[go_sem,simprocAttr, *,ea,eD])
   all_goals first|rfl|skip
def cL3:Qb:=⟨[],false,fun
 | [.one (.v (.string s))]=>some (s.size≤1073741824,[⟨false,[.d (.v (.int .i64 (l3V s)))]⟩],[])
 | _=>none⟩
attribute [local go_sem] cL3
def cPV:Qb:=⟨[],false,fun
 | [.one (.v (.string s))]=>some (s.size≤1073741824,[⟨false,[.d (.v (.int .i64 (pvF s).1))]⟩,⟨false,[.d (.v (.bool (pvF s).2))]⟩],[])
 | _=>none⟩
theorem Qzc{s:ByteArray}{i:Nat}(h:i<s.size):dgV (s.data.toList.take (i+1)) (0,0)=if Qmj (s.data.toList.getD i 0)then((dgV (s.data.toList.take i) (0,0)).1*10+((s.data.toList.getD i 0).toNat-48),(dgV (s.data.toList.take i) (0,0)).2+1)else dgV (s.data.toList.take i) (0,0):=by
 rw[Qf (by rw[bsz];exact h) 0,QnH]
 rfl
theorem QBF{n:Int}:inR .u8 n=(0≤n∧n≤255):=rfl
attribute [local go_sem] QBF
theorem Qv8{s:ByteArray}{i:Nat}(h:i≤11):(dgV (s.data.toList.take i) (0,0)).1<100000000000∧(dgV (s.data.toList.take i) (0,0)).2≤11:=by
 have h1:=@Qo1 (s.data.toList.take i) (0,0) (by decide)
 have h2:=(@QsT (s.data.toList.take i) (0,0)).2
 rw[List.length_take]at h2;have h3:(dgV (s.data.toList.take i) (0,0)).2≤11:=by
  have:min i s.data.toList.length≤i:=Nat.min_le_left _ _
  dsimp only at h2;omega
 have h4:(10:Nat)^(dgV (s.data.toList.take i) (0,0)).2≤10^11:=Nat.pow_le_pow_right (by decide) h3
 have h5:(10:Nat)^11=100000000000:=by decide
 exact⟨by omega,h3⟩
theorem Qxo{b:Int}(h0:0≤b)(h1:b≤255):IntKind.wrap .i64 b=b:=Qls ⟨by show -9223372036854775808≤b;omega,by show b≤9223372036854775807;omega⟩
theorem QmY{s:ByteArray}{i:Nat}:QfW s i=((s.data.toList.getD i 0).toNat:Nat):=by
 unfold QfW;rw[List.getD_eq_getElem?_getD]
theorem QCf{s:ByteArray}:spN s.data.toList=if(decide ((s.size:Int)>0)&&(QfW s 0==45))=true then 0-((dgV (s.data.toList.take 11) (0,0)).1:Int)else((dgV (s.data.toList.take 11) (0,0)).1:Int):=by
 unfold spN;have e:(s.data.toList.head? =some 45)↔(decide ((s.size:Int)>0)&&(QfW s 0==45))=true:=by
  rw[QmY,←bsz];cases s.data.toList with
  | nil=>simp
  | cons a r=>
   have:(0:Int)<((a::r).length:Nat):=by simp
   rw[decide_eq_true this,Bool.true_and,beq_iff_eq,List.head?_cons,Option.some.injEq,List.getD_cons_zero];constructor
   ·rintro rfl;rfl
   ·intro h
    rw[←UInt8.toNat_inj];have:(45:UInt8).toNat=45:=rfl
    omega
 by_cases h:s.data.toList.head? =some 45
 ·rw[if_pos h,if_pos (e.1 h)];omega
 ·rw[if_neg h,if_neg (fun h2=>h (e.2 h2))]
theorem QB2:Qa E0 119 cPI:=by
 refine QE (E:=E0) (T:=mkT Tryz.prog [(10,QlS)] false (fun _=>false) true (fun _=>false)) (Qd (E:=E0) (.cons QkJ .nil)) (fn:=Tryz.f119) Tryz.func119 (by kernel_rfl) rfl Qc (by kernel_rfl) rfl ?_
 intro args p rs ms hr;unfold cPI at hr;dsimp only at hr;split at hr;rotate_left
 ·cases hr
 rename_i s;cases hr;refine⟨rfl,rfl,nLe rfl,?_⟩
 have hm:=mxE;intro h1 bs;have hD:=fun i=>@Qv8 s i
 have hst:=fun i=>@Qzc s i
 (repeat' first|refine gA fun _=>?_|apply fkI<;>intro hb<;>try simp only[ew]at hb|simp only[go_sem,simprocAttr, *])
 refine lpI {ι:=Nat,rs:=[(7,37)],mods:=[(4,fun i=> .one (.d (.v (.int .i64 ((dgV (s.data.toList.take i) (0,0)).1:Nat))))),(5,fun i=> .one (.d (.v (.int .i64 ((dgV (s.data.toList.take i) (0,0)).2:Nat))))),(6,fun i=> .one (.d (.v (.int .i64 i))))],boxes:=[],arrs:=[],ok:=fun i=>i≤s.size∧i≤11,mu:=fun i=>s.size-i} rfl 0 ⟨Nat.zero_le _,Nat.zero_le _⟩ ?_ fun i hi=>?_
 ·have e1:dgV [] (0,0)=(0,0):=rfl
  clear hD hst;(repeat' first|refine gA fun _=>?_|apply fkI<;>intro hb<;>try simp only[ew,e1,List.take_zero]at hb|simp only[go_sem,simprocAttr, *,e1,List.take_zero])
  all_goals first|rfl|skip
 ·dsimp only at i hi
  obtain⟨hi1,hi2⟩:=hi
  by_cases h5:i<s.size∧i<11
  ·obtain⟨h6,h7⟩:=h5
   have hst:=hst i h6
   have hDi:=hD i hi2
   clear hD;have eB:=@QmY s i
   have e9:decide (((i:Nat):Int)<11)=true:=decide_eq_true (by omega)
   generalize s.data.toList.getD i 0=b at hst eB;have hb:=b.toNat_lt
   unfold Qmj at hst;generalize hI:dgV (s.data.toList.take i) (0,0)=I at hst hDi;obtain⟨n,k⟩:=I;generalize hB:QfW s i=B at eB;dsimp only at hDi hst
   by_cases c1:B≥48∧B≤57
   ·have d1:decide (B≥48)=true:=decide_eq_true c1.1
    have d2:decide (B≤57)=true:=decide_eq_true c1.2
    have d3:=@Qxo (B-48) (by omega) (by omega)
    have hS:dgV (s.data.toList.take (i+1)) (0,0)=(n*10+(b.toNat-48),k+1):=by
     rw[hst,if_pos];simp only[Bool.and_eq_true,decide_eq_true_eq]
     omega
    clear hst;have d4:((n:Nat):Int)*10+(B-48)=((n*10+(b.toNat-48):Nat):Int):=by omega
    have d5:((k:Nat):Int)+1=((k+1:Nat):Int):=by omega
    clear eB;(repeat' first|refine gA fun _=>?_|apply fkI<;>intro hb<;>try simp only[ew,hI,hB,e9,d1,d2,d3,d4]at hb|simp only[go_sem,simprocAttr, *,hI,hB,e9,d1,d2,d3,d4])
    refine lpN (i+1) ⟨by omega,by omega⟩ (by dsimp only;omega) ?_
    (repeat' first|refine gA fun _=>?_|apply fkI<;>intro hb<;>try simp only[ew,hS,d4,d5]at hb|simp only[go_sem,simprocAttr, *,hS,d4,d5])
   ·have hS:dgV (s.data.toList.take (i+1)) (0,0)=(n,k):=by
     rw[hst,if_neg];simp only[Bool.and_eq_true,decide_eq_true_eq]
     omega
    clear hst
    by_cases d1:B≥48
    ·have d1':decide (B≥48)=true:=decide_eq_true d1
     have d2':decide (B≤57)=false:=decide_eq_false (by omega)
     clear eB c1 d1;(repeat' first|refine gA fun _=>?_|apply fkI<;>intro hb<;>try simp only[ew,hI,hB,e9,d1',d2']at hb|simp only[go_sem,simprocAttr, *,hI,hB,e9,d1',d2'])
     refine lpN (i+1) ⟨by omega,by omega⟩ (by dsimp only;omega) ?_
     (repeat' first|refine gA fun _=>?_|apply fkI<;>intro hb<;>try simp only[ew,hS]at hb|simp only[go_sem,simprocAttr, *,hS])
    ·have d1':decide (B≥48)=false:=decide_eq_false d1
     clear eB c1 d1;(repeat' first|refine gA fun _=>?_|apply fkI<;>intro hb<;>try simp only[ew,hI,hB,e9,d1']at hb|simp only[go_sem,simprocAttr, *,hI,hB,e9,d1'])
     refine lpN (i+1) ⟨by omega,by omega⟩ (by dsimp only;omega) ?_
     (repeat' first|refine gA fun _=>?_|apply fkI<;>intro hb<;>try simp only[ew,hS]at hb|simp only[go_sem,simprocAttr, *,hS])
  ·have hDe:dgV (s.data.toList.take i) (0,0)=dgV (s.data.toList.take 11) (0,0):=by
    by_cases hs:i<s.size
    ·rw[show i=11 by omega]
    ·rw[List.take_of_length_le (by rw[bsz];omega),List.take_of_length_le (by rw[bsz];omega)]
   have hDi:=hD 11 (Nat.le_refl _)
   clear hD hst;have hlt:=@Qo1 (s.data.toList.take 11) (0,0) (by decide)
   have hn:=@QCf s
   have hnw:=@QpN (spN s.data.toList) s
   have hsp:spF s.data.toList=if 9<(dgV (s.data.toList.take 11) (0,0)).2∨10<s.size∨Lib.itoa (spN s.data.toList)≠s.data.toList then(0,false)else(spN s.data.toList,true):=by
    unfold spF;rw[bsz]
   have e10:(i<s.size∧decide (((i:Nat):Int)<11)=false)∨¬i<s.size:=by
    by_cases hs:i<s.size
    ·exact .inl ⟨hs,decide_eq_false (by omega)⟩
    ·exact .inr hs
   generalize spN s.data.toList=N at hn hnw hsp;generalize spF s.data.toList=F at hsp ⊢;generalize hI:dgV (s.data.toList.take 11) (0,0)=I at hDe hDi hlt hn hsp;obtain⟨n,k⟩:=I;dsimp only at hDi hlt hn hsp;clear h5 hi1 hi2;have hk9:k≤9→n<1000000000:=fun h9=>by
    have h4:(10:Nat)^k≤10^9:=Nat.pow_le_pow_right (by decide) h9
    have h5:(10:Nat)^9=1000000000:=by decide
    omega
   clear hlt;have hN:(decide ((s.size:Int)>0)=true∧(QfW s 0==45)=true∧N=0-(n:Int))∨(decide ((s.size:Int)>0)=true∧(QfW s 0==45)=false∧N=(n:Int))∨(decide ((s.size:Int)>0)=false∧N=(n:Int)):=by
    cases q1:decide ((s.size:Int)>0)
    ·rw[q1]at hn;exact .inr (.inr ⟨rfl,hn⟩)
    ·cases q2:(QfW s 0==45)
     ·rw[q1,q2]at hn;exact .inr (.inl ⟨rfl,rfl,hn⟩)
     ·rw[q1,q2]at hn;exact .inl ⟨rfl,rfl,hn⟩
   clear hn
   by_cases k9:k≤9
   ·have k9':decide (((k:Nat):Int)>9)=false:=decide_eq_false (by omega)
    have hn9:=hk9 k9
    clear hk9
    by_cases s10:s.size≤10
    ·have s10':decide ((s.size:Int)>10)=false:=decide_eq_false (by omega)
     cases hq:decide (Lib.itoa N=s.data.toList)
     ·rw[hq]at hnw
      rw[if_pos (.inr (.inr (of_decide_eq_false hq)))]at hsp;subst hsp;clear hq k9 s10;rcases hN with⟨q1,q2,q3⟩|⟨q1,q2,q3⟩|⟨q1,q3⟩<;>(subst q3;rcases e10 with⟨e11,e12⟩|e11)
      all_goals
       (repeat' first|refine gA fun _=>?_|apply fkI<;>intro hb<;>try simp only[ew,hDe]at hb|simp only[go_sem,simprocAttr, *,hDe])
       all_goals first|rfl|skip
     ·rw[hq]at hnw
      rw[if_neg (by simp only[not_or,Nat.not_lt,Decidable.not_not];exact⟨k9,s10,of_decide_eq_true hq⟩)]at hsp
      subst hsp;clear hq k9 s10;rcases hN with⟨q1,q2,q3⟩|⟨q1,q2,q3⟩|⟨q1,q3⟩<;>(subst q3;rcases e10 with⟨e11,e12⟩|e11)
      all_goals
       (repeat' first|refine gA fun _=>?_|apply fkI<;>intro hb<;>try simp only[ew,hDe]at hb|simp only[go_sem,simprocAttr, *,hDe])
       all_goals first|rfl|skip
    ·have s10':decide ((s.size:Int)>10)=true:=decide_eq_true (by omega)
     rw[if_pos (.inr (.inl (by omega)))]at hsp
     subst hsp;clear hnw k9 s10;rcases hN with⟨q1,q2,q3⟩|⟨q1,q2,q3⟩|⟨q1,q3⟩<;>(subst q3;rcases e10 with⟨e11,e12⟩|e11)
     all_goals
      (repeat' first|refine gA fun _=>?_|apply fkI<;>intro hb<;>try simp only[ew,hDe]at hb|simp only[go_sem,simprocAttr, *,hDe])
      all_goals first|rfl|skip
   ·have k9':decide (((k:Nat):Int)>9)=true:=decide_eq_true (by omega)
    rw[if_pos (.inl (by omega))]at hsp
    subst hsp;clear hnw k9 hk9;rcases hN with⟨q1,q2,q3⟩|⟨q1,q2,q3⟩|⟨q1,q3⟩<;>(subst q3;rcases e10 with⟨e11,e12⟩|e11)
    all_goals
     (repeat' first|refine gA fun _=>?_|apply fkI<;>intro hb<;>try simp only[ew,hDe]at hb|simp only[go_sem,simprocAttr, *,hDe])
     all_goals first|rfl|skip
theorem Qad{w:ByteArray}:(w.toList==ByteArray.toList ⟨#[110,117,108,108]⟩)=isW w QkU:=rfl
theorem QxW:Qa E0 74 cL3:=by
 refine QE (E:=E0) (T:=mkT Tryz.prog [(119,cPI)] false (fun _=>false) true (fun _=>false)) (Qd (E:=E0) (.cons QB2 .nil)) (fn:=Tryz.f74) Tryz.func74 (by kernel_rfl) rfl Qc (by kernel_rfl) rfl ?_
 intro args p rs ms hr;unfold cL3 at hr;dsimp only at hr;split at hr;rotate_left
 ·cases hr
 rename_i s;cases hr;refine⟨rfl,rfl,nLe rfl,?_⟩
 have hm:=mxE;intro h1 bs;unfold l3V;cases hw:isW s QkU
 ·rw[if_neg (by decide)]
  generalize hF:spF s.data.toList=F;cases h2:F.2
  ·simp only[Bool.not_false,Bool.true_or,if_true]
   (repeat' first|refine gA fun _=>?_|apply fkI<;>intro hb<;>try simp only[ew,Qad,hF,hw,h2]at hb|simp only[go_sem,simprocAttr, *,Qad,hF,hw,h2])
   all_goals first|rfl|skip
  ·cases h3:decide (F.1<0)
   ·simp only[Bool.not_true,Bool.or_self,Bool.false_eq_true,if_false]
    (repeat' first|refine gA fun _=>?_|apply fkI<;>intro hb<;>try simp only[ew,Qad,hF,hw,h2,h3]at hb|simp only[go_sem,simprocAttr, *,Qad,hF,hw,h2,h3])
    all_goals first|rfl|skip
   ·simp only[Bool.or_true,if_true]
    (repeat' first|refine gA fun _=>?_|apply fkI<;>intro hb<;>try simp only[ew,Qad,hF,hw,h2,h3]at hb|simp only[go_sem,simprocAttr, *,Qad,hF,hw,h2,h3])
    all_goals first|rfl|skip
 ·rw[if_pos rfl]
  (repeat' first|refine gA fun _=>?_|apply fkI<;>intro hb<;>try simp only[ew,Qad,hw]at hb|simp only[go_sem,simprocAttr, *,Qad,hw])
  all_goals first|rfl|skip
end Go.Own
