/- Contracts. Conditions: as stated. -/
import Derived.Test.YtnmkpepdacbfaaaGreatDoorRp40
set_option linter.all false
set_option maxRecDepth 20000
set_option maxHeartbeats 4000000
namespace Go.Own
open Go Go.Proofs
attribute [local go_sem] cFA Tryz.results94 QfO Tryz.results44 cPI QfP Tryz.results119 Tryz.results74 Qa1 Qz QbD QbT
def cPA:Qb:=⟨[],false,fun
 | [.one (.v (.string s))]=>some (True,[⟨false,[.d (.v (.int .i64 (paF s).1))]⟩,⟨false,[.d (.v (.bool (paF s).2))]⟩],[])
 | _=>none⟩
attribute [local go_sem] cPA
theorem QzC:Qa E0 94 cPA:=by
 refine QG (E:=E0) (T:=mkT Tryz.prog [(146,cFA)] false (fun _=>false) true (fun _=>false)) (Qd (E:=E0) (.cons Qqd .nil)) (fn:=Tryz.f94) Tryz.func94 kR rfl Qc kR rfl ?_
 intro args p rs ms hr;unfold cPA at hr;dsimp only at hr;split at hr;rotate_left
 ·cases hr
 rename_i s;cases hr;refine⟨rfl,rfl,nLe rfl,?_⟩
 have hm:=mxE;intro h1 bs;generalize hF:paF s=F;(repeat' first|refine gA fun _=>?_|apply fkI<;>intro hb<;>try simp only[ew]at hb|simp only[go_sem,simprocAttr, *])
 refine lpI {ι:=Nat,rs:=[(2,4),(5,14)],mods:=[(4,fun x=> .one (.d (.v (.int .i64 x))))],boxes:=[],arrs:=[],ok:=fun x=>x≤32∧paN s (32-x) x=F,mu:=fun x=>32-x} rfl 0 ⟨KJ _,hF⟩ ?_ fun x hx=>?_
 ·exact gQ
 ·dsimp only at x hx
  obtain⟨hx,ht⟩:=hx;clear hF
  by_cases h5:x<32
  ·obtain⟨k,hk⟩:∃k,32-x=k+1:=⟨31-x,by omega⟩
   have hk2:32-(x+1)=k:=by omega
   have eD:decide (((x:Nat):Int)<32)=true:=KZ (by omega)
   rw[hk,paN]at ht;cases hq:((fa (x:Nat)).toList==s.toList)
   ·rw[hq,if_neg (by decide)]at ht
    clear hk;(repeat' first|refine gA fun _=>?_|apply fkI<;>intro hb<;>try simp only[ew,hq,eD]at hb|simp only[go_sem,simprocAttr, *,hq,eD])
    refine lpN (x+1) ⟨by omega,by rw[hk2];exact ht⟩ (by dsimp only;omega) ?_
    clear ht;exact gQ
   ·rw[hq,if_pos rfl]at ht
    rw[←ht];clear hk ht;(repeat' first|refine gA fun _=>?_|apply fkI<;>intro hb<;>try simp only[ew,hq]at hb|simp only[go_sem,simprocAttr, *,hq])
    all_goals first|rfl|skip
  ·have e5:x=32:=by omega
   subst e5;have ht2:F=(0,false):=ht.symm
   rw[ht2];clear ht;have eD:decide (((32:Nat):Int)<32)=false:=by decide
   (repeat' first|refine gA fun _=>?_|apply fkI<;>intro hb<;>try simp only[ew,eD]at hb|simp only[go_sem,simprocAttr, *,eD])
   all_goals first|rfl|skip
theorem QzD:Qa E0 44 cPA:=by
 refine QG (E:=E0) (T:=mkT Tryz.prog [(24,QfO),(23,cFA)] false (fun _=>false) true (fun _=>false)) (Qd (E:=E0) (.cons Qgs (.cons QmY .nil))) (fn:=Tryz.f44) Tryz.func44 kR rfl Qc kR rfl ?_
 intro args p rs ms hr;unfold cPA at hr;dsimp only at hr;split at hr;rotate_left
 ·cases hr
 rename_i s;cases hr;refine⟨rfl,rfl,nLe rfl,?_⟩
 have hm:=mxE;intro h1 bs;have ea:Qc7 5=31:=rfl
 generalize hF:paF s=F;(repeat' first|refine gA fun _=>?_|apply fkI<;>intro hb<;>try simp only[ew,ea]at hb|simp only[go_sem,simprocAttr, *,ea])
 refine lpI {ι:=Nat,rs:=[(2,4),(5,15)],mods:=[(4,fun x=> .one (.d (.v (.int .i64 x))))],boxes:=[],arrs:=[],ok:=fun x=>x≤32∧paN s (32-x) x=F,mu:=fun x=>32-x} rfl 0 ⟨KJ _,hF⟩ ?_ fun x hx=>?_
 ·(repeat' first|refine gA fun _=>?_|apply fkI<;>intro hb<;>try simp only[ew,ea]at hb|simp only[go_sem,simprocAttr, *,ea])
 ·dsimp only at x hx
  obtain⟨hx,ht⟩:=hx;clear hF
  by_cases h5:x<32
  ·obtain⟨k,hk⟩:∃k,32-x=k+1:=⟨31-x,by omega⟩
   have hk2:32-(x+1)=k:=by omega
   have eD:decide (((x:Nat):Int)≤31)=true:=KZ (by omega)
   rw[hk,paN]at ht;cases hq:((fa (x:Nat)).toList==s.toList)
   ·rw[hq,if_neg (by decide)]at ht
    clear hk;(repeat' first|refine gA fun _=>?_|apply fkI<;>intro hb<;>try simp only[ew,hq,ea,eD]at hb|simp only[go_sem,simprocAttr, *,hq,ea,eD])
    refine lpN (x+1) ⟨by omega,by rw[hk2];exact ht⟩ (by dsimp only;omega) ?_
    clear ht;exact gQ
   ·rw[hq,if_pos rfl]at ht
    rw[←ht];clear hk ht;(repeat' first|refine gA fun _=>?_|apply fkI<;>intro hb<;>try simp only[ew,hq,ea]at hb|simp only[go_sem,simprocAttr, *,hq,ea])
    all_goals first|rfl|skip
  ·have e5:x=32:=by omega
   subst e5;have ht2:F=(0,false):=ht.symm
   rw[ht2];clear ht;have eD:decide (((32:Nat):Int)≤31)=false:=by decide
   (repeat' first|refine gA fun _=>?_|apply fkI<;>intro hb<;>try simp only[ew,ea,eD]at hb|simp only[go_sem,simprocAttr, *,ea,eD])
   all_goals first|rfl|skip
def cL3:Qb:=⟨[],false,fun
 | [.one (.v (.string s))]=>some (s.size≤1073741824,[⟨false,[.d (.v (.int .i64 (l3V s)))]⟩],[])
 | _=>none⟩
attribute [local go_sem] cL3
def cPV:Qb:=⟨[],false,fun
 | [.one (.v (.string s))]=>some (s.size≤1073741824,[⟨false,[.d (.v (.int .i64 (pvF s).1))]⟩,⟨false,[.d (.v (.bool (pvF s).2))]⟩],[])
 | _=>none⟩
theorem QAU{s:ByteArray}{i:Nat}(h:i<s.size):dgV (s.data.toList.take (i+1)) (0,0)=if Qnd (s.data.toList.getD i 0)then((dgV (s.data.toList.take i) (0,0)).1*10+((s.data.toList.getD i 0).toNat-48),(dgV (s.data.toList.take i) (0,0)).2+1)else dgV (s.data.toList.take i) (0,0):=by
 rw[Qf (by rw[bsz];exact h) 0,QoG]
 rfl
theorem QDH{n:Int}:inR .u8 n=(0≤n∧n≤255):=rfl
attribute [local go_sem] QDH
theorem QxH{s:ByteArray}{i:Nat}(h:i≤11):(dgV (s.data.toList.take i) (0,0)).1<100000000000∧(dgV (s.data.toList.take i) (0,0)).2≤11:=by
 have h1:=@Qp3 (s.data.toList.take i) (0,0) (by decide)
 have h2:=(@Qug (s.data.toList.take i) (0,0)).2
 rw[KO]at h2;have h3:(dgV (s.data.toList.take i) (0,0)).2≤11:=by
  have:min i s.data.toList.length≤i:=Nat.min_le_left _ _
  dsimp only at h2;omega
 have h4:(10:Nat)^(dgV (s.data.toList.take i) (0,0)).2≤10^11:=K2 (by decide) h3
 have h5:(10:Nat)^11=100000000000:=by decide
 exact⟨by omega,h3⟩
theorem Qy0{b:Int}(h0:0≤b)(h1:b≤255):IntKind.wrap .i64 b=b:=QdR ⟨by show -9223372036854775808≤b;omega,by show b≤9223372036854775807;omega⟩
theorem Qgo{s:ByteArray}{i:Nat}:Qdr s i=((s.data.toList.getD i 0).toNat:Nat):=by
 unfold Qdr;rw[KD]
theorem QEk{s:ByteArray}:spN s.data.toList=if(decide ((s.size:Int)>0)&&(Qdr s 0==45))=true then 0-((dgV (s.data.toList.take 11) (0,0)).1:Int)else((dgV (s.data.toList.take 11) (0,0)).1:Int):=by
 unfold spN;have e:(s.data.toList.head? =some 45)↔(decide ((s.size:Int)>0)&&(Qdr s 0==45))=true:=by
  rw[Qgo,←bsz];cases s.data.toList with
  | nil=>simp
  | cons a r=>
   have:(0:Int)<((a::r).length:Nat):=by simp
   rw[KZ this,KY,Kh,List.head?_cons,KA,List.getD_cons_zero];constructor
   ·rintro rfl;rfl
   ·intro h
    rw[←UInt8.toNat_inj];have:(45:UInt8).toNat=45:=rfl
    omega
 by_cases h:s.data.toList.head? =some 45
 ·rw[if_pos h,if_pos (e.1 h)];omega
 ·rw[if_neg h,if_neg (fun h2=>h (e.2 h2))]
theorem QD5:Qa E0 119 cPI:=by
 refine QG (E:=E0) (T:=mkT Tryz.prog [(10,QfP)] false (fun _=>false) true (fun _=>false)) (Qd (E:=E0) (.cons QeL .nil)) (fn:=Tryz.f119) Tryz.func119 kR rfl Qc kR rfl ?_
 intro args p rs ms hr;unfold cPI at hr;dsimp only at hr;split at hr;rotate_left
 ·cases hr
 rename_i s;cases hr;refine⟨rfl,rfl,nLe rfl,?_⟩
 have hm:=mxE;intro h1 bs;have hD:=fun i=>@QxH s i
 have hst:=fun i=>@QAU s i
 (repeat' first|refine gA fun _=>?_|apply fkI<;>intro hb<;>try simp only[ew]at hb|simp only[go_sem,simprocAttr, *])
 refine lpI {ι:=Nat,rs:=[(7,37)],mods:=[(4,fun i=> .one (.d (.v (.int .i64 ((dgV (s.data.toList.take i) (0,0)).1:Nat))))),(5,fun i=> .one (.d (.v (.int .i64 ((dgV (s.data.toList.take i) (0,0)).2:Nat))))),(6,fun i=> .one (.d (.v (.int .i64 i))))],boxes:=[],arrs:=[],ok:=fun i=>i≤s.size∧i≤11,mu:=fun i=>s.size-i} rfl 0 ⟨KJ _,KJ _⟩ ?_ fun i hi=>?_
 ·have e1:dgV [] (0,0)=(0,0):=rfl
  clear hD hst;(repeat' first|refine gA fun _=>?_|apply fkI<;>intro hb<;>try simp only[ew,e1,Kw]at hb|simp only[go_sem,simprocAttr, *,e1,Kw])
  all_goals first|rfl|skip
 ·dsimp only at i hi
  obtain⟨hi1,hi2⟩:=hi
  by_cases h5:i<s.size∧i<11
  ·obtain⟨h6,h7⟩:=h5
   have hst:=hst i h6
   have hDi:=hD i hi2
   clear hD;have eB:=@Qgo s i
   have e9:decide (((i:Nat):Int)<11)=true:=KZ (by omega)
   generalize s.data.toList.getD i 0=b at hst eB;have hb:=b.toNat_lt
   unfold Qnd at hst;generalize hI:dgV (s.data.toList.take i) (0,0)=I at hst hDi;obtain⟨n,k⟩:=I;generalize hB:Qdr s i=B at eB;dsimp only at hDi hst
   by_cases c1:B≥48∧B≤57
   ·have d1:decide (B≥48)=true:=KZ c1.1
    have d2:decide (B≤57)=true:=KZ c1.2
    have d3:=@Qy0 (B-48) (by omega) (by omega)
    have hS:dgV (s.data.toList.take (i+1)) (0,0)=(n*10+(b.toNat-48),k+1):=by
     rw[hst,if_pos];simp only[KB,KK]
     omega
    clear hst;have d4:((n:Nat):Int)*10+(B-48)=((n*10+(b.toNat-48):Nat):Int):=by omega
    have d5:((k:Nat):Int)+1=((k+1:Nat):Int):=by omega
    clear eB;(repeat' first|refine gA fun _=>?_|apply fkI<;>intro hb<;>try simp only[ew,hI,hB,e9,d1,d2,d3,d4]at hb|simp only[go_sem,simprocAttr, *,hI,hB,e9,d1,d2,d3,d4])
    refine lpN (i+1) ⟨by omega,by omega⟩ (by dsimp only;omega) ?_
    (repeat' first|refine gA fun _=>?_|apply fkI<;>intro hb<;>try simp only[ew,hS,d4,d5]at hb|simp only[go_sem,simprocAttr, *,hS,d4,d5])
   ·have hS:dgV (s.data.toList.take (i+1)) (0,0)=(n,k):=by
     rw[hst,if_neg];simp only[KB,KK]
     omega
    clear hst
    by_cases d1:B≥48
    ·have d1':decide (B≥48)=true:=KZ d1
     have d2':decide (B≤57)=false:=KW (by omega)
     clear eB c1 d1;(repeat' first|refine gA fun _=>?_|apply fkI<;>intro hb<;>try simp only[ew,hI,hB,e9,d1',d2']at hb|simp only[go_sem,simprocAttr, *,hI,hB,e9,d1',d2'])
     refine lpN (i+1) ⟨by omega,by omega⟩ (by dsimp only;omega) ?_
     (repeat' first|refine gA fun _=>?_|apply fkI<;>intro hb<;>try simp only[ew,hS]at hb|simp only[go_sem,simprocAttr, *,hS])
    ·have d1':decide (B≥48)=false:=KW d1
     clear eB c1 d1;(repeat' first|refine gA fun _=>?_|apply fkI<;>intro hb<;>try simp only[ew,hI,hB,e9,d1']at hb|simp only[go_sem,simprocAttr, *,hI,hB,e9,d1'])
     refine lpN (i+1) ⟨by omega,by omega⟩ (by dsimp only;omega) ?_
     (repeat' first|refine gA fun _=>?_|apply fkI<;>intro hb<;>try simp only[ew,hS]at hb|simp only[go_sem,simprocAttr, *,hS])
  ·have hDe:dgV (s.data.toList.take i) (0,0)=dgV (s.data.toList.take 11) (0,0):=by
    by_cases hs:i<s.size
    ·rw[show i=11 by omega]
    ·rw[Kj (by rw[bsz];omega),Kj (by rw[bsz];omega)]
   have hDi:=hD 11 (KP _)
   clear hD hst;have hlt:=@Qp3 (s.data.toList.take 11) (0,0) (by decide)
   have hn:=@QEk s
   have hnw:=@QqS (spN s.data.toList) s
   have hsp:spF s.data.toList=if 9<(dgV (s.data.toList.take 11) (0,0)).2∨10<s.size∨Lib.itoa (spN s.data.toList)≠s.data.toList then(0,false)else(spN s.data.toList,true):=by
    unfold spF;rw[bsz]
   have e10:(i<s.size∧decide (((i:Nat):Int)<11)=false)∨¬i<s.size:=by
    by_cases hs:i<s.size
    ·exact .inl ⟨hs,KW (by omega)⟩
    ·exact .inr hs
   generalize spN s.data.toList=N at hn hnw hsp;generalize spF s.data.toList=F at hsp ⊢;generalize hI:dgV (s.data.toList.take 11) (0,0)=I at hDe hDi hlt hn hsp;obtain⟨n,k⟩:=I;dsimp only at hDi hlt hn hsp;clear h5 hi1 hi2;have hk9:k≤9→n<1000000000:=fun h9=>by
    have h4:(10:Nat)^k≤10^9:=K2 (by decide) h9
    have h5:(10:Nat)^9=1000000000:=by decide
    omega
   clear hlt;have hN:(decide ((s.size:Int)>0)=true∧(Qdr s 0==45)=true∧N=0-(n:Int))∨(decide ((s.size:Int)>0)=true∧(Qdr s 0==45)=false∧N=(n:Int))∨(decide ((s.size:Int)>0)=false∧N=(n:Int)):=by
    cases q1:decide ((s.size:Int)>0)
    ·rw[q1]at hn;exact .inr (.inr ⟨rfl,hn⟩)
    ·cases q2:(Qdr s 0==45)
     ·rw[q1,q2]at hn;exact .inr (.inl ⟨rfl,rfl,hn⟩)
     ·rw[q1,q2]at hn;exact .inl ⟨rfl,rfl,hn⟩
   clear hn
   by_cases k9:k≤9
   ·have k9':decide (((k:Nat):Int)>9)=false:=KW (by omega)
    have hn9:=hk9 k9
    clear hk9
    by_cases s10:s.size≤10
    ·have s10':decide ((s.size:Int)>10)=false:=KW (by omega)
     cases hq:decide (Lib.itoa N=s.data.toList)
     ·rw[hq]at hnw
      rw[if_pos (.inr (.inr (of_decide_eq_false hq)))]at hsp;subst hsp;clear hq k9 s10;rcases hN with⟨q1,q2,q3⟩|⟨q1,q2,q3⟩|⟨q1,q3⟩<;>(subst q3;rcases e10 with⟨e11,e12⟩|e11)
      all_goals
       (repeat' first|refine gA fun _=>?_|apply fkI<;>intro hb<;>try simp only[ew,hDe]at hb|simp only[go_sem,simprocAttr, *,hDe])
       all_goals first|rfl|skip
     ·rw[hq]at hnw
      rw[if_neg (by simp only[not_or,Nat.not_lt,Decidable.not_not];exact⟨k9,s10,of_decide_eq_true hq⟩)]at hsp
      subst hsp;clear hq k9 s10;rcases hN with⟨q1,q2,q3⟩|⟨q1,q2,q3⟩|⟨q1,q3⟩<;>(subst q3;rcases e10 with⟨e11,e12⟩|e11)
      all_goals
       (repeat' first|refine gA fun _=>?_|apply fkI<;>intro hb<;>try simp only[ew,hDe]at hb|simp only[go_sem,simprocAttr, *,hDe])
       all_goals first|rfl|skip
    ·have s10':decide ((s.size:Int)>10)=true:=KZ (by omega)
     rw[if_pos (.inr (.inl (by omega)))]at hsp
     subst hsp;clear hnw k9 s10;rcases hN with⟨q1,q2,q3⟩|⟨q1,q2,q3⟩|⟨q1,q3⟩<;>(subst q3;rcases e10 with⟨e11,e12⟩|e11)
     all_goals
      (repeat' first|refine gA fun _=>?_|apply fkI<;>intro hb<;>try simp only[ew,hDe]at hb|simp only[go_sem,simprocAttr, *,hDe])
      all_goals first|rfl|skip
   ·have k9':decide (((k:Nat):Int)>9)=true:=KZ (by omega)
    rw[if_pos (.inl (by omega))]at hsp
    subst hsp;clear hnw k9 hk9;rcases hN with⟨q1,q2,q3⟩|⟨q1,q2,q3⟩|⟨q1,q3⟩<;>(subst q3;rcases e10 with⟨e11,e12⟩|e11)
    all_goals
     (repeat' first|refine gA fun _=>?_|apply fkI<;>intro hb<;>try simp only[ew,hDe]at hb|simp only[go_sem,simprocAttr, *,hDe])
     all_goals first|rfl|skip
theorem Qah{w:ByteArray}:(w.toList==ByteArray.toList ⟨#[110,117,108,108]⟩)=isW w QjQ:=rfl
theorem Qzx:Qa E0 74 cL3:=by
 refine QG (E:=E0) (T:=mkT Tryz.prog [(119,cPI)] false (fun _=>false) true (fun _=>false)) (Qd (E:=E0) (.cons QD5 .nil)) (fn:=Tryz.f74) Tryz.func74 kR rfl Qc kR rfl ?_
 intro args p rs ms hr;unfold cL3 at hr;dsimp only at hr;split at hr;rotate_left
 ·cases hr
 rename_i s;cases hr;refine⟨rfl,rfl,nLe rfl,?_⟩
 have hm:=mxE;intro h1 bs;unfold l3V;cases hw:isW s QjQ
 ·rw[if_neg (by decide)]
  generalize hF:spF s.data.toList=F;cases h2:F.2
  ·simp only[YU,YC,if_true]
   (repeat' first|refine gA fun _=>?_|apply fkI<;>intro hb<;>try simp only[ew,Qah,hF,hw,h2]at hb|simp only[go_sem,simprocAttr, *,Qah,hF,hw,h2])
   all_goals first|rfl|skip
  ·cases h3:decide (F.1<0)
   ·simp only[YV,Bool.or_self,KX,if_false]
    (repeat' first|refine gA fun _=>?_|apply fkI<;>intro hb<;>try simp only[ew,Qah,hF,hw,h2,h3]at hb|simp only[go_sem,simprocAttr, *,Qah,hF,hw,h2,h3])
    all_goals first|rfl|skip
   ·simp only[Bool.or_true,if_true]
    (repeat' first|refine gA fun _=>?_|apply fkI<;>intro hb<;>try simp only[ew,Qah,hF,hw,h2,h3]at hb|simp only[go_sem,simprocAttr, *,Qah,hF,hw,h2,h3])
    all_goals first|rfl|skip
 ·rw[if_pos rfl]
  (repeat' first|refine gA fun _=>?_|apply fkI<;>intro hb<;>try simp only[ew,Qah,hw]at hb|simp only[go_sem,simprocAttr, *,Qah,hw])
  all_goals first|rfl|skip
end Go.Own
