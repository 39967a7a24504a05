/- Contracts. Conditions: as stated. -/
import Derived.Shelf.Strings.Split
import Derived.Shelf.Strings.Cut
import Derived.Shelf.Strconv.AtoiAll
import Derived.Test.YtnmkpepdacbfaaaGreatDoorRp14
import Derived.WalkKit
import Derived.BigCall
import Derived.BigGuard
import Derived.Below
import Derived.Lib.AtoiErrMem
import Derived.Lib.AtoiAllCases
set_option linter.all false
set_option maxRecDepth 100000
set_option maxHeartbeats 4000000
namespace Go.Proofs
open Go.Shelf
def Tryz.lays146_ren:Go.Shelf.Ren:=⟨fun|146=>20|221=>51|268=>88|138=>89|143=>90|195=>134|197=>135|218=>136|219=>137|260=>180|217=>181|225=>182|224=>183|267=>184|266=>211|314=>212|n=>n,fun|9=>9|31=>30|3=>3|4=>4|0=>0|105=>142|21=>21|5=>5|46=>126|119=>170|139=>173|138=>172|146=>175|51=>174|n=>n,fun|1=>0|3=>1|4=>2|n=>n⟩
theorem Tryz.lays146:Go.Proofs.Lays.n146 Tryz.prog Tryz.lays146_ren:={
 mixed:=Own.kR
 f138:=Tryz.func89.trans (congrArg some Own.kR)
 f143:=Tryz.func90.trans (congrArg some Own.kR)
 f146:=Tryz.func20.trans (congrArg some Own.kR)
 f195:=Tryz.func134.trans (congrArg some Own.kR)
 f197:=Tryz.func135.trans (congrArg some Own.kR)
 f217:=Tryz.func181.trans (congrArg some Own.kR)
 f218:=Tryz.func136.trans (congrArg some Own.kR)
 f219:=Tryz.func137.trans (congrArg some Own.kR)
 f221:=Tryz.func51.trans (congrArg some Own.kR)
 f224:=Tryz.func183.trans (congrArg some Own.kR)
 f225:=Tryz.func182.trans (congrArg some Own.kR)
 f260:=Tryz.func180.trans (congrArg some Own.kR)
 f266:=Tryz.func211.trans (congrArg some Own.kR)
 f267:=Tryz.func184.trans (congrArg some Own.kR)
 f268:=Tryz.func88.trans (congrArg some Own.kR)
 f314:=Tryz.func212.trans (congrArg some Own.kR)
 t0:=Tryz.underlying0
 a0:=Tryz.isAgg0
 z0:=Tryz.sizeOf0
 v0:=Tryz.zeroValue0
 t3:=Tryz.underlying3
 a3:=Tryz.isAgg3
 z3:=Tryz.sizeOf3
 v3:=Tryz.zeroValue3
 t4:=Tryz.underlying4
 a4:=Tryz.isAgg4
 z4:=Tryz.sizeOf4
 v4:=Tryz.zeroValue4
 t5:=Tryz.underlying5
 a5:=Tryz.isAgg5
 z5:=Tryz.sizeOf5
 v5:=Tryz.zeroValue5
 t9:=Tryz.underlying9
 a9:=Tryz.isAgg9
 z9:=Tryz.sizeOf9
 v9:=Tryz.zeroValue9
 t21:=Tryz.underlying21
 a21:=Tryz.isAgg21
 z21:=Tryz.sizeOf21
 v21:=Tryz.zeroValue21
 t31:=Tryz.underlying30
 a31:=Tryz.isAgg30
 z31:=Tryz.sizeOf30
 v31:=Tryz.zeroValue30
 t46:=Tryz.underlying126
 a46:=Tryz.isAgg126
 z46:=Tryz.sizeOf126
 v46:=Tryz.zeroValue126
 t51:=Tryz.underlying174
 a51:=Tryz.isAgg174
 z51:=Tryz.sizeOf174
 v51:=Tryz.zeroValue174
 t105:=Tryz.underlying142
 a105:=Tryz.isAgg142
 z105:=Tryz.sizeOf142
 v105:=Tryz.zeroValue142
 t119:=Tryz.underlying170
 a119:=Tryz.isAgg170
 z119:=Tryz.sizeOf170
 t138:=Tryz.underlying172
 a138:=Tryz.isAgg172
 z138:=Tryz.sizeOf172
 v138:=Tryz.zeroValue172
 t139:=Tryz.underlying173
 a139:=Tryz.isAgg173
 z139:=Tryz.sizeOf173
 v139:=Tryz.zeroValue173
 t146:=Tryz.underlying175
 a146:=Tryz.isAgg175
 z146:=Tryz.sizeOf175
 v146:=Tryz.zeroValue175
 g1:=Own.kR
 g3:=Own.kR
 g4:=by kernel_rfl}
def Tryz.lays145_ren:Go.Shelf.Ren:=⟨fun|145=>104|220=>159|219=>137|217=>181|225=>182|224=>183|267=>184|266=>211|314=>212|n=>n,fun|9=>9|4=>4|59=>120|3=>3|5=>5|46=>126|146=>175|51=>174|n=>n,fun|1=>0|n=>n⟩
theorem Tryz.lays145:Go.Proofs.Lays.n145 Tryz.prog Tryz.lays145_ren:={
 mixed:=Own.kR
 f145:=Tryz.func104.trans (congrArg some Own.kR)
 f217:=Tryz.func181.trans (congrArg some Own.kR)
 f219:=Tryz.func137.trans (congrArg some Own.kR)
 f220:=Tryz.func159.trans (congrArg some Own.kR)
 f224:=Tryz.func183.trans (congrArg some Own.kR)
 f225:=Tryz.func182.trans (congrArg some Own.kR)
 f266:=Tryz.func211.trans (congrArg some Own.kR)
 f267:=Tryz.func184.trans (congrArg some Own.kR)
 f314:=Tryz.func212.trans (congrArg some Own.kR)
 t3:=Tryz.underlying3
 a3:=Tryz.isAgg3
 z3:=Tryz.sizeOf3
 v3:=Tryz.zeroValue3
 t4:=Tryz.underlying4
 a4:=Tryz.isAgg4
 z4:=Tryz.sizeOf4
 v4:=Tryz.zeroValue4
 t5:=Tryz.underlying5
 a5:=Tryz.isAgg5
 z5:=Tryz.sizeOf5
 v5:=Tryz.zeroValue5
 t9:=Tryz.underlying9
 a9:=Tryz.isAgg9
 z9:=Tryz.sizeOf9
 v9:=Tryz.zeroValue9
 t46:=Tryz.underlying126
 a46:=Tryz.isAgg126
 z46:=Tryz.sizeOf126
 v46:=Tryz.zeroValue126
 t51:=Tryz.underlying174
 a51:=Tryz.isAgg174
 z51:=Tryz.sizeOf174
 v51:=Tryz.zeroValue174
 t59:=Tryz.underlying120
 a59:=Tryz.isAgg120
 z59:=Tryz.sizeOf120
 v59:=Tryz.zeroValue120
 t146:=Tryz.underlying175
 a146:=Tryz.isAgg175
 z146:=Tryz.sizeOf175
 v146:=Tryz.zeroValue175
 g1:=by kernel_rfl}
def Tryz.layAt_ren:Go.Shelf.Ren:=⟨fun|172=>98|244=>150|245=>151|247=>192|279=>193|280=>194|281=>195|282=>196|287=>215|316=>216|171=>152|205=>217|321=>239|322=>240|243=>197|246=>218|283=>241|284=>242|285=>243|286=>244|129=>238|317=>270|318=>271|319=>272|320=>273|337=>282|338=>283|n=>n,fun|9=>9|3=>3|75=>117|76=>118|4=>4|5=>5|167=>158|37=>24|0=>0|85=>159|2=>2|168=>161|53=>179|175=>180|46=>126|210=>183|127=>165|145=>206|143=>204|21=>21|171=>207|173=>209|212=>229|51=>174|20=>20|213=>230|232=>239|233=>240|80=>153|n=>n,fun|15=>3|16=>4|17=>5|18=>6|19=>7|n=>n⟩
theorem Tryz.layAt:Go.Proofs.LaysC.n172 Tryz.prog Tryz.layAt_ren:={
 mixed:=Own.kR
 f129:=Tryz.func238.trans (congrArg some Own.kR)
 f171:=Tryz.func152.trans (congrArg some Own.kR)
 f172:=Tryz.func98.trans (congrArg some Own.kR)
 f205:=Tryz.func217.trans (congrArg some Own.kR)
 f243:=Tryz.func197.trans (congrArg some Own.kR)
 f244:=Tryz.func150.trans (congrArg some Own.kR)
 f245:=Tryz.func151.trans (congrArg some Own.kR)
 f246:=Tryz.func218.trans (congrArg some Own.kR)
 f247:=Tryz.func192.trans (congrArg some Own.kR)
 f279:=Tryz.func193.trans (congrArg some Own.kR)
 f280:=Tryz.func194.trans (congrArg some Own.kR)
 f281:=Tryz.func195.trans (congrArg some Own.kR)
 f282:=Tryz.func196.trans (congrArg some Own.kR)
 f283:=Tryz.func241.trans (congrArg some Own.kR)
 f284:=Tryz.func242.trans (congrArg some Own.kR)
 f285:=Tryz.func243.trans (congrArg some Own.kR)
 f286:=Tryz.func244.trans (congrArg some Own.kR)
 f287:=Tryz.func215.trans (congrArg some Own.kR)
 f316:=Tryz.func216.trans (congrArg some Own.kR)
 f317:=Tryz.func270.trans (congrArg some Own.kR)
 f318:=Tryz.func271.trans (congrArg some Own.kR)
 f319:=Tryz.func272.trans (congrArg some Own.kR)
 f320:=Tryz.func273.trans (congrArg some Own.kR)
 f321:=Tryz.func239.trans (congrArg some Own.kR)
 f322:=Tryz.func240.trans (congrArg some Own.kR)
 f337:=Tryz.func282.trans (congrArg some Own.kR)
 f338:=Tryz.func283.trans (congrArg some Own.kR)
 t0:=Tryz.underlying0
 a0:=Tryz.isAgg0
 z0:=Tryz.sizeOf0
 v0:=Tryz.zeroValue0
 t2:=Tryz.underlying2
 a2:=Tryz.isAgg2
 z2:=Tryz.sizeOf2
 v2:=Tryz.zeroValue2
 t3:=Tryz.underlying3
 a3:=Tryz.isAgg3
 z3:=Tryz.sizeOf3
 v3:=Tryz.zeroValue3
 t4:=Tryz.underlying4
 a4:=Tryz.isAgg4
 z4:=Tryz.sizeOf4
 v4:=Tryz.zeroValue4
 t5:=Tryz.underlying5
 a5:=Tryz.isAgg5
 z5:=Tryz.sizeOf5
 v5:=Tryz.zeroValue5
 t9:=Tryz.underlying9
 a9:=Tryz.isAgg9
 z9:=Tryz.sizeOf9
 v9:=Tryz.zeroValue9
 t20:=Tryz.underlying20
 a20:=Tryz.isAgg20
 z20:=Tryz.sizeOf20
 v20:=Tryz.zeroValue20
 t21:=Tryz.underlying21
 a21:=Tryz.isAgg21
 z21:=Tryz.sizeOf21
 v21:=Tryz.zeroValue21
 t37:=Tryz.underlying24
 a37:=Tryz.isAgg24
 z37:=Tryz.sizeOf24
 v37:=Tryz.zeroValue24
 t46:=Tryz.underlying126
 a46:=Tryz.isAgg126
 z46:=Tryz.sizeOf126
 v46:=Tryz.zeroValue126
 t51:=Tryz.underlying174
 a51:=Tryz.isAgg174
 z51:=Tryz.sizeOf174
 v51:=Tryz.zeroValue174
 t53:=Tryz.underlying179
 a53:=Tryz.isAgg179
 z53:=Tryz.sizeOf179
 v53:=Tryz.zeroValue179
 t75:=Tryz.underlying117
 a75:=Tryz.isAgg117
 z75:=Tryz.sizeOf117
 v75:=Tryz.zeroValue117
 t76:=Tryz.underlying118
 a76:=Tryz.isAgg118
 z76:=Tryz.sizeOf118
 v76:=Tryz.zeroValue118
 t85:=Tryz.underlying159
 a85:=Tryz.isAgg159
 z85:=Tryz.sizeOf159
 v85:=Tryz.zeroValue159
 t127:=Tryz.underlying165
 a127:=Tryz.isAgg165
 z127:=Tryz.sizeOf165
 v127:=Tryz.zeroValue165
 t143:=Tryz.underlying204
 a143:=Tryz.isAgg204
 z143:=Tryz.sizeOf204
 v143:=Tryz.zeroValue204
 t145:=Tryz.underlying206
 a145:=Tryz.isAgg206
 z145:=Tryz.sizeOf206
 v145:=Tryz.zeroValue206
 t167:=Tryz.underlying158
 a167:=Tryz.isAgg158
 z167:=Tryz.sizeOf158
 v167:=Tryz.zeroValue158
 t168:=Tryz.underlying161
 a168:=Tryz.isAgg161
 z168:=Tryz.sizeOf161
 v168:=Tryz.zeroValue161
 t171:=Tryz.underlying207
 a171:=Tryz.isAgg207
 z171:=Tryz.sizeOf207
 v171:=Tryz.zeroValue207
 t173:=Tryz.underlying209
 a173:=Tryz.isAgg209
 z173:=Tryz.sizeOf209
 v173:=Tryz.zeroValue209
 t175:=Tryz.underlying180
 a175:=Tryz.isAgg180
 z175:=Tryz.sizeOf180
 v175:=Tryz.zeroValue180
 t210:=Tryz.underlying183
 a210:=Tryz.isAgg183
 z210:=Tryz.sizeOf183
 v210:=Tryz.zeroValue183
 t212:=Tryz.underlying229
 a212:=Tryz.isAgg229
 z212:=Tryz.sizeOf229
 v212:=Tryz.zeroValue229
 t213:=Tryz.underlying230
 a213:=Tryz.isAgg230
 z213:=Tryz.sizeOf230
 t232:=Tryz.underlying239
 a232:=Tryz.isAgg239
 z232:=Tryz.sizeOf239
 v232:=Tryz.zeroValue239
 t233:=Tryz.underlying240
 a233:=Tryz.isAgg240
 z233:=Tryz.sizeOf240
 v233:=Tryz.zeroValue240
 g15:=Own.kR
 g16:=Own.kR
 g17:=Own.kR
 g18:=Own.kR
 g19:=Own.kR
 t80:=Tryz.underlying153
 a80:=Tryz.isAgg153
 z80:=Tryz.sizeOf153
 v80:=Tryz.zeroValue153
 i0:=Own.kR
 i2:=Own.kR
 i3:=Own.kR
 i4:=Own.kR
 i5:=Own.kR
 i9:=Own.kR
 i20:=Own.kR
 i21:=Own.kR
 i37:=Own.kR
 i46:=Own.kR
 i51:=Own.kR
 i53:=Own.kR
 i75:=Own.kR
 i76:=Own.kR
 i80:=Own.kR
 i85:=Own.kR
 i127:=Own.kR
 i143:=Own.kR
 i145:=Own.kR
 i167:=Own.kR
 i168:=Own.kR
 i171:=Own.kR
 i173:=Own.kR
 i175:=Own.kR
 i210:=Own.kR
 i212:=Own.kR
 i232:=Own.kR
 i233:=Own.kR
 m15:=Own.kR
 m16:=Own.kR
 m17:=Own.kR
 m18:=Own.kR
 m19:=Own.kR
 c0:=Own.kR
 c2:=Own.kR
 c3:=Own.kR
 c4:=Own.kR
 c5:=Own.kR
 c9:=Own.kR
 c20:=Own.kR
 c21:=Own.kR
 c37:=Own.kR
 c46:=Own.kR
 c51:=Own.kR
 c53:=Own.kR
 c75:=Own.kR
 c76:=Own.kR
 c80:=Own.kR
 c85:=Own.kR
 c127:=Own.kR
 c143:=Own.kR
 c145:=Own.kR
 c167:=Own.kR
 c168:=Own.kR
 c171:=Own.kR
 c173:=Own.kR
 c175:=Own.kR
 c210:=Own.kR
 c212:=Own.kR
 c213:=Own.kR
 c232:=Own.kR
 c233:=by kernel_rfl}
end Go.Proofs
namespace Go.Own
open Go Go.Proofs Go.RowKit
theorem QvJ{h:Q6}{x:Value}(hx:x.oneCell'=true):QnW h ⟨false,[.d (.v x)]⟩ x [] []:=by
 have:QaN h [.d (.v x)] [x] ([]++[]) []:= .d (.v hx .nil) .nil
 simpa [QnW]using this
theorem QkL{w w':World}{F:List Nat}{rs:List RV}{v:Value}{al:Bool}(hb:Below w.heap.size w w')(hr:QbF w'.heap rs v [] []):Qd3 al w w' F [] [] rs [] v:=
 ⟨hb.os,hb.tape,hb.output,hb.size,fun b h _=>hb.block b h,[],[],[],[],hr,.nil,by simp,by simp,by simp,by simp,by simp,by simp⟩
def QEV(s sep:ByteArray):ByteArray:=⟨(Lib.cut s.data.toList sep.data.toList).1.toArray⟩
def QEW(s sep:ByteArray):ByteArray:=⟨(Lib.cut s.data.toList sep.data.toList).2.1.toArray⟩
def QEX(s sep:ByteArray):Bool:=(Lib.cut s.data.toList sep.data.toList).2.2
def QEG:Qb:=⟨[],false,fun
 | [.one (.v (.string s)),.one (.v (.string sep))]=>some (s.size<4294967281,[⟨false,[.d (.v (.string (QEV s sep)))]⟩,⟨false,[.d (.v (.string (QEW s sep)))]⟩,⟨false,[.d (.v (.bool (QEX s sep)))]⟩],[])
 | _=>none⟩
theorem QDo:Qa E0 104 QEG:=by
 refine⟨⟨Tryz.f104,Tryz.func104,by kernel_rfl,rfl⟩,?_⟩
 intro args p rs ms hr hp w vals F Ms ha hnd hF hJ hN hMN;unfold QEG at hr;dsimp only at hr;split at hr
 ·rename_i s sep
  cases hr;cases ha with
  | cons g1 g2=>
   cases g2 with
   | cons g2 g3=>
    cases g3
    cases g1 with
    | one r1=>
     cases r1 with
     | v _ r1=>
      cases r1
      cases g2 with
      | one r2=>
       cases r2 with
       | v _ r2=>
        cases r2
        obtain⟨m,hm⟩:=QFO hJ;refine(Any.strings_Cut Tryz.lays145 s sep m w hp hm).mono ?_
        rintro e w' ⟨rfl,n,rfl⟩;exact⟨_,rfl,QkL ⟨rfl,rfl,rfl,KP _,fun _ _=>rfl⟩ ⟨_,rfl,.cons (QvJ rfl) (.cons (QvJ rfl) (.cons (QvJ rfl) .nil))⟩⟩
 ·cases hr
theorem Qsa(n:Int)(h0: -9223372036854775808≤n)(h1:n≤9223372036854775807)(w:World)(htab:Lib.TabIs Tryz.prog w "internal/strconv.uint64pow10" .u64 Lib.pow10Tab):
  Calls Tryz.prog 99 #[.int .i64 n] w fun e w'=>e= .returned (.string (Qst n))∧Below w.heap.size w w':=by
 go_enter Tryz.func99,Tryz.ntmps99
 go_wp2_with (go_at_call 152;refine(Any.strconv_Itoa Tryz.layIM n h0 h1 _ htab).mono ?_;rintro e w' ⟨rfl,k,os,rfl⟩)
 go_ret
 refine⟨rfl,rfl,rfl,rfl,?_,fun b hb=>?_⟩
 ·simp[Go.Sort.grow]
 ·show(w.heap++os)[b]? =_
  rw[YE hb]
theorem Qyy(s:ByteArray)(hlim:s.size≤1073741824)(w:World)(hJ:E0.J w.heap)(hN:E0.N≤w.heap.size):
  Calls Tryz.prog 55 #[.string s] w fun e w'=>e= .returned (.tuple #[.int .i64 (spF s.data.toList).1,.bool (spF s.data.toList).2])∧Below w.heap.size w w':=by
 have hsp:=@QyL s.data.toList
 obtain⟨ev0,hv0,he0⟩:=QE0 hJ;obtain⟨ev1,hv1,he1⟩:=QEZ hJ;cases h:Lib.atoiAll s.data.toList with
 | ok v=>
  rw[h]at hsp;dsimp only at hsp;obtain⟨vb0,vb1⟩:=Lib.atoiAll_bounds h;have htab:∀W:World,Below w.heap.size w W→Lib.TabIs Tryz.prog W "internal/strconv.uint64pow10" .u64 Lib.pow10Tab:=fun W hW=>Qro kR (Low.tab (E0.st _ _ hJ fun b hb=>hW.block b (Nat.lt_of_lt_of_le hb hN)))
  generalize spF s.data.toList=F at hsp ⊢;have HS:Go.RowKit.Hid (F=if Lib.itoa v=s.data.toList∧ -999999999≤v∧v≤999999999 then(v,true)else(0,false)):=hsp
  clear hsp;go_enter Tryz.func55,Tryz.ntmps55
  go_wp2_with (go_at_call 98;refine(Any.strconv_Atoi_ok Tryz.layAt s (by omega) v h _).mono ?_)
  rintro e W1 ⟨rfl,hW⟩;have hb1:Below w.heap.size w W1:=by
   rcases hW with rfl|⟨t,rfl⟩
   ·exact Below.refl _ _
   ·exact Lib.bytesWorld_below _ _ _
  clear hW;go_wp2_with (go_at_call 99;refine(Qsa v vb0 vb1 _ ?_).mono ?_)
  ·exact htab _ hb1
  rintro e W2 ⟨rfl,hb2⟩;have hb3:Go.RowKit.Hid (Below w.heap.size w W2):=hb1.trans (hb2.mono hb1.size)
  clear hb1 hb2 htab h;have hnw:=@QqS v s
  by_cases h1:Lib.itoa v=s.data.toList
  ·rw[KZ h1]at hnw
   by_cases h2:v< -999999999
   ·have e:F=(0,false):=HS.out.trans (if_neg (by omega))
    subst e;clear h1 HS;go_wp2
    go_ret2
    exact⟨rfl,hb3⟩
   ·by_cases h3:v>999999999
    ·have e:F=(0,false):=HS.out.trans (if_neg (by omega))
     subst e;clear h1 HS;go_wp2
     go_ret2
     exact⟨rfl,hb3⟩
    ·have e:F=(v,true):=HS.out.trans (if_pos ⟨h1,by omega,by omega⟩)
     subst e;clear h1 HS;go_wp2
     go_ret2
     exact⟨rfl,hb3⟩
  ·rw[KW h1]at hnw
   have hnl:¬(Qst v).toList=s.toList:=fun q=>by rw[KU]at hnw;exact hnw q
   have e:F=(0,false):=HS.out.trans (if_neg fun q=>h1 q.1)
   subst e;clear h1 HS;go_wp2
   go_ret2
   exact⟨rfl,hb3⟩
 | range=>
  rw[h]at hsp;dsimp only at hsp;rw[hsp];clear hsp;go_enter Tryz.func55,Tryz.ntmps55
  go_wp2_with (go_at_call 98;refine(Any.strconv_Atoi_range Tryz.layAt s (by omega) h ev1 _ ?_ he1).mono ?_)
  ·exact hv1
  rintro e W1 ⟨N,rfl,-,-,hb⟩;go_wp2
  go_ret2
  exact⟨rfl,hb⟩
 | _=>
  rw[h]at hsp;dsimp only at hsp;rw[hsp];clear hsp;go_enter Tryz.func55,Tryz.ntmps55
  go_wp2_with (go_at_call 98;refine(Any.strconv_Atoi_syntax Tryz.layAt s (by omega) h ev0 _ ?_ he0).mono ?_)
  ·exact hv0
  rintro e W1 ⟨N,rfl,-,-,hb⟩;go_wp2
  go_ret2
  exact⟨rfl,hb⟩
theorem Qq2:Qa E0 55 cPI:=by
 refine⟨⟨Tryz.f55,Tryz.func55,by kernel_rfl,rfl⟩,?_⟩
 intro args p rs ms hr hp w vals F Ms ha hnd hF hJ hN hMN;unfold cPI at hr;dsimp only at hr;split at hr
 ·rename_i s
  cases hr;cases ha with
  | cons g1 g2=>
   cases g2
   cases g1 with
   | one r1=>
    cases r1 with
    | v _ r1=>
     cases r1
     refine(Qyy s hp w hJ hN).mono ?_
     rintro e w' ⟨rfl,hb⟩;exact⟨_,rfl,QkL hb ⟨_,rfl,.cons (QvJ rfl) (.cons (QvJ rfl) .nil)⟩⟩
 ·cases hr
end Go.Own
