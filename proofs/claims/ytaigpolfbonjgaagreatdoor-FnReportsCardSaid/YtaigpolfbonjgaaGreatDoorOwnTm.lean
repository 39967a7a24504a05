/-
  Numbers as text. Conditions: as each theorem states them.
-/
import Derived.Test.YtaigpolfbonjgaaGreatDoorOwnTl
import Derived.Lib.ItoaNum
import Derived.Shelf.Strconv.Itoa3
import Derived.Test.YtaigpolfbonjgaaGreatDoorProg
set_option linter.unusedSimpArgs false
set_option linter.unusedVariables false
set_option maxRecDepth 20000
set_option maxHeartbeats 2000000
namespace Go.Own
open Go Go.Proofs
attribute [local go_sem] unB_bL bL_length bL_snoc
def numL (n : Int) : List Int := if n = 0 then [48] else dgF 20 n []
def numB (n : Int) : ByteArray := baOf (numL n)
theorem numB_zero : numB 0 = baOf [48] := rfl
theorem numB_pos {n : Int} (h : ¬ n = 0) : numB n = baOf (dgF 20 n []) := by unfold numB numL; rw [if_neg h]
def byL (l : List UInt8) : List Int := l.map fun b => ((b.toNat : Nat) : Int)
theorem dg_dec : ∀ (j : Nat) (n : Nat) (acc : List Int), 0 < n → n < 10 ^ j → dgF j (n : Nat) acc = byL (Lib.decDigits n) ++ acc := by
 intro j
 induction j with
 | zero => intro n acc h1 h2; simp at h2; omega
 | succ j ih =>
  intro n acc h1 h2
  rw [dgF_go (by omega)]
  have e1 : ((n : Nat) : Int) / 10 = ((n / 10 : Nat) : Int) := by omega
  have e2 : ((n : Nat) : Int) % 10 = ((n % 10 : Nat) : Int) := by omega
  rw [e1, e2]
  have hb : ∀ d : Nat, d < 10 → byL [UInt8.ofNat (48 + d)] = [48 + ((d : Nat) : Int)] := by
   intro d hd
   have : d = 0 ∨ d = 1 ∨ d = 2 ∨ d = 3 ∨ d = 4 ∨ d = 5 ∨ d = 6 ∨ d = 7 ∨ d = 8 ∨ d = 9 := by omega
   rcases this with rfl | rfl | rfl | rfl | rfl | rfl | rfl | rfl | rfl | rfl <;> rfl
  by_cases h : n < 10
  ·have e3 : n / 10 = 0 := by omega
   have e4 : n % 10 = n := by omega
   rw [e3, e4]
   rw [show ((0 : Nat) : Int) = 0 from rfl, dgF_zero, Lib.decDigits_one h, hb n h]
   rfl
  ·rw [ih (n / 10) _ (by omega) (by rw [Nat.pow_succ] at h2; omega)]
   have eD : Lib.decDigits n = Lib.decDigits (n / 10) ++ [UInt8.ofNat (48 + n % 10)] := by rw [Lib.decDigits.eq_def n, dif_neg h]
   rw [eD]
   unfold byL at *
   rw [List.map_append, hb (n % 10) (by omega), List.append_assoc]
   rfl
theorem byL_push : ∀ (l : List UInt8), (baOf (byL l)).data.toList = l := by
 intro l
 have : ∀ (l : List UInt8) (r : ByteArray), ((byL l).foldl (fun r n => r.push (UInt8.ofNat n.toNat)) r).data.toList = r.data.toList ++ l := by
  intro l
  induction l with
  | nil => intro r; simp [byL]
  | cons b l ih =>
   intro r
   simp only [byL, List.map_cons, List.foldl_cons] at ih ⊢
   rw [ih]
   have : (r.push (UInt8.ofNat ((b.toNat : Nat) : Int).toNat)).data.toList = r.data.toList ++ [b] := by
    simp [ByteArray.push]
   rw [this, List.append_assoc]; rfl
 have h := this l ByteArray.empty
 unfold baOf
 rw [h]; rfl
theorem numB_itoa {n : Int} (h0 : 0 ≤ n) (h1 : n ≤ 9223372036854775807) : numB n = ⟨(Lib.itoa n).toArray⟩ := by
  obtain ⟨k, rfl⟩ := Int.eq_ofNat_of_zero_le h0
  have e : Lib.itoa ((k : Nat) : Int) = Lib.decDigits k := by unfold Lib.itoa; rw [if_neg (by omega), Int.toNat_natCast]
  rw [e]
  have key : numL ((k : Nat) : Int) = byL (Lib.decDigits k) := by
    unfold numL
    by_cases hk : k = 0
    · subst hk; rw [Lib.decDigits_one (by omega)]; rfl
    · rw [if_neg (by omega), dg_dec 20 k [] (by omega) (by have : (9223372036854775807 : Nat) < 10 ^ 20 := by decide
                                                           omega), List.append_nil]
  unfold numB
  rw [key]
  have := byL_push (Lib.decDigits k)
  cases hx : baOf (byL (Lib.decDigits k)) with
  | mk d =>
    rw [hx] at this
    congr 1
    apply Array.toList_inj.1
    simpa using this
def cNum : Contract := ⟨[], false, fun
 | [.one (.v (.int .i64 n))] => some (0 ≤ n ∧ n ≤ 999999, [⟨false, [.d (.v (.string (numB n)))]⟩], [])
 | _ => none⟩
theorem numS_ok : ContractOK E0 46 cNum := by
 refine cWpc (E := E0) (T := mkT Tryz.prog [] false (fun _ => false) true (fun _ => false)) (mkT_ok (E := E0) .nil) (fn := Tryz.f46) Tryz.func46 (by kernel_rfl) rfl mixedT (by kernel_rfl) rfl ?_
 intro args p rs ms hr
 unfold cNum at hr
 dsimp only at hr
 split at hr
 rotate_left
 ·cases hr
 rename_i k
 simp only [Option.some.injEq, Prod.mk.injEq] at hr
 obtain ⟨rfl, rfl, rfl⟩ := hr
 refine ⟨rfl, rfl, Nat.le_of_ble_eq_true rfl, ?_⟩
 have hm : maxLen = 9223372036854775807 := rfl
 rintro ⟨h1, h2⟩ bs
 by_cases hk : k = 0
 ·subst hk
  rw [numB_zero]
  have eb : (⟨#[48]⟩ : ByteArray) = baOf [48] := rfl
  (repeat' first | refine gA fun _ => ?_ | refine fkI ?_ ?_ <;> intro hb <;> try simp only [ew, eb] at hb | simp only [go_sem, simprocAttr, *, cNum, Tryz.results46, eb])
  all_goals first | rfl | skip
 ·rw [numB_pos hk]
  have hk2 : (k == 0) = false := beq_eq_false_iff_ne.2 hk
  have hk3 : decide (k < 0) = false := decide_eq_false (by omega)
  have e0 : (⟨#[]⟩ : ByteArray) = baOf [] := rfl
  generalize hF : dgF 20 k [] = F
  (repeat' first | refine gA fun _ => ?_ | refine fkI ?_ ?_ <;> intro hb <;> try simp only [ew, hk2, hk3, e0] at hb | simp only [go_sem, simprocAttr, *, cNum, Tryz.results46, hk2, hk3, e0])
  refine lpI { ι := Nat × Int × List Int, rs := [(5, 6), (10, 27)], mods := [(0, fun i => .one (.d (.v (.int .i64 i.2.1)))), (3, fun i => .one (.d (.v (.string (baOf i.2.2)))))], boxes := [], arrs := [], ok := fun i => ((0 ≤ i.2.1 ∧ i.2.1 ≤ 1125899906842625) ∧ i.2.1 < 10 ^ i.1) ∧ (i.1 ≤ 20 ∧ i.2.2.length + i.1 ≤ 20) ∧ dgF i.1 i.2.1 i.2.2 = F, mu := fun i => i.1 } rfl (20, k, []) ⟨⟨⟨h1, by dsimp only; omega⟩, by dsimp only; omega⟩, ⟨by dsimp only; omega, by simp⟩, hF⟩ ?_ ?_
  ·(repeat' first | refine gA fun _ => ?_ | refine fkI ?_ ?_ <;> intro hb <;> try simp only [ew, e0] at hb | simp only [go_sem, simprocAttr, *, cNum, Tryz.results46, e0])
   all_goals first | rfl | skip
  ·rintro ⟨j, m, acc⟩ hi
   dsimp only at hi
   obtain ⟨⟨⟨m0, mK⟩, mj⟩, ⟨j20, ja⟩, ht⟩ := hi
   clear hF hk2 hk3
   by_cases h5 : m > 0
   ·have h5' : (m != 0) = true := by rw [bne_iff_ne]; omega
    cases j with
    | zero => exfalso; simp at mj; omega
    | succ j =>
     rw [dgF_go (by omega)] at ht
     rw [p10s] at mj
     have mj2 : m / 10 < 10 ^ j := by
      generalize (10 : Int) ^ j = p at mj
      omega
     have e1 : m.tmod 10 = m % 10 := Int.tmod_eq_emod_of_nonneg m0
     have e2 : m.tdiv 10 = m / 10 := Int.tdiv_eq_ediv_of_nonneg m0
     have r0 : 0 ≤ m % 10 := by omega
     have r10 : m % 10 < 10 := by omega
     have r1 : decide (m % 10 < 0) = false := decide_eq_false (by omega)
     have ew := wrap48 r0 r10
     have eb : baOf [48 + m % 10] ++ baOf acc = baOf ((48 + m % 10) :: acc) := by rw [baOf_append]; rfl
     (repeat' first | refine gA fun _ => ?_ | refine fkI ?_ ?_ <;> intro hb <;> try simp only [ew, e1, e2, r1, ew, eb, baOf_size, h5'] at hb | simp only [go_sem, simprocAttr, *, cNum, Tryz.results46, e1, e2, r1, ew, eb, baOf_size, h5'])
     refine lpN (j, m / 10, (48 + m % 10) :: acc) ⟨⟨⟨by dsimp only; omega, by dsimp only; omega⟩, mj2⟩, ⟨by dsimp only; omega, by dsimp only [List.length_cons]; omega⟩, ht⟩ (by dsimp only; omega) ?_
     clear ht
     (repeat' first | refine gA fun _ => ?_ | refine fkI ?_ ?_ <;> intro hb <;> try simp only [ew, e1, e2, ew, eb] at hb | simp only [go_sem, simprocAttr, *, cNum, Tryz.results46, e1, e2, ew, eb])
   ·have h5' : (m != 0) = false := by rw [bne_eq_false_iff_eq]; omega
    have em : m = 0 := by omega
    subst em
    rw [dgF_zero] at ht
    subst ht
    (repeat' first | refine gA fun _ => ?_ | refine fkI ?_ ?_ <;> intro hb <;> try simp only [ew, h5', baOf_size] at hb | simp only [go_sem, simprocAttr, *, cNum, Tryz.results46, h5', baOf_size])
    all_goals first | rfl | skip
end Go.Own
/-
  DERIVED: THE SHELF's CONTRACTS AT THIS DUMP, IN PLAIN WORDS (tools/lay-plain.mjs out of 'TryShelf.lean', which tools/lay-shelf.mjs wrote): THE SAME DECLARATIONS UNDER THE SAME NAMES: 'import', 'namespace', 'open', 'def', 'theorem' AND NOTHING ELSE: no command of the shelf's: FOR A HAND-IN. Each laying: the table of numbers ('.._ren') and one theorem, a field a fact of the dump's own or the kernel's comparison; each contract: ONE APPLICATION.
-/
namespace Go.Proofs
open Go.Shelf
def Tryz.layIM_ren : Go.Shelf.Ren := ⟨fun | 171 => 83 | 243 => 124 | 246 => 152 | 283 => 161 | 284 => 162 | 285 => 163 | 286 => 164 | 129 => 178 | 317 => 179 | 318 => 180 | 319 => 181 | 320 => 182 | 337 => 192 | 338 => 193 | n => n, fun | 3 => 3 | 9 => 9 | 2 => 2 | 4 => 4 | 171 => 145 | 0 => 0 | 53 => 146 | 37 => 22 | 5 => 5 | 173 => 149 | 212 => 164 | 51 => 162 | 20 => 20 | 213 => 165 | 46 => 134 | 232 => 180 | 233 => 181 | n => n, fun | 17 => 1 | 18 => 2 | 19 => 3 | n => n⟩
theorem Tryz.layIM : Go.Proofs.LaysM.n171 Tryz.prog Tryz.layIM_ren := {
 mixed := by kernel_rfl
 f129 := Tryz.func178.trans (congrArg some (by kernel_rfl))
 f171 := Tryz.func83.trans (congrArg some (by kernel_rfl))
 f243 := Tryz.func124.trans (congrArg some (by kernel_rfl))
 f246 := Tryz.func152.trans (congrArg some (by kernel_rfl))
 f283 := Tryz.func161.trans (congrArg some (by kernel_rfl))
 f284 := Tryz.func162.trans (congrArg some (by kernel_rfl))
 f285 := Tryz.func163.trans (congrArg some (by kernel_rfl))
 f286 := Tryz.func164.trans (congrArg some (by kernel_rfl))
 f317 := Tryz.func179.trans (congrArg some (by kernel_rfl))
 f318 := Tryz.func180.trans (congrArg some (by kernel_rfl))
 f319 := Tryz.func181.trans (congrArg some (by kernel_rfl))
 f320 := Tryz.func182.trans (congrArg some (by kernel_rfl))
 f337 := Tryz.func192.trans (congrArg some (by kernel_rfl))
 f338 := Tryz.func193.trans (congrArg some (by kernel_rfl))
 t0 := Tryz.underlying0
 a0 := Tryz.isAgg0
 z0 := Tryz.sizeOf0
 v0 := Tryz.zeroValue0
 t2 := Tryz.underlying2
 a2 := Tryz.isAgg2
 z2 := Tryz.sizeOf2
 v2 := Tryz.zeroValue2
 t3 := Tryz.underlying3
 a3 := Tryz.isAgg3
 z3 := Tryz.sizeOf3
 v3 := Tryz.zeroValue3
 t4 := Tryz.underlying4
 a4 := Tryz.isAgg4
 z4 := Tryz.sizeOf4
 v4 := Tryz.zeroValue4
 t5 := Tryz.underlying5
 a5 := Tryz.isAgg5
 z5 := Tryz.sizeOf5
 v5 := Tryz.zeroValue5
 t9 := Tryz.underlying9
 a9 := Tryz.isAgg9
 z9 := Tryz.sizeOf9
 v9 := Tryz.zeroValue9
 t20 := Tryz.underlying20
 a20 := Tryz.isAgg20
 z20 := Tryz.sizeOf20
 v20 := Tryz.zeroValue20
 t37 := Tryz.underlying22
 a37 := Tryz.isAgg22
 z37 := Tryz.sizeOf22
 v37 := Tryz.zeroValue22
 t46 := Tryz.underlying134
 a46 := Tryz.isAgg134
 z46 := Tryz.sizeOf134
 v46 := Tryz.zeroValue134
 t51 := Tryz.underlying162
 a51 := Tryz.isAgg162
 z51 := Tryz.sizeOf162
 v51 := Tryz.zeroValue162
 t53 := Tryz.underlying146
 a53 := Tryz.isAgg146
 z53 := Tryz.sizeOf146
 v53 := Tryz.zeroValue146
 t171 := Tryz.underlying145
 a171 := Tryz.isAgg145
 z171 := Tryz.sizeOf145
 v171 := Tryz.zeroValue145
 t173 := Tryz.underlying149
 a173 := Tryz.isAgg149
 z173 := Tryz.sizeOf149
 v173 := Tryz.zeroValue149
 t212 := Tryz.underlying164
 a212 := Tryz.isAgg164
 z212 := Tryz.sizeOf164
 v212 := Tryz.zeroValue164
 t213 := Tryz.underlying165
 a213 := Tryz.isAgg165
 z213 := Tryz.sizeOf165
 t232 := Tryz.underlying180
 a232 := Tryz.isAgg180
 z232 := Tryz.sizeOf180
 v232 := Tryz.zeroValue180
 t233 := Tryz.underlying181
 a233 := Tryz.isAgg181
 z233 := Tryz.sizeOf181
 v233 := Tryz.zeroValue181
 g17 := by kernel_rfl
 g18 := by kernel_rfl
 g19 := by kernel_rfl
 i0 := by kernel_rfl
 i2 := by kernel_rfl
 i3 := by kernel_rfl
 i4 := by kernel_rfl
 i5 := by kernel_rfl
 i9 := by kernel_rfl
 i20 := by kernel_rfl
 i37 := by kernel_rfl
 i46 := by kernel_rfl
 i51 := by kernel_rfl
 i53 := by kernel_rfl
 i171 := by kernel_rfl
 i173 := by kernel_rfl
 i212 := by kernel_rfl
 i232 := by kernel_rfl
 i233 := by kernel_rfl
 m17 := by kernel_rfl
 m18 := by kernel_rfl
 m19 := by kernel_rfl }
end Go.Proofs
/-
  Numbers as text: the library's own. Conditions: as each theorem states them.
-/
namespace Go.Own
open Go Go.Proofs
theorem tabIs_at {w : World} {name : String} {g : Nat} (hg : Tryz.prog.globalNamed name = some g) (hj : ∃ e fz, w.heap[g]? = some (.cells tabC e fz)) : Lib.TabIs Tryz.prog w name .u64 Lib.pow10Tab := by
 obtain ⟨e, fz, hj⟩ := hj
 unfold Lib.TabIs World.var?
 rw [hg]
 show (match w.heap[g]? with | some (.cells cs _ _) => some cs | _ => none) = _
 rw [hj]
 rfl
theorem itoa_ok : ContractOK E0 83 cNum := by
 refine ⟨⟨Tryz.f83, Tryz.func83, by kernel_rfl, rfl⟩, ?_⟩
 intro args p rs ms hr hp w vals F Ms ha hnd hF hJ hN hMN
 unfold cNum at hr
 dsimp only at hr
 split at hr
 ·rename_i n
  simp only [Option.some.injEq, Prod.mk.injEq] at hr
  obtain ⟨rfl, rfl, rfl⟩ := hr
  obtain ⟨h0, h1⟩ := hp
  cases ha with
  | cons h1' h2 =>
   cases h2
   cases h1' with
   | one r =>
    cases r with
    | v hv hr2 =>
     cases hr2
     refine (Any.strconv_Itoa Tryz.layIM n (by omega) (by omega) w (tabIs_at (by kernel_rfl) hJ)).mono ?_
     rintro e w' ⟨rfl, k, os, rfl⟩
     have he : numB n = ⟨(Lib.itoa n).toArray⟩ := numB_itoa h0 (by omega)
     refine ⟨_, rfl, rfl, rfl, rfl, by simp [Go.Sort.grow], fun b hb _ => by show (w.heap ++ os)[b]? = _; rw [Array.getElem?_append_left hb], [], [], [], [], ?_, .nil, by simp, by simp, by simp, by simp, by simp⟩
     rw [he]
     exact (by simpa using RCsOK.d (.v rfl .nil) .nil : RCsOK (Go.Sort.grow (w.drewN k) os).heap [.d (.v (.string ⟨(Lib.itoa n).toArray⟩))] [.string ⟨(Lib.itoa n).toArray⟩] [] [])
 ·cases hr
theorem numI_ok : ContractOK E0 41 cNum := by
 refine cWpc (E := E0) (T := mkT Tryz.prog [(83, cNum)] false (fun _ => false) true (fun _ => false)) (mkT_ok (E := E0) (.cons itoa_ok .nil)) (fn := Tryz.f41) Tryz.func41 (by kernel_rfl) rfl mixedT (by kernel_rfl) rfl ?_
 intro args p rs ms hr
 unfold cNum at hr
 dsimp only at hr
 split at hr
 rotate_left
 ·cases hr
 rename_i k
 simp only [Option.some.injEq, Prod.mk.injEq] at hr
 obtain ⟨rfl, rfl, rfl⟩ := hr
 refine ⟨rfl, rfl, Nat.le_of_ble_eq_true rfl, ?_⟩
 have hm : maxLen = 9223372036854775807 := rfl
 rintro ⟨h1, h2⟩ bs
 (repeat' first | refine gA fun _ => ?_ | refine fkI ?_ ?_ <;> intro hb <;> try simp only [ew] at hb | simp only [go_sem, simprocAttr, *, cNum, Tryz.results41])
 all_goals first | rfl | skip
end Go.Own
