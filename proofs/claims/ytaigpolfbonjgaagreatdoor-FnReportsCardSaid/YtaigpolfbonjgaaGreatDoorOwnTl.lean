/-
  DERIVED: THE SHELF's CONTRACTS AT THIS DUMP, IN PLAIN WORDS (tools/lay-plain.mjs out of 'TryShelf.lean', which tools/lay-shelf.mjs wrote): THE SAME DECLARATIONS UNDER THE SAME NAMES: 'import', 'namespace', 'open', 'def', 'theorem' AND NOTHING ELSE: no command of the shelf's: FOR A HAND-IN. Each laying: the table of numbers ('.._ren') and one theorem, a field a fact of the dump's own or the kernel's comparison; each contract: ONE APPLICATION.
-/
import Derived.Shelf.Strings.OnBuilder
import Derived.Test.YtaigpolfbonjgaaGreatDoorProg
import Derived.Test.YtaigpolfbonjgaaGreatDoorOwnY5
import Derived.Test.YtaigpolfbonjgaaGreatDoorOwnTb
import Derived.Test.YtaigpolfbonjgaaGreatDoorOwnTc
set_option linter.unusedSimpArgs false
set_option linter.unusedVariables false
set_option maxRecDepth 20000
set_option maxHeartbeats 2000000
namespace Go.Proofs
open Go.Shelf
def Tryz.lays156_ren : Go.Shelf.Ren := ⟨fun | 156 => 38 | 165 => 76 | 166 => 77 | 169 => 78 | 240 => 121 | 241 => 122 | 276 => 150 | 277 => 151 | n => n, fun | 31 => 37 | 9 => 9 | 3 => 3 | 4 => 4 | 0 => 0 | 20 => 20 | 72 => 92 | 76 => 96 | 70 => 90 | 37 => 22 | 75 => 95 | 127 => 123 | 164 => 135 | 5 => 5 | 80 => 98 | n => n, fun | n => n⟩
theorem Tryz.lays156 : Go.Proofs.Lays.n156 Tryz.prog Tryz.lays156_ren := {
 mixed := by kernel_rfl
 f156 := Tryz.func38.trans (congrArg some (by kernel_rfl))
 f165 := Tryz.func76.trans (congrArg some (by kernel_rfl))
 f166 := Tryz.func77.trans (congrArg some (by kernel_rfl))
 f169 := Tryz.func78.trans (congrArg some (by kernel_rfl))
 f240 := Tryz.func121.trans (congrArg some (by kernel_rfl))
 f241 := Tryz.func122.trans (congrArg some (by kernel_rfl))
 f276 := Tryz.func150.trans (congrArg some (by kernel_rfl))
 f277 := Tryz.func151.trans (congrArg some (by kernel_rfl))
 t0 := Tryz.underlying0
 a0 := Tryz.isAgg0
 z0 := Tryz.sizeOf0
 v0 := Tryz.zeroValue0
 t3 := Tryz.underlying3
 a3 := Tryz.isAgg3
 z3 := Tryz.sizeOf3
 v3 := Tryz.zeroValue3
 t4 := Tryz.underlying4
 a4 := Tryz.isAgg4
 z4 := Tryz.sizeOf4
 v4 := Tryz.zeroValue4
 t9 := Tryz.underlying9
 a9 := Tryz.isAgg9
 z9 := Tryz.sizeOf9
 v9 := Tryz.zeroValue9
 t20 := Tryz.underlying20
 a20 := Tryz.isAgg20
 z20 := Tryz.sizeOf20
 v20 := Tryz.zeroValue20
 t31 := Tryz.underlying37
 a31 := Tryz.isAgg37
 z31 := Tryz.sizeOf37
 v31 := Tryz.zeroValue37
 t37 := Tryz.underlying22
 a37 := Tryz.isAgg22
 z37 := Tryz.sizeOf22
 v37 := Tryz.zeroValue22
 t70 := Tryz.underlying90
 a70 := Tryz.isAgg90
 z70 := Tryz.sizeOf90
 v70 := Tryz.zeroValue90
 t72 := Tryz.underlying92
 a72 := Tryz.isAgg92
 z72 := Tryz.sizeOf92
 v72 := Tryz.zeroValue92
 t75 := Tryz.underlying95
 a75 := Tryz.isAgg95
 z75 := Tryz.sizeOf95
 v75 := Tryz.zeroValue95
 t76 := Tryz.underlying96
 a76 := Tryz.isAgg96
 z76 := Tryz.sizeOf96
 v76 := Tryz.zeroValue96
 t127 := Tryz.underlying123
 a127 := Tryz.isAgg123
 z127 := Tryz.sizeOf123
 v127 := Tryz.zeroValue123
 t164 := Tryz.underlying135
 a164 := Tryz.isAgg135
 z164 := Tryz.sizeOf135
 v164 := Tryz.zeroValue135 }
theorem Tryz.Builder_Extra_156 : Builder.Extra Tryz.prog Tryz.lays156_ren := {
 sizeBuilder := by kernel_rfl
 liesBuilder := by kernel_rfl
 t5 := Tryz.underlying5
 a5 := Tryz.isAgg5
 z5 := Tryz.sizeOf5
 v5 := Tryz.zeroValue5
 infoByte := by kernel_rfl
 cellsByte := by kernel_rfl
 sizeByte := by kernel_rfl
 neB5 := by decide }
open Go.RowKit in
theorem Tryz.strings_Join_none (a : Option Addr) (c : Nat) (sep : ByteArray) (w : World) :
  Calls Tryz.prog 38 #[.slice a 0 c, .string sep] w fun e w' => e = .returned (.string ⟨#[]⟩) ∧ w' = w := Any.strings_Join_none Tryz.lays156 Tryz.Builder_Extra_156 a c sep w
open Go.RowKit in
theorem Tryz.strings_Join (bk o c : Nat) (xs : List ByteArray) (sep : ByteArray) (w : World) (hcells : ∀ (j : Nat) x, xs[j]? = some x → w.cell? ⟨bk, o + j, none⟩ = some (.string x)) (hbk : bk < w.heap.size) (hN : xs.length ≤ 140737488355328) (hcap : xs.length ≤ c) (hlen : (Lib.join (xs.map (·.data.toList)) sep.data.toList).length ≤ 140737488355328) :
  Calls Tryz.prog 38 #[.slice (some ⟨bk, o, none⟩) xs.length c, .string sep] w fun e w' => e = .returned (.string ⟨(Lib.join (xs.map (·.data.toList)) sep.data.toList).toArray⟩) ∧ Below w.heap.size w w' := Any.strings_Join Tryz.lays156 Tryz.Builder_Extra_156 bk o c xs sep w hcells hbk hN hcap hlen
end Go.Proofs
namespace Go.Own
open Go Go.Proofs
attribute [local go_sem] unB_bL bL_length bL_snoc
attribute [local go_sem] unB_bL bL_length bL_snoc unT_tL tL_length tL_snoc wfL_tL
def jb (sep : ByteArray) (ss : List ByteArray) : ByteArray := ⟨(Lib.join (ss.map (·.data.toList)) sep.data.toList).toArray⟩
theorem jb_nil {sep : ByteArray} : jb sep [] = ⟨#[]⟩ := rfl
theorem jb_one {sep s : ByteArray} : jb sep [s] = s := ba_ext (show Lib.join [s.data.toList] sep.data.toList = s.data.toList from Lib.join_one _ _)
theorem joinTail_snoc (sep : List UInt8) (r : List (List UInt8)) (y : List UInt8) : Lib.joinTail sep (r ++ [y]) = Lib.joinTail sep r ++ (sep ++ y) := by
 unfold Lib.joinTail
 rw [List.map_append, List.flatten_append, List.map_cons, List.map_nil, List.flatten_cons, List.flatten_nil, List.append_nil]
theorem jb_list {sep : ByteArray} {ss : List ByteArray} : (jb sep ss).data.toList = Lib.join (ss.map (·.data.toList)) sep.data.toList := rfl
theorem jb_snoc {sep s : ByteArray} {ss : List ByteArray} (h : ss ≠ []) : jb sep (ss ++ [s]) = (jb sep ss ++ sep) ++ s := by
 cases ss with
 | nil => exact absurd rfl h
 | cons x r =>
  apply ba_ext
  rw [ba_app, ba_app, jb_list, jb_list, List.cons_append, List.map_cons, List.map_cons, Lib.join_cons, Lib.join_cons, List.map_append, List.map_cons, List.map_nil, joinTail_snoc]
  simp only [List.append_assoc]
theorem jb_size {sep : ByteArray} {B : Nat} : ∀ {ss : List ByteArray}, (∀ s ∈ ss, s.size ≤ B) → (jb sep ss).size ≤ ss.length * (B + sep.size)
 | [], _ => Nat.zero_le _
 | x :: r, h => by
  have e : (jb sep (x :: r)).size = x.size + (Lib.joinTail sep.data.toList (r.map (·.data.toList))).length := by
   simp only [jb, List.map_cons, Lib.join_cons, ByteArray.size, List.size_toArray, List.length_append, Array.length_toList]
  have t : ∀ r : List ByteArray, (∀ s ∈ r, s.size ≤ B) → (Lib.joinTail sep.data.toList (r.map (·.data.toList))).length ≤ r.length * (B + sep.size) := by
   intro r
   induction r with
   | nil => intro _; simp [Lib.joinTail]
   | cons y r ih =>
    intro h
    have h1 := h y (by simp)
    have h2 := ih fun s hs => h s (by simp [hs])
    simp only [Lib.joinTail, List.map_cons, List.flatten_cons, List.length_append, Array.length_toList] at h2 ⊢
    have e1 : sep.data.size = sep.size := rfl
    have e2 : y.data.size = y.size := rfl
    rw [e1, e2, List.length_cons, Nat.succ_mul]
    omega
  have h1 := h x (by simp)
  have h2 := t r fun s hs => h s (by simp [hs])
  rw [e, List.length_cons, Nat.succ_mul]
  omega
def cJoin : Contract := ⟨[], false, fun
 | [.one (.sl 1 l), .one (.v (.string sep))] => some (WfL l ∧ l.length ≤ 16777216 ∧ (jb sep (unT l)).size ≤ 140737488355328, [⟨false, [.d (.v (.string (jb sep (unT l))))]⟩], [])
 | _ => none⟩
theorem tL_cells {h : Heap} : ∀ {ss : List ByteArray} {vs : List Value} {G : List Nat}, Reps h (tL ss).flatten vs G → vs = ss.map Value.string
 | [], vs, G, r => by cases r; rfl
 | s :: ss, vs, G, r => by
  simp only [tL, List.map_cons, List.flatten_cons, List.cons_append, List.nil_append] at r
  cases r with
  | v _ r => rw [tL_cells r]; rfl
theorem join_ok : ContractOK E0 38 cJoin := by
 refine ⟨⟨Tryz.f38, Tryz.func38, by kernel_rfl, rfl⟩, ?_⟩
 intro args p rs ms hr hp w vals F Ms ha hnd hF hJ hN hMN
 unfold cJoin at hr
 dsimp only at hr
 split at hr
 ·rename_i l sep
  simp only [Option.some.injEq, Prod.mk.injEq] at hr
  obtain ⟨rfl, rfl, rfl⟩ := hr
  obtain ⟨hl, hlen, hsz⟩ := hp
  cases ha with
  | cons h1 h2 =>
   cases h2 with
   | cons h2 h3 =>
    cases h3
    cases h1 with
    | one r1 =>
     cases h2 with
     | one r2 =>
      cases r2 with
      | v _ r2 =>
       cases r2
       have fin : ∀ {e : Ending} {w' : World} {s : ByteArray}, e = .returned (.string s) → s = jb sep (unT l) → Go.RowKit.Below w.heap.size w w' → ∃ v, e = .returned v ∧ ∀ F' Ms', PostOK false w w' F' Ms' [] [⟨false, [.d (.v (.string (jb sep (unT l))))]⟩] [] v := fun {e w' s} he hs hb => by
        subst he hs
        refine ⟨_, rfl, fun F' Ms' => ⟨hb.os, hb.tape, hb.output, hb.size, fun b h1 _ => hb.block b h1, [], [], [], [], ?_, .nil, by simp, by simp, by simp, by simp, by simp⟩⟩
        exact (by simpa using RCsOK.d (.v rfl .nil) .nil : RCsOK w'.heap [.d (.v (.string (jb sep (unT l))))] [.string (jb sep (unT l))] [] [])
       rcases r1.sl_inv with ⟨a0, rfl, rfl, rfl⟩ | ⟨b, off, cap, c, e, fz, G, rfl, a1, a2, a3, a4, a5, a6, rfl⟩
       ·refine (Tryz.strings_Join_none a0 0 sep w).mono ?_
        rintro e w' ⟨he, rfl⟩
        obtain ⟨v, h1, h2⟩ := fin (s := ⟨#[]⟩) he rfl (Go.RowKit.Below.refl _ _)
        exact ⟨v, h1, h2 _ _⟩
       ·have hl2 := hl.1
        rw [hl2] at a6
        have hcs := tL_cells a6
        have e1 : (tL (unT l)).length = l.length := by rw [← hl2]
        have e2 : (unT l).length = l.length := by rw [← e1, tL_length]
        rw [e1, Nat.mul_one] at hcs
        have := Tryz.strings_Join b off cap (unT l) sep w (fun j x hx => by
         have hj : j < (unT l).length := (List.getElem?_eq_some_iff.1 hx).1
         have h3 : ((c.toList.drop off).take l.length)[j]? = some (.string x) := by rw [hcs, List.getElem?_map, hx]; rfl
         rw [List.getElem?_take_of_lt (by omega), List.getElem?_drop] at h3
         rw [cell_row rfl a1]
         simpa using h3) (Array.getElem?_eq_some_iff.1 a1).1 (by omega) (by omega) (by
          have : (Lib.join ((unT l).map (·.data.toList)) sep.data.toList).length = (jb sep (unT l)).size := by simp [jb, ByteArray.size]
          rw [this]; exact hsz)
        rw [e2] at this
        refine this.mono ?_
        rintro e w' ⟨he, hb⟩
        obtain ⟨v, h1, h2⟩ := fin he rfl hb
        exact ⟨v, h1, h2 _ _⟩
 ·cases hr
def slL (xs : List Int) : ByteArray := if xs = [] then ⟨#[110, 111, 116, 104, 105, 110, 103]⟩ else jb ⟨#[32]⟩ (xs.map fa)
def cSL : Contract := ⟨[], false, fun
 | [.one (.sl 1 l)] => some (WfI l ∧ l.length ≤ 1048576, [⟨false, [.d (.v (.string (slL (unI l))))]⟩], [])
 | _ => none⟩
theorem jfa_size {xs : List Int} : (jb ⟨#[32]⟩ (xs.map fa)).size ≤ xs.length * 6 := by
 have := jb_size (sep := ⟨#[32]⟩) (B := 5) (ss := xs.map fa) (fun s hs => by obtain ⟨x, _, rfl⟩ := List.mem_map.1 hs; exact fa_size)
 rw [List.length_map] at this
 exact this
theorem slI_ok : ContractOK E0 15 cSL := by
 refine cWpc (E := E0) (T := mkT Tryz.prog [(31, cFA), (38, cJoin)] false (fun _ => false) true (fun _ => false)) (mkT_ok (E := E0) (.cons faI_ok (.cons join_ok .nil))) (fn := Tryz.f15) Tryz.func15 (by kernel_rfl) rfl mixedT (by kernel_rfl) rfl ?_
 intro args p rs ms hr
 unfold cSL at hr
 dsimp only at hr
 split at hr
 rotate_left
 ·cases hr
 rename_i l
 simp only [Option.some.injEq, Prod.mk.injEq] at hr
 obtain ⟨rfl, rfl, rfl⟩ := hr
 refine ⟨rfl, rfl, Nat.le_of_ble_eq_true rfl, ?_⟩
 have hm : maxLen = 9223372036854775807 := rfl
 rintro ⟨h1, h2⟩ bs
 obtain ⟨xs, rfl, hx⟩ := h1.ex
 clear h1
 rw [iL_length] at h2
 rw [unI_iL]
 by_cases h0 : xs = []
 ·subst h0
  (repeat' first | refine gA fun _ => ?_ | refine fkI ?_ ?_ <;> intro hb <;> try simp only [ew] at hb | simp only [go_sem, simprocAttr, *, cSL, cFA, cJoin, Tryz.results15])
  all_goals first | rfl | (simp [iL] at *; done) | skip
 ·have e : slL xs = jb ⟨#[32]⟩ (xs.map fa) := by unfold slL; rw [if_neg h0]
  have e0 : ((xs.length : Int) == 0) = false := by
   have : xs.length ≠ 0 := fun h => h0 (List.eq_nil_of_length_eq_zero h)
   rw [beq_eq_false_iff_ne]; omega
  rw [e]
  clear e
  (repeat' first | refine gA fun _ => ?_ | refine fkI ?_ ?_ <;> intro hb <;> try simp only [ew] at hb | simp only [go_sem, simprocAttr, *, cSL, cFA, cJoin, Tryz.results15])
  refine lpI { ι := Nat, rs := [(5, 6), (13, 22)], mods := [(12, fun i => .one (.d (.v (.int .i64 i)))), (3, fun i => .one (.own 1 (tL ((xs.take i).map fa)) 1))], boxes := [], arrs := [], ok := fun i => i ≤ xs.length, mu := fun i => xs.length - i } rfl 0 (Nat.zero_le _) ?_ fun i hi => ?_
  ·(repeat' first | refine gA fun _ => ?_ | refine fkI ?_ ?_ <;> intro hb <;> try simp only [ew] at hb | simp only [go_sem, simprocAttr, *, cSL, cFA, cJoin, Tryz.results15])
   all_goals first | rfl | skip
  ·dsimp only at i hi
   have hsz := @jfa_size xs
   by_cases h5 : i < xs.length
   ·clear hsz
    (repeat' first | refine gA fun _ => ?_ | refine fkI ?_ ?_ <;> intro hb <;> try simp only [ew, List.length_map] at hb | simp only [go_sem, simprocAttr, *, cSL, cFA, cJoin, Tryz.results15, List.length_map])
    ·have e2 : (xs.take (i + 1)).map fa = (xs.take i).map fa ++ [fa (xs.getD i 0)] := by rw [take_succ_getD h5 0]; simp
     refine lpN (i + 1) (by dsimp only; omega) (by dsimp only; omega) ?_
     (repeat' first | refine gA fun _ => ?_ | refine fkI ?_ ?_ <;> intro hb <;> try simp only [ew, e2] at hb | simp only [go_sem, simprocAttr, *, cSL, cFA, cJoin, Tryz.results15, e2])
   ·have e5 : i = xs.length := by omega
    subst e5
    have e6 : xs.take xs.length = xs := List.take_length
    (repeat' first | refine gA fun _ => ?_ | refine fkI ?_ ?_ <;> intro hb <;> try simp only [ew, List.length_map, e6] at hb | simp only [go_sem, simprocAttr, *, cSL, cFA, cJoin, Tryz.results15, List.length_map, e6])
theorem jb_step {α : Type} {sep : ByteArray} {f : α → ByteArray} {xs : List α} {i : Nat} {d : α} (h : i < xs.length) :
  jb sep ((xs.take (i + 1)).map f) = (if i = 0 then jb sep ((xs.take i).map f) else jb sep ((xs.take i).map f) ++ sep) ++ f (xs.getD i d) := by
 rw [take_succ_getD h d, List.map_append, List.map_cons, List.map_nil]
 split
 ·subst_vars
  rw [List.take_zero, List.map_nil, List.nil_append, jb_one, jb_nil, empty_app]
 ·rw [jb_snoc]
  intro e
  rw [List.map_eq_nil_iff, List.take_eq_nil_iff] at e
  rcases e with e | e
  ·omega
  ·rw [e] at h; simp at h
theorem jfa_take {xs : List Int} {i : Nat} : (jb ⟨#[32]⟩ ((xs.take i).map fa)).size ≤ i * 6 := by
 have := @jfa_size (xs.take i)
 rw [List.length_take] at this
 have h2 : min i xs.length * 6 ≤ i * 6 := Nat.mul_le_mul_right _ (Nat.min_le_left _ _)
 omega
theorem slS_ok : ContractOK E0 16 cSL := by
 refine cWpc (E := E0) (T := mkT Tryz.prog [(34, cFA)] false (fun _ => false) true (fun _ => false)) (mkT_ok (E := E0) (.cons faS_ok .nil)) (fn := Tryz.f16) Tryz.func16 (by kernel_rfl) rfl mixedT (by kernel_rfl) rfl ?_
 intro args p rs ms hr
 unfold cSL at hr
 dsimp only at hr
 split at hr
 rotate_left
 ·cases hr
 rename_i l
 simp only [Option.some.injEq, Prod.mk.injEq] at hr
 obtain ⟨rfl, rfl, rfl⟩ := hr
 refine ⟨rfl, rfl, Nat.le_of_ble_eq_true rfl, ?_⟩
 have hm : maxLen = 9223372036854775807 := rfl
 rintro ⟨h1, h2⟩ bs
 obtain ⟨xs, rfl, hx⟩ := h1.ex
 clear h1
 rw [iL_length] at h2
 rw [unI_iL]
 (repeat' first | refine gA fun _ => ?_ | refine fkI ?_ ?_ <;> intro hb <;> try simp only [ew] at hb | simp only [go_sem, simprocAttr, *, cSL, cFA, Tryz.results16])
 refine lpI { ι := Nat, rs := [(5, 22)], mods := [(4, fun i => .one (.d (.v (.int .i64 i)))), (3, fun i => .one (.d (.v (.string (jb ⟨#[32]⟩ ((xs.take i).map fa))))))], boxes := [], arrs := [], ok := fun i => i ≤ xs.length, mu := fun i => xs.length - i } rfl 0 (Nat.zero_le _) ?_ fun i hi => ?_
 ·(repeat' first | refine gA fun _ => ?_ | refine fkI ?_ ?_ <;> intro hb <;> try simp only [ew] at hb | simp only [go_sem, simprocAttr, *, cSL, cFA, Tryz.results16])
  all_goals first | rfl | skip
 ·dsimp only at i hi
  have hsz := @jfa_take xs i
  have hf := @fa_size (xs.getD i 0)
  by_cases h5 : i < xs.length
  ·have hs := jb_step (sep := ⟨#[32]⟩) (f := fa) (d := 0) h5
   by_cases h0 : i = 0
   ·subst h0
    rw [if_pos rfl] at hs
    have e0 : decide ((0 : Int) > 0) = false := by decide
    have z0 : (jb ⟨#[32]⟩ []).size = 0 := rfl
    rw [List.take_zero, List.map_nil] at hs
    rw [Nat.zero_add] at hs
    clear hsz
    (repeat' first | refine gA fun _ => ?_ | refine fkI ?_ ?_ <;> intro hb <;> try simp only [ew, e0, sp_size, size_app, z0] at hb | simp only [go_sem, simprocAttr, *, cSL, cFA, Tryz.results16, e0, sp_size, size_app, z0])
    ·refine lpN 1 (by dsimp only; omega) (by dsimp only; omega) ?_
     clear hf
     (repeat' first | refine gA fun _ => ?_ | refine fkI ?_ ?_ <;> intro hb <;> try simp only [ew, hs] at hb | simp only [go_sem, simprocAttr, *, cSL, cFA, Tryz.results16, hs])
     all_goals first | omega | skip
    all_goals (exfalso; omega)
   ·rw [if_neg h0] at hs
    have e0 : decide ((i : Int) > 0) = true := decide_eq_true (by omega)
    (repeat' first | refine gA fun _ => ?_ | refine fkI ?_ ?_ <;> intro hb <;> try simp only [ew, e0, sp_size, size_app] at hb | simp only [go_sem, simprocAttr, *, cSL, cFA, Tryz.results16, e0, sp_size, size_app])
    ·refine lpN (i + 1) (by dsimp only; omega) (by dsimp only; omega) ?_
     clear hsz hf e0
     (repeat' first | refine gA fun _ => ?_ | refine fkI ?_ ?_ <;> intro hb <;> try simp only [ew, hs] at hb | simp only [go_sem, simprocAttr, *, cSL, cFA, Tryz.results16, hs])
    all_goals (exfalso; omega)
  ·have e5 : i = xs.length := by omega
   subst e5
   have e6 : xs.take xs.length = xs := List.take_length
   clear hsz hf
   (repeat' first | refine gA fun _ => ?_ | refine fkI ?_ ?_ <;> intro hb <;> try simp only [ew, e6] at hb | simp only [go_sem, simprocAttr, *, cSL, cFA, Tryz.results16, e6])
   ·have h0 : xs = [] := List.eq_nil_of_length_eq_zero (by omega)
    unfold slL; rw [if_pos h0]
   ·have h0 : ¬ xs = [] := fun e => ‹¬ (xs.length : Int) = 0› (by rw [e]; rfl)
    unfold slL; rw [if_neg h0]
theorem slL_size {xs : List Int} : (slL xs).size ≤ xs.length * 6 + 7 := by
 unfold slL
 split
 ·show 7 ≤ _; omega
 ·have := @jfa_size xs; omega
end Go.Own
namespace Go.Own
open Go Go.Proofs
attribute [local go_sem] unD_dL dL_length dL_get dL_set dL_inj wfD_dL scal2 pair_eta unT_tL tL_length tL_snoc wfL_tL
theorem fd_size {q : Int × Int} : (fd q).size ≤ 11 := by
 have s1 := @fa_size q.1
 have s2 := @fa_size (1 * 2 ^ q.2.toNat)
 unfold fd
 split
 ·rw [size_app, size_app, gt_size]; omega
 ·exact Nat.zero_le _
theorem jfd_size {xs : List (Int × Int)} : (jb ⟨#[32]⟩ (xs.map fd)).size ≤ xs.length * 12 := by
 have := jb_size (sep := ⟨#[32]⟩) (B := 11) (ss := xs.map fd) (fun s hs => by obtain ⟨x, _, rfl⟩ := List.mem_map.1 hs; exact fd_size)
 rw [List.length_map] at this
 exact this
theorem jfd_take {xs : List (Int × Int)} {i : Nat} : (jb ⟨#[32]⟩ ((xs.take i).map fd)).size ≤ i * 12 := by
 have := @jfd_size (xs.take i)
 rw [List.length_take] at this
 have h2 : min i xs.length * 12 ≤ i * 12 := Nat.mul_le_mul_right _ (Nat.min_le_left _ _)
 omega
def dlL (xs : List (Int × Int)) : ByteArray := if (jb ⟨#[32]⟩ (xs.map fd)).toList == ByteArray.toList ⟨#[]⟩ then ⟨#[110, 111, 110, 101]⟩ else jb ⟨#[32]⟩ (xs.map fd)
def cDL : Contract := ⟨[], false, fun
 | [.one (.sl 2 l)] => some (WfD l ∧ l.length ≤ 1048576, [⟨false, [.d (.v (.string (dlL (unD l))))]⟩], [])
 | _ => none⟩
theorem dlI_ok : ContractOK E0 13 cDL := by
 refine cWpc (E := E0) (T := mkT Tryz.prog [(32, cFD), (38, cJoin)] false (fun _ => false) true (fun _ => false)) (mkT_ok (E := E0) (.cons fdI_ok (.cons join_ok .nil))) (fn := Tryz.f13) Tryz.func13 (by kernel_rfl) rfl mixedT (by kernel_rfl) rfl ?_
 intro args p rs ms hr
 unfold cDL at hr
 dsimp only at hr
 split at hr
 rotate_left
 ·cases hr
 rename_i l
 simp only [Option.some.injEq, Prod.mk.injEq] at hr
 obtain ⟨rfl, rfl, rfl⟩ := hr
 refine ⟨rfl, rfl, Nat.le_of_ble_eq_true rfl, ?_⟩
 have hm : maxLen = 9223372036854775807 := rfl
 rintro ⟨h1, h2⟩ bs
 obtain ⟨xs, rfl, hx⟩ := h1.ex
 clear h1
 rw [dL_length] at h2
 rw [unD_dL]
 (repeat' first | refine gA fun _ => ?_ | refine fkI ?_ ?_ <;> intro hb <;> try simp only [ew] at hb | simp only [go_sem, simprocAttr, *, cDL, cFD, cJoin, Tryz.results13])
 refine lpI { ι := Nat, rs := [(5, 6), (11, 20)], mods := [(10, fun i => .one (.d (.v (.int .i64 i)))), (3, fun i => .one (.own 1 (tL ((xs.take i).map fd)) 1))], boxes := [], arrs := [], ok := fun i => i ≤ xs.length, mu := fun i => xs.length - i } rfl 0 (Nat.zero_le _) ?_ fun i hi => ?_
 ·(repeat' first | refine gA fun _ => ?_ | refine fkI ?_ ?_ <;> intro hb <;> try simp only [ew] at hb | simp only [go_sem, simprocAttr, *, cDL, cFD, cJoin, Tryz.results13])
  all_goals first | rfl | skip
 ·dsimp only at i hi
  have hsz := @jfd_size xs
  by_cases h5 : i < xs.length
  ·clear hsz
   (repeat' first | refine gA fun _ => ?_ | refine fkI ?_ ?_ <;> intro hb <;> try simp only [ew, List.length_map] at hb | simp only [go_sem, simprocAttr, *, cDL, cFD, cJoin, Tryz.results13, List.length_map])
   ·have e2 : (xs.take (i + 1)).map fd = (xs.take i).map fd ++ [fd (xs.getD i (0, 0))] := by rw [take_succ_getD h5 (0, 0)]; simp
    refine lpN (i + 1) (by dsimp only; omega) (by dsimp only; omega) ?_
    (repeat' first | refine gA fun _ => ?_ | refine fkI ?_ ?_ <;> intro hb <;> try simp only [ew, e2] at hb | simp only [go_sem, simprocAttr, *, cDL, cFD, cJoin, Tryz.results13, e2])
  ·have e5 : i = xs.length := by omega
   subst e5
   have e6 : xs.take xs.length = xs := List.take_length
   (repeat' first | refine gA fun _ => ?_ | refine fkI ?_ ?_ <;> intro hb <;> try simp only [ew, List.length_map, e6] at hb | simp only [go_sem, simprocAttr, *, cDL, cFD, cJoin, Tryz.results13, List.length_map, e6])
   ·have hq := ‹(jb ⟨#[32]⟩ (xs.map fd)).toList = ByteArray.toList ⟨#[]⟩›
    unfold dlL; rw [if_pos (beq_iff_eq.2 hq)]
   ·have hq := ‹¬(jb ⟨#[32]⟩ (xs.map fd)).toList = ByteArray.toList ⟨#[]⟩›
    unfold dlL; rw [if_neg (fun h => hq (beq_iff_eq.1 h))]
theorem dlS_ok : ContractOK E0 14 cDL := by
 refine cWpc (E := E0) (T := mkT Tryz.prog [(35, cFD)] false (fun _ => false) true (fun _ => false)) (mkT_ok (E := E0) (.cons fdS_ok .nil)) (fn := Tryz.f14) Tryz.func14 (by kernel_rfl) rfl mixedT (by kernel_rfl) rfl ?_
 intro args p rs ms hr
 unfold cDL at hr
 dsimp only at hr
 split at hr
 rotate_left
 ·cases hr
 rename_i l
 simp only [Option.some.injEq, Prod.mk.injEq] at hr
 obtain ⟨rfl, rfl, rfl⟩ := hr
 refine ⟨rfl, rfl, Nat.le_of_ble_eq_true rfl, ?_⟩
 have hm : maxLen = 9223372036854775807 := rfl
 rintro ⟨h1, h2⟩ bs
 obtain ⟨xs, rfl, hx⟩ := h1.ex
 clear h1
 rw [dL_length] at h2
 rw [unD_dL]
 (repeat' first | refine gA fun _ => ?_ | refine fkI ?_ ?_ <;> intro hb <;> try simp only [ew] at hb | simp only [go_sem, simprocAttr, *, cDL, cFD, Tryz.results14])
 refine lpI { ι := Nat, rs := [(5, 22)], mods := [(4, fun i => .one (.d (.v (.int .i64 i)))), (3, fun i => .one (.d (.v (.string (jb ⟨#[32]⟩ ((xs.take i).map fd))))))], boxes := [], arrs := [], ok := fun i => i ≤ xs.length, mu := fun i => xs.length - i } rfl 0 (Nat.zero_le _) ?_ fun i hi => ?_
 ·(repeat' first | refine gA fun _ => ?_ | refine fkI ?_ ?_ <;> intro hb <;> try simp only [ew] at hb | simp only [go_sem, simprocAttr, *, cDL, cFD, Tryz.results14])
  all_goals first | rfl | skip
 ·dsimp only at i hi
  have hsz := @jfd_take xs i
  have hf := @fd_size (xs.getD i (0, 0))
  by_cases h5 : i < xs.length
  ·have hs := jb_step (sep := ⟨#[32]⟩) (f := fd) (d := (0, 0)) h5
   by_cases h0 : i = 0
   ·subst h0
    rw [if_pos rfl] at hs
    have e0 : decide ((0 : Int) > 0) = false := by decide
    have z0 : (jb ⟨#[32]⟩ []).size = 0 := rfl
    rw [List.take_zero, List.map_nil] at hs
    rw [Nat.zero_add] at hs
    clear hsz
    (repeat' first | refine gA fun _ => ?_ | refine fkI ?_ ?_ <;> intro hb <;> try simp only [ew, e0, sp_size, size_app, z0] at hb | simp only [go_sem, simprocAttr, *, cDL, cFD, Tryz.results14, e0, sp_size, size_app, z0])
    ·refine lpN 1 (by dsimp only; omega) (by dsimp only; omega) ?_
     clear hf
     (repeat' first | refine gA fun _ => ?_ | refine fkI ?_ ?_ <;> intro hb <;> try simp only [ew, hs] at hb | simp only [go_sem, simprocAttr, *, cDL, cFD, Tryz.results14, hs])
     all_goals first | omega | skip
    all_goals (exfalso; omega)
   ·rw [if_neg h0] at hs
    have e0 : decide ((i : Int) > 0) = true := decide_eq_true (by omega)
    (repeat' first | refine gA fun _ => ?_ | refine fkI ?_ ?_ <;> intro hb <;> try simp only [ew, e0, sp_size, size_app] at hb | simp only [go_sem, simprocAttr, *, cDL, cFD, Tryz.results14, e0, sp_size, size_app])
    ·refine lpN (i + 1) (by dsimp only; omega) (by dsimp only; omega) ?_
     clear hsz hf e0
     (repeat' first | refine gA fun _ => ?_ | refine fkI ?_ ?_ <;> intro hb <;> try simp only [ew, hs] at hb | simp only [go_sem, simprocAttr, *, cDL, cFD, Tryz.results14, hs])
    all_goals (exfalso; omega)
  ·have e5 : i = xs.length := by omega
   subst e5
   have e6 : xs.take xs.length = xs := List.take_length
   clear hsz hf
   (repeat' first | refine gA fun _ => ?_ | refine fkI ?_ ?_ <;> intro hb <;> try simp only [ew, e6] at hb | simp only [go_sem, simprocAttr, *, cDL, cFD, Tryz.results14, e6])
   ·have hq := ‹(jb ⟨#[32]⟩ (xs.map fd)).toList = ByteArray.toList ⟨#[]⟩›
    unfold dlL; rw [if_pos (beq_iff_eq.2 hq)]
   ·have hq := ‹¬(jb ⟨#[32]⟩ (xs.map fd)).toList = ByteArray.toList ⟨#[]⟩›
    unfold dlL; rw [if_neg (fun h => hq (beq_iff_eq.1 h))]
end Go.Own
namespace Go.Own
open Go Go.Proofs
theorem tL_get {ss : List ByteArray} {i : Nat} (h : i < ss.length) : (tL ss).getD i [] = [D.v (.string (ss.getD i ⟨#[]⟩))] := by
 simp [tL, List.getD_eq_getElem?_getD, h]
theorem tL_set {ss : List ByteArray} {i : Nat} {s : ByteArray} : (tL ss).set i [D.v (.string s)] = tL (ss.set i s) := by
 simp [tL, List.map_set]
theorem tL_inj {xs ys : List ByteArray} : tL xs = tL ys ↔ xs = ys := by
 constructor
 ·intro h
  have := congrArg unT h
  simpa only [unT_tL] using this
 ·rintro rfl; rfl
theorem tL_scal {xs : List ByteArray} : (∀ e ∈ tL xs, ∀ x ∈ e, Scalar x) ↔ True := by
 refine ⟨fun _ => trivial, fun _ e he x hx => ?_⟩
 obtain ⟨n, _, rfl⟩ := List.mem_map.1 he
 simp at hx
 subst hx
 trivial
theorem WfL.ex {l : List (List D)} (h : WfL l) : ∃ xs, l = tL xs ∧ xs.length ≤ maxLen := ⟨unT l, h.1, by have := h.2; rw [h.1, tL_length] at this; exact this⟩
theorem ba_beq (a b : ByteArray) : (a == b) = decide (a = b) := by
 obtain ⟨x⟩ := a; obtain ⟨y⟩ := b
 show (x == y) = _
 rw [Bool.eq_iff_iff, beq_iff_eq, decide_eq_true_iff, ByteArray.mk.injEq]
instance : LawfulBEq ByteArray where
  eq_of_beq := by intro a b h; rw [ba_beq] at h; exact of_decide_eq_true h
  rfl := by intro a; rw [ba_beq]; exact decide_eq_true rfl
attribute [local go_sem] unB_bL bL_length bL_snoc unT_tL tL_length tL_snoc wfL_tL tL_get tL_set tL_inj tL_scal
theorem wrap48 {m : Int} (h0 : 0 ≤ m) (h5 : m < 10) : IntKind.wrap .u8 (48 + m) = 48 + m := by
 have : m = 0 ∨ m = 1 ∨ m = 2 ∨ m = 3 ∨ m = 4 ∨ m = 5 ∨ m = 6 ∨ m = 7 ∨ m = 8 ∨ m = 9 := by omega
 rcases this with rfl | rfl | rfl | rfl | rfl | rfl | rfl | rfl | rfl | rfl <;> rfl
theorem p10s (j : Nat) : (10 : Int) ^ (j + 1) = 10 * 10 ^ j := by rw [Int.pow_succ]; omega
end Go.Own
