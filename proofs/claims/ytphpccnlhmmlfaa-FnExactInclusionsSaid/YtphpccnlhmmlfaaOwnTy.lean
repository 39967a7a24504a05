import Derived.Test.YtphpccnlhmmlfaaProg
import Derived.Test.YtphpccnlhmmlfaaOwnWd
namespace Go.Own
open Go Go.Proofs
theorem ty3 : tyOf Try.prog 3 = some ⟨1, 8, false, false, .int .i64, [Value.int .i64 0]⟩ := by kernel_rfl
theorem ty4 : tyOf Try.prog 4 = some ⟨1, 1, false, false, .bool, [Value.bool false]⟩ := by kernel_rfl
theorem ty5 : tyOf Try.prog 5 = some ⟨1, 1, false, false, .int .u8, [Value.int .u8 0]⟩ := by kernel_rfl
theorem ty9 : tyOf Try.prog 9 = some ⟨1, 16, false, false, .str, [Value.string ByteArray.empty]⟩ := by kernel_rfl
theorem ty22 : tyOf Try.prog 22 = some ⟨1, 24, false, false, .slice 79, [Value.slice none 0 0]⟩ := by kernel_rfl
theorem ty23 : tyOf Try.prog 23 = some ⟨2, 32, true, false, .struct [(0, 3), (1, 22)], [Value.int .i64 0, Value.slice none 0 0]⟩ := by kernel_rfl
theorem ty24 : tyOf Try.prog 24 = some ⟨2, 32, true, false, .struct [(0, 3), (1, 22)], [Value.int .i64 0, Value.slice none 0 0]⟩ := by kernel_rfl
theorem ty26 : tyOf Try.prog 26 = some ⟨2, 16, true, true, .struct [(0, 3), (1, 3)], [Value.int .i64 0, Value.int .i64 0]⟩ := by kernel_rfl
theorem ty28 : tyOf Try.prog 28 = some ⟨4, 32, true, false, .struct [(0, 3), (1, 3), (2, 26)], [Value.int .i64 0, Value.int .i64 0, Value.int .i64 0, Value.int .i64 0]⟩ := by kernel_rfl
theorem ty31 : tyOf Try.prog 31 = some ⟨2, 32, true, false, .struct [(0, 3), (1, 22)], [Value.int .i64 0, Value.slice none 0 0]⟩ := by kernel_rfl
theorem ty33 : tyOf Try.prog 33 = some ⟨2, 16, true, true, .struct [(0, 3), (1, 3)], [Value.int .i64 0, Value.int .i64 0]⟩ := by kernel_rfl
theorem ty35 : tyOf Try.prog 35 = some ⟨4, 32, true, false, .struct [(0, 3), (1, 3), (2, 33)], [Value.int .i64 0, Value.int .i64 0, Value.int .i64 0, Value.int .i64 0]⟩ := by kernel_rfl
theorem ty39 : tyOf Try.prog 39 = some ⟨1, 24, false, false, .slice 35, [Value.slice none 0 0]⟩ := by kernel_rfl
theorem ty46 : tyOf Try.prog 46 = some ⟨1, 24, false, false, .slice 73, [Value.slice none 0 0]⟩ := by kernel_rfl
theorem ty51 : tyOf Try.prog 51 = some ⟨1, 24, false, false, .slice 26, [Value.slice none 0 0]⟩ := by kernel_rfl
theorem ty56 : tyOf Try.prog 56 = some ⟨1, 24, false, false, .slice 33, [Value.slice none 0 0]⟩ := by kernel_rfl
theorem ty73 : tyOf Try.prog 73 = some ⟨2, 16, true, true, .struct [(0, 3), (1, 3)], [Value.int .i64 0, Value.int .i64 0]⟩ := by kernel_rfl
theorem ty79 : tyOf Try.prog 79 = some ⟨1, 24, false, false, .slice 3, [Value.slice none 0 0]⟩ := by kernel_rfl
theorem mixedT : Try.prog.follows .mixedOrders = true := by kernel_rfl
theorem tm3 {l : List (FuncId × Contract)} {wr : Bool} {im : Nat → Bool} {nm : Bool} {bx : Nat → Bool} : (mkT Try.prog l wr im nm bx).ty 3 = some ⟨1, 8, false, false, .int .i64, [Value.int .i64 0]⟩ := tyM ty3
theorem tm4 {l : List (FuncId × Contract)} {wr : Bool} {im : Nat → Bool} {nm : Bool} {bx : Nat → Bool} : (mkT Try.prog l wr im nm bx).ty 4 = some ⟨1, 1, false, false, .bool, [Value.bool false]⟩ := tyM ty4
theorem tm5 {l : List (FuncId × Contract)} {wr : Bool} {im : Nat → Bool} {nm : Bool} {bx : Nat → Bool} : (mkT Try.prog l wr im nm bx).ty 5 = some ⟨1, 1, false, false, .int .u8, [Value.int .u8 0]⟩ := tyM ty5
theorem tm9 {l : List (FuncId × Contract)} {wr : Bool} {im : Nat → Bool} {nm : Bool} {bx : Nat → Bool} : (mkT Try.prog l wr im nm bx).ty 9 = some ⟨1, 16, false, false, .str, [Value.string ByteArray.empty]⟩ := tyM ty9
theorem tm22 {l : List (FuncId × Contract)} {wr : Bool} {im : Nat → Bool} {nm : Bool} {bx : Nat → Bool} : (mkT Try.prog l wr im nm bx).ty 22 = some ⟨1, 24, false, false, .slice 79, [Value.slice none 0 0]⟩ := tyM ty22
theorem tm23 {l : List (FuncId × Contract)} {wr : Bool} {im : Nat → Bool} {nm : Bool} {bx : Nat → Bool} : (mkT Try.prog l wr im nm bx).ty 23 = some ⟨2, 32, true, false, .struct [(0, 3), (1, 22)], [Value.int .i64 0, Value.slice none 0 0]⟩ := tyM ty23
theorem tm24 {l : List (FuncId × Contract)} {wr : Bool} {im : Nat → Bool} {nm : Bool} {bx : Nat → Bool} : (mkT Try.prog l wr im nm bx).ty 24 = some ⟨2, 32, true, false, .struct [(0, 3), (1, 22)], [Value.int .i64 0, Value.slice none 0 0]⟩ := tyM ty24
theorem tm26 {l : List (FuncId × Contract)} {wr : Bool} {im : Nat → Bool} {nm : Bool} {bx : Nat → Bool} : (mkT Try.prog l wr im nm bx).ty 26 = some ⟨2, 16, true, true, .struct [(0, 3), (1, 3)], [Value.int .i64 0, Value.int .i64 0]⟩ := tyM ty26
theorem tm28 {l : List (FuncId × Contract)} {wr : Bool} {im : Nat → Bool} {nm : Bool} {bx : Nat → Bool} : (mkT Try.prog l wr im nm bx).ty 28 = some ⟨4, 32, true, false, .struct [(0, 3), (1, 3), (2, 26)], [Value.int .i64 0, Value.int .i64 0, Value.int .i64 0, Value.int .i64 0]⟩ := tyM ty28
theorem tm31 {l : List (FuncId × Contract)} {wr : Bool} {im : Nat → Bool} {nm : Bool} {bx : Nat → Bool} : (mkT Try.prog l wr im nm bx).ty 31 = some ⟨2, 32, true, false, .struct [(0, 3), (1, 22)], [Value.int .i64 0, Value.slice none 0 0]⟩ := tyM ty31
theorem tm33 {l : List (FuncId × Contract)} {wr : Bool} {im : Nat → Bool} {nm : Bool} {bx : Nat → Bool} : (mkT Try.prog l wr im nm bx).ty 33 = some ⟨2, 16, true, true, .struct [(0, 3), (1, 3)], [Value.int .i64 0, Value.int .i64 0]⟩ := tyM ty33
theorem tm35 {l : List (FuncId × Contract)} {wr : Bool} {im : Nat → Bool} {nm : Bool} {bx : Nat → Bool} : (mkT Try.prog l wr im nm bx).ty 35 = some ⟨4, 32, true, false, .struct [(0, 3), (1, 3), (2, 33)], [Value.int .i64 0, Value.int .i64 0, Value.int .i64 0, Value.int .i64 0]⟩ := tyM ty35
theorem tm39 {l : List (FuncId × Contract)} {wr : Bool} {im : Nat → Bool} {nm : Bool} {bx : Nat → Bool} : (mkT Try.prog l wr im nm bx).ty 39 = some ⟨1, 24, false, false, .slice 35, [Value.slice none 0 0]⟩ := tyM ty39
theorem tm46 {l : List (FuncId × Contract)} {wr : Bool} {im : Nat → Bool} {nm : Bool} {bx : Nat → Bool} : (mkT Try.prog l wr im nm bx).ty 46 = some ⟨1, 24, false, false, .slice 73, [Value.slice none 0 0]⟩ := tyM ty46
theorem tm51 {l : List (FuncId × Contract)} {wr : Bool} {im : Nat → Bool} {nm : Bool} {bx : Nat → Bool} : (mkT Try.prog l wr im nm bx).ty 51 = some ⟨1, 24, false, false, .slice 26, [Value.slice none 0 0]⟩ := tyM ty51
theorem tm56 {l : List (FuncId × Contract)} {wr : Bool} {im : Nat → Bool} {nm : Bool} {bx : Nat → Bool} : (mkT Try.prog l wr im nm bx).ty 56 = some ⟨1, 24, false, false, .slice 33, [Value.slice none 0 0]⟩ := tyM ty56
theorem tm73 {l : List (FuncId × Contract)} {wr : Bool} {im : Nat → Bool} {nm : Bool} {bx : Nat → Bool} : (mkT Try.prog l wr im nm bx).ty 73 = some ⟨2, 16, true, true, .struct [(0, 3), (1, 3)], [Value.int .i64 0, Value.int .i64 0]⟩ := tyM ty73
theorem tm79 {l : List (FuncId × Contract)} {wr : Bool} {im : Nat → Bool} {nm : Bool} {bx : Nat → Bool} : (mkT Try.prog l wr im nm bx).ty 79 = some ⟨1, 24, false, false, .slice 3, [Value.slice none 0 0]⟩ := tyM ty79
attribute [go_sem] tm3 tm4 tm5 tm9 tm22 tm23 tm24 tm26 tm28 tm31 tm33 tm35 tm39 tm46 tm51 tm56 tm73 tm79
end Go.Own
