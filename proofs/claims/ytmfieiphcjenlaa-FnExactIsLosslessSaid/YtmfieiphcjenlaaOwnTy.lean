import Derived.Test.YtmfieiphcjenlaaProg
import Derived.Test.YtmfieiphcjenlaaOwnWd
namespace Go.Own
open Go Go.Proofs
theorem ty2 : tyOf Try.prog 2 = some ⟨1, 8, false, false, .int .i64, [Value.int .i64 0]⟩ := by kernel_rfl
theorem ty3 : tyOf Try.prog 3 = some ⟨1, 8, false, false, .int .i64, [Value.int .i64 0]⟩ := by kernel_rfl
theorem ty4 : tyOf Try.prog 4 = some ⟨1, 1, false, false, .bool, [Value.bool false]⟩ := by kernel_rfl
theorem ty5 : tyOf Try.prog 5 = some ⟨1, 1, false, false, .int .u8, [Value.int .u8 0]⟩ := by kernel_rfl
theorem ty9 : tyOf Try.prog 9 = some ⟨1, 16, false, false, .str, [Value.string ByteArray.empty]⟩ := by kernel_rfl
theorem ty21 : tyOf Try.prog 21 = some ⟨1, 4, false, false, .int .i32, [Value.int .i32 0]⟩ := by kernel_rfl
theorem ty22 : tyOf Try.prog 22 = some ⟨1, 24, false, false, .slice 48, [Value.slice none 0 0]⟩ := by kernel_rfl
theorem ty23 : tyOf Try.prog 23 = some ⟨1, 24, false, false, .slice 35, [Value.slice none 0 0]⟩ := by kernel_rfl
theorem ty28 : tyOf Try.prog 28 = some ⟨1, 24, false, false, .slice 51, [Value.slice none 0 0]⟩ := by kernel_rfl
theorem ty35 : tyOf Try.prog 35 = some ⟨1, 24, false, false, .slice 3, [Value.slice none 0 0]⟩ := by kernel_rfl
theorem ty40 : tyOf Try.prog 40 = some ⟨2, 32, true, false, .struct [(0, 3), (1, 23)], [Value.int .i64 0, Value.slice none 0 0]⟩ := by kernel_rfl
theorem ty41 : tyOf Try.prog 41 = some ⟨2, 32, true, false, .struct [(0, 3), (1, 23)], [Value.int .i64 0, Value.slice none 0 0]⟩ := by kernel_rfl
theorem ty47 : tyOf Try.prog 47 = some ⟨2, 16, true, true, .struct [(0, 3), (1, 3)], [Value.int .i64 0, Value.int .i64 0]⟩ := by kernel_rfl
theorem ty48 : tyOf Try.prog 48 = some ⟨2, 16, true, true, .struct [(0, 3), (1, 3)], [Value.int .i64 0, Value.int .i64 0]⟩ := by kernel_rfl
theorem ty49 : tyOf Try.prog 49 = some ⟨1, 24, false, false, .slice 9, [Value.slice none 0 0]⟩ := by kernel_rfl
theorem ty51 : tyOf Try.prog 51 = some ⟨2, 16, true, true, .struct [(0, 3), (1, 3)], [Value.int .i64 0, Value.int .i64 0]⟩ := by kernel_rfl
theorem ty68 : tyOf Try.prog 68 = some ⟨1, 24, false, false, .slice 73, [Value.slice none 0 0]⟩ := by kernel_rfl
theorem ty72 : tyOf Try.prog 72 = some ⟨3, 24, true, true, .struct [(0, 3), (1, 3), (2, 3)], [Value.int .i64 0, Value.int .i64 0, Value.int .i64 0]⟩ := by kernel_rfl
theorem ty73 : tyOf Try.prog 73 = some ⟨3, 24, true, true, .struct [(0, 3), (1, 3), (2, 3)], [Value.int .i64 0, Value.int .i64 0, Value.int .i64 0]⟩ := by kernel_rfl
theorem ty91 : tyOf Try.prog 91 = some ⟨1, 24, false, false, .slice 5, [Value.slice none 0 0]⟩ := by kernel_rfl
theorem ty101 : tyOf Try.prog 101 = some ⟨1, 8, false, false, .int .u64, [Value.int .u64 0]⟩ := by kernel_rfl
theorem ty111 : tyOf Try.prog 111 = some ⟨1, 4, false, false, .int .u32, [Value.int .u32 0]⟩ := by kernel_rfl
theorem ty113 : tyOf Try.prog 113 = some ⟨1, 8, false, false, .int .u64, [Value.int .u64 0]⟩ := by kernel_rfl
theorem mixedT : Try.prog.follows .mixedOrders = true := by kernel_rfl
theorem tm2 {l : List (FuncId × Contract)} {wr : Bool} {im : Nat → Bool} {nm : Bool} {bx : Nat → Bool} : (mkT Try.prog l wr im nm bx).ty 2 = some ⟨1, 8, false, false, .int .i64, [Value.int .i64 0]⟩ := tyM ty2
theorem tm3 {l : List (FuncId × Contract)} {wr : Bool} {im : Nat → Bool} {nm : Bool} {bx : Nat → Bool} : (mkT Try.prog l wr im nm bx).ty 3 = some ⟨1, 8, false, false, .int .i64, [Value.int .i64 0]⟩ := tyM ty3
theorem tm4 {l : List (FuncId × Contract)} {wr : Bool} {im : Nat → Bool} {nm : Bool} {bx : Nat → Bool} : (mkT Try.prog l wr im nm bx).ty 4 = some ⟨1, 1, false, false, .bool, [Value.bool false]⟩ := tyM ty4
theorem tm5 {l : List (FuncId × Contract)} {wr : Bool} {im : Nat → Bool} {nm : Bool} {bx : Nat → Bool} : (mkT Try.prog l wr im nm bx).ty 5 = some ⟨1, 1, false, false, .int .u8, [Value.int .u8 0]⟩ := tyM ty5
theorem tm9 {l : List (FuncId × Contract)} {wr : Bool} {im : Nat → Bool} {nm : Bool} {bx : Nat → Bool} : (mkT Try.prog l wr im nm bx).ty 9 = some ⟨1, 16, false, false, .str, [Value.string ByteArray.empty]⟩ := tyM ty9
theorem tm21 {l : List (FuncId × Contract)} {wr : Bool} {im : Nat → Bool} {nm : Bool} {bx : Nat → Bool} : (mkT Try.prog l wr im nm bx).ty 21 = some ⟨1, 4, false, false, .int .i32, [Value.int .i32 0]⟩ := tyM ty21
theorem tm22 {l : List (FuncId × Contract)} {wr : Bool} {im : Nat → Bool} {nm : Bool} {bx : Nat → Bool} : (mkT Try.prog l wr im nm bx).ty 22 = some ⟨1, 24, false, false, .slice 48, [Value.slice none 0 0]⟩ := tyM ty22
theorem tm23 {l : List (FuncId × Contract)} {wr : Bool} {im : Nat → Bool} {nm : Bool} {bx : Nat → Bool} : (mkT Try.prog l wr im nm bx).ty 23 = some ⟨1, 24, false, false, .slice 35, [Value.slice none 0 0]⟩ := tyM ty23
theorem tm28 {l : List (FuncId × Contract)} {wr : Bool} {im : Nat → Bool} {nm : Bool} {bx : Nat → Bool} : (mkT Try.prog l wr im nm bx).ty 28 = some ⟨1, 24, false, false, .slice 51, [Value.slice none 0 0]⟩ := tyM ty28
theorem tm35 {l : List (FuncId × Contract)} {wr : Bool} {im : Nat → Bool} {nm : Bool} {bx : Nat → Bool} : (mkT Try.prog l wr im nm bx).ty 35 = some ⟨1, 24, false, false, .slice 3, [Value.slice none 0 0]⟩ := tyM ty35
theorem tm40 {l : List (FuncId × Contract)} {wr : Bool} {im : Nat → Bool} {nm : Bool} {bx : Nat → Bool} : (mkT Try.prog l wr im nm bx).ty 40 = some ⟨2, 32, true, false, .struct [(0, 3), (1, 23)], [Value.int .i64 0, Value.slice none 0 0]⟩ := tyM ty40
theorem tm41 {l : List (FuncId × Contract)} {wr : Bool} {im : Nat → Bool} {nm : Bool} {bx : Nat → Bool} : (mkT Try.prog l wr im nm bx).ty 41 = some ⟨2, 32, true, false, .struct [(0, 3), (1, 23)], [Value.int .i64 0, Value.slice none 0 0]⟩ := tyM ty41
theorem tm47 {l : List (FuncId × Contract)} {wr : Bool} {im : Nat → Bool} {nm : Bool} {bx : Nat → Bool} : (mkT Try.prog l wr im nm bx).ty 47 = some ⟨2, 16, true, true, .struct [(0, 3), (1, 3)], [Value.int .i64 0, Value.int .i64 0]⟩ := tyM ty47
theorem tm48 {l : List (FuncId × Contract)} {wr : Bool} {im : Nat → Bool} {nm : Bool} {bx : Nat → Bool} : (mkT Try.prog l wr im nm bx).ty 48 = some ⟨2, 16, true, true, .struct [(0, 3), (1, 3)], [Value.int .i64 0, Value.int .i64 0]⟩ := tyM ty48
theorem tm49 {l : List (FuncId × Contract)} {wr : Bool} {im : Nat → Bool} {nm : Bool} {bx : Nat → Bool} : (mkT Try.prog l wr im nm bx).ty 49 = some ⟨1, 24, false, false, .slice 9, [Value.slice none 0 0]⟩ := tyM ty49
theorem tm51 {l : List (FuncId × Contract)} {wr : Bool} {im : Nat → Bool} {nm : Bool} {bx : Nat → Bool} : (mkT Try.prog l wr im nm bx).ty 51 = some ⟨2, 16, true, true, .struct [(0, 3), (1, 3)], [Value.int .i64 0, Value.int .i64 0]⟩ := tyM ty51
theorem tm68 {l : List (FuncId × Contract)} {wr : Bool} {im : Nat → Bool} {nm : Bool} {bx : Nat → Bool} : (mkT Try.prog l wr im nm bx).ty 68 = some ⟨1, 24, false, false, .slice 73, [Value.slice none 0 0]⟩ := tyM ty68
theorem tm72 {l : List (FuncId × Contract)} {wr : Bool} {im : Nat → Bool} {nm : Bool} {bx : Nat → Bool} : (mkT Try.prog l wr im nm bx).ty 72 = some ⟨3, 24, true, true, .struct [(0, 3), (1, 3), (2, 3)], [Value.int .i64 0, Value.int .i64 0, Value.int .i64 0]⟩ := tyM ty72
theorem tm73 {l : List (FuncId × Contract)} {wr : Bool} {im : Nat → Bool} {nm : Bool} {bx : Nat → Bool} : (mkT Try.prog l wr im nm bx).ty 73 = some ⟨3, 24, true, true, .struct [(0, 3), (1, 3), (2, 3)], [Value.int .i64 0, Value.int .i64 0, Value.int .i64 0]⟩ := tyM ty73
theorem tm91 {l : List (FuncId × Contract)} {wr : Bool} {im : Nat → Bool} {nm : Bool} {bx : Nat → Bool} : (mkT Try.prog l wr im nm bx).ty 91 = some ⟨1, 24, false, false, .slice 5, [Value.slice none 0 0]⟩ := tyM ty91
theorem tm101 {l : List (FuncId × Contract)} {wr : Bool} {im : Nat → Bool} {nm : Bool} {bx : Nat → Bool} : (mkT Try.prog l wr im nm bx).ty 101 = some ⟨1, 8, false, false, .int .u64, [Value.int .u64 0]⟩ := tyM ty101
theorem tm111 {l : List (FuncId × Contract)} {wr : Bool} {im : Nat → Bool} {nm : Bool} {bx : Nat → Bool} : (mkT Try.prog l wr im nm bx).ty 111 = some ⟨1, 4, false, false, .int .u32, [Value.int .u32 0]⟩ := tyM ty111
theorem tm113 {l : List (FuncId × Contract)} {wr : Bool} {im : Nat → Bool} {nm : Bool} {bx : Nat → Bool} : (mkT Try.prog l wr im nm bx).ty 113 = some ⟨1, 8, false, false, .int .u64, [Value.int .u64 0]⟩ := tyM ty113
attribute [go_sem] tm2 tm3 tm4 tm5 tm9 tm21 tm22 tm23 tm28 tm35 tm40 tm41 tm47 tm48 tm49 tm51 tm68 tm72 tm73 tm91 tm101 tm111 tm113
end Go.Own
