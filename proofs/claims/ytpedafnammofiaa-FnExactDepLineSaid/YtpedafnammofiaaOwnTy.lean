import Derived.Test.YtpedafnammofiaaProg
import Derived.Test.YtpedafnammofiaaOwnU
namespace Go.Own
open Go Go.Proofs
theorem ty3 : tyOf Try.prog 3 = some ⟨1, 8, false, false, .int .i64, [Value.int .i64 0]⟩ := by kernel_rfl
theorem ty4 : tyOf Try.prog 4 = some ⟨1, 1, false, false, .bool, [Value.bool false]⟩ := by kernel_rfl
theorem ty5 : tyOf Try.prog 5 = some ⟨1, 1, false, false, .int .u8, [Value.int .u8 0]⟩ := by kernel_rfl
theorem ty9 : tyOf Try.prog 9 = some ⟨1, 16, false, false, .str, [Value.string ByteArray.empty]⟩ := by kernel_rfl
theorem ty22 : tyOf Try.prog 22 = some ⟨1, 24, false, false, .slice 3, [Value.slice none 0 0]⟩ := by kernel_rfl
theorem ty23 : tyOf Try.prog 23 = some ⟨1, 24, false, false, .slice 22, [Value.slice none 0 0]⟩ := by kernel_rfl
theorem ty31 : tyOf Try.prog 31 = some ⟨2, 32, true, false, .struct [(0, 3), (1, 23)], [Value.int .i64 0, Value.slice none 0 0]⟩ := by kernel_rfl
theorem ty32 : tyOf Try.prog 32 = some ⟨2, 32, true, false, .struct [(0, 3), (1, 23)], [Value.int .i64 0, Value.slice none 0 0]⟩ := by kernel_rfl
theorem ty36 : tyOf Try.prog 36 = some ⟨2, 32, true, false, .struct [(0, 3), (1, 23)], [Value.int .i64 0, Value.slice none 0 0]⟩ := by kernel_rfl
theorem ty44 : tyOf Try.prog 44 = some ⟨2, 16, true, true, .struct [(0, 3), (1, 3)], [Value.int .i64 0, Value.int .i64 0]⟩ := by kernel_rfl
theorem ty48 : tyOf Try.prog 48 = some ⟨2, 16, true, true, .struct [(0, 3), (1, 3)], [Value.int .i64 0, Value.int .i64 0]⟩ := by kernel_rfl
theorem ty54 : tyOf Try.prog 54 = some ⟨2, 16, true, true, .struct [(0, 3), (1, 3)], [Value.int .i64 0, Value.int .i64 0]⟩ := by kernel_rfl
theorem ty57 : tyOf Try.prog 57 = some ⟨2, 16, true, true, .struct [(0, 3), (1, 3)], [Value.int .i64 0, Value.int .i64 0]⟩ := by kernel_rfl
theorem ty62 : tyOf Try.prog 62 = some ⟨1, 24, false, false, .slice 44, [Value.slice none 0 0]⟩ := by kernel_rfl
theorem ty65 : tyOf Try.prog 65 = some ⟨1, 24, false, false, .slice 48, [Value.slice none 0 0]⟩ := by kernel_rfl
theorem ty46 : tyOf Try.prog 46 = some ⟨4, 32, true, false, .struct [(0, 3), (1, 3), (2, 44)], [Value.int .i64 0, Value.int .i64 0, Value.int .i64 0, Value.int .i64 0]⟩ := by kernel_rfl
theorem ty50 : tyOf Try.prog 50 = some ⟨4, 32, true, false, .struct [(0, 3), (1, 3), (2, 48)], [Value.int .i64 0, Value.int .i64 0, Value.int .i64 0, Value.int .i64 0]⟩ := by kernel_rfl
theorem ty71 : tyOf Try.prog 71 = some ⟨4, 64, true, false, .struct [(0, 32), (2, 3), (3, 62)], [Value.int .i64 0, Value.slice none 0 0, Value.int .i64 0, Value.slice none 0 0]⟩ := by kernel_rfl
theorem ty75 : tyOf Try.prog 75 = some ⟨4, 64, true, false, .struct [(0, 36), (2, 3), (3, 65)], [Value.int .i64 0, Value.slice none 0 0, Value.int .i64 0, Value.slice none 0 0]⟩ := by kernel_rfl
theorem ty81 : tyOf Try.prog 81 = some ⟨1, 24, false, false, .slice 9, [Value.slice none 0 0]⟩ := by kernel_rfl
theorem mixedT : Try.prog.follows .mixedOrders = true := by kernel_rfl
end Go.Own
