/- Of each type of the program what the abstract machine asks of it. -/
import Derived.Test.YtdkcmfafganhhaaProg
import Derived.Test.YtdkcmfafganhhaaM3
namespace Go.Proofs.Ytdkcmfafganhhaa
set_option linter.unusedSimpArgs false
set_option linter.unusedVariables false
set_option linter.unusedSectionVars false
open Go.RowKit
theorem ty2 : ty Try.prog 2 = some ⟨1, false, [.int .i64 0], false, 0, none, [], (some .i64), false, [], 0⟩ := by kernel_rfl
theorem ty3 : ty Try.prog 3 = some ⟨1, false, [.int .i64 0], false, 0, none, [], (some .i64), false, [], 0⟩ := by kernel_rfl
theorem ty4 : ty Try.prog 4 = some ⟨1, false, [.bool false], false, 0, none, [], none, false, [], 0⟩ := by kernel_rfl
theorem ty5 : ty Try.prog 5 = some ⟨1, false, [.int .u8 0], false, 0, none, [], (some .u8), false, [], 0⟩ := by kernel_rfl
theorem ty6 : ty Try.prog 6 = some ⟨1, false, [.int .u8 0], false, 0, none, [], (some .u8), false, [], 0⟩ := by kernel_rfl
theorem ty7 : ty Try.prog 7 = some ⟨4, true, [.int .i64 0, .int .i64 0, .bool false, .int .u8 0], false, 0, none, [(0, 2), (1, 3), (2, 4), (3, 6)], none, false, [(0, 1), (1, 1), (2, 1), (3, 1)], 0⟩ := by kernel_rfl
theorem ty8 : ty Try.prog 8 = some ⟨4, true, [.int .i64 0, .int .i64 0, .bool false, .int .u8 0], false, 0, none, [(0, 2), (1, 3), (2, 4), (3, 6)], none, false, [(0, 1), (1, 1), (2, 1), (3, 1)], 0⟩ := by kernel_rfl
theorem ty9 : ty Try.prog 9 = some ⟨1, false, [.str ByteArray.empty], false, 0, none, [], none, true, [], 0⟩ := by kernel_rfl
theorem ty10 : ty Try.prog 10 = some ⟨1, false, [.str ByteArray.empty], false, 0, none, [], none, true, [], 0⟩ := by kernel_rfl
theorem ty11 : ty Try.prog 11 = some ⟨1, false, [.str ByteArray.empty], false, 0, none, [], none, true, [], 0⟩ := by kernel_rfl
theorem ty12 : ty Try.prog 12 = some ⟨1, false, [.int .u64 0], false, 0, none, [], (some .u64), false, [], 0⟩ := by kernel_rfl
theorem ty13 : ty Try.prog 13 = some ⟨2, true, [.str ByteArray.empty, .int .u64 0], false, 0, none, [(0, 9), (1, 12)], none, false, [(0, 1), (1, 1)], 0⟩ := by kernel_rfl
theorem ty14 : ty Try.prog 14 = some ⟨2, true, [.str ByteArray.empty, .int .u64 0], false, 0, none, [(0, 9), (1, 12)], none, false, [(0, 1), (1, 1)], 0⟩ := by kernel_rfl
theorem ty15 : ty Try.prog 15 = some ⟨1, false, [.nilp], false, 0, none, [], none, false, [], 0⟩ := by kernel_rfl
theorem ty16 : ty Try.prog 16 = some ⟨1, false, [.nilp], false, 0, none, [], none, false, [], 0⟩ := by kernel_rfl
theorem ty17 : ty Try.prog 17 = some ⟨1, false, [.nilp], false, 0, none, [], none, false, [], 0⟩ := by kernel_rfl
theorem ty18 : ty Try.prog 18 = some ⟨1, true, [.nilp], false, 0, none, [(0, 17)], none, false, [(0, 1)], 0⟩ := by kernel_rfl
theorem ty19 : ty Try.prog 19 = some ⟨1, true, [.nilp], false, 0, none, [(0, 17)], none, false, [(0, 1)], 0⟩ := by kernel_rfl
theorem ty21 : ty Try.prog 21 = some ⟨1, false, [.int .i32 0], false, 0, none, [], (some .i32), false, [], 0⟩ := by kernel_rfl
theorem ty22 : ty Try.prog 22 = some ⟨1, false, [.nils], true, 35, none, [], none, false, [], 0⟩ := by kernel_rfl
theorem ty23 : ty Try.prog 23 = some ⟨1, true, [.nils], false, 0, none, [(0, 22)], none, false, [(0, 1)], 0⟩ := by kernel_rfl
theorem ty24 : ty Try.prog 24 = some ⟨1, true, [.nils], false, 0, none, [(0, 22)], none, false, [(0, 1)], 0⟩ := by kernel_rfl
theorem ty27 : ty Try.prog 27 = some ⟨1, false, [.nils], true, 31, none, [], none, false, [], 0⟩ := by kernel_rfl
theorem ty28 : ty Try.prog 28 = some ⟨1, false, [.int .i64 0], false, 0, none, [], (some .i64), false, [], 0⟩ := by kernel_rfl
theorem ty31 : ty Try.prog 31 = some ⟨1, false, [.nils], true, 3, none, [], none, false, [], 0⟩ := by kernel_rfl
theorem ty33 : ty Try.prog 33 = some ⟨1, false, [.nils], true, 38, none, [], none, false, [], 0⟩ := by kernel_rfl
theorem ty34 : ty Try.prog 34 = some ⟨3, true, [.str ByteArray.empty, .int .i64 0, .nils], false, 0, none, [(0, 9), (1, 3), (2, 33)], none, false, [(0, 1), (1, 1), (2, 1)], 0⟩ := by kernel_rfl
theorem ty35 : ty Try.prog 35 = some ⟨3, true, [.str ByteArray.empty, .int .i64 0, .nils], false, 0, none, [(0, 9), (1, 3), (2, 33)], none, false, [(0, 1), (1, 1), (2, 1)], 0⟩ := by kernel_rfl
theorem ty37 : ty Try.prog 37 = some ⟨2, true, [.str ByteArray.empty, .str ByteArray.empty], false, 0, none, [(0, 9), (1, 9)], none, false, [(0, 1), (1, 1)], 0⟩ := by kernel_rfl
theorem ty38 : ty Try.prog 38 = some ⟨2, true, [.str ByteArray.empty, .str ByteArray.empty], false, 0, none, [(0, 9), (1, 9)], none, false, [(0, 1), (1, 1)], 0⟩ := by kernel_rfl
theorem ty46 : ty Try.prog 46 = some ⟨1, false, [.nils], true, 56, none, [], none, false, [], 0⟩ := by kernel_rfl
theorem ty47 : ty Try.prog 47 = some ⟨1, true, [.nils], false, 0, none, [(0, 46)], none, false, [(0, 1)], 0⟩ := by kernel_rfl
theorem ty48 : ty Try.prog 48 = some ⟨1, true, [.nils], false, 0, none, [(0, 46)], none, false, [(0, 1)], 0⟩ := by kernel_rfl
theorem ty54 : ty Try.prog 54 = some ⟨1, false, [.nils], true, 99, none, [], none, false, [], 0⟩ := by kernel_rfl
theorem ty55 : ty Try.prog 55 = some ⟨6, true, [.str ByteArray.empty, .str ByteArray.empty, .str ByteArray.empty, .int .i64 0, .int .i64 0, .nils], false, 0, none, [(0, 9), (1, 9), (2, 9), (3, 3), (4, 3), (5, 54)], none, false, [(0, 1), (1, 1), (2, 1), (3, 1), (4, 1), (5, 1)], 0⟩ := by kernel_rfl
theorem ty56 : ty Try.prog 56 = some ⟨6, true, [.str ByteArray.empty, .str ByteArray.empty, .str ByteArray.empty, .int .i64 0, .int .i64 0, .nils], false, 0, none, [(0, 9), (1, 9), (2, 9), (3, 3), (4, 3), (5, 54)], none, false, [(0, 1), (1, 1), (2, 1), (3, 1), (4, 1), (5, 1)], 0⟩ := by kernel_rfl
theorem ty59 : ty Try.prog 59 = some ⟨1, false, [.nilm], false, 0, none, [], none, false, [], 0⟩ := by kernel_rfl
theorem ty70 : ty Try.prog 70 = some ⟨1, false, [.nilm], false, 0, none, [], none, false, [], 0⟩ := by kernel_rfl
theorem ty74 : ty Try.prog 74 = some ⟨1, false, [.nils], true, 3, none, [], none, false, [], 0⟩ := by kernel_rfl
theorem ty81 : ty Try.prog 81 = some ⟨4, true, [.nilp, .nilp, .nilp, .str ByteArray.empty], false, 0, none, [(0, 17), (1, 17), (2, 17), (3, 9)], none, false, [(0, 1), (1, 1), (2, 1), (3, 1)], 0⟩ := by kernel_rfl
theorem ty82 : ty Try.prog 82 = some ⟨4, true, [.nilp, .nilp, .nilp, .str ByteArray.empty], false, 0, none, [(0, 17), (1, 17), (2, 17), (3, 9)], none, false, [(0, 1), (1, 1), (2, 1), (3, 1)], 0⟩ := by kernel_rfl
theorem ty87 : ty Try.prog 87 = some ⟨1, false, [.int .u32 0], false, 0, none, [], (some .u32), false, [], 0⟩ := by kernel_rfl
theorem ty88 : ty Try.prog 88 = some ⟨1, false, [.int .u8 0], false, 0, none, [], (some .u8), false, [], 0⟩ := by kernel_rfl
theorem ty89 : ty Try.prog 89 = some ⟨1, false, [.int .u8 0], false, 0, none, [], (some .u8), false, [], 0⟩ := by kernel_rfl
theorem ty91 : ty Try.prog 91 = some ⟨1, false, [.nilp], false, 0, none, [], none, false, [], 0⟩ := by kernel_rfl
theorem ty92 : ty Try.prog 92 = some ⟨1, false, [.int .i32 0], false, 0, none, [], (some .i32), false, [], 0⟩ := by kernel_rfl
theorem ty93 : ty Try.prog 93 = some ⟨1, false, [.int .i32 0], false, 0, none, [], (some .i32), false, [], 0⟩ := by kernel_rfl
theorem ty94 : ty Try.prog 94 = some ⟨11, true, [.int .u64 0, .int .u64 0, .int .u32 0, .int .u8 0, .int .u8 0, .int .u8 0, .int .u8 0, .nilf, .nilp, .int .i32 0, .int .i32 0], false, 0, none, [(0, 12), (1, 12), (2, 87), (3, 88), (4, 5), (5, 5), (6, 89), (7, 90), (8, 91), (9, 92), (10, 93)], none, false, [(0, 1), (1, 1), (2, 1), (3, 1), (4, 1), (5, 1), (6, 1), (7, 1), (8, 1), (9, 1), (10, 1)], 0⟩ := by kernel_rfl
theorem ty95 : ty Try.prog 95 = some ⟨11, true, [.int .u64 0, .int .u64 0, .int .u32 0, .int .u8 0, .int .u8 0, .int .u8 0, .int .u8 0, .nilf, .nilp, .int .i32 0, .int .i32 0], false, 0, none, [(0, 12), (1, 12), (2, 87), (3, 88), (4, 5), (5, 5), (6, 89), (7, 90), (8, 91), (9, 92), (10, 93)], none, false, [(0, 1), (1, 1), (2, 1), (3, 1), (4, 1), (5, 1), (6, 1), (7, 1), (8, 1), (9, 1), (10, 1)], 0⟩ := by kernel_rfl
theorem ty96 : ty Try.prog 96 = some ⟨3, true, [.int .i64 0, .int .i64 0, .str ByteArray.empty], false, 0, none, [(0, 3), (1, 3), (2, 9)], none, false, [(0, 1), (1, 1), (2, 1)], 0⟩ := by kernel_rfl
theorem ty97 : ty Try.prog 97 = some ⟨3, true, [.int .i64 0, .int .i64 0, .str ByteArray.empty], false, 0, none, [(0, 3), (1, 3), (2, 9)], none, false, [(0, 1), (1, 1), (2, 1)], 0⟩ := by kernel_rfl
theorem ty98 : ty Try.prog 98 = some ⟨4, true, [.str ByteArray.empty, .int .i64 0, .int .i64 0, .str ByteArray.empty], false, 0, none, [(0, 9), (1, 97)], none, false, [(0, 1), (1, 3)], 0⟩ := by kernel_rfl
theorem ty99 : ty Try.prog 99 = some ⟨4, true, [.str ByteArray.empty, .int .i64 0, .int .i64 0, .str ByteArray.empty], false, 0, none, [(0, 9), (1, 97)], none, false, [(0, 1), (1, 3)], 0⟩ := by kernel_rfl
theorem sk4 : skind Try.prog 4 = some 1 := by kernel_rfl
theorem ek37 : eqKinds Try.prog 37 = some [2, 2] := by kernel_rfl
theorem en37 : eqKindsN Try.prog 37 = some [2, 2] := by kernel_rfl
theorem ek38 : eqKinds Try.prog 38 = some [2, 2] := by kernel_rfl
theorem en38 : eqKindsN Try.prog 38 = some [2, 2] := by kernel_rfl
theorem ek96 : eqKinds Try.prog 96 = some [0, 0, 2] := by kernel_rfl
theorem en96 : eqKindsN Try.prog 96 = some [0, 0, 2] := by kernel_rfl
theorem ek97 : eqKinds Try.prog 97 = some [0, 0, 2] := by kernel_rfl
theorem en97 : eqKindsN Try.prog 97 = some [0, 0, 2] := by kernel_rfl
theorem en98 : eqKindsN Try.prog 98 = some [2, 0, 0, 2] := by kernel_rfl
theorem en99 : eqKindsN Try.prog 99 = some [2, 0, 0, 2] := by kernel_rfl
theorem mp59 : mapTy Try.prog 59 = some (.int .i64 0, (false, [0])) := by kernel_rfl
theorem mp70 : mapTy Try.prog 70 = some (.int .i64 0, (true, [2, 2])) := by kernel_rfl
theorem mixed : Try.prog.follows .mixedOrders = true := by kernel_rfl
attribute [simp] ty2 ty3 ty4 ty5 ty6 ty7 ty8 ty9 ty10 ty11 ty12 ty13 ty14 ty15 ty16 ty17 ty18 ty19 ty21 ty22
attribute [simp] ty23 ty24 ty27 ty28 ty31 ty33 ty34 ty35 ty37 ty38 ty46 ty47 ty48 ty54 ty55 ty56 ty59 ty70 ty74 ty81
attribute [simp] ty82 ty87 ty88 ty89 ty91 ty92 ty93 ty94 ty95 ty96 ty97 ty98 ty99 sk4 ek37 en37 ek38 en38 ek96 en96
attribute [simp] ek97 en97 en98 en99 mp59 mp70
end Go.Proofs.Ytdkcmfafganhhaa
