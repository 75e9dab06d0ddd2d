/- Of each type of the program what the abstract machine asks of it. -/
import Derived.Test.YtlcblpofikijmaaProg
import Derived.Test.YtlcblpofikijmaaAbWeak
namespace Go.Proofs.Ytlcblpofikijmaa
set_option linter.unusedSimpArgs false
set_option linter.unusedVariables false
set_option linter.unusedSectionVars false
open Go.RowKit
theorem ty2 : ty Try.prog 2 = some ⟨1, false, [.int .i64 0], false, 0, none, [], (some .i64), false, [], 0⟩ := by kernel_rfl
theorem ty3 : ty Try.prog 3 = some ⟨1, false, [.int .i64 0], false, 0, none, [], (some .i64), false, [], 0⟩ := by kernel_rfl
theorem ty4 : ty Try.prog 4 = some ⟨1, false, [.bool false], false, 0, none, [], none, false, [], 0⟩ := by kernel_rfl
theorem ty5 : ty Try.prog 5 = some ⟨1, false, [.int .u8 0], false, 0, none, [], (some .u8), false, [], 0⟩ := by kernel_rfl
theorem ty6 : ty Try.prog 6 = some ⟨1, false, [.int .u8 0], false, 0, none, [], (some .u8), false, [], 0⟩ := by kernel_rfl
theorem ty7 : ty Try.prog 7 = some ⟨4, true, [.int .i64 0, .int .i64 0, .bool false, .int .u8 0], false, 0, none, [(0, 2), (1, 3), (2, 4), (3, 6)], none, false, [(0, 1), (1, 1), (2, 1), (3, 1)], 0⟩ := by kernel_rfl
theorem ty8 : ty Try.prog 8 = some ⟨4, true, [.int .i64 0, .int .i64 0, .bool false, .int .u8 0], false, 0, none, [(0, 2), (1, 3), (2, 4), (3, 6)], none, false, [(0, 1), (1, 1), (2, 1), (3, 1)], 0⟩ := by kernel_rfl
theorem ty9 : ty Try.prog 9 = some ⟨1, false, [.str ByteArray.empty], false, 0, none, [], none, true, [], 0⟩ := by kernel_rfl
theorem ty10 : ty Try.prog 10 = some ⟨1, false, [.str ByteArray.empty], false, 0, none, [], none, true, [], 0⟩ := by kernel_rfl
theorem ty11 : ty Try.prog 11 = some ⟨1, false, [.str ByteArray.empty], false, 0, none, [], none, true, [], 0⟩ := by kernel_rfl
theorem ty12 : ty Try.prog 12 = some ⟨1, false, [.int .u64 0], false, 0, none, [], (some .u64), false, [], 0⟩ := by kernel_rfl
theorem ty13 : ty Try.prog 13 = some ⟨2, true, [.str ByteArray.empty, .int .u64 0], false, 0, none, [(0, 9), (1, 12)], none, false, [(0, 1), (1, 1)], 0⟩ := by kernel_rfl
theorem ty14 : ty Try.prog 14 = some ⟨2, true, [.str ByteArray.empty, .int .u64 0], false, 0, none, [(0, 9), (1, 12)], none, false, [(0, 1), (1, 1)], 0⟩ := by kernel_rfl
theorem ty15 : ty Try.prog 15 = some ⟨1, false, [.nilp], false, 0, none, [], none, false, [], 0⟩ := by kernel_rfl
theorem ty16 : ty Try.prog 16 = some ⟨1, false, [.nilp], false, 0, none, [], none, false, [], 0⟩ := by kernel_rfl
theorem ty17 : ty Try.prog 17 = some ⟨1, false, [.nilp], false, 0, none, [], none, false, [], 0⟩ := by kernel_rfl
theorem ty18 : ty Try.prog 18 = some ⟨1, true, [.nilp], false, 0, none, [(0, 17)], none, false, [(0, 1)], 0⟩ := by kernel_rfl
theorem ty19 : ty Try.prog 19 = some ⟨1, true, [.nilp], false, 0, none, [(0, 17)], none, false, [(0, 1)], 0⟩ := by kernel_rfl
theorem ty21 : ty Try.prog 21 = some ⟨1, false, [.int .i32 0], false, 0, none, [], (some .i32), false, [], 0⟩ := by kernel_rfl
theorem ty22 : ty Try.prog 22 = some ⟨1, false, [.nils], true, 9, none, [], none, false, [], 0⟩ := by kernel_rfl
theorem ty25 : ty Try.prog 25 = some ⟨1, false, [.int .i64 0], false, 0, none, [], (some .i64), false, [], 0⟩ := by kernel_rfl
theorem ty46 : ty Try.prog 46 = some ⟨1, false, [.nilp], false, 0, none, [], none, false, [], 0⟩ := by kernel_rfl
theorem ty47 : ty Try.prog 47 = some ⟨2, true, [.str ByteArray.empty, .int .i64 0], false, 0, none, [(0, 9), (1, 3)], none, false, [(0, 1), (1, 1)], 0⟩ := by kernel_rfl
theorem ty48 : ty Try.prog 48 = some ⟨2, true, [.str ByteArray.empty, .int .i64 0], false, 0, none, [(0, 9), (1, 3)], none, false, [(0, 1), (1, 1)], 0⟩ := by kernel_rfl
theorem ty55 : ty Try.prog 55 = some ⟨1, false, [.nils], true, 5, none, [], none, false, [], 0⟩ := by kernel_rfl
theorem ty61 : ty Try.prog 61 = some ⟨1, false, [.nilp], false, 0, none, [], none, false, [], 0⟩ := by kernel_rfl
theorem ty62 : ty Try.prog 62 = some ⟨2, true, [.nilp, .nils], false, 0, none, [(0, 61), (1, 55)], none, false, [(0, 1), (1, 1)], 0⟩ := by kernel_rfl
theorem ty63 : ty Try.prog 63 = some ⟨2, true, [.nilp, .nils], false, 0, none, [(0, 61), (1, 55)], none, false, [(0, 1), (1, 1)], 0⟩ := by kernel_rfl
theorem ty74 : ty Try.prog 74 = some ⟨1, false, [.int .u64 0], false, 0, none, [], (some .u64), false, [], 0⟩ := by kernel_rfl
theorem ty75 : ty Try.prog 75 = some ⟨1, false, [.nilp], false, 0, none, [], none, false, [], 0⟩ := by kernel_rfl
theorem ty77 : ty Try.prog 77 = some ⟨1, false, [.int .i64 0], false, 0, none, [], (some .i64), false, [], 0⟩ := by kernel_rfl
theorem ty85 : ty Try.prog 85 = some ⟨1, false, [.int .u32 0], false, 0, none, [], (some .u32), false, [], 0⟩ := by kernel_rfl
theorem ty87 : ty Try.prog 87 = some ⟨1, false, [.int .u64 0], false, 0, none, [], (some .u64), false, [], 0⟩ := by kernel_rfl
theorem ty91 : ty Try.prog 91 = some ⟨1, false, [.int .u64 0], false, 0, none, [], (some .u64), false, [], 0⟩ := by kernel_rfl
theorem ty95 : ty Try.prog 95 = some ⟨1, false, [.nilp], false, 0, none, [], none, false, [], 0⟩ := by kernel_rfl
theorem ty99 : ty Try.prog 99 = some ⟨1, false, [.nilp], false, 0, none, [], none, false, [], 0⟩ := by kernel_rfl
theorem ty104 : ty Try.prog 104 = some ⟨4, true, [.nilp, .nilp, .nilp, .str ByteArray.empty], false, 0, none, [(0, 17), (1, 17), (2, 17), (3, 9)], none, false, [(0, 1), (1, 1), (2, 1), (3, 1)], 0⟩ := by kernel_rfl
theorem ty105 : ty Try.prog 105 = some ⟨4, true, [.nilp, .nilp, .nilp, .str ByteArray.empty], false, 0, none, [(0, 17), (1, 17), (2, 17), (3, 9)], none, false, [(0, 1), (1, 1), (2, 1), (3, 1)], 0⟩ := by kernel_rfl
theorem ty110 : ty Try.prog 110 = some ⟨1, false, [.int .u8 0], false, 0, none, [], (some .u8), false, [], 0⟩ := by kernel_rfl
theorem ty111 : ty Try.prog 111 = some ⟨1, false, [.int .u8 0], false, 0, none, [], (some .u8), false, [], 0⟩ := by kernel_rfl
theorem ty113 : ty Try.prog 113 = some ⟨1, false, [.int .i32 0], false, 0, none, [], (some .i32), false, [], 0⟩ := by kernel_rfl
theorem ty114 : ty Try.prog 114 = some ⟨1, false, [.int .i32 0], false, 0, none, [], (some .i32), false, [], 0⟩ := by kernel_rfl
theorem ty115 : ty Try.prog 115 = some ⟨11, true, [.int .u64 0, .int .u64 0, .int .u32 0, .int .u8 0, .int .u8 0, .int .u8 0, .int .u8 0, .nilf, .nilp, .int .i32 0, .int .i32 0], false, 0, none, [(0, 12), (1, 12), (2, 85), (3, 110), (4, 5), (5, 5), (6, 111), (7, 112), (8, 75), (9, 113), (10, 114)], none, false, [(0, 1), (1, 1), (2, 1), (3, 1), (4, 1), (5, 1), (6, 1), (7, 1), (8, 1), (9, 1), (10, 1)], 0⟩ := by kernel_rfl
theorem ty116 : ty Try.prog 116 = some ⟨11, true, [.int .u64 0, .int .u64 0, .int .u32 0, .int .u8 0, .int .u8 0, .int .u8 0, .int .u8 0, .nilf, .nilp, .int .i32 0, .int .i32 0], false, 0, none, [(0, 12), (1, 12), (2, 85), (3, 110), (4, 5), (5, 5), (6, 111), (7, 112), (8, 75), (9, 113), (10, 114)], none, false, [(0, 1), (1, 1), (2, 1), (3, 1), (4, 1), (5, 1), (6, 1), (7, 1), (8, 1), (9, 1), (10, 1)], 0⟩ := by kernel_rfl
theorem sk4 : skind Try.prog 4 = some 1 := by kernel_rfl
theorem ek47 : eqKinds Try.prog 47 = some [2, 0] := by kernel_rfl
theorem ek48 : eqKinds Try.prog 48 = some [2, 0] := by kernel_rfl
theorem mixed : Try.prog.follows .mixedOrders = true := by kernel_rfl
attribute [simp] ty2 ty3 ty4 ty5 ty6 ty7 ty8 ty9 ty10 ty11 ty12 ty13 ty14 ty15 ty16 ty17 ty18 ty19 ty21 ty22
attribute [simp] ty25 ty46 ty47 ty48 ty55 ty61 ty62 ty63 ty74 ty75 ty77 ty85 ty87 ty91 ty95 ty99 ty104 ty105 ty110 ty111
attribute [simp] ty113 ty114 ty115 ty116 sk4 ek47 ek48
end Go.Proofs.Ytlcblpofikijmaa
