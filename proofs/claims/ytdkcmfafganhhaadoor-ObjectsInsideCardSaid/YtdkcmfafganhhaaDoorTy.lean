/- Of each type of the program what the abstract machine asks of it. -/
import Derived.Test.YtdkcmfafganhhaaDoorProg
import Derived.Test.YtdkcmfafganhhaaDoorM3
namespace Go.Proofs.YtdkcmfafganhhaaDoor
set_option linter.unusedSimpArgs false
set_option linter.unusedVariables false
set_option linter.unusedSectionVars false
open Go.RowKit
theorem ty2 : ty Tryd.prog 2 = some ⟨1, false, [.int .i64 0], false, 0, none, [], (some .i64), false, [], 0⟩ := by kernel_rfl
theorem ty3 : ty Tryd.prog 3 = some ⟨1, false, [.int .i64 0], false, 0, none, [], (some .i64), false, [], 0⟩ := by kernel_rfl
theorem ty4 : ty Tryd.prog 4 = some ⟨1, false, [.bool false], false, 0, none, [], none, false, [], 0⟩ := by kernel_rfl
theorem ty5 : ty Tryd.prog 5 = some ⟨1, false, [.int .u8 0], false, 0, none, [], (some .u8), false, [], 0⟩ := by kernel_rfl
theorem ty6 : ty Tryd.prog 6 = some ⟨1, false, [.int .u8 0], false, 0, none, [], (some .u8), false, [], 0⟩ := by kernel_rfl
theorem ty7 : ty Tryd.prog 7 = some ⟨4, true, [.int .i64 0, .int .i64 0, .bool false, .int .u8 0], false, 0, none, [(0, 2), (1, 3), (2, 4), (3, 6)], none, false, [(0, 1), (1, 1), (2, 1), (3, 1)], 0⟩ := by kernel_rfl
theorem ty8 : ty Tryd.prog 8 = some ⟨4, true, [.int .i64 0, .int .i64 0, .bool false, .int .u8 0], false, 0, none, [(0, 2), (1, 3), (2, 4), (3, 6)], none, false, [(0, 1), (1, 1), (2, 1), (3, 1)], 0⟩ := by kernel_rfl
theorem ty9 : ty Tryd.prog 9 = some ⟨1, false, [.str ByteArray.empty], false, 0, none, [], none, true, [], 0⟩ := by kernel_rfl
theorem ty10 : ty Tryd.prog 10 = some ⟨1, false, [.str ByteArray.empty], false, 0, none, [], none, true, [], 0⟩ := by kernel_rfl
theorem ty11 : ty Tryd.prog 11 = some ⟨1, false, [.str ByteArray.empty], false, 0, none, [], none, true, [], 0⟩ := by kernel_rfl
theorem ty12 : ty Tryd.prog 12 = some ⟨1, false, [.int .u64 0], false, 0, none, [], (some .u64), false, [], 0⟩ := by kernel_rfl
theorem ty13 : ty Tryd.prog 13 = some ⟨2, true, [.str ByteArray.empty, .int .u64 0], false, 0, none, [(0, 9), (1, 12)], none, false, [(0, 1), (1, 1)], 0⟩ := by kernel_rfl
theorem ty14 : ty Tryd.prog 14 = some ⟨2, true, [.str ByteArray.empty, .int .u64 0], false, 0, none, [(0, 9), (1, 12)], none, false, [(0, 1), (1, 1)], 0⟩ := by kernel_rfl
theorem ty15 : ty Tryd.prog 15 = some ⟨1, false, [.nilp], false, 0, none, [], none, false, [], 0⟩ := by kernel_rfl
theorem ty16 : ty Tryd.prog 16 = some ⟨1, false, [.nilp], false, 0, none, [], none, false, [], 0⟩ := by kernel_rfl
theorem ty17 : ty Tryd.prog 17 = some ⟨1, false, [.nilp], false, 0, none, [], none, false, [], 0⟩ := by kernel_rfl
theorem ty18 : ty Tryd.prog 18 = some ⟨1, true, [.nilp], false, 0, none, [(0, 17)], none, false, [(0, 1)], 0⟩ := by kernel_rfl
theorem ty19 : ty Tryd.prog 19 = some ⟨1, true, [.nilp], false, 0, none, [(0, 17)], none, false, [(0, 1)], 0⟩ := by kernel_rfl
theorem ty21 : ty Tryd.prog 21 = some ⟨1, false, [.int .i32 0], false, 0, none, [], (some .i32), false, [], 0⟩ := by kernel_rfl
theorem ty22 : ty Tryd.prog 22 = some ⟨1, false, [.nils], true, 48, none, [], none, false, [], 0⟩ := by kernel_rfl
theorem ty23 : ty Tryd.prog 23 = some ⟨1, true, [.nils], false, 0, none, [(0, 22)], none, false, [(0, 1)], 0⟩ := by kernel_rfl
theorem ty24 : ty Tryd.prog 24 = some ⟨1, true, [.nils], false, 0, none, [(0, 22)], none, false, [(0, 1)], 0⟩ := by kernel_rfl
theorem ty27 : ty Tryd.prog 27 = some ⟨1, false, [.nils], true, 70, none, [], none, false, [], 0⟩ := by kernel_rfl
theorem ty28 : ty Tryd.prog 28 = some ⟨1, false, [.int .i64 0], false, 0, none, [], (some .i64), false, [], 0⟩ := by kernel_rfl
theorem ty31 : ty Tryd.prog 31 = some ⟨1, false, [.nils], true, 51, none, [], none, false, [], 0⟩ := by kernel_rfl
theorem ty32 : ty Tryd.prog 32 = some ⟨1, true, [.nils], false, 0, none, [(0, 31)], none, false, [(0, 1)], 0⟩ := by kernel_rfl
theorem ty33 : ty Tryd.prog 33 = some ⟨1, true, [.nils], false, 0, none, [(0, 31)], none, false, [(0, 1)], 0⟩ := by kernel_rfl
theorem ty40 : ty Tryd.prog 40 = some ⟨1, false, [.nils], true, 9, none, [], none, false, [], 0⟩ := by kernel_rfl
theorem ty44 : ty Tryd.prog 44 = some ⟨1, false, [.nilm], false, 0, none, [], none, false, [], 0⟩ := by kernel_rfl
theorem ty45 : ty Tryd.prog 45 = some ⟨1, false, [.nilm], false, 0, none, [], none, false, [], 0⟩ := by kernel_rfl
theorem ty46 : ty Tryd.prog 46 = some ⟨1, false, [.nils], true, 53, none, [], none, false, [], 0⟩ := by kernel_rfl
theorem ty47 : ty Tryd.prog 47 = some ⟨3, true, [.str ByteArray.empty, .int .i64 0, .nils], false, 0, none, [(0, 9), (1, 3), (2, 46)], none, false, [(0, 1), (1, 1), (2, 1)], 0⟩ := by kernel_rfl
theorem ty48 : ty Tryd.prog 48 = some ⟨3, true, [.str ByteArray.empty, .int .i64 0, .nils], false, 0, none, [(0, 9), (1, 3), (2, 46)], none, false, [(0, 1), (1, 1), (2, 1)], 0⟩ := by kernel_rfl
theorem ty49 : ty Tryd.prog 49 = some ⟨1, false, [.nils], true, 99, none, [], none, false, [], 0⟩ := by kernel_rfl
theorem ty50 : ty Tryd.prog 50 = some ⟨6, true, [.str ByteArray.empty, .str ByteArray.empty, .str ByteArray.empty, .int .i64 0, .int .i64 0, .nils], false, 0, none, [(0, 9), (1, 9), (2, 9), (3, 3), (4, 3), (5, 49)], none, false, [(0, 1), (1, 1), (2, 1), (3, 1), (4, 1), (5, 1)], 0⟩ := by kernel_rfl
theorem ty51 : ty Tryd.prog 51 = some ⟨6, true, [.str ByteArray.empty, .str ByteArray.empty, .str ByteArray.empty, .int .i64 0, .int .i64 0, .nils], false, 0, none, [(0, 9), (1, 9), (2, 9), (3, 3), (4, 3), (5, 49)], none, false, [(0, 1), (1, 1), (2, 1), (3, 1), (4, 1), (5, 1)], 0⟩ := by kernel_rfl
theorem ty52 : ty Tryd.prog 52 = some ⟨2, true, [.str ByteArray.empty, .str ByteArray.empty], false, 0, none, [(0, 9), (1, 9)], none, false, [(0, 1), (1, 1)], 0⟩ := by kernel_rfl
theorem ty53 : ty Tryd.prog 53 = some ⟨2, true, [.str ByteArray.empty, .str ByteArray.empty], false, 0, none, [(0, 9), (1, 9)], none, false, [(0, 1), (1, 1)], 0⟩ := by kernel_rfl
theorem ty56 : ty Tryd.prog 56 = some ⟨3, true, [.int .i64 0, .int .i64 0, .bool false], false, 0, none, [(0, 3), (1, 3), (2, 4)], none, false, [(0, 1), (1, 1), (2, 1)], 0⟩ := by kernel_rfl
theorem ty57 : ty Tryd.prog 57 = some ⟨3, true, [.int .i64 0, .int .i64 0, .bool false], false, 0, none, [(0, 3), (1, 3), (2, 4)], none, false, [(0, 1), (1, 1), (2, 1)], 0⟩ := by kernel_rfl
theorem ty69 : ty Tryd.prog 69 = some ⟨1, false, [.nilm], false, 0, none, [], none, false, [], 0⟩ := by kernel_rfl
theorem ty70 : ty Tryd.prog 70 = some ⟨1, false, [.nils], true, 3, none, [], none, false, [], 0⟩ := by kernel_rfl
theorem ty86 : ty Tryd.prog 86 = some ⟨1, false, [.nilm], false, 0, none, [], none, false, [], 0⟩ := by kernel_rfl
theorem ty91 : ty Tryd.prog 91 = some ⟨1, false, [.nils], true, 3, none, [], none, false, [], 0⟩ := by kernel_rfl
theorem ty96 : ty Tryd.prog 96 = some ⟨3, true, [.int .i64 0, .int .i64 0, .str ByteArray.empty], false, 0, none, [(0, 3), (1, 3), (2, 9)], none, false, [(0, 1), (1, 1), (2, 1)], 0⟩ := by kernel_rfl
theorem ty97 : ty Tryd.prog 97 = some ⟨3, true, [.int .i64 0, .int .i64 0, .str ByteArray.empty], false, 0, none, [(0, 3), (1, 3), (2, 9)], none, false, [(0, 1), (1, 1), (2, 1)], 0⟩ := by kernel_rfl
theorem ty98 : ty Tryd.prog 98 = some ⟨4, true, [.str ByteArray.empty, .int .i64 0, .int .i64 0, .str ByteArray.empty], false, 0, none, [(0, 9), (1, 97)], none, false, [(0, 1), (1, 3)], 0⟩ := by kernel_rfl
theorem ty99 : ty Tryd.prog 99 = some ⟨4, true, [.str ByteArray.empty, .int .i64 0, .int .i64 0, .str ByteArray.empty], false, 0, none, [(0, 9), (1, 97)], none, false, [(0, 1), (1, 3)], 0⟩ := by kernel_rfl
theorem ty102 : ty Tryd.prog 102 = some ⟨1, false, [.int .u64 0], false, 0, none, [], (some .u64), false, [], 0⟩ := by kernel_rfl
theorem ty109 : ty Tryd.prog 109 = some ⟨1, false, [.int .i64 0], false, 0, none, [], (some .i64), false, [], 0⟩ := by kernel_rfl
theorem ty117 : ty Tryd.prog 117 = some ⟨1, false, [.int .u32 0], false, 0, none, [], (some .u32), false, [], 0⟩ := by kernel_rfl
theorem ty119 : ty Tryd.prog 119 = some ⟨1, false, [.int .u64 0], false, 0, none, [], (some .u64), false, [], 0⟩ := by kernel_rfl
theorem ty122 : ty Tryd.prog 122 = some ⟨24, true, [.int .u8 0, .int .u8 0, .int .u8 0, .int .u8 0, .int .u8 0, .int .u8 0, .int .u8 0, .int .u8 0, .int .u8 0, .int .u8 0, .int .u8 0, .int .u8 0, .int .u8 0, .int .u8 0, .int .u8 0, .int .u8 0, .int .u8 0, .int .u8 0, .int .u8 0, .int .u8 0, .int .u8 0, .int .u8 0, .int .u8 0, .int .u8 0], false, 5, (some 24), [], none, false, [], 1⟩ := by kernel_rfl
theorem ty124 : ty Tryd.prog 124 = some ⟨1, false, [.nils], true, 5, none, [], none, false, [], 0⟩ := by kernel_rfl
theorem ty127 : ty Tryd.prog 127 = some ⟨1, false, [.int .u64 0], false, 0, none, [], (some .u64), false, [], 0⟩ := by kernel_rfl
theorem ty131 : ty Tryd.prog 131 = some ⟨1, false, [.nilp], false, 0, none, [], none, false, [], 0⟩ := by kernel_rfl
theorem ty135 : ty Tryd.prog 135 = some ⟨20, true, [.int .u64 0, .int .u64 0, .int .u64 0, .int .u64 0, .int .u64 0, .int .u64 0, .int .u64 0, .int .u64 0, .int .u64 0, .int .u64 0, .int .u64 0, .int .u64 0, .int .u64 0, .int .u64 0, .int .u64 0, .int .u64 0, .int .u64 0, .int .u64 0, .int .u64 0, .int .u64 0], false, 119, (some 20), [], none, false, [], 1⟩ := by kernel_rfl
theorem ty136 : ty Tryd.prog 136 = some ⟨65, true, [.int .u8 0, .int .u8 0, .int .u8 0, .int .u8 0, .int .u8 0, .int .u8 0, .int .u8 0, .int .u8 0, .int .u8 0, .int .u8 0, .int .u8 0, .int .u8 0, .int .u8 0, .int .u8 0, .int .u8 0, .int .u8 0, .int .u8 0, .int .u8 0, .int .u8 0, .int .u8 0, .int .u8 0, .int .u8 0, .int .u8 0, .int .u8 0, .int .u8 0, .int .u8 0, .int .u8 0, .int .u8 0, .int .u8 0, .int .u8 0, .int .u8 0, .int .u8 0, .int .u8 0, .int .u8 0, .int .u8 0, .int .u8 0, .int .u8 0, .int .u8 0, .int .u8 0, .int .u8 0, .int .u8 0, .int .u8 0, .int .u8 0, .int .u8 0, .int .u8 0, .int .u8 0, .int .u8 0, .int .u8 0, .int .u8 0, .int .u8 0, .int .u8 0, .int .u8 0, .int .u8 0, .int .u8 0, .int .u8 0, .int .u8 0, .int .u8 0, .int .u8 0, .int .u8 0, .int .u8 0, .int .u8 0, .int .u8 0, .int .u8 0, .int .u8 0, .int .u8 0], false, 5, (some 65), [], none, false, [], 1⟩ := by kernel_rfl
theorem ty137 : ty Tryd.prog 137 = some ⟨1, false, [.nilp], false, 0, none, [], none, false, [], 0⟩ := by kernel_rfl
theorem ty141 : ty Tryd.prog 141 = some ⟨32, true, [.int .u8 0, .int .u8 0, .int .u8 0, .int .u8 0, .int .u8 0, .int .u8 0, .int .u8 0, .int .u8 0, .int .u8 0, .int .u8 0, .int .u8 0, .int .u8 0, .int .u8 0, .int .u8 0, .int .u8 0, .int .u8 0, .int .u8 0, .int .u8 0, .int .u8 0, .int .u8 0, .int .u8 0, .int .u8 0, .int .u8 0, .int .u8 0, .int .u8 0, .int .u8 0, .int .u8 0, .int .u8 0, .int .u8 0, .int .u8 0, .int .u8 0, .int .u8 0], false, 5, (some 32), [], none, false, [], 1⟩ := by kernel_rfl
theorem ty142 : ty Tryd.prog 142 = some ⟨64, true, [.int .u8 0, .int .u8 0, .int .u8 0, .int .u8 0, .int .u8 0, .int .u8 0, .int .u8 0, .int .u8 0, .int .u8 0, .int .u8 0, .int .u8 0, .int .u8 0, .int .u8 0, .int .u8 0, .int .u8 0, .int .u8 0, .int .u8 0, .int .u8 0, .int .u8 0, .int .u8 0, .int .u8 0, .int .u8 0, .int .u8 0, .int .u8 0, .int .u8 0, .int .u8 0, .int .u8 0, .int .u8 0, .int .u8 0, .int .u8 0, .int .u8 0, .int .u8 0, .int .u8 0, .int .u8 0, .int .u8 0, .int .u8 0, .int .u8 0, .int .u8 0, .int .u8 0, .int .u8 0, .int .u8 0, .int .u8 0, .int .u8 0, .int .u8 0, .int .u8 0, .int .u8 0, .int .u8 0, .int .u8 0, .int .u8 0, .int .u8 0, .int .u8 0, .int .u8 0, .int .u8 0, .int .u8 0, .int .u8 0, .int .u8 0, .int .u8 0, .int .u8 0, .int .u8 0, .int .u8 0, .int .u8 0, .int .u8 0, .int .u8 0, .int .u8 0], false, 5, (some 64), [], none, false, [], 1⟩ := by kernel_rfl
theorem ty144 : ty Tryd.prog 144 = some ⟨4, true, [.nilp, .nilp, .nilp, .str ByteArray.empty], false, 0, none, [(0, 17), (1, 17), (2, 17), (3, 9)], none, false, [(0, 1), (1, 1), (2, 1), (3, 1)], 0⟩ := by kernel_rfl
theorem ty145 : ty Tryd.prog 145 = some ⟨4, true, [.nilp, .nilp, .nilp, .str ByteArray.empty], false, 0, none, [(0, 17), (1, 17), (2, 17), (3, 9)], none, false, [(0, 1), (1, 1), (2, 1), (3, 1)], 0⟩ := by kernel_rfl
theorem ty150 : ty Tryd.prog 150 = some ⟨1, false, [.int .u8 0], false, 0, none, [], (some .u8), false, [], 0⟩ := by kernel_rfl
theorem ty151 : ty Tryd.prog 151 = some ⟨1, false, [.int .u8 0], false, 0, none, [], (some .u8), false, [], 0⟩ := by kernel_rfl
theorem ty153 : ty Tryd.prog 153 = some ⟨1, false, [.nilp], false, 0, none, [], none, false, [], 0⟩ := by kernel_rfl
theorem ty154 : ty Tryd.prog 154 = some ⟨1, false, [.int .i32 0], false, 0, none, [], (some .i32), false, [], 0⟩ := by kernel_rfl
theorem ty155 : ty Tryd.prog 155 = some ⟨1, false, [.int .i32 0], false, 0, none, [], (some .i32), false, [], 0⟩ := by kernel_rfl
theorem ty156 : ty Tryd.prog 156 = some ⟨11, true, [.int .u64 0, .int .u64 0, .int .u32 0, .int .u8 0, .int .u8 0, .int .u8 0, .int .u8 0, .nilf, .nilp, .int .i32 0, .int .i32 0], false, 0, none, [(0, 12), (1, 12), (2, 117), (3, 150), (4, 5), (5, 5), (6, 151), (7, 152), (8, 153), (9, 154), (10, 155)], none, false, [(0, 1), (1, 1), (2, 1), (3, 1), (4, 1), (5, 1), (6, 1), (7, 1), (8, 1), (9, 1), (10, 1)], 0⟩ := by kernel_rfl
theorem ty157 : ty Tryd.prog 157 = some ⟨11, true, [.int .u64 0, .int .u64 0, .int .u32 0, .int .u8 0, .int .u8 0, .int .u8 0, .int .u8 0, .nilf, .nilp, .int .i32 0, .int .i32 0], false, 0, none, [(0, 12), (1, 12), (2, 117), (3, 150), (4, 5), (5, 5), (6, 151), (7, 152), (8, 153), (9, 154), (10, 155)], none, false, [(0, 1), (1, 1), (2, 1), (3, 1), (4, 1), (5, 1), (6, 1), (7, 1), (8, 1), (9, 1), (10, 1)], 0⟩ := by kernel_rfl
theorem sk4 : skind Tryd.prog 4 = some 1 := by kernel_rfl
theorem ek52 : eqKinds Tryd.prog 52 = some [2, 2] := by kernel_rfl
theorem en52 : eqKindsN Tryd.prog 52 = some [2, 2] := by kernel_rfl
theorem ek53 : eqKinds Tryd.prog 53 = some [2, 2] := by kernel_rfl
theorem en53 : eqKindsN Tryd.prog 53 = some [2, 2] := by kernel_rfl
theorem ek56 : eqKinds Tryd.prog 56 = some [0, 0, 1] := by kernel_rfl
theorem en56 : eqKindsN Tryd.prog 56 = some [0, 0, 1] := by kernel_rfl
theorem ek57 : eqKinds Tryd.prog 57 = some [0, 0, 1] := by kernel_rfl
theorem en57 : eqKindsN Tryd.prog 57 = some [0, 0, 1] := by kernel_rfl
theorem ek96 : eqKinds Tryd.prog 96 = some [0, 0, 2] := by kernel_rfl
theorem en96 : eqKindsN Tryd.prog 96 = some [0, 0, 2] := by kernel_rfl
theorem ek97 : eqKinds Tryd.prog 97 = some [0, 0, 2] := by kernel_rfl
theorem en97 : eqKindsN Tryd.prog 97 = some [0, 0, 2] := by kernel_rfl
theorem en98 : eqKindsN Tryd.prog 98 = some [2, 0, 0, 2] := by kernel_rfl
theorem en99 : eqKindsN Tryd.prog 99 = some [2, 0, 0, 2] := by kernel_rfl
theorem mp44 : mapTy Tryd.prog 44 = some (.str ByteArray.empty, (true, [2, 2])) := by kernel_rfl
theorem mp45 : mapTy Tryd.prog 45 = some (.int .i64 0, (false, [2])) := by kernel_rfl
theorem mp69 : mapTy Tryd.prog 69 = some (.int .i64 0, (false, [0])) := by kernel_rfl
theorem mp86 : mapTy Tryd.prog 86 = some (.int .i64 0, (true, [2, 2])) := by kernel_rfl
theorem mixed : Tryd.prog.follows .mixedOrders = true := by kernel_rfl
attribute [simp] ty2 ty3 ty4 ty5 ty6 ty7 ty8 ty9 ty10 ty11 ty12 ty13 ty14 ty15 ty16 ty17 ty18 ty19 ty21 ty22
attribute [simp] ty23 ty24 ty27 ty28 ty31 ty32 ty33 ty40 ty44 ty45 ty46 ty47 ty48 ty49 ty50 ty51 ty52 ty53 ty56 ty57
attribute [simp] ty69 ty70 ty86 ty91 ty96 ty97 ty98 ty99 ty102 ty109 ty117 ty119 ty122 ty124 ty127 ty131 ty135 ty136 ty137 ty141
attribute [simp] ty142 ty144 ty145 ty150 ty151 ty153 ty154 ty155 ty156 ty157 sk4 ek52 en52 ek53 en53 ek56 en56 ek57 en57 ek96
attribute [simp] en96 ek97 en97 en98 en99 mp44 mp45 mp69 mp86
end Go.Proofs.YtdkcmfafganhhaaDoor
