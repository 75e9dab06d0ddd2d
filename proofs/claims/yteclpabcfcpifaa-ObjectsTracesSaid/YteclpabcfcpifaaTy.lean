/- Of each type of the program what the abstract machine asks of it. -/
import Derived.Test.YteclpabcfcpifaaProg
import Derived.Test.YteclpabcfcpifaaM2
namespace Go.Proofs.Yteclpabcfcpifaa
set_option linter.unusedSimpArgs false
set_option linter.unusedVariables false
set_option linter.unusedSectionVars false
open Go.RowKit
theorem ty2 : ty Try.prog 2 = some ⟨1, false, [.int .i64 0], false, 0, none, [], (some .i64), false, [], 0⟩ := by kernel_rfl
theorem ty3 : ty Try.prog 3 = some ⟨1, false, [.int .i64 0], false, 0, none, [], (some .i64), false, [], 0⟩ := by kernel_rfl
theorem ty4 : ty Try.prog 4 = some ⟨1, false, [.bool false], false, 0, none, [], none, false, [], 0⟩ := by kernel_rfl
theorem ty5 : ty Try.prog 5 = some ⟨1, false, [.int .u8 0], false, 0, none, [], (some .u8), false, [], 0⟩ := by kernel_rfl
theorem ty6 : ty Try.prog 6 = some ⟨1, false, [.int .u8 0], false, 0, none, [], (some .u8), false, [], 0⟩ := by kernel_rfl
theorem ty7 : ty Try.prog 7 = some ⟨4, true, [.int .i64 0, .int .i64 0, .bool false, .int .u8 0], false, 0, none, [(0, 2), (1, 3), (2, 4), (3, 6)], none, false, [(0, 1), (1, 1), (2, 1), (3, 1)], 0⟩ := by kernel_rfl
theorem ty8 : ty Try.prog 8 = some ⟨4, true, [.int .i64 0, .int .i64 0, .bool false, .int .u8 0], false, 0, none, [(0, 2), (1, 3), (2, 4), (3, 6)], none, false, [(0, 1), (1, 1), (2, 1), (3, 1)], 0⟩ := by kernel_rfl
theorem ty9 : ty Try.prog 9 = some ⟨1, false, [.str ByteArray.empty], false, 0, none, [], none, true, [], 0⟩ := by kernel_rfl
theorem ty10 : ty Try.prog 10 = some ⟨1, false, [.str ByteArray.empty], false, 0, none, [], none, true, [], 0⟩ := by kernel_rfl
theorem ty11 : ty Try.prog 11 = some ⟨1, false, [.str ByteArray.empty], false, 0, none, [], none, true, [], 0⟩ := by kernel_rfl
theorem ty12 : ty Try.prog 12 = some ⟨1, false, [.int .u64 0], false, 0, none, [], (some .u64), false, [], 0⟩ := by kernel_rfl
theorem ty13 : ty Try.prog 13 = some ⟨2, true, [.str ByteArray.empty, .int .u64 0], false, 0, none, [(0, 9), (1, 12)], none, false, [(0, 1), (1, 1)], 0⟩ := by kernel_rfl
theorem ty14 : ty Try.prog 14 = some ⟨2, true, [.str ByteArray.empty, .int .u64 0], false, 0, none, [(0, 9), (1, 12)], none, false, [(0, 1), (1, 1)], 0⟩ := by kernel_rfl
theorem ty15 : ty Try.prog 15 = some ⟨1, false, [.nilp], false, 0, none, [], none, false, [], 0⟩ := by kernel_rfl
theorem ty16 : ty Try.prog 16 = some ⟨1, false, [.nilp], false, 0, none, [], none, false, [], 0⟩ := by kernel_rfl
theorem ty17 : ty Try.prog 17 = some ⟨1, false, [.nilp], false, 0, none, [], none, false, [], 0⟩ := by kernel_rfl
theorem ty18 : ty Try.prog 18 = some ⟨1, true, [.nilp], false, 0, none, [(0, 17)], none, false, [(0, 1)], 0⟩ := by kernel_rfl
theorem ty19 : ty Try.prog 19 = some ⟨1, true, [.nilp], false, 0, none, [(0, 17)], none, false, [(0, 1)], 0⟩ := by kernel_rfl
theorem ty21 : ty Try.prog 21 = some ⟨1, false, [.int .i32 0], false, 0, none, [], (some .i32), false, [], 0⟩ := by kernel_rfl
theorem ty22 : ty Try.prog 22 = some ⟨1, false, [.nils], true, 46, none, [], none, false, [], 0⟩ := by kernel_rfl
theorem ty23 : ty Try.prog 23 = some ⟨1, true, [.nils], false, 0, none, [(0, 22)], none, false, [(0, 1)], 0⟩ := by kernel_rfl
theorem ty24 : ty Try.prog 24 = some ⟨1, true, [.nils], false, 0, none, [(0, 22)], none, false, [(0, 1)], 0⟩ := by kernel_rfl
theorem ty27 : ty Try.prog 27 = some ⟨3, true, [.int .i64 0, .int .i64 0, .bool false], false, 0, none, [(0, 3), (1, 3), (2, 4)], none, false, [(0, 1), (1, 1), (2, 1)], 0⟩ := by kernel_rfl
theorem ty28 : ty Try.prog 28 = some ⟨3, true, [.int .i64 0, .int .i64 0, .bool false], false, 0, none, [(0, 3), (1, 3), (2, 4)], none, false, [(0, 1), (1, 1), (2, 1)], 0⟩ := by kernel_rfl
theorem ty29 : ty Try.prog 29 = some ⟨1, false, [.int .i64 0], false, 0, none, [], (some .i64), false, [], 0⟩ := by kernel_rfl
theorem ty39 : ty Try.prog 39 = some ⟨1, false, [.nils], true, 42, none, [], none, false, [], 0⟩ := by kernel_rfl
theorem ty42 : ty Try.prog 42 = some ⟨1, false, [.nils], true, 3, none, [], none, false, [], 0⟩ := by kernel_rfl
theorem ty44 : ty Try.prog 44 = some ⟨1, false, [.nils], true, 49, none, [], none, false, [], 0⟩ := by kernel_rfl
theorem ty45 : ty Try.prog 45 = some ⟨3, true, [.str ByteArray.empty, .int .i64 0, .nils], false, 0, none, [(0, 9), (1, 3), (2, 44)], none, false, [(0, 1), (1, 1), (2, 1)], 0⟩ := by kernel_rfl
theorem ty46 : ty Try.prog 46 = some ⟨3, true, [.str ByteArray.empty, .int .i64 0, .nils], false, 0, none, [(0, 9), (1, 3), (2, 44)], none, false, [(0, 1), (1, 1), (2, 1)], 0⟩ := by kernel_rfl
theorem ty48 : ty Try.prog 48 = some ⟨2, true, [.str ByteArray.empty, .str ByteArray.empty], false, 0, none, [(0, 9), (1, 9)], none, false, [(0, 1), (1, 1)], 0⟩ := by kernel_rfl
theorem ty49 : ty Try.prog 49 = some ⟨2, true, [.str ByteArray.empty, .str ByteArray.empty], false, 0, none, [(0, 9), (1, 9)], none, false, [(0, 1), (1, 1)], 0⟩ := by kernel_rfl
theorem ty57 : ty Try.prog 57 = some ⟨1, false, [.nils], true, 9, none, [], none, false, [], 0⟩ := by kernel_rfl
theorem ty60 : ty Try.prog 60 = some ⟨1, false, [.nils], true, 80, none, [], none, false, [], 0⟩ := by kernel_rfl
theorem ty61 : ty Try.prog 61 = some ⟨1, true, [.nils], false, 0, none, [(0, 60)], none, false, [(0, 1)], 0⟩ := by kernel_rfl
theorem ty62 : ty Try.prog 62 = some ⟨1, true, [.nils], false, 0, none, [(0, 60)], none, false, [(0, 1)], 0⟩ := by kernel_rfl
theorem ty72 : ty Try.prog 72 = some ⟨1, false, [.nils], true, 76, none, [], none, false, [], 0⟩ := by kernel_rfl
theorem ty75 : ty Try.prog 75 = some ⟨2, true, [.str ByteArray.empty, .nils], false, 0, none, [(0, 9), (1, 57)], none, false, [(0, 1), (1, 1)], 0⟩ := by kernel_rfl
theorem ty76 : ty Try.prog 76 = some ⟨2, true, [.str ByteArray.empty, .nils], false, 0, none, [(0, 9), (1, 57)], none, false, [(0, 1), (1, 1)], 0⟩ := by kernel_rfl
theorem ty78 : ty Try.prog 78 = some ⟨1, false, [.nils], true, 120, none, [], none, false, [], 0⟩ := by kernel_rfl
theorem ty79 : ty Try.prog 79 = some ⟨6, true, [.str ByteArray.empty, .str ByteArray.empty, .str ByteArray.empty, .int .i64 0, .int .i64 0, .nils], false, 0, none, [(0, 9), (1, 9), (2, 9), (3, 3), (4, 3), (5, 78)], none, false, [(0, 1), (1, 1), (2, 1), (3, 1), (4, 1), (5, 1)], 0⟩ := by kernel_rfl
theorem ty80 : ty Try.prog 80 = some ⟨6, true, [.str ByteArray.empty, .str ByteArray.empty, .str ByteArray.empty, .int .i64 0, .int .i64 0, .nils], false, 0, none, [(0, 9), (1, 9), (2, 9), (3, 3), (4, 3), (5, 78)], none, false, [(0, 1), (1, 1), (2, 1), (3, 1), (4, 1), (5, 1)], 0⟩ := by kernel_rfl
theorem ty85 : ty Try.prog 85 = some ⟨1, false, [.nilm], false, 0, none, [], none, false, [], 0⟩ := by kernel_rfl
theorem ty90 : ty Try.prog 90 = some ⟨1, false, [.nilm], false, 0, none, [], none, false, [], 0⟩ := by kernel_rfl
theorem ty104 : ty Try.prog 104 = some ⟨1, false, [.nilm], false, 0, none, [], none, false, [], 0⟩ := by kernel_rfl
theorem ty109 : ty Try.prog 109 = some ⟨1, false, [.nils], true, 3, none, [], none, false, [], 0⟩ := by kernel_rfl
theorem ty115 : ty Try.prog 115 = some ⟨1, false, [.int .u64 0], false, 0, none, [], (some .u64), false, [], 0⟩ := by kernel_rfl
theorem ty117 : ty Try.prog 117 = some ⟨3, true, [.int .i64 0, .int .i64 0, .str ByteArray.empty], false, 0, none, [(0, 3), (1, 3), (2, 9)], none, false, [(0, 1), (1, 1), (2, 1)], 0⟩ := by kernel_rfl
theorem ty118 : ty Try.prog 118 = some ⟨3, true, [.int .i64 0, .int .i64 0, .str ByteArray.empty], false, 0, none, [(0, 3), (1, 3), (2, 9)], none, false, [(0, 1), (1, 1), (2, 1)], 0⟩ := by kernel_rfl
theorem ty119 : ty Try.prog 119 = some ⟨4, true, [.str ByteArray.empty, .int .i64 0, .int .i64 0, .str ByteArray.empty], false, 0, none, [(0, 9), (1, 118)], none, false, [(0, 1), (1, 3)], 0⟩ := by kernel_rfl
theorem ty120 : ty Try.prog 120 = some ⟨4, true, [.str ByteArray.empty, .int .i64 0, .int .i64 0, .str ByteArray.empty], false, 0, none, [(0, 9), (1, 118)], none, false, [(0, 1), (1, 3)], 0⟩ := by kernel_rfl
theorem ty122 : ty Try.prog 122 = some ⟨1, false, [.nilm], false, 0, none, [], none, false, [], 0⟩ := by kernel_rfl
theorem ty128 : ty Try.prog 128 = some ⟨1, false, [.int .i64 0], false, 0, none, [], (some .i64), false, [], 0⟩ := by kernel_rfl
theorem ty136 : ty Try.prog 136 = some ⟨1, false, [.int .u32 0], false, 0, none, [], (some .u32), false, [], 0⟩ := by kernel_rfl
theorem ty138 : ty Try.prog 138 = some ⟨1, false, [.int .u64 0], false, 0, none, [], (some .u64), false, [], 0⟩ := by kernel_rfl
theorem ty139 : ty Try.prog 139 = some ⟨1, false, [.int .u64 0], false, 0, none, [], (some .u64), false, [], 0⟩ := by kernel_rfl
theorem ty143 : ty Try.prog 143 = some ⟨1, false, [.nilp], false, 0, none, [], none, false, [], 0⟩ := by kernel_rfl
theorem ty146 : ty Try.prog 146 = some ⟨1, false, [.nils], true, 5, none, [], none, false, [], 0⟩ := by kernel_rfl
theorem ty148 : ty Try.prog 148 = some ⟨1, false, [.nilp], false, 0, none, [], none, false, [], 0⟩ := by kernel_rfl
theorem ty152 : ty Try.prog 152 = some ⟨4, true, [.nilp, .nilp, .nilp, .str ByteArray.empty], false, 0, none, [(0, 17), (1, 17), (2, 17), (3, 9)], none, false, [(0, 1), (1, 1), (2, 1), (3, 1)], 0⟩ := by kernel_rfl
theorem ty153 : ty Try.prog 153 = some ⟨4, true, [.nilp, .nilp, .nilp, .str ByteArray.empty], false, 0, none, [(0, 17), (1, 17), (2, 17), (3, 9)], none, false, [(0, 1), (1, 1), (2, 1), (3, 1)], 0⟩ := by kernel_rfl
theorem ty158 : ty Try.prog 158 = some ⟨1, false, [.int .u8 0], false, 0, none, [], (some .u8), false, [], 0⟩ := by kernel_rfl
theorem ty159 : ty Try.prog 159 = some ⟨1, false, [.int .u8 0], false, 0, none, [], (some .u8), false, [], 0⟩ := by kernel_rfl
theorem ty161 : ty Try.prog 161 = some ⟨1, false, [.nilp], false, 0, none, [], none, false, [], 0⟩ := by kernel_rfl
theorem ty162 : ty Try.prog 162 = some ⟨1, false, [.int .i32 0], false, 0, none, [], (some .i32), false, [], 0⟩ := by kernel_rfl
theorem ty163 : ty Try.prog 163 = some ⟨1, false, [.int .i32 0], false, 0, none, [], (some .i32), false, [], 0⟩ := by kernel_rfl
theorem ty164 : ty Try.prog 164 = some ⟨11, true, [.int .u64 0, .int .u64 0, .int .u32 0, .int .u8 0, .int .u8 0, .int .u8 0, .int .u8 0, .nilf, .nilp, .int .i32 0, .int .i32 0], false, 0, none, [(0, 12), (1, 12), (2, 136), (3, 158), (4, 5), (5, 5), (6, 159), (7, 160), (8, 161), (9, 162), (10, 163)], none, false, [(0, 1), (1, 1), (2, 1), (3, 1), (4, 1), (5, 1), (6, 1), (7, 1), (8, 1), (9, 1), (10, 1)], 0⟩ := by kernel_rfl
theorem ty165 : ty Try.prog 165 = some ⟨11, true, [.int .u64 0, .int .u64 0, .int .u32 0, .int .u8 0, .int .u8 0, .int .u8 0, .int .u8 0, .nilf, .nilp, .int .i32 0, .int .i32 0], false, 0, none, [(0, 12), (1, 12), (2, 136), (3, 158), (4, 5), (5, 5), (6, 159), (7, 160), (8, 161), (9, 162), (10, 163)], none, false, [(0, 1), (1, 1), (2, 1), (3, 1), (4, 1), (5, 1), (6, 1), (7, 1), (8, 1), (9, 1), (10, 1)], 0⟩ := by kernel_rfl
theorem sk4 : skind Try.prog 4 = some 1 := by kernel_rfl
theorem ek27 : eqKinds Try.prog 27 = some [0, 0, 1] := by kernel_rfl
theorem en27 : eqKindsN Try.prog 27 = some [0, 0, 1] := by kernel_rfl
theorem ek28 : eqKinds Try.prog 28 = some [0, 0, 1] := by kernel_rfl
theorem en28 : eqKindsN Try.prog 28 = some [0, 0, 1] := by kernel_rfl
theorem ek48 : eqKinds Try.prog 48 = some [2, 2] := by kernel_rfl
theorem en48 : eqKindsN Try.prog 48 = some [2, 2] := by kernel_rfl
theorem ek49 : eqKinds Try.prog 49 = some [2, 2] := by kernel_rfl
theorem en49 : eqKindsN Try.prog 49 = some [2, 2] := by kernel_rfl
theorem ek117 : eqKinds Try.prog 117 = some [0, 0, 2] := by kernel_rfl
theorem en117 : eqKindsN Try.prog 117 = some [0, 0, 2] := by kernel_rfl
theorem ek118 : eqKinds Try.prog 118 = some [0, 0, 2] := by kernel_rfl
theorem en118 : eqKindsN Try.prog 118 = some [0, 0, 2] := by kernel_rfl
theorem en119 : eqKindsN Try.prog 119 = some [2, 0, 0, 2] := by kernel_rfl
theorem en120 : eqKindsN Try.prog 120 = some [2, 0, 0, 2] := by kernel_rfl
theorem mp85 : mapTy Try.prog 85 = some (.int .i64 0, (true, [2, 2])) := by kernel_rfl
theorem mp90 : mapTy Try.prog 90 = some (.int .i64 0, (false, [0])) := by kernel_rfl
theorem mp104 : mapTy Try.prog 104 = some (.nils, (false, [2])) := by kernel_rfl
theorem mp122 : mapTy Try.prog 122 = some (.bool false, (false, [2])) := by kernel_rfl
theorem mixed : Try.prog.follows .mixedOrders = true := by kernel_rfl
attribute [simp] ty2 ty3 ty4 ty5 ty6 ty7 ty8 ty9 ty10 ty11 ty12 ty13 ty14 ty15 ty16 ty17 ty18 ty19 ty21 ty22
attribute [simp] ty23 ty24 ty27 ty28 ty29 ty39 ty42 ty44 ty45 ty46 ty48 ty49 ty57 ty60 ty61 ty62 ty72 ty75 ty76 ty78
attribute [simp] ty79 ty80 ty85 ty90 ty104 ty109 ty115 ty117 ty118 ty119 ty120 ty122 ty128 ty136 ty138 ty139 ty143 ty146 ty148 ty152
attribute [simp] ty153 ty158 ty159 ty161 ty162 ty163 ty164 ty165 sk4 ek27 en27 ek28 en28 ek48 en48 ek49 en49 ek117 en117 ek118
attribute [simp] en118 en119 en120 mp85 mp90 mp104 mp122
end Go.Proofs.Yteclpabcfcpifaa
