/- Of each type of the program what the abstract machine asks of it. -/
import Derived.Test.YthemglpccpjokaaGreatProg
import Derived.Test.YthemglpccpjokaaGreatM3
set_option linter.unusedSimpArgs false
set_option linter.unusedVariables false
set_option linter.unusedSectionVars false
namespace Go.Proofs.YthemglpccpjokaaGreat
open Go.RowKit
theorem ty2 : ty Tryz.prog 2 = some ⟨1, false, [.int .i64 0], false, 0, none, [], (some .i64), false, [], 0⟩ := by kernel_rfl
theorem ty3 : ty Tryz.prog 3 = some ⟨1, false, [.int .i64 0], false, 0, none, [], (some .i64), false, [], 0⟩ := by kernel_rfl
theorem ty4 : ty Tryz.prog 4 = some ⟨1, false, [.bool false], false, 0, none, [], none, false, [], 0⟩ := by kernel_rfl
theorem ty5 : ty Tryz.prog 5 = some ⟨1, false, [.int .u8 0], false, 0, none, [], (some .u8), false, [], 0⟩ := by kernel_rfl
theorem ty6 : ty Tryz.prog 6 = some ⟨1, false, [.int .u8 0], false, 0, none, [], (some .u8), false, [], 0⟩ := by kernel_rfl
theorem ty7 : ty Tryz.prog 7 = some ⟨4, true, [.int .i64 0, .int .i64 0, .bool false, .int .u8 0], false, 0, none, [(0, 2), (1, 3), (2, 4), (3, 6)], none, false, [(0, 1), (1, 1), (2, 1), (3, 1)], 0⟩ := by kernel_rfl
theorem ty8 : ty Tryz.prog 8 = some ⟨4, true, [.int .i64 0, .int .i64 0, .bool false, .int .u8 0], false, 0, none, [(0, 2), (1, 3), (2, 4), (3, 6)], none, false, [(0, 1), (1, 1), (2, 1), (3, 1)], 0⟩ := by kernel_rfl
theorem ty9 : ty Tryz.prog 9 = some ⟨1, false, [.str ByteArray.empty], false, 0, none, [], none, true, [], 0⟩ := by kernel_rfl
theorem ty10 : ty Tryz.prog 10 = some ⟨1, false, [.str ByteArray.empty], false, 0, none, [], none, true, [], 0⟩ := by kernel_rfl
theorem ty11 : ty Tryz.prog 11 = some ⟨1, false, [.str ByteArray.empty], false, 0, none, [], none, true, [], 0⟩ := by kernel_rfl
theorem ty12 : ty Tryz.prog 12 = some ⟨1, false, [.int .u64 0], false, 0, none, [], (some .u64), false, [], 0⟩ := by kernel_rfl
theorem ty13 : ty Tryz.prog 13 = some ⟨2, true, [.str ByteArray.empty, .int .u64 0], false, 0, none, [(0, 9), (1, 12)], none, false, [(0, 1), (1, 1)], 0⟩ := by kernel_rfl
theorem ty14 : ty Tryz.prog 14 = some ⟨2, true, [.str ByteArray.empty, .int .u64 0], false, 0, none, [(0, 9), (1, 12)], none, false, [(0, 1), (1, 1)], 0⟩ := by kernel_rfl
theorem ty15 : ty Tryz.prog 15 = some ⟨1, false, [.nilp], false, 0, none, [], none, false, [], 0⟩ := by kernel_rfl
theorem ty16 : ty Tryz.prog 16 = some ⟨1, false, [.nilp], false, 0, none, [], none, false, [], 0⟩ := by kernel_rfl
theorem ty17 : ty Tryz.prog 17 = some ⟨1, false, [.nilp], false, 0, none, [], none, false, [], 0⟩ := by kernel_rfl
theorem ty18 : ty Tryz.prog 18 = some ⟨1, true, [.nilp], false, 0, none, [(0, 17)], none, false, [(0, 1)], 0⟩ := by kernel_rfl
theorem ty19 : ty Tryz.prog 19 = some ⟨1, true, [.nilp], false, 0, none, [(0, 17)], none, false, [(0, 1)], 0⟩ := by kernel_rfl
theorem ty21 : ty Tryz.prog 21 = some ⟨1, false, [.int .i32 0], false, 0, none, [], (some .i32), false, [], 0⟩ := by kernel_rfl
theorem ty22 : ty Tryz.prog 22 = some ⟨1, false, [.nils], true, 25, none, [], none, false, [], 0⟩ := by kernel_rfl
theorem ty23 : ty Tryz.prog 23 = some ⟨1, false, [.nils], true, 9, none, [], none, false, [], 0⟩ := by kernel_rfl
theorem ty24 : ty Tryz.prog 24 = some ⟨5, true, [.str ByteArray.empty, .int .i64 0, .int .i64 0, .int .i64 0, .nils], false, 0, none, [(0, 9), (1, 3), (2, 3), (3, 3), (4, 23)], none, false, [(0, 1), (1, 1), (2, 1), (3, 1), (4, 1)], 0⟩ := by kernel_rfl
theorem ty25 : ty Tryz.prog 25 = some ⟨5, true, [.str ByteArray.empty, .int .i64 0, .int .i64 0, .int .i64 0, .nils], false, 0, none, [(0, 9), (1, 3), (2, 3), (3, 3), (4, 23)], none, false, [(0, 1), (1, 1), (2, 1), (3, 1), (4, 1)], 0⟩ := by kernel_rfl
theorem ty26 : ty Tryz.prog 26 = some ⟨1, false, [.nils], true, 85, none, [], none, false, [], 0⟩ := by kernel_rfl
theorem ty27 : ty Tryz.prog 27 = some ⟨1, false, [.nils], true, 49, none, [], none, false, [], 0⟩ := by kernel_rfl
theorem ty28 : ty Tryz.prog 28 = some ⟨9, true, [.nils, .str ByteArray.empty, .int .i64 0, .int .i64 0, .int .i64 0, .nils, .int .i64 0, .nils, .nils], false, 0, none, [(0, 22), (1, 25), (6, 3), (7, 26), (8, 27)], none, false, [(0, 1), (1, 5), (6, 1), (7, 1), (8, 1)], 0⟩ := by kernel_rfl
theorem ty29 : ty Tryz.prog 29 = some ⟨9, true, [.nils, .str ByteArray.empty, .int .i64 0, .int .i64 0, .int .i64 0, .nils, .int .i64 0, .nils, .nils], false, 0, none, [(0, 22), (1, 25), (6, 3), (7, 26), (8, 27)], none, false, [(0, 1), (1, 5), (6, 1), (7, 1), (8, 1)], 0⟩ := by kernel_rfl
theorem ty32 : ty Tryz.prog 32 = some ⟨1, false, [.int .i64 0], false, 0, none, [], (some .i64), false, [], 0⟩ := by kernel_rfl
theorem ty37 : ty Tryz.prog 37 = some ⟨2, true, [.int .i64 0, .int .i64 0], false, 3, (some 2), [], none, false, [], 1⟩ := by kernel_rfl
theorem ty42 : ty Tryz.prog 42 = some ⟨1, false, [.nils], true, 3, none, [], none, false, [], 0⟩ := by kernel_rfl
theorem ty48 : ty Tryz.prog 48 = some ⟨3, true, [.int .i64 0, .int .i64 0, .str ByteArray.empty], false, 0, none, [(0, 3), (1, 3), (2, 9)], none, false, [(0, 1), (1, 1), (2, 1)], 0⟩ := by kernel_rfl
theorem ty49 : ty Tryz.prog 49 = some ⟨3, true, [.int .i64 0, .int .i64 0, .str ByteArray.empty], false, 0, none, [(0, 3), (1, 3), (2, 9)], none, false, [(0, 1), (1, 1), (2, 1)], 0⟩ := by kernel_rfl
theorem ty71 : ty Tryz.prog 71 = some ⟨7, true, [.int .i64 0, .int .i64 0, .int .i64 0, .str ByteArray.empty, .int .i64 0, .int .i64 0, .nils], false, 0, none, [(0, 3), (1, 49), (4, 3), (5, 3), (6, 27)], none, false, [(0, 1), (1, 3), (4, 1), (5, 1), (6, 1)], 0⟩ := by kernel_rfl
theorem ty72 : ty Tryz.prog 72 = some ⟨7, true, [.int .i64 0, .int .i64 0, .int .i64 0, .str ByteArray.empty, .int .i64 0, .int .i64 0, .nils], false, 0, none, [(0, 3), (1, 49), (4, 3), (5, 3), (6, 27)], none, false, [(0, 1), (1, 3), (4, 1), (5, 1), (6, 1)], 0⟩ := by kernel_rfl
theorem ty83 : ty Tryz.prog 83 = some ⟨1, false, [.nils], true, 72, none, [], none, false, [], 0⟩ := by kernel_rfl
theorem ty84 : ty Tryz.prog 84 = some ⟨4, true, [.nils, .int .i64 0, .int .i64 0, .str ByteArray.empty], false, 0, none, [(0, 83), (1, 49)], none, false, [(0, 1), (1, 3)], 0⟩ := by kernel_rfl
theorem ty85 : ty Tryz.prog 85 = some ⟨4, true, [.nils, .int .i64 0, .int .i64 0, .str ByteArray.empty], false, 0, none, [(0, 83), (1, 49)], none, false, [(0, 1), (1, 3)], 0⟩ := by kernel_rfl
theorem ty99 : ty Tryz.prog 99 = some ⟨1, false, [.nils], true, 4, none, [], none, false, [], 0⟩ := by kernel_rfl
theorem ty116 : ty Tryz.prog 116 = some ⟨7, true, [.int .i64 0, .int .i64 0, .int .i64 0, .str ByteArray.empty, .int .i64 0, .int .i64 0, .nils], false, 0, none, [(0, 72)], none, false, [(0, 7)], 0⟩ := by kernel_rfl
theorem ty117 : ty Tryz.prog 117 = some ⟨7, true, [.int .i64 0, .int .i64 0, .int .i64 0, .str ByteArray.empty, .int .i64 0, .int .i64 0, .nils], false, 0, none, [(0, 72)], none, false, [(0, 7)], 0⟩ := by kernel_rfl
theorem ty121 : ty Tryz.prog 121 = some ⟨1, false, [.nils], true, 26, none, [], none, false, [], 0⟩ := by kernel_rfl
theorem ty143 : ty Tryz.prog 143 = some ⟨1, false, [.nilm], false, 0, none, [], none, false, [], 0⟩ := by kernel_rfl
theorem ty147 : ty Tryz.prog 147 = some ⟨1, false, [.nils], true, 5, none, [], none, false, [], 0⟩ := by kernel_rfl
theorem ty150 : ty Tryz.prog 150 = some ⟨1, false, [.int .u64 0], false, 0, none, [], (some .u64), false, [], 0⟩ := by kernel_rfl
theorem ty155 : ty Tryz.prog 155 = some ⟨1, false, [.int .i64 0], false, 0, none, [], (some .i64), false, [], 0⟩ := by kernel_rfl
theorem ty164 : ty Tryz.prog 164 = some ⟨1, false, [.int .u32 0], false, 0, none, [], (some .u32), false, [], 0⟩ := by kernel_rfl
theorem ty166 : ty Tryz.prog 166 = some ⟨1, false, [.int .u64 0], false, 0, none, [], (some .u64), false, [], 0⟩ := by kernel_rfl
theorem ty170 : ty Tryz.prog 170 = some ⟨1, false, [.int .u64 0], false, 0, none, [], (some .u64), false, [], 0⟩ := by kernel_rfl
theorem ty174 : ty Tryz.prog 174 = some ⟨1, false, [.nilp], false, 0, none, [], none, false, [], 0⟩ := by kernel_rfl
theorem ty176 : ty Tryz.prog 176 = some ⟨1, false, [.nilp], false, 0, none, [], none, false, [], 0⟩ := by kernel_rfl
theorem ty180 : ty Tryz.prog 180 = some ⟨4, true, [.nilp, .nilp, .nilp, .str ByteArray.empty], false, 0, none, [(0, 17), (1, 17), (2, 17), (3, 9)], none, false, [(0, 1), (1, 1), (2, 1), (3, 1)], 0⟩ := by kernel_rfl
theorem ty181 : ty Tryz.prog 181 = some ⟨4, true, [.nilp, .nilp, .nilp, .str ByteArray.empty], false, 0, none, [(0, 17), (1, 17), (2, 17), (3, 9)], none, false, [(0, 1), (1, 1), (2, 1), (3, 1)], 0⟩ := by kernel_rfl
theorem ty186 : ty Tryz.prog 186 = some ⟨1, false, [.int .u8 0], false, 0, none, [], (some .u8), false, [], 0⟩ := by kernel_rfl
theorem ty187 : ty Tryz.prog 187 = some ⟨1, false, [.int .u8 0], false, 0, none, [], (some .u8), false, [], 0⟩ := by kernel_rfl
theorem ty189 : ty Tryz.prog 189 = some ⟨1, false, [.nilp], false, 0, none, [], none, false, [], 0⟩ := by kernel_rfl
theorem ty190 : ty Tryz.prog 190 = some ⟨1, false, [.int .i32 0], false, 0, none, [], (some .i32), false, [], 0⟩ := by kernel_rfl
theorem ty191 : ty Tryz.prog 191 = some ⟨1, false, [.int .i32 0], false, 0, none, [], (some .i32), false, [], 0⟩ := by kernel_rfl
theorem ty192 : ty Tryz.prog 192 = some ⟨11, true, [.int .u64 0, .int .u64 0, .int .u32 0, .int .u8 0, .int .u8 0, .int .u8 0, .int .u8 0, .nilf, .nilp, .int .i32 0, .int .i32 0], false, 0, none, [(0, 12), (1, 12), (2, 164), (3, 186), (4, 5), (5, 5), (6, 187), (7, 188), (8, 189), (9, 190), (10, 191)], none, false, [(0, 1), (1, 1), (2, 1), (3, 1), (4, 1), (5, 1), (6, 1), (7, 1), (8, 1), (9, 1), (10, 1)], 0⟩ := by kernel_rfl
theorem ty193 : ty Tryz.prog 193 = some ⟨11, true, [.int .u64 0, .int .u64 0, .int .u32 0, .int .u8 0, .int .u8 0, .int .u8 0, .int .u8 0, .nilf, .nilp, .int .i32 0, .int .i32 0], false, 0, none, [(0, 12), (1, 12), (2, 164), (3, 186), (4, 5), (5, 5), (6, 187), (7, 188), (8, 189), (9, 190), (10, 191)], none, false, [(0, 1), (1, 1), (2, 1), (3, 1), (4, 1), (5, 1), (6, 1), (7, 1), (8, 1), (9, 1), (10, 1)], 0⟩ := by kernel_rfl
theorem sk4 : skind Tryz.prog 4 = some 1 := by kernel_rfl
theorem en37 : eqKindsN Tryz.prog 37 = some [0, 0] := by kernel_rfl
theorem ek48 : eqKinds Tryz.prog 48 = some [0, 0, 2] := by kernel_rfl
theorem en48 : eqKindsN Tryz.prog 48 = some [0, 0, 2] := by kernel_rfl
theorem ek49 : eqKinds Tryz.prog 49 = some [0, 0, 2] := by kernel_rfl
theorem en49 : eqKindsN Tryz.prog 49 = some [0, 0, 2] := by kernel_rfl
theorem mp143 : mapTy Tryz.prog 143 = some (.bool false, (false, [2])) := by kernel_rfl
theorem mixed : Tryz.prog.follows .mixedOrders = true := by kernel_rfl
attribute [simp] ty2 ty3 ty4 ty5 ty6 ty7 ty8 ty9 ty10 ty11 ty12 ty13 ty14 ty15 ty16 ty17 ty18 ty19 ty21 ty22
attribute [simp] ty23 ty24 ty25 ty26 ty27 ty28 ty29 ty32 ty37 ty42 ty48 ty49 ty71 ty72 ty83 ty84 ty85 ty99 ty116 ty117
attribute [simp] ty121 ty143 ty147 ty150 ty155 ty164 ty166 ty170 ty174 ty176 ty180 ty181 ty186 ty187 ty189 ty190 ty191 ty192 ty193 sk4
attribute [simp] en37 ek48 en48 ek49 en49 mp143
end Go.Proofs.YthemglpccpjokaaGreat
