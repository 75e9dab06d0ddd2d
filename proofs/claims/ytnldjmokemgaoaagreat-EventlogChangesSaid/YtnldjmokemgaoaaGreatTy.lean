/- Of each type of the program what the abstract machine asks of it. -/
import Derived.Test.YtnldjmokemgaoaaGreatProg
import Derived.Test.YtnldjmokemgaoaaGreatM2
namespace Go.Proofs.YtnldjmokemgaoaaGreat
set_option linter.unusedSimpArgs false
set_option linter.unusedVariables false
set_option linter.unusedSectionVars false
open Go.RowKit
theorem ty2 : ty Tryz.prog 2 = some ⟨1, false, [.int .i64 0], false, 0, none, [], (some .i64), false, [], 0⟩ := by kernel_rfl
theorem ty3 : ty Tryz.prog 3 = some ⟨1, false, [.int .i64 0], false, 0, none, [], (some .i64), false, [], 0⟩ := by kernel_rfl
theorem ty4 : ty Tryz.prog 4 = some ⟨1, false, [.bool false], false, 0, none, [], none, false, [], 0⟩ := by kernel_rfl
theorem ty5 : ty Tryz.prog 5 = some ⟨1, false, [.int .u8 0], false, 0, none, [], (some .u8), false, [], 0⟩ := by kernel_rfl
theorem ty6 : ty Tryz.prog 6 = some ⟨1, false, [.int .u8 0], false, 0, none, [], (some .u8), false, [], 0⟩ := by kernel_rfl
theorem ty7 : ty Tryz.prog 7 = some ⟨4, true, [.int .i64 0, .int .i64 0, .bool false, .int .u8 0], false, 0, none, [(0, 2), (1, 3), (2, 4), (3, 6)], none, false, [(0, 1), (1, 1), (2, 1), (3, 1)], 0⟩ := by kernel_rfl
theorem ty8 : ty Tryz.prog 8 = some ⟨4, true, [.int .i64 0, .int .i64 0, .bool false, .int .u8 0], false, 0, none, [(0, 2), (1, 3), (2, 4), (3, 6)], none, false, [(0, 1), (1, 1), (2, 1), (3, 1)], 0⟩ := by kernel_rfl
theorem ty9 : ty Tryz.prog 9 = some ⟨1, false, [.str ByteArray.empty], false, 0, none, [], none, true, [], 0⟩ := by kernel_rfl
theorem ty10 : ty Tryz.prog 10 = some ⟨1, false, [.str ByteArray.empty], false, 0, none, [], none, true, [], 0⟩ := by kernel_rfl
theorem ty11 : ty Tryz.prog 11 = some ⟨1, false, [.str ByteArray.empty], false, 0, none, [], none, true, [], 0⟩ := by kernel_rfl
theorem ty12 : ty Tryz.prog 12 = some ⟨1, false, [.int .u64 0], false, 0, none, [], (some .u64), false, [], 0⟩ := by kernel_rfl
theorem ty13 : ty Tryz.prog 13 = some ⟨2, true, [.str ByteArray.empty, .int .u64 0], false, 0, none, [(0, 9), (1, 12)], none, false, [(0, 1), (1, 1)], 0⟩ := by kernel_rfl
theorem ty14 : ty Tryz.prog 14 = some ⟨2, true, [.str ByteArray.empty, .int .u64 0], false, 0, none, [(0, 9), (1, 12)], none, false, [(0, 1), (1, 1)], 0⟩ := by kernel_rfl
theorem ty15 : ty Tryz.prog 15 = some ⟨1, false, [.nilp], false, 0, none, [], none, false, [], 0⟩ := by kernel_rfl
theorem ty16 : ty Tryz.prog 16 = some ⟨1, false, [.nilp], false, 0, none, [], none, false, [], 0⟩ := by kernel_rfl
theorem ty17 : ty Tryz.prog 17 = some ⟨1, false, [.nilp], false, 0, none, [], none, false, [], 0⟩ := by kernel_rfl
theorem ty18 : ty Tryz.prog 18 = some ⟨1, true, [.nilp], false, 0, none, [(0, 17)], none, false, [(0, 1)], 0⟩ := by kernel_rfl
theorem ty19 : ty Tryz.prog 19 = some ⟨1, true, [.nilp], false, 0, none, [(0, 17)], none, false, [(0, 1)], 0⟩ := by kernel_rfl
theorem ty21 : ty Tryz.prog 21 = some ⟨1, false, [.int .i32 0], false, 0, none, [], (some .i32), false, [], 0⟩ := by kernel_rfl
theorem ty22 : ty Tryz.prog 22 = some ⟨1, false, [.nils], true, 57, none, [], none, false, [], 0⟩ := by kernel_rfl
theorem ty23 : ty Tryz.prog 23 = some ⟨1, true, [.nils], false, 0, none, [(0, 22)], none, false, [(0, 1)], 0⟩ := by kernel_rfl
theorem ty24 : ty Tryz.prog 24 = some ⟨1, true, [.nils], false, 0, none, [(0, 22)], none, false, [(0, 1)], 0⟩ := by kernel_rfl
theorem ty25 : ty Tryz.prog 25 = some ⟨1, false, [.nils], true, 61, none, [], none, false, [], 0⟩ := by kernel_rfl
theorem ty29 : ty Tryz.prog 29 = some ⟨1, false, [.int .i64 0], false, 0, none, [], (some .i64), false, [], 0⟩ := by kernel_rfl
theorem ty34 : ty Tryz.prog 34 = some ⟨1, false, [.nils], true, 9, none, [], none, false, [], 0⟩ := by kernel_rfl
theorem ty55 : ty Tryz.prog 55 = some ⟨1, false, [.nils], true, 98, none, [], none, false, [], 0⟩ := by kernel_rfl
theorem ty56 : ty Tryz.prog 56 = some ⟨6, true, [.str ByteArray.empty, .str ByteArray.empty, .str ByteArray.empty, .int .i64 0, .int .i64 0, .nils], false, 0, none, [(0, 9), (1, 9), (2, 9), (3, 3), (4, 3), (5, 55)], none, false, [(0, 1), (1, 1), (2, 1), (3, 1), (4, 1), (5, 1)], 0⟩ := by kernel_rfl
theorem ty57 : ty Tryz.prog 57 = some ⟨6, true, [.str ByteArray.empty, .str ByteArray.empty, .str ByteArray.empty, .int .i64 0, .int .i64 0, .nils], false, 0, none, [(0, 9), (1, 9), (2, 9), (3, 3), (4, 3), (5, 55)], none, false, [(0, 1), (1, 1), (2, 1), (3, 1), (4, 1), (5, 1)], 0⟩ := by kernel_rfl
theorem ty60 : ty Tryz.prog 60 = some ⟨2, true, [.nils, .int .i64 0], false, 0, none, [(0, 34), (1, 3)], none, false, [(0, 1), (1, 1)], 0⟩ := by kernel_rfl
theorem ty61 : ty Tryz.prog 61 = some ⟨2, true, [.nils, .int .i64 0], false, 0, none, [(0, 34), (1, 3)], none, false, [(0, 1), (1, 1)], 0⟩ := by kernel_rfl
theorem ty66 : ty Tryz.prog 66 = some ⟨1, false, [.nils], true, 71, none, [], none, false, [], 0⟩ := by kernel_rfl
theorem ty70 : ty Tryz.prog 70 = some ⟨2, true, [.str ByteArray.empty, .nils], false, 0, none, [(0, 9), (1, 34)], none, false, [(0, 1), (1, 1)], 0⟩ := by kernel_rfl
theorem ty71 : ty Tryz.prog 71 = some ⟨2, true, [.str ByteArray.empty, .nils], false, 0, none, [(0, 9), (1, 34)], none, false, [(0, 1), (1, 1)], 0⟩ := by kernel_rfl
theorem ty77 : ty Tryz.prog 77 = some ⟨1, false, [.nilm], false, 0, none, [], none, false, [], 0⟩ := by kernel_rfl
theorem ty90 : ty Tryz.prog 90 = some ⟨1, false, [.nilm], false, 0, none, [], none, false, [], 0⟩ := by kernel_rfl
theorem ty95 : ty Tryz.prog 95 = some ⟨3, true, [.int .i64 0, .int .i64 0, .str ByteArray.empty], false, 0, none, [(0, 3), (1, 3), (2, 9)], none, false, [(0, 1), (1, 1), (2, 1)], 0⟩ := by kernel_rfl
theorem ty96 : ty Tryz.prog 96 = some ⟨3, true, [.int .i64 0, .int .i64 0, .str ByteArray.empty], false, 0, none, [(0, 3), (1, 3), (2, 9)], none, false, [(0, 1), (1, 1), (2, 1)], 0⟩ := by kernel_rfl
theorem ty97 : ty Tryz.prog 97 = some ⟨4, true, [.str ByteArray.empty, .int .i64 0, .int .i64 0, .str ByteArray.empty], false, 0, none, [(0, 9), (1, 96)], none, false, [(0, 1), (1, 3)], 0⟩ := by kernel_rfl
theorem ty98 : ty Tryz.prog 98 = some ⟨4, true, [.str ByteArray.empty, .int .i64 0, .int .i64 0, .str ByteArray.empty], false, 0, none, [(0, 9), (1, 96)], none, false, [(0, 1), (1, 3)], 0⟩ := by kernel_rfl
theorem ty101 : ty Tryz.prog 101 = some ⟨1, false, [.nilm], false, 0, none, [], none, false, [], 0⟩ := by kernel_rfl
theorem ty104 : ty Tryz.prog 104 = some ⟨1, false, [.int .u64 0], false, 0, none, [], (some .u64), false, [], 0⟩ := by kernel_rfl
theorem ty107 : ty Tryz.prog 107 = some ⟨1, false, [.nils], true, 22, none, [], none, false, [], 0⟩ := by kernel_rfl
theorem ty113 : ty Tryz.prog 113 = some ⟨1, false, [.int .i64 0], false, 0, none, [], (some .i64), false, [], 0⟩ := by kernel_rfl
theorem ty121 : ty Tryz.prog 121 = some ⟨1, false, [.int .u32 0], false, 0, none, [], (some .u32), false, [], 0⟩ := by kernel_rfl
theorem ty123 : ty Tryz.prog 123 = some ⟨1, false, [.int .u64 0], false, 0, none, [], (some .u64), false, [], 0⟩ := by kernel_rfl
theorem ty131 : ty Tryz.prog 131 = some ⟨1, false, [.int .u64 0], false, 0, none, [], (some .u64), false, [], 0⟩ := by kernel_rfl
theorem ty135 : ty Tryz.prog 135 = some ⟨1, false, [.nilp], false, 0, none, [], none, false, [], 0⟩ := by kernel_rfl
theorem ty144 : ty Tryz.prog 144 = some ⟨1, false, [.nilp], false, 0, none, [], none, false, [], 0⟩ := by kernel_rfl
theorem ty150 : ty Tryz.prog 150 = some ⟨1, false, [.nils], true, 5, none, [], none, false, [], 0⟩ := by kernel_rfl
theorem ty154 : ty Tryz.prog 154 = some ⟨4, true, [.nilp, .nilp, .nilp, .str ByteArray.empty], false, 0, none, [(0, 17), (1, 17), (2, 17), (3, 9)], none, false, [(0, 1), (1, 1), (2, 1), (3, 1)], 0⟩ := by kernel_rfl
theorem ty155 : ty Tryz.prog 155 = some ⟨4, true, [.nilp, .nilp, .nilp, .str ByteArray.empty], false, 0, none, [(0, 17), (1, 17), (2, 17), (3, 9)], none, false, [(0, 1), (1, 1), (2, 1), (3, 1)], 0⟩ := by kernel_rfl
theorem ty160 : ty Tryz.prog 160 = some ⟨1, false, [.int .u8 0], false, 0, none, [], (some .u8), false, [], 0⟩ := by kernel_rfl
theorem ty161 : ty Tryz.prog 161 = some ⟨1, false, [.int .u8 0], false, 0, none, [], (some .u8), false, [], 0⟩ := by kernel_rfl
theorem ty163 : ty Tryz.prog 163 = some ⟨1, false, [.nilp], false, 0, none, [], none, false, [], 0⟩ := by kernel_rfl
theorem ty164 : ty Tryz.prog 164 = some ⟨1, false, [.int .i32 0], false, 0, none, [], (some .i32), false, [], 0⟩ := by kernel_rfl
theorem ty165 : ty Tryz.prog 165 = some ⟨1, false, [.int .i32 0], false, 0, none, [], (some .i32), false, [], 0⟩ := by kernel_rfl
theorem ty166 : ty Tryz.prog 166 = some ⟨11, true, [.int .u64 0, .int .u64 0, .int .u32 0, .int .u8 0, .int .u8 0, .int .u8 0, .int .u8 0, .nilf, .nilp, .int .i32 0, .int .i32 0], false, 0, none, [(0, 12), (1, 12), (2, 121), (3, 160), (4, 5), (5, 5), (6, 161), (7, 162), (8, 163), (9, 164), (10, 165)], none, false, [(0, 1), (1, 1), (2, 1), (3, 1), (4, 1), (5, 1), (6, 1), (7, 1), (8, 1), (9, 1), (10, 1)], 0⟩ := by kernel_rfl
theorem ty167 : ty Tryz.prog 167 = some ⟨11, true, [.int .u64 0, .int .u64 0, .int .u32 0, .int .u8 0, .int .u8 0, .int .u8 0, .int .u8 0, .nilf, .nilp, .int .i32 0, .int .i32 0], false, 0, none, [(0, 12), (1, 12), (2, 121), (3, 160), (4, 5), (5, 5), (6, 161), (7, 162), (8, 163), (9, 164), (10, 165)], none, false, [(0, 1), (1, 1), (2, 1), (3, 1), (4, 1), (5, 1), (6, 1), (7, 1), (8, 1), (9, 1), (10, 1)], 0⟩ := by kernel_rfl
theorem sk4 : skind Tryz.prog 4 = some 1 := by kernel_rfl
theorem ek95 : eqKinds Tryz.prog 95 = some [0, 0, 2] := by kernel_rfl
theorem en95 : eqKindsN Tryz.prog 95 = some [0, 0, 2] := by kernel_rfl
theorem ek96 : eqKinds Tryz.prog 96 = some [0, 0, 2] := by kernel_rfl
theorem en96 : eqKindsN Tryz.prog 96 = some [0, 0, 2] := by kernel_rfl
theorem en97 : eqKindsN Tryz.prog 97 = some [2, 0, 0, 2] := by kernel_rfl
theorem en98 : eqKindsN Tryz.prog 98 = some [2, 0, 0, 2] := by kernel_rfl
theorem mp77 : mapTy Tryz.prog 77 = some (.bool false, (false, [2])) := by kernel_rfl
theorem mp90 : mapTy Tryz.prog 90 = some (.str ByteArray.empty, (false, [2])) := by kernel_rfl
theorem mp101 : mapTy Tryz.prog 101 = some (.nils, (false, [2])) := by kernel_rfl
theorem mixed : Tryz.prog.follows .mixedOrders = true := by kernel_rfl
attribute [simp] ty2 ty3 ty4 ty5 ty6 ty7 ty8 ty9 ty10 ty11 ty12 ty13 ty14 ty15 ty16 ty17 ty18 ty19 ty21 ty22
attribute [simp] ty23 ty24 ty25 ty29 ty34 ty55 ty56 ty57 ty60 ty61 ty66 ty70 ty71 ty77 ty90 ty95 ty96 ty97 ty98 ty101
attribute [simp] ty104 ty107 ty113 ty121 ty123 ty131 ty135 ty144 ty150 ty154 ty155 ty160 ty161 ty163 ty164 ty165 ty166 ty167 sk4 ek95
attribute [simp] en95 ek96 en96 en97 en98 mp77 mp90 mp101
end Go.Proofs.YtnldjmokemgaoaaGreat
