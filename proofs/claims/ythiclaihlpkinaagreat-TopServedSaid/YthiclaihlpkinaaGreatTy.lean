/- Of each type of the program what the abstract machine asks of it. -/
import Derived.Test.YthiclaihlpkinaaGreatProg
import Derived.Test.YthiclaihlpkinaaGreatM3
set_option linter.unusedSimpArgs false
set_option linter.unusedVariables false
set_option linter.unusedSectionVars false
namespace Go.Proofs.YthiclaihlpkinaaGreat
open Go.RowKit
theorem ty2 : ty Tryz.prog 2 = some ⟨1, false, [.int .i64 0], false, 0, none, [], (some .i64), false, [], 0⟩ := by kernel_rfl
theorem ty3 : ty Tryz.prog 3 = some ⟨1, false, [.int .i64 0], false, 0, none, [], (some .i64), false, [], 0⟩ := by kernel_rfl
theorem ty4 : ty Tryz.prog 4 = some ⟨1, false, [.bool false], false, 0, none, [], none, false, [], 0⟩ := by kernel_rfl
theorem ty5 : ty Tryz.prog 5 = some ⟨1, false, [.int .u8 0], false, 0, none, [], (some .u8), false, [], 0⟩ := by kernel_rfl
theorem ty6 : ty Tryz.prog 6 = some ⟨1, false, [.int .u8 0], false, 0, none, [], (some .u8), false, [], 0⟩ := by kernel_rfl
theorem ty7 : ty Tryz.prog 7 = some ⟨4, true, [.int .i64 0, .int .i64 0, .bool false, .int .u8 0], false, 0, none, [(0, 2), (1, 3), (2, 4), (3, 6)], none, false, [(0, 1), (1, 1), (2, 1), (3, 1)], 0⟩ := by kernel_rfl
theorem ty8 : ty Tryz.prog 8 = some ⟨4, true, [.int .i64 0, .int .i64 0, .bool false, .int .u8 0], false, 0, none, [(0, 2), (1, 3), (2, 4), (3, 6)], none, false, [(0, 1), (1, 1), (2, 1), (3, 1)], 0⟩ := by kernel_rfl
theorem ty9 : ty Tryz.prog 9 = some ⟨1, false, [.str ByteArray.empty], false, 0, none, [], none, true, [], 0⟩ := by kernel_rfl
theorem ty10 : ty Tryz.prog 10 = some ⟨1, false, [.str ByteArray.empty], false, 0, none, [], none, true, [], 0⟩ := by kernel_rfl
theorem ty11 : ty Tryz.prog 11 = some ⟨1, false, [.str ByteArray.empty], false, 0, none, [], none, true, [], 0⟩ := by kernel_rfl
theorem ty12 : ty Tryz.prog 12 = some ⟨1, false, [.int .u64 0], false, 0, none, [], (some .u64), false, [], 0⟩ := by kernel_rfl
theorem ty13 : ty Tryz.prog 13 = some ⟨2, true, [.str ByteArray.empty, .int .u64 0], false, 0, none, [(0, 9), (1, 12)], none, false, [(0, 1), (1, 1)], 0⟩ := by kernel_rfl
theorem ty14 : ty Tryz.prog 14 = some ⟨2, true, [.str ByteArray.empty, .int .u64 0], false, 0, none, [(0, 9), (1, 12)], none, false, [(0, 1), (1, 1)], 0⟩ := by kernel_rfl
theorem ty15 : ty Tryz.prog 15 = some ⟨1, false, [.nilp], false, 0, none, [], none, false, [], 0⟩ := by kernel_rfl
theorem ty16 : ty Tryz.prog 16 = some ⟨1, false, [.nilp], false, 0, none, [], none, false, [], 0⟩ := by kernel_rfl
theorem ty17 : ty Tryz.prog 17 = some ⟨1, false, [.nilp], false, 0, none, [], none, false, [], 0⟩ := by kernel_rfl
theorem ty18 : ty Tryz.prog 18 = some ⟨1, true, [.nilp], false, 0, none, [(0, 17)], none, false, [(0, 1)], 0⟩ := by kernel_rfl
theorem ty19 : ty Tryz.prog 19 = some ⟨1, true, [.nilp], false, 0, none, [(0, 17)], none, false, [(0, 1)], 0⟩ := by kernel_rfl
theorem ty21 : ty Tryz.prog 21 = some ⟨1, false, [.int .i32 0], false, 0, none, [], (some .i32), false, [], 0⟩ := by kernel_rfl
theorem ty22 : ty Tryz.prog 22 = some ⟨1, false, [.nils], true, 3, none, [], none, false, [], 0⟩ := by kernel_rfl
theorem ty23 : ty Tryz.prog 23 = some ⟨2, true, [.nils, .nils], false, 0, none, [(0, 22), (1, 22)], none, false, [(0, 1), (1, 1)], 0⟩ := by kernel_rfl
theorem ty24 : ty Tryz.prog 24 = some ⟨2, true, [.nils, .nils], false, 0, none, [(0, 22), (1, 22)], none, false, [(0, 1), (1, 1)], 0⟩ := by kernel_rfl
theorem ty26 : ty Tryz.prog 26 = some ⟨1, false, [.nils], true, 32, none, [], none, false, [], 0⟩ := by kernel_rfl
theorem ty27 : ty Tryz.prog 27 = some ⟨1, false, [.int .i64 0], false, 0, none, [], (some .i64), false, [], 0⟩ := by kernel_rfl
theorem ty31 : ty Tryz.prog 31 = some ⟨4, true, [.int .i64 0, .int .i64 0, .int .i64 0, .int .i64 0], false, 0, none, [(0, 3), (1, 3), (2, 3), (3, 3)], none, false, [(0, 1), (1, 1), (2, 1), (3, 1)], 0⟩ := by kernel_rfl
theorem ty32 : ty Tryz.prog 32 = some ⟨4, true, [.int .i64 0, .int .i64 0, .int .i64 0, .int .i64 0], false, 0, none, [(0, 3), (1, 3), (2, 3), (3, 3)], none, false, [(0, 1), (1, 1), (2, 1), (3, 1)], 0⟩ := by kernel_rfl
theorem ty38 : ty Tryz.prog 38 = some ⟨1, false, [.nils], true, 40, none, [], none, false, [], 0⟩ := by kernel_rfl
theorem ty39 : ty Tryz.prog 39 = some ⟨6, true, [.str ByteArray.empty, .str ByteArray.empty, .str ByteArray.empty, .int .i64 0, .int .i64 0, .int .i64 0], false, 0, none, [(0, 9), (1, 9), (2, 9), (3, 3), (4, 3), (5, 3)], none, false, [(0, 1), (1, 1), (2, 1), (3, 1), (4, 1), (5, 1)], 0⟩ := by kernel_rfl
theorem ty40 : ty Tryz.prog 40 = some ⟨6, true, [.str ByteArray.empty, .str ByteArray.empty, .str ByteArray.empty, .int .i64 0, .int .i64 0, .int .i64 0], false, 0, none, [(0, 9), (1, 9), (2, 9), (3, 3), (4, 3), (5, 3)], none, false, [(0, 1), (1, 1), (2, 1), (3, 1), (4, 1), (5, 1)], 0⟩ := by kernel_rfl
theorem ty46 : ty Tryz.prog 46 = some ⟨2, true, [.int .i64 0, .int .i64 0], false, 0, none, [(0, 3), (1, 3)], none, false, [(0, 1), (1, 1)], 0⟩ := by kernel_rfl
theorem ty47 : ty Tryz.prog 47 = some ⟨2, true, [.int .i64 0, .int .i64 0], false, 0, none, [(0, 3), (1, 3)], none, false, [(0, 1), (1, 1)], 0⟩ := by kernel_rfl
theorem ty48 : ty Tryz.prog 48 = some ⟨1, false, [.nils], true, 47, none, [], none, false, [], 0⟩ := by kernel_rfl
theorem ty51 : ty Tryz.prog 51 = some ⟨6, true, [.int .i64 0, .int .i64 0, .int .i64 0, .int .i64 0, .int .i64 0, .int .i64 0], false, 0, none, [(0, 47), (2, 47), (4, 3), (5, 3)], none, false, [(0, 2), (2, 2), (4, 1), (5, 1)], 0⟩ := by kernel_rfl
theorem ty52 : ty Tryz.prog 52 = some ⟨6, true, [.int .i64 0, .int .i64 0, .int .i64 0, .int .i64 0, .int .i64 0, .int .i64 0], false, 0, none, [(0, 47), (2, 47), (4, 3), (5, 3)], none, false, [(0, 2), (2, 2), (4, 1), (5, 1)], 0⟩ := by kernel_rfl
theorem ty53 : ty Tryz.prog 53 = some ⟨2, true, [.nils, .int .i64 0], false, 0, none, [(0, 22), (1, 3)], none, false, [(0, 1), (1, 1)], 0⟩ := by kernel_rfl
theorem ty54 : ty Tryz.prog 54 = some ⟨2, true, [.nils, .int .i64 0], false, 0, none, [(0, 22), (1, 3)], none, false, [(0, 1), (1, 1)], 0⟩ := by kernel_rfl
theorem ty55 : ty Tryz.prog 55 = some ⟨1, false, [.nils], true, 57, none, [], none, false, [], 0⟩ := by kernel_rfl
theorem ty56 : ty Tryz.prog 56 = some ⟨4, true, [.int .i64 0, .int .i64 0, .nils, .nils], false, 0, none, [(0, 3), (1, 3), (2, 55), (3, 48)], none, false, [(0, 1), (1, 1), (2, 1), (3, 1)], 0⟩ := by kernel_rfl
theorem ty57 : ty Tryz.prog 57 = some ⟨4, true, [.int .i64 0, .int .i64 0, .nils, .nils], false, 0, none, [(0, 3), (1, 3), (2, 55), (3, 48)], none, false, [(0, 1), (1, 1), (2, 1), (3, 1)], 0⟩ := by kernel_rfl
theorem ty60 : ty Tryz.prog 60 = some ⟨3, true, [.nils, .int .i64 0, .int .i64 0], false, 0, none, [(0, 22), (1, 3), (2, 3)], none, false, [(0, 1), (1, 1), (2, 1)], 0⟩ := by kernel_rfl
theorem ty61 : ty Tryz.prog 61 = some ⟨3, true, [.nils, .int .i64 0, .int .i64 0], false, 0, none, [(0, 22), (1, 3), (2, 3)], none, false, [(0, 1), (1, 1), (2, 1)], 0⟩ := by kernel_rfl
theorem ty62 : ty Tryz.prog 62 = some ⟨1, false, [.nils], true, 61, none, [], none, false, [], 0⟩ := by kernel_rfl
theorem ty75 : ty Tryz.prog 75 = some ⟨1, false, [.nils], true, 26, none, [], none, false, [], 0⟩ := by kernel_rfl
theorem ty77 : ty Tryz.prog 77 = some ⟨1, false, [.nils], true, 83, none, [], none, false, [], 0⟩ := by kernel_rfl
theorem ty78 : ty Tryz.prog 78 = some ⟨1, false, [.nils], true, 81, none, [], none, false, [], 0⟩ := by kernel_rfl
theorem ty80 : ty Tryz.prog 80 = some ⟨2, true, [.int .i64 0, .int .i64 0], false, 0, none, [(0, 3), (1, 3)], none, false, [(0, 1), (1, 1)], 0⟩ := by kernel_rfl
theorem ty81 : ty Tryz.prog 81 = some ⟨2, true, [.int .i64 0, .int .i64 0], false, 0, none, [(0, 3), (1, 3)], none, false, [(0, 1), (1, 1)], 0⟩ := by kernel_rfl
theorem ty82 : ty Tryz.prog 82 = some ⟨2, true, [.int .i64 0, .int .i64 0], false, 0, none, [(0, 3), (1, 3)], none, false, [(0, 1), (1, 1)], 0⟩ := by kernel_rfl
theorem ty83 : ty Tryz.prog 83 = some ⟨2, true, [.int .i64 0, .int .i64 0], false, 0, none, [(0, 3), (1, 3)], none, false, [(0, 1), (1, 1)], 0⟩ := by kernel_rfl
theorem ty90 : ty Tryz.prog 90 = some ⟨1, false, [.nilp], false, 0, none, [], none, false, [], 0⟩ := by kernel_rfl
theorem ty91 : ty Tryz.prog 91 = some ⟨1, true, [.int .i64 0], false, 0, none, [(0, 27)], none, false, [(0, 1)], 0⟩ := by kernel_rfl
theorem ty92 : ty Tryz.prog 92 = some ⟨1, true, [.int .i64 0], false, 0, none, [(0, 27)], none, false, [(0, 1)], 0⟩ := by kernel_rfl
theorem ty93 : ty Tryz.prog 93 = some ⟨1, false, [.nils], true, 48, none, [], none, false, [], 0⟩ := by kernel_rfl
theorem ty99 : ty Tryz.prog 99 = some ⟨1, false, [.nilp], false, 0, none, [], none, false, [], 0⟩ := by kernel_rfl
theorem ty100 : ty Tryz.prog 100 = some ⟨4, true, [.nils, .nils, .nils, .int .i64 0], false, 0, none, [(0, 22), (1, 62), (2, 22), (3, 3)], none, false, [(0, 1), (1, 1), (2, 1), (3, 1)], 0⟩ := by kernel_rfl
theorem ty101 : ty Tryz.prog 101 = some ⟨4, true, [.nils, .nils, .nils, .int .i64 0], false, 0, none, [(0, 22), (1, 62), (2, 22), (3, 3)], none, false, [(0, 1), (1, 1), (2, 1), (3, 1)], 0⟩ := by kernel_rfl
theorem ty103 : ty Tryz.prog 103 = some ⟨1, false, [.nilp], false, 0, none, [], none, false, [], 0⟩ := by kernel_rfl
theorem ty104 : ty Tryz.prog 104 = some ⟨4, true, [.nils, .nils, .int .i64 0, .int .i64 0], false, 0, none, [(0, 22), (1, 62), (2, 3), (3, 3)], none, false, [(0, 1), (1, 1), (2, 1), (3, 1)], 0⟩ := by kernel_rfl
theorem ty105 : ty Tryz.prog 105 = some ⟨4, true, [.nils, .nils, .int .i64 0, .int .i64 0], false, 0, none, [(0, 22), (1, 62), (2, 3), (3, 3)], none, false, [(0, 1), (1, 1), (2, 1), (3, 1)], 0⟩ := by kernel_rfl
theorem ty108 : ty Tryz.prog 108 = some ⟨2, true, [.nils, .nils], false, 0, none, [(0, 22), (1, 22)], none, false, [(0, 1), (1, 1)], 0⟩ := by kernel_rfl
theorem ty109 : ty Tryz.prog 109 = some ⟨2, true, [.nils, .nils], false, 0, none, [(0, 22), (1, 22)], none, false, [(0, 1), (1, 1)], 0⟩ := by kernel_rfl
theorem ty123 : ty Tryz.prog 123 = some ⟨1, false, [.int .u64 0], false, 0, none, [], (some .u64), false, [], 0⟩ := by kernel_rfl
theorem ty144 : ty Tryz.prog 144 = some ⟨1, false, [.int .i64 0], false, 0, none, [], (some .i64), false, [], 0⟩ := by kernel_rfl
theorem ty152 : ty Tryz.prog 152 = some ⟨1, false, [.int .u32 0], false, 0, none, [], (some .u32), false, [], 0⟩ := by kernel_rfl
theorem ty154 : ty Tryz.prog 154 = some ⟨1, false, [.int .u64 0], false, 0, none, [], (some .u64), false, [], 0⟩ := by kernel_rfl
theorem ty163 : ty Tryz.prog 163 = some ⟨4, true, [.nils, .nils, .nils, .nils], false, 0, none, [(0, 48), (1, 93), (2, 22), (3, 48)], none, false, [(0, 1), (1, 1), (2, 1), (3, 1)], 0⟩ := by kernel_rfl
theorem ty164 : ty Tryz.prog 164 = some ⟨4, true, [.nils, .nils, .nils, .nils], false, 0, none, [(0, 48), (1, 93), (2, 22), (3, 48)], none, false, [(0, 1), (1, 1), (2, 1), (3, 1)], 0⟩ := by kernel_rfl
theorem ty167 : ty Tryz.prog 167 = some ⟨6, true, [.int .i64 0, .nils, .nils, .nils, .int .i64 0, .int .i64 0], false, 0, none, [(0, 3), (1, 48), (2, 48), (3, 48), (4, 47)], none, false, [(0, 1), (1, 1), (2, 1), (3, 1), (4, 2)], 0⟩ := by kernel_rfl
theorem ty168 : ty Tryz.prog 168 = some ⟨6, true, [.int .i64 0, .nils, .nils, .nils, .int .i64 0, .int .i64 0], false, 0, none, [(0, 3), (1, 48), (2, 48), (3, 48), (4, 47)], none, false, [(0, 1), (1, 1), (2, 1), (3, 1), (4, 2)], 0⟩ := by kernel_rfl
theorem ty176 : ty Tryz.prog 176 = some ⟨1, false, [.int .u64 0], false, 0, none, [], (some .u64), false, [], 0⟩ := by kernel_rfl
theorem ty180 : ty Tryz.prog 180 = some ⟨1, false, [.nilp], false, 0, none, [], none, false, [], 0⟩ := by kernel_rfl
theorem ty191 : ty Tryz.prog 191 = some ⟨1, false, [.nilp], false, 0, none, [], none, false, [], 0⟩ := by kernel_rfl
theorem ty199 : ty Tryz.prog 199 = some ⟨1, false, [.nilp], false, 0, none, [], none, false, [], 0⟩ := by kernel_rfl
theorem ty200 : ty Tryz.prog 200 = some ⟨1, false, [.nils], true, 4, none, [], none, false, [], 0⟩ := by kernel_rfl
theorem ty205 : ty Tryz.prog 205 = some ⟨5, true, [.nils, .nils, .nils, .int .i64 0, .int .i64 0], false, 0, none, [(0, 93), (1, 48), (2, 22), (3, 3), (4, 27)], none, false, [(0, 1), (1, 1), (2, 1), (3, 1), (4, 1)], 0⟩ := by kernel_rfl
theorem ty206 : ty Tryz.prog 206 = some ⟨5, true, [.nils, .nils, .nils, .int .i64 0, .int .i64 0], false, 0, none, [(0, 93), (1, 48), (2, 22), (3, 3), (4, 27)], none, false, [(0, 1), (1, 1), (2, 1), (3, 1), (4, 1)], 0⟩ := by kernel_rfl
theorem ty220 : ty Tryz.prog 220 = some ⟨4, true, [.nilp, .nilp, .nilp, .str ByteArray.empty], false, 0, none, [(0, 17), (1, 17), (2, 17), (3, 9)], none, false, [(0, 1), (1, 1), (2, 1), (3, 1)], 0⟩ := by kernel_rfl
theorem ty221 : ty Tryz.prog 221 = some ⟨4, true, [.nilp, .nilp, .nilp, .str ByteArray.empty], false, 0, none, [(0, 17), (1, 17), (2, 17), (3, 9)], none, false, [(0, 1), (1, 1), (2, 1), (3, 1)], 0⟩ := by kernel_rfl
theorem ty226 : ty Tryz.prog 226 = some ⟨1, false, [.int .u8 0], false, 0, none, [], (some .u8), false, [], 0⟩ := by kernel_rfl
theorem ty227 : ty Tryz.prog 227 = some ⟨1, false, [.int .u8 0], false, 0, none, [], (some .u8), false, [], 0⟩ := by kernel_rfl
theorem ty229 : ty Tryz.prog 229 = some ⟨1, false, [.nilp], false, 0, none, [], none, false, [], 0⟩ := by kernel_rfl
theorem ty230 : ty Tryz.prog 230 = some ⟨1, false, [.int .i32 0], false, 0, none, [], (some .i32), false, [], 0⟩ := by kernel_rfl
theorem ty231 : ty Tryz.prog 231 = some ⟨1, false, [.int .i32 0], false, 0, none, [], (some .i32), false, [], 0⟩ := by kernel_rfl
theorem ty232 : ty Tryz.prog 232 = some ⟨11, true, [.int .u64 0, .int .u64 0, .int .u32 0, .int .u8 0, .int .u8 0, .int .u8 0, .int .u8 0, .nilf, .nilp, .int .i32 0, .int .i32 0], false, 0, none, [(0, 12), (1, 12), (2, 152), (3, 226), (4, 5), (5, 5), (6, 227), (7, 228), (8, 229), (9, 230), (10, 231)], none, false, [(0, 1), (1, 1), (2, 1), (3, 1), (4, 1), (5, 1), (6, 1), (7, 1), (8, 1), (9, 1), (10, 1)], 0⟩ := by kernel_rfl
theorem ty233 : ty Tryz.prog 233 = some ⟨11, true, [.int .u64 0, .int .u64 0, .int .u32 0, .int .u8 0, .int .u8 0, .int .u8 0, .int .u8 0, .nilf, .nilp, .int .i32 0, .int .i32 0], false, 0, none, [(0, 12), (1, 12), (2, 152), (3, 226), (4, 5), (5, 5), (6, 227), (7, 228), (8, 229), (9, 230), (10, 231)], none, false, [(0, 1), (1, 1), (2, 1), (3, 1), (4, 1), (5, 1), (6, 1), (7, 1), (8, 1), (9, 1), (10, 1)], 0⟩ := by kernel_rfl
theorem sk4 : skind Tryz.prog 4 = some 1 := by kernel_rfl
theorem ek31 : eqKinds Tryz.prog 31 = some [0, 0, 0, 0] := by kernel_rfl
theorem en31 : eqKindsN Tryz.prog 31 = some [0, 0, 0, 0] := by kernel_rfl
theorem ek32 : eqKinds Tryz.prog 32 = some [0, 0, 0, 0] := by kernel_rfl
theorem en32 : eqKindsN Tryz.prog 32 = some [0, 0, 0, 0] := by kernel_rfl
theorem ek39 : eqKinds Tryz.prog 39 = some [2, 2, 2, 0, 0, 0] := by kernel_rfl
theorem en39 : eqKindsN Tryz.prog 39 = some [2, 2, 2, 0, 0, 0] := by kernel_rfl
theorem ek40 : eqKinds Tryz.prog 40 = some [2, 2, 2, 0, 0, 0] := by kernel_rfl
theorem en40 : eqKindsN Tryz.prog 40 = some [2, 2, 2, 0, 0, 0] := by kernel_rfl
theorem ek46 : eqKinds Tryz.prog 46 = some [0, 0] := by kernel_rfl
theorem en46 : eqKindsN Tryz.prog 46 = some [0, 0] := by kernel_rfl
theorem ek47 : eqKinds Tryz.prog 47 = some [0, 0] := by kernel_rfl
theorem en47 : eqKindsN Tryz.prog 47 = some [0, 0] := by kernel_rfl
theorem en51 : eqKindsN Tryz.prog 51 = some [0, 0, 0, 0, 0, 0] := by kernel_rfl
theorem en52 : eqKindsN Tryz.prog 52 = some [0, 0, 0, 0, 0, 0] := by kernel_rfl
theorem ek80 : eqKinds Tryz.prog 80 = some [0, 0] := by kernel_rfl
theorem en80 : eqKindsN Tryz.prog 80 = some [0, 0] := by kernel_rfl
theorem ek81 : eqKinds Tryz.prog 81 = some [0, 0] := by kernel_rfl
theorem en81 : eqKindsN Tryz.prog 81 = some [0, 0] := by kernel_rfl
theorem ek82 : eqKinds Tryz.prog 82 = some [0, 0] := by kernel_rfl
theorem en82 : eqKindsN Tryz.prog 82 = some [0, 0] := by kernel_rfl
theorem ek83 : eqKinds Tryz.prog 83 = some [0, 0] := by kernel_rfl
theorem en83 : eqKindsN Tryz.prog 83 = some [0, 0] := by kernel_rfl
theorem ek91 : eqKinds Tryz.prog 91 = some [0] := by kernel_rfl
theorem en91 : eqKindsN Tryz.prog 91 = some [0] := by kernel_rfl
theorem ek92 : eqKinds Tryz.prog 92 = some [0] := by kernel_rfl
theorem en92 : eqKindsN Tryz.prog 92 = some [0] := by kernel_rfl
theorem mixed : Tryz.prog.follows .mixedOrders = true := by kernel_rfl
attribute [simp] ty2 ty3 ty4 ty5 ty6 ty7 ty8 ty9 ty10 ty11 ty12 ty13 ty14 ty15 ty16 ty17 ty18 ty19 ty21 ty22
attribute [simp] ty23 ty24 ty26 ty27 ty31 ty32 ty38 ty39 ty40 ty46 ty47 ty48 ty51 ty52 ty53 ty54 ty55 ty56 ty57 ty60
attribute [simp] ty61 ty62 ty75 ty77 ty78 ty80 ty81 ty82 ty83 ty90 ty91 ty92 ty93 ty99 ty100 ty101 ty103 ty104 ty105 ty108
attribute [simp] ty109 ty123 ty144 ty152 ty154 ty163 ty164 ty167 ty168 ty176 ty180 ty191 ty199 ty200 ty205 ty206 ty220 ty221 ty226 ty227
attribute [simp] ty229 ty230 ty231 ty232 ty233 sk4 ek31 en31 ek32 en32 ek39 en39 ek40 en40 ek46 en46 ek47 en47 en51 en52
attribute [simp] ek80 en80 ek81 en81 ek82 en82 ek83 en83 ek91 en91 ek92 en92
end Go.Proofs.YthiclaihlpkinaaGreat
