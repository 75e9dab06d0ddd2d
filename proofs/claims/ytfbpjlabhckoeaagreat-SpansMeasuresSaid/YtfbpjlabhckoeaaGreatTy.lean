/- Of each type of the program what the abstract machine asks of it. -/
import Derived.Test.YtfbpjlabhckoeaaGreatProg
import Derived.Test.YtfbpjlabhckoeaaGreatM2
namespace Go.Proofs.YtfbpjlabhckoeaaGreat
set_option linter.unusedSimpArgs false
set_option linter.unusedVariables false
set_option linter.unusedSectionVars false
open Go.RowKit
theorem ty2 : ty Tryz.prog 2 = some ⟨1, false, [.int .i64 0], false, 0, none, [], (some .i64), false, [], 0⟩ := by kernel_rfl
theorem ty3 : ty Tryz.prog 3 = some ⟨1, false, [.int .i64 0], false, 0, none, [], (some .i64), false, [], 0⟩ := by kernel_rfl
theorem ty4 : ty Tryz.prog 4 = some ⟨1, false, [.bool false], false, 0, none, [], none, false, [], 0⟩ := by kernel_rfl
theorem ty5 : ty Tryz.prog 5 = some ⟨1, false, [.int .u8 0], false, 0, none, [], (some .u8), false, [], 0⟩ := by kernel_rfl
theorem ty6 : ty Tryz.prog 6 = some ⟨1, false, [.int .u8 0], false, 0, none, [], (some .u8), false, [], 0⟩ := by kernel_rfl
theorem ty7 : ty Tryz.prog 7 = some ⟨4, true, [.int .i64 0, .int .i64 0, .bool false, .int .u8 0], false, 0, none, [(0, 2), (1, 3), (2, 4), (3, 6)], none, false, [(0, 1), (1, 1), (2, 1), (3, 1)], 0⟩ := by kernel_rfl
theorem ty8 : ty Tryz.prog 8 = some ⟨4, true, [.int .i64 0, .int .i64 0, .bool false, .int .u8 0], false, 0, none, [(0, 2), (1, 3), (2, 4), (3, 6)], none, false, [(0, 1), (1, 1), (2, 1), (3, 1)], 0⟩ := by kernel_rfl
theorem ty9 : ty Tryz.prog 9 = some ⟨1, false, [.str ByteArray.empty], false, 0, none, [], none, true, [], 0⟩ := by kernel_rfl
theorem ty10 : ty Tryz.prog 10 = some ⟨1, false, [.str ByteArray.empty], false, 0, none, [], none, true, [], 0⟩ := by kernel_rfl
theorem ty11 : ty Tryz.prog 11 = some ⟨1, false, [.str ByteArray.empty], false, 0, none, [], none, true, [], 0⟩ := by kernel_rfl
theorem ty12 : ty Tryz.prog 12 = some ⟨1, false, [.int .u64 0], false, 0, none, [], (some .u64), false, [], 0⟩ := by kernel_rfl
theorem ty13 : ty Tryz.prog 13 = some ⟨2, true, [.str ByteArray.empty, .int .u64 0], false, 0, none, [(0, 9), (1, 12)], none, false, [(0, 1), (1, 1)], 0⟩ := by kernel_rfl
theorem ty14 : ty Tryz.prog 14 = some ⟨2, true, [.str ByteArray.empty, .int .u64 0], false, 0, none, [(0, 9), (1, 12)], none, false, [(0, 1), (1, 1)], 0⟩ := by kernel_rfl
theorem ty15 : ty Tryz.prog 15 = some ⟨1, false, [.nilp], false, 0, none, [], none, false, [], 0⟩ := by kernel_rfl
theorem ty16 : ty Tryz.prog 16 = some ⟨1, false, [.nilp], false, 0, none, [], none, false, [], 0⟩ := by kernel_rfl
theorem ty17 : ty Tryz.prog 17 = some ⟨1, false, [.nilp], false, 0, none, [], none, false, [], 0⟩ := by kernel_rfl
theorem ty18 : ty Tryz.prog 18 = some ⟨1, true, [.nilp], false, 0, none, [(0, 17)], none, false, [(0, 1)], 0⟩ := by kernel_rfl
theorem ty19 : ty Tryz.prog 19 = some ⟨1, true, [.nilp], false, 0, none, [(0, 17)], none, false, [(0, 1)], 0⟩ := by kernel_rfl
theorem ty21 : ty Tryz.prog 21 = some ⟨1, false, [.int .i32 0], false, 0, none, [], (some .i32), false, [], 0⟩ := by kernel_rfl
theorem ty22 : ty Tryz.prog 22 = some ⟨1, false, [.nils], true, 61, none, [], none, false, [], 0⟩ := by kernel_rfl
theorem ty23 : ty Tryz.prog 23 = some ⟨1, false, [.nils], true, 48, none, [], none, false, [], 0⟩ := by kernel_rfl
theorem ty24 : ty Tryz.prog 24 = some ⟨1, true, [.nils], false, 0, none, [(0, 23)], none, false, [(0, 1)], 0⟩ := by kernel_rfl
theorem ty25 : ty Tryz.prog 25 = some ⟨1, true, [.nils], false, 0, none, [(0, 23)], none, false, [(0, 1)], 0⟩ := by kernel_rfl
theorem ty28 : ty Tryz.prog 28 = some ⟨1, false, [.int .i64 0], false, 0, none, [], (some .i64), false, [], 0⟩ := by kernel_rfl
theorem ty41 : ty Tryz.prog 41 = some ⟨1, false, [.nils], true, 3, none, [], none, false, [], 0⟩ := by kernel_rfl
theorem ty47 : ty Tryz.prog 47 = some ⟨2, true, [.int .i64 0, .int .i64 0], false, 0, none, [(0, 3), (1, 3)], none, false, [(0, 1), (1, 1)], 0⟩ := by kernel_rfl
theorem ty48 : ty Tryz.prog 48 = some ⟨2, true, [.int .i64 0, .int .i64 0], false, 0, none, [(0, 3), (1, 3)], none, false, [(0, 1), (1, 1)], 0⟩ := by kernel_rfl
theorem ty51 : ty Tryz.prog 51 = some ⟨1, false, [.nils], true, 129, none, [], none, false, [], 0⟩ := by kernel_rfl
theorem ty52 : ty Tryz.prog 52 = some ⟨6, true, [.str ByteArray.empty, .str ByteArray.empty, .str ByteArray.empty, .int .i64 0, .int .i64 0, .nils], false, 0, none, [(0, 9), (1, 9), (2, 9), (3, 3), (4, 3), (5, 51)], none, false, [(0, 1), (1, 1), (2, 1), (3, 1), (4, 1), (5, 1)], 0⟩ := by kernel_rfl
theorem ty53 : ty Tryz.prog 53 = some ⟨6, true, [.str ByteArray.empty, .str ByteArray.empty, .str ByteArray.empty, .int .i64 0, .int .i64 0, .nils], false, 0, none, [(0, 9), (1, 9), (2, 9), (3, 3), (4, 3), (5, 51)], none, false, [(0, 1), (1, 1), (2, 1), (3, 1), (4, 1), (5, 1)], 0⟩ := by kernel_rfl
theorem ty57 : ty Tryz.prog 57 = some ⟨1, false, [.nils], true, 53, none, [], none, false, [], 0⟩ := by kernel_rfl
theorem ty58 : ty Tryz.prog 58 = some ⟨1, true, [.nils], false, 0, none, [(0, 57)], none, false, [(0, 1)], 0⟩ := by kernel_rfl
theorem ty59 : ty Tryz.prog 59 = some ⟨1, true, [.nils], false, 0, none, [(0, 57)], none, false, [(0, 1)], 0⟩ := by kernel_rfl
theorem ty60 : ty Tryz.prog 60 = some ⟨6, true, [.str ByteArray.empty, .str ByteArray.empty, .str ByteArray.empty, .int .i64 0, .int .i64 0, .int .i64 0], false, 0, none, [(0, 9), (1, 9), (2, 9), (3, 3), (4, 3), (5, 3)], none, false, [(0, 1), (1, 1), (2, 1), (3, 1), (4, 1), (5, 1)], 0⟩ := by kernel_rfl
theorem ty61 : ty Tryz.prog 61 = some ⟨6, true, [.str ByteArray.empty, .str ByteArray.empty, .str ByteArray.empty, .int .i64 0, .int .i64 0, .int .i64 0], false, 0, none, [(0, 9), (1, 9), (2, 9), (3, 3), (4, 3), (5, 3)], none, false, [(0, 1), (1, 1), (2, 1), (3, 1), (4, 1), (5, 1)], 0⟩ := by kernel_rfl
theorem ty73 : ty Tryz.prog 73 = some ⟨1, false, [.nils], true, 75, none, [], none, false, [], 0⟩ := by kernel_rfl
theorem ty74 : ty Tryz.prog 74 = some ⟨2, true, [.int .i64 0, .int .i64 0], false, 0, none, [(0, 3), (1, 3)], none, false, [(0, 1), (1, 1)], 0⟩ := by kernel_rfl
theorem ty75 : ty Tryz.prog 75 = some ⟨2, true, [.int .i64 0, .int .i64 0], false, 0, none, [(0, 3), (1, 3)], none, false, [(0, 1), (1, 1)], 0⟩ := by kernel_rfl
theorem ty85 : ty Tryz.prog 85 = some ⟨1, false, [.nilp], false, 0, none, [], none, false, [], 0⟩ := by kernel_rfl
theorem ty86 : ty Tryz.prog 86 = some ⟨1, false, [.nilm], false, 0, none, [], none, false, [], 0⟩ := by kernel_rfl
theorem ty87 : ty Tryz.prog 87 = some ⟨2, true, [.nilm, .nils], false, 0, none, [(0, 86), (1, 22)], none, false, [(0, 1), (1, 1)], 0⟩ := by kernel_rfl
theorem ty88 : ty Tryz.prog 88 = some ⟨2, true, [.nilm, .nils], false, 0, none, [(0, 86), (1, 22)], none, false, [(0, 1), (1, 1)], 0⟩ := by kernel_rfl
theorem ty99 : ty Tryz.prog 99 = some ⟨1, false, [.int .u64 0], false, 0, none, [], (some .u64), false, [], 0⟩ := by kernel_rfl
theorem ty101 : ty Tryz.prog 101 = some ⟨2, true, [.str ByteArray.empty, .str ByteArray.empty], false, 0, none, [(0, 9), (1, 9)], none, false, [(0, 1), (1, 1)], 0⟩ := by kernel_rfl
theorem ty102 : ty Tryz.prog 102 = some ⟨2, true, [.str ByteArray.empty, .str ByteArray.empty], false, 0, none, [(0, 9), (1, 9)], none, false, [(0, 1), (1, 1)], 0⟩ := by kernel_rfl
theorem ty105 : ty Tryz.prog 105 = some ⟨3, true, [.int .i64 0, .int .i64 0, .int .i64 0], false, 0, none, [(0, 3), (1, 3), (2, 3)], none, false, [(0, 1), (1, 1), (2, 1)], 0⟩ := by kernel_rfl
theorem ty106 : ty Tryz.prog 106 = some ⟨3, true, [.int .i64 0, .int .i64 0, .int .i64 0], false, 0, none, [(0, 3), (1, 3), (2, 3)], none, false, [(0, 1), (1, 1), (2, 1)], 0⟩ := by kernel_rfl
theorem ty107 : ty Tryz.prog 107 = some ⟨1, false, [.nils], true, 106, none, [], none, false, [], 0⟩ := by kernel_rfl
theorem ty115 : ty Tryz.prog 115 = some ⟨1, false, [.int .i64 0], false, 0, none, [], (some .i64), false, [], 0⟩ := by kernel_rfl
theorem ty123 : ty Tryz.prog 123 = some ⟨1, false, [.int .u32 0], false, 0, none, [], (some .u32), false, [], 0⟩ := by kernel_rfl
theorem ty125 : ty Tryz.prog 125 = some ⟨1, false, [.int .u64 0], false, 0, none, [], (some .u64), false, [], 0⟩ := by kernel_rfl
theorem ty126 : ty Tryz.prog 126 = some ⟨3, true, [.int .i64 0, .int .i64 0, .str ByteArray.empty], false, 0, none, [(0, 3), (1, 3), (2, 9)], none, false, [(0, 1), (1, 1), (2, 1)], 0⟩ := by kernel_rfl
theorem ty127 : ty Tryz.prog 127 = some ⟨3, true, [.int .i64 0, .int .i64 0, .str ByteArray.empty], false, 0, none, [(0, 3), (1, 3), (2, 9)], none, false, [(0, 1), (1, 1), (2, 1)], 0⟩ := by kernel_rfl
theorem ty128 : ty Tryz.prog 128 = some ⟨4, true, [.str ByteArray.empty, .int .i64 0, .int .i64 0, .str ByteArray.empty], false, 0, none, [(0, 9), (1, 127)], none, false, [(0, 1), (1, 3)], 0⟩ := by kernel_rfl
theorem ty129 : ty Tryz.prog 129 = some ⟨4, true, [.str ByteArray.empty, .int .i64 0, .int .i64 0, .str ByteArray.empty], false, 0, none, [(0, 9), (1, 127)], none, false, [(0, 1), (1, 3)], 0⟩ := by kernel_rfl
theorem ty141 : ty Tryz.prog 141 = some ⟨1, false, [.int .u64 0], false, 0, none, [], (some .u64), false, [], 0⟩ := by kernel_rfl
theorem ty145 : ty Tryz.prog 145 = some ⟨1, false, [.nilp], false, 0, none, [], none, false, [], 0⟩ := by kernel_rfl
theorem ty149 : ty Tryz.prog 149 = some ⟨1, false, [.nilp], false, 0, none, [], none, false, [], 0⟩ := by kernel_rfl
theorem ty152 : ty Tryz.prog 152 = some ⟨1, false, [.nils], true, 5, none, [], none, false, [], 0⟩ := by kernel_rfl
theorem ty156 : ty Tryz.prog 156 = some ⟨4, true, [.nilp, .nilp, .nilp, .str ByteArray.empty], false, 0, none, [(0, 17), (1, 17), (2, 17), (3, 9)], none, false, [(0, 1), (1, 1), (2, 1), (3, 1)], 0⟩ := by kernel_rfl
theorem ty157 : ty Tryz.prog 157 = some ⟨4, true, [.nilp, .nilp, .nilp, .str ByteArray.empty], false, 0, none, [(0, 17), (1, 17), (2, 17), (3, 9)], none, false, [(0, 1), (1, 1), (2, 1), (3, 1)], 0⟩ := by kernel_rfl
theorem ty162 : ty Tryz.prog 162 = some ⟨1, false, [.int .u8 0], false, 0, none, [], (some .u8), false, [], 0⟩ := by kernel_rfl
theorem ty163 : ty Tryz.prog 163 = some ⟨1, false, [.int .u8 0], false, 0, none, [], (some .u8), false, [], 0⟩ := by kernel_rfl
theorem ty165 : ty Tryz.prog 165 = some ⟨1, false, [.nilp], false, 0, none, [], none, false, [], 0⟩ := by kernel_rfl
theorem ty166 : ty Tryz.prog 166 = some ⟨1, false, [.int .i32 0], false, 0, none, [], (some .i32), false, [], 0⟩ := by kernel_rfl
theorem ty167 : ty Tryz.prog 167 = some ⟨1, false, [.int .i32 0], false, 0, none, [], (some .i32), false, [], 0⟩ := by kernel_rfl
theorem ty168 : ty Tryz.prog 168 = some ⟨11, true, [.int .u64 0, .int .u64 0, .int .u32 0, .int .u8 0, .int .u8 0, .int .u8 0, .int .u8 0, .nilf, .nilp, .int .i32 0, .int .i32 0], false, 0, none, [(0, 12), (1, 12), (2, 123), (3, 162), (4, 5), (5, 5), (6, 163), (7, 164), (8, 165), (9, 166), (10, 167)], none, false, [(0, 1), (1, 1), (2, 1), (3, 1), (4, 1), (5, 1), (6, 1), (7, 1), (8, 1), (9, 1), (10, 1)], 0⟩ := by kernel_rfl
theorem ty169 : ty Tryz.prog 169 = some ⟨11, true, [.int .u64 0, .int .u64 0, .int .u32 0, .int .u8 0, .int .u8 0, .int .u8 0, .int .u8 0, .nilf, .nilp, .int .i32 0, .int .i32 0], false, 0, none, [(0, 12), (1, 12), (2, 123), (3, 162), (4, 5), (5, 5), (6, 163), (7, 164), (8, 165), (9, 166), (10, 167)], none, false, [(0, 1), (1, 1), (2, 1), (3, 1), (4, 1), (5, 1), (6, 1), (7, 1), (8, 1), (9, 1), (10, 1)], 0⟩ := by kernel_rfl
theorem sk4 : skind Tryz.prog 4 = some 1 := by kernel_rfl
theorem ek47 : eqKinds Tryz.prog 47 = some [0, 0] := by kernel_rfl
theorem en47 : eqKindsN Tryz.prog 47 = some [0, 0] := by kernel_rfl
theorem ek48 : eqKinds Tryz.prog 48 = some [0, 0] := by kernel_rfl
theorem en48 : eqKindsN Tryz.prog 48 = some [0, 0] := by kernel_rfl
theorem ek60 : eqKinds Tryz.prog 60 = some [2, 2, 2, 0, 0, 0] := by kernel_rfl
theorem en60 : eqKindsN Tryz.prog 60 = some [2, 2, 2, 0, 0, 0] := by kernel_rfl
theorem ek61 : eqKinds Tryz.prog 61 = some [2, 2, 2, 0, 0, 0] := by kernel_rfl
theorem en61 : eqKindsN Tryz.prog 61 = some [2, 2, 2, 0, 0, 0] := by kernel_rfl
theorem ek74 : eqKinds Tryz.prog 74 = some [0, 0] := by kernel_rfl
theorem en74 : eqKindsN Tryz.prog 74 = some [0, 0] := by kernel_rfl
theorem ek75 : eqKinds Tryz.prog 75 = some [0, 0] := by kernel_rfl
theorem en75 : eqKindsN Tryz.prog 75 = some [0, 0] := by kernel_rfl
theorem ek101 : eqKinds Tryz.prog 101 = some [2, 2] := by kernel_rfl
theorem en101 : eqKindsN Tryz.prog 101 = some [2, 2] := by kernel_rfl
theorem ek102 : eqKinds Tryz.prog 102 = some [2, 2] := by kernel_rfl
theorem en102 : eqKindsN Tryz.prog 102 = some [2, 2] := by kernel_rfl
theorem ek105 : eqKinds Tryz.prog 105 = some [0, 0, 0] := by kernel_rfl
theorem en105 : eqKindsN Tryz.prog 105 = some [0, 0, 0] := by kernel_rfl
theorem ek106 : eqKinds Tryz.prog 106 = some [0, 0, 0] := by kernel_rfl
theorem en106 : eqKindsN Tryz.prog 106 = some [0, 0, 0] := by kernel_rfl
theorem ek126 : eqKinds Tryz.prog 126 = some [0, 0, 2] := by kernel_rfl
theorem en126 : eqKindsN Tryz.prog 126 = some [0, 0, 2] := by kernel_rfl
theorem ek127 : eqKinds Tryz.prog 127 = some [0, 0, 2] := by kernel_rfl
theorem en127 : eqKindsN Tryz.prog 127 = some [0, 0, 2] := by kernel_rfl
theorem en128 : eqKindsN Tryz.prog 128 = some [2, 0, 0, 2] := by kernel_rfl
theorem en129 : eqKindsN Tryz.prog 129 = some [2, 0, 0, 2] := by kernel_rfl
theorem mp86 : mapTy Tryz.prog 86 = some (.nils, (true, [2, 2])) := by kernel_rfl
theorem mixed : Tryz.prog.follows .mixedOrders = true := by kernel_rfl
attribute [simp] ty2 ty3 ty4 ty5 ty6 ty7 ty8 ty9 ty10 ty11 ty12 ty13 ty14 ty15 ty16 ty17 ty18 ty19 ty21 ty22
attribute [simp] ty23 ty24 ty25 ty28 ty41 ty47 ty48 ty51 ty52 ty53 ty57 ty58 ty59 ty60 ty61 ty73 ty74 ty75 ty85 ty86
attribute [simp] ty87 ty88 ty99 ty101 ty102 ty105 ty106 ty107 ty115 ty123 ty125 ty126 ty127 ty128 ty129 ty141 ty145 ty149 ty152 ty156
attribute [simp] ty157 ty162 ty163 ty165 ty166 ty167 ty168 ty169 sk4 ek47 en47 ek48 en48 ek60 en60 ek61 en61 ek74 en74 ek75
attribute [simp] en75 ek101 en101 ek102 en102 ek105 en105 ek106 en106 ek126 en126 ek127 en127 en128 en129 mp86
end Go.Proofs.YtfbpjlabhckoeaaGreat
