/- Of each type of the program what the abstract machine asks of it. -/
import Derived.Test.YtpgoefakhecdnaaProg
import Derived.Test.YtpgoefakhecdnaaM3
namespace Go.Proofs.Ytpgoefakhecdnaa
set_option linter.unusedSimpArgs false
set_option linter.unusedVariables false
set_option linter.unusedSectionVars false
open Go.RowKit
theorem ty2 : ty Try.prog 2 = some ⟨1, false, [.int .i64 0], false, 0, none, [], (some .i64), false, [], 0⟩ := by kernel_rfl
theorem ty3 : ty Try.prog 3 = some ⟨1, false, [.int .i64 0], false, 0, none, [], (some .i64), false, [], 0⟩ := by kernel_rfl
theorem ty4 : ty Try.prog 4 = some ⟨1, false, [.bool false], false, 0, none, [], none, false, [], 0⟩ := by kernel_rfl
theorem ty5 : ty Try.prog 5 = some ⟨1, false, [.int .u8 0], false, 0, none, [], (some .u8), false, [], 0⟩ := by kernel_rfl
theorem ty6 : ty Try.prog 6 = some ⟨1, false, [.int .u8 0], false, 0, none, [], (some .u8), false, [], 0⟩ := by kernel_rfl
theorem ty7 : ty Try.prog 7 = some ⟨4, true, [.int .i64 0, .int .i64 0, .bool false, .int .u8 0], false, 0, none, [(0, 2), (1, 3), (2, 4), (3, 6)], none, false, [(0, 1), (1, 1), (2, 1), (3, 1)], 0⟩ := by kernel_rfl
theorem ty8 : ty Try.prog 8 = some ⟨4, true, [.int .i64 0, .int .i64 0, .bool false, .int .u8 0], false, 0, none, [(0, 2), (1, 3), (2, 4), (3, 6)], none, false, [(0, 1), (1, 1), (2, 1), (3, 1)], 0⟩ := by kernel_rfl
theorem ty9 : ty Try.prog 9 = some ⟨1, false, [.str ByteArray.empty], false, 0, none, [], none, true, [], 0⟩ := by kernel_rfl
theorem ty10 : ty Try.prog 10 = some ⟨1, false, [.str ByteArray.empty], false, 0, none, [], none, true, [], 0⟩ := by kernel_rfl
theorem ty11 : ty Try.prog 11 = some ⟨1, false, [.str ByteArray.empty], false, 0, none, [], none, true, [], 0⟩ := by kernel_rfl
theorem ty12 : ty Try.prog 12 = some ⟨1, false, [.int .u64 0], false, 0, none, [], (some .u64), false, [], 0⟩ := by kernel_rfl
theorem ty13 : ty Try.prog 13 = some ⟨2, true, [.str ByteArray.empty, .int .u64 0], false, 0, none, [(0, 9), (1, 12)], none, false, [(0, 1), (1, 1)], 0⟩ := by kernel_rfl
theorem ty14 : ty Try.prog 14 = some ⟨2, true, [.str ByteArray.empty, .int .u64 0], false, 0, none, [(0, 9), (1, 12)], none, false, [(0, 1), (1, 1)], 0⟩ := by kernel_rfl
theorem ty15 : ty Try.prog 15 = some ⟨1, false, [.nilp], false, 0, none, [], none, false, [], 0⟩ := by kernel_rfl
theorem ty16 : ty Try.prog 16 = some ⟨1, false, [.nilp], false, 0, none, [], none, false, [], 0⟩ := by kernel_rfl
theorem ty17 : ty Try.prog 17 = some ⟨1, false, [.nilp], false, 0, none, [], none, false, [], 0⟩ := by kernel_rfl
theorem ty18 : ty Try.prog 18 = some ⟨1, true, [.nilp], false, 0, none, [(0, 17)], none, false, [(0, 1)], 0⟩ := by kernel_rfl
theorem ty19 : ty Try.prog 19 = some ⟨1, true, [.nilp], false, 0, none, [(0, 17)], none, false, [(0, 1)], 0⟩ := by kernel_rfl
theorem ty21 : ty Try.prog 21 = some ⟨1, false, [.int .i32 0], false, 0, none, [], (some .i32), false, [], 0⟩ := by kernel_rfl
theorem ty22 : ty Try.prog 22 = some ⟨1, false, [.nils], true, 41, none, [], none, false, [], 0⟩ := by kernel_rfl
theorem ty23 : ty Try.prog 23 = some ⟨1, true, [.nils], false, 0, none, [(0, 22)], none, false, [(0, 1)], 0⟩ := by kernel_rfl
theorem ty24 : ty Try.prog 24 = some ⟨1, true, [.nils], false, 0, none, [(0, 22)], none, false, [(0, 1)], 0⟩ := by kernel_rfl
theorem ty25 : ty Try.prog 25 = some ⟨6, true, [.str ByteArray.empty, .str ByteArray.empty, .str ByteArray.empty, .int .i64 0, .int .i64 0, .int .i64 0], false, 0, none, [(0, 9), (1, 9), (2, 9), (3, 3), (4, 3), (5, 3)], none, false, [(0, 1), (1, 1), (2, 1), (3, 1), (4, 1), (5, 1)], 0⟩ := by kernel_rfl
theorem ty26 : ty Try.prog 26 = some ⟨6, true, [.str ByteArray.empty, .str ByteArray.empty, .str ByteArray.empty, .int .i64 0, .int .i64 0, .int .i64 0], false, 0, none, [(0, 9), (1, 9), (2, 9), (3, 3), (4, 3), (5, 3)], none, false, [(0, 1), (1, 1), (2, 1), (3, 1), (4, 1), (5, 1)], 0⟩ := by kernel_rfl
theorem ty30 : ty Try.prog 30 = some ⟨1, false, [.nils], true, 26, none, [], none, false, [], 0⟩ := by kernel_rfl
theorem ty31 : ty Try.prog 31 = some ⟨1, false, [.int .i64 0], false, 0, none, [], (some .i64), false, [], 0⟩ := by kernel_rfl
theorem ty39 : ty Try.prog 39 = some ⟨1, false, [.nils], true, 60, none, [], none, false, [], 0⟩ := by kernel_rfl
theorem ty40 : ty Try.prog 40 = some ⟨6, true, [.str ByteArray.empty, .str ByteArray.empty, .str ByteArray.empty, .int .i64 0, .int .i64 0, .nils], false, 0, none, [(0, 9), (1, 9), (2, 9), (3, 3), (4, 3), (5, 39)], none, false, [(0, 1), (1, 1), (2, 1), (3, 1), (4, 1), (5, 1)], 0⟩ := by kernel_rfl
theorem ty41 : ty Try.prog 41 = some ⟨6, true, [.str ByteArray.empty, .str ByteArray.empty, .str ByteArray.empty, .int .i64 0, .int .i64 0, .nils], false, 0, none, [(0, 9), (1, 9), (2, 9), (3, 3), (4, 3), (5, 39)], none, false, [(0, 1), (1, 1), (2, 1), (3, 1), (4, 1), (5, 1)], 0⟩ := by kernel_rfl
theorem ty50 : ty Try.prog 50 = some ⟨1, false, [.nils], true, 3, none, [], none, false, [], 0⟩ := by kernel_rfl
theorem ty57 : ty Try.prog 57 = some ⟨3, true, [.int .i64 0, .int .i64 0, .str ByteArray.empty], false, 0, none, [(0, 3), (1, 3), (2, 9)], none, false, [(0, 1), (1, 1), (2, 1)], 0⟩ := by kernel_rfl
theorem ty58 : ty Try.prog 58 = some ⟨3, true, [.int .i64 0, .int .i64 0, .str ByteArray.empty], false, 0, none, [(0, 3), (1, 3), (2, 9)], none, false, [(0, 1), (1, 1), (2, 1)], 0⟩ := by kernel_rfl
theorem ty59 : ty Try.prog 59 = some ⟨4, true, [.str ByteArray.empty, .int .i64 0, .int .i64 0, .str ByteArray.empty], false, 0, none, [(0, 9), (1, 58)], none, false, [(0, 1), (1, 3)], 0⟩ := by kernel_rfl
theorem ty60 : ty Try.prog 60 = some ⟨4, true, [.str ByteArray.empty, .int .i64 0, .int .i64 0, .str ByteArray.empty], false, 0, none, [(0, 9), (1, 58)], none, false, [(0, 1), (1, 3)], 0⟩ := by kernel_rfl
theorem ty63 : ty Try.prog 63 = some ⟨1, false, [.nilp], false, 0, none, [], none, false, [], 0⟩ := by kernel_rfl
theorem ty64 : ty Try.prog 64 = some ⟨1, false, [.nilm], false, 0, none, [], none, false, [], 0⟩ := by kernel_rfl
theorem ty65 : ty Try.prog 65 = some ⟨2, true, [.nilm, .nils], false, 0, none, [(0, 64), (1, 30)], none, false, [(0, 1), (1, 1)], 0⟩ := by kernel_rfl
theorem ty66 : ty Try.prog 66 = some ⟨2, true, [.nilm, .nils], false, 0, none, [(0, 64), (1, 30)], none, false, [(0, 1), (1, 1)], 0⟩ := by kernel_rfl
theorem ty67 : ty Try.prog 67 = some ⟨1, false, [.nils], true, 69, none, [], none, false, [], 0⟩ := by kernel_rfl
theorem ty68 : ty Try.prog 68 = some ⟨7, true, [.str ByteArray.empty, .str ByteArray.empty, .str ByteArray.empty, .int .i64 0, .int .i64 0, .int .i64 0, .int .i64 0], false, 0, none, [(0, 26), (6, 3)], none, false, [(0, 6), (6, 1)], 0⟩ := by kernel_rfl
theorem ty69 : ty Try.prog 69 = some ⟨7, true, [.str ByteArray.empty, .str ByteArray.empty, .str ByteArray.empty, .int .i64 0, .int .i64 0, .int .i64 0, .int .i64 0], false, 0, none, [(0, 26), (6, 3)], none, false, [(0, 6), (6, 1)], 0⟩ := by kernel_rfl
theorem ty80 : ty Try.prog 80 = some ⟨1, false, [.nils], true, 86, none, [], none, false, [], 0⟩ := by kernel_rfl
theorem ty81 : ty Try.prog 81 = some ⟨1, false, [.nils], true, 84, none, [], none, false, [], 0⟩ := by kernel_rfl
theorem ty83 : ty Try.prog 83 = some ⟨2, true, [.int .i64 0, .int .i64 0], false, 0, none, [(0, 3), (1, 3)], none, false, [(0, 1), (1, 1)], 0⟩ := by kernel_rfl
theorem ty84 : ty Try.prog 84 = some ⟨2, true, [.int .i64 0, .int .i64 0], false, 0, none, [(0, 3), (1, 3)], none, false, [(0, 1), (1, 1)], 0⟩ := by kernel_rfl
theorem ty85 : ty Try.prog 85 = some ⟨2, true, [.int .i64 0, .int .i64 0], false, 0, none, [(0, 3), (1, 3)], none, false, [(0, 1), (1, 1)], 0⟩ := by kernel_rfl
theorem ty86 : ty Try.prog 86 = some ⟨2, true, [.int .i64 0, .int .i64 0], false, 0, none, [(0, 3), (1, 3)], none, false, [(0, 1), (1, 1)], 0⟩ := by kernel_rfl
theorem ty90 : ty Try.prog 90 = some ⟨2, true, [.str ByteArray.empty, .str ByteArray.empty], false, 0, none, [(0, 9), (1, 9)], none, false, [(0, 1), (1, 1)], 0⟩ := by kernel_rfl
theorem ty91 : ty Try.prog 91 = some ⟨2, true, [.str ByteArray.empty, .str ByteArray.empty], false, 0, none, [(0, 9), (1, 9)], none, false, [(0, 1), (1, 1)], 0⟩ := by kernel_rfl
theorem ty94 : ty Try.prog 94 = some ⟨3, true, [.int .i64 0, .int .i64 0, .int .i64 0], false, 0, none, [(0, 3), (1, 3), (2, 3)], none, false, [(0, 1), (1, 1), (2, 1)], 0⟩ := by kernel_rfl
theorem ty95 : ty Try.prog 95 = some ⟨3, true, [.int .i64 0, .int .i64 0, .int .i64 0], false, 0, none, [(0, 3), (1, 3), (2, 3)], none, false, [(0, 1), (1, 1), (2, 1)], 0⟩ := by kernel_rfl
theorem ty96 : ty Try.prog 96 = some ⟨1, false, [.nils], true, 95, none, [], none, false, [], 0⟩ := by kernel_rfl
theorem ty105 : ty Try.prog 105 = some ⟨1, false, [.int .u64 0], false, 0, none, [], (some .u64), false, [], 0⟩ := by kernel_rfl
theorem ty111 : ty Try.prog 111 = some ⟨1, false, [.int .i64 0], false, 0, none, [], (some .i64), false, [], 0⟩ := by kernel_rfl
theorem ty119 : ty Try.prog 119 = some ⟨1, false, [.int .u32 0], false, 0, none, [], (some .u32), false, [], 0⟩ := by kernel_rfl
theorem ty121 : ty Try.prog 121 = some ⟨1, false, [.int .u64 0], false, 0, none, [], (some .u64), false, [], 0⟩ := by kernel_rfl
theorem ty122 : ty Try.prog 122 = some ⟨1, false, [.int .u64 0], false, 0, none, [], (some .u64), false, [], 0⟩ := by kernel_rfl
theorem ty126 : ty Try.prog 126 = some ⟨1, false, [.nilp], false, 0, none, [], none, false, [], 0⟩ := by kernel_rfl
theorem ty129 : ty Try.prog 129 = some ⟨1, false, [.nils], true, 5, none, [], none, false, [], 0⟩ := by kernel_rfl
theorem ty130 : ty Try.prog 130 = some ⟨1, false, [.nilp], false, 0, none, [], none, false, [], 0⟩ := by kernel_rfl
theorem ty135 : ty Try.prog 135 = some ⟨4, true, [.nilp, .nilp, .nilp, .str ByteArray.empty], false, 0, none, [(0, 17), (1, 17), (2, 17), (3, 9)], none, false, [(0, 1), (1, 1), (2, 1), (3, 1)], 0⟩ := by kernel_rfl
theorem ty136 : ty Try.prog 136 = some ⟨4, true, [.nilp, .nilp, .nilp, .str ByteArray.empty], false, 0, none, [(0, 17), (1, 17), (2, 17), (3, 9)], none, false, [(0, 1), (1, 1), (2, 1), (3, 1)], 0⟩ := by kernel_rfl
theorem ty141 : ty Try.prog 141 = some ⟨1, false, [.int .u8 0], false, 0, none, [], (some .u8), false, [], 0⟩ := by kernel_rfl
theorem ty142 : ty Try.prog 142 = some ⟨1, false, [.int .u8 0], false, 0, none, [], (some .u8), false, [], 0⟩ := by kernel_rfl
theorem ty144 : ty Try.prog 144 = some ⟨1, false, [.nilp], false, 0, none, [], none, false, [], 0⟩ := by kernel_rfl
theorem ty145 : ty Try.prog 145 = some ⟨1, false, [.int .i32 0], false, 0, none, [], (some .i32), false, [], 0⟩ := by kernel_rfl
theorem ty146 : ty Try.prog 146 = some ⟨1, false, [.int .i32 0], false, 0, none, [], (some .i32), false, [], 0⟩ := by kernel_rfl
theorem ty147 : ty Try.prog 147 = some ⟨11, true, [.int .u64 0, .int .u64 0, .int .u32 0, .int .u8 0, .int .u8 0, .int .u8 0, .int .u8 0, .nilf, .nilp, .int .i32 0, .int .i32 0], false, 0, none, [(0, 12), (1, 12), (2, 119), (3, 141), (4, 5), (5, 5), (6, 142), (7, 143), (8, 144), (9, 145), (10, 146)], none, false, [(0, 1), (1, 1), (2, 1), (3, 1), (4, 1), (5, 1), (6, 1), (7, 1), (8, 1), (9, 1), (10, 1)], 0⟩ := by kernel_rfl
theorem ty148 : ty Try.prog 148 = some ⟨11, true, [.int .u64 0, .int .u64 0, .int .u32 0, .int .u8 0, .int .u8 0, .int .u8 0, .int .u8 0, .nilf, .nilp, .int .i32 0, .int .i32 0], false, 0, none, [(0, 12), (1, 12), (2, 119), (3, 141), (4, 5), (5, 5), (6, 142), (7, 143), (8, 144), (9, 145), (10, 146)], none, false, [(0, 1), (1, 1), (2, 1), (3, 1), (4, 1), (5, 1), (6, 1), (7, 1), (8, 1), (9, 1), (10, 1)], 0⟩ := by kernel_rfl
theorem sk4 : skind Try.prog 4 = some 1 := by kernel_rfl
theorem ek25 : eqKinds Try.prog 25 = some [2, 2, 2, 0, 0, 0] := by kernel_rfl
theorem en25 : eqKindsN Try.prog 25 = some [2, 2, 2, 0, 0, 0] := by kernel_rfl
theorem ek26 : eqKinds Try.prog 26 = some [2, 2, 2, 0, 0, 0] := by kernel_rfl
theorem en26 : eqKindsN Try.prog 26 = some [2, 2, 2, 0, 0, 0] := by kernel_rfl
theorem ek57 : eqKinds Try.prog 57 = some [0, 0, 2] := by kernel_rfl
theorem en57 : eqKindsN Try.prog 57 = some [0, 0, 2] := by kernel_rfl
theorem ek58 : eqKinds Try.prog 58 = some [0, 0, 2] := by kernel_rfl
theorem en58 : eqKindsN Try.prog 58 = some [0, 0, 2] := by kernel_rfl
theorem en59 : eqKindsN Try.prog 59 = some [2, 0, 0, 2] := by kernel_rfl
theorem en60 : eqKindsN Try.prog 60 = some [2, 0, 0, 2] := by kernel_rfl
theorem en68 : eqKindsN Try.prog 68 = some [2, 2, 2, 0, 0, 0, 0] := by kernel_rfl
theorem en69 : eqKindsN Try.prog 69 = some [2, 2, 2, 0, 0, 0, 0] := by kernel_rfl
theorem ek83 : eqKinds Try.prog 83 = some [0, 0] := by kernel_rfl
theorem en83 : eqKindsN Try.prog 83 = some [0, 0] := by kernel_rfl
theorem ek84 : eqKinds Try.prog 84 = some [0, 0] := by kernel_rfl
theorem en84 : eqKindsN Try.prog 84 = some [0, 0] := by kernel_rfl
theorem ek85 : eqKinds Try.prog 85 = some [0, 0] := by kernel_rfl
theorem en85 : eqKindsN Try.prog 85 = some [0, 0] := by kernel_rfl
theorem ek86 : eqKinds Try.prog 86 = some [0, 0] := by kernel_rfl
theorem en86 : eqKindsN Try.prog 86 = some [0, 0] := by kernel_rfl
theorem ek90 : eqKinds Try.prog 90 = some [2, 2] := by kernel_rfl
theorem en90 : eqKindsN Try.prog 90 = some [2, 2] := by kernel_rfl
theorem ek91 : eqKinds Try.prog 91 = some [2, 2] := by kernel_rfl
theorem en91 : eqKindsN Try.prog 91 = some [2, 2] := by kernel_rfl
theorem ek94 : eqKinds Try.prog 94 = some [0, 0, 0] := by kernel_rfl
theorem en94 : eqKindsN Try.prog 94 = some [0, 0, 0] := by kernel_rfl
theorem ek95 : eqKinds Try.prog 95 = some [0, 0, 0] := by kernel_rfl
theorem en95 : eqKindsN Try.prog 95 = some [0, 0, 0] := by kernel_rfl
theorem mp64 : mapTy Try.prog 64 = some (.nils, (true, [2, 2])) := by kernel_rfl
theorem mixed : Try.prog.follows .mixedOrders = true := by kernel_rfl
attribute [simp] ty2 ty3 ty4 ty5 ty6 ty7 ty8 ty9 ty10 ty11 ty12 ty13 ty14 ty15 ty16 ty17 ty18 ty19 ty21 ty22
attribute [simp] ty23 ty24 ty25 ty26 ty30 ty31 ty39 ty40 ty41 ty50 ty57 ty58 ty59 ty60 ty63 ty64 ty65 ty66 ty67 ty68
attribute [simp] ty69 ty80 ty81 ty83 ty84 ty85 ty86 ty90 ty91 ty94 ty95 ty96 ty105 ty111 ty119 ty121 ty122 ty126 ty129 ty130
attribute [simp] ty135 ty136 ty141 ty142 ty144 ty145 ty146 ty147 ty148 sk4 ek25 en25 ek26 en26 ek57 en57 ek58 en58 en59 en60
attribute [simp] en68 en69 ek83 en83 ek84 en84 ek85 en85 ek86 en86 ek90 en90 ek91 en91 ek94 en94 ek95 en95 mp64
end Go.Proofs.Ytpgoefakhecdnaa
