/- Of each type of the program what the abstract machine asks of it. -/
import Derived.Test.YtfbpjlabhckoeaaProg
import Derived.Test.YtfbpjlabhckoeaaM2
namespace Go.Proofs.Ytfbpjlabhckoeaa
set_option linter.unusedSimpArgs false
set_option linter.unusedVariables false
set_option linter.unusedSectionVars false
open Go.RowKit
theorem ty2 : ty Try.prog 2 = some ⟨1, false, [.int .i64 0], false, 0, none, [], (some .i64), false, [], 0⟩ := by kernel_rfl
theorem ty3 : ty Try.prog 3 = some ⟨1, false, [.int .i64 0], false, 0, none, [], (some .i64), false, [], 0⟩ := by kernel_rfl
theorem ty4 : ty Try.prog 4 = some ⟨1, false, [.bool false], false, 0, none, [], none, false, [], 0⟩ := by kernel_rfl
theorem ty5 : ty Try.prog 5 = some ⟨1, false, [.int .u8 0], false, 0, none, [], (some .u8), false, [], 0⟩ := by kernel_rfl
theorem ty6 : ty Try.prog 6 = some ⟨1, false, [.int .u8 0], false, 0, none, [], (some .u8), false, [], 0⟩ := by kernel_rfl
theorem ty7 : ty Try.prog 7 = some ⟨4, true, [.int .i64 0, .int .i64 0, .bool false, .int .u8 0], false, 0, none, [(0, 2), (1, 3), (2, 4), (3, 6)], none, false, [(0, 1), (1, 1), (2, 1), (3, 1)], 0⟩ := by kernel_rfl
theorem ty8 : ty Try.prog 8 = some ⟨4, true, [.int .i64 0, .int .i64 0, .bool false, .int .u8 0], false, 0, none, [(0, 2), (1, 3), (2, 4), (3, 6)], none, false, [(0, 1), (1, 1), (2, 1), (3, 1)], 0⟩ := by kernel_rfl
theorem ty9 : ty Try.prog 9 = some ⟨1, false, [.str ByteArray.empty], false, 0, none, [], none, true, [], 0⟩ := by kernel_rfl
theorem ty10 : ty Try.prog 10 = some ⟨1, false, [.str ByteArray.empty], false, 0, none, [], none, true, [], 0⟩ := by kernel_rfl
theorem ty11 : ty Try.prog 11 = some ⟨1, false, [.str ByteArray.empty], false, 0, none, [], none, true, [], 0⟩ := by kernel_rfl
theorem ty12 : ty Try.prog 12 = some ⟨1, false, [.int .u64 0], false, 0, none, [], (some .u64), false, [], 0⟩ := by kernel_rfl
theorem ty13 : ty Try.prog 13 = some ⟨2, true, [.str ByteArray.empty, .int .u64 0], false, 0, none, [(0, 9), (1, 12)], none, false, [(0, 1), (1, 1)], 0⟩ := by kernel_rfl
theorem ty14 : ty Try.prog 14 = some ⟨2, true, [.str ByteArray.empty, .int .u64 0], false, 0, none, [(0, 9), (1, 12)], none, false, [(0, 1), (1, 1)], 0⟩ := by kernel_rfl
theorem ty15 : ty Try.prog 15 = some ⟨1, false, [.nilp], false, 0, none, [], none, false, [], 0⟩ := by kernel_rfl
theorem ty16 : ty Try.prog 16 = some ⟨1, false, [.nilp], false, 0, none, [], none, false, [], 0⟩ := by kernel_rfl
theorem ty17 : ty Try.prog 17 = some ⟨1, false, [.nilp], false, 0, none, [], none, false, [], 0⟩ := by kernel_rfl
theorem ty18 : ty Try.prog 18 = some ⟨1, true, [.nilp], false, 0, none, [(0, 17)], none, false, [(0, 1)], 0⟩ := by kernel_rfl
theorem ty19 : ty Try.prog 19 = some ⟨1, true, [.nilp], false, 0, none, [(0, 17)], none, false, [(0, 1)], 0⟩ := by kernel_rfl
theorem ty21 : ty Try.prog 21 = some ⟨1, false, [.int .i32 0], false, 0, none, [], (some .i32), false, [], 0⟩ := by kernel_rfl
theorem ty22 : ty Try.prog 22 = some ⟨1, false, [.nils], true, 50, none, [], none, false, [], 0⟩ := by kernel_rfl
theorem ty23 : ty Try.prog 23 = some ⟨1, true, [.nils], false, 0, none, [(0, 22)], none, false, [(0, 1)], 0⟩ := by kernel_rfl
theorem ty24 : ty Try.prog 24 = some ⟨1, true, [.nils], false, 0, none, [(0, 22)], none, false, [(0, 1)], 0⟩ := by kernel_rfl
theorem ty25 : ty Try.prog 25 = some ⟨6, true, [.str ByteArray.empty, .str ByteArray.empty, .str ByteArray.empty, .int .i64 0, .int .i64 0, .int .i64 0], false, 0, none, [(0, 9), (1, 9), (2, 9), (3, 3), (4, 3), (5, 3)], none, false, [(0, 1), (1, 1), (2, 1), (3, 1), (4, 1), (5, 1)], 0⟩ := by kernel_rfl
theorem ty26 : ty Try.prog 26 = some ⟨6, true, [.str ByteArray.empty, .str ByteArray.empty, .str ByteArray.empty, .int .i64 0, .int .i64 0, .int .i64 0], false, 0, none, [(0, 9), (1, 9), (2, 9), (3, 3), (4, 3), (5, 3)], none, false, [(0, 1), (1, 1), (2, 1), (3, 1), (4, 1), (5, 1)], 0⟩ := by kernel_rfl
theorem ty30 : ty Try.prog 30 = some ⟨1, false, [.nils], true, 26, none, [], none, false, [], 0⟩ := by kernel_rfl
theorem ty31 : ty Try.prog 31 = some ⟨1, false, [.int .i64 0], false, 0, none, [], (some .i64), false, [], 0⟩ := by kernel_rfl
theorem ty39 : ty Try.prog 39 = some ⟨1, false, [.nils], true, 3, none, [], none, false, [], 0⟩ := by kernel_rfl
theorem ty48 : ty Try.prog 48 = some ⟨1, false, [.nils], true, 83, none, [], none, false, [], 0⟩ := by kernel_rfl
theorem ty49 : ty Try.prog 49 = some ⟨6, true, [.str ByteArray.empty, .str ByteArray.empty, .str ByteArray.empty, .int .i64 0, .int .i64 0, .nils], false, 0, none, [(0, 9), (1, 9), (2, 9), (3, 3), (4, 3), (5, 48)], none, false, [(0, 1), (1, 1), (2, 1), (3, 1), (4, 1), (5, 1)], 0⟩ := by kernel_rfl
theorem ty50 : ty Try.prog 50 = some ⟨6, true, [.str ByteArray.empty, .str ByteArray.empty, .str ByteArray.empty, .int .i64 0, .int .i64 0, .nils], false, 0, none, [(0, 9), (1, 9), (2, 9), (3, 3), (4, 3), (5, 48)], none, false, [(0, 1), (1, 1), (2, 1), (3, 1), (4, 1), (5, 1)], 0⟩ := by kernel_rfl
theorem ty57 : ty Try.prog 57 = some ⟨1, false, [.nils], true, 62, none, [], none, false, [], 0⟩ := by kernel_rfl
theorem ty58 : ty Try.prog 58 = some ⟨1, true, [.nils], false, 0, none, [(0, 57)], none, false, [(0, 1)], 0⟩ := by kernel_rfl
theorem ty59 : ty Try.prog 59 = some ⟨1, true, [.nils], false, 0, none, [(0, 57)], none, false, [(0, 1)], 0⟩ := by kernel_rfl
theorem ty61 : ty Try.prog 61 = some ⟨2, true, [.int .i64 0, .int .i64 0], false, 0, none, [(0, 3), (1, 3)], none, false, [(0, 1), (1, 1)], 0⟩ := by kernel_rfl
theorem ty62 : ty Try.prog 62 = some ⟨2, true, [.int .i64 0, .int .i64 0], false, 0, none, [(0, 3), (1, 3)], none, false, [(0, 1), (1, 1)], 0⟩ := by kernel_rfl
theorem ty80 : ty Try.prog 80 = some ⟨3, true, [.int .i64 0, .int .i64 0, .str ByteArray.empty], false, 0, none, [(0, 3), (1, 3), (2, 9)], none, false, [(0, 1), (1, 1), (2, 1)], 0⟩ := by kernel_rfl
theorem ty81 : ty Try.prog 81 = some ⟨3, true, [.int .i64 0, .int .i64 0, .str ByteArray.empty], false, 0, none, [(0, 3), (1, 3), (2, 9)], none, false, [(0, 1), (1, 1), (2, 1)], 0⟩ := by kernel_rfl
theorem ty82 : ty Try.prog 82 = some ⟨4, true, [.str ByteArray.empty, .int .i64 0, .int .i64 0, .str ByteArray.empty], false, 0, none, [(0, 9), (1, 81)], none, false, [(0, 1), (1, 3)], 0⟩ := by kernel_rfl
theorem ty83 : ty Try.prog 83 = some ⟨4, true, [.str ByteArray.empty, .int .i64 0, .int .i64 0, .str ByteArray.empty], false, 0, none, [(0, 9), (1, 81)], none, false, [(0, 1), (1, 3)], 0⟩ := by kernel_rfl
theorem ty86 : ty Try.prog 86 = some ⟨1, false, [.nilp], false, 0, none, [], none, false, [], 0⟩ := by kernel_rfl
theorem ty87 : ty Try.prog 87 = some ⟨1, false, [.nilm], false, 0, none, [], none, false, [], 0⟩ := by kernel_rfl
theorem ty88 : ty Try.prog 88 = some ⟨2, true, [.nilm, .nils], false, 0, none, [(0, 87), (1, 30)], none, false, [(0, 1), (1, 1)], 0⟩ := by kernel_rfl
theorem ty89 : ty Try.prog 89 = some ⟨2, true, [.nilm, .nils], false, 0, none, [(0, 87), (1, 30)], none, false, [(0, 1), (1, 1)], 0⟩ := by kernel_rfl
theorem ty90 : ty Try.prog 90 = some ⟨1, false, [.nils], true, 92, none, [], none, false, [], 0⟩ := by kernel_rfl
theorem ty91 : ty Try.prog 91 = some ⟨7, true, [.str ByteArray.empty, .str ByteArray.empty, .str ByteArray.empty, .int .i64 0, .int .i64 0, .int .i64 0, .int .i64 0], false, 0, none, [(0, 26), (6, 3)], none, false, [(0, 6), (6, 1)], 0⟩ := by kernel_rfl
theorem ty92 : ty Try.prog 92 = some ⟨7, true, [.str ByteArray.empty, .str ByteArray.empty, .str ByteArray.empty, .int .i64 0, .int .i64 0, .int .i64 0, .int .i64 0], false, 0, none, [(0, 26), (6, 3)], none, false, [(0, 6), (6, 1)], 0⟩ := by kernel_rfl
theorem ty102 : ty Try.prog 102 = some ⟨1, false, [.nils], true, 105, none, [], none, false, [], 0⟩ := by kernel_rfl
theorem ty104 : ty Try.prog 104 = some ⟨2, true, [.int .i64 0, .int .i64 0], false, 0, none, [(0, 3), (1, 3)], none, false, [(0, 1), (1, 1)], 0⟩ := by kernel_rfl
theorem ty105 : ty Try.prog 105 = some ⟨2, true, [.int .i64 0, .int .i64 0], false, 0, none, [(0, 3), (1, 3)], none, false, [(0, 1), (1, 1)], 0⟩ := by kernel_rfl
theorem ty112 : ty Try.prog 112 = some ⟨1, false, [.nils], true, 57, none, [], none, false, [], 0⟩ := by kernel_rfl
theorem ty115 : ty Try.prog 115 = some ⟨2, true, [.str ByteArray.empty, .str ByteArray.empty], false, 0, none, [(0, 9), (1, 9)], none, false, [(0, 1), (1, 1)], 0⟩ := by kernel_rfl
theorem ty116 : ty Try.prog 116 = some ⟨2, true, [.str ByteArray.empty, .str ByteArray.empty], false, 0, none, [(0, 9), (1, 9)], none, false, [(0, 1), (1, 1)], 0⟩ := by kernel_rfl
theorem ty119 : ty Try.prog 119 = some ⟨3, true, [.int .i64 0, .int .i64 0, .int .i64 0], false, 0, none, [(0, 3), (1, 3), (2, 3)], none, false, [(0, 1), (1, 1), (2, 1)], 0⟩ := by kernel_rfl
theorem ty120 : ty Try.prog 120 = some ⟨3, true, [.int .i64 0, .int .i64 0, .int .i64 0], false, 0, none, [(0, 3), (1, 3), (2, 3)], none, false, [(0, 1), (1, 1), (2, 1)], 0⟩ := by kernel_rfl
theorem ty121 : ty Try.prog 121 = some ⟨1, false, [.nils], true, 120, none, [], none, false, [], 0⟩ := by kernel_rfl
theorem ty129 : ty Try.prog 129 = some ⟨1, false, [.int .u64 0], false, 0, none, [], (some .u64), false, [], 0⟩ := by kernel_rfl
theorem ty139 : ty Try.prog 139 = some ⟨1, false, [.int .i64 0], false, 0, none, [], (some .i64), false, [], 0⟩ := by kernel_rfl
theorem ty147 : ty Try.prog 147 = some ⟨1, false, [.int .u32 0], false, 0, none, [], (some .u32), false, [], 0⟩ := by kernel_rfl
theorem ty149 : ty Try.prog 149 = some ⟨1, false, [.int .u64 0], false, 0, none, [], (some .u64), false, [], 0⟩ := by kernel_rfl
theorem ty151 : ty Try.prog 151 = some ⟨1, false, [.int .u64 0], false, 0, none, [], (some .u64), false, [], 0⟩ := by kernel_rfl
theorem ty155 : ty Try.prog 155 = some ⟨1, false, [.nilp], false, 0, none, [], none, false, [], 0⟩ := by kernel_rfl
theorem ty163 : ty Try.prog 163 = some ⟨1, false, [.nils], true, 5, none, [], none, false, [], 0⟩ := by kernel_rfl
theorem ty164 : ty Try.prog 164 = some ⟨1, false, [.nilp], false, 0, none, [], none, false, [], 0⟩ := by kernel_rfl
theorem ty172 : ty Try.prog 172 = some ⟨4, true, [.nilp, .nilp, .nilp, .str ByteArray.empty], false, 0, none, [(0, 17), (1, 17), (2, 17), (3, 9)], none, false, [(0, 1), (1, 1), (2, 1), (3, 1)], 0⟩ := by kernel_rfl
theorem ty173 : ty Try.prog 173 = some ⟨4, true, [.nilp, .nilp, .nilp, .str ByteArray.empty], false, 0, none, [(0, 17), (1, 17), (2, 17), (3, 9)], none, false, [(0, 1), (1, 1), (2, 1), (3, 1)], 0⟩ := by kernel_rfl
theorem ty178 : ty Try.prog 178 = some ⟨1, false, [.int .u8 0], false, 0, none, [], (some .u8), false, [], 0⟩ := by kernel_rfl
theorem ty179 : ty Try.prog 179 = some ⟨1, false, [.int .u8 0], false, 0, none, [], (some .u8), false, [], 0⟩ := by kernel_rfl
theorem ty181 : ty Try.prog 181 = some ⟨1, false, [.nilp], false, 0, none, [], none, false, [], 0⟩ := by kernel_rfl
theorem ty182 : ty Try.prog 182 = some ⟨1, false, [.int .i32 0], false, 0, none, [], (some .i32), false, [], 0⟩ := by kernel_rfl
theorem ty183 : ty Try.prog 183 = some ⟨1, false, [.int .i32 0], false, 0, none, [], (some .i32), false, [], 0⟩ := by kernel_rfl
theorem ty184 : ty Try.prog 184 = some ⟨11, true, [.int .u64 0, .int .u64 0, .int .u32 0, .int .u8 0, .int .u8 0, .int .u8 0, .int .u8 0, .nilf, .nilp, .int .i32 0, .int .i32 0], false, 0, none, [(0, 12), (1, 12), (2, 147), (3, 178), (4, 5), (5, 5), (6, 179), (7, 180), (8, 181), (9, 182), (10, 183)], none, false, [(0, 1), (1, 1), (2, 1), (3, 1), (4, 1), (5, 1), (6, 1), (7, 1), (8, 1), (9, 1), (10, 1)], 0⟩ := by kernel_rfl
theorem ty185 : ty Try.prog 185 = some ⟨11, true, [.int .u64 0, .int .u64 0, .int .u32 0, .int .u8 0, .int .u8 0, .int .u8 0, .int .u8 0, .nilf, .nilp, .int .i32 0, .int .i32 0], false, 0, none, [(0, 12), (1, 12), (2, 147), (3, 178), (4, 5), (5, 5), (6, 179), (7, 180), (8, 181), (9, 182), (10, 183)], none, false, [(0, 1), (1, 1), (2, 1), (3, 1), (4, 1), (5, 1), (6, 1), (7, 1), (8, 1), (9, 1), (10, 1)], 0⟩ := by kernel_rfl
theorem sk4 : skind Try.prog 4 = some 1 := by kernel_rfl
theorem ek25 : eqKinds Try.prog 25 = some [2, 2, 2, 0, 0, 0] := by kernel_rfl
theorem en25 : eqKindsN Try.prog 25 = some [2, 2, 2, 0, 0, 0] := by kernel_rfl
theorem ek26 : eqKinds Try.prog 26 = some [2, 2, 2, 0, 0, 0] := by kernel_rfl
theorem en26 : eqKindsN Try.prog 26 = some [2, 2, 2, 0, 0, 0] := by kernel_rfl
theorem ek61 : eqKinds Try.prog 61 = some [0, 0] := by kernel_rfl
theorem en61 : eqKindsN Try.prog 61 = some [0, 0] := by kernel_rfl
theorem ek62 : eqKinds Try.prog 62 = some [0, 0] := by kernel_rfl
theorem en62 : eqKindsN Try.prog 62 = some [0, 0] := by kernel_rfl
theorem ek80 : eqKinds Try.prog 80 = some [0, 0, 2] := by kernel_rfl
theorem en80 : eqKindsN Try.prog 80 = some [0, 0, 2] := by kernel_rfl
theorem ek81 : eqKinds Try.prog 81 = some [0, 0, 2] := by kernel_rfl
theorem en81 : eqKindsN Try.prog 81 = some [0, 0, 2] := by kernel_rfl
theorem en82 : eqKindsN Try.prog 82 = some [2, 0, 0, 2] := by kernel_rfl
theorem en83 : eqKindsN Try.prog 83 = some [2, 0, 0, 2] := by kernel_rfl
theorem en91 : eqKindsN Try.prog 91 = some [2, 2, 2, 0, 0, 0, 0] := by kernel_rfl
theorem en92 : eqKindsN Try.prog 92 = some [2, 2, 2, 0, 0, 0, 0] := by kernel_rfl
theorem ek104 : eqKinds Try.prog 104 = some [0, 0] := by kernel_rfl
theorem en104 : eqKindsN Try.prog 104 = some [0, 0] := by kernel_rfl
theorem ek105 : eqKinds Try.prog 105 = some [0, 0] := by kernel_rfl
theorem en105 : eqKindsN Try.prog 105 = some [0, 0] := by kernel_rfl
theorem ek115 : eqKinds Try.prog 115 = some [2, 2] := by kernel_rfl
theorem en115 : eqKindsN Try.prog 115 = some [2, 2] := by kernel_rfl
theorem ek116 : eqKinds Try.prog 116 = some [2, 2] := by kernel_rfl
theorem en116 : eqKindsN Try.prog 116 = some [2, 2] := by kernel_rfl
theorem ek119 : eqKinds Try.prog 119 = some [0, 0, 0] := by kernel_rfl
theorem en119 : eqKindsN Try.prog 119 = some [0, 0, 0] := by kernel_rfl
theorem ek120 : eqKinds Try.prog 120 = some [0, 0, 0] := by kernel_rfl
theorem en120 : eqKindsN Try.prog 120 = some [0, 0, 0] := by kernel_rfl
theorem mp87 : mapTy Try.prog 87 = some (.nils, (true, [2, 2])) := by kernel_rfl
theorem mixed : Try.prog.follows .mixedOrders = true := by kernel_rfl
attribute [simp] ty2 ty3 ty4 ty5 ty6 ty7 ty8 ty9 ty10 ty11 ty12 ty13 ty14 ty15 ty16 ty17 ty18 ty19 ty21 ty22
attribute [simp] ty23 ty24 ty25 ty26 ty30 ty31 ty39 ty48 ty49 ty50 ty57 ty58 ty59 ty61 ty62 ty80 ty81 ty82 ty83 ty86
attribute [simp] ty87 ty88 ty89 ty90 ty91 ty92 ty102 ty104 ty105 ty112 ty115 ty116 ty119 ty120 ty121 ty129 ty139 ty147 ty149 ty151
attribute [simp] ty155 ty163 ty164 ty172 ty173 ty178 ty179 ty181 ty182 ty183 ty184 ty185 sk4 ek25 en25 ek26 en26 ek61 en61 ek62
attribute [simp] en62 ek80 en80 ek81 en81 en82 en83 en91 en92 ek104 en104 ek105 en105 ek115 en115 ek116 en116 ek119 en119 ek120
attribute [simp] en120 mp87
end Go.Proofs.Ytfbpjlabhckoeaa
