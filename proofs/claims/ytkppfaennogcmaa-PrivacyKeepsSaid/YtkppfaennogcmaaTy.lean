/- Of each type of the program what the abstract machine asks of it. -/
import Derived.Test.YtkppfaennogcmaaProg
import Derived.Test.YtkppfaennogcmaaM3
namespace Go.Proofs.Ytkppfaennogcmaa
set_option linter.unusedSimpArgs false
set_option linter.unusedVariables false
set_option linter.unusedSectionVars false
open Go.RowKit
theorem ty2 : ty Try.prog 2 = some ⟨1, false, [.int .i64 0], false, 0, none, [], (some .i64), false, [], 0⟩ := by kernel_rfl
theorem ty3 : ty Try.prog 3 = some ⟨1, false, [.int .i64 0], false, 0, none, [], (some .i64), false, [], 0⟩ := by kernel_rfl
theorem ty4 : ty Try.prog 4 = some ⟨1, false, [.bool false], false, 0, none, [], none, false, [], 0⟩ := by kernel_rfl
theorem ty5 : ty Try.prog 5 = some ⟨1, false, [.int .u8 0], false, 0, none, [], (some .u8), false, [], 0⟩ := by kernel_rfl
theorem ty6 : ty Try.prog 6 = some ⟨1, false, [.int .u8 0], false, 0, none, [], (some .u8), false, [], 0⟩ := by kernel_rfl
theorem ty7 : ty Try.prog 7 = some ⟨4, true, [.int .i64 0, .int .i64 0, .bool false, .int .u8 0], false, 0, none, [(0, 2), (1, 3), (2, 4), (3, 6)], none, false, [(0, 1), (1, 1), (2, 1), (3, 1)], 0⟩ := by kernel_rfl
theorem ty8 : ty Try.prog 8 = some ⟨4, true, [.int .i64 0, .int .i64 0, .bool false, .int .u8 0], false, 0, none, [(0, 2), (1, 3), (2, 4), (3, 6)], none, false, [(0, 1), (1, 1), (2, 1), (3, 1)], 0⟩ := by kernel_rfl
theorem ty9 : ty Try.prog 9 = some ⟨1, false, [.str ByteArray.empty], false, 0, none, [], none, true, [], 0⟩ := by kernel_rfl
theorem ty10 : ty Try.prog 10 = some ⟨1, false, [.str ByteArray.empty], false, 0, none, [], none, true, [], 0⟩ := by kernel_rfl
theorem ty11 : ty Try.prog 11 = some ⟨1, false, [.str ByteArray.empty], false, 0, none, [], none, true, [], 0⟩ := by kernel_rfl
theorem ty12 : ty Try.prog 12 = some ⟨1, false, [.int .u64 0], false, 0, none, [], (some .u64), false, [], 0⟩ := by kernel_rfl
theorem ty13 : ty Try.prog 13 = some ⟨2, true, [.str ByteArray.empty, .int .u64 0], false, 0, none, [(0, 9), (1, 12)], none, false, [(0, 1), (1, 1)], 0⟩ := by kernel_rfl
theorem ty14 : ty Try.prog 14 = some ⟨2, true, [.str ByteArray.empty, .int .u64 0], false, 0, none, [(0, 9), (1, 12)], none, false, [(0, 1), (1, 1)], 0⟩ := by kernel_rfl
theorem ty15 : ty Try.prog 15 = some ⟨1, false, [.nilp], false, 0, none, [], none, false, [], 0⟩ := by kernel_rfl
theorem ty16 : ty Try.prog 16 = some ⟨1, false, [.nilp], false, 0, none, [], none, false, [], 0⟩ := by kernel_rfl
theorem ty17 : ty Try.prog 17 = some ⟨1, false, [.nilp], false, 0, none, [], none, false, [], 0⟩ := by kernel_rfl
theorem ty18 : ty Try.prog 18 = some ⟨1, true, [.nilp], false, 0, none, [(0, 17)], none, false, [(0, 1)], 0⟩ := by kernel_rfl
theorem ty19 : ty Try.prog 19 = some ⟨1, true, [.nilp], false, 0, none, [(0, 17)], none, false, [(0, 1)], 0⟩ := by kernel_rfl
theorem ty21 : ty Try.prog 21 = some ⟨1, false, [.int .i32 0], false, 0, none, [], (some .i32), false, [], 0⟩ := by kernel_rfl
theorem ty22 : ty Try.prog 22 = some ⟨1, false, [.nils], true, 51, none, [], none, false, [], 0⟩ := by kernel_rfl
theorem ty23 : ty Try.prog 23 = some ⟨1, false, [.nils], true, 54, none, [], none, false, [], 0⟩ := by kernel_rfl
theorem ty27 : ty Try.prog 27 = some ⟨1, false, [.int .i64 0], false, 0, none, [], (some .i64), false, [], 0⟩ := by kernel_rfl
theorem ty38 : ty Try.prog 38 = some ⟨1, false, [.nils], true, 3, none, [], none, false, [], 0⟩ := by kernel_rfl
theorem ty39 : ty Try.prog 39 = some ⟨1, false, [.nils], true, 46, none, [], none, false, [], 0⟩ := by kernel_rfl
theorem ty45 : ty Try.prog 45 = some ⟨2, true, [.int .i64 0, .int .i64 0], false, 0, none, [(0, 3), (1, 3)], none, false, [(0, 1), (1, 1)], 0⟩ := by kernel_rfl
theorem ty46 : ty Try.prog 46 = some ⟨2, true, [.int .i64 0, .int .i64 0], false, 0, none, [(0, 3), (1, 3)], none, false, [(0, 1), (1, 1)], 0⟩ := by kernel_rfl
theorem ty49 : ty Try.prog 49 = some ⟨1, false, [.nils], true, 9, none, [], none, false, [], 0⟩ := by kernel_rfl
theorem ty50 : ty Try.prog 50 = some ⟨2, true, [.nils, .int .i64 0], false, 0, none, [(0, 49), (1, 3)], none, false, [(0, 1), (1, 1)], 0⟩ := by kernel_rfl
theorem ty51 : ty Try.prog 51 = some ⟨2, true, [.nils, .int .i64 0], false, 0, none, [(0, 49), (1, 3)], none, false, [(0, 1), (1, 1)], 0⟩ := by kernel_rfl
theorem ty54 : ty Try.prog 54 = some ⟨2, true, [.nils, .int .i64 0], false, 0, none, [(0, 49), (1, 3)], none, false, [(0, 1), (1, 1)], 0⟩ := by kernel_rfl
theorem ty60 : ty Try.prog 60 = some ⟨2, true, [.int .i64 0, .int .i64 0], false, 0, none, [(0, 3), (1, 3)], none, false, [(0, 1), (1, 1)], 0⟩ := by kernel_rfl
theorem ty61 : ty Try.prog 61 = some ⟨2, true, [.int .i64 0, .int .i64 0], false, 0, none, [(0, 3), (1, 3)], none, false, [(0, 1), (1, 1)], 0⟩ := by kernel_rfl
theorem ty62 : ty Try.prog 62 = some ⟨2, true, [.int .u8 0, .int .u8 0], false, 5, (some 2), [], none, false, [], 1⟩ := by kernel_rfl
theorem ty63 : ty Try.prog 63 = some ⟨12, true, [.int .i64 0, .int .i64 0, .int .i64 0, .int .i64 0, .int .i64 0, .int .i64 0, .int .i64 0, .int .i64 0, .int .i64 0, .int .i64 0, .int .i64 0, .int .i64 0], false, 3, (some 12), [], none, false, [], 1⟩ := by kernel_rfl
theorem ty67 : ty Try.prog 67 = some ⟨1, false, [.int .u64 0], false, 0, none, [], (some .u64), false, [], 0⟩ := by kernel_rfl
theorem ty68 : ty Try.prog 68 = some ⟨1, false, [.nils], true, 5, none, [], none, false, [], 0⟩ := by kernel_rfl
theorem ty76 : ty Try.prog 76 = some ⟨1, false, [.nils], true, 49, none, [], none, false, [], 0⟩ := by kernel_rfl
theorem ty84 : ty Try.prog 84 = some ⟨1, false, [.nils], true, 61, none, [], none, false, [], 0⟩ := by kernel_rfl
theorem ty91 : ty Try.prog 91 = some ⟨1, false, [.nils], true, 97, none, [], none, false, [], 0⟩ := by kernel_rfl
theorem ty94 : ty Try.prog 94 = some ⟨1, false, [.nils], true, 95, none, [], none, false, [], 0⟩ := by kernel_rfl
theorem ty95 : ty Try.prog 95 = some ⟨1, false, [.nilm], false, 0, none, [], none, false, [], 0⟩ := by kernel_rfl
theorem ty96 : ty Try.prog 96 = some ⟨2, true, [.nils, .int .i64 0], false, 0, none, [(0, 49), (1, 3)], none, false, [(0, 1), (1, 1)], 0⟩ := by kernel_rfl
theorem ty97 : ty Try.prog 97 = some ⟨2, true, [.nils, .int .i64 0], false, 0, none, [(0, 49), (1, 3)], none, false, [(0, 1), (1, 1)], 0⟩ := by kernel_rfl
theorem ty104 : ty Try.prog 104 = some ⟨1, false, [.nilm], false, 0, none, [], none, false, [], 0⟩ := by kernel_rfl
theorem ty111 : ty Try.prog 111 = some ⟨1, false, [.nils], true, 113, none, [], none, false, [], 0⟩ := by kernel_rfl
theorem ty112 : ty Try.prog 112 = some ⟨2, true, [.int .i64 0, .int .i64 0], false, 0, none, [(0, 3), (1, 3)], none, false, [(0, 1), (1, 1)], 0⟩ := by kernel_rfl
theorem ty113 : ty Try.prog 113 = some ⟨2, true, [.int .i64 0, .int .i64 0], false, 0, none, [(0, 3), (1, 3)], none, false, [(0, 1), (1, 1)], 0⟩ := by kernel_rfl
theorem ty117 : ty Try.prog 117 = some ⟨1, false, [.nilp], false, 0, none, [], none, false, [], 0⟩ := by kernel_rfl
theorem ty121 : ty Try.prog 121 = some ⟨3, true, [.nils, .int .i64 0, .bool false], false, 0, none, [(0, 68), (1, 3), (2, 4)], none, false, [(0, 1), (1, 1), (2, 1)], 0⟩ := by kernel_rfl
theorem ty122 : ty Try.prog 122 = some ⟨3, true, [.nils, .int .i64 0, .bool false], false, 0, none, [(0, 68), (1, 3), (2, 4)], none, false, [(0, 1), (1, 1), (2, 1)], 0⟩ := by kernel_rfl
theorem ty125 : ty Try.prog 125 = some ⟨1, false, [.nils], true, 68, none, [], none, false, [], 0⟩ := by kernel_rfl
theorem ty130 : ty Try.prog 130 = some ⟨1, false, [.nilm], false, 0, none, [], none, false, [], 0⟩ := by kernel_rfl
theorem ty149 : ty Try.prog 149 = some ⟨1, false, [.nilp], false, 0, none, [], none, false, [], 0⟩ := by kernel_rfl
theorem ty150 : ty Try.prog 150 = some ⟨2, true, [.nilp, .nils], false, 0, none, [(0, 149), (1, 68)], none, false, [(0, 1), (1, 1)], 0⟩ := by kernel_rfl
theorem ty151 : ty Try.prog 151 = some ⟨2, true, [.nilp, .nils], false, 0, none, [(0, 149), (1, 68)], none, false, [(0, 1), (1, 1)], 0⟩ := by kernel_rfl
theorem ty160 : ty Try.prog 160 = some ⟨1, false, [.int .u64 0], false, 0, none, [], (some .u64), false, [], 0⟩ := by kernel_rfl
theorem ty164 : ty Try.prog 164 = some ⟨1, false, [.nilp], false, 0, none, [], none, false, [], 0⟩ := by kernel_rfl
theorem ty166 : ty Try.prog 166 = some ⟨1, false, [.int .i64 0], false, 0, none, [], (some .i64), false, [], 0⟩ := by kernel_rfl
theorem ty173 : ty Try.prog 173 = some ⟨1, false, [.int .u32 0], false, 0, none, [], (some .u32), false, [], 0⟩ := by kernel_rfl
theorem ty178 : ty Try.prog 178 = some ⟨1, false, [.int .u64 0], false, 0, none, [], (some .u64), false, [], 0⟩ := by kernel_rfl
theorem ty182 : ty Try.prog 182 = some ⟨1, false, [.nilp], false, 0, none, [], none, false, [], 0⟩ := by kernel_rfl
theorem ty184 : ty Try.prog 184 = some ⟨1, false, [.nilp], false, 0, none, [], none, false, [], 0⟩ := by kernel_rfl
theorem ty186 : ty Try.prog 186 = some ⟨4, true, [.nilp, .nilp, .nilp, .str ByteArray.empty], false, 0, none, [(0, 17), (1, 17), (2, 17), (3, 9)], none, false, [(0, 1), (1, 1), (2, 1), (3, 1)], 0⟩ := by kernel_rfl
theorem ty187 : ty Try.prog 187 = some ⟨4, true, [.nilp, .nilp, .nilp, .str ByteArray.empty], false, 0, none, [(0, 17), (1, 17), (2, 17), (3, 9)], none, false, [(0, 1), (1, 1), (2, 1), (3, 1)], 0⟩ := by kernel_rfl
theorem ty192 : ty Try.prog 192 = some ⟨1, false, [.int .u8 0], false, 0, none, [], (some .u8), false, [], 0⟩ := by kernel_rfl
theorem ty193 : ty Try.prog 193 = some ⟨1, false, [.int .u8 0], false, 0, none, [], (some .u8), false, [], 0⟩ := by kernel_rfl
theorem ty195 : ty Try.prog 195 = some ⟨1, false, [.int .i32 0], false, 0, none, [], (some .i32), false, [], 0⟩ := by kernel_rfl
theorem ty196 : ty Try.prog 196 = some ⟨1, false, [.int .i32 0], false, 0, none, [], (some .i32), false, [], 0⟩ := by kernel_rfl
theorem ty197 : ty Try.prog 197 = some ⟨11, true, [.int .u64 0, .int .u64 0, .int .u32 0, .int .u8 0, .int .u8 0, .int .u8 0, .int .u8 0, .nilf, .nilp, .int .i32 0, .int .i32 0], false, 0, none, [(0, 12), (1, 12), (2, 173), (3, 192), (4, 5), (5, 5), (6, 193), (7, 194), (8, 164), (9, 195), (10, 196)], none, false, [(0, 1), (1, 1), (2, 1), (3, 1), (4, 1), (5, 1), (6, 1), (7, 1), (8, 1), (9, 1), (10, 1)], 0⟩ := by kernel_rfl
theorem ty198 : ty Try.prog 198 = some ⟨11, true, [.int .u64 0, .int .u64 0, .int .u32 0, .int .u8 0, .int .u8 0, .int .u8 0, .int .u8 0, .nilf, .nilp, .int .i32 0, .int .i32 0], false, 0, none, [(0, 12), (1, 12), (2, 173), (3, 192), (4, 5), (5, 5), (6, 193), (7, 194), (8, 164), (9, 195), (10, 196)], none, false, [(0, 1), (1, 1), (2, 1), (3, 1), (4, 1), (5, 1), (6, 1), (7, 1), (8, 1), (9, 1), (10, 1)], 0⟩ := by kernel_rfl
theorem sk4 : skind Try.prog 4 = some 1 := by kernel_rfl
theorem ek45 : eqKinds Try.prog 45 = some [0, 0] := by kernel_rfl
theorem en45 : eqKindsN Try.prog 45 = some [0, 0] := by kernel_rfl
theorem ek46 : eqKinds Try.prog 46 = some [0, 0] := by kernel_rfl
theorem en46 : eqKindsN Try.prog 46 = some [0, 0] := by kernel_rfl
theorem ek60 : eqKinds Try.prog 60 = some [0, 0] := by kernel_rfl
theorem en60 : eqKindsN Try.prog 60 = some [0, 0] := by kernel_rfl
theorem ek61 : eqKinds Try.prog 61 = some [0, 0] := by kernel_rfl
theorem en61 : eqKindsN Try.prog 61 = some [0, 0] := by kernel_rfl
theorem ek112 : eqKinds Try.prog 112 = some [0, 0] := by kernel_rfl
theorem en112 : eqKindsN Try.prog 112 = some [0, 0] := by kernel_rfl
theorem ek113 : eqKinds Try.prog 113 = some [0, 0] := by kernel_rfl
theorem en113 : eqKindsN Try.prog 113 = some [0, 0] := by kernel_rfl
theorem mp95 : mapTy Try.prog 95 = some (.agg [.nils, .int .i64 0], (false, [2])) := by kernel_rfl
theorem mp104 : mapTy Try.prog 104 = some (.int .i64 0, (false, [2])) := by kernel_rfl
theorem mp130 : mapTy Try.prog 130 = some (.bool false, (false, [2])) := by kernel_rfl
theorem mixed : Try.prog.follows .mixedOrders = true := by kernel_rfl
attribute [simp] ty2 ty3 ty4 ty5 ty6 ty7 ty8 ty9 ty10 ty11 ty12 ty13 ty14 ty15 ty16 ty17 ty18 ty19 ty21 ty22
attribute [simp] ty23 ty27 ty38 ty39 ty45 ty46 ty49 ty50 ty51 ty54 ty60 ty61 ty62 ty63 ty67 ty68 ty76 ty84 ty91 ty94
attribute [simp] ty95 ty96 ty97 ty104 ty111 ty112 ty113 ty117 ty121 ty122 ty125 ty130 ty149 ty150 ty151 ty160 ty164 ty166 ty173 ty178
attribute [simp] ty182 ty184 ty186 ty187 ty192 ty193 ty195 ty196 ty197 ty198 sk4 ek45 en45 ek46 en46 ek60 en60 ek61 en61 ek112
attribute [simp] en112 ek113 en113 mp95 mp104 mp130
end Go.Proofs.Ytkppfaennogcmaa
