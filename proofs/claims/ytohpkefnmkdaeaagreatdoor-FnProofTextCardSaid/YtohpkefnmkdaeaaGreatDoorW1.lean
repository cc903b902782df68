/- Part of a proof by program: W1. -/
import Derived.Test.YtohpkefnmkdaeaaGreatDoorD1
import Derived.Test.YtohpkefnmkdaeaaGreatDoorProg
import Derived.Test.YtohpkefnmkdaeaaGreatDoorShelf
import Derived.WalkKit
import Derived.Shelf.Strings.BuilderF
namespace Go.Proofs.YtohpkefnmkdaeaaGreatDoor
open Go Go.E Go.L Go.RowKit
set_option linter.unusedVariables false
set_option linter.unusedSimpArgs false
set_option maxRecDepth 100000
theorem Tryz_mix : Tryz.prog.follows .mixedOrders = true := by kernel_rfl
theorem fa_74_0 : FA Tryz.prog 74 0 0 := fa_of Tryz.underlying74 rfl Tryz.sizeOf72 rfl
theorem fa_74_1 : FA Tryz.prog 74 1 1 := fa_of Tryz.underlying74 rfl Tryz.sizeOf3 rfl
theorem fa_76_0 : FA Tryz.prog 76 0 0 := fa_of Tryz.underlying76 rfl Tryz.sizeOf3 rfl
theorem fa_76_1 : FA Tryz.prog 76 1 1 := fa_of Tryz.underlying76 rfl Tryz.sizeOf3 rfl
theorem fa_76_2 : FA Tryz.prog 76 2 2 := fa_of Tryz.underlying76 rfl Tryz.sizeOf3 rfl
theorem fa_76_3 : FA Tryz.prog 76 3 3 := fa_of Tryz.underlying76 rfl Tryz.sizeOf74 rfl
theorem fa_117_0 : FA Tryz.prog 117 0 0 := fa_of Tryz.underlying117 rfl Tryz.sizeOf31 rfl
theorem fa_117_1 : FA Tryz.prog 117 1 1 := fa_of Tryz.underlying117 rfl Tryz.sizeOf3 rfl
theorem fa_126_0 : FA Tryz.prog 126 0 0 := fa_of Tryz.underlying126 rfl Tryz.sizeOf3 rfl
theorem fa_126_1 : FA Tryz.prog 126 1 1 := fa_of Tryz.underlying126 rfl Tryz.sizeOf3 rfl
theorem fa_158_0 : FA Tryz.prog 158 0 0 := fa_of Tryz.underlying158 rfl Tryz.sizeOf82 rfl
theorem fa_158_1 : FA Tryz.prog 158 1 1 := fa_of Tryz.underlying158 rfl Tryz.sizeOf156 rfl
theorem et_22 : ET Tryz.prog 22 3 1 := et_of Tryz.underlying22 (by decide) (by kernel_rfl)
theorem et_31 : ET Tryz.prog 31 5 1 := et_of Tryz.underlying31 (by decide) (by kernel_rfl)
theorem et_37 : ET Tryz.prog 37 76 5 := et_of Tryz.underlying37 (by decide) (by kernel_rfl)
theorem et_44 : ET Tryz.prog 44 9 1 := et_of Tryz.underlying44 (by decide) (by kernel_rfl)
theorem et_72 : ET Tryz.prog 72 126 2 := et_of Tryz.underlying72 (by decide) (by kernel_rfl)
theorem et_82 : ET Tryz.prog 82 74 2 := et_of Tryz.underlying82 (by decide) (by kernel_rfl)
theorem et_156 : ET Tryz.prog 156 4 1 := et_of Tryz.underlying156 (by decide) (by kernel_rfl)
theorem termEq_126 : TermEq Tryz.prog 126 := termEq_of (by kernel_rfl) Tryz.underlying126 rfl (by decide) (by decide) rfl rfl Tryz.underlying3 Tryz.underlying3 (by kernel_rfl)
theorem bld_117_0 (a0 : Value) (ha0 : a0.oneCell' = true) : ∀ w, (Instr.build 117 #[(0, a0)]).run Tryz.prog w = .ok (.agg #[a0, .int .i64 0]) w := by
  intro w
  simp [Instr.build, Instr.fill, Tryz.zeroValue117, Tryz.runUnderlying117, Tryz.sizeOf3, Tryz.sizeOf31, cells_one ha0, cells_agg]
theorem bld_126_0_1 (a0 a1 : Value) (ha0 : a0.oneCell' = true) (ha1 : a1.oneCell' = true) : ∀ w, (Instr.build 126 #[(0, a0), (1, a1)]).run Tryz.prog w = .ok (.agg #[a0, a1]) w := by
  intro w
  simp [Instr.build, Instr.fill, Tryz.zeroValue126, Tryz.runUnderlying126, Tryz.sizeOf3, cells_one ha0, cells_one ha1, cells_agg]
theorem bld_158_0_1 (a0 a1 : Value) (ha0 : a0.oneCell' = true) (ha1 : a1.oneCell' = true) : ∀ w, (Instr.build 158 #[(0, a0), (1, a1)]).run Tryz.prog w = .ok (.agg #[a0, a1]) w := by
  intro w
  simp [Instr.build, Instr.fill, Tryz.zeroValue158, Tryz.runUnderlying158, Tryz.sizeOf82, Tryz.sizeOf156, cells_one ha0, cells_one ha1, cells_agg]
theorem bld_74_  : ∀ w, (Instr.build 74 #[]).run Tryz.prog w = .ok (.agg #[.slice none 0 0, .int .i64 0]) w := by
  intro w
  simp [Instr.build, Instr.fill, Tryz.zeroValue74, Tryz.runUnderlying74, Tryz.sizeOf3, Tryz.sizeOf72, cells_agg]
theorem bld_74_0 (a0 : Value) (ha0 : a0.oneCell' = true) : ∀ w, (Instr.build 74 #[(0, a0)]).run Tryz.prog w = .ok (.agg #[a0, .int .i64 0]) w := by
  intro w
  simp [Instr.build, Instr.fill, Tryz.zeroValue74, Tryz.runUnderlying74, Tryz.sizeOf3, Tryz.sizeOf72, cells_one ha0, cells_agg]
theorem bld_74_0_1 (a0 a1 : Value) (ha0 : a0.oneCell' = true) (ha1 : a1.oneCell' = true) : ∀ w, (Instr.build 74 #[(0, a0), (1, a1)]).run Tryz.prog w = .ok (.agg #[a0, a1]) w := by
  intro w
  simp [Instr.build, Instr.fill, Tryz.zeroValue74, Tryz.runUnderlying74, Tryz.sizeOf3, Tryz.sizeOf72, cells_one ha0, cells_one ha1, cells_agg]
theorem bld_74_1 (a0 : Value) (ha0 : a0.oneCell' = true) : ∀ w, (Instr.build 74 #[(1, a0)]).run Tryz.prog w = .ok (.agg #[.slice none 0 0, a0]) w := by
  intro w
  simp [Instr.build, Instr.fill, Tryz.zeroValue74, Tryz.runUnderlying74, Tryz.sizeOf3, Tryz.sizeOf72, cells_one ha0, cells_agg]
theorem bld_76_  : ∀ w, (Instr.build 76 #[]).run Tryz.prog w = .ok (.agg #[.int .i64 0, .int .i64 0, .int .i64 0, .slice none 0 0, .int .i64 0]) w := by
  intro w
  simp [Instr.build, Instr.fill, Tryz.zeroValue76, Tryz.runUnderlying76, Tryz.sizeOf3, Tryz.sizeOf74, cells_agg]
theorem bld_76_0 (a0 : Value) (ha0 : a0.oneCell' = true) : ∀ w, (Instr.build 76 #[(0, a0)]).run Tryz.prog w = .ok (.agg #[a0, .int .i64 0, .int .i64 0, .slice none 0 0, .int .i64 0]) w := by
  intro w
  simp [Instr.build, Instr.fill, Tryz.zeroValue76, Tryz.runUnderlying76, Tryz.sizeOf3, Tryz.sizeOf74, cells_one ha0, cells_agg]
theorem bld_76_0_1_2 (a0 a1 a2 : Value) (ha0 : a0.oneCell' = true) (ha1 : a1.oneCell' = true) (ha2 : a2.oneCell' = true) : ∀ w, (Instr.build 76 #[(0, a0), (1, a1), (2, a2)]).run Tryz.prog w = .ok (.agg #[a0, a1, a2, .slice none 0 0, .int .i64 0]) w := by
  intro w
  simp [Instr.build, Instr.fill, Tryz.zeroValue76, Tryz.runUnderlying76, Tryz.sizeOf3, Tryz.sizeOf74, cells_one ha0, cells_one ha1, cells_one ha2, cells_agg]
theorem bld_76_0_3x2 (a0 a1 a2 : Value) (ha0 : a0.oneCell' = true) : ∀ w, (Instr.build 76 #[(0, a0), (3, .agg #[a1, a2])]).run Tryz.prog w = .ok (.agg #[a0, .int .i64 0, .int .i64 0, a1, a2]) w := by
  intro w
  simp [Instr.build, Instr.fill, Tryz.zeroValue76, Tryz.runUnderlying76, Tryz.sizeOf3, Tryz.sizeOf74, cells_one ha0, cells_agg]
theorem bs_156_1_0 (a0 : Value) (ha0 : a0.oneCell' = true) : ∀ w, (Instr.buildSlice 156 1 #[(0, a0)]).run Tryz.prog w = .ok (.slice (some ⟨w.heap.size, 0, none⟩) 1 1) (w.alloc (.cells #[a0] 4)) := by
  intro w
  simp [Instr.buildSlice, Instr.fill, newRow, Tryz.zeroValue4, Tryz.runUnderlying156, Tryz.sizeOf4, cells_one ha0, cells_agg, cells_int, cells_bool, cells_str, cells_sl, Array.range_succ, range0]
theorem bs_22_0  : ∀ w, (Instr.buildSlice 22 0 #[]).run Tryz.prog w = .ok (.slice (some ⟨w.heap.size, 0, none⟩) 0 0) (w.alloc (.cells #[] 3)) := by
  intro w
  simp [Instr.buildSlice, Instr.fill, newRow, Tryz.runUnderlying22, Tryz.sizeOf3, cells_agg, cells_int, cells_bool, cells_str, cells_sl, Array.range_succ, range0]
theorem bs_22_1_0 (a0 : Value) (ha0 : a0.oneCell' = true) : ∀ w, (Instr.buildSlice 22 1 #[(0, a0)]).run Tryz.prog w = .ok (.slice (some ⟨w.heap.size, 0, none⟩) 1 1) (w.alloc (.cells #[a0] 3)) := by
  intro w
  simp [Instr.buildSlice, Instr.fill, newRow, Tryz.zeroValue3, Tryz.runUnderlying22, Tryz.sizeOf3, cells_one ha0, cells_agg, cells_int, cells_bool, cells_str, cells_sl, Array.range_succ, range0]
theorem bs_22_3_0_0_0 (a0 a1 a2 : Value) (ha0 : a0.oneCell' = true) (ha1 : a1.oneCell' = true) (ha2 : a2.oneCell' = true) : ∀ w, (Instr.buildSlice 22 3 #[(0, a0), (1, a1), (2, a2)]).run Tryz.prog w = .ok (.slice (some ⟨w.heap.size, 0, none⟩) 3 3) (w.alloc (.cells #[a0, a1, a2] 3)) := by
  intro w
  simp [Instr.buildSlice, Instr.fill, newRow, Tryz.zeroValue3, Tryz.runUnderlying22, Tryz.sizeOf3, cells_one ha0, cells_one ha1, cells_one ha2, cells_agg, cells_int, cells_bool, cells_str, cells_sl, Array.range_succ, range0]
theorem bs_22_4_0_0_0_0 (a0 a1 a2 a3 : Value) (ha0 : a0.oneCell' = true) (ha1 : a1.oneCell' = true) (ha2 : a2.oneCell' = true) (ha3 : a3.oneCell' = true) : ∀ w, (Instr.buildSlice 22 4 #[(0, a0), (1, a1), (2, a2), (3, a3)]).run Tryz.prog w = .ok (.slice (some ⟨w.heap.size, 0, none⟩) 4 4) (w.alloc (.cells #[a0, a1, a2, a3] 3)) := by
  intro w
  simp [Instr.buildSlice, Instr.fill, newRow, Tryz.zeroValue3, Tryz.runUnderlying22, Tryz.sizeOf3, cells_one ha0, cells_one ha1, cells_one ha2, cells_one ha3, cells_agg, cells_int, cells_bool, cells_str, cells_sl, Array.range_succ, range0]
theorem bs_22_5_0_0_0_0_0 (a0 a1 a2 a3 a4 : Value) (ha0 : a0.oneCell' = true) (ha1 : a1.oneCell' = true) (ha2 : a2.oneCell' = true) (ha3 : a3.oneCell' = true) (ha4 : a4.oneCell' = true) : ∀ w, (Instr.buildSlice 22 5 #[(0, a0), (1, a1), (2, a2), (3, a3), (4, a4)]).run Tryz.prog w = .ok (.slice (some ⟨w.heap.size, 0, none⟩) 5 5) (w.alloc (.cells #[a0, a1, a2, a3, a4] 3)) := by
  intro w
  simp [Instr.buildSlice, Instr.fill, newRow, Tryz.zeroValue3, Tryz.runUnderlying22, Tryz.sizeOf3, cells_one ha0, cells_one ha1, cells_one ha2, cells_one ha3, cells_one ha4, cells_agg, cells_int, cells_bool, cells_str, cells_sl, Array.range_succ, range0]
theorem bs_22_6_0_0_0_0_0_0 (a0 a1 a2 a3 a4 a5 : Value) (ha0 : a0.oneCell' = true) (ha1 : a1.oneCell' = true) (ha2 : a2.oneCell' = true) (ha3 : a3.oneCell' = true) (ha4 : a4.oneCell' = true) (ha5 : a5.oneCell' = true) : ∀ w, (Instr.buildSlice 22 6 #[(0, a0), (1, a1), (2, a2), (3, a3), (4, a4), (5, a5)]).run Tryz.prog w = .ok (.slice (some ⟨w.heap.size, 0, none⟩) 6 6) (w.alloc (.cells #[a0, a1, a2, a3, a4, a5] 3)) := by
  intro w
  simp [Instr.buildSlice, Instr.fill, newRow, Tryz.zeroValue3, Tryz.runUnderlying22, Tryz.sizeOf3, cells_one ha0, cells_one ha1, cells_one ha2, cells_one ha3, cells_one ha4, cells_one ha5, cells_agg, cells_int, cells_bool, cells_str, cells_sl, Array.range_succ, range0]
theorem bs_22_7_0_0_0_0_0_0_0 (a0 a1 a2 a3 a4 a5 a6 : Value) (ha0 : a0.oneCell' = true) (ha1 : a1.oneCell' = true) (ha2 : a2.oneCell' = true) (ha3 : a3.oneCell' = true) (ha4 : a4.oneCell' = true) (ha5 : a5.oneCell' = true) (ha6 : a6.oneCell' = true) : ∀ w, (Instr.buildSlice 22 7 #[(0, a0), (1, a1), (2, a2), (3, a3), (4, a4), (5, a5), (6, a6)]).run Tryz.prog w = .ok (.slice (some ⟨w.heap.size, 0, none⟩) 7 7) (w.alloc (.cells #[a0, a1, a2, a3, a4, a5, a6] 3)) := by
  intro w
  simp [Instr.buildSlice, Instr.fill, newRow, Tryz.zeroValue3, Tryz.runUnderlying22, Tryz.sizeOf3, cells_one ha0, cells_one ha1, cells_one ha2, cells_one ha3, cells_one ha4, cells_one ha5, cells_one ha6, cells_agg, cells_int, cells_bool, cells_str, cells_sl, Array.range_succ, range0]
theorem bs_22_9_0_0_0_0_0_0_0_0_0 (a0 a1 a2 a3 a4 a5 a6 a7 a8 : Value) (ha0 : a0.oneCell' = true) (ha1 : a1.oneCell' = true) (ha2 : a2.oneCell' = true) (ha3 : a3.oneCell' = true) (ha4 : a4.oneCell' = true) (ha5 : a5.oneCell' = true) (ha6 : a6.oneCell' = true) (ha7 : a7.oneCell' = true) (ha8 : a8.oneCell' = true) : ∀ w, (Instr.buildSlice 22 9 #[(0, a0), (1, a1), (2, a2), (3, a3), (4, a4), (5, a5), (6, a6), (7, a7), (8, a8)]).run Tryz.prog w = .ok (.slice (some ⟨w.heap.size, 0, none⟩) 9 9) (w.alloc (.cells #[a0, a1, a2, a3, a4, a5, a6, a7, a8] 3)) := by
  intro w
  simp [Instr.buildSlice, Instr.fill, newRow, Tryz.zeroValue3, Tryz.runUnderlying22, Tryz.sizeOf3, cells_one ha0, cells_one ha1, cells_one ha2, cells_one ha3, cells_one ha4, cells_one ha5, cells_one ha6, cells_one ha7, cells_one ha8, cells_agg, cells_int, cells_bool, cells_str, cells_sl, Array.range_succ, range0]
theorem bs_31_1_0 (a0 : Value) (ha0 : a0.oneCell' = true) : ∀ w, (Instr.buildSlice 31 1 #[(0, a0)]).run Tryz.prog w = .ok (.slice (some ⟨w.heap.size, 0, none⟩) 1 1) (w.alloc (.cells #[a0] 5)) := by
  intro w
  simp [Instr.buildSlice, Instr.fill, newRow, Tryz.zeroValue5, Tryz.runUnderlying31, Tryz.sizeOf5, cells_one ha0, cells_agg, cells_int, cells_bool, cells_str, cells_sl, Array.range_succ, range0]
theorem bs_37_0  : ∀ w, (Instr.buildSlice 37 0 #[]).run Tryz.prog w = .ok (.slice (some ⟨w.heap.size, 0, none⟩) 0 0) (w.alloc (.cells #[] 76)) := by
  intro w
  simp [Instr.buildSlice, Instr.fill, newRow, Tryz.runUnderlying37, Tryz.sizeOf76, cells_agg, cells_int, cells_bool, cells_str, cells_sl, Array.range_succ, range0]
theorem bs_37_1_5 (a0 a1 a2 a3 a4 : Value)  : ∀ w, (Instr.buildSlice 37 1 #[(0, .agg #[a0, a1, a2, a3, a4])]).run Tryz.prog w = .ok (.slice (some ⟨w.heap.size, 0, none⟩) 1 1) (w.alloc (.cells #[a0, a1, a2, a3, a4] 76)) := by
  intro w
  simp [Instr.buildSlice, Instr.fill, newRow, Tryz.zeroValue76, Tryz.runUnderlying37, Tryz.sizeOf76, cells_agg, cells_int, cells_bool, cells_str, cells_sl, Array.range_succ, range0]
theorem bs_44_0  : ∀ w, (Instr.buildSlice 44 0 #[]).run Tryz.prog w = .ok (.slice (some ⟨w.heap.size, 0, none⟩) 0 0) (w.alloc (.cells #[] 9)) := by
  intro w
  simp [Instr.buildSlice, Instr.fill, newRow, Tryz.runUnderlying44, Tryz.sizeOf9, cells_agg, cells_int, cells_bool, cells_str, cells_sl, Array.range_succ, range0]
theorem bs_44_1_0 (a0 : Value) (ha0 : a0.oneCell' = true) : ∀ w, (Instr.buildSlice 44 1 #[(0, a0)]).run Tryz.prog w = .ok (.slice (some ⟨w.heap.size, 0, none⟩) 1 1) (w.alloc (.cells #[a0] 9)) := by
  intro w
  simp [Instr.buildSlice, Instr.fill, newRow, Tryz.zeroValue9, Tryz.runUnderlying44, Tryz.sizeOf9, cells_one ha0, cells_agg, cells_int, cells_bool, cells_str, cells_sl, Array.range_succ, range0]
theorem bs_44_6_0_0_0_0_0_0 (a0 a1 a2 a3 a4 a5 : Value) (ha0 : a0.oneCell' = true) (ha1 : a1.oneCell' = true) (ha2 : a2.oneCell' = true) (ha3 : a3.oneCell' = true) (ha4 : a4.oneCell' = true) (ha5 : a5.oneCell' = true) : ∀ w, (Instr.buildSlice 44 6 #[(0, a0), (1, a1), (2, a2), (3, a3), (4, a4), (5, a5)]).run Tryz.prog w = .ok (.slice (some ⟨w.heap.size, 0, none⟩) 6 6) (w.alloc (.cells #[a0, a1, a2, a3, a4, a5] 9)) := by
  intro w
  simp [Instr.buildSlice, Instr.fill, newRow, Tryz.zeroValue9, Tryz.runUnderlying44, Tryz.sizeOf9, cells_one ha0, cells_one ha1, cells_one ha2, cells_one ha3, cells_one ha4, cells_one ha5, cells_agg, cells_int, cells_bool, cells_str, cells_sl, Array.range_succ, range0]
theorem bs_44_9_0_0_0_0_0_0_0_0_0 (a0 a1 a2 a3 a4 a5 a6 a7 a8 : Value) (ha0 : a0.oneCell' = true) (ha1 : a1.oneCell' = true) (ha2 : a2.oneCell' = true) (ha3 : a3.oneCell' = true) (ha4 : a4.oneCell' = true) (ha5 : a5.oneCell' = true) (ha6 : a6.oneCell' = true) (ha7 : a7.oneCell' = true) (ha8 : a8.oneCell' = true) : ∀ w, (Instr.buildSlice 44 9 #[(0, a0), (1, a1), (2, a2), (3, a3), (4, a4), (5, a5), (6, a6), (7, a7), (8, a8)]).run Tryz.prog w = .ok (.slice (some ⟨w.heap.size, 0, none⟩) 9 9) (w.alloc (.cells #[a0, a1, a2, a3, a4, a5, a6, a7, a8] 9)) := by
  intro w
  simp [Instr.buildSlice, Instr.fill, newRow, Tryz.zeroValue9, Tryz.runUnderlying44, Tryz.sizeOf9, cells_one ha0, cells_one ha1, cells_one ha2, cells_one ha3, cells_one ha4, cells_one ha5, cells_one ha6, cells_one ha7, cells_one ha8, cells_agg, cells_int, cells_bool, cells_str, cells_sl, Array.range_succ, range0]
theorem bs_72_0  : ∀ w, (Instr.buildSlice 72 0 #[]).run Tryz.prog w = .ok (.slice (some ⟨w.heap.size, 0, none⟩) 0 0) (w.alloc (.cells #[] 126)) := by
  intro w
  simp [Instr.buildSlice, Instr.fill, newRow, Tryz.runUnderlying72, Tryz.sizeOf126, cells_agg, cells_int, cells_bool, cells_str, cells_sl, Array.range_succ, range0]
theorem bs_72_1_2 (a0 a1 : Value)  : ∀ w, (Instr.buildSlice 72 1 #[(0, .agg #[a0, a1])]).run Tryz.prog w = .ok (.slice (some ⟨w.heap.size, 0, none⟩) 1 1) (w.alloc (.cells #[a0, a1] 126)) := by
  intro w
  simp [Instr.buildSlice, Instr.fill, newRow, Tryz.zeroValue126, Tryz.runUnderlying72, Tryz.sizeOf126, cells_agg, cells_int, cells_bool, cells_str, cells_sl, Array.range_succ, range0]
theorem bs_72_2_2_2 (a0 a1 a2 a3 : Value)  : ∀ w, (Instr.buildSlice 72 2 #[(0, .agg #[a0, a1]), (1, .agg #[a2, a3])]).run Tryz.prog w = .ok (.slice (some ⟨w.heap.size, 0, none⟩) 2 2) (w.alloc (.cells #[a0, a1, a2, a3] 126)) := by
  intro w
  simp [Instr.buildSlice, Instr.fill, newRow, Tryz.zeroValue126, Tryz.runUnderlying72, Tryz.sizeOf126, cells_agg, cells_int, cells_bool, cells_str, cells_sl, Array.range_succ, range0]
theorem bs_82_0  : ∀ w, (Instr.buildSlice 82 0 #[]).run Tryz.prog w = .ok (.slice (some ⟨w.heap.size, 0, none⟩) 0 0) (w.alloc (.cells #[] 74)) := by
  intro w
  simp [Instr.buildSlice, Instr.fill, newRow, Tryz.runUnderlying82, Tryz.sizeOf74, cells_agg, cells_int, cells_bool, cells_str, cells_sl, Array.range_succ, range0]
theorem bs_82_1_2 (a0 a1 : Value)  : ∀ w, (Instr.buildSlice 82 1 #[(0, .agg #[a0, a1])]).run Tryz.prog w = .ok (.slice (some ⟨w.heap.size, 0, none⟩) 1 1) (w.alloc (.cells #[a0, a1] 74)) := by
  intro w
  simp [Instr.buildSlice, Instr.fill, newRow, Tryz.zeroValue74, Tryz.runUnderlying82, Tryz.sizeOf74, cells_agg, cells_int, cells_bool, cells_str, cells_sl, Array.range_succ, range0]
theorem s_l17Dec_F_c {fu : Nat} {rec_ : Int→Option ByteArray} (hrec : ∀ {n_ : Int} {H : FH} {w : World} (Z : Star H w []) {r : ByteArray} (hF : rec_ n_ = some r),C Tryz.prog 86 #[I n_] w fun v w'=>v = .string r∧Star H w' []) {n_ : Int} {H : FH} {w : World} (Z : Star H w []) {r : ByteArray} (hF : s_l17Dec_F fu rec_ n_ = some r) :
 C Tryz.prog 86 #[I n_] w fun v w'=>v = .string r∧Star H w' []:=by
 unfold s_l17Dec_F at hF
 refine C_enter Tryz.func86 rfl Tryz.ntmps86 rfl (sq (aV (.string (⟨#[]⟩ : ByteArray)) rfl (nq (sq (mI rfl (L_lss rfl rfl rfl (nn (W_cond (b:=decide (n_ < (-9223372036854775807))) rfl (fun hc1=>?_) (fun hc1=>?_)))))))))
 have hF:=(ite_t hc1).symm.trans hF
 refine sq (aV (.string (⟨#[45,57,50,50,51,51,55,50,48,51,54,56,53,52,55,55,53,56,48,56]⟩ : ByteArray)) rfl (nn (W_ret (retG1 (v1:=.string (⟨#[45,57,50,50,51,51,55,50,48,51,54,56,53,52,55,55,53,56,48,56]⟩ : ByteArray)) Tryz.results86 rfl ?_))))
 obtain rfl:=so hF
 exact ⟨rfl,Z⟩
 have hF:=(ite_f hc1).symm.trans hF
 refine W_skip (W_seq (sq (mI rfl (L_lss rfl rfl rfl (nn (W_cond (b:=decide (n_ < 0)) rfl (fun hc2=>?_) (fun hc2=>?_)))))))
 have hF:=(ite_t hc2).symm.trans hF
 refine W_seq ?_
 obtain ⟨x8,hx8,hF⟩:=bind_some hF
 obtain ⟨x10,hx10,hF⟩:=bind_some hF
 refine W_region (mI rfl (L_neg rfl rfl ?_))
 obtain ⟨H11b,l12,s13,z14,k15⟩:=Z.borrow
 refine L_call rfl Tryz.call86 (ops1 rfl) (hrec (n_:=i64 (-n_)) s13 hx8) ?_
 rintro _ w16 ⟨rfl,Z⟩
 have Z:=k15 Z c0
 obtain ⟨hx10_l,hx10_e⟩:=cat_some hx10
 refine L_sadd (s:=(⟨#[45]⟩ : ByteArray)) (s':=x8) rfl rfl rfl hx10_l ?_
 rw [← hx10_e]
 refine aV (.string x10) rfl (nn (W_ret (retG1 (v1:=.string x10) Tryz.results86 rfl ?_)))
 obtain rfl:=so hF
 exact ⟨rfl,Z⟩
 have hF:=(ite_f hc2).symm.trans hF
 refine W_skip (sq (aV (.string (⟨#[]⟩ : ByteArray)) rfl (nq ?_)))
 obtain ⟨j20,hL20,hF⟩:=bind_some hF
 obtain ⟨R20,hR20⟩:=exR fun f w_=>∃ n_18 : Int,∃ out_19 : ByteArray,j20 = .nx (n_18,out_19)∧f 0 = I n_18∧f 3 = .string out_19∧Star H w_ ([])
 refine W_join R20 ?_ ?_
 refine W_block ?_
 obtain ⟨I20,hI20⟩:=exI fun n f w_=>∃ n_18 : Int,∃ out_19 : ByteArray,whileL s_l17Dec_b1 n (n_18,out_19) = some j20∧f 0 = I n_18∧f 3 = .string out_19∧Star H w_ ([])
 refine W_loop I20 (n:=fu) ?_ ?_
 exact ij hI20 ⟨n_,(⟨#[]⟩ : ByteArray),hL20,rfl,rfl,Z⟩
 intro n20 f w_ hI
 obtain ⟨n_18,out_19,hL20,sf0,sf3,Z⟩:=ik hI20 hI
 rcases n20 with _ | n20
 exact (while_zero hL20).elim
 obtain ⟨o20,hB20,hL20⟩:=while_succ hL20
 rw [s_l17Dec_b1] at hB20
 refine W_seq (sq (mF sf0 rfl (L_gtr rfl rfl rfl (nn (W_cond (b:=decide (n_18 > 9)) rfl (fun hc21=>?_) (fun hc21=>?_))))))
 have hB20:=(ite_t hc21).symm.trans hB20
 refine W_skip (W_block (W_seq ?_))
 obtain ⟨x25,hx25,hB20⟩:=bind_some hB20
 refine W_region (mF sf0 rfl (L_rem (m:=n_18) (n:=10) rfl rfl rfl (by decide) (L_add rfl rfl rfl (L_cv8 (n:=i64 (48 + (Int.tmod n_18 10))) rfl rfl ⟨_,Tryz.underlying3⟩ Tryz.underlying5 (L_bs rfl (parts1 rfl) (bs_31_1_0 (.int .u8 ((u8w (i64 (48 + (Int.tmod n_18 10)))).toNat : Int)) rfl) Z (fun g26 w27 Z=>?_))))))
 have Z:=Star.addF (r:=RP.u8) (cs:=[.int .u8 ((u8w (i64 (48 + (Int.tmod n_18 10)))).toNat : Int)]) (x:=(u8w (i64 (48 + (Int.tmod n_18 10))))) Z rfl
 have Z:=Star.mkRow (R:=(OR.frz RP.u8)) [([.int .u8 ((u8w (i64 (48 + (Int.tmod n_18 10)))).toNat : Int)],(u8w (i64 (48 + (Int.tmod n_18 10)))))] [(u8w (i64 (48 + (Int.tmod n_18 10))))] 1 Z rfl rfl rfl (by decide)
 refine L_cvs (xs:=[(u8w (i64 (48 + (Int.tmod n_18 10))))]) 0 rfl Tryz.underlying31 Tryz.underlying5 Tryz.underlying9 rfl Z rfl (by simp) (mF sf3 rfl ?_)
 obtain ⟨hx25_l,hx25_e⟩:=cat_some hx25
 refine L_sadd (s:=(bs [(u8w (i64 (48 + (Int.tmod n_18 10))))])) (s':=out_19) rfl rfl rfl hx25_l ?_
 rw [← hx25_e]
 refine aV (.string x25) rfl (nn (W_region (mF sf0 rfl (L_quo (m:=n_18) (n:=10) rfl rfl rfl (by decide) (aI rfl (nn ?_))))))
 obtain rfl:=so hB20
 show ∃ m,m < _∧I20 m _ _
 refine ⟨n20,Nat.lt_succ_self _,?_⟩
 exact ij hI20 ⟨i64 (Int.tdiv n_18 10),x25,hL20,rfl,rfl,(Star.keepN 0 Z)⟩
 have hB20:=(ite_f hc21).symm.trans hB20
 refine W_exit ?_
 obtain rfl:=so hB20
 obtain rfl:=so hL20
 exact rj hR20 ⟨n_18,out_19,rfl,sf0,sf3,Z⟩
 intro f w_ hR
 obtain ⟨n_18,out_19,rfl,sf0,sf3,Z⟩:=rk hR20 hR
 refine W_seq ?_
 obtain ⟨x32,hx32,hF⟩:=bind_some hF
 refine W_region (mF sf0 rfl (L_add rfl rfl rfl (L_cv8 (n:=i64 (48 + n_18)) rfl rfl ⟨_,Tryz.underlying3⟩ Tryz.underlying5 (L_bs rfl (parts1 rfl) (bs_31_1_0 (.int .u8 ((u8w (i64 (48 + n_18))).toNat : Int)) rfl) Z (fun g33 w34 Z=>?_)))))
 have Z:=Star.addF (r:=RP.u8) (cs:=[.int .u8 ((u8w (i64 (48 + n_18))).toNat : Int)]) (x:=(u8w (i64 (48 + n_18)))) Z rfl
 have Z:=Star.mkRow (R:=(OR.frz RP.u8)) [([.int .u8 ((u8w (i64 (48 + n_18))).toNat : Int)],(u8w (i64 (48 + n_18))))] [(u8w (i64 (48 + n_18)))] 1 Z rfl rfl rfl (by decide)
 refine L_cvs (xs:=[(u8w (i64 (48 + n_18)))]) 0 rfl Tryz.underlying31 Tryz.underlying5 Tryz.underlying9 rfl Z rfl (by simp) (mF sf3 rfl ?_)
 obtain ⟨hx32_l,hx32_e⟩:=cat_some hx32
 refine L_sadd (s:=(bs [(u8w (i64 (48 + n_18)))])) (s':=out_19) rfl rfl rfl hx32_l ?_
 rw [← hx32_e]
 refine aV (.string x32) rfl (nn (W_ret (retG1 (v1:=.string x32) Tryz.results86 rfl ?_)))
 obtain rfl:=so hF
 exact ⟨rfl,(Star.keepN 0 Z)⟩
theorem s_l17Dec_R_c {fu : Nat} : ∀ (n : Nat) {n_ : Int} {H : FH} {w : World} (Z : Star H w []) {r : ByteArray} (hF : s_l17Dec_R fu n n_ = some r),C Tryz.prog 86 #[I n_] w fun v w'=>v = .string r∧Star H w' []:=by
 intro n
 induction n with
 | zero=>intros; rename_i hF; cases hF
 | succ n ih=>intros; rename_i Z _ hF; exact s_l17Dec_F_c ih Z hF
theorem s_l17Dec_c {fu : Nat} {n_ : Int} {H : FH} {w : World} (Z : Star H w []) {r : ByteArray} (hF : s_l17Dec fu n_ = some r) :
 C Tryz.prog 86 #[I n_] w fun v w'=>v = .string r∧Star H w' []:=s_l17Dec_R_c fu Z hF
theorem s_l17Cut_c {s : ByteArray} {c : Int} {H : FH} {w : World} (Z : Star H w []) {r : List ByteArray} (hF : s_l17Cut s c = some r) :
 C Tryz.prog 29 #[.string s,.int .u8 (c.toNat : Int)] w fun v w'=>∃ (u1 : Value),v = u1∧Star H w' [oF 9 RP.str u1 r]:=by
 unfold s_l17Cut at hF
 refine C_enter Tryz.func29 rfl Tryz.ntmps29 rfl (sq (aV S0 rfl (ns (L_bs rfl parts0 (bs_44_0  ) Z (fun g4 w5 Z=>?_)))))
 have Z:=Star.mkRow (R:=(OR.frz RP.str)) [] [] 0 Z rfl rfl rfl (by decide)
 refine aV (Sl g4 0 0) rfl (ns (aI rfl (nq (sq (aI rfl (nn ?_))))))
 obtain ⟨k12,hk12,hF⟩:=bind_some hF
 obtain ⟨j11,hL11,hF⟩:=bind_some hF
 obtain ⟨R11,hR11⟩:=exR fun f w_=>∃ out_8 : List ByteArray,∃ from__10 : Int,∃ v8_out : Value,j11 = .nx (out_8,from__10)∧f 5 = v8_out∧Star H w_ ([oF 9 RP.str v8_out out_8])
 refine W_join R11 ?_ ?_
 refine W_block ?_
 obtain ⟨I11,hI11⟩:=exI fun n f w_=>∃ i_7 : Nat,∃ suf11 : Nat,∃ out_8 : List ByteArray,∃ from__10 : Int,∃ v8_out : Value,suf11 = n∧0≤i_7∧i_7 + suf11 = 0 + k12∧countL (s_l17Cut_b1 s c) suf11 i_7 (out_8,from__10) = some j11∧f 0 = .string s∧f 1 = .int .u8 (c.toNat : Int)∧f 5 = v8_out∧f 6 = I from__10∧f 7 = I i_7∧Star H w_ ([oF 9 RP.str v8_out out_8])
 refine W_loop I11 (n:=k12) ?_ ?_
 exact ij hI11 ⟨0,k12,[],0,(Sl g4 0 0),rfl,Nat.le_refl _,rfl,hL11,rfl,rfl,rfl,rfl,rfl,Z⟩
 intro n11 f w_ hI
 obtain ⟨i_7,suf11,out_8,from__10,v8_out,rfl,hs11,hl11,hL11,sf0,sf1,sf5,sf6,sf7,Z⟩:=ik hI11 hI
 refine W_seq (sq (mF sf7 rfl (mF sf0 rfl (L_slen (s:=s) rfl Tryz.underlying9 rfl (L_leq rfl rfl rfl (nn (W_cond (b:=decide ((i_7 : Int)≤(s.size : Int))) rfl (fun hc13=>?_) (fun hc13=>?_))))))))
 have hlt11:=of_decide_eq_true hc13
 rcases suf11 with _ | rest11
 exact absurd hlt11 (cntF_noL hl11 hk12)
 obtain ⟨o11,hB11,hL11⟩:=count_succ hL11
 rw [s_l17Cut_b1] at hB11
 refine W_skip (W_seq (W_block (W_seq ?_)))
 obtain ⟨b15,hb15,hB11⟩:=bind_some hB11
 obtain ⟨R16,hR16⟩:=exR fun f w_=>f 0 = .string s∧f 1 = .int .u8 (c.toNat : Int)∧f 5 = v8_out∧f 6 = I from__10∧f 7 = I i_7∧f 25 = Bo b15∧Star H w_ ([oF 9 RP.str v8_out out_8])
 refine W_join R16 ?_ ?_
 refine W_region (mF sf7 rfl (mF sf0 rfl (L_slen (s:=s) rfl Tryz.underlying9 rfl (L_eql rfl rfl rfl (mB rfl (L_split (d:=19) (b:=((i_7 : Int) == (s.size : Int))) rfl (fun hc17=>?_) (fun hc17=>?_)))))))
 rw [ite_t hc17] at hb15
 refine ps rfl (ps rfl (ps rfl (ps rfl (ps rfl (L_pick (v:=Bo b15) rfl rfl (congrArg Value.bool (so hb15)) (nn (rj hR16 ⟨sf0,sf1,sf5,sf6,sf7,rfl,Z⟩)))))))
 rw [ite_f hc17] at hb15
 obtain ⟨x14,hx14,hb15⟩:=bind_some hb15
 refine mF sf0 rfl (mF sf7 rfl (L_sidx rfl Tryz.underlying9 rfl rfl hx14 (mF sf1 rfl (L_eql rfl rfl rfl (L_pick (v:=Bo b15) rfl rfl (congrArg Value.bool (so hb15)) (nn (rj hR16 ⟨sf0,sf1,sf5,sf6,sf7,rfl,Z⟩)))))))
 intro f w_ hR
 obtain ⟨sf0,sf1,sf5,sf6,sf7,sf25,Z⟩:=rk hR16 hR
 obtain ⟨⟨out_18,from__20⟩,hA21,hB11⟩:=bind_some hB11
 obtain ⟨R21,hR21⟩:=exR fun f w_=>∃ v18_out : Value,f 0 = .string s∧f 1 = .int .u8 (c.toNat : Int)∧f 5 = v18_out∧f 6 = I from__20∧f 7 = I i_7∧Star H w_ ([oF 9 RP.str v18_out out_18])
 refine W_join R21 ?_ ?_
 refine W_cond (b:=b15) sf25 (fun hc22=>?_) (fun hc22=>?_)
 have hA21:=(ite_t hc22).symm.trans hA21
 refine W_seq ?_
 obtain ⟨x23,hx23,hA21⟩:=bind_some hA21
 obtain ⟨x27,hx27,hA21⟩:=bind_some hA21
 refine W_region (mF sf5 rfl (mF sf0 rfl (mF sf6 rfl (mF sf7 rfl (L_ssl (a:=from__10) (b:=(i_7 : Int)) rfl Tryz.underlying9 rfl rfl rfl hx23 (L_bs rfl (parts1 rfl) (bs_44_1_0 (.string x23) rfl) Z (fun g31 w32 Z=>?_)))))))
 have Z:=Star.addF (r:=RP.str) (cs:=[.string x23]) (x:=x23) Z rfl
 have Z:=Star.mkRow (R:=(OR.frz RP.str)) [([.string x23],x23)] [x23] 1 Z rfl rfl rfl (by decide)
 have Z:=Z.get 1 rfl
 refine L_appM (v:=v8_out) (u:=(Sl g31 1 1)) rfl et_44 rfl rfl Z hx27 (fun v34 w35 Z=>aV v34 rfl (nn (W_region (mF sf7 rfl (L_add rfl rfl rfl (aI rfl (nn ?_)))))))
 obtain ⟨rfl,rfl⟩:=so2 hA21
 exact rj hR21 ⟨v34,sf0,sf1,rfl,rfl,sf7,Z⟩
 have hA21:=(ite_f hc22).symm.trans hA21
 refine W_skip ?_
 obtain ⟨rfl,rfl⟩:=so2 hA21
 exact rj hR21 ⟨v8_out,sf0,sf1,sf5,sf6,sf7,Z⟩
 intro f w_ hR
 obtain ⟨v18_out,sf0,sf1,sf5,sf6,sf7,Z⟩:=rk hR21 hR
 refine W_region (mF sf7 rfl (L_add rfl rfl rfl (aI rfl (nn ?_))))
 obtain rfl:=so hB11
 show ∃ m,m < _∧I11 m _ _
 refine ⟨rest11,Nat.lt_succ_self _,?_⟩
 exact ij hI11 ⟨i_7 + 1,rest11,out_18,from__20,v18_out,rfl,by omega,by omega,hL11,sf0,sf1,sf5,sf6,(Eq.trans rfl (congrArg (Value.int .i64) (i64_succ (n:=0 + k12) (by omega) (cntF_le hk12)))),Z⟩
 rcases suf11 with _ | _
 obtain rfl:=count_zero hL11
 refine W_exit (rj hR11 ⟨out_8,from__10,v8_out,rfl,sf5,Z⟩)
 exact absurd (cntF_yesL hs11 hl11 hk12) (of_decide_eq_false hc13)
 intro f w_ hR
 obtain ⟨out_8,from__10,v8_out,rfl,sf5,Z⟩:=rk hR11 hR
 refine sq (mF sf5 rfl (aV v8_out rfl (nn (W_ret (retG1 (v1:=v8_out) Tryz.results29 rfl ?_)))))
 obtain rfl:=so hF
 exact ⟨v8_out,rfl,Z⟩
theorem s_l17Num_c {s : ByteArray} {H : FH} {w : World} (Z : Star H w []) {r : Int × Bool} (hF : s_l17Num s = some r) :
 C Tryz.prog 74 #[.string s] w fun v w'=>v = .tuple #[I r.1,Bo r.2]∧Star H w' []:=by
 unfold s_l17Num at hF
 refine C_enter Tryz.func74 rfl Tryz.ntmps74 rfl (sq (aI rfl (aB rfl (nq ?_))))
 obtain ⟨b2,hb2,hF⟩:=bind_some hF
 obtain ⟨R3,hR3⟩:=exR fun f w_=>f 0 = .string s∧f 4 = Bo b2∧Star H w_ ([])
 refine W_join R3 ?_ ?_
 refine W_region (mV (.string s) rfl (L_slen (s:=s) rfl Tryz.underlying9 rfl (L_gtr rfl rfl rfl (mB rfl (L_split (d:=10) (b:=decide ((s.size : Int) > 0)) rfl (fun hc4=>?_) (fun hc4=>?_))))))
 rw [ite_t hc4] at hb2
 obtain ⟨x1,hx1,hb2⟩:=bind_some hb2
 refine mV (.string s) rfl (L_sidx rfl Tryz.underlying9 rfl rfl hx1 (L_eql rfl rfl rfl (L_pick (v:=Bo b2) rfl rfl (congrArg Value.bool (so hb2)) (aB rfl (nn (rj hR3 ⟨rfl,rfl,Z⟩))))))
 rw [ite_f hc4] at hb2
 refine ps rfl (ps rfl (ps rfl (L_pick (v:=Bo b2) rfl rfl (congrArg Value.bool (so hb2)) (aB rfl (nn (rj hR3 ⟨rfl,rfl,Z⟩))))))
 intro f w_ hR
 obtain ⟨sf0,sf4,Z⟩:=rk hR3 hR
 refine W_seq (sq (mF sf4 rfl (nn ?_)))
 obtain ⟨s_5,hA6,hF⟩:=bind_some hF
 obtain ⟨R6,hR6⟩:=exR fun f w_=>f 0 = .string s_5∧f 4 = Bo b2∧Star H w_ ([])
 refine W_join R6 ?_ ?_
 refine W_cond (b:=b2) rfl (fun hc7=>?_) (fun hc7=>?_)
 have hA6:=(ite_t hc7).symm.trans hA6
 obtain ⟨x8,hx8,hA6⟩:=bind_some hA6
 refine W_region (mF sf0 rfl (L_ssl (a:=1) (b:=(s.size : Int)) rfl Tryz.underlying9 rfl rfl rfl hx8 (aV (.string x8) rfl (nn ?_))))
 obtain rfl:=so hA6
 exact rj hR6 ⟨rfl,sf4,Z⟩
 have hA6:=(ite_f hc7).symm.trans hA6
 refine W_skip ?_
 obtain rfl:=so hA6
 exact rj hR6 ⟨sf0,sf4,Z⟩
 intro f w_ hR
 obtain ⟨sf0,sf4,Z⟩:=rk hR6 hR
 refine W_seq (W_seq ?_)
 obtain ⟨b10,hb10,hF⟩:=bind_some hF
 obtain ⟨R11,hR11⟩:=exR fun f w_=>f 0 = .string s_5∧f 4 = Bo b2∧f 38 = Bo b10∧Star H w_ ([])
 refine W_join R11 ?_ ?_
 refine W_region (mF sf0 rfl (L_slen (s:=s_5) rfl Tryz.underlying9 rfl (L_eql rfl rfl rfl (mB rfl (L_split (d:=21) (b:=((s_5.size : Int) == 0)) rfl (fun hc12=>?_) (fun hc12=>?_))))))
 refine ps rfl (ps rfl (ps rfl (L_pick (v:=Bo (((s_5.size : Int) == 0) || (decide ((s_5.size : Int) > 17)))) rfl rfl (or_t hc12) (mB rfl (L_split (d:=26) (b:=(((s_5.size : Int) == 0) || (decide ((s_5.size : Int) > 17)))) rfl (fun hc13=>?_) (fun hc13=>?_))))))
 rw [ite_t hc13] at hb10
 refine ps rfl (ps rfl (ps rfl (ps rfl (ps rfl (ps rfl (ps rfl (ps rfl (ps rfl (ps rfl (ps rfl (L_pick (v:=Bo b10) rfl rfl (congrArg Value.bool (so hb10)) (nn (rj hR11 ⟨sf0,sf4,rfl,Z⟩)))))))))))))
 exact boolNo (orT hc12) hc13
 refine mF sf0 rfl (L_slen (s:=s_5) rfl Tryz.underlying9 rfl (L_gtr rfl rfl rfl (L_pick (v:=Bo (((s_5.size : Int) == 0) || (decide ((s_5.size : Int) > 17)))) rfl rfl (or_f hc12 rfl) (mB rfl (L_split (d:=26) (b:=(((s_5.size : Int) == 0) || (decide ((s_5.size : Int) > 17)))) rfl (fun hc14=>?_) (fun hc14=>?_))))))
 rw [ite_t hc14] at hb10
 refine ps rfl (ps rfl (ps rfl (ps rfl (ps rfl (ps rfl (ps rfl (ps rfl (ps rfl (ps rfl (ps rfl (L_pick (v:=Bo b10) rfl rfl (congrArg Value.bool (so hb10)) (nn (rj hR11 ⟨sf0,sf4,rfl,Z⟩)))))))))))))
 rw [ite_f hc14] at hb10
 obtain ⟨x9,hx9,hb10⟩:=bind_some hb10
 refine mF sf0 rfl (L_sidx rfl Tryz.underlying9 rfl rfl hx9 (L_eql rfl rfl rfl (mB rfl (L_split (d:=30) (b:=((x9.toNat : Int) == 48)) rfl (fun hc15=>?_) (fun hc15=>?_)))))
 refine mF sf0 rfl (L_slen (s:=s_5) rfl Tryz.underlying9 rfl (L_gtr rfl rfl rfl (mB rfl (L_split (d:=34) (b:=decide ((s_5.size : Int) > 1)) rfl (fun hc16=>?_) (fun hc16=>?_)))))
 refine ps rfl (L_pick (v:=Bo ((decide ((s_5.size : Int) > 1)) || b2)) rfl rfl (or_t hc16) (L_pick (v:=Bo (((x9.toNat : Int) == 48) && ((decide ((s_5.size : Int) > 1)) || b2))) rfl rfl (and_t hc15 rfl) (L_pick (v:=Bo b10) rfl rfl (congrArg Value.bool (so hb10)) (nn (rj hR11 ⟨sf0,sf4,rfl,Z⟩)))))
 refine mF sf4 rfl (L_pick (v:=Bo ((decide ((s_5.size : Int) > 1)) || b2)) rfl rfl (or_f hc16 rfl) (L_pick (v:=Bo (((x9.toNat : Int) == 48) && ((decide ((s_5.size : Int) > 1)) || b2))) rfl rfl (and_t hc15 rfl) (L_pick (v:=Bo b10) rfl rfl (congrArg Value.bool (so hb10)) (nn (rj hR11 ⟨sf0,sf4,rfl,Z⟩)))))
 refine ps rfl (ps rfl (ps rfl (ps rfl (ps rfl (ps rfl (L_pick (v:=Bo (((x9.toNat : Int) == 48) && ((decide ((s_5.size : Int) > 1)) || b2))) rfl rfl (and_f hc15) (L_pick (v:=Bo b10) rfl rfl (congrArg Value.bool (so hb10)) (nn (rj hR11 ⟨sf0,sf4,rfl,Z⟩)))))))))
 intro f w_ hR
 obtain ⟨sf0,sf4,sf38,Z⟩:=rk hR11 hR
 refine W_cond (b:=b10) sf38 (fun hc17=>?_) (fun hc17=>?_)
 have hF:=(ite_t hc17).symm.trans hF
 refine sq (aI rfl (aB rfl (nn (W_ret (retG2 (v1:=I 0) (v2:=Bo false) Tryz.results74 rfl rfl ?_)))))
 obtain rfl:=so hF
 exact ⟨rfl,Z⟩
 have hF:=(ite_f hc17).symm.trans hF
 refine W_skip (sq (aI rfl (nq (sq (aI rfl (nn ?_))))))
 obtain ⟨k21,hk21,hF⟩:=bind_some hF
 obtain ⟨j20,hL20,hF⟩:=bind_some hF
 obtain ⟨R20,hR20⟩:=exR fun f w_=>∃ n_19 : Int,j20 = .nx n_19∧f 4 = Bo b2∧f 5 = I n_19∧Star H w_ ([])
 refine W_join R20 ?_ ?_
 refine W_block ?_
 obtain ⟨I20,hI20⟩:=exI fun n f w_=>∃ i_18 : Nat,∃ suf20 : Nat,∃ n_19 : Int,suf20 = n∧0≤i_18∧i_18 + suf20 = 0 + k21∧countL (s_l17Num_b1 s_5) suf20 i_18 n_19 = some j20∧f 0 = .string s_5∧f 4 = Bo b2∧f 5 = I n_19∧f 6 = I i_18∧Star H w_ ([])
 refine W_loop I20 (n:=k21) ?_ ?_
 exact ij hI20 ⟨0,k21,0,rfl,Nat.le_refl _,rfl,hL20,sf0,sf4,rfl,rfl,Z⟩
 intro n20 f w_ hI
 obtain ⟨i_18,suf20,n_19,rfl,hs20,hl20,hL20,sf0,sf4,sf5,sf6,Z⟩:=ik hI20 hI
 refine W_seq (sq (mF sf6 rfl (mF sf0 rfl (L_slen (s:=s_5) rfl Tryz.underlying9 rfl (L_lss rfl rfl rfl (nn (W_cond (b:=decide ((i_18 : Int) < (s_5.size : Int))) rfl (fun hc22=>?_) (fun hc22=>?_))))))))
 have hlt20:=of_decide_eq_true hc22
 rcases suf20 with _ | rest20
 exact absurd hlt20 (cntF_no hl20 hk21)
 obtain ⟨o20,hB20,hL20⟩:=count_succ hL20
 rw [s_l17Num_b1] at hB20
 refine W_skip (W_seq (W_block (W_seq (W_seq ?_))))
 obtain ⟨x23,hx23,hB20⟩:=bind_some hB20
 obtain ⟨R24,hR24⟩:=exR fun f w_=>f 0 = .string s_5∧f 4 = Bo b2∧f 5 = I n_19∧f 6 = I i_18∧f 54 = Bo ((decide ((x23.toNat : Int) < 48)) || (decide ((x23.toNat : Int) > 57)))∧Star H w_ ([])
 refine W_join R24 ?_ ?_
 refine W_region (mF sf0 rfl (mF sf6 rfl (L_sidx rfl Tryz.underlying9 rfl rfl hx23 (L_lss rfl rfl rfl (mB rfl (L_split (d:=49) (b:=decide ((x23.toNat : Int) < 48)) rfl (fun hc25=>?_) (fun hc25=>?_)))))))
 refine ps rfl (ps rfl (ps rfl (ps rfl (L_pick (v:=Bo ((decide ((x23.toNat : Int) < 48)) || (decide ((x23.toNat : Int) > 57)))) rfl rfl (or_t hc25) (nn (rj hR24 ⟨sf0,sf4,sf5,sf6,rfl,Z⟩))))))
 refine mF sf0 rfl (mF sf6 rfl (L_sidx rfl Tryz.underlying9 rfl rfl hx23 (L_gtr rfl rfl rfl (L_pick (v:=Bo ((decide ((x23.toNat : Int) < 48)) || (decide ((x23.toNat : Int) > 57)))) rfl rfl (or_f hc25 rfl) (nn (rj hR24 ⟨sf0,sf4,sf5,sf6,rfl,Z⟩))))))
 intro f w_ hR
 obtain ⟨sf0,sf4,sf5,sf6,sf54,Z⟩:=rk hR24 hR
 refine W_cond (b:=((decide ((x23.toNat : Int) < 48)) || (decide ((x23.toNat : Int) > 57)))) sf54 (fun hc26=>?_) (fun hc26=>?_)
 have hB20:=(ite_t hc26).symm.trans hB20
 refine sq (aI rfl (aB rfl (nn (W_ret (retG2 (v1:=I 0) (v2:=Bo false) Tryz.results74 rfl rfl ?_)))))
 obtain rfl:=so hB20
 obtain rfl:=so hL20
 obtain rfl:=so hF
 exact ⟨rfl,Z⟩
 have hB20:=(ite_f hc26).symm.trans hB20
 refine W_skip (W_region (mF sf5 rfl (L_mul rfl rfl rfl (mF sf0 rfl (mF sf6 rfl (L_sidx rfl Tryz.underlying9 rfl rfl hx23 (L_sub rfl rfl rfl (L_cv (n:=IntKind.u8.wrap ((x23.toNat : Int) - 48)) rfl rfl ⟨_,Tryz.underlying5⟩ Tryz.underlying3 (L_add rfl rfl rfl (aI rfl (nn (W_region (mF sf6 rfl (L_add rfl rfl rfl (aI rfl (nn ?_))))))))))))))))
 obtain rfl:=so hB20
 show ∃ m,m < _∧I20 m _ _
 refine ⟨rest20,Nat.lt_succ_self _,?_⟩
 exact ij hI20 ⟨i_18 + 1,rest20,i64 ((i64 (n_19 * 10)) + (i64 (IntKind.u8.wrap ((x23.toNat : Int) - 48)))),rfl,by omega,by omega,hL20,sf0,sf4,rfl,(Eq.trans rfl (congrArg (Value.int .i64) (i64_succ (n:=0 + k21) (by omega) (cntF_le hk21)))),Z⟩
 rcases suf20 with _ | _
 obtain rfl:=count_zero hL20
 refine W_exit (rj hR20 ⟨n_19,rfl,sf4,sf5,Z⟩)
 exact absurd (cntF_yes hs20 hl20 hk21) (of_decide_eq_false hc22)
 intro f w_ hR
 obtain ⟨n_19,rfl,sf4,sf5,Z⟩:=rk hR20 hR
 refine W_seq (sq (mF sf4 rfl (nn ?_)))
 obtain ⟨n_27,hA28,hF⟩:=bind_some hF
 obtain ⟨R28,hR28⟩:=exR fun f w_=>f 5 = I n_27∧Star H w_ ([])
 refine W_join R28 ?_ ?_
 refine W_cond (b:=b2) rfl (fun hc29=>?_) (fun hc29=>?_)
 have hA28:=(ite_t hc29).symm.trans hA28
 refine W_region (mF sf5 rfl (L_neg rfl rfl (aI rfl (nn ?_))))
 obtain rfl:=so hA28
 exact rj hR28 ⟨rfl,Z⟩
 have hA28:=(ite_f hc29).symm.trans hA28
 refine W_skip ?_
 obtain rfl:=so hA28
 exact rj hR28 ⟨sf5,Z⟩
 intro f w_ hR
 obtain ⟨sf5,Z⟩:=rk hR28 hR
 refine sq (mF sf5 rfl (aI rfl (aB rfl (nn (W_ret (retG2 (v1:=I n_27) (v2:=Bo true) Tryz.results74 rfl rfl ?_))))))
 obtain rfl:=so hF
 exact ⟨rfl,Z⟩
theorem i_within_c {n_ : Int} {low : Int} {high : Int} {H : FH} {w : World} (Z : Star H w []) {r : Bool} (hF : i_within n_ low high = some r) :
 C Tryz.prog 46 #[I n_,I low,I high] w fun v w'=>v = Bo r∧Star H w' []:=by
 unfold i_within at hF
 refine C_enter Tryz.func46 rfl Tryz.ntmps46 rfl (sq (aB rfl (nq ?_)))
 obtain ⟨R1,hR1⟩:=exR fun f w_=>f 6 = Bo ((decide (low≤n_)) && (decide (n_≤high)))∧Star H w_ ([])
 refine W_join R1 ?_ ?_
 refine W_region (mI rfl (mI rfl (L_leq rfl rfl rfl (mB rfl (L_split (d:=10) (b:=decide (low≤n_)) rfl (fun hc2=>?_) (fun hc2=>?_))))))
 refine mI rfl (mI rfl (L_leq rfl rfl rfl (L_pick (v:=Bo ((decide (low≤n_)) && (decide (n_≤high)))) rfl rfl (and_t hc2 rfl) (aB rfl (nn (rj hR1 ⟨rfl,Z⟩))))))
 refine ps rfl (ps rfl (ps rfl (L_pick (v:=Bo ((decide (low≤n_)) && (decide (n_≤high)))) rfl rfl (and_f hc2) (aB rfl (nn (rj hR1 ⟨rfl,Z⟩))))))
 intro f w_ hR
 obtain ⟨sf6,Z⟩:=rk hR1 hR
 refine W_ret (retG1 (v1:=Bo ((decide (low≤n_)) && (decide (n_≤high)))) Tryz.results46 sf6 ?_)
 obtain rfl:=so hF
 exact ⟨rfl,Z⟩
theorem strings_Split_c {x_ : ByteArray} {y_ : ByteArray} {H : FH} {w : World} (Z : Star H w []) {r : List ByteArray} (hF : strings_Split x_ y_ = some r) :
 C Tryz.prog 75 #[.string x_,.string y_] w fun v w'=>∃ u1 : Value,v = u1∧Star H w' [oF 9 RP.str u1 r]:=by
 obtain ⟨hs,hy,rfl⟩:=strings_Split_some hF
 obtain ⟨m,hm⟩:=H.glob.maxlen
 refine Calls.mono (Tryz.strings_Split x_ y_ m w hs (Z.sub.cell hm) hy) ?_
 rintro e w' ⟨rfl,rfl⟩
 exact ⟨_,rfl,_,rfl,split_star Z hs hy⟩
theorem i_linesOf_c {text : ByteArray} {most : Int} {H : FH} {w : World} {R : List Ass} (Z : Star H w R) {r : (List ByteArray) × Bool} (hF : i_linesOf text most = some r) :
 C Tryz.prog 32 #[.string text,I most] w fun v w'=>∃ H' : FH,Le H H'∧∃ (u1 : Value),v = .tuple #[u1,Bo r.2]∧(rS 9 RP.str).rel H' [u1] r.1∧Star H' w' (R):=by
 unfold i_linesOf at hF
 refine C_enter Tryz.func32 rfl Tryz.ntmps32 rfl (sq (aV S0 rfl (aB rfl (nq ?_))))
 obtain ⟨x6,hx6,hF⟩:=bind_some hF
 refine W_region (mV (.string text) rfl ?_)
 obtain ⟨H9b,l10,s11,z12,k13⟩:=Z.borrow
 refine L_call rfl Tryz.call75 (ops2 rfl rfl) (strings_Split_c (x_:=text) (y_:=(⟨#[10]⟩ : ByteArray)) s11 hx6) ?_
 rintro r14_0 w14 ⟨_,rfl,Z⟩
 have Z:=k13 Z (co closed_str c0)
 refine aV r14_0 rfl (ns (mV r14_0 rfl (L_len rfl Tryz.underlying44 rfl (Star.len 0 Z rfl) (L_sub rfl rfl rfl (aI rfl (nq ?_))))))
 obtain ⟨H16,l17,Z,hz18⟩:=Star.freeze Z
 have hz18 : (rS 9 RP.str).rel H16 [r14_0] x6:=hz18
 obtain ⟨x19,hx19,hF⟩:=bind_some hF
 obtain ⟨x22,hx22,hF⟩:=bind_some hF
 obtain ⟨R32,hR32⟩:=exR fun f w_=>∃ H30 : FH,∃ v28_t4 : Value,Le H16 H30∧f 4 = v28_t4∧f 5 = Bo ((ByteArray.toList x22 == ByteArray.toList (⟨#[]⟩ : ByteArray)) && (decide ((i64 ((x6.length : Int) - 1))≤most)))∧(rS 9 RP.str).rel H30 [v28_t4] x19∧Star H30 w_ (R)
 refine W_join R32 ?_ ?_
 rcases Bool.eq_false_or_eq_true (ByteArray.toList x22 == ByteArray.toList (⟨#[]⟩ : ByteArray)) with hc33 | hc33
 refine W_drawS 14 [isV (r14_0),isV (I (i64 ((x6.length : Int) - 1))),isData (rS 9 RP.str) x19,isV (r14_0),isV (I (i64 ((x6.length : Int) - 1))),isEl RP.str x22 0,isV (.string x22),isV (Bo (ByteArray.toList x22 == ByteArray.toList (⟨#[]⟩ : ByteArray))),isV (Bo (ByteArray.toList x22 == ByteArray.toList (⟨#[]⟩ : ByteArray))),isV (I (i64 ((x6.length : Int) - 1))),isV (I most),isV (Bo (decide ((i64 ((x6.length : Int) - 1))≤most))),isV (Bo ((ByteArray.toList x22 == ByteArray.toList (⟨#[]⟩ : ByteArray)) && (decide ((i64 ((x6.length : Int) - 1))≤most)))),isData (rS 9 RP.str) x19] [] [] (R) [([],[]),([],[]),([],[]),([],[]),([],[]),([],[]),([],[]),([],[]),([],[]),([],[]),([],[]),([],[]),([],[]),([],[])] (S:=[]) Tryz_mix (by kernel_rfl) rfl (by kernel_rfl) (amF_cons (mono_V _) (amF_cons (mono_V _) (amF_cons (mono_data _ _) (amF_cons (mono_V _) (amF_cons (mono_V _) (amF_cons (mono_el _ _ _) (amF_cons (mono_V _) (amF_cons (mono_V _) (amF_cons (mono_V _) (amF_cons (mono_V _) (amF_cons (mono_V _) (amF_cons (mono_V _) (amF_cons (mono_V _) (amF_cons (mono_data _ _) amF_nil)))))))))))))) Z ?_ (fun f w_ H27 hS27 hE27 hT27 Z=>?_)
 refine opsS_cons (fun f w_ _ _ s _ _ Z=>mF ((s 6 rfl).trans rfl) rfl (nO rfl rfl Z)) (opsS_cons (fun f w_ _ _ s _ _ Z=>mF ((s 7 rfl).trans rfl) rfl (nO rfl rfl Z)) (opsS_cons ?_ ?_))
 intro f w_ H27 X27 hS27 hE27 hP27 Z
 refine L_sl (a:=0) (b:=i64 ((x6.length : Int) - 1)) rfl et_44 (hP27 0 13 rfl rfl) (RP.mono _ hz18 hE27) rfl (hP27 1 14 rfl rfl) hx19 (fun v40 hs41=>L_nil ⟨rfl,_,_,rfl,Le.refl _,fun _ _=>hs41,Z⟩)
 refine opsS_cons (fun f w_ _ _ s _ _ Z=>mF ((s 6 rfl).trans rfl) rfl (nO rfl rfl Z)) (opsS_cons (fun f w_ _ _ s _ _ Z=>mF ((s 7 rfl).trans rfl) rfl (nO rfl rfl Z)) (opsS_cons ?_ ?_))
 intro f w_ H27 X27 hS27 hE27 hP27 Z
 refine L_ix (r:=RP.str) rfl Tryz.underlying44 Tryz.sizeOf9 (hP27 3 16 rfl rfl) (RP.mono _ hz18 hE27) (hP27 4 17 rfl rfl) hx22 (fun g42 o43 cs_g42 hrk_hat44 hat44=>?_)
 obtain rfl : _ = [_]:=hrk_hat44
 exact L_nil ⟨rfl,_,_,rfl,Le.refl _,fun _ _=>⟨_,_,_,rfl,rfl,hat44⟩,Z⟩
 refine opsS_cons ?_ ?_
 intro f w_ H27 X27 hS27 hE27 hP27 Z
 obtain ⟨g46,o46,cs46,hv46,hrk_hat46,hat46⟩:=(hP27 5 18 rfl rfl)
 obtain rfl : _ = [_]:=hrk_hat46
 refine L_ld rfl Tryz.isAgg9 hv46 (At.cell (AtH.at hat46 Z.sub) (j:=0) rfl) (L_nil ⟨rfl,_,_,rfl,Le.refl _,fun _ _=>rfl,Z⟩)
 refine opsS_cons (fun f w_ _ _ _ _ p Z=>L_seql (s:=x22) (s':=(⟨#[]⟩ : ByteArray)) rfl (p 6 19 rfl rfl) rfl (nO rfl rfl Z)) (opsS_cons (fun f w_ _ _ _ _ p Z=>mF (p 7 20 rfl rfl) rfl (nO rfl rfl Z)) (opsS_cons (fun f w_ _ _ s _ p Z=>L_mv (v:=I (i64 ((x6.length : Int) - 1))) (g_yes rfl (Eq.trans (p 8 21 rfl rfl) (congrArg Value.bool hc33)) rfl) ((s 7 rfl).trans rfl) (nO rfl rfl Z)) (opsS_cons (fun f w_ _ _ s _ p Z=>L_mv (v:=I most) (g_yes rfl (Eq.trans (p 8 21 rfl rfl) (congrArg Value.bool hc33)) rfl) ((s 1 rfl).trans rfl) (nO rfl rfl Z)) (opsS_cons (fun f w_ _ _ _ _ p Z=>L_leq (g_yes rfl (Eq.trans (p 8 21 rfl rfl) (congrArg Value.bool hc33)) rfl) (p 9 22 rfl rfl) (p 10 23 rfl rfl) (nO rfl rfl Z)) (opsS_cons (fun f w_ _ _ _ _ p Z=>pkT (v:=Bo ((ByteArray.toList x22 == ByteArray.toList (⟨#[]⟩ : ByteArray)) && (decide ((i64 ((x6.length : Int) - 1))≤most)))) (p 8 21 rfl rfl) hc33 rfl (and_t hc33 (p 11 24 rfl rfl)) (nO rfl rfl Z)) (opsS_cons ?_ ?_))))))
 intro f w_ H27 X27 hS27 hE27 hP27 Z
 have hd48 : (rS 9 RP.str).rel H27 [f 15] x19:=(hP27 2 15 rfl rfl)
 refine aV (f 15) rfl (L_nil ⟨rfl,_,_,rfl,Le.refl _,fun _ _=>hd48,Z⟩)
 exact opsS_nil
 have hd49 : (rS 9 RP.str).rel H27 [f 4] x19:=(hT27 13 4 rfl rfl)
 refine aF (hT27 12 25 rfl rfl) rfl (nn (rj hR32 ⟨H27,(f 4),hE27,rfl,rfl,hd49,Z⟩))
 refine W_drawS 14 [isV (r14_0),isV (I (i64 ((x6.length : Int) - 1))),isData (rS 9 RP.str) x19,isV (r14_0),isV (I (i64 ((x6.length : Int) - 1))),isEl RP.str x22 0,isV (.string x22),isV (Bo (ByteArray.toList x22 == ByteArray.toList (⟨#[]⟩ : ByteArray))),isV (Bo (ByteArray.toList x22 == ByteArray.toList (⟨#[]⟩ : ByteArray))),isV (undef),isV (undef),isV (undef),isV (Bo ((ByteArray.toList x22 == ByteArray.toList (⟨#[]⟩ : ByteArray)) && (decide ((i64 ((x6.length : Int) - 1))≤most)))),isData (rS 9 RP.str) x19] [] [] (R) [([],[]),([],[]),([],[]),([],[]),([],[]),([],[]),([],[]),([],[]),([],[]),([],[]),([],[]),([],[]),([],[]),([],[])] (S:=[]) Tryz_mix (by kernel_rfl) rfl (by kernel_rfl) (amF_cons (mono_V _) (amF_cons (mono_V _) (amF_cons (mono_data _ _) (amF_cons (mono_V _) (amF_cons (mono_V _) (amF_cons (mono_el _ _ _) (amF_cons (mono_V _) (amF_cons (mono_V _) (amF_cons (mono_V _) (amF_cons (mono_V _) (amF_cons (mono_V _) (amF_cons (mono_V _) (amF_cons (mono_V _) (amF_cons (mono_data _ _) amF_nil)))))))))))))) Z ?_ (fun f w_ H27 hS27 hE27 hT27 Z=>?_)
 refine opsS_cons (fun f w_ _ _ s _ _ Z=>mF ((s 6 rfl).trans rfl) rfl (nO rfl rfl Z)) (opsS_cons (fun f w_ _ _ s _ _ Z=>mF ((s 7 rfl).trans rfl) rfl (nO rfl rfl Z)) (opsS_cons ?_ ?_))
 intro f w_ H27 X27 hS27 hE27 hP27 Z
 refine L_sl (a:=0) (b:=i64 ((x6.length : Int) - 1)) rfl et_44 (hP27 0 13 rfl rfl) (RP.mono _ hz18 hE27) rfl (hP27 1 14 rfl rfl) hx19 (fun v56 hs57=>L_nil ⟨rfl,_,_,rfl,Le.refl _,fun _ _=>hs57,Z⟩)
 refine opsS_cons (fun f w_ _ _ s _ _ Z=>mF ((s 6 rfl).trans rfl) rfl (nO rfl rfl Z)) (opsS_cons (fun f w_ _ _ s _ _ Z=>mF ((s 7 rfl).trans rfl) rfl (nO rfl rfl Z)) (opsS_cons ?_ ?_))
 intro f w_ H27 X27 hS27 hE27 hP27 Z
 refine L_ix (r:=RP.str) rfl Tryz.underlying44 Tryz.sizeOf9 (hP27 3 16 rfl rfl) (RP.mono _ hz18 hE27) (hP27 4 17 rfl rfl) hx22 (fun g58 o59 cs_g58 hrk_hat60 hat60=>?_)
 obtain rfl : _ = [_]:=hrk_hat60
 exact L_nil ⟨rfl,_,_,rfl,Le.refl _,fun _ _=>⟨_,_,_,rfl,rfl,hat60⟩,Z⟩
 refine opsS_cons ?_ ?_
 intro f w_ H27 X27 hS27 hE27 hP27 Z
 obtain ⟨g62,o62,cs62,hv62,hrk_hat62,hat62⟩:=(hP27 5 18 rfl rfl)
 obtain rfl : _ = [_]:=hrk_hat62
 refine L_ld rfl Tryz.isAgg9 hv62 (At.cell (AtH.at hat62 Z.sub) (j:=0) rfl) (L_nil ⟨rfl,_,_,rfl,Le.refl _,fun _ _=>rfl,Z⟩)
 refine opsS_cons (fun f w_ _ _ _ _ p Z=>L_seql (s:=x22) (s':=(⟨#[]⟩ : ByteArray)) rfl (p 6 19 rfl rfl) rfl (nO rfl rfl Z)) (opsS_cons (fun f w_ _ _ _ _ p Z=>mF (p 7 20 rfl rfl) rfl (nO rfl rfl Z)) (oP (fun _ _ p=>gN (p 8 21 rfl rfl) hc33 rfl) (fun _=>rfl) (oP (fun _ _ p=>gN (p 8 21 rfl rfl) hc33 rfl) (fun _=>rfl) (oP (fun _ _ p=>gN (p 8 21 rfl rfl) hc33 rfl) (fun _=>rfl) (opsS_cons (fun f w_ _ _ _ _ p Z=>pkT (v:=Bo ((ByteArray.toList x22 == ByteArray.toList (⟨#[]⟩ : ByteArray)) && (decide ((i64 ((x6.length : Int) - 1))≤most)))) (p 8 21 rfl rfl) hc33 rfl (and_f hc33) (nO rfl rfl Z)) (opsS_cons ?_ ?_))))))
 intro f w_ H27 X27 hS27 hE27 hP27 Z
 have hd64 : (rS 9 RP.str).rel H27 [f 15] x19:=(hP27 2 15 rfl rfl)
 refine aV (f 15) rfl (L_nil ⟨rfl,_,_,rfl,Le.refl _,fun _ _=>hd64,Z⟩)
 exact opsS_nil
 have hd65 : (rS 9 RP.str).rel H27 [f 4] x19:=(hT27 13 4 rfl rfl)
 refine aF (hT27 12 25 rfl rfl) rfl (nn (rj hR32 ⟨H27,(f 4),hE27,rfl,rfl,hd65,Z⟩))
 intro f w_ hR
 obtain ⟨H30,v28_t4,l31,sf4,sf5,hv29_t4,Z⟩:=rk hR32 hR
 refine W_ret (retG2 (v1:=v28_t4) (v2:=Bo ((ByteArray.toList x22 == ByteArray.toList (⟨#[]⟩ : ByteArray)) && (decide ((i64 ((x6.length : Int) - 1))≤most)))) Tryz.results32 sf4 sf5 ?_)
 obtain rfl:=so hF
 exact ⟨H30,(Le.trans l17 l31),v28_t4,rfl,hv29_t4,Z⟩
theorem strings_CutPrefix_c {x_ : ByteArray} {y_ : ByteArray} {H : FH} {w : World} (Z : Star H w []) {r : ByteArray × Bool} (hF : strings_CutPrefix x_ y_ = some r) :
 C Tryz.prog 33 #[.string x_,.string y_] w fun v w'=>v = .tuple #[.string r.1,Bo r.2]∧Star H w' []:=by
 cases hF
 refine Calls.mono (Tryz.strings_CutPrefix x_ y_ w) ?_
 rintro e w' ⟨rfl,rfl⟩
 exact ⟨_,rfl,rfl,Z⟩
theorem slices_Index_string_c {s : List ByteArray} {v_ : ByteArray} {v0 : Value} {H : FH} {w : World} (Z : Star H w []) (h0 : (rS 9 RP.str).rel H [v0] s) {r : Int} (hF : slices_Index_string s v_ = some r) :
 C Tryz.prog 77 #[v0,.string v_] w fun v w'=>v = I r∧Star H w' []:=by
 unfold slices_Index_string at hF
 refine C_enter Tryz.func77 rfl Tryz.ntmps77 rfl (sq (aI rfl (nq (sq (mV v0 rfl (L_len rfl Tryz.underlying44 rfl (slice_len h0) (mI rfl (nn ?_))))))))
 have hlen2 : List.length s≤9223372036854775807:=len_le (slice_len h0)
 obtain ⟨j2,hL2,hF⟩:=bind_some hF
 obtain ⟨R2,hR2⟩:=exR fun f w_=>j2 = .nx ()∧Star H w_ ([])
 refine W_join R2 ?_ ?_
 refine W_block ?_
 obtain ⟨I2,hI2⟩:=exI fun n f w_=>∃ i_1 : Nat,∃ suf2 : List ByteArray,n = suf2.length∧List.drop i_1 s = suf2∧i_1 + suf2.length = s.length∧rangeL (slices_Index_string_b1 v_) suf2 i_1 () = some j2∧f 0 = v0∧f 1 = .string v_∧f 7 = I (s.length : Int)∧f 8 = I i_1∧Star H w_ ([])
 refine W_loop I2 (n:=s.length) ?_ ?_
 exact ij hI2 ⟨0,s,rfl,rfl,Nat.zero_add _,hL2,rfl,rfl,rfl,rfl,Z⟩
 intro n2 f w_ hI
 obtain ⟨i_1,suf2,rfl,hd2,hl2,hL2,sf0,sf1,sf7,sf8,Z⟩:=ik hI2 hI
 refine sq (L_lss rfl sf8 sf7 (nq (W_cond (b:=decide ((i_1 : Int) < (s.length : Int))) rfl (fun hc3=>?_) (fun hc3=>?_))))
 have hlt2:=of_decide_eq_true hc3
 rcases suf2 with _ | ⟨x_2,rest2⟩
 exact absurd hlt2 (by simp at hl2; omega)
 obtain ⟨o2,hB2,hL2⟩:=range_cons hL2
 rw [slices_Index_string_b1] at hB2
 have hix2:=drop_idx hd2
 refine W_skip (W_seq (W_block (sq (mF sf8 rfl (aI rfl (ns (mF sf1 rfl (mF sf0 rfl (mI rfl (L_ix (r:=RP.str) rfl Tryz.underlying44 Tryz.sizeOf9 rfl h0 rfl hix2 (fun g8 o9 cs_g8 hrk_hat10 hat10=>?_)))))))))))
 obtain rfl : _ = [_]:=hrk_hat10
 refine L_ld rfl Tryz.isAgg9 rfl (At.cell (AtH.at hat10 Z.sub) (j:=0) rfl) (L_seql (s:=v_) (s':=x_2) rfl rfl rfl (nn (W_cond (b:=(ByteArray.toList v_ == ByteArray.toList x_2)) rfl (fun hc12=>?_) (fun hc12=>?_))))
 have hB2:=(ite_t hc12).symm.trans hB2
 refine sq (mI rfl (aI rfl (nn (W_ret (retG1 (v1:=I i_1) Tryz.results77 rfl ?_)))))
 obtain rfl:=so hB2
 obtain rfl:=so hL2
 obtain rfl:=so hF
 exact ⟨rfl,Z⟩
 have hB2:=(ite_f hc12).symm.trans hB2
 refine W_skip (W_region (L_add rfl sf8 rfl (mI rfl (nn ?_))))
 obtain rfl:=so hB2
 show ∃ m,m < _∧I2 m _ _
 refine ⟨rest2.length,by simp,?_⟩
 exact ij hI2 ⟨i_1 + 1,rest2,rfl,drop_next hd2,by simp at hl2; omega,hL2,sf0,sf1,sf7,(Eq.trans rfl (congrArg (Value.int .i64) (i64_succ (n:=s.length) (by simp at hl2; omega) hlen2))),Z⟩
 rcases suf2 with _ | ⟨_,_⟩
 obtain rfl:=range_nil hL2
 refine W_exit (rj hR2 ⟨rfl,Z⟩)
 exact absurd (of_decide_eq_false hc3) (by simp at hl2; omega)
 intro f w_ hR
 obtain ⟨rfl,Z⟩:=rk hR2 hR
 refine sq (aI rfl (nn (W_ret (retG1 (v1:=I (-1)) Tryz.results77 rfl ?_))))
 obtain rfl:=so hF
 exact ⟨rfl,Z⟩
theorem strconv_Itoa_c {x_ : Int} {H : FH} {w : World} (Z : Star H w []) {r : ByteArray} (hF : strconv_Itoa x_ = some r) :
 C Tryz.prog 121 #[I x_] w fun v w'=>v = .string r∧Star H w' []:=by
 obtain ⟨h0,h1,rfl⟩:=strconv_Itoa_some hF
 refine Calls.mono (Tryz.strconv_Itoa x_ h0 h1 w (Z.sub.var H.glob.tab)) ?_
 rintro e w' ⟨rfl,k,os,rfl⟩
 exact ⟨_,rfl,rfl,Star.ext Z (grown_drew w k os)⟩
theorem strconv_Atoi_c {x_ : ByteArray} {H : FH} {w : World} (Z : Star H w []) {r : Int × Bool} (hF : strconv_Atoi x_ = some r) :
 C Tryz.prog 130 #[.string x_] w fun v w'=>∃ u1 : Value,v = .tuple #[I r.1,u1]∧ErrIs u1 r.2∧Star H w' []:=by
 obtain ⟨hs,rfl⟩:=strconv_Atoi_some hF
 cases hn : Go.Lib.atoiAll x_.data.toList
 refine Calls.mono (Any.strconv_Atoi_ok Tryz.laysC172 x_ (by omega) _ hn w) ?_
 rintro e w' ⟨rfl,hw⟩
 refine ⟨_,rfl,_,rfl,rfl,Star.ext Z ?_⟩
 rcases hw with rfl | ⟨t,rfl⟩
 exact Below.refl _ _
 exact below_bytesWorld _ _ _
 obtain ⟨ev,hv,hev⟩:=H.glob.syn
 refine Calls.mono (Any.strconv_Atoi_syntax Tryz.laysC172 x_ (by omega) hn ev w (Z.sub.cell hv) hev) ?_
 rintro e w' ⟨N,rfl,_,_,hb⟩
 exact ⟨_,rfl,_,rfl,⟨_,_,rfl⟩,Star.ext Z hb⟩
 obtain ⟨ev,hv,hev⟩:=H.glob.rng
 refine Calls.mono (Any.strconv_Atoi_range Tryz.laysC172 x_ (by omega) hn ev w (Z.sub.cell hv) hev) ?_
 rintro e w' ⟨N,rfl,_,_,hb⟩
 exact ⟨_,rfl,_,rfl,⟨_,_,rfl⟩,Star.ext Z hb⟩
theorem i_number_c {s : ByteArray} {H : FH} {w : World} (Z : Star H w []) {r : Int} (hF : i_number s = some r) :
 C Tryz.prog 79 #[.string s] w fun v w'=>v = I r∧Star H w' []:=by
 unfold i_number at hF
 refine C_enter Tryz.func79 rfl Tryz.ntmps79 rfl (sq (aI rfl (nq ?_)))
 obtain ⟨x6,hx6,hF⟩:=bind_some hF
 refine W_region (mV (.string s) rfl ?_)
 obtain ⟨H8b,l9,s10,z11,k12⟩:=Z.borrow
 refine L_call rfl Tryz.call130 (ops1 rfl) (strconv_Atoi_c (x_:=s) s10 hx6) ?_
 rintro _ w13 ⟨r13_0,rfl,hr13_0,Z⟩
 have Z:=k12 Z c0
 refine mV (.tuple #[I x6.1,r13_0]) rfl (L_ex (v:=I x6.1) rfl rfl rfl (L_ex (v:=r13_0) rfl rfl rfl (aI rfl (aV r13_0 rfl (nq (sq (mV r13_0 rfl (L_ene rfl Tryz.underlying92 rfl rfl hr13_0 (nn (W_cond (b:=x6.2) rfl (fun hc14=>?_) (fun hc14=>?_)))))))))))
 have hF:=(ite_t hc14).symm.trans hF
 refine sq (aI rfl (nn (W_ret (retG1 (v1:=I 0) Tryz.results79 rfl ?_))))
 obtain rfl:=so hF
 exact ⟨rfl,Z⟩
 have hF:=(ite_f hc14).symm.trans hF
 refine W_skip (sq (mI rfl (aI rfl (nn (W_ret (retG1 (v1:=I x6.1) Tryz.results79 rfl ?_))))))
 obtain rfl:=so hF
 exact ⟨rfl,Z⟩
theorem s_l17Open_c {code : List UInt8} {v0 : Value} {H : FH} {w : World} {R : List Ass} (Z : Star H w R) (h0 : (rS 5 RP.u8).rel H [v0] code) {r : Rd} (hF : s_l17Open code = some r) :
 C Tryz.prog 54 #[v0] w fun v w'=>∃ H' : FH,Le H H'∧∃ (u1 : Nat) (u2 : Value),v = Pt u1∧(rS 5 RP.u8).rel H' [u2] r.b∧Star H' w' (box u1 117 #[u2,I r.p] :: R):=by
 unfold s_l17Open at hF
 refine C_enter Tryz.func54 rfl Tryz.ntmps54 rfl (sq (aV (.pointer none) rfl (nq (sq (mV v0 rfl (L_len rfl Tryz.underlying31 rfl (slice_len h0) (L_gtr rfl rfl rfl (nn ?_))))))))
 obtain ⟨code_1,hA3,hF⟩:=bind_some hF
 obtain ⟨R3,hR3⟩:=exR fun f w_=>∃ v1_code : Value,f 0 = v1_code∧(rS 5 RP.u8).rel H [v1_code] code_1∧Star H w_ (R)
 refine W_join R3 ?_ ?_
 refine W_cond (b:=decide ((code.length : Int) > 2000)) rfl (fun hc4=>?_) (fun hc4=>?_)
 have hA3:=(ite_t hc4).symm.trans hA3
 obtain ⟨x5,hx5,hA3⟩:=bind_some hA3
 refine W_region (mV v0 rfl (L_sl (a:=0) (b:=2000) rfl et_31 rfl h0 rfl rfl hx5 (fun v8 hs9=>aV v8 rfl (nn ?_))))
 obtain rfl:=so hA3
 exact rj hR3 ⟨v8,rfl,hs9,Z⟩
 have hA3:=(ite_f hc4).symm.trans hA3
 refine W_skip ?_
 obtain rfl:=so hA3
 exact rj hR3 ⟨v0,rfl,h0,Z⟩
 intro f w_ hR
 obtain ⟨v1_code,sf0,hv2_code,Z⟩:=rk hR3 hR
 refine sq (mF sf0 rfl (L_bld rfl (parts1 rfl) (bld_117_0 (v1_code) (one_len (slice_len hv2_code))) (L_box (v:=.agg #[v1_code,I 0]) (cs:=#[v1_code,I 0]) rfl rfl rfl Z (fun g12 w13 Z=>aV (Pt g12) rfl (nn (W_ret (retG1 (v1:=Pt g12) Tryz.results54 rfl ?_)))))))
 obtain rfl:=so hF
 exact ⟨H,(Le.refl _),g12,v1_code,rfl,hv2_code,Z⟩
theorem s_l17Rd_pick_c {r_ : Rd} {n_ : Int} {g_0 : Nat} {v0_0 : Value} {H : FH} {w : World} (Z : Star H w [box g_0 117 #[v0_0,I r_.p]]) (h0_0 : (rS 5 RP.u8).rel H [v0_0] r_.b) {r : Int × Int} (hF : s_l17Rd_pick r_ n_ = some r) :
 C Tryz.prog 63 #[Pt g_0,I n_] w fun v w'=>v = I r.1∧Star H w' [box g_0 117 #[v0_0,I r.2]]:=by
 unfold s_l17Rd_pick at hF
 refine C_enter Tryz.func63 rfl Tryz.ntmps63 rfl (sq (aI rfl (ns (mV (Pt g_0) rfl (mV (Pt g_0) rfl (L_nc rfl rfl (fA 1 fa_117_1 rfl rfl (ldB 0 Z Tryz.isAgg3 rfl rfl rfl (L_add rfl rfl rfl (L_nc rfl rfl (fA 1 fa_117_1 rfl rfl (L_stB (v:=I (i64 (r_.p + 1))) (cs2:=#[v0_0,I (i64 (r_.p + 1))]) 0 rfl Tryz.sizeOf3 rfl rfl rfl Z rfl rfl rfl (fun w2 Z=>nq (W_seq ?_))))))))))))))
 obtain ⟨R3,hR3⟩:=exR fun f w_=>f 0 = Pt g_0∧f 1 = I n_∧f 24 = Bo ((decide (n_ < 1)) || ((r_.b.length : Int) == 0))∧Star H w_ ([box g_0 117 #[v0_0,I (i64 (r_.p + 1))]])
 refine W_join R3 ?_ ?_
 refine W_region (mI rfl (L_lss rfl rfl rfl (mB rfl (L_split (d:=17) (b:=decide (n_ < 1)) rfl (fun hc4=>?_) (fun hc4=>?_)))))
 refine ps rfl (ps rfl (ps rfl (ps rfl (ps rfl (ps rfl (L_pick (v:=Bo ((decide (n_ < 1)) || ((r_.b.length : Int) == 0))) rfl rfl (or_t hc4) (nn (rj hR3 ⟨rfl,rfl,rfl,Z⟩))))))))
 refine mV (Pt g_0) rfl (L_nc rfl rfl (fA 0 fa_117_0 rfl rfl (ldB 0 Z Tryz.isAgg31 rfl rfl rfl (L_len rfl Tryz.underlying31 rfl (slice_len h0_0) (L_eql rfl rfl rfl (L_pick (v:=Bo ((decide (n_ < 1)) || ((r_.b.length : Int) == 0))) rfl rfl (or_f hc4 rfl) (nn (rj hR3 ⟨rfl,rfl,rfl,Z⟩))))))))
 intro f w_ hR
 obtain ⟨sf0,sf1,sf24,Z⟩:=rk hR3 hR
 refine W_cond (b:=((decide (n_ < 1)) || ((r_.b.length : Int) == 0))) sf24 (fun hc5=>?_) (fun hc5=>?_)
 have hF:=(ite_t hc5).symm.trans hF
 refine sq (aI rfl (nn (W_ret (retG1 (v1:=I 0) Tryz.results63 rfl ?_))))
 obtain rfl:=so hF
 exact ⟨rfl,Z⟩
 have hF:=(ite_f hc5).symm.trans hF
 refine W_skip (sq (mF sf0 rfl (L_nc rfl rfl (fA 1 fa_117_1 rfl rfl (ldB 0 Z Tryz.isAgg3 rfl rfl rfl (L_sub rfl rfl rfl (aI rfl (nq (sq (mI rfl (mF sf0 rfl (L_nc rfl rfl (fA 0 fa_117_0 rfl rfl (ldB 0 Z Tryz.isAgg31 rfl rfl rfl (L_len rfl Tryz.underlying31 rfl (slice_len h0_0) (L_lss rfl rfl rfl (nn (W_cond (b:=decide ((i64 ((i64 (r_.p + 1)) - 1)) < (r_.b.length : Int))) rfl (fun hc6=>?_) (fun hc6=>?_)))))))))))))))))))
 have hF:=(ite_t hc6).symm.trans hF
 refine W_seq ?_
 obtain ⟨x7,hx7,hF⟩:=bind_some hF
 obtain ⟨q12,hq12,hF⟩:=bind_some hF
 refine W_region (mF sf0 rfl (L_nc rfl rfl (fA 0 fa_117_0 rfl rfl (ldB 0 Z Tryz.isAgg31 rfl rfl rfl (mI rfl (L_ix (r:=RP.u8) rfl Tryz.underlying31 Tryz.sizeOf5 rfl h0_0 rfl hx7 (fun g13 o14 cs_g13 hrk_hat15 hat15=>?_)))))))
 obtain rfl : _ = [_]:=hrk_hat15
 refine L_ld rfl Tryz.isAgg5 rfl (At.cell (AtH.at hat15 Z.sub) (j:=0) rfl) (L_cv (n:=(x7.toNat : Int)) rfl rfl ⟨_,Tryz.underlying5⟩ Tryz.underlying3 (mF sf1 rfl (L_rem (m:=i64 (x7.toNat : Int)) (n:=n_) rfl rfl rfl (fun he=>by rw [if_pos he] at hq12; cases hq12) (aI rfl (nn (W_ret (retG1 (v1:=I (Int.tmod (i64 (x7.toNat : Int)) n_)) Tryz.results63 rfl ?_)))))))
 obtain rfl:=so hF
 exact ⟨rfl,Z⟩
 have hF:=(ite_f hc6).symm.trans hF
 refine W_skip (W_seq ?_)
 obtain ⟨q17,hq17,hF⟩:=bind_some hF
 obtain ⟨x18,hx18,hF⟩:=bind_some hF
 obtain ⟨q23,hq23,hF⟩:=bind_some hF
 obtain ⟨x24,hx24,hF⟩:=bind_some hF
 obtain ⟨q29,hq29,hF⟩:=bind_some hF
 refine W_drawS 44 [isV (Pt g_0),isV (Pt g_0),isV (Pt g_0),isV (v0_0),isV (I (i64 ((i64 (r_.p + 1)) - 1))),isV (Pt g_0),isV (Pt g_0),isV (Pt g_0),isV (v0_0),isV (I (r_.b.length : Int)),isV (I (Int.tmod (i64 ((i64 (r_.p + 1)) - 1)) (r_.b.length : Int))),isEl RP.u8 x18 0,isV (.int .u8 (x18.toNat : Int)),isV (I (i64 (x18.toNat : Int))),isV (I (i64 ((i64 (x18.toNat : Int)) * 131))),isV (Pt g_0),isV (Pt g_0),isV (Pt g_0),isV (v0_0),isV (I (i64 ((i64 (r_.p + 1)) - 1))),isV (I (i64 ((i64 ((i64 (r_.p + 1)) - 1)) * 7))),isV (I (i64 ((i64 ((i64 ((i64 (r_.p + 1)) - 1)) * 7)) + 3))),isV (Pt g_0),isV (Pt g_0),isV (Pt g_0),isV (v0_0),isV (I (r_.b.length : Int)),isV (I (Int.tmod (i64 ((i64 ((i64 ((i64 (r_.p + 1)) - 1)) * 7)) + 3)) (r_.b.length : Int))),isEl RP.u8 x24 0,isV (.int .u8 (x24.toNat : Int)),isV (I (i64 (x24.toNat : Int))),isV (I (i64 ((i64 (x24.toNat : Int)) * 1117))),isV (I (i64 ((i64 ((i64 (x18.toNat : Int)) * 131)) + (i64 ((i64 (x24.toNat : Int)) * 1117))))),isV (I (i64 ((i64 (r_.p + 1)) - 1))),isV (I (i64 ((i64 ((i64 (r_.p + 1)) - 1)) * 29))),isV (I (i64 ((i64 ((i64 ((i64 (x18.toNat : Int)) * 131)) + (i64 ((i64 (x24.toNat : Int)) * 1117)))) + (i64 ((i64 ((i64 (r_.p + 1)) - 1)) * 29))))),isV (I (i64 ((i64 (r_.p + 1)) - 1))),isV (Pt g_0),isV (Pt g_0),isV (Pt g_0),isV (v0_0),isV (I (r_.b.length : Int)),isV (I (i64 (Int.tdiv (i64 ((i64 (r_.p + 1)) - 1)) (r_.b.length : Int)))),isV (I (i64 ((i64 (Int.tdiv (i64 ((i64 (r_.p + 1)) - 1)) (r_.b.length : Int))) * 53)))] [box g_0 117 #[v0_0,I (i64 (r_.p + 1))]] [] ([]) [([],[]),([],[]),([],[]),([],[]),([],[]),([],[]),([],[]),([],[]),([],[]),([],[]),([],[]),([],[]),([],[]),([],[]),([],[]),([],[]),([],[]),([],[]),([],[]),([],[]),([],[]),([],[]),([],[]),([],[]),([],[]),([],[]),([],[]),([],[]),([],[]),([],[]),([],[]),([],[]),([],[]),([],[]),([],[]),([],[]),([],[]),([],[]),([],[]),([],[]),([],[]),([],[]),([],[]),([],[])] (S:=[]) Tryz_mix (by kernel_rfl) rfl (by kernel_rfl) (amF_cons (mono_V _) (amF_cons (mono_V _) (amF_cons (mono_V _) (amF_cons (mono_V _) (amF_cons (mono_V _) (amF_cons (mono_V _) (amF_cons (mono_V _) (amF_cons (mono_V _) (amF_cons (mono_V _) (amF_cons (mono_V _) (amF_cons (mono_V _) (amF_cons (mono_el _ _ _) (amF_cons (mono_V _) (amF_cons (mono_V _) (amF_cons (mono_V _) (amF_cons (mono_V _) (amF_cons (mono_V _) (amF_cons (mono_V _) (amF_cons (mono_V _) (amF_cons (mono_V _) (amF_cons (mono_V _) (amF_cons (mono_V _) (amF_cons (mono_V _) (amF_cons (mono_V _) (amF_cons (mono_V _) (amF_cons (mono_V _) (amF_cons (mono_V _) (amF_cons (mono_V _) (amF_cons (mono_el _ _ _) (amF_cons (mono_V _) (amF_cons (mono_V _) (amF_cons (mono_V _) (amF_cons (mono_V _) (amF_cons (mono_V _) (amF_cons (mono_V _) (amF_cons (mono_V _) (amF_cons (mono_V _) (amF_cons (mono_V _) (amF_cons (mono_V _) (amF_cons (mono_V _) (amF_cons (mono_V _) (amF_cons (mono_V _) (amF_cons (mono_V _) (amF_cons (mono_V _) amF_nil)))))))))))))))))))))))))))))))))))))))))))) Z ?_ (fun f w_ H30 hS30 hE30 hT30 Z=>?_)
 refine opsS_cons (fun f w_ _ _ s _ _ Z=>mF ((s 0 rfl).trans sf0) rfl (nO rfl rfl Z)) (opsS_cons (fun f w_ _ _ _ _ p Z=>L_nc rfl (p 0 47 rfl rfl) (nO rfl rfl Z)) (opsS_cons (fun f w_ _ _ _ _ p Z=>fA 0 fa_117_0 (p 1 48 rfl rfl) rfl (nO rfl rfl Z)) (opsS_cons (fun f w_ _ _ _ _ p Z=>ldB 0 Z Tryz.isAgg31 (p 2 49 rfl rfl) rfl rfl (nO rfl rfl Z)) (opsS_cons (fun f w_ _ _ s _ _ Z=>mF ((s 5 rfl).trans rfl) rfl (nO rfl rfl Z)) (opsS_cons (fun f w_ _ _ s _ _ Z=>mF ((s 0 rfl).trans sf0) rfl (nO rfl rfl Z)) (opsS_cons (fun f w_ _ _ _ _ p Z=>L_nc rfl (p 5 52 rfl rfl) (nO rfl rfl Z)) (opsS_cons (fun f w_ _ _ _ _ p Z=>fA 0 fa_117_0 (p 6 53 rfl rfl) rfl (nO rfl rfl Z)) (opsS_cons (fun f w_ _ _ _ _ p Z=>ldB 0 Z Tryz.isAgg31 (p 7 54 rfl rfl) rfl rfl (nO rfl rfl Z)) (opsS_cons (fun f w_ _ _ _ hE30 p Z=>L_len rfl Tryz.underlying31 (p 8 55 rfl rfl) (slice_len (RP.mono _ h0_0 hE30)) (nO rfl rfl Z)) (opsS_cons (fun f w_ _ _ _ _ p Z=>L_rem (m:=i64 ((i64 (r_.p + 1)) - 1)) (n:=(r_.b.length : Int)) rfl (p 4 51 rfl rfl) (p 9 56 rfl rfl) (fun he=>by rw [if_pos he] at hq17; cases hq17) (nO rfl rfl Z)) (opsS_cons ?_ ?_)))))))))))
 intro f w_ H30 X30 hS30 hE30 hP30 Z
 refine L_ix (r:=RP.u8) rfl Tryz.underlying31 Tryz.sizeOf5 (hP30 3 50 rfl rfl) (RP.mono _ h0_0 hE30) (hP30 10 57 rfl rfl) hx18 (fun g39 o40 cs_g39 hrk_hat41 hat41=>?_)
 obtain rfl : _ = [_]:=hrk_hat41
 exact L_nil ⟨rfl,_,_,rfl,Le.refl _,fun _ _=>⟨_,_,_,rfl,rfl,hat41⟩,Z⟩
 refine opsS_cons ?_ ?_
 intro f w_ H30 X30 hS30 hE30 hP30 Z
 obtain ⟨g43,o43,cs43,hv43,hrk_hat43,hat43⟩:=(hP30 11 58 rfl rfl)
 obtain rfl : _ = [_]:=hrk_hat43
 refine L_ld rfl Tryz.isAgg5 hv43 (At.cell (AtH.at hat43 Z.sub) (j:=0) rfl) (L_nil ⟨rfl,_,_,rfl,Le.refl _,fun _ _=>rfl,Z⟩)
 refine opsS_cons (fun f w_ _ _ _ _ p Z=>L_cv (n:=(x18.toNat : Int)) rfl (p 12 59 rfl rfl) ⟨_,Tryz.underlying5⟩ Tryz.underlying3 (nO rfl rfl Z)) (opsS_cons (fun f w_ _ _ _ _ p Z=>L_mul rfl (p 13 60 rfl rfl) rfl (nO rfl rfl Z)) (opsS_cons (fun f w_ _ _ s _ _ Z=>mF ((s 0 rfl).trans sf0) rfl (nO rfl rfl Z)) (opsS_cons (fun f w_ _ _ _ _ p Z=>L_nc rfl (p 15 62 rfl rfl) (nO rfl rfl Z)) (opsS_cons (fun f w_ _ _ _ _ p Z=>fA 0 fa_117_0 (p 16 63 rfl rfl) rfl (nO rfl rfl Z)) (opsS_cons (fun f w_ _ _ _ _ p Z=>ldB 0 Z Tryz.isAgg31 (p 17 64 rfl rfl) rfl rfl (nO rfl rfl Z)) (opsS_cons (fun f w_ _ _ s _ _ Z=>mF ((s 5 rfl).trans rfl) rfl (nO rfl rfl Z)) (opsS_cons (fun f w_ _ _ _ _ p Z=>L_mul rfl (p 19 66 rfl rfl) rfl (nO rfl rfl Z)) (opsS_cons (fun f w_ _ _ _ _ p Z=>L_add rfl (p 20 67 rfl rfl) rfl (nO rfl rfl Z)) (opsS_cons (fun f w_ _ _ s _ _ Z=>mF ((s 0 rfl).trans sf0) rfl (nO rfl rfl Z)) (opsS_cons (fun f w_ _ _ _ _ p Z=>L_nc rfl (p 22 69 rfl rfl) (nO rfl rfl Z)) (opsS_cons (fun f w_ _ _ _ _ p Z=>fA 0 fa_117_0 (p 23 70 rfl rfl) rfl (nO rfl rfl Z)) (opsS_cons (fun f w_ _ _ _ _ p Z=>ldB 0 Z Tryz.isAgg31 (p 24 71 rfl rfl) rfl rfl (nO rfl rfl Z)) (opsS_cons (fun f w_ _ _ _ hE30 p Z=>L_len rfl Tryz.underlying31 (p 25 72 rfl rfl) (slice_len (RP.mono _ h0_0 hE30)) (nO rfl rfl Z)) (opsS_cons (fun f w_ _ _ _ _ p Z=>L_rem (m:=i64 ((i64 ((i64 ((i64 (r_.p + 1)) - 1)) * 7)) + 3)) (n:=(r_.b.length : Int)) rfl (p 21 68 rfl rfl) (p 26 73 rfl rfl) (fun he=>by rw [if_pos he] at hq23; cases hq23) (nO rfl rfl Z)) (opsS_cons ?_ ?_)))))))))))))))
 intro f w_ H30 X30 hS30 hE30 hP30 Z
 refine L_ix (r:=RP.u8) rfl Tryz.underlying31 Tryz.sizeOf5 (hP30 18 65 rfl rfl) (RP.mono _ h0_0 hE30) (hP30 27 74 rfl rfl) hx24 (fun g45 o46 cs_g45 hrk_hat47 hat47=>?_)
 obtain rfl : _ = [_]:=hrk_hat47
 exact L_nil ⟨rfl,_,_,rfl,Le.refl _,fun _ _=>⟨_,_,_,rfl,rfl,hat47⟩,Z⟩
 refine opsS_cons ?_ ?_
 intro f w_ H30 X30 hS30 hE30 hP30 Z
 obtain ⟨g49,o49,cs49,hv49,hrk_hat49,hat49⟩:=(hP30 28 75 rfl rfl)
 obtain rfl : _ = [_]:=hrk_hat49
 refine L_ld rfl Tryz.isAgg5 hv49 (At.cell (AtH.at hat49 Z.sub) (j:=0) rfl) (L_nil ⟨rfl,_,_,rfl,Le.refl _,fun _ _=>rfl,Z⟩)
 refine opsS_cons (fun f w_ _ _ _ _ p Z=>L_cv (n:=(x24.toNat : Int)) rfl (p 29 76 rfl rfl) ⟨_,Tryz.underlying5⟩ Tryz.underlying3 (nO rfl rfl Z)) (opsS_cons (fun f w_ _ _ _ _ p Z=>L_mul rfl (p 30 77 rfl rfl) rfl (nO rfl rfl Z)) (opsS_cons (fun f w_ _ _ _ _ p Z=>L_add rfl (p 14 61 rfl rfl) (p 31 78 rfl rfl) (nO rfl rfl Z)) (opsS_cons (fun f w_ _ _ s _ _ Z=>mF ((s 5 rfl).trans rfl) rfl (nO rfl rfl Z)) (opsS_cons (fun f w_ _ _ _ _ p Z=>L_mul rfl (p 33 80 rfl rfl) rfl (nO rfl rfl Z)) (opsS_cons (fun f w_ _ _ _ _ p Z=>L_add rfl (p 32 79 rfl rfl) (p 34 81 rfl rfl) (nO rfl rfl Z)) (opsS_cons (fun f w_ _ _ s _ _ Z=>mF ((s 5 rfl).trans rfl) rfl (nO rfl rfl Z)) (opsS_cons (fun f w_ _ _ s _ _ Z=>mF ((s 0 rfl).trans sf0) rfl (nO rfl rfl Z)) (opsS_cons (fun f w_ _ _ _ _ p Z=>L_nc rfl (p 37 84 rfl rfl) (nO rfl rfl Z)) (opsS_cons (fun f w_ _ _ _ _ p Z=>fA 0 fa_117_0 (p 38 85 rfl rfl) rfl (nO rfl rfl Z)) (opsS_cons (fun f w_ _ _ _ _ p Z=>ldB 0 Z Tryz.isAgg31 (p 39 86 rfl rfl) rfl rfl (nO rfl rfl Z)) (opsS_cons (fun f w_ _ _ _ hE30 p Z=>L_len rfl Tryz.underlying31 (p 40 87 rfl rfl) (slice_len (RP.mono _ h0_0 hE30)) (nO rfl rfl Z)) (opsS_cons (fun f w_ _ _ _ _ p Z=>L_quo (m:=i64 ((i64 (r_.p + 1)) - 1)) (n:=(r_.b.length : Int)) rfl (p 36 83 rfl rfl) (p 41 88 rfl rfl) (fun he=>by rw [if_pos he] at hq29; cases hq29) (nO rfl rfl Z)) (opsS_cons (fun f w_ _ _ _ _ p Z=>L_mul rfl (p 42 89 rfl rfl) rfl (nO rfl rfl Z)) (opsS_nil))))))))))))))
 refine L_add rfl (hT30 35 82 rfl rfl) (hT30 43 90 rfl rfl) (aI rfl (ns (mI rfl (mI rfl (L_quo (m:=i64 ((i64 ((i64 ((i64 ((i64 (x18.toNat : Int)) * 131)) + (i64 ((i64 (x24.toNat : Int)) * 1117)))) + (i64 ((i64 ((i64 (r_.p + 1)) - 1)) * 29)))) + (i64 ((i64 (Int.tdiv (i64 ((i64 (r_.p + 1)) - 1)) (r_.b.length : Int))) * 53)))) (n:=64) rfl rfl rfl (by decide) (L_xor (m:=i64 ((i64 ((i64 ((i64 ((i64 (x18.toNat : Int)) * 131)) + (i64 ((i64 (x24.toNat : Int)) * 1117)))) + (i64 ((i64 ((i64 (r_.p + 1)) - 1)) * 29)))) + (i64 ((i64 (Int.tdiv (i64 ((i64 (r_.p + 1)) - 1)) (r_.b.length : Int))) * 53)))) (n:=i64 (Int.tdiv (i64 ((i64 ((i64 ((i64 ((i64 (x18.toNat : Int)) * 131)) + (i64 ((i64 (x24.toNat : Int)) * 1117)))) + (i64 ((i64 ((i64 (r_.p + 1)) - 1)) * 29)))) + (i64 ((i64 (Int.tdiv (i64 ((i64 (r_.p + 1)) - 1)) (r_.b.length : Int))) * 53)))) 64)) rfl rfl rfl (aI rfl (nq ?_))))))))
 obtain ⟨q51,hq51,hF⟩:=bind_some hF
 refine W_region (mI rfl (mF ((hS30 1 rfl).trans sf1) rfl (L_rem (m:=(xorI .i64 (i64 ((i64 ((i64 ((i64 ((i64 (x18.toNat : Int)) * 131)) + (i64 ((i64 (x24.toNat : Int)) * 1117)))) + (i64 ((i64 ((i64 (r_.p + 1)) - 1)) * 29)))) + (i64 ((i64 (Int.tdiv (i64 ((i64 (r_.p + 1)) - 1)) (r_.b.length : Int))) * 53)))) (i64 (Int.tdiv (i64 ((i64 ((i64 ((i64 ((i64 (x18.toNat : Int)) * 131)) + (i64 ((i64 (x24.toNat : Int)) * 1117)))) + (i64 ((i64 ((i64 (r_.p + 1)) - 1)) * 29)))) + (i64 ((i64 (Int.tdiv (i64 ((i64 (r_.p + 1)) - 1)) (r_.b.length : Int))) * 53)))) 64)))) (n:=n_) rfl rfl rfl (fun he=>by rw [if_pos he] at hq51; cases hq51) (aI rfl (nn (W_ret (retG1 (v1:=I (Int.tmod (xorI .i64 (i64 ((i64 ((i64 ((i64 ((i64 (x18.toNat : Int)) * 131)) + (i64 ((i64 (x24.toNat : Int)) * 1117)))) + (i64 ((i64 ((i64 (r_.p + 1)) - 1)) * 29)))) + (i64 ((i64 (Int.tdiv (i64 ((i64 (r_.p + 1)) - 1)) (r_.b.length : Int))) * 53)))) (i64 (Int.tdiv (i64 ((i64 ((i64 ((i64 ((i64 (x18.toNat : Int)) * 131)) + (i64 ((i64 (x24.toNat : Int)) * 1117)))) + (i64 ((i64 ((i64 (r_.p + 1)) - 1)) * 29)))) + (i64 ((i64 (Int.tdiv (i64 ((i64 (r_.p + 1)) - 1)) (r_.b.length : Int))) * 53)))) 64))) n_)) Tryz.results63 rfl ?_)))))))
 obtain rfl:=so hF
 exact ⟨rfl,(Star.down Z hE30 (cb c0))⟩
theorem s_l17Rd_num_c {r_ : Rd} {list : List Int} {g_0 : Nat} {v0_0 : Value} {v1 : Value} {H : FH} {w : World} (Z : Star H w [box g_0 117 #[v0_0,I r_.p]]) (h0_0 : (rS 5 RP.u8).rel H [v0_0] r_.b) (h1 : (rS 3 RP.int).rel H [v1] list) {r : Int × Int} (hF : s_l17Rd_num r_ list = some r) :
 C Tryz.prog 64 #[Pt g_0,v1] w fun v w'=>v = I r.1∧Star H w' [box g_0 117 #[v0_0,I r.2]]:=by
 unfold s_l17Rd_num at hF
 refine C_enter Tryz.func64 rfl Tryz.ntmps64 rfl (sq (aI rfl (nq ?_)))
 obtain ⟨x6,hx6,hF⟩:=bind_some hF
 obtain ⟨x8,hx8,hF⟩:=bind_some hF
 refine W_region (mV v1 rfl (mV (Pt g_0) rfl (mV v1 rfl (L_len rfl Tryz.underlying22 rfl (slice_len h1) ?_))))
 obtain ⟨H13b,l14,s15,z16,k17⟩:=Z.lend [_]
 refine L_call rfl Tryz.call63 (ops2 rfl rfl) (s_l17Rd_pick_c (r_:=r_) (n_:=(list.length : Int)) s15 (RP.mono _ h0_0 l14) hx6) ?_
 rintro _ w18 ⟨rfl,Z⟩
 have Z:=k17 Z (cb c0)
 refine L_ix (r:=RP.int) rfl Tryz.underlying22 Tryz.sizeOf3 rfl h1 rfl hx8 (fun g19 o20 cs_g19 hrk_hat21 hat21=>?_)
 obtain rfl : _ = [_]:=hrk_hat21
 refine L_ld rfl Tryz.isAgg3 rfl (At.cell (AtH.at hat21 Z.sub) (j:=0) rfl) (aI rfl (nn (W_ret (retG1 (v1:=I x8) Tryz.results64 rfl ?_))))
 obtain rfl:=so hF
 exact ⟨rfl,Z⟩
theorem s_l17Rd_of_c {r_ : Rd} {list : List ByteArray} {g_0 : Nat} {v0_0 : Value} {v1 : Value} {H : FH} {w : World} (Z : Star H w [box g_0 117 #[v0_0,I r_.p]]) (h0_0 : (rS 5 RP.u8).rel H [v0_0] r_.b) (h1 : (rS 9 RP.str).rel H [v1] list) {r : ByteArray × Int} (hF : s_l17Rd_of r_ list = some r) :
 C Tryz.prog 99 #[Pt g_0,v1] w fun v w'=>v = .string r.1∧Star H w' [box g_0 117 #[v0_0,I r.2]]:=by
 unfold s_l17Rd_of at hF
 refine C_enter Tryz.func99 rfl Tryz.ntmps99 rfl (sq (aV (.string (⟨#[]⟩ : ByteArray)) rfl (nq ?_)))
 obtain ⟨x6,hx6,hF⟩:=bind_some hF
 obtain ⟨x8,hx8,hF⟩:=bind_some hF
 refine W_region (mV v1 rfl (mV (Pt g_0) rfl (mV v1 rfl (L_len rfl Tryz.underlying44 rfl (slice_len h1) ?_))))
 obtain ⟨H13b,l14,s15,z16,k17⟩:=Z.lend [_]
 refine L_call rfl Tryz.call63 (ops2 rfl rfl) (s_l17Rd_pick_c (r_:=r_) (n_:=(list.length : Int)) s15 (RP.mono _ h0_0 l14) hx6) ?_
 rintro _ w18 ⟨rfl,Z⟩
 have Z:=k17 Z (cb c0)
 refine L_ix (r:=RP.str) rfl Tryz.underlying44 Tryz.sizeOf9 rfl h1 rfl hx8 (fun g19 o20 cs_g19 hrk_hat21 hat21=>?_)
 obtain rfl : _ = [_]:=hrk_hat21
 refine L_ld rfl Tryz.isAgg9 rfl (At.cell (AtH.at hat21 Z.sub) (j:=0) rfl) (aV (.string x8) rfl (nn (W_ret (retG1 (v1:=.string x8) Tryz.results99 rfl ?_))))
 obtain rfl:=so hF
 exact ⟨rfl,Z⟩
theorem s_l1Bend_c {r_ : Rd} {s : ByteArray} {bits : List ByteArray} {g_0 : Nat} {v0_0 : Value} {v2 : Value} {H : FH} {w : World} (Z : Star H w [box g_0 117 #[v0_0,I r_.p]]) (h0_0 : (rS 5 RP.u8).rel H [v0_0] r_.b) (h2 : (rS 9 RP.str).rel H [v2] bits) {r : ByteArray × Int} (hF : s_l1Bend r_ s bits = some r) :
 C Tryz.prog 55 #[Pt g_0,.string s,v2] w fun v w'=>v = .string r.1∧Star H w' [box g_0 117 #[v0_0,I r.2]]:=by
 unfold s_l1Bend at hF
 refine C_enter Tryz.func55 rfl Tryz.ntmps55 rfl (sq (aV (.string (⟨#[]⟩ : ByteArray)) rfl (nq (W_seq ?_))))
 obtain ⟨b8,hb8,hF⟩:=bind_some hF
 obtain ⟨R9,hR9⟩:=exR fun f w_=>f 0 = Pt g_0∧f 1 = .string s∧f 2 = v2∧f 15 = Bo b8.1∧Star H w_ ([box g_0 117 #[v0_0,I b8.2]])
 refine W_join R9 ?_ ?_
 refine W_region (mV (.string s) rfl (L_slen (s:=s) rfl Tryz.underlying9 rfl (L_eql rfl rfl rfl (mB rfl (L_split (d:=11) (b:=((s.size : Int) == 0)) rfl (fun hc10=>?_) (fun hc10=>?_))))))
 rw [ite_t hc10] at hb8
 refine ps rfl (ps rfl (ps rfl (L_pick (v:=Bo b8.1) rfl rfl (congrArg (fun z : Bool × Int=>Value.bool z.1) (so hb8)) ?_)))
 have Z : Star H w ([box g_0 117 #[v0_0,I b8.2]]):=by rw [← so hb8]; exact Z
 refine nn (rj hR9 ⟨rfl,rfl,rfl,rfl,Z⟩)
 rw [ite_f hc10] at hb8
 obtain ⟨x6,hx6,hb8⟩:=bind_some hb8
 refine mV (Pt g_0) rfl ?_
 obtain ⟨H11b,l12,s13,z14,k15⟩:=Z.lend [_]
 refine L_call rfl Tryz.call63 (ops2 rfl rfl) (s_l17Rd_pick_c (r_:=r_) (n_:=2) s13 (RP.mono _ h0_0 l12) hx6) ?_
 rintro _ w16 ⟨rfl,Z⟩
 have Z:=k15 Z (cb c0)
 refine L_eql rfl rfl rfl (L_pick (v:=Bo b8.1) rfl rfl (congrArg (fun z : Bool × Int=>Value.bool z.1) (so hb8)) ?_)
 have Z : Star H w16 ([box g_0 117 #[v0_0,I b8.2]]):=by rw [← so hb8]; exact Z
 refine nn (rj hR9 ⟨rfl,rfl,rfl,rfl,Z⟩)
 intro f w_ hR
 obtain ⟨sf0,sf1,sf2,sf15,Z⟩:=rk hR9 hR
 refine W_cond (b:=b8.1) sf15 (fun hc17=>?_) (fun hc17=>?_)
 have hF:=(ite_t hc17).symm.trans hF
 refine sq (mF sf1 rfl (aV (.string s) rfl (nn (W_ret (retG1 (v1:=.string s) Tryz.results55 rfl ?_)))))
 obtain rfl:=so hF
 exact ⟨rfl,Z⟩
 have hF:=(ite_f hc17).symm.trans hF
 refine W_skip (W_seq ?_)
 obtain ⟨x23,hx23,hF⟩:=bind_some hF
 refine W_region (mF sf0 rfl (mF sf1 rfl (L_slen (s:=s) rfl Tryz.underlying9 rfl ?_)))
 obtain ⟨H25b,l26,s27,z28,k29⟩:=Z.lend [_]
 refine L_call rfl Tryz.call63 (ops2 rfl rfl) (s_l17Rd_pick_c (r_:=({ b:=r_.b,p:=b8.2 } : Rd)) (n_:=(s.size : Int)) s27 (RP.mono _ h0_0 l26) hx23) ?_
 rintro _ w30 ⟨rfl,Z⟩
 have Z:=k29 Z (cb c0)
 refine aI rfl (nq ?_)
 obtain ⟨x31,hx31,hF⟩:=bind_some hF
 obtain ⟨x37,hx37,hF⟩:=bind_some hF
 obtain ⟨x39,hx39,hF⟩:=bind_some hF
 obtain ⟨x45,hx45,hF⟩:=bind_some hF
 obtain ⟨x47,hx47,hF⟩:=bind_some hF
 obtain ⟨x48,hx48,hF⟩:=bind_some hF
 refine W_drawS 13 [isV (.string s),isV (I x23.1),isV (.string x31),isV (Pt g_0),isV (v2),isV (.string x37.1),isV (.string x39),isV (.string s),isV (I x23.1),isV (Pt g_0),isV (I x45.1),isV (I (i64 (x23.1 + x45.1))),isV (.string x47)] [] [.base (box g_0 117 #[v0_0,I x23.2]) (some 5),.made 5 26 (fun v_=>box g_0 117 #[v0_0,I x37.2]) (some 10),.made 10 31 (fun v_=>box g_0 117 #[v0_0,I x45.2]) none] ([]) [([],[]),([],[]),([],[]),([],[]),([],[]),([0],[1]),([],[]),([],[]),([],[]),([],[]),([1],[2]),([],[]),([],[])] (S:=[(none,[],some 5),(some 5,[26],some 10),(some 10,[31],none)]) Tryz_mix (by kernel_rfl) rfl (by kernel_rfl) (amF_cons (mono_V _) (amF_cons (mono_V _) (amF_cons (mono_V _) (amF_cons (mono_V _) (amF_cons (mono_V _) (amF_cons (mono_V _) (amF_cons (mono_V _) (amF_cons (mono_V _) (amF_cons (mono_V _) (amF_cons (mono_V _) (amF_cons (mono_V _) (amF_cons (mono_V _) (amF_cons (mono_V _) amF_nil))))))))))))) Z ?_ (fun f w_ H49 hS49 hE49 hT49 Z=>?_)
 refine opsS_cons (fun f w_ _ _ s _ _ Z=>mF ((s 1 rfl).trans sf1) rfl (nO rfl rfl Z)) (opsS_cons (fun f w_ _ _ s _ _ Z=>mF ((s 7 rfl).trans rfl) rfl (nO rfl rfl Z)) (opsS_cons (fun f w_ _ _ _ _ p Z=>L_ssl (a:=0) (b:=x23.1) rfl Tryz.underlying9 (p 0 21 rfl rfl) rfl (p 1 22 rfl rfl) hx31 (nO rfl rfl Z)) (opsS_cons (fun f w_ _ _ s _ _ Z=>mF ((s 0 rfl).trans sf0) rfl (nO rfl rfl Z)) (opsS_cons (fun f w_ _ _ s _ _ Z=>mF ((s 2 rfl).trans sf2) rfl (nO rfl rfl Z)) (opsS_cons ?_ ?_)))))
 intro f w_ H49 X49 hS49 hE49 hP49 Z
 have Z : Star H49 w_ (box g_0 117 #[v0_0,I x23.2] :: X49):=Z
 obtain ⟨H62b,l63,s64,z65,k66⟩:=Z.lend [_]
 refine L_call rfl Tryz.call99 (ops2 (hP49 3 24 rfl rfl) (hP49 4 25 rfl rfl)) (s_l17Rd_of_c (r_:=({ b:=r_.b,p:=x23.2 } : Rd)) (list:=bits) s64 (RP.mono _ h0_0 (Le.trans hE49 l63)) (RP.mono _ h2 (Le.trans hE49 l63)) hx37) ?_
 rintro _ w67 ⟨rfl,Z⟩
 have Z:=k66 Z (cb c0)
 exact L_nil ⟨rfl,_,_,rfl,Le.refl _,fun _ _=>rfl,Z⟩
 refine opsS_cons ?_ ?_
 intro f w_ H49 X49 hS49 hE49 hP49 Z
 obtain ⟨hx39_l,hx39_e⟩:=cat_some hx39
 refine L_sadd (s:=x31) (s':=x37.1) rfl (hP49 2 23 rfl rfl) (hP49 5 26 rfl rfl) hx39_l ?_
 rw [← hx39_e]
 exact L_nil ⟨rfl,_,_,rfl,Le.refl _,fun _ _=>rfl,Z⟩
 refine opsS_cons (fun f w_ _ _ s _ _ Z=>mF ((s 1 rfl).trans sf1) rfl (nO rfl rfl Z)) (opsS_cons (fun f w_ _ _ s _ _ Z=>mF ((s 7 rfl).trans rfl) rfl (nO rfl rfl Z)) (opsS_cons (fun f w_ _ _ s _ _ Z=>mF ((s 0 rfl).trans sf0) rfl (nO rfl rfl Z)) (opsS_cons ?_ ?_)))
 intro f w_ H49 X49 hS49 hE49 hP49 Z
 have Z : Star H49 w_ (box g_0 117 #[v0_0,I x37.2] :: X49):=Z
 obtain ⟨H68b,l69,s70,z71,k72⟩:=Z.lend [_]
 refine L_call rfl Tryz.call63 (ops2 (hP49 9 30 rfl rfl) rfl) (s_l17Rd_pick_c (r_:=({ b:=r_.b,p:=x37.2 } : Rd)) (n_:=2) s70 (RP.mono _ h0_0 (Le.trans hE49 l69)) hx45) ?_
 rintro _ w73 ⟨rfl,Z⟩
 have Z:=k72 Z (cb c0)
 exact L_nil ⟨rfl,_,_,rfl,Le.refl _,fun _ _=>rfl,Z⟩
 refine opsS_cons (fun f w_ _ _ _ _ p Z=>L_add rfl (p 8 29 rfl rfl) (p 10 31 rfl rfl) (nO rfl rfl Z)) (opsS_cons (fun f w_ _ _ _ _ p Z=>L_ssl (a:=i64 (x23.1 + x45.1)) (b:=(s.size : Int)) rfl Tryz.underlying9 (p 7 28 rfl rfl) (p 11 32 rfl rfl) rfl hx47 (nO rfl rfl Z)) (opsS_nil))
 have Z : Star H49 w_ ([box g_0 117 #[v0_0,I x45.2]]):=Z
 obtain ⟨hx48_l,hx48_e⟩:=cat_some hx48
 refine L_sadd (s:=x39) (s':=x47) rfl (hT49 6 27 rfl rfl) (hT49 12 33 rfl rfl) hx48_l ?_
 rw [← hx48_e]
 refine aV (.string x48) rfl (nn (W_ret (retG1 (v1:=.string x48) Tryz.results55 rfl ?_)))
 obtain rfl:=so hF
 exact ⟨rfl,(Star.down Z hE49 (cb c0))⟩
theorem s_l4Words_c {H : FH} {w : World} (Z : Star H w []) {r : List ByteArray} (hF : s_l4Words = some r) :
 C Tryz.prog 101 #[] w fun v w'=>∃ (u1 : Value),v = u1∧Star H w' [oF 9 RP.str u1 r]:=by
 unfold s_l4Words at hF
 refine C_enter Tryz.func101 rfl Tryz.ntmps101 rfl (sq (aV S0 rfl (ns (L_bs rfl (parts9 rfl rfl rfl rfl rfl rfl rfl rfl rfl) (bs_44_9_0_0_0_0_0_0_0_0_0 (.string (⟨#[]⟩ : ByteArray)) (.string (⟨#[97,100,100]⟩ : ByteArray)) (.string (⟨#[109,117,108,116,105,112,108,121]⟩ : ByteArray)) (.string (⟨#[100,105,118,105,100,101]⟩ : ByteArray)) (.string (⟨#[115,97,116,117,114,97,116,101]⟩ : ByteArray)) (.string (⟨#[119,101,97,107,101,110]⟩ : ByteArray)) (.string (⟨#[108,105,116,101,114,97,108]⟩ : ByteArray)) (.string (⟨#[114,117,112]⟩ : ByteArray)) (.string (⟨#[100,101,108,101,116,101]⟩ : ByteArray)) rfl rfl rfl rfl rfl rfl rfl rfl rfl) Z (fun g4 w5 Z=>?_)))))
 have Z:=Star.addF (r:=RP.str) (cs:=[.string (⟨#[100,101,108,101,116,101]⟩ : ByteArray)]) (x:=(⟨#[100,101,108,101,116,101]⟩ : ByteArray)) Z rfl
 have Z:=Star.addF (r:=RP.str) (cs:=[.string (⟨#[114,117,112]⟩ : ByteArray)]) (x:=(⟨#[114,117,112]⟩ : ByteArray)) Z rfl
 have Z:=Star.addF (r:=RP.str) (cs:=[.string (⟨#[108,105,116,101,114,97,108]⟩ : ByteArray)]) (x:=(⟨#[108,105,116,101,114,97,108]⟩ : ByteArray)) Z rfl
 have Z:=Star.addF (r:=RP.str) (cs:=[.string (⟨#[119,101,97,107,101,110]⟩ : ByteArray)]) (x:=(⟨#[119,101,97,107,101,110]⟩ : ByteArray)) Z rfl
 have Z:=Star.addF (r:=RP.str) (cs:=[.string (⟨#[115,97,116,117,114,97,116,101]⟩ : ByteArray)]) (x:=(⟨#[115,97,116,117,114,97,116,101]⟩ : ByteArray)) Z rfl
 have Z:=Star.addF (r:=RP.str) (cs:=[.string (⟨#[100,105,118,105,100,101]⟩ : ByteArray)]) (x:=(⟨#[100,105,118,105,100,101]⟩ : ByteArray)) Z rfl
 have Z:=Star.addF (r:=RP.str) (cs:=[.string (⟨#[109,117,108,116,105,112,108,121]⟩ : ByteArray)]) (x:=(⟨#[109,117,108,116,105,112,108,121]⟩ : ByteArray)) Z rfl
 have Z:=Star.addF (r:=RP.str) (cs:=[.string (⟨#[97,100,100]⟩ : ByteArray)]) (x:=(⟨#[97,100,100]⟩ : ByteArray)) Z rfl
 have Z:=Star.addF (r:=RP.str) (cs:=[.string (⟨#[]⟩ : ByteArray)]) (x:=(⟨#[]⟩ : ByteArray)) Z rfl
 have Z:=Star.mkRow (R:=(OR.frz RP.str)) [([.string (⟨#[]⟩ : ByteArray)],(⟨#[]⟩ : ByteArray)),([.string (⟨#[97,100,100]⟩ : ByteArray)],(⟨#[97,100,100]⟩ : ByteArray)),([.string (⟨#[109,117,108,116,105,112,108,121]⟩ : ByteArray)],(⟨#[109,117,108,116,105,112,108,121]⟩ : ByteArray)),([.string (⟨#[100,105,118,105,100,101]⟩ : ByteArray)],(⟨#[100,105,118,105,100,101]⟩ : ByteArray)),([.string (⟨#[115,97,116,117,114,97,116,101]⟩ : ByteArray)],(⟨#[115,97,116,117,114,97,116,101]⟩ : ByteArray)),([.string (⟨#[119,101,97,107,101,110]⟩ : ByteArray)],(⟨#[119,101,97,107,101,110]⟩ : ByteArray)),([.string (⟨#[108,105,116,101,114,97,108]⟩ : ByteArray)],(⟨#[108,105,116,101,114,97,108]⟩ : ByteArray)),([.string (⟨#[114,117,112]⟩ : ByteArray)],(⟨#[114,117,112]⟩ : ByteArray)),([.string (⟨#[100,101,108,101,116,101]⟩ : ByteArray)],(⟨#[100,101,108,101,116,101]⟩ : ByteArray))] [(⟨#[]⟩ : ByteArray),(⟨#[97,100,100]⟩ : ByteArray),(⟨#[109,117,108,116,105,112,108,121]⟩ : ByteArray),(⟨#[100,105,118,105,100,101]⟩ : ByteArray),(⟨#[115,97,116,117,114,97,116,101]⟩ : ByteArray),(⟨#[119,101,97,107,101,110]⟩ : ByteArray),(⟨#[108,105,116,101,114,97,108]⟩ : ByteArray),(⟨#[114,117,112]⟩ : ByteArray),(⟨#[100,101,108,101,116,101]⟩ : ByteArray)] 9 Z rfl rfl rfl (by decide)
 refine aV (Sl g4 9 9) rfl (nn (W_ret (retG1 (v1:=(Sl g4 9 9)) Tryz.results101 rfl ?_)))
 obtain rfl:=so hF
 exact ⟨(Sl g4 9 9),rfl,Z⟩
theorem s_l4Parts_c {s : Step} {v0_3 : Value} {H : FH} {w : World} (Z : Star H w []) (h0_3 : (rS 126 rTerm).rel H [v0_3] s.given.terms) {r : Bool} (hF : s_l4Parts s = some r) :
 C Tryz.prog 122 #[.agg #[I s.kind,I s.a,I s.b,v0_3,I s.given.bound]] w fun v w'=>v = Bo r∧Star H w' []:=by
 unfold s_l4Parts at hF
 refine C_enter Tryz.func122 rfl Tryz.ntmps122 rfl (sq (L_box (v:=.agg #[I s.kind,I s.a,I s.b,v0_3,I s.given.bound]) (cs:=#[I s.kind,I s.a,I s.b,v0_3,I s.given.bound]) rfl rfl rfl Z (fun g3 w4 Z=>aB rfl (nq ?_))))
 obtain ⟨R5,hR5⟩:=exR fun f w_=>f 1 = Pt g3∧f 3 = Bo (((s.given.terms.length : Int) == 0) && (s.given.bound == 0))∧Star H w_ ([box g3 76 #[I s.kind,I s.a,I s.b,v0_3,I s.given.bound]])
 refine W_join R5 ?_ ?_
 refine W_region (fA 3 fa_76_3 rfl rfl (fA 3 fa_74_0 rfl rfl (ldB 0 Z Tryz.isAgg72 rfl rfl rfl (L_len rfl Tryz.underlying72 rfl (slice_len h0_3) (L_eql rfl rfl rfl (mB rfl (L_split (d:=9) (b:=((s.given.terms.length : Int) == 0)) rfl (fun hc6=>?_) (fun hc6=>?_))))))))
 refine fA 3 fa_76_3 rfl rfl (fA 4 fa_74_1 rfl rfl (ldB 0 Z Tryz.isAgg3 rfl rfl rfl (L_eql rfl rfl rfl (L_pick (v:=Bo (((s.given.terms.length : Int) == 0) && (s.given.bound == 0))) rfl rfl (and_t hc6 rfl) (aB rfl (nn (rj hR5 ⟨rfl,rfl,Z⟩)))))))
 refine ps rfl (ps rfl (ps rfl (ps rfl (L_pick (v:=Bo (((s.given.terms.length : Int) == 0) && (s.given.bound == 0))) rfl rfl (and_f hc6) (aB rfl (nn (rj hR5 ⟨rfl,rfl,Z⟩)))))))
 intro f w_ hR
 obtain ⟨sf1,sf3,Z⟩:=rk hR5 hR
 refine W_seq (sq (fA 0 fa_76_0 sf1 rfl (ldB 0 Z Tryz.isAgg3 rfl rfl rfl (nn (W_block (W_seq (sq (L_eql rfl rfl rfl (aB rfl (nn ?_))))))))))
 obtain ⟨t17_7,hA8,hF⟩:=bind_some hF
 obtain ⟨R8,hR8⟩:=exR fun f w_=>f 1 = Pt g3∧f 3 = Bo (((s.given.terms.length : Int) == 0) && (s.given.bound == 0))∧f 16 = I s.kind∧f 17 = Bo t17_7∧Star H w_ ([box g3 76 #[I s.kind,I s.a,I s.b,v0_3,I s.given.bound]])
 refine W_join R8 ?_ ?_
 refine W_cond (b:=(s.kind == 1)) rfl (fun hc9=>?_) (fun hc9=>?_)
 have hA8:=(ite_t hc9).symm.trans hA8
 refine W_skip ?_
 obtain rfl:=so hA8
 exact rj hR8 ⟨sf1,sf3,rfl,rfl,Z⟩
 have hA8:=(ite_f hc9).symm.trans hA8
 refine sq (L_eql rfl rfl rfl (aB rfl (nn ?_)))
 obtain ⟨t17_10,hA11,hA8⟩:=bind_some hA8
 obtain ⟨R11,hR11⟩:=exR fun f w_=>f 1 = Pt g3∧f 3 = Bo (((s.given.terms.length : Int) == 0) && (s.given.bound == 0))∧f 16 = I s.kind∧f 17 = Bo t17_10∧Star H w_ ([box g3 76 #[I s.kind,I s.a,I s.b,v0_3,I s.given.bound]])
 refine W_join R11 ?_ ?_
 refine W_cond (b:=(s.kind == 2)) rfl (fun hc12=>?_) (fun hc12=>?_)
 have hA11:=(ite_t hc12).symm.trans hA11
 refine W_skip ?_
 obtain rfl:=so hA11
 exact rj hR11 ⟨sf1,sf3,rfl,rfl,Z⟩
 have hA11:=(ite_f hc12).symm.trans hA11
 refine sq (L_eql rfl rfl rfl (aB rfl (nn ?_)))
 obtain ⟨t17_13,hA14,hA11⟩:=bind_some hA11
 obtain ⟨R14,hR14⟩:=exR fun f w_=>f 1 = Pt g3∧f 3 = Bo (((s.given.terms.length : Int) == 0) && (s.given.bound == 0))∧f 16 = I s.kind∧f 17 = Bo t17_13∧Star H w_ ([box g3 76 #[I s.kind,I s.a,I s.b,v0_3,I s.given.bound]])
 refine W_join R14 ?_ ?_
 refine W_cond (b:=(s.kind == 3)) rfl (fun hc15=>?_) (fun hc15=>?_)
 have hA14:=(ite_t hc15).symm.trans hA14
 refine W_skip ?_
 obtain rfl:=so hA14
 exact rj hR14 ⟨sf1,sf3,rfl,rfl,Z⟩
 have hA14:=(ite_f hc15).symm.trans hA14
 refine W_region (L_eql rfl rfl rfl (aB rfl (nn ?_)))
 obtain rfl:=so hA14
 exact rj hR14 ⟨sf1,sf3,rfl,rfl,Z⟩
 intro f w_ hR
 obtain ⟨sf1,sf3,sf16,sf17,Z⟩:=rk hR14 hR
 obtain rfl:=so hA11
 exact rj hR11 ⟨sf1,sf3,sf16,sf17,Z⟩
 intro f w_ hR
 obtain ⟨sf1,sf3,sf16,sf17,Z⟩:=rk hR11 hR
 obtain rfl:=so hA8
 exact rj hR8 ⟨sf1,sf3,sf16,sf17,Z⟩
 intro f w_ hR
 obtain ⟨sf1,sf3,sf16,sf17,Z⟩:=rk hR8 hR
 refine W_cond (b:=t17_7) sf17 (fun hc16=>?_) (fun hc16=>?_)
 have hF:=(ite_t hc16).symm.trans hF
 refine sq (mF sf3 rfl (aB rfl (nn (W_ret (retG1 (v1:=Bo (((s.given.terms.length : Int) == 0) && (s.given.bound == 0))) Tryz.results122 rfl ?_)))))
 obtain rfl:=so hF
 exact ⟨rfl,(Star.keepN 0 Z)⟩
 have hF:=(ite_f hc16).symm.trans hF
 refine W_seq (sq (L_eql rfl sf16 rfl (aB rfl (nn ?_))))
 obtain ⟨t23_17,hA18,hF⟩:=bind_some hF
 obtain ⟨R18,hR18⟩:=exR fun f w_=>f 1 = Pt g3∧f 3 = Bo (((s.given.terms.length : Int) == 0) && (s.given.bound == 0))∧f 16 = I s.kind∧f 23 = Bo t23_17∧Star H w_ ([box g3 76 #[I s.kind,I s.a,I s.b,v0_3,I s.given.bound]])
 refine W_join R18 ?_ ?_
 refine W_cond (b:=(s.kind == 4)) rfl (fun hc19=>?_) (fun hc19=>?_)
 have hA18:=(ite_t hc19).symm.trans hA18
 refine W_skip ?_
 obtain rfl:=so hA18
 exact rj hR18 ⟨sf1,sf3,sf16,rfl,Z⟩
 have hA18:=(ite_f hc19).symm.trans hA18
 refine sq (L_eql rfl sf16 rfl (aB rfl (nn ?_)))
 obtain ⟨t23_20,hA21,hA18⟩:=bind_some hA18
 obtain ⟨R21,hR21⟩:=exR fun f w_=>f 1 = Pt g3∧f 3 = Bo (((s.given.terms.length : Int) == 0) && (s.given.bound == 0))∧f 16 = I s.kind∧f 23 = Bo t23_20∧Star H w_ ([box g3 76 #[I s.kind,I s.a,I s.b,v0_3,I s.given.bound]])
 refine W_join R21 ?_ ?_
 refine W_cond (b:=(s.kind == 6)) rfl (fun hc22=>?_) (fun hc22=>?_)
 have hA21:=(ite_t hc22).symm.trans hA21
 refine W_skip ?_
 obtain rfl:=so hA21
 exact rj hR21 ⟨sf1,sf3,sf16,rfl,Z⟩
 have hA21:=(ite_f hc22).symm.trans hA21
 refine W_region (L_eql rfl sf16 rfl (aB rfl (nn ?_)))
 obtain rfl:=so hA21
 exact rj hR21 ⟨sf1,sf3,sf16,rfl,Z⟩
 intro f w_ hR
 obtain ⟨sf1,sf3,sf16,sf23,Z⟩:=rk hR21 hR
 obtain rfl:=so hA18
 exact rj hR18 ⟨sf1,sf3,sf16,sf23,Z⟩
 intro f w_ hR
 obtain ⟨sf1,sf3,sf16,sf23,Z⟩:=rk hR18 hR
 refine W_cond (b:=t23_17) sf23 (fun hc23=>?_) (fun hc23=>?_)
 have hF:=(ite_t hc23).symm.trans hF
 refine W_seq ?_
 obtain ⟨R24,hR24⟩:=exR fun f w_=>f 2 = Bo ((((s.given.terms.length : Int) == 0) && (s.given.bound == 0)) && (s.b == 0))∧Star H w_ ([])
 refine W_join R24 ?_ ?_
 refine W_region (mF sf3 rfl (mB rfl (L_split (d:=28) (b:=(((s.given.terms.length : Int) == 0) && (s.given.bound == 0))) rfl (fun hc25=>?_) (fun hc25=>?_))))
 refine fA 2 fa_76_2 sf1 rfl (ldB 0 Z Tryz.isAgg3 rfl rfl rfl (L_eql rfl rfl rfl (L_pick (v:=Bo ((((s.given.terms.length : Int) == 0) && (s.given.bound == 0)) && (s.b == 0))) rfl rfl (and_t hc25 rfl) (aB rfl (nn (rj hR24 ⟨rfl,(Star.keepN 0 Z)⟩))))))
 refine ps rfl (ps rfl (ps rfl (L_pick (v:=Bo ((((s.given.terms.length : Int) == 0) && (s.given.bound == 0)) && (s.b == 0))) rfl rfl (and_f hc25) (aB rfl (nn (rj hR24 ⟨rfl,(Star.keepN 0 Z)⟩))))))
 intro f w_ hR
 obtain ⟨sf2,Z⟩:=rk hR24 hR
 refine W_ret (retG1 (v1:=Bo ((((s.given.terms.length : Int) == 0) && (s.given.bound == 0)) && (s.b == 0))) Tryz.results122 sf2 ?_)
 obtain rfl:=so hF
 exact ⟨rfl,Z⟩
 have hF:=(ite_f hc23).symm.trans hF
 refine sq (L_eql rfl sf16 rfl (aB rfl (nn (W_cond (b:=(s.kind == 7)) rfl (fun hc26=>?_) (fun hc26=>?_)))))
 have hF:=(ite_t hc26).symm.trans hF
 refine W_seq ?_
 obtain ⟨R27,hR27⟩:=exR fun f w_=>f 2 = Bo ((s.a == 0) && (s.b == 0))∧Star H w_ ([])
 refine W_join R27 ?_ ?_
 refine W_region (fA 1 fa_76_1 sf1 rfl (ldB 0 Z Tryz.isAgg3 rfl rfl rfl (L_eql rfl rfl rfl (mB rfl (L_split (d:=38) (b:=(s.a == 0)) rfl (fun hc28=>?_) (fun hc28=>?_))))))
 refine fA 2 fa_76_2 sf1 rfl (ldB 0 Z Tryz.isAgg3 rfl rfl rfl (L_eql rfl rfl rfl (L_pick (v:=Bo ((s.a == 0) && (s.b == 0))) rfl rfl (and_t hc28 rfl) (aB rfl (nn (rj hR27 ⟨rfl,(Star.keepN 0 Z)⟩))))))
 refine ps rfl (ps rfl (ps rfl (L_pick (v:=Bo ((s.a == 0) && (s.b == 0))) rfl rfl (and_f hc28) (aB rfl (nn (rj hR27 ⟨rfl,(Star.keepN 0 Z)⟩))))))
 intro f w_ hR
 obtain ⟨sf2,Z⟩:=rk hR27 hR
 refine W_ret (retG1 (v1:=Bo ((s.a == 0) && (s.b == 0))) Tryz.results122 sf2 ?_)
 obtain rfl:=so hF
 exact ⟨rfl,Z⟩
 have hF:=(ite_f hc26).symm.trans hF
 refine W_skip (sq (aB rfl (nn (W_ret (retG1 (v1:=Bo false) Tryz.results122 rfl ?_)))))
 obtain rfl:=so hF
 exact ⟨rfl,(Star.keepN 0 Z)⟩
theorem s_l1Lit_c {n_ : Int} {H : FH} {w : World} (Z : Star H w []) {r : Bool} (hF : s_l1Lit n_ = some r) :
 C Tryz.prog 125 #[I n_] w fun v w'=>v = Bo r∧Star H w' []:=by
 unfold s_l1Lit at hF
 refine C_enter Tryz.func125 rfl Tryz.ntmps125 rfl (sq (aB rfl (nq ?_)))
 obtain ⟨R1,hR1⟩:=exR fun f w_=>f 2 = Bo (((n_ != 0) && (decide (n_ ≥ (-12)))) && (decide (n_≤12)))∧Star H w_ ([])
 refine W_join R1 ?_ ?_
 refine W_region (mI rfl (L_neq rfl rfl rfl (mB rfl (L_split (d:=5) (b:=(n_ != 0)) rfl (fun hc2=>?_) (fun hc2=>?_)))))
 refine mI rfl (L_geq rfl rfl rfl (L_pick (v:=Bo ((n_ != 0) && (decide (n_ ≥ (-12))))) rfl rfl (and_t hc2 rfl) (mB rfl (L_split (d:=9) (b:=((n_ != 0) && (decide (n_ ≥ (-12))))) rfl (fun hc3=>?_) (fun hc3=>?_)))))
 refine mI rfl (L_leq rfl rfl rfl (L_pick (v:=Bo (((n_ != 0) && (decide (n_ ≥ (-12)))) && (decide (n_≤12)))) rfl rfl (and_t hc3 rfl) (aB rfl (nn (rj hR1 ⟨rfl,Z⟩)))))
 refine ps rfl (ps rfl (L_pick (v:=Bo (((n_ != 0) && (decide (n_ ≥ (-12)))) && (decide (n_≤12)))) rfl rfl (and_f hc3) (aB rfl (nn (rj hR1 ⟨rfl,Z⟩)))))
 refine ps rfl (ps rfl (L_pick (v:=Bo ((n_ != 0) && (decide (n_ ≥ (-12))))) rfl rfl (and_f hc2) (mB rfl (L_split (d:=9) (b:=((n_ != 0) && (decide (n_ ≥ (-12))))) rfl (fun hc4=>?_) (fun hc4=>?_)))))
 exact boolNo hc4 (andF hc2)
 refine ps rfl (ps rfl (L_pick (v:=Bo (((n_ != 0) && (decide (n_ ≥ (-12)))) && (decide (n_≤12)))) rfl rfl (and_f hc4) (aB rfl (nn (rj hR1 ⟨rfl,Z⟩)))))
 intro f w_ hR
 obtain ⟨sf2,Z⟩:=rk hR1 hR
 refine W_ret (retG1 (v1:=Bo (((n_ != 0) && (decide (n_ ≥ (-12)))) && (decide (n_≤12)))) Tryz.results125 sf2 ?_)
 obtain rfl:=so hF
 exact ⟨rfl,Z⟩
theorem s_l1Abs_c {n_ : Int} {H : FH} {w : World} (Z : Star H w []) {r : Int} (hF : s_l1Abs n_ = some r) :
 C Tryz.prog 148 #[I n_] w fun v w'=>v = I r∧Star H w' []:=by
 unfold s_l1Abs at hF
 refine C_enter Tryz.func148 rfl Tryz.ntmps148 rfl (sq (aI rfl (nq (sq (mI rfl (L_lss rfl rfl rfl (nn (W_cond (b:=decide (n_ < 0)) rfl (fun hc1=>?_) (fun hc1=>?_)))))))))
 have hF:=(ite_t hc1).symm.trans hF
 refine sq (mI rfl (L_neg rfl rfl (aI rfl (nn (W_ret (retG1 (v1:=I (i64 (-n_))) Tryz.results148 rfl ?_))))))
 obtain rfl:=so hF
 exact ⟨rfl,Z⟩
 have hF:=(ite_f hc1).symm.trans hF
 refine W_skip (sq (mI rfl (aI rfl (nn (W_ret (retG1 (v1:=I n_) Tryz.results148 rfl ?_))))))
 obtain rfl:=so hF
 exact ⟨rfl,Z⟩
theorem s_ConstraintValid_c {c : Con} {v0_0 : Value} {H : FH} {w : World} (Z : Star H w []) (h0_0 : (rS 126 rTerm).rel H [v0_0] c.terms) {r : Bool} (hF : s_ConstraintValid c = some r) :
 C Tryz.prog 123 #[.agg #[v0_0,I c.bound]] w fun v w'=>v = Bo r∧Star H w' []:=by
 unfold s_ConstraintValid at hF
 refine C_enter Tryz.func123 rfl Tryz.ntmps123 rfl (sq (L_box (v:=.agg #[v0_0,I c.bound]) (cs:=#[v0_0,I c.bound]) rfl rfl rfl Z (fun g3 w4 Z=>aB rfl (nq (sq (aI rfl (nn ?_)))))))
 have hlen8 : List.length c.terms≤9223372036854775807:=len_le (slice_len h0_0)
 obtain ⟨j8,hL8,hF⟩:=bind_some hF
 obtain ⟨R8,hR8⟩:=exR fun f w_=>∃ H6 : FH,j8 = .nx ()∧Le H H6∧f 1 = Pt g3∧Star H6 w_ ([box g3 74 #[v0_0,I c.bound]])
 refine W_join R8 ?_ ?_
 refine W_block ?_
 obtain ⟨I8,hI8⟩:=exI fun n f w_=>∃ i_5 : Nat,∃ suf8 : List Term,∃ H6 : FH,n = suf8.length∧List.drop i_5 c.terms = suf8∧i_5 + suf8.length = c.terms.length∧rangeL (s_ConstraintValid_b1 c) suf8 i_5 () = some j8∧Le H H6∧f 1 = Pt g3∧f 3 = I i_5∧Star H6 w_ ([box g3 74 #[v0_0,I c.bound]])
 refine W_loop I8 (n:=c.terms.length) ?_ ?_
 exact ij hI8 ⟨0,c.terms,H,rfl,rfl,Nat.zero_add _,hL8,(Le.refl _),rfl,rfl,Z⟩
 intro n8 f w_ hI
 obtain ⟨i_5,suf8,H6,rfl,hd8,hl8,hL8,l7,sf1,sf3,Z⟩:=ik hI8 hI
 refine W_seq (sq (mF sf3 rfl (fA 0 fa_74_0 sf1 rfl (ldB 0 Z Tryz.isAgg72 rfl rfl rfl (L_len rfl Tryz.underlying72 rfl (slice_len (RP.mono _ h0_0 l7)) (L_lss rfl rfl rfl (nn (W_cond (b:=decide ((i_5 : Int) < (c.terms.length : Int))) rfl (fun hc9=>?_) (fun hc9=>?_)))))))))
 have hlt8:=of_decide_eq_true hc9
 rcases suf8 with _ | ⟨x_8,rest8⟩
 exact absurd hlt8 (by simp at hl8; omega)
 obtain ⟨o8,hB8,hL8⟩:=range_cons hL8
 rw [s_ConstraintValid_b1] at hB8
 have hix8:=drop_idx hd8
 refine W_skip (W_seq (W_block (sq (fA 0 fa_74_0 sf1 rfl (ldB 0 Z Tryz.isAgg72 rfl rfl rfl (mF sf3 rfl (L_ix (r:=rTerm) rfl Tryz.underlying72 Tryz.sizeOf126 rfl (RP.mono _ h0_0 l7) rfl hix8 (fun g17 o18 cs_g17 hrk_hat19 hat19=>?_))))))))
 obtain rfl:=rTerm_iff.1 hrk_hat19
 refine L_lda (cs:=[I x_8.coef,I x_8.lit]) rfl Tryz.isAgg126 Tryz.sizeOf126 rfl (At.sub (AtH.at hat19 Z.sub) 0 2) rfl (L_al (cs:=#[I 0,I 0]) rfl Tryz.zeroValue126 rfl Z (fun g21 w22 Z=>L_staB (vs:=#[I x_8.coef,I x_8.lit]) (cs2:=#[I x_8.coef,I x_8.lit]) 0 rfl Tryz.sizeOf126 rfl rfl rfl (ones_cons rfl (ones_cons rfl ones_nil)) Z rfl (by show 0 + 2≤2; decide) rfl (fun w23 Z=>nq ?_)))
 obtain ⟨x29,hx29,hB8⟩:=bind_some hB8
 obtain ⟨b51,hb51,hB8⟩:=bind_some hB8
 obtain ⟨R55,hR55⟩:=exR fun f w_=>∃ H53 : FH,Le H6 H53∧f 1 = Pt g3∧f 3 = I i_5∧f 48 = Bo b51∧Star H53 w_ ([box g3 74 #[v0_0,I c.bound]])
 refine W_join R55 ?_ ?_
 rcases Bool.eq_false_or_eq_true (!x29) with hc56 | hc56
 have hc57 : ((!x29) || (decide (x_8.coef < 1))) = true:=orT hc56
 have hc58 : (((!x29) || (decide (x_8.coef < 1))) || (decide (x_8.coef > 1000))) = true:=orT hc57
 rw [ite_t hc58] at hb51
 refine W_drawS 28 [isV (Pq g21 1),isV (I x_8.lit),isV (Bo x29),isV (Bo (!x29)),isV (Bo (!x29)),isV (undef),isV (undef),isV (undef),isV (Bo ((!x29) || (decide (x_8.coef < 1)))),isV (Bo ((!x29) || (decide (x_8.coef < 1)))),isV (undef),isV (undef),isV (undef),isV (Bo (((!x29) || (decide (x_8.coef < 1))) || (decide (x_8.coef > 1000)))),isV (Bo (((!x29) || (decide (x_8.coef < 1))) || (decide (x_8.coef > 1000)))),isV (undef),isV (undef),isV (undef),isV (undef),isV (undef),isV (undef),isV (undef),isV (undef),isV (undef),isV (undef),isV (undef),isV (undef),isV (undef)] [box g21 126 #[I x_8.coef,I x_8.lit],box g3 74 #[v0_0,I c.bound]] [] ([]) [([],[]),([],[]),([],[]),([],[]),([],[]),([],[]),([],[]),([],[]),([],[]),([],[]),([],[]),([],[]),([],[]),([],[]),([],[]),([],[]),([],[]),([],[]),([],[]),([],[]),([],[]),([],[]),([],[]),([],[]),([],[]),([],[]),([],[]),([],[])] (S:=[]) Tryz_mix (by kernel_rfl) rfl (by kernel_rfl) (amF_cons (mono_V _) (amF_cons (mono_V _) (amF_cons (mono_V _) (amF_cons (mono_V _) (amF_cons (mono_V _) (amF_cons (mono_V _) (amF_cons (mono_V _) (amF_cons (mono_V _) (amF_cons (mono_V _) (amF_cons (mono_V _) (amF_cons (mono_V _) (amF_cons (mono_V _) (amF_cons (mono_V _) (amF_cons (mono_V _) (amF_cons (mono_V _) (amF_cons (mono_V _) (amF_cons (mono_V _) (amF_cons (mono_V _) (amF_cons (mono_V _) (amF_cons (mono_V _) (amF_cons (mono_V _) (amF_cons (mono_V _) (amF_cons (mono_V _) (amF_cons (mono_V _) (amF_cons (mono_V _) (amF_cons (mono_V _) (amF_cons (mono_V _) (amF_cons (mono_V _) amF_nil)))))))))))))))))))))))))))) Z ?_ (fun f w_ H52 hS52 hE52 hT52 Z=>?_)
 refine opsS_cons (fun f w_ _ _ s _ _ Z=>fA 1 fa_126_1 ((s 4 rfl).trans rfl) rfl (nO rfl rfl Z)) (opsS_cons (fun f w_ _ _ _ _ p Z=>ldB 0 Z Tryz.isAgg3 (p 0 17 rfl rfl) rfl rfl (nO rfl rfl Z)) (opsS_cons ?_ ?_))
 intro f w_ H52 X52 hS52 hE52 hP52 Z
 obtain ⟨H65b,l66,s67,z68,k69⟩:=Z.borrow
 refine L_call rfl Tryz.call125 (ops1 (hP52 1 18 rfl rfl)) (s_l1Lit_c (n_:=x_8.lit) s67 hx29) ?_
 rintro _ w70 ⟨rfl,Z⟩
 have Z:=k69 Z c0
 exact L_nil ⟨rfl,_,_,rfl,Le.refl _,fun _ _=>rfl,Z⟩
 refine opsS_cons (fun f w_ _ _ _ _ p Z=>L_not_ rfl (p 2 19 rfl rfl) (nO rfl rfl Z)) (opsS_cons (fun f w_ _ _ _ _ p Z=>mF (p 3 20 rfl rfl) rfl (nO rfl rfl Z)) (oP (fun _ _ p=>gN (p 4 21 rfl rfl) hc56 rfl) (fun _=>rfl) (oP (fun _ _ p=>gN (p 4 21 rfl rfl) hc56 rfl) (fun _=>rfl) (oP (fun _ _ p=>gN (p 4 21 rfl rfl) hc56 rfl) (fun _=>rfl) (opsS_cons (fun f w_ _ _ _ _ p Z=>pkT (v:=Bo ((!x29) || (decide (x_8.coef < 1)))) (p 4 21 rfl rfl) hc56 rfl (or_t hc56) (nO rfl rfl Z)) (opsS_cons (fun f w_ _ _ _ _ p Z=>mF (p 8 25 rfl rfl) rfl (nO rfl rfl Z)) (oP (fun _ _ p=>gN (p 9 26 rfl rfl) hc57 rfl) (fun _=>rfl) (oP (fun _ _ p=>gN (p 9 26 rfl rfl) hc57 rfl) (fun _=>rfl) (oP (fun _ _ p=>gN (p 9 26 rfl rfl) hc57 rfl) (fun _=>rfl) (opsS_cons (fun f w_ _ _ _ _ p Z=>pkT (v:=Bo (((!x29) || (decide (x_8.coef < 1))) || (decide (x_8.coef > 1000)))) (p 9 26 rfl rfl) hc57 rfl (or_t hc57) (nO rfl rfl Z)) (opsS_cons (fun f w_ _ _ _ _ p Z=>mF (p 13 30 rfl rfl) rfl (nO rfl rfl Z)) (oP (fun _ _ p=>gN (p 14 31 rfl rfl) hc58 rfl) (fun _=>rfl) (oP (fun _ _ p=>gN (p 14 31 rfl rfl) hc58 rfl) (fun _=>rfl) (oP (fun _ _ p=>gN (p 14 31 rfl rfl) hc58 rfl) (fun _=>rfl) (oP (fun _ _ p=>g_undef rfl (p 17 34 rfl rfl) rfl) (fun _=>rfl) (oP (fun _ _ p=>g_undef rfl (p 17 34 rfl rfl) rfl) (fun _=>rfl) (oP (fun _ _ p=>g_undef rfl (p 17 34 rfl rfl) rfl) (fun _=>rfl) (oP (fun _ _ p=>g_undef rfl (p 17 34 rfl rfl) rfl) (fun _=>rfl) (oP (fun _ _ p=>g_undef rfl (p 17 34 rfl rfl) rfl) (fun _=>rfl) (oP (fun _ _ p=>g_undef rfl (p 17 34 rfl rfl) rfl) (fun _=>rfl) (oP (fun _ _ p=>g_undef rfl (p 17 34 rfl rfl) rfl) (fun _=>rfl) (oP (fun _ _ p=>g_undef rfl (p 17 34 rfl rfl) rfl) (fun _=>rfl) (oP (fun _ _ p=>g_undef rfl (p 17 34 rfl rfl) rfl) (fun _=>rfl) (oP (fun _ _ p=>g_undef rfl (p 17 34 rfl rfl) rfl) (fun _=>rfl) (opsS_nil)))))))))))))))))))))))))
 refine ps (g_undef rfl (hT52 17 34 rfl rfl) rfl) (ps (g_undef rfl (hT52 17 34 rfl rfl) rfl) (ps (g_no rfl (Eq.trans (hT52 14 31 rfl rfl) (congrArg Value.bool hc58)) rfl rfl) (L_pick (v:=Bo b51) rfl (Eq.trans (hT52 14 31 rfl rfl) (congrArg Value.bool hc58)) (congrArg Value.bool (so hb51)) (nn ?_))))
 have Z:=Z.get 1 rfl
 exact rj hR55 ⟨H52,hE52,((hS52 1 rfl).trans sf1),((hS52 3 rfl).trans sf3),rfl,(Star.keepN 1 Z)⟩
 rcases Bool.eq_false_or_eq_true ((!x29) || (decide (x_8.coef < 1))) with hc71 | hc71
 have hc72 : (((!x29) || (decide (x_8.coef < 1))) || (decide (x_8.coef > 1000))) = true:=orT hc71
 rw [ite_t hc72] at hb51
 refine W_drawS 28 [isV (Pq g21 1),isV (I x_8.lit),isV (Bo x29),isV (Bo (!x29)),isV (Bo (!x29)),isV (Pt g21),isV (I x_8.coef),isV (Bo (decide (x_8.coef < 1))),isV (Bo ((!x29) || (decide (x_8.coef < 1)))),isV (Bo ((!x29) || (decide (x_8.coef < 1)))),isV (undef),isV (undef),isV (undef),isV (Bo (((!x29) || (decide (x_8.coef < 1))) || (decide (x_8.coef > 1000)))),isV (Bo (((!x29) || (decide (x_8.coef < 1))) || (decide (x_8.coef > 1000)))),isV (undef),isV (undef),isV (undef),isV (undef),isV (undef),isV (undef),isV (undef),isV (undef),isV (undef),isV (undef),isV (undef),isV (undef),isV (undef)] [box g21 126 #[I x_8.coef,I x_8.lit],box g3 74 #[v0_0,I c.bound]] [] ([]) [([],[]),([],[]),([],[]),([],[]),([],[]),([],[]),([],[]),([],[]),([],[]),([],[]),([],[]),([],[]),([],[]),([],[]),([],[]),([],[]),([],[]),([],[]),([],[]),([],[]),([],[]),([],[]),([],[]),([],[]),([],[]),([],[]),([],[]),([],[])] (S:=[]) Tryz_mix (by kernel_rfl) rfl (by kernel_rfl) (amF_cons (mono_V _) (amF_cons (mono_V _) (amF_cons (mono_V _) (amF_cons (mono_V _) (amF_cons (mono_V _) (amF_cons (mono_V _) (amF_cons (mono_V _) (amF_cons (mono_V _) (amF_cons (mono_V _) (amF_cons (mono_V _) (amF_cons (mono_V _) (amF_cons (mono_V _) (amF_cons (mono_V _) (amF_cons (mono_V _) (amF_cons (mono_V _) (amF_cons (mono_V _) (amF_cons (mono_V _) (amF_cons (mono_V _) (amF_cons (mono_V _) (amF_cons (mono_V _) (amF_cons (mono_V _) (amF_cons (mono_V _) (amF_cons (mono_V _) (amF_cons (mono_V _) (amF_cons (mono_V _) (amF_cons (mono_V _) (amF_cons (mono_V _) (amF_cons (mono_V _) amF_nil)))))))))))))))))))))))))))) Z ?_ (fun f w_ H52 hS52 hE52 hT52 Z=>?_)
 refine opsS_cons (fun f w_ _ _ s _ _ Z=>fA 1 fa_126_1 ((s 4 rfl).trans rfl) rfl (nO rfl rfl Z)) (opsS_cons (fun f w_ _ _ _ _ p Z=>ldB 0 Z Tryz.isAgg3 (p 0 17 rfl rfl) rfl rfl (nO rfl rfl Z)) (opsS_cons ?_ ?_))
 intro f w_ H52 X52 hS52 hE52 hP52 Z
 obtain ⟨H79b,l80,s81,z82,k83⟩:=Z.borrow
 refine L_call rfl Tryz.call125 (ops1 (hP52 1 18 rfl rfl)) (s_l1Lit_c (n_:=x_8.lit) s81 hx29) ?_
 rintro _ w84 ⟨rfl,Z⟩
 have Z:=k83 Z c0
 exact L_nil ⟨rfl,_,_,rfl,Le.refl _,fun _ _=>rfl,Z⟩
 refine opsS_cons (fun f w_ _ _ _ _ p Z=>L_not_ rfl (p 2 19 rfl rfl) (nO rfl rfl Z)) (opsS_cons (fun f w_ _ _ _ _ p Z=>mF (p 3 20 rfl rfl) rfl (nO rfl rfl Z)) (opsS_cons (fun f w_ _ _ s _ p Z=>L_fa (o':=0) (g_yes rfl (Eq.trans (p 4 21 rfl rfl) (congrArg Value.bool hc56)) rfl) fa_126_0 ((s 4 rfl).trans rfl) rfl (nO rfl rfl Z)) (opsS_cons (fun f w_ _ _ _ _ p Z=>L_ld (v:=I x_8.coef) (g_yes rfl (Eq.trans (p 4 21 rfl rfl) (congrArg Value.bool hc56)) rfl) Tryz.isAgg3 (p 5 22 rfl rfl) (At.cell0 (Blk.at (Star.blkAt 0 Z rfl)) (j:=0) rfl) (nO rfl rfl Z)) (opsS_cons (fun f w_ _ _ _ _ p Z=>L_lss (g_yes rfl (Eq.trans (p 4 21 rfl rfl) (congrArg Value.bool hc56)) rfl) (p 6 23 rfl rfl) rfl (nO rfl rfl Z)) (opsS_cons (fun f w_ _ _ _ _ p Z=>pkT (v:=Bo ((!x29) || (decide (x_8.coef < 1)))) (p 4 21 rfl rfl) hc56 rfl (or_f hc56 (p 7 24 rfl rfl)) (nO rfl rfl Z)) (opsS_cons (fun f w_ _ _ _ _ p Z=>mF (p 8 25 rfl rfl) rfl (nO rfl rfl Z)) (oP (fun _ _ p=>gN (p 9 26 rfl rfl) hc71 rfl) (fun _=>rfl) (oP (fun _ _ p=>gN (p 9 26 rfl rfl) hc71 rfl) (fun _=>rfl) (oP (fun _ _ p=>gN (p 9 26 rfl rfl) hc71 rfl) (fun _=>rfl) (opsS_cons (fun f w_ _ _ _ _ p Z=>pkT (v:=Bo (((!x29) || (decide (x_8.coef < 1))) || (decide (x_8.coef > 1000)))) (p 9 26 rfl rfl) hc71 rfl (or_t hc71) (nO rfl rfl Z)) (opsS_cons (fun f w_ _ _ _ _ p Z=>mF (p 13 30 rfl rfl) rfl (nO rfl rfl Z)) (oP (fun _ _ p=>gN (p 14 31 rfl rfl) hc72 rfl) (fun _=>rfl) (oP (fun _ _ p=>gN (p 14 31 rfl rfl) hc72 rfl) (fun _=>rfl) (oP (fun _ _ p=>gN (p 14 31 rfl rfl) hc72 rfl) (fun _=>rfl) (oP (fun _ _ p=>g_undef rfl (p 17 34 rfl rfl) rfl) (fun _=>rfl) (oP (fun _ _ p=>g_undef rfl (p 17 34 rfl rfl) rfl) (fun _=>rfl) (oP (fun _ _ p=>g_undef rfl (p 17 34 rfl rfl) rfl) (fun _=>rfl) (oP (fun _ _ p=>g_undef rfl (p 17 34 rfl rfl) rfl) (fun _=>rfl) (oP (fun _ _ p=>g_undef rfl (p 17 34 rfl rfl) rfl) (fun _=>rfl) (oP (fun _ _ p=>g_undef rfl (p 17 34 rfl rfl) rfl) (fun _=>rfl) (oP (fun _ _ p=>g_undef rfl (p 17 34 rfl rfl) rfl) (fun _=>rfl) (oP (fun _ _ p=>g_undef rfl (p 17 34 rfl rfl) rfl) (fun _=>rfl) (oP (fun _ _ p=>g_undef rfl (p 17 34 rfl rfl) rfl) (fun _=>rfl) (oP (fun _ _ p=>g_undef rfl (p 17 34 rfl rfl) rfl) (fun _=>rfl) (opsS_nil)))))))))))))))))))))))))
 refine ps (g_undef rfl (hT52 17 34 rfl rfl) rfl) (ps (g_undef rfl (hT52 17 34 rfl rfl) rfl) (ps (g_no rfl (Eq.trans (hT52 14 31 rfl rfl) (congrArg Value.bool hc72)) rfl rfl) (L_pick (v:=Bo b51) rfl (Eq.trans (hT52 14 31 rfl rfl) (congrArg Value.bool hc72)) (congrArg Value.bool (so hb51)) (nn ?_))))
 have Z:=Z.get 1 rfl
 exact rj hR55 ⟨H52,hE52,((hS52 1 rfl).trans sf1),((hS52 3 rfl).trans sf3),rfl,(Star.keepN 1 Z)⟩
 rcases Bool.eq_false_or_eq_true (((!x29) || (decide (x_8.coef < 1))) || (decide (x_8.coef > 1000))) with hc85 | hc85
 rw [ite_t hc85] at hb51
 refine W_drawS 28 [isV (Pq g21 1),isV (I x_8.lit),isV (Bo x29),isV (Bo (!x29)),isV (Bo (!x29)),isV (Pt g21),isV (I x_8.coef),isV (Bo (decide (x_8.coef < 1))),isV (Bo ((!x29) || (decide (x_8.coef < 1)))),isV (Bo ((!x29) || (decide (x_8.coef < 1)))),isV (Pt g21),isV (I x_8.coef),isV (Bo (decide (x_8.coef > 1000))),isV (Bo (((!x29) || (decide (x_8.coef < 1))) || (decide (x_8.coef > 1000)))),isV (Bo (((!x29) || (decide (x_8.coef < 1))) || (decide (x_8.coef > 1000)))),isV (undef),isV (undef),isV (undef),isV (undef),isV (undef),isV (undef),isV (undef),isV (undef),isV (undef),isV (undef),isV (undef),isV (undef),isV (undef)] [box g21 126 #[I x_8.coef,I x_8.lit],box g3 74 #[v0_0,I c.bound]] [] ([]) [([],[]),([],[]),([],[]),([],[]),([],[]),([],[]),([],[]),([],[]),([],[]),([],[]),([],[]),([],[]),([],[]),([],[]),([],[]),([],[]),([],[]),([],[]),([],[]),([],[]),([],[]),([],[]),([],[]),([],[]),([],[]),([],[]),([],[]),([],[])] (S:=[]) Tryz_mix (by kernel_rfl) rfl (by kernel_rfl) (amF_cons (mono_V _) (amF_cons (mono_V _) (amF_cons (mono_V _) (amF_cons (mono_V _) (amF_cons (mono_V _) (amF_cons (mono_V _) (amF_cons (mono_V _) (amF_cons (mono_V _) (amF_cons (mono_V _) (amF_cons (mono_V _) (amF_cons (mono_V _) (amF_cons (mono_V _) (amF_cons (mono_V _) (amF_cons (mono_V _) (amF_cons (mono_V _) (amF_cons (mono_V _) (amF_cons (mono_V _) (amF_cons (mono_V _) (amF_cons (mono_V _) (amF_cons (mono_V _) (amF_cons (mono_V _) (amF_cons (mono_V _) (amF_cons (mono_V _) (amF_cons (mono_V _) (amF_cons (mono_V _) (amF_cons (mono_V _) (amF_cons (mono_V _) (amF_cons (mono_V _) amF_nil)))))))))))))))))))))))))))) Z ?_ (fun f w_ H52 hS52 hE52 hT52 Z=>?_)
 refine opsS_cons (fun f w_ _ _ s _ _ Z=>fA 1 fa_126_1 ((s 4 rfl).trans rfl) rfl (nO rfl rfl Z)) (opsS_cons (fun f w_ _ _ _ _ p Z=>ldB 0 Z Tryz.isAgg3 (p 0 17 rfl rfl) rfl rfl (nO rfl rfl Z)) (opsS_cons ?_ ?_))
 intro f w_ H52 X52 hS52 hE52 hP52 Z
 obtain ⟨H92b,l93,s94,z95,k96⟩:=Z.borrow
 refine L_call rfl Tryz.call125 (ops1 (hP52 1 18 rfl rfl)) (s_l1Lit_c (n_:=x_8.lit) s94 hx29) ?_
 rintro _ w97 ⟨rfl,Z⟩
 have Z:=k96 Z c0
 exact L_nil ⟨rfl,_,_,rfl,Le.refl _,fun _ _=>rfl,Z⟩
 refine opsS_cons (fun f w_ _ _ _ _ p Z=>L_not_ rfl (p 2 19 rfl rfl) (nO rfl rfl Z)) (opsS_cons (fun f w_ _ _ _ _ p Z=>mF (p 3 20 rfl rfl) rfl (nO rfl rfl Z)) (opsS_cons (fun f w_ _ _ s _ p Z=>L_fa (o':=0) (g_yes rfl (Eq.trans (p 4 21 rfl rfl) (congrArg Value.bool hc56)) rfl) fa_126_0 ((s 4 rfl).trans rfl) rfl (nO rfl rfl Z)) (opsS_cons (fun f w_ _ _ _ _ p Z=>L_ld (v:=I x_8.coef) (g_yes rfl (Eq.trans (p 4 21 rfl rfl) (congrArg Value.bool hc56)) rfl) Tryz.isAgg3 (p 5 22 rfl rfl) (At.cell0 (Blk.at (Star.blkAt 0 Z rfl)) (j:=0) rfl) (nO rfl rfl Z)) (opsS_cons (fun f w_ _ _ _ _ p Z=>L_lss (g_yes rfl (Eq.trans (p 4 21 rfl rfl) (congrArg Value.bool hc56)) rfl) (p 6 23 rfl rfl) rfl (nO rfl rfl Z)) (opsS_cons (fun f w_ _ _ _ _ p Z=>pkT (v:=Bo ((!x29) || (decide (x_8.coef < 1)))) (p 4 21 rfl rfl) hc56 rfl (or_f hc56 (p 7 24 rfl rfl)) (nO rfl rfl Z)) (opsS_cons (fun f w_ _ _ _ _ p Z=>mF (p 8 25 rfl rfl) rfl (nO rfl rfl Z)) (opsS_cons (fun f w_ _ _ s _ p Z=>L_fa (o':=0) (g_yes rfl (Eq.trans (p 9 26 rfl rfl) (congrArg Value.bool hc71)) rfl) fa_126_0 ((s 4 rfl).trans rfl) rfl (nO rfl rfl Z)) (opsS_cons (fun f w_ _ _ _ _ p Z=>L_ld (v:=I x_8.coef) (g_yes rfl (Eq.trans (p 9 26 rfl rfl) (congrArg Value.bool hc71)) rfl) Tryz.isAgg3 (p 10 27 rfl rfl) (At.cell0 (Blk.at (Star.blkAt 0 Z rfl)) (j:=0) rfl) (nO rfl rfl Z)) (opsS_cons (fun f w_ _ _ _ _ p Z=>L_gtr (g_yes rfl (Eq.trans (p 9 26 rfl rfl) (congrArg Value.bool hc71)) rfl) (p 11 28 rfl rfl) rfl (nO rfl rfl Z)) (opsS_cons (fun f w_ _ _ _ _ p Z=>pkT (v:=Bo (((!x29) || (decide (x_8.coef < 1))) || (decide (x_8.coef > 1000)))) (p 9 26 rfl rfl) hc71 rfl (or_f hc71 (p 12 29 rfl rfl)) (nO rfl rfl Z)) (opsS_cons (fun f w_ _ _ _ _ p Z=>mF (p 13 30 rfl rfl) rfl (nO rfl rfl Z)) (oP (fun _ _ p=>gN (p 14 31 rfl rfl) hc85 rfl) (fun _=>rfl) (oP (fun _ _ p=>gN (p 14 31 rfl rfl) hc85 rfl) (fun _=>rfl) (oP (fun _ _ p=>gN (p 14 31 rfl rfl) hc85 rfl) (fun _=>rfl) (oP (fun _ _ p=>g_undef rfl (p 17 34 rfl rfl) rfl) (fun _=>rfl) (oP (fun _ _ p=>g_undef rfl (p 17 34 rfl rfl) rfl) (fun _=>rfl) (oP (fun _ _ p=>g_undef rfl (p 17 34 rfl rfl) rfl) (fun _=>rfl) (oP (fun _ _ p=>g_undef rfl (p 17 34 rfl rfl) rfl) (fun _=>rfl) (oP (fun _ _ p=>g_undef rfl (p 17 34 rfl rfl) rfl) (fun _=>rfl) (oP (fun _ _ p=>g_undef rfl (p 17 34 rfl rfl) rfl) (fun _=>rfl) (oP (fun _ _ p=>g_undef rfl (p 17 34 rfl rfl) rfl) (fun _=>rfl) (oP (fun _ _ p=>g_undef rfl (p 17 34 rfl rfl) rfl) (fun _=>rfl) (oP (fun _ _ p=>g_undef rfl (p 17 34 rfl rfl) rfl) (fun _=>rfl) (oP (fun _ _ p=>g_undef rfl (p 17 34 rfl rfl) rfl) (fun _=>rfl) (opsS_nil)))))))))))))))))))))))))
 refine ps (g_undef rfl (hT52 17 34 rfl rfl) rfl) (ps (g_undef rfl (hT52 17 34 rfl rfl) rfl) (ps (g_no rfl (Eq.trans (hT52 14 31 rfl rfl) (congrArg Value.bool hc85)) rfl rfl) (L_pick (v:=Bo b51) rfl (Eq.trans (hT52 14 31 rfl rfl) (congrArg Value.bool hc85)) (congrArg Value.bool (so hb51)) (nn ?_))))
 have Z:=Z.get 1 rfl
 exact rj hR55 ⟨H52,hE52,((hS52 1 rfl).trans sf1),((hS52 3 rfl).trans sf3),rfl,(Star.keepN 1 Z)⟩
 rw [ite_f hc85] at hb51
 obtain ⟨b50,hb50,hb51⟩:=bind_some hb51
 rcases Bool.eq_false_or_eq_true (decide ((i_5 : Int) > 0)) with hc98 | hc98
 rw [ite_t hc98] at hb50
 obtain ⟨x31,hx31,hb50⟩:=bind_some hb50
 obtain ⟨x41,hx41,hb50⟩:=bind_some hb50
 obtain ⟨x48,hx48,hb50⟩:=bind_some hb50
 refine W_drawS 28 [isV (Pq g21 1),isV (I x_8.lit),isV (Bo x29),isV (Bo (!x29)),isV (Bo (!x29)),isV (Pt g21),isV (I x_8.coef),isV (Bo (decide (x_8.coef < 1))),isV (Bo ((!x29) || (decide (x_8.coef < 1)))),isV (Bo ((!x29) || (decide (x_8.coef < 1)))),isV (Pt g21),isV (I x_8.coef),isV (Bo (decide (x_8.coef > 1000))),isV (Bo (((!x29) || (decide (x_8.coef < 1))) || (decide (x_8.coef > 1000)))),isV (Bo (((!x29) || (decide (x_8.coef < 1))) || (decide (x_8.coef > 1000)))),isV (I i_5),isV (Bo (decide ((i_5 : Int) > 0))),isV (Bo (decide ((i_5 : Int) > 0))),isV (Pt g3),isV (v0_0),isV (I i_5),isV (I (i64 ((i_5 : Int) - 1))),isEl rTerm x31 0,isEl rTerm x31 1,isV (I x31.lit),isV (I x41),isV (Pq g21 1),isV (I x_8.lit)] [box g21 126 #[I x_8.coef,I x_8.lit],box g3 74 #[v0_0,I c.bound]] [] ([]) [([],[]),([],[]),([],[]),([],[]),([],[]),([],[]),([],[]),([],[]),([],[]),([],[]),([],[]),([],[]),([],[]),([],[]),([],[]),([],[]),([],[]),([],[]),([],[]),([],[]),([],[]),([],[]),([],[]),([],[]),([],[]),([],[]),([],[]),([],[])] (S:=[]) Tryz_mix (by kernel_rfl) rfl (by kernel_rfl) (amF_cons (mono_V _) (amF_cons (mono_V _) (amF_cons (mono_V _) (amF_cons (mono_V _) (amF_cons (mono_V _) (amF_cons (mono_V _) (amF_cons (mono_V _) (amF_cons (mono_V _) (amF_cons (mono_V _) (amF_cons (mono_V _) (amF_cons (mono_V _) (amF_cons (mono_V _) (amF_cons (mono_V _) (amF_cons (mono_V _) (amF_cons (mono_V _) (amF_cons (mono_V _) (amF_cons (mono_V _) (amF_cons (mono_V _) (amF_cons (mono_V _) (amF_cons (mono_V _) (amF_cons (mono_V _) (amF_cons (mono_V _) (amF_cons (mono_el _ _ _) (amF_cons (mono_el _ _ _) (amF_cons (mono_V _) (amF_cons (mono_V _) (amF_cons (mono_V _) (amF_cons (mono_V _) amF_nil)))))))))))))))))))))))))))) Z ?_ (fun f w_ H52 hS52 hE52 hT52 Z=>?_)
 refine opsS_cons (fun f w_ _ _ s _ _ Z=>fA 1 fa_126_1 ((s 4 rfl).trans rfl) rfl (nO rfl rfl Z)) (opsS_cons (fun f w_ _ _ _ _ p Z=>ldB 0 Z Tryz.isAgg3 (p 0 17 rfl rfl) rfl rfl (nO rfl rfl Z)) (opsS_cons ?_ ?_))
 intro f w_ H52 X52 hS52 hE52 hP52 Z
 obtain ⟨H115b,l116,s117,z118,k119⟩:=Z.borrow
 refine L_call rfl Tryz.call125 (ops1 (hP52 1 18 rfl rfl)) (s_l1Lit_c (n_:=x_8.lit) s117 hx29) ?_
 rintro _ w120 ⟨rfl,Z⟩
 have Z:=k119 Z c0
 exact L_nil ⟨rfl,_,_,rfl,Le.refl _,fun _ _=>rfl,Z⟩
 refine opsS_cons (fun f w_ _ _ _ _ p Z=>L_not_ rfl (p 2 19 rfl rfl) (nO rfl rfl Z)) (opsS_cons (fun f w_ _ _ _ _ p Z=>mF (p 3 20 rfl rfl) rfl (nO rfl rfl Z)) (opsS_cons (fun f w_ _ _ s _ p Z=>L_fa (o':=0) (g_yes rfl (Eq.trans (p 4 21 rfl rfl) (congrArg Value.bool hc56)) rfl) fa_126_0 ((s 4 rfl).trans rfl) rfl (nO rfl rfl Z)) (opsS_cons (fun f w_ _ _ _ _ p Z=>L_ld (v:=I x_8.coef) (g_yes rfl (Eq.trans (p 4 21 rfl rfl) (congrArg Value.bool hc56)) rfl) Tryz.isAgg3 (p 5 22 rfl rfl) (At.cell0 (Blk.at (Star.blkAt 0 Z rfl)) (j:=0) rfl) (nO rfl rfl Z)) (opsS_cons (fun f w_ _ _ _ _ p Z=>L_lss (g_yes rfl (Eq.trans (p 4 21 rfl rfl) (congrArg Value.bool hc56)) rfl) (p 6 23 rfl rfl) rfl (nO rfl rfl Z)) (opsS_cons (fun f w_ _ _ _ _ p Z=>pkT (v:=Bo ((!x29) || (decide (x_8.coef < 1)))) (p 4 21 rfl rfl) hc56 rfl (or_f hc56 (p 7 24 rfl rfl)) (nO rfl rfl Z)) (opsS_cons (fun f w_ _ _ _ _ p Z=>mF (p 8 25 rfl rfl) rfl (nO rfl rfl Z)) (opsS_cons (fun f w_ _ _ s _ p Z=>L_fa (o':=0) (g_yes rfl (Eq.trans (p 9 26 rfl rfl) (congrArg Value.bool hc71)) rfl) fa_126_0 ((s 4 rfl).trans rfl) rfl (nO rfl rfl Z)) (opsS_cons (fun f w_ _ _ _ _ p Z=>L_ld (v:=I x_8.coef) (g_yes rfl (Eq.trans (p 9 26 rfl rfl) (congrArg Value.bool hc71)) rfl) Tryz.isAgg3 (p 10 27 rfl rfl) (At.cell0 (Blk.at (Star.blkAt 0 Z rfl)) (j:=0) rfl) (nO rfl rfl Z)) (opsS_cons (fun f w_ _ _ _ _ p Z=>L_gtr (g_yes rfl (Eq.trans (p 9 26 rfl rfl) (congrArg Value.bool hc71)) rfl) (p 11 28 rfl rfl) rfl (nO rfl rfl Z)) (opsS_cons (fun f w_ _ _ _ _ p Z=>pkT (v:=Bo (((!x29) || (decide (x_8.coef < 1))) || (decide (x_8.coef > 1000)))) (p 9 26 rfl rfl) hc71 rfl (or_f hc71 (p 12 29 rfl rfl)) (nO rfl rfl Z)) (opsS_cons (fun f w_ _ _ _ _ p Z=>mF (p 13 30 rfl rfl) rfl (nO rfl rfl Z)) (opsS_cons (fun f w_ _ _ s _ p Z=>L_mv (v:=I i_5) (g_yes rfl (Eq.trans (p 14 31 rfl rfl) (congrArg Value.bool hc85)) rfl) ((s 3 rfl).trans sf3) (nO rfl rfl Z)) (opsS_cons (fun f w_ _ _ _ _ p Z=>L_gtr (g_yes rfl (Eq.trans (p 14 31 rfl rfl) (congrArg Value.bool hc85)) rfl) (p 15 32 rfl rfl) rfl (nO rfl rfl Z)) (opsS_cons (fun f w_ _ _ _ _ p Z=>L_mv (v:=Bo (decide ((i_5 : Int) > 0))) (g_yes rfl (Eq.trans (p 14 31 rfl rfl) (congrArg Value.bool hc85)) rfl) (p 16 33 rfl rfl) (nO rfl rfl Z)) (opsS_cons (fun f w_ _ _ s _ p Z=>L_fa (o':=0) (g_yes rfl (Eq.trans (p 17 34 rfl rfl) (congrArg Value.bool hc98)) rfl) fa_74_0 ((s 1 rfl).trans sf1) rfl (nO rfl rfl Z)) (opsS_cons (fun f w_ _ _ _ _ p Z=>L_ld (v:=v0_0) (g_yes rfl (Eq.trans (p 17 34 rfl rfl) (congrArg Value.bool hc98)) rfl) Tryz.isAgg72 (p 18 35 rfl rfl) (At.cell0 (Blk.at (Star.blkAt 1 Z rfl)) (j:=0) rfl) (nO rfl rfl Z)) (opsS_cons (fun f w_ _ _ s _ p Z=>L_mv (v:=I i_5) (g_yes rfl (Eq.trans (p 17 34 rfl rfl) (congrArg Value.bool hc98)) rfl) ((s 3 rfl).trans sf3) (nO rfl rfl Z)) (opsS_cons (fun f w_ _ _ _ _ p Z=>L_sub (g_yes rfl (Eq.trans (p 17 34 rfl rfl) (congrArg Value.bool hc98)) rfl) (p 20 37 rfl rfl) rfl (nO rfl rfl Z)) (opsS_cons ?_ ?_)))))))))))))))))))
 intro f w_ H52 X52 hS52 hE52 hP52 Z
 refine L_ix (r:=rTerm) (g_yes rfl (Eq.trans (hP52 17 34 rfl rfl) (congrArg Value.bool hc98)) rfl) Tryz.underlying72 Tryz.sizeOf126 (hP52 19 36 rfl rfl) (RP.mono _ h0_0 (Le.trans l7 hE52)) (hP52 21 38 rfl rfl) hx31 (fun g121 o122 cs_g121 hrk_hat123 hat123=>?_)
 obtain rfl:=rTerm_iff.1 hrk_hat123
 exact L_nil ⟨rfl,_,_,rfl,Le.refl _,fun _ _=>⟨_,_,_,rfl,hrk_hat123,hat123⟩,Z⟩
 refine opsS_cons ?_ ?_
 intro f w_ H52 X52 hS52 hE52 hP52 Z
 obtain ⟨g125,o125,cs125,hv125,hrk_hat125,hat125⟩:=(hP52 22 39 rfl rfl)
 obtain rfl:=rTerm_iff.1 hrk_hat125
 refine L_fa (o':=o125 + 1) (g_yes rfl (Eq.trans (hP52 17 34 rfl rfl) (congrArg Value.bool hc98)) rfl) fa_126_1 hv125 rfl (L_nil ⟨rfl,_,_,rfl,Le.refl _,fun _ _=>⟨_,_,_,rfl,hrk_hat125,hat125⟩,Z⟩)
 refine opsS_cons ?_ ?_
 intro f w_ H52 X52 hS52 hE52 hP52 Z
 obtain ⟨g127,o127,cs127,hv127,hrk_hat127,hat127⟩:=(hP52 23 40 rfl rfl)
 obtain rfl:=rTerm_iff.1 hrk_hat127
 refine L_ld (v:=I x31.lit) (g_yes rfl (Eq.trans (hP52 17 34 rfl rfl) (congrArg Value.bool hc98)) rfl) Tryz.isAgg3 hv127 (At.cell (AtH.at hat127 Z.sub) (j:=1) rfl) (L_nil ⟨rfl,_,_,rfl,Le.refl _,fun _ _=>rfl,Z⟩)
 refine opsS_cons ?_ ?_
 intro f w_ H52 X52 hS52 hE52 hP52 Z
 obtain ⟨H129b,l130,s131,z132,k133⟩:=Z.borrow
 refine L_call (g_yes rfl (Eq.trans (hP52 17 34 rfl rfl) (congrArg Value.bool hc98)) rfl) Tryz.call148 (ops1 (hP52 24 41 rfl rfl)) (s_l1Abs_c (n_:=x31.lit) s131 hx41) ?_
 rintro _ w134 ⟨rfl,Z⟩
 have Z:=k133 Z c0
 exact L_nil ⟨rfl,_,_,rfl,Le.refl _,fun _ _=>rfl,Z⟩
 refine opsS_cons (fun f w_ _ _ s _ p Z=>L_fa (o':=1) (g_yes rfl (Eq.trans (p 17 34 rfl rfl) (congrArg Value.bool hc98)) rfl) fa_126_1 ((s 4 rfl).trans rfl) rfl (nO rfl rfl Z)) (opsS_cons (fun f w_ _ _ _ _ p Z=>L_ld (v:=I x_8.lit) (g_yes rfl (Eq.trans (p 17 34 rfl rfl) (congrArg Value.bool hc98)) rfl) Tryz.isAgg3 (p 26 43 rfl rfl) (At.cell0 (Blk.at (Star.blkAt 0 Z rfl)) (j:=1) rfl) (nO rfl rfl Z)) (opsS_nil))
 obtain ⟨H135b,l136,s137,z138,k139⟩:=Z.borrow
 refine L_call (g_yes rfl (Eq.trans (hT52 17 34 rfl rfl) (congrArg Value.bool hc98)) rfl) Tryz.call148 (ops1 (hT52 27 44 rfl rfl)) (s_l1Abs_c (n_:=x_8.lit) s137 hx48) ?_
 rintro _ w140 ⟨rfl,Z⟩
 have Z:=k139 Z c0
 refine L_geq (g_yes rfl (Eq.trans (hT52 17 34 rfl rfl) (congrArg Value.bool hc98)) rfl) (hT52 25 42 rfl rfl) rfl (L_pick (v:=Bo b50) (g_yes rfl (Eq.trans (hT52 14 31 rfl rfl) (congrArg Value.bool hc85)) rfl) (Eq.trans (hT52 17 34 rfl rfl) (congrArg Value.bool hc98)) (congrArg Value.bool (so hb50)) (L_pick (v:=Bo b51) rfl (Eq.trans (hT52 14 31 rfl rfl) (congrArg Value.bool hc85)) (congrArg Value.bool (so hb51)) (nn ?_)))
 have Z:=Z.get 1 rfl
 exact rj hR55 ⟨H52,hE52,((hS52 1 rfl).trans sf1),((hS52 3 rfl).trans sf3),rfl,(Star.keepN 1 Z)⟩
 rw [ite_f hc98] at hb50
 refine W_drawS 28 [isV (Pq g21 1),isV (I x_8.lit),isV (Bo x29),isV (Bo (!x29)),isV (Bo (!x29)),isV (Pt g21),isV (I x_8.coef),isV (Bo (decide (x_8.coef < 1))),isV (Bo ((!x29) || (decide (x_8.coef < 1)))),isV (Bo ((!x29) || (decide (x_8.coef < 1)))),isV (Pt g21),isV (I x_8.coef),isV (Bo (decide (x_8.coef > 1000))),isV (Bo (((!x29) || (decide (x_8.coef < 1))) || (decide (x_8.coef > 1000)))),isV (Bo (((!x29) || (decide (x_8.coef < 1))) || (decide (x_8.coef > 1000)))),isV (I i_5),isV (Bo (decide ((i_5 : Int) > 0))),isV (Bo (decide ((i_5 : Int) > 0))),isV (undef),isV (undef),isV (undef),isV (undef),isV (undef),isV (undef),isV (undef),isV (undef),isV (undef),isV (undef)] [box g21 126 #[I x_8.coef,I x_8.lit],box g3 74 #[v0_0,I c.bound]] [] ([]) [([],[]),([],[]),([],[]),([],[]),([],[]),([],[]),([],[]),([],[]),([],[]),([],[]),([],[]),([],[]),([],[]),([],[]),([],[]),([],[]),([],[]),([],[]),([],[]),([],[]),([],[]),([],[]),([],[]),([],[]),([],[]),([],[]),([],[]),([],[])] (S:=[]) Tryz_mix (by kernel_rfl) rfl (by kernel_rfl) (amF_cons (mono_V _) (amF_cons (mono_V _) (amF_cons (mono_V _) (amF_cons (mono_V _) (amF_cons (mono_V _) (amF_cons (mono_V _) (amF_cons (mono_V _) (amF_cons (mono_V _) (amF_cons (mono_V _) (amF_cons (mono_V _) (amF_cons (mono_V _) (amF_cons (mono_V _) (amF_cons (mono_V _) (amF_cons (mono_V _) (amF_cons (mono_V _) (amF_cons (mono_V _) (amF_cons (mono_V _) (amF_cons (mono_V _) (amF_cons (mono_V _) (amF_cons (mono_V _) (amF_cons (mono_V _) (amF_cons (mono_V _) (amF_cons (mono_V _) (amF_cons (mono_V _) (amF_cons (mono_V _) (amF_cons (mono_V _) (amF_cons (mono_V _) (amF_cons (mono_V _) amF_nil)))))))))))))))))))))))))))) Z ?_ (fun f w_ H52 hS52 hE52 hT52 Z=>?_)
 refine opsS_cons (fun f w_ _ _ s _ _ Z=>fA 1 fa_126_1 ((s 4 rfl).trans rfl) rfl (nO rfl rfl Z)) (opsS_cons (fun f w_ _ _ _ _ p Z=>ldB 0 Z Tryz.isAgg3 (p 0 17 rfl rfl) rfl rfl (nO rfl rfl Z)) (opsS_cons ?_ ?_))
 intro f w_ H52 X52 hS52 hE52 hP52 Z
 obtain ⟨H147b,l148,s149,z150,k151⟩:=Z.borrow
 refine L_call rfl Tryz.call125 (ops1 (hP52 1 18 rfl rfl)) (s_l1Lit_c (n_:=x_8.lit) s149 hx29) ?_
 rintro _ w152 ⟨rfl,Z⟩
 have Z:=k151 Z c0
 exact L_nil ⟨rfl,_,_,rfl,Le.refl _,fun _ _=>rfl,Z⟩
 refine opsS_cons (fun f w_ _ _ _ _ p Z=>L_not_ rfl (p 2 19 rfl rfl) (nO rfl rfl Z)) (opsS_cons (fun f w_ _ _ _ _ p Z=>mF (p 3 20 rfl rfl) rfl (nO rfl rfl Z)) (opsS_cons (fun f w_ _ _ s _ p Z=>L_fa (o':=0) (g_yes rfl (Eq.trans (p 4 21 rfl rfl) (congrArg Value.bool hc56)) rfl) fa_126_0 ((s 4 rfl).trans rfl) rfl (nO rfl rfl Z)) (opsS_cons (fun f w_ _ _ _ _ p Z=>L_ld (v:=I x_8.coef) (g_yes rfl (Eq.trans (p 4 21 rfl rfl) (congrArg Value.bool hc56)) rfl) Tryz.isAgg3 (p 5 22 rfl rfl) (At.cell0 (Blk.at (Star.blkAt 0 Z rfl)) (j:=0) rfl) (nO rfl rfl Z)) (opsS_cons (fun f w_ _ _ _ _ p Z=>L_lss (g_yes rfl (Eq.trans (p 4 21 rfl rfl) (congrArg Value.bool hc56)) rfl) (p 6 23 rfl rfl) rfl (nO rfl rfl Z)) (opsS_cons (fun f w_ _ _ _ _ p Z=>pkT (v:=Bo ((!x29) || (decide (x_8.coef < 1)))) (p 4 21 rfl rfl) hc56 rfl (or_f hc56 (p 7 24 rfl rfl)) (nO rfl rfl Z)) (opsS_cons (fun f w_ _ _ _ _ p Z=>mF (p 8 25 rfl rfl) rfl (nO rfl rfl Z)) (opsS_cons (fun f w_ _ _ s _ p Z=>L_fa (o':=0) (g_yes rfl (Eq.trans (p 9 26 rfl rfl) (congrArg Value.bool hc71)) rfl) fa_126_0 ((s 4 rfl).trans rfl) rfl (nO rfl rfl Z)) (opsS_cons (fun f w_ _ _ _ _ p Z=>L_ld (v:=I x_8.coef) (g_yes rfl (Eq.trans (p 9 26 rfl rfl) (congrArg Value.bool hc71)) rfl) Tryz.isAgg3 (p 10 27 rfl rfl) (At.cell0 (Blk.at (Star.blkAt 0 Z rfl)) (j:=0) rfl) (nO rfl rfl Z)) (opsS_cons (fun f w_ _ _ _ _ p Z=>L_gtr (g_yes rfl (Eq.trans (p 9 26 rfl rfl) (congrArg Value.bool hc71)) rfl) (p 11 28 rfl rfl) rfl (nO rfl rfl Z)) (opsS_cons (fun f w_ _ _ _ _ p Z=>pkT (v:=Bo (((!x29) || (decide (x_8.coef < 1))) || (decide (x_8.coef > 1000)))) (p 9 26 rfl rfl) hc71 rfl (or_f hc71 (p 12 29 rfl rfl)) (nO rfl rfl Z)) (opsS_cons (fun f w_ _ _ _ _ p Z=>mF (p 13 30 rfl rfl) rfl (nO rfl rfl Z)) (opsS_cons (fun f w_ _ _ s _ p Z=>L_mv (v:=I i_5) (g_yes rfl (Eq.trans (p 14 31 rfl rfl) (congrArg Value.bool hc85)) rfl) ((s 3 rfl).trans sf3) (nO rfl rfl Z)) (opsS_cons (fun f w_ _ _ _ _ p Z=>L_gtr (g_yes rfl (Eq.trans (p 14 31 rfl rfl) (congrArg Value.bool hc85)) rfl) (p 15 32 rfl rfl) rfl (nO rfl rfl Z)) (opsS_cons (fun f w_ _ _ _ _ p Z=>L_mv (v:=Bo (decide ((i_5 : Int) > 0))) (g_yes rfl (Eq.trans (p 14 31 rfl rfl) (congrArg Value.bool hc85)) rfl) (p 16 33 rfl rfl) (nO rfl rfl Z)) (oP (fun _ _ p=>gN (p 17 34 rfl rfl) hc98 rfl) (fun _=>rfl) (oP (fun _ _ p=>gN (p 17 34 rfl rfl) hc98 rfl) (fun _=>rfl) (oP (fun _ _ p=>gN (p 17 34 rfl rfl) hc98 rfl) (fun _=>rfl) (oP (fun _ _ p=>gN (p 17 34 rfl rfl) hc98 rfl) (fun _=>rfl) (oP (fun _ _ p=>gN (p 17 34 rfl rfl) hc98 rfl) (fun _=>rfl) (oP (fun _ _ p=>gN (p 17 34 rfl rfl) hc98 rfl) (fun _=>rfl) (oP (fun _ _ p=>gN (p 17 34 rfl rfl) hc98 rfl) (fun _=>rfl) (oP (fun _ _ p=>gN (p 17 34 rfl rfl) hc98 rfl) (fun _=>rfl) (oP (fun _ _ p=>gN (p 17 34 rfl rfl) hc98 rfl) (fun _=>rfl) (oP (fun _ _ p=>gN (p 17 34 rfl rfl) hc98 rfl) (fun _=>rfl) (opsS_nil)))))))))))))))))))))))))
 refine ps (g_no rfl (Eq.trans (hT52 17 34 rfl rfl) (congrArg Value.bool hc98)) rfl rfl) (ps (g_no rfl (Eq.trans (hT52 17 34 rfl rfl) (congrArg Value.bool hc98)) rfl rfl) (L_pick (v:=Bo b50) (g_yes rfl (Eq.trans (hT52 14 31 rfl rfl) (congrArg Value.bool hc85)) rfl) (Eq.trans (hT52 17 34 rfl rfl) (congrArg Value.bool hc98)) (congrArg Value.bool (so hb50)) (L_pick (v:=Bo b51) rfl (Eq.trans (hT52 14 31 rfl rfl) (congrArg Value.bool hc85)) (congrArg Value.bool (so hb51)) (nn ?_))))
 have Z:=Z.get 1 rfl
 exact rj hR55 ⟨H52,hE52,((hS52 1 rfl).trans sf1),((hS52 3 rfl).trans sf3),rfl,(Star.keepN 1 Z)⟩
 intro f w_ hR
 obtain ⟨H53,l54,sf1,sf3,sf48,Z⟩:=rk hR55 hR
 refine W_cond (b:=b51) sf48 (fun hc153=>?_) (fun hc153=>?_)
 have hB8:=(ite_t hc153).symm.trans hB8
 refine sq (aB rfl (nn (W_ret (retG1 (v1:=Bo false) Tryz.results123 rfl ?_))))
 obtain rfl:=so hB8
 obtain rfl:=so hL8
 obtain rfl:=so hF
 exact ⟨rfl,(Star.down (Star.keepN 0 Z) (Le.trans l7 l54) c0)⟩
 have hB8:=(ite_f hc153).symm.trans hB8
 refine W_skip (W_region (mF sf3 rfl (L_add rfl rfl rfl (aI rfl (nn ?_)))))
 obtain rfl:=so hB8
 show ∃ m,m < _∧I8 m _ _
 refine ⟨rest8.length,by simp,?_⟩
 exact ij hI8 ⟨i_5 + 1,rest8,H53,rfl,drop_next hd8,by simp at hl8; omega,hL8,(Le.trans l7 l54),sf1,(Eq.trans rfl (congrArg (Value.int .i64) (i64_succ (n:=c.terms.length) (by simp at hl8; omega) hlen8))),Z⟩
 rcases suf8 with _ | ⟨_,_⟩
 obtain rfl:=range_nil hL8
 refine W_exit (rj hR8 ⟨H6,rfl,l7,sf1,Z⟩)
 exact absurd (of_decide_eq_false hc9) (by simp at hl8; omega)
 intro f w_ hR
 obtain ⟨H6,rfl,l7,sf1,Z⟩:=rk hR8 hR
 refine W_seq ?_
 obtain ⟨R154,hR154⟩:=exR fun f w_=>f 2 = Bo ((decide (c.bound ≥ 0)) && (decide (c.bound≤20000)))∧Star H6 w_ ([])
 refine W_join R154 ?_ ?_
 refine W_region (fA 1 fa_74_1 sf1 rfl (ldB 0 Z Tryz.isAgg3 rfl rfl rfl (L_geq rfl rfl rfl (mB rfl (L_split (d:=52) (b:=decide (c.bound ≥ 0)) rfl (fun hc155=>?_) (fun hc155=>?_))))))
 refine fA 1 fa_74_1 sf1 rfl (ldB 0 Z Tryz.isAgg3 rfl rfl rfl (L_leq rfl rfl rfl (L_pick (v:=Bo ((decide (c.bound ≥ 0)) && (decide (c.bound≤20000)))) rfl rfl (and_t hc155 rfl) (aB rfl (nn (rj hR154 ⟨rfl,(Star.keepN 0 Z)⟩))))))
 refine ps rfl (ps rfl (ps rfl (L_pick (v:=Bo ((decide (c.bound ≥ 0)) && (decide (c.bound≤20000)))) rfl rfl (and_f hc155) (aB rfl (nn (rj hR154 ⟨rfl,(Star.keepN 0 Z)⟩))))))
 intro f w_ hR
 obtain ⟨sf2,Z⟩:=rk hR154 hR
 refine W_ret (retG1 (v1:=Bo ((decide (c.bound ≥ 0)) && (decide (c.bound≤20000)))) Tryz.results123 sf2 ?_)
 obtain rfl:=so hF
 exact ⟨rfl,(Star.down Z l7 c0)⟩
theorem s_l1Name_c {fu : Nat} {lit : Int} {H : FH} {w : World} (Z : Star H w []) {r : ByteArray} (hF : s_l1Name fu lit = some r) :
 C Tryz.prog 126 #[I lit] w fun v w'=>v = .string r∧Star H w' []:=by
 unfold s_l1Name at hF
 refine C_enter Tryz.func126 rfl Tryz.ntmps126 rfl (sq (aV (.string (⟨#[]⟩ : ByteArray)) rfl (nq (sq (mI rfl (L_lss rfl rfl rfl (nn (W_cond (b:=decide (lit < 0)) rfl (fun hc1=>?_) (fun hc1=>?_)))))))))
 have hF:=(ite_t hc1).symm.trans hF
 refine W_seq ?_
 obtain ⟨x7,hx7,hF⟩:=bind_some hF
 obtain ⟨x9,hx9,hF⟩:=bind_some hF
 refine W_region (mI rfl (L_neg rfl rfl ?_))
 obtain ⟨H10b,l11,s12,z13,k14⟩:=Z.borrow
 refine L_call rfl Tryz.call86 (ops1 rfl) (s_l17Dec_c (n_:=i64 (-lit)) s12 hx7) ?_
 rintro _ w15 ⟨rfl,Z⟩
 have Z:=k14 Z c0
 obtain ⟨hx9_l,hx9_e⟩:=cat_some hx9
 refine L_sadd (s:=(⟨#[126,120]⟩ : ByteArray)) (s':=x7) rfl rfl rfl hx9_l ?_
 rw [← hx9_e]
 refine aV (.string x9) rfl (nn (W_ret (retG1 (v1:=.string x9) Tryz.results126 rfl ?_)))
 obtain rfl:=so hF
 exact ⟨rfl,Z⟩
 have hF:=(ite_f hc1).symm.trans hF
 refine W_skip (W_seq ?_)
 obtain ⟨x21,hx21,hF⟩:=bind_some hF
 obtain ⟨x23,hx23,hF⟩:=bind_some hF
 refine W_region (mI rfl ?_)
 obtain ⟨H24b,l25,s26,z27,k28⟩:=Z.borrow
 refine L_call rfl Tryz.call86 (ops1 rfl) (s_l17Dec_c (n_:=lit) s26 hx21) ?_
 rintro _ w29 ⟨rfl,Z⟩
 have Z:=k28 Z c0
 obtain ⟨hx23_l,hx23_e⟩:=cat_some hx23
 refine L_sadd (s:=(⟨#[120]⟩ : ByteArray)) (s':=x21) rfl rfl rfl hx23_l ?_
 rw [← hx23_e]
 refine aV (.string x23) rfl (nn (W_ret (retG1 (v1:=.string x23) Tryz.results126 rfl ?_)))
 obtain rfl:=so hF
 exact ⟨rfl,Z⟩
theorem s_l1Text_c {fu : Nat} {c : Con} {v0_0 : Value} {H : FH} {w : World} (Z : Star H w []) (h0_0 : (rS 126 rTerm).rel H [v0_0] c.terms) {r : ByteArray} (hF : s_l1Text fu c = some r) :
 C Tryz.prog 124 #[.agg #[v0_0,I c.bound]] w fun v w'=>v = .string r∧Star H w' []:=by
 unfold s_l1Text at hF
 refine C_enter Tryz.func124 rfl Tryz.ntmps124 rfl (sq (L_box (v:=.agg #[v0_0,I c.bound]) (cs:=#[v0_0,I c.bound]) rfl rfl rfl Z (fun g3 w4 Z=>aV (.string (⟨#[]⟩ : ByteArray)) rfl (ns (aV (.string (⟨#[]⟩ : ByteArray)) rfl (nq (sq (aI rfl (nn ?_)))))))))
 have hlen9 : List.length c.terms≤9223372036854775807:=len_le (slice_len h0_0)
 obtain ⟨j9,hL9,hF⟩:=bind_some hF
 obtain ⟨R9,hR9⟩:=exR fun f w_=>∃ out_6 : ByteArray,∃ H7 : FH,j9 = .nx out_6∧Le H H7∧f 1 = Pt g3∧f 3 = .string out_6∧Star H7 w_ ([box g3 74 #[v0_0,I c.bound]])
 refine W_join R9 ?_ ?_
 refine W_block ?_
 obtain ⟨I9,hI9⟩:=exI fun n f w_=>∃ i_5 : Nat,∃ suf9 : List Term,∃ out_6 : ByteArray,∃ H7 : FH,n = suf9.length∧List.drop i_5 c.terms = suf9∧i_5 + suf9.length = c.terms.length∧rangeL (s_l1Text_b1 fu) suf9 i_5 out_6 = some j9∧Le H H7∧f 1 = Pt g3∧f 3 = .string out_6∧f 4 = I i_5∧Star H7 w_ ([box g3 74 #[v0_0,I c.bound]])
 refine W_loop I9 (n:=c.terms.length) ?_ ?_
 exact ij hI9 ⟨0,c.terms,(⟨#[]⟩ : ByteArray),H,rfl,rfl,Nat.zero_add _,hL9,(Le.refl _),rfl,rfl,rfl,Z⟩
 intro n9 f w_ hI
 obtain ⟨i_5,suf9,out_6,H7,rfl,hd9,hl9,hL9,l8,sf1,sf3,sf4,Z⟩:=ik hI9 hI
 refine W_seq (sq (mF sf4 rfl (fA 0 fa_74_0 sf1 rfl (ldB 0 Z Tryz.isAgg72 rfl rfl rfl (L_len rfl Tryz.underlying72 rfl (slice_len (RP.mono _ h0_0 l8)) (L_lss rfl rfl rfl (nn (W_cond (b:=decide ((i_5 : Int) < (c.terms.length : Int))) rfl (fun hc10=>?_) (fun hc10=>?_)))))))))
 have hlt9:=of_decide_eq_true hc10
 rcases suf9 with _ | ⟨x_9,rest9⟩
 exact absurd hlt9 (by simp at hl9; omega)
 obtain ⟨o9,hB9,hL9⟩:=range_cons hL9
 rw [s_l1Text_b1] at hB9
 have hix9:=drop_idx hd9
 refine W_skip (W_seq (W_block ?_))
 obtain ⟨x20,hx20,hB9⟩:=bind_some hB9
 obtain ⟨x22,hx22,hB9⟩:=bind_some hB9
 obtain ⟨x23,hx23,hB9⟩:=bind_some hB9
 obtain ⟨x33,hx33,hB9⟩:=bind_some hB9
 obtain ⟨x35,hx35,hB9⟩:=bind_some hB9
 obtain ⟨x36,hx36,hB9⟩:=bind_some hB9
 refine W_drawS 17 [isV (.string out_6),isV (Pt g3),isV (v0_0),isV (I i_5),isEl rTerm x_9 0,isEl rTerm x_9 0,isV (I x_9.coef),isV (.string x20),isV (.string x22),isV (.string x23),isV (Pt g3),isV (v0_0),isV (I i_5),isEl rTerm x_9 0,isEl rTerm x_9 1,isV (I x_9.lit),isV (.string x33)] [box g3 74 #[v0_0,I c.bound]] [] ([]) [([],[]),([],[]),([],[]),([],[]),([],[]),([],[]),([],[]),([],[]),([],[]),([],[]),([],[]),([],[]),([],[]),([],[]),([],[]),([],[]),([],[])] (S:=[]) Tryz_mix (by kernel_rfl) rfl (by kernel_rfl) (amF_cons (mono_V _) (amF_cons (mono_V _) (amF_cons (mono_V _) (amF_cons (mono_V _) (amF_cons (mono_el _ _ _) (amF_cons (mono_el _ _ _) (amF_cons (mono_V _) (amF_cons (mono_V _) (amF_cons (mono_V _) (amF_cons (mono_V _) (amF_cons (mono_V _) (amF_cons (mono_V _) (amF_cons (mono_V _) (amF_cons (mono_el _ _ _) (amF_cons (mono_el _ _ _) (amF_cons (mono_V _) (amF_cons (mono_V _) amF_nil))))))))))))))))) Z ?_ (fun f w_ H37 hS37 hE37 hT37 Z=>?_)
 refine opsS_cons (fun f w_ _ _ s _ _ Z=>mF ((s 3 rfl).trans sf3) rfl (nO rfl rfl Z)) (opsS_cons (fun f w_ _ _ s _ _ Z=>fA 0 fa_74_0 ((s 1 rfl).trans sf1) rfl (nO rfl rfl Z)) (opsS_cons (fun f w_ _ _ _ _ p Z=>ldB 0 Z Tryz.isAgg72 (p 1 13 rfl rfl) rfl rfl (nO rfl rfl Z)) (opsS_cons (fun f w_ _ _ s _ _ Z=>mF ((s 4 rfl).trans sf4) rfl (nO rfl rfl Z)) (opsS_cons ?_ ?_))))
 intro f w_ H37 X37 hS37 hE37 hP37 Z
 refine L_ix (r:=rTerm) rfl Tryz.underlying72 Tryz.sizeOf126 (hP37 2 14 rfl rfl) (RP.mono _ h0_0 (Le.trans l8 hE37)) (hP37 3 15 rfl rfl) hix9 (fun g58 o59 cs_g58 hrk_hat60 hat60=>?_)
 obtain rfl:=rTerm_iff.1 hrk_hat60
 exact L_nil ⟨rfl,_,_,rfl,Le.refl _,fun _ _=>⟨_,_,_,rfl,hrk_hat60,hat60⟩,Z⟩
 refine opsS_cons ?_ ?_
 intro f w_ H37 X37 hS37 hE37 hP37 Z
 obtain ⟨g62,o62,cs62,hv62,hrk_hat62,hat62⟩:=(hP37 4 16 rfl rfl)
 obtain rfl:=rTerm_iff.1 hrk_hat62
 refine fA o62 fa_126_0 hv62 rfl (L_nil ⟨rfl,_,_,rfl,Le.refl _,fun _ _=>⟨_,_,_,rfl,hrk_hat62,hat62⟩,Z⟩)
 refine opsS_cons ?_ ?_
 intro f w_ H37 X37 hS37 hE37 hP37 Z
 obtain ⟨g64,o64,cs64,hv64,hrk_hat64,hat64⟩:=(hP37 5 17 rfl rfl)
 obtain rfl:=rTerm_iff.1 hrk_hat64
 refine L_ld rfl Tryz.isAgg3 hv64 (At.cell (AtH.at hat64 Z.sub) (j:=0) rfl) (L_nil ⟨rfl,_,_,rfl,Le.refl _,fun _ _=>rfl,Z⟩)
 refine opsS_cons ?_ ?_
 intro f w_ H37 X37 hS37 hE37 hP37 Z
 obtain ⟨H66b,l67,s68,z69,k70⟩:=Z.borrow
 refine L_call rfl Tryz.call86 (ops1 (hP37 6 18 rfl rfl)) (s_l17Dec_c (n_:=x_9.coef) s68 hx20) ?_
 rintro _ w71 ⟨rfl,Z⟩
 have Z:=k70 Z c0
 exact L_nil ⟨rfl,_,_,rfl,Le.refl _,fun _ _=>rfl,Z⟩
 refine opsS_cons ?_ ?_
 intro f w_ H37 X37 hS37 hE37 hP37 Z
 obtain ⟨hx22_l,hx22_e⟩:=cat_some hx22
 refine L_sadd (s:=out_6) (s':=x20) rfl (hP37 0 12 rfl rfl) (hP37 7 19 rfl rfl) hx22_l ?_
 rw [← hx22_e]
 exact L_nil ⟨rfl,_,_,rfl,Le.refl _,fun _ _=>rfl,Z⟩
 refine opsS_cons ?_ ?_
 intro f w_ H37 X37 hS37 hE37 hP37 Z
 obtain ⟨hx23_l,hx23_e⟩:=cat_some hx23
 refine L_sadd (s:=x22) (s':=(⟨#[32]⟩ : ByteArray)) rfl (hP37 8 20 rfl rfl) rfl hx23_l ?_
 rw [← hx23_e]
 exact L_nil ⟨rfl,_,_,rfl,Le.refl _,fun _ _=>rfl,Z⟩
 refine opsS_cons (fun f w_ _ _ s _ _ Z=>fA 0 fa_74_0 ((s 1 rfl).trans sf1) rfl (nO rfl rfl Z)) (opsS_cons (fun f w_ _ _ _ _ p Z=>ldB 0 Z Tryz.isAgg72 (p 10 22 rfl rfl) rfl rfl (nO rfl rfl Z)) (opsS_cons (fun f w_ _ _ s _ _ Z=>mF ((s 4 rfl).trans sf4) rfl (nO rfl rfl Z)) (opsS_cons ?_ ?_)))
 intro f w_ H37 X37 hS37 hE37 hP37 Z
 refine L_ix (r:=rTerm) rfl Tryz.underlying72 Tryz.sizeOf126 (hP37 11 23 rfl rfl) (RP.mono _ h0_0 (Le.trans l8 hE37)) (hP37 12 24 rfl rfl) hix9 (fun g72 o73 cs_g72 hrk_hat74 hat74=>?_)
 obtain rfl:=rTerm_iff.1 hrk_hat74
 exact L_nil ⟨rfl,_,_,rfl,Le.refl _,fun _ _=>⟨_,_,_,rfl,hrk_hat74,hat74⟩,Z⟩
 refine opsS_cons ?_ ?_
 intro f w_ H37 X37 hS37 hE37 hP37 Z
 obtain ⟨g76,o76,cs76,hv76,hrk_hat76,hat76⟩:=(hP37 13 25 rfl rfl)
 obtain rfl:=rTerm_iff.1 hrk_hat76
 refine fA (o76 + 1) fa_126_1 hv76 rfl (L_nil ⟨rfl,_,_,rfl,Le.refl _,fun _ _=>⟨_,_,_,rfl,hrk_hat76,hat76⟩,Z⟩)
 refine opsS_cons ?_ ?_
 intro f w_ H37 X37 hS37 hE37 hP37 Z
 obtain ⟨g78,o78,cs78,hv78,hrk_hat78,hat78⟩:=(hP37 14 26 rfl rfl)
 obtain rfl:=rTerm_iff.1 hrk_hat78
 refine L_ld rfl Tryz.isAgg3 hv78 (At.cell (AtH.at hat78 Z.sub) (j:=1) rfl) (L_nil ⟨rfl,_,_,rfl,Le.refl _,fun _ _=>rfl,Z⟩)
 refine opsS_cons ?_ ?_
 intro f w_ H37 X37 hS37 hE37 hP37 Z
 obtain ⟨H80b,l81,s82,z83,k84⟩:=Z.borrow
 refine L_call rfl Tryz.call126 (ops1 (hP37 15 27 rfl rfl)) (s_l1Name_c (lit:=x_9.lit) s82 hx33) ?_
 rintro _ w85 ⟨rfl,Z⟩
 have Z:=k84 Z c0
 exact L_nil ⟨rfl,_,_,rfl,Le.refl _,fun _ _=>rfl,Z⟩
 exact opsS_nil
 obtain ⟨hx35_l,hx35_e⟩:=cat_some hx35
 refine L_sadd (s:=x23) (s':=x33) rfl (hT37 9 21 rfl rfl) (hT37 16 28 rfl rfl) hx35_l ?_
 rw [← hx35_e]
 obtain ⟨hx36_l,hx36_e⟩:=cat_some hx36
 refine L_sadd (s:=x35) (s':=(⟨#[32]⟩ : ByteArray)) rfl rfl rfl hx36_l ?_
 rw [← hx36_e]
 refine aV (.string x36) rfl (nn (W_region (mF ((hS37 4 rfl).trans sf4) rfl (L_add rfl rfl rfl (aI rfl (nn ?_))))))
 obtain rfl:=so hB9
 show ∃ m,m < _∧I9 m _ _
 refine ⟨rest9.length,by simp,?_⟩
 exact ij hI9 ⟨i_5 + 1,rest9,x36,H37,rfl,drop_next hd9,by simp at hl9; omega,hL9,(Le.trans l8 hE37),((hS37 1 rfl).trans sf1),rfl,(Eq.trans rfl (congrArg (Value.int .i64) (i64_succ (n:=c.terms.length) (by simp at hl9; omega) hlen9))),Z⟩
 rcases suf9 with _ | ⟨_,_⟩
 obtain rfl:=range_nil hL9
 refine W_exit (rj hR9 ⟨out_6,H7,rfl,l8,sf1,sf3,Z⟩)
 exact absurd (of_decide_eq_false hc10) (by simp at hl9; omega)
 intro f w_ hR
 obtain ⟨out_6,H7,rfl,l8,sf1,sf3,Z⟩:=rk hR9 hR
 refine W_seq ?_
 obtain ⟨x86,hx86,hF⟩:=bind_some hF
 obtain ⟨x92,hx92,hF⟩:=bind_some hF
 obtain ⟨x94,hx94,hF⟩:=bind_some hF
 refine W_region (mF sf3 rfl ?_)
 obtain ⟨hx86_l,hx86_e⟩:=cat_some hx86
 refine L_sadd (s:=out_6) (s':=(⟨#[62,61,32]⟩ : ByteArray)) rfl rfl rfl hx86_l ?_
 rw [← hx86_e]
 refine fA 1 fa_74_1 sf1 rfl (ldB 0 Z Tryz.isAgg3 rfl rfl rfl ?_)
 obtain ⟨H95b,l96,s97,z98,k99⟩:=Z.borrow
 refine L_call rfl Tryz.call86 (ops1 rfl) (s_l17Dec_c (n_:=c.bound) s97 hx92) ?_
 rintro _ w100 ⟨rfl,Z⟩
 have Z:=k99 Z c0
 obtain ⟨hx94_l,hx94_e⟩:=cat_some hx94
 refine L_sadd (s:=x86) (s':=x92) rfl rfl rfl hx94_l ?_
 rw [← hx94_e]
 refine aV (.string x94) rfl (nn (W_ret (retG1 (v1:=.string x94) Tryz.results124 rfl ?_)))
 obtain rfl:=so hF
 exact ⟨rfl,(Star.down (Star.keepN 0 Z) l8 c0)⟩
theorem s_l4Line_c {fu : Nat} {s : Step} {v0_3 : Value} {H : FH} {w : World} (Z : Star H w []) (h0_3 : (rS 126 rTerm).rel H [v0_3] s.given.terms) {r : ByteArray} (hF : s_l4Line fu s = some r) :
 C Tryz.prog 69 #[.agg #[I s.kind,I s.a,I s.b,v0_3,I s.given.bound]] w fun v w'=>v = .string r∧Star H w' []:=by
 unfold s_l4Line at hF
 refine C_enter Tryz.func69 rfl Tryz.ntmps69 rfl (sq (L_box (v:=.agg #[I s.kind,I s.a,I s.b,v0_3,I s.given.bound]) (cs:=#[I s.kind,I s.a,I s.b,v0_3,I s.given.bound]) rfl rfl rfl Z (fun g3 w4 Z=>aV (.string (⟨#[]⟩ : ByteArray)) rfl (nq (W_seq ?_)))))
 obtain ⟨x10,hx10,hF⟩:=bind_some hF
 refine W_region (L_lda (cs:=[I s.kind,I s.a,I s.b,v0_3,I s.given.bound]) rfl Tryz.isAgg76 Tryz.sizeOf76 rfl (At.sub0 (Blk.at (Star.blkAt 0 Z rfl)) 0 5) rfl ?_)
 obtain ⟨H12b,l13,s14,z15,k16⟩:=Z.borrow
 refine L_call rfl Tryz.call122 (ops1 rfl) (s_l4Parts_c (s:=s) s14 (RP.mono _ h0_3 l13) hx10) ?_
 rintro _ w17 ⟨rfl,Z⟩
 have Z:=k16 Z c0
 refine L_not_ rfl rfl (nn (W_cond (b:=(!x10)) rfl (fun hc18=>?_) (fun hc18=>?_)))
 have hF:=(ite_t hc18).symm.trans hF
 refine sq (aV (.string (⟨#[]⟩ : ByteArray)) rfl (nn (W_ret (retG1 (v1:=.string (⟨#[]⟩ : ByteArray)) Tryz.results69 rfl ?_))))
 obtain rfl:=so hF
 exact ⟨rfl,(Star.keepN 0 Z)⟩
 have hF:=(ite_f hc18).symm.trans hF
 refine W_skip (W_seq ?_)
 obtain ⟨x24,hx24,hF⟩:=bind_some hF
 obtain ⟨x27,hx27,hF⟩:=bind_some hF
 refine W_drawS 3 [anyF,isV (Pt g3),isV (I s.kind)] [box g3 76 #[I s.kind,I s.a,I s.b,v0_3,I s.given.bound]] [.made 0 8 (fun v_=>oF 9 RP.str v_ x24) none] ([]) [([],[0]),([],[]),([],[])] (S:=[(some 0,[8],none)]) Tryz_mix (by kernel_rfl) rfl (by kernel_rfl) (amF_cons (mono_any) (amF_cons (mono_V _) (amF_cons (mono_V _) amF_nil))) Z ?_ (fun f w_ H32 hS32 hE32 hT32 Z=>?_)
 refine opsS_cons ?_ ?_
 intro f w_ H32 X32 hS32 hE32 hP32 Z
 obtain ⟨H40b,l41,s42,z43,k44⟩:=Z.borrow
 refine L_call rfl Tryz.call101 ops0 (s_l4Words_c s42 hx24) ?_
 rintro r45_0 w45 ⟨_,rfl,Z⟩
 have Z:=k44 Z (co closed_str c0)
 have Z:=Z.get 1 rfl
 exact L_nil ⟨rfl,_,_,rfl,Le.refl _,fun _ _=>trivial,Z⟩
 refine opsS_cons (fun f w_ _ _ s _ _ Z=>fA 0 fa_76_0 ((s 1 rfl).trans rfl) rfl (nO rfl rfl Z)) (opsS_cons (fun f w_ _ _ _ _ p Z=>ldB 0 Z Tryz.isAgg3 (p 1 9 rfl rfl) rfl rfl (nO rfl rfl Z)) (opsS_nil))
 have Z : Star H32 w_ ([box g3 76 #[I s.kind,I s.a,I s.b,v0_3,I s.given.bound],oF 9 RP.str (f 8) x24]):=Z
 obtain ⟨g48,cap_g48,hv49,_,_⟩:=Star.row 1 Z rfl hx27
 refine L_ixO (R:=(OR.frz RP.str)) (tb:=0) 0 rfl Tryz.underlying44 Tryz.sizeOf9 rfl hv49 (by first | rfl | simp) (hT32 2 10 rfl rfl) hx27 ?_
 obtain ⟨cs50,hr50,hat50⟩:=Star.eltF 1 Z rfl hv49 hx27
 obtain rfl : _ = [_]:=hr50
 refine L_ld rfl Tryz.isAgg9 rfl (At.cell hat50 (j:=0) rfl) (aV (.string x27) rfl (nq (sq (fA 0 fa_76_0 ((hS32 1 rfl).trans rfl) rfl (ldB 0 Z Tryz.isAgg3 rfl rfl rfl (L_eql rfl rfl rfl (nn (W_cond (b:=(s.kind == 7)) rfl (fun hc52=>?_) (fun hc52=>?_)))))))))
 have hF:=(ite_t hc52).symm.trans hF
 refine W_seq (W_seq ?_)
 obtain ⟨x58,hx58,hF⟩:=bind_some hF
 refine W_region (fA 3 fa_76_3 ((hS32 1 rfl).trans rfl) rfl (L_lda (cs:=[v0_3,I s.given.bound]) rfl Tryz.isAgg74 Tryz.sizeOf74 rfl (At.sub0 (Blk.at (Star.blkAt 0 Z rfl)) 3 2) rfl ?_))
 obtain ⟨H60b,l61,s62,z63,k64⟩:=Z.borrow
 refine L_call rfl Tryz.call123 (ops1 rfl) (s_ConstraintValid_c (c:=s.given) s62 (RP.mono _ h0_3 (Le.trans hE32 l61)) hx58) ?_
 rintro _ w65 ⟨rfl,Z⟩
 have Z:=k64 Z c0
 refine L_not_ rfl rfl (nn (W_cond (b:=(!x58)) rfl (fun hc66=>?_) (fun hc66=>?_)))
 have hF:=(ite_t hc66).symm.trans hF
 refine sq (aV (.string (⟨#[]⟩ : ByteArray)) rfl (nn (W_ret (retG1 (v1:=.string (⟨#[]⟩ : ByteArray)) Tryz.results69 rfl ?_))))
 obtain rfl:=so hF
 exact ⟨rfl,(Star.down (Star.keepN 0 Z) hE32 c0)⟩
 have hF:=(ite_f hc66).symm.trans hF
 refine W_skip (W_seq ?_)
 obtain ⟨x67,hx67,hF⟩:=bind_some hF
 obtain ⟨x73,hx73,hF⟩:=bind_some hF
 obtain ⟨x75,hx75,hF⟩:=bind_some hF
 refine W_region (mV (.string x27) rfl ?_)
 obtain ⟨hx67_l,hx67_e⟩:=cat_some hx67
 refine L_sadd (s:=x27) (s':=(⟨#[32]⟩ : ByteArray)) rfl rfl rfl hx67_l ?_
 rw [← hx67_e]
 refine fA 3 fa_76_3 ((hS32 1 rfl).trans rfl) rfl (L_lda (cs:=[v0_3,I s.given.bound]) rfl Tryz.isAgg74 Tryz.sizeOf74 rfl (At.sub0 (Blk.at (Star.blkAt 0 Z rfl)) 3 2) rfl ?_)
 obtain ⟨H76b,l77,s78,z79,k80⟩:=Z.borrow
 refine L_call rfl Tryz.call124 (ops1 rfl) (s_l1Text_c (c:=s.given) s78 (RP.mono _ h0_3 (Le.trans hE32 l77)) hx73) ?_
 rintro _ w81 ⟨rfl,Z⟩
 have Z:=k80 Z c0
 obtain ⟨hx75_l,hx75_e⟩:=cat_some hx75
 refine L_sadd (s:=x67) (s':=x73) rfl rfl rfl hx75_l ?_
 rw [← hx75_e]
 refine aV (.string x75) rfl (nn (W_ret (retG1 (v1:=.string x75) Tryz.results69 rfl ?_)))
 obtain rfl:=so hF
 exact ⟨rfl,(Star.down (Star.keepN 0 Z) hE32 c0)⟩
 have hF:=(ite_f hc52).symm.trans hF
 refine W_skip (W_seq (sq (fA 0 fa_76_0 ((hS32 1 rfl).trans rfl) rfl (ldB 0 Z Tryz.isAgg3 rfl rfl rfl (L_eql rfl rfl rfl (nn (W_cond (b:=(s.kind == 6)) rfl (fun hc82=>?_) (fun hc82=>?_))))))))
 have hF:=(ite_t hc82).symm.trans hF
 refine W_seq (W_seq ?_)
 obtain ⟨x88,hx88,hF⟩:=bind_some hF
 refine W_region (fA 1 fa_76_1 ((hS32 1 rfl).trans rfl) rfl (ldB 0 Z Tryz.isAgg3 rfl rfl rfl ?_))
 obtain ⟨H90b,l91,s92,z93,k94⟩:=Z.borrow
 refine L_call rfl Tryz.call125 (ops1 rfl) (s_l1Lit_c (n_:=s.a) s92 hx88) ?_
 rintro _ w95 ⟨rfl,Z⟩
 have Z:=k94 Z c0
 refine L_not_ rfl rfl (nn (W_cond (b:=(!x88)) rfl (fun hc96=>?_) (fun hc96=>?_)))
 have hF:=(ite_t hc96).symm.trans hF
 refine sq (aV (.string (⟨#[]⟩ : ByteArray)) rfl (nn (W_ret (retG1 (v1:=.string (⟨#[]⟩ : ByteArray)) Tryz.results69 rfl ?_))))
 obtain rfl:=so hF
 exact ⟨rfl,(Star.down (Star.keepN 0 Z) hE32 c0)⟩
 have hF:=(ite_f hc96).symm.trans hF
 refine W_skip (W_seq ?_)
 obtain ⟨x97,hx97,hF⟩:=bind_some hF
 obtain ⟨x103,hx103,hF⟩:=bind_some hF
 obtain ⟨x105,hx105,hF⟩:=bind_some hF
 refine W_region (mV (.string x27) rfl ?_)
 obtain ⟨hx97_l,hx97_e⟩:=cat_some hx97
 refine L_sadd (s:=x27) (s':=(⟨#[32]⟩ : ByteArray)) rfl rfl rfl hx97_l ?_
 rw [← hx97_e]
 refine fA 1 fa_76_1 ((hS32 1 rfl).trans rfl) rfl (ldB 0 Z Tryz.isAgg3 rfl rfl rfl ?_)
 obtain ⟨H106b,l107,s108,z109,k110⟩:=Z.borrow
 refine L_call rfl Tryz.call126 (ops1 rfl) (s_l1Name_c (lit:=s.a) s108 hx103) ?_
 rintro _ w111 ⟨rfl,Z⟩
 have Z:=k110 Z c0
 obtain ⟨hx105_l,hx105_e⟩:=cat_some hx105
 refine L_sadd (s:=x97) (s':=x103) rfl rfl rfl hx105_l ?_
 rw [← hx105_e]
 refine aV (.string x105) rfl (nn (W_ret (retG1 (v1:=.string x105) Tryz.results69 rfl ?_)))
 obtain rfl:=so hF
 exact ⟨rfl,(Star.down (Star.keepN 0 Z) hE32 c0)⟩
 have hF:=(ite_f hc82).symm.trans hF
 refine W_skip (W_seq (W_seq ?_))
 obtain ⟨R112,hR112⟩:=exR fun f w_=>f 1 = Pt g3∧f 3 = .string x27∧f 56 = Bo ((((decide (s.a < 0)) || (decide (s.a > 20000))) || (decide (s.b < 0))) || (decide (s.b > 20000)))∧Star H32 w_ ([box g3 76 #[I s.kind,I s.a,I s.b,v0_3,I s.given.bound]])
 refine W_join R112 ?_ ?_
 refine W_region (fA 1 fa_76_1 ((hS32 1 rfl).trans rfl) rfl (ldB 0 Z Tryz.isAgg3 rfl rfl rfl (L_lss rfl rfl rfl (mB rfl (L_split (d:=42) (b:=decide (s.a < 0)) rfl (fun hc113=>?_) (fun hc113=>?_))))))
 refine ps rfl (ps rfl (ps rfl (L_pick (v:=Bo ((decide (s.a < 0)) || (decide (s.a > 20000)))) rfl rfl (or_t hc113) (mB rfl (L_split (d:=47) (b:=((decide (s.a < 0)) || (decide (s.a > 20000)))) rfl (fun hc114=>?_) (fun hc114=>?_))))))
 refine ps rfl (ps rfl (ps rfl (L_pick (v:=Bo (((decide (s.a < 0)) || (decide (s.a > 20000))) || (decide (s.b < 0)))) rfl rfl (or_t hc114) (mB rfl (L_split (d:=52) (b:=(((decide (s.a < 0)) || (decide (s.a > 20000))) || (decide (s.b < 0)))) rfl (fun hc115=>?_) (fun hc115=>?_))))))
 refine ps rfl (ps rfl (ps rfl (L_pick (v:=Bo ((((decide (s.a < 0)) || (decide (s.a > 20000))) || (decide (s.b < 0))) || (decide (s.b > 20000)))) rfl rfl (or_t hc115) (nn (rj hR112 ⟨((hS32 1 rfl).trans rfl),rfl,rfl,(Star.keepN 1 Z)⟩)))))
 exact boolNo (orT hc114) hc115
 exact boolNo (orT hc113) hc114
 refine fA 1 fa_76_1 ((hS32 1 rfl).trans rfl) rfl (ldB 0 Z Tryz.isAgg3 rfl rfl rfl (L_gtr rfl rfl rfl (L_pick (v:=Bo ((decide (s.a < 0)) || (decide (s.a > 20000)))) rfl rfl (or_f hc113 rfl) (mB rfl (L_split (d:=47) (b:=((decide (s.a < 0)) || (decide (s.a > 20000)))) rfl (fun hc116=>?_) (fun hc116=>?_))))))
 refine ps rfl (ps rfl (ps rfl (L_pick (v:=Bo (((decide (s.a < 0)) || (decide (s.a > 20000))) || (decide (s.b < 0)))) rfl rfl (or_t hc116) (mB rfl (L_split (d:=52) (b:=(((decide (s.a < 0)) || (decide (s.a > 20000))) || (decide (s.b < 0)))) rfl (fun hc117=>?_) (fun hc117=>?_))))))
 refine ps rfl (ps rfl (ps rfl (L_pick (v:=Bo ((((decide (s.a < 0)) || (decide (s.a > 20000))) || (decide (s.b < 0))) || (decide (s.b > 20000)))) rfl rfl (or_t hc117) (nn (rj hR112 ⟨((hS32 1 rfl).trans rfl),rfl,rfl,(Star.keepN 1 Z)⟩)))))
 exact boolNo (orT hc116) hc117
 refine fA 2 fa_76_2 ((hS32 1 rfl).trans rfl) rfl (ldB 0 Z Tryz.isAgg3 rfl rfl rfl (L_lss rfl rfl rfl (L_pick (v:=Bo (((decide (s.a < 0)) || (decide (s.a > 20000))) || (decide (s.b < 0)))) rfl rfl (or_f hc116 rfl) (mB rfl (L_split (d:=52) (b:=(((decide (s.a < 0)) || (decide (s.a > 20000))) || (decide (s.b < 0)))) rfl (fun hc118=>?_) (fun hc118=>?_))))))
 refine ps rfl (ps rfl (ps rfl (L_pick (v:=Bo ((((decide (s.a < 0)) || (decide (s.a > 20000))) || (decide (s.b < 0))) || (decide (s.b > 20000)))) rfl rfl (or_t hc118) (nn (rj hR112 ⟨((hS32 1 rfl).trans rfl),rfl,rfl,(Star.keepN 1 Z)⟩)))))
 refine fA 2 fa_76_2 ((hS32 1 rfl).trans rfl) rfl (ldB 0 Z Tryz.isAgg3 rfl rfl rfl (L_gtr rfl rfl rfl (L_pick (v:=Bo ((((decide (s.a < 0)) || (decide (s.a > 20000))) || (decide (s.b < 0))) || (decide (s.b > 20000)))) rfl rfl (or_f hc118 rfl) (nn (rj hR112 ⟨((hS32 1 rfl).trans rfl),rfl,rfl,(Star.keepN 1 Z)⟩)))))
 intro f w_ hR
 obtain ⟨sf1,sf3,sf56,Z⟩:=rk hR112 hR
 refine W_cond (b:=((((decide (s.a < 0)) || (decide (s.a > 20000))) || (decide (s.b < 0))) || (decide (s.b > 20000)))) sf56 (fun hc119=>?_) (fun hc119=>?_)
 have hF:=(ite_t hc119).symm.trans hF
 refine sq (aV (.string (⟨#[]⟩ : ByteArray)) rfl (nn (W_ret (retG1 (v1:=.string (⟨#[]⟩ : ByteArray)) Tryz.results69 rfl ?_))))
 obtain rfl:=so hF
 exact ⟨rfl,(Star.down (Star.keepN 0 Z) hE32 c0)⟩
 have hF:=(ite_f hc119).symm.trans hF
 refine W_skip (W_seq ?_)
 obtain ⟨x120,hx120,hF⟩:=bind_some hF
 obtain ⟨x126,hx126,hF⟩:=bind_some hF
 obtain ⟨x128,hx128,hF⟩:=bind_some hF
 refine W_region (mF sf3 rfl ?_)
 obtain ⟨hx120_l,hx120_e⟩:=cat_some hx120
 refine L_sadd (s:=x27) (s':=(⟨#[32]⟩ : ByteArray)) rfl rfl rfl hx120_l ?_
 rw [← hx120_e]
 refine fA 1 fa_76_1 sf1 rfl (ldB 0 Z Tryz.isAgg3 rfl rfl rfl ?_)
 obtain ⟨H129b,l130,s131,z132,k133⟩:=Z.borrow
 refine L_call rfl Tryz.call86 (ops1 rfl) (s_l17Dec_c (n_:=s.a) s131 hx126) ?_
 rintro _ w134 ⟨rfl,Z⟩
 have Z:=k133 Z c0
 obtain ⟨hx128_l,hx128_e⟩:=cat_some hx128
 refine L_sadd (s:=x120) (s':=x126) rfl rfl rfl hx128_l ?_
 rw [← hx128_e]
 refine aV (.string x128) rfl (nq (W_seq ?_))
 obtain ⟨R135,hR135⟩:=exR fun f w_=>f 1 = Pt g3∧f 4 = .string x128∧f 70 = Bo ((s.kind != 4) && (s.kind != 8))∧Star H32 w_ ([box g3 76 #[I s.kind,I s.a,I s.b,v0_3,I s.given.bound]])
 refine W_join R135 ?_ ?_
 refine W_region (fA 0 fa_76_0 sf1 rfl (ldB 0 Z Tryz.isAgg3 rfl rfl rfl (L_neq rfl rfl rfl (mB rfl (L_split (d:=66) (b:=(s.kind != 4)) rfl (fun hc136=>?_) (fun hc136=>?_))))))
 refine fA 0 fa_76_0 sf1 rfl (ldB 0 Z Tryz.isAgg3 rfl rfl rfl (L_neq rfl rfl rfl (L_pick (v:=Bo ((s.kind != 4) && (s.kind != 8))) rfl rfl (and_t hc136 rfl) (nn (rj hR135 ⟨sf1,rfl,rfl,Z⟩)))))
 refine ps rfl (ps rfl (ps rfl (L_pick (v:=Bo ((s.kind != 4) && (s.kind != 8))) rfl rfl (and_f hc136) (nn (rj hR135 ⟨sf1,rfl,rfl,Z⟩)))))
 intro f w_ hR
 obtain ⟨sf1,sf4,sf70,Z⟩:=rk hR135 hR
 obtain ⟨out_137,hA138,hF⟩:=bind_some hF
 obtain ⟨R138,hR138⟩:=exR fun f w_=>f 4 = .string out_137∧Star H32 w_ ([])
 refine W_join R138 ?_ ?_
 refine W_cond (b:=((s.kind != 4) && (s.kind != 8))) sf70 (fun hc139=>?_) (fun hc139=>?_)
 have hA138:=(ite_t hc139).symm.trans hA138
 obtain ⟨x140,hx140,hA138⟩:=bind_some hA138
 obtain ⟨x146,hx146,hA138⟩:=bind_some hA138
 obtain ⟨x148,hx148,hA138⟩:=bind_some hA138
 refine W_region (mF sf4 rfl ?_)
 obtain ⟨hx140_l,hx140_e⟩:=cat_some hx140
 refine L_sadd (s:=x128) (s':=(⟨#[32]⟩ : ByteArray)) rfl rfl rfl hx140_l ?_
 rw [← hx140_e]
 refine fA 2 fa_76_2 sf1 rfl (ldB 0 Z Tryz.isAgg3 rfl rfl rfl ?_)
 obtain ⟨H149b,l150,s151,z152,k153⟩:=Z.borrow
 refine L_call rfl Tryz.call86 (ops1 rfl) (s_l17Dec_c (n_:=s.b) s151 hx146) ?_
 rintro _ w154 ⟨rfl,Z⟩
 have Z:=k153 Z c0
 obtain ⟨hx148_l,hx148_e⟩:=cat_some hx148
 refine L_sadd (s:=x140) (s':=x146) rfl rfl rfl hx148_l ?_
 rw [← hx148_e]
 refine aV (.string x148) rfl (nn ?_)
 obtain rfl:=so hA138
 exact rj hR138 ⟨rfl,(Star.keepN 0 Z)⟩
 have hA138:=(ite_f hc139).symm.trans hA138
 refine W_skip ?_
 obtain rfl:=so hA138
 exact rj hR138 ⟨sf4,(Star.keepN 0 Z)⟩
 intro f w_ hR
 obtain ⟨sf4,Z⟩:=rk hR138 hR
 refine sq (mF sf4 rfl (aV (.string out_137) rfl (nn (W_ret (retG1 (v1:=.string out_137) Tryz.results69 rfl ?_)))))
 obtain rfl:=so hF
 exact ⟨rfl,(Star.down Z hE32 c0)⟩
theorem s_FormatProof_c {fu : Nat} {steps : List Step} {v0 : Value} {H : FH} {w : World} (Z : Star H w []) (h0 : (rS 76 (rStep 126)).rel H [v0] steps) {r : ByteArray} (hF : s_FormatProof fu steps = some r) :
 C Tryz.prog 26 #[v0] w fun v w'=>v = .string r∧Star H w' []:=by
 unfold s_FormatProof at hF
 refine C_enter Tryz.func26 rfl Tryz.ntmps26 rfl (sq (aV (.string (⟨#[]⟩ : ByteArray)) rfl (ns (aV (.string (⟨#[]⟩ : ByteArray)) rfl (nq (sq (mV v0 rfl (L_len rfl Tryz.underlying37 rfl (slice_len h0) (L_gtr rfl rfl rfl (nn (W_cond (b:=decide ((steps.length : Int) > 1000)) rfl (fun hc1=>?_) (fun hc1=>?_))))))))))))
 have hF:=(ite_t hc1).symm.trans hF
 refine sq (mV (.string (⟨#[]⟩ : ByteArray)) rfl (aV (.string (⟨#[]⟩ : ByteArray)) rfl (nn (W_ret (retG1 (v1:=.string (⟨#[]⟩ : ByteArray)) Tryz.results26 rfl ?_)))))
 obtain rfl:=so hF
 exact ⟨rfl,Z⟩
 have hF:=(ite_f hc1).symm.trans hF
 refine W_skip (W_seq (sq (aI rfl (nn ?_))))
 have hlen4 : List.length steps≤9223372036854775807:=len_le (slice_len h0)
 obtain ⟨j4,hL4,hF⟩:=bind_some hF
 obtain ⟨R4,hR4⟩:=exR fun f w_=>∃ out_3 : ByteArray,j4 = .nx out_3∧f 3 = .string out_3∧Star H w_ ([])
 refine W_join R4 ?_ ?_
 refine W_block ?_
 obtain ⟨I4,hI4⟩:=exI fun n f w_=>∃ i_2 : Nat,∃ suf4 : List Step,∃ out_3 : ByteArray,n = suf4.length∧List.drop i_2 steps = suf4∧i_2 + suf4.length = steps.length∧rangeL (s_FormatProof_b1 fu) suf4 i_2 out_3 = some j4∧f 0 = v0∧f 3 = .string out_3∧f 4 = I i_2∧Star H w_ ([])
 refine W_loop I4 (n:=steps.length) ?_ ?_
 exact ij hI4 ⟨0,steps,(⟨#[]⟩ : ByteArray),rfl,rfl,Nat.zero_add _,hL4,rfl,rfl,rfl,Z⟩
 intro n4 f w_ hI
 obtain ⟨i_2,suf4,out_3,rfl,hd4,hl4,hL4,sf0,sf3,sf4,Z⟩:=ik hI4 hI
 refine W_seq (sq (mF sf4 rfl (mF sf0 rfl (L_len rfl Tryz.underlying37 rfl (slice_len h0) (L_lss rfl rfl rfl (nn (W_cond (b:=decide ((i_2 : Int) < (steps.length : Int))) rfl (fun hc5=>?_) (fun hc5=>?_))))))))
 have hlt4:=of_decide_eq_true hc5
 rcases suf4 with _ | ⟨x_4,rest4⟩
 exact absurd hlt4 (by simp at hl4; omega)
 obtain ⟨o4,hB4,hL4⟩:=range_cons hL4
 rw [s_FormatProof_b1] at hB4
 have hix4:=drop_idx hd4
 refine W_skip (W_seq (W_block (W_seq ?_)))
 obtain ⟨x15,hx15,hB4⟩:=bind_some hB4
 refine W_region (mF sf0 rfl (mF sf4 rfl (L_ix (r:=(rStep 126)) rfl Tryz.underlying37 Tryz.sizeOf76 rfl h0 rfl hix4 (fun g17 o18 cs_g17 hrk_hat19 hat19=>?_))))
 obtain ⟨u20_0,rfl,hu20_0⟩:=rStep_iff.1 hrk_hat19
 refine L_lda (cs:=[I x_4.kind,I x_4.a,I x_4.b,u20_0,I x_4.given.bound]) rfl Tryz.isAgg76 Tryz.sizeOf76 rfl (At.sub (AtH.at hat19 Z.sub) 0 5) rfl ?_
 obtain ⟨H21b,l22,s23,z24,k25⟩:=Z.borrow
 refine L_call rfl Tryz.call69 (ops1 rfl) (s_l4Line_c (s:=x_4) s23 (RP.mono _ hu20_0 l22) hx15) ?_
 rintro _ w26 ⟨rfl,Z⟩
 have Z:=k25 Z c0
 refine aV (.string x15) rfl (nq (sq (mV (.string x15) rfl (L_seql (s:=x15) (s':=(⟨#[]⟩ : ByteArray)) rfl rfl rfl (nn (W_cond (b:=(ByteArray.toList x15 == ByteArray.toList (⟨#[]⟩ : ByteArray))) rfl (fun hc27=>?_) (fun hc27=>?_)))))))
 have hB4:=(ite_t hc27).symm.trans hB4
 refine sq (aV (.string (⟨#[]⟩ : ByteArray)) rfl (nn (W_ret (retG1 (v1:=.string (⟨#[]⟩ : ByteArray)) Tryz.results26 rfl ?_))))
 obtain rfl:=so hB4
 obtain rfl:=so hL4
 obtain rfl:=so hF
 exact ⟨rfl,Z⟩
 have hB4:=(ite_f hc27).symm.trans hB4
 refine W_skip ?_
 obtain ⟨x28,hx28,hB4⟩:=bind_some hB4
 obtain ⟨x29,hx29,hB4⟩:=bind_some hB4
 refine W_region (mF sf3 rfl (mV (.string x15) rfl ?_))
 obtain ⟨hx28_l,hx28_e⟩:=cat_some hx28
 refine L_sadd (s:=out_3) (s':=x15) rfl rfl rfl hx28_l ?_
 rw [← hx28_e]
 obtain ⟨hx29_l,hx29_e⟩:=cat_some hx29
 refine L_sadd (s:=x28) (s':=(⟨#[10]⟩ : ByteArray)) rfl rfl rfl hx29_l ?_
 rw [← hx29_e]
 refine aV (.string x29) rfl (nn (W_region (mF sf4 rfl (L_add rfl rfl rfl (aI rfl (nn ?_))))))
 obtain rfl:=so hB4
 show ∃ m,m < _∧I4 m _ _
 refine ⟨rest4.length,by simp,?_⟩
 exact ij hI4 ⟨i_2 + 1,rest4,x29,rfl,drop_next hd4,by simp at hl4; omega,hL4,sf0,rfl,(Eq.trans rfl (congrArg (Value.int .i64) (i64_succ (n:=steps.length) (by simp at hl4; omega) hlen4))),Z⟩
 rcases suf4 with _ | ⟨_,_⟩
 obtain rfl:=range_nil hL4
 refine W_exit (rj hR4 ⟨out_3,rfl,sf3,Z⟩)
 exact absurd (of_decide_eq_false hc5) (by simp at hl4; omega)
 intro f w_ hR
 obtain ⟨out_3,rfl,sf3,Z⟩:=rk hR4 hR
 refine sq (mF sf3 rfl (aV (.string out_3) rfl (nn (W_ret (retG1 (v1:=.string out_3) Tryz.results26 rfl ?_)))))
 obtain rfl:=so hF
 exact ⟨rfl,Z⟩
theorem s_l1Literal_c {s : ByteArray} {H : FH} {w : World} (Z : Star H w []) {r : Int} (hF : s_l1Literal s = some r) :
 C Tryz.prog 104 #[.string s] w fun v w'=>v = I r∧Star H w' []:=by
 unfold s_l1Literal at hF
 refine C_enter Tryz.func104 rfl Tryz.ntmps104 rfl (sq (aI rfl (ns (aI rfl (nq (W_seq ?_))))))
 obtain ⟨b2,hb2,hF⟩:=bind_some hF
 obtain ⟨R3,hR3⟩:=exR fun f w_=>f 0 = .string s∧f 3 = I 1∧f 13 = Bo b2∧Star H w_ ([])
 refine W_join R3 ?_ ?_
 refine W_region (mV (.string s) rfl (L_slen (s:=s) rfl Tryz.underlying9 rfl (L_gtr rfl rfl rfl (mB rfl (L_split (d:=9) (b:=decide ((s.size : Int) > 0)) rfl (fun hc4=>?_) (fun hc4=>?_))))))
 rw [ite_t hc4] at hb2
 obtain ⟨x1,hx1,hb2⟩:=bind_some hb2
 refine mV (.string s) rfl (L_sidx rfl Tryz.underlying9 rfl rfl hx1 (L_eql rfl rfl rfl (L_pick (v:=Bo b2) rfl rfl (congrArg Value.bool (so hb2)) (nn (rj hR3 ⟨rfl,rfl,rfl,Z⟩)))))
 rw [ite_f hc4] at hb2
 refine ps rfl (ps rfl (ps rfl (L_pick (v:=Bo b2) rfl rfl (congrArg Value.bool (so hb2)) (nn (rj hR3 ⟨rfl,rfl,rfl,Z⟩)))))
 intro f w_ hR
 obtain ⟨sf0,sf3,sf13,Z⟩:=rk hR3 hR
 obtain ⟨⟨s_5,sign_6⟩,hA7,hF⟩:=bind_some hF
 obtain ⟨R7,hR7⟩:=exR fun f w_=>f 0 = .string s_5∧f 3 = I sign_6∧Star H w_ ([])
 refine W_join R7 ?_ ?_
 refine W_cond (b:=b2) sf13 (fun hc8=>?_) (fun hc8=>?_)
 have hA7:=(ite_t hc8).symm.trans hA7
 refine sq (aI rfl (nn ?_))
 obtain ⟨x9,hx9,hA7⟩:=bind_some hA7
 refine W_region (mF sf0 rfl (L_ssl (a:=1) (b:=(s.size : Int)) rfl Tryz.underlying9 rfl rfl rfl hx9 (aV (.string x9) rfl (nn ?_))))
 obtain ⟨rfl,rfl⟩:=so2 hA7
 exact rj hR7 ⟨rfl,rfl,Z⟩
 have hA7:=(ite_f hc8).symm.trans hA7
 refine W_skip ?_
 obtain ⟨rfl,rfl⟩:=so2 hA7
 exact rj hR7 ⟨sf0,sf3,Z⟩
 intro f w_ hR
 obtain ⟨sf0,sf3,Z⟩:=rk hR7 hR
 refine W_seq (W_seq ?_)
 obtain ⟨b11,hb11,hF⟩:=bind_some hF
 obtain ⟨R12,hR12⟩:=exR fun f w_=>f 0 = .string s_5∧f 3 = I sign_6∧f 23 = Bo b11∧Star H w_ ([])
 refine W_join R12 ?_ ?_
 refine W_region (mF sf0 rfl (L_slen (s:=s_5) rfl Tryz.underlying9 rfl (L_lss rfl rfl rfl (mB rfl (L_split (d:=19) (b:=decide ((s_5.size : Int) < 2)) rfl (fun hc13=>?_) (fun hc13=>?_))))))
 rw [ite_t hc13] at hb11
 refine ps rfl (ps rfl (ps rfl (L_pick (v:=Bo b11) rfl rfl (congrArg Value.bool (so hb11)) (nn (rj hR12 ⟨sf0,sf3,rfl,Z⟩)))))
 rw [ite_f hc13] at hb11
 obtain ⟨x10,hx10,hb11⟩:=bind_some hb11
 refine mF sf0 rfl (L_sidx rfl Tryz.underlying9 rfl rfl hx10 (L_neq rfl rfl rfl (L_pick (v:=Bo b11) rfl rfl (congrArg Value.bool (so hb11)) (nn (rj hR12 ⟨sf0,sf3,rfl,Z⟩)))))
 intro f w_ hR
 obtain ⟨sf0,sf3,sf23,Z⟩:=rk hR12 hR
 refine W_cond (b:=b11) sf23 (fun hc14=>?_) (fun hc14=>?_)
 have hF:=(ite_t hc14).symm.trans hF
 refine sq (aI rfl (nn (W_ret (retG1 (v1:=I 0) Tryz.results104 rfl ?_))))
 obtain rfl:=so hF
 exact ⟨rfl,Z⟩
 have hF:=(ite_f hc14).symm.trans hF
 refine W_skip (W_seq ?_)
 obtain ⟨x15,hx15,hF⟩:=bind_some hF
 obtain ⟨x21,hx21,hF⟩:=bind_some hF
 refine W_region (mF sf0 rfl (L_ssl (a:=1) (b:=(s_5.size : Int)) rfl Tryz.underlying9 rfl rfl rfl hx15 ?_))
 obtain ⟨H23b,l24,s25,z26,k27⟩:=Z.borrow
 refine L_call rfl Tryz.call74 (ops1 rfl) (s_l17Num_c (s:=x15) s25 hx21) ?_
 rintro _ w28 ⟨rfl,Z⟩
 have Z:=k27 Z c0
 refine mV (.tuple #[I x21.1,Bo x21.2]) rfl (L_ex (v:=I x21.1) rfl rfl rfl (L_ex (v:=Bo x21.2) rfl rfl rfl (aI rfl (aB rfl (nq (W_seq ?_))))))
 obtain ⟨R29,hR29⟩:=exR fun f w_=>f 3 = I sign_6∧f 4 = I x21.1∧f 39 = Bo (((!x21.2) || (decide (x21.1 < 1))) || (decide (x21.1 > 12)))∧Star H w_ ([])
 refine W_join R29 ?_ ?_
 refine W_region (mB rfl (L_not_ rfl rfl (mB rfl (L_split (d:=32) (b:=(!x21.2)) rfl (fun hc30=>?_) (fun hc30=>?_)))))
 refine ps rfl (ps rfl (L_pick (v:=Bo ((!x21.2) || (decide (x21.1 < 1)))) rfl rfl (or_t hc30) (mB rfl (L_split (d:=36) (b:=((!x21.2) || (decide (x21.1 < 1)))) rfl (fun hc31=>?_) (fun hc31=>?_)))))
 refine ps rfl (ps rfl (L_pick (v:=Bo (((!x21.2) || (decide (x21.1 < 1))) || (decide (x21.1 > 12)))) rfl rfl (or_t hc31) (nn (rj hR29 ⟨sf3,rfl,rfl,Z⟩))))
 exact boolNo (orT hc30) hc31
 refine mI rfl (L_lss rfl rfl rfl (L_pick (v:=Bo ((!x21.2) || (decide (x21.1 < 1)))) rfl rfl (or_f hc30 rfl) (mB rfl (L_split (d:=36) (b:=((!x21.2) || (decide (x21.1 < 1)))) rfl (fun hc32=>?_) (fun hc32=>?_)))))
 refine ps rfl (ps rfl (L_pick (v:=Bo (((!x21.2) || (decide (x21.1 < 1))) || (decide (x21.1 > 12)))) rfl rfl (or_t hc32) (nn (rj hR29 ⟨sf3,rfl,rfl,Z⟩))))
 refine mI rfl (L_gtr rfl rfl rfl (L_pick (v:=Bo (((!x21.2) || (decide (x21.1 < 1))) || (decide (x21.1 > 12)))) rfl rfl (or_f hc32 rfl) (nn (rj hR29 ⟨sf3,rfl,rfl,Z⟩))))
 intro f w_ hR
 obtain ⟨sf3,sf4,sf39,Z⟩:=rk hR29 hR
 refine W_cond (b:=(((!x21.2) || (decide (x21.1 < 1))) || (decide (x21.1 > 12)))) sf39 (fun hc33=>?_) (fun hc33=>?_)
 have hF:=(ite_t hc33).symm.trans hF
 refine sq (aI rfl (nn (W_ret (retG1 (v1:=I 0) Tryz.results104 rfl ?_))))
 obtain rfl:=so hF
 exact ⟨rfl,Z⟩
 have hF:=(ite_f hc33).symm.trans hF
 refine W_skip (sq (mF sf3 rfl (mF sf4 rfl (L_mul rfl rfl rfl (aI rfl (nn (W_ret (retG1 (v1:=I (i64 (sign_6 * x21.1))) Tryz.results104 rfl ?_))))))))
 obtain rfl:=so hF
 exact ⟨rfl,Z⟩
theorem s_FormatConstraint_c {fu : Nat} {c : Con} {v0_0 : Value} {H : FH} {w : World} (Z : Star H w []) (h0_0 : (rS 126 rTerm).rel H [v0_0] c.terms) {r : ByteArray} (hF : s_FormatConstraint fu c = some r) :
 C Tryz.prog 137 #[.agg #[v0_0,I c.bound]] w fun v w'=>v = .string r∧Star H w' []:=by
 unfold s_FormatConstraint at hF
 refine C_enter Tryz.func137 rfl Tryz.ntmps137 rfl (sq (L_box (v:=.agg #[v0_0,I c.bound]) (cs:=#[v0_0,I c.bound]) rfl rfl rfl Z (fun g3 w4 Z=>aV (.string (⟨#[]⟩ : ByteArray)) rfl (nq (W_seq ?_)))))
 obtain ⟨x10,hx10,hF⟩:=bind_some hF
 refine W_region (L_lda (cs:=[v0_0,I c.bound]) rfl Tryz.isAgg74 Tryz.sizeOf74 rfl (At.sub0 (Blk.at (Star.blkAt 0 Z rfl)) 0 2) rfl ?_)
 obtain ⟨H12b,l13,s14,z15,k16⟩:=Z.borrow
 refine L_call rfl Tryz.call123 (ops1 rfl) (s_ConstraintValid_c (c:=c) s14 (RP.mono _ h0_0 l13) hx10) ?_
 rintro _ w17 ⟨rfl,Z⟩
 have Z:=k16 Z c0
 refine L_not_ rfl rfl (nn (W_cond (b:=(!x10)) rfl (fun hc18=>?_) (fun hc18=>?_)))
 have hF:=(ite_t hc18).symm.trans hF
 refine sq (aV (.string (⟨#[]⟩ : ByteArray)) rfl (nn (W_ret (retG1 (v1:=.string (⟨#[]⟩ : ByteArray)) Tryz.results137 rfl ?_))))
 obtain rfl:=so hF
 exact ⟨rfl,(Star.keepN 0 Z)⟩
 have hF:=(ite_f hc18).symm.trans hF
 refine W_skip (W_seq ?_)
 obtain ⟨x24,hx24,hF⟩:=bind_some hF
 refine W_region (L_lda (cs:=[v0_0,I c.bound]) rfl Tryz.isAgg74 Tryz.sizeOf74 rfl (At.sub0 (Blk.at (Star.blkAt 0 Z rfl)) 0 2) rfl ?_)
 obtain ⟨H26b,l27,s28,z29,k30⟩:=Z.borrow
 refine L_call rfl Tryz.call124 (ops1 rfl) (s_l1Text_c (c:=c) s28 (RP.mono _ h0_0 l27) hx24) ?_
 rintro _ w31 ⟨rfl,Z⟩
 have Z:=k30 Z c0
 refine aV (.string x24) rfl (nn (W_ret (retG1 (v1:=.string x24) Tryz.results137 rfl ?_)))
 obtain rfl:=so hF
 exact ⟨rfl,(Star.keepN 0 Z)⟩
theorem s_ParseConstraint_c {fu : Nat} {text : ByteArray} {H : FH} {w : World} (Z : Star H w []) {r : Con × Bool} (hF : s_ParseConstraint fu text = some r) :
 C Tryz.prog 102 #[.string text] w fun v w'=>∃ (u1 : Value),v = .tuple #[.agg #[u1,I r.1.bound],Bo r.2]∧Star H w' [oF 126 rTerm u1 r.1.terms]:=by
 unfold s_ParseConstraint at hF
 refine C_enter Tryz.func102 rfl Tryz.ntmps102 rfl (sq (L_al (cs:=#[S0,I 0]) rfl Tryz.zeroValue74 rfl Z (fun g3 w4 Z=>aB rfl (nq ?_))))
 obtain ⟨x10,hx10,hF⟩:=bind_some hF
 refine W_region (mV (.string text) rfl ?_)
 obtain ⟨H13b,l14,s15,z16,k17⟩:=Z.borrow
 refine L_call rfl Tryz.call29 (ops2 rfl rfl) (s_l17Cut_c (s:=text) (c:=32) s15 hx10) ?_
 rintro r18_0 w18 ⟨_,rfl,Z⟩
 have Z:=k17 Z (co closed_str c0)
 refine aV r18_0 rfl (ns (mV r18_0 rfl (L_len rfl Tryz.underlying44 rfl (Star.len 0 Z rfl) (aI rfl (nq (W_seq ?_))))))
 obtain ⟨b25,hb25,hF⟩:=bind_some hF
 obtain ⟨R26,hR26⟩:=exR fun f w_=>f 0 = .string text∧f 2 = Pt g3∧f 4 = r18_0∧f 5 = I (x10.length : Int)∧f 32 = Bo b25∧Star H w_ ([oF 9 RP.str r18_0 x10,box g3 74 #[S0,I 0]])
 refine W_join R26 ?_ ?_
 refine W_region (mI rfl (L_lss rfl rfl rfl (mB rfl (L_split (d:=16) (b:=decide ((x10.length : Int) < 2)) rfl (fun hc27=>?_) (fun hc27=>?_)))))
 refine ps rfl (ps rfl (ps rfl (L_pick (v:=Bo ((decide ((x10.length : Int) < 2)) || ((Int.tmod (x10.length : Int) 2) != 0))) rfl rfl (or_t hc27) (mB rfl (L_split (d:=21) (b:=((decide ((x10.length : Int) < 2)) || ((Int.tmod (x10.length : Int) 2) != 0))) rfl (fun hc28=>?_) (fun hc28=>?_))))))
 refine ps rfl (ps rfl (L_pick (v:=Bo (((decide ((x10.length : Int) < 2)) || ((Int.tmod (x10.length : Int) 2) != 0)) || (decide ((x10.length : Int) > 26)))) rfl rfl (or_t hc28) (mB rfl (L_split (d:=25) (b:=(((decide ((x10.length : Int) < 2)) || ((Int.tmod (x10.length : Int) 2) != 0)) || (decide ((x10.length : Int) > 26)))) rfl (fun hc29=>?_) (fun hc29=>?_)))))
 rw [ite_t hc29] at hb25
 refine ps rfl (ps rfl (ps rfl (ps rfl (ps rfl (ps rfl (L_pick (v:=Bo b25) rfl rfl (congrArg Value.bool (so hb25)) (nn (rj hR26 ⟨rfl,rfl,rfl,rfl,rfl,Z⟩))))))))
 exact boolNo (orT hc28) hc29
 exact boolNo (orT hc27) hc28
 refine mI rfl (L_rem (m:=(x10.length : Int)) (n:=2) rfl rfl rfl (by decide) (L_neq rfl rfl rfl (L_pick (v:=Bo ((decide ((x10.length : Int) < 2)) || ((Int.tmod (x10.length : Int) 2) != 0))) rfl rfl (or_f hc27 rfl) (mB rfl (L_split (d:=21) (b:=((decide ((x10.length : Int) < 2)) || ((Int.tmod (x10.length : Int) 2) != 0))) rfl (fun hc30=>?_) (fun hc30=>?_))))))
 refine ps rfl (ps rfl (L_pick (v:=Bo (((decide ((x10.length : Int) < 2)) || ((Int.tmod (x10.length : Int) 2) != 0)) || (decide ((x10.length : Int) > 26)))) rfl rfl (or_t hc30) (mB rfl (L_split (d:=25) (b:=(((decide ((x10.length : Int) < 2)) || ((Int.tmod (x10.length : Int) 2) != 0)) || (decide ((x10.length : Int) > 26)))) rfl (fun hc31=>?_) (fun hc31=>?_)))))
 rw [ite_t hc31] at hb25
 refine ps rfl (ps rfl (ps rfl (ps rfl (ps rfl (ps rfl (L_pick (v:=Bo b25) rfl rfl (congrArg Value.bool (so hb25)) (nn (rj hR26 ⟨rfl,rfl,rfl,rfl,rfl,Z⟩))))))))
 exact boolNo (orT hc30) hc31
 refine mI rfl (L_gtr rfl rfl rfl (L_pick (v:=Bo (((decide ((x10.length : Int) < 2)) || ((Int.tmod (x10.length : Int) 2) != 0)) || (decide ((x10.length : Int) > 26)))) rfl rfl (or_f hc30 rfl) (mB rfl (L_split (d:=25) (b:=(((decide ((x10.length : Int) < 2)) || ((Int.tmod (x10.length : Int) 2) != 0)) || (decide ((x10.length : Int) > 26)))) rfl (fun hc32=>?_) (fun hc32=>?_)))))
 rw [ite_t hc32] at hb25
 refine ps rfl (ps rfl (ps rfl (ps rfl (ps rfl (ps rfl (L_pick (v:=Bo b25) rfl rfl (congrArg Value.bool (so hb25)) (nn (rj hR26 ⟨rfl,rfl,rfl,rfl,rfl,Z⟩))))))))
 rw [ite_f hc32] at hb25
 obtain ⟨x20,hx20,hb25⟩:=bind_some hb25
 refine mV r18_0 rfl (mI rfl (L_sub rfl rfl rfl ?_))
 obtain ⟨g33,cap_g33,hv34,_,_⟩:=Star.row 0 Z rfl hx20
 refine L_ixO (R:=(OR.frz RP.str)) (tb:=0) 0 rfl Tryz.underlying44 Tryz.sizeOf9 rfl hv34 (by first | rfl | simp) rfl hx20 ?_
 obtain ⟨cs35,hr35,hat35⟩:=Star.eltF 0 Z rfl hv34 hx20
 obtain rfl : _ = [_]:=hr35
 refine L_ld rfl Tryz.isAgg9 rfl (At.cell hat35 (j:=0) rfl) (L_sneq (s:=x20) (s':=(⟨#[62,61]⟩ : ByteArray)) rfl rfl rfl (L_pick (v:=Bo b25) rfl rfl (congrArg Value.bool (so hb25)) (nn (rj hR26 ⟨rfl,rfl,rfl,rfl,rfl,Z⟩))))
 intro f w_ hR
 obtain ⟨sf0,sf2,sf4,sf5,sf32,Z⟩:=rk hR26 hR
 refine W_cond (b:=b25) sf32 (fun hc37=>?_) (fun hc37=>?_)
 have hF:=(ite_t hc37).symm.trans hF
 refine sq (L_bld rfl (parts0 ) (bld_74_  ) (L_staB (vs:=#[S0,I 0]) (cs2:=#[S0,I 0]) 1 rfl Tryz.sizeOf74 sf2 rfl rfl (ones_cons rfl (ones_cons rfl ones_nil)) Z rfl (by show 0 + 2≤2; decide) rfl (fun w39 Z=>aB rfl (nn (W_ret (retG2 (v1:=.agg #[S0,I 0]) (v2:=Bo false) Tryz.results102 (resV_agg Tryz.isAgg74 Tryz.sizeOf74 sf2 (Star.blkAt 0 Z rfl) rfl) rfl ?_))))))
 obtain rfl:=so hF
 have Z:=Star.addNil (R:=(OR.frz rTerm)) (e:=126) Z
 exact ⟨S0,rfl,(Star.keepN 1 Z)⟩
 have hF:=(ite_f hc37).symm.trans hF
 refine W_skip (sq (L_bld rfl (parts0 ) (bld_74_  ) (L_al (cs:=#[S0,I 0]) rfl Tryz.zeroValue74 rfl Z (fun g44 w45 Z=>L_staB (vs:=#[S0,I 0]) (cs2:=#[S0,I 0]) 0 rfl Tryz.sizeOf74 rfl rfl rfl (ones_cons rfl (ones_cons rfl ones_nil)) Z rfl (by show 0 + 2≤2; decide) rfl (fun w46 Z=>nq (sq (aI rfl (nn ?_))))))))
 obtain ⟨j53,hL53,hF⟩:=bind_some hF
 obtain ⟨R53,hR53⟩:=exR fun f w_=>∃ i_48 : Int,∃ g44_0_49 : List Term,∃ H51 : FH,∃ v49_g44_0 : Value,j53 = .nx (i_48,g44_0_49)∧Le H H51∧f 0 = .string text∧f 2 = Pt g3∧f 4 = r18_0∧f 5 = I (x10.length : Int)∧f 6 = Pt g44∧Star H51 w_ ([oF 9 RP.str r18_0 x10,oF 126 rTerm v49_g44_0 g44_0_49,box g44 74 #[v49_g44_0,I 0],box g3 74 #[S0,I 0]])
 refine W_join R53 ?_ ?_
 refine W_block ?_
 obtain ⟨I53,hI53⟩:=exI fun n f w_=>∃ i_48 : Int,∃ g44_0_49 : List Term,∃ H51 : FH,∃ v49_g44_0 : Value,whileL (s_ParseConstraint_b1 x10) n (i_48,g44_0_49) = some j53∧Le H H51∧f 0 = .string text∧f 2 = Pt g3∧f 4 = r18_0∧f 5 = I (x10.length : Int)∧f 6 = Pt g44∧f 7 = I i_48∧Star H51 w_ ([oF 9 RP.str r18_0 x10,oF 126 rTerm v49_g44_0 g44_0_49,box g44 74 #[v49_g44_0,I 0],box g3 74 #[S0,I 0]])
 have Z:=Star.addNil (R:=(OR.frz rTerm)) (e:=126) Z
 have Z:=Z.gets [3,2,2,3] rfl
 refine W_loop I53 (n:=fu) ?_ ?_
 exact ij hI53 ⟨0,[],H,S0,hL53,(Le.refl _),sf0,sf2,sf4,sf5,rfl,rfl,Z⟩
 intro n53 f w_ hI
 obtain ⟨i_48,g44_0_49,H51,v49_g44_0,hL53,l52,sf0,sf2,sf4,sf5,sf6,sf7,Z⟩:=ik hI53 hI
 rcases n53 with _ | n53
 exact (while_zero hL53).elim
 obtain ⟨o53,hB53,hL53⟩:=while_succ hL53
 rw [s_ParseConstraint_b1] at hB53
 refine W_seq (sq (mF sf7 rfl (L_add rfl rfl rfl (mF sf5 rfl (L_lss rfl rfl rfl (nn (W_cond (b:=decide ((i64 (i_48 + 2)) < (x10.length : Int))) rfl (fun hc55=>?_) (fun hc55=>?_))))))))
 have hB53:=(ite_t hc55).symm.trans hB53
 refine W_skip (W_seq (W_block (W_seq ?_)))
 obtain ⟨x56,hx56,hB53⟩:=bind_some hB53
 obtain ⟨x66,hx66,hB53⟩:=bind_some hB53
 refine W_region (mF sf4 rfl (mF sf7 rfl ?_))
 obtain ⟨g68,cap_g68,hv69,_,_⟩:=Star.row 0 Z rfl hx56
 refine L_ixO (R:=(OR.frz RP.str)) (tb:=0) 0 rfl Tryz.underlying44 Tryz.sizeOf9 rfl hv69 (by first | rfl | simp) rfl hx56 ?_
 obtain ⟨cs70,hr70,hat70⟩:=Star.eltF 0 Z rfl hv69 hx56
 obtain rfl : _ = [_]:=hr70
 refine L_ld rfl Tryz.isAgg9 rfl (At.cell hat70 (j:=0) rfl) ?_
 obtain ⟨H72b,l73,s74,z75,k76⟩:=Z.borrow
 refine L_call rfl Tryz.call74 (ops1 rfl) (s_l17Num_c (s:=x56) s74 hx66) ?_
 rintro _ w77 ⟨rfl,Z⟩
 have Z:=k76 Z c0
 refine mV (.tuple #[I x66.1,Bo x66.2]) rfl (L_ex (v:=I x66.1) rfl rfl rfl (L_ex (v:=Bo x66.2) rfl rfl rfl (aI rfl (aB rfl (nn ?_)))))
 obtain ⟨x78,hx78,hB53⟩:=bind_some hB53
 obtain ⟨x86,hx86,hB53⟩:=bind_some hB53
 obtain ⟨x91,hx91,hB53⟩:=bind_some hB53
 refine W_drawS 11 [isV (Pt g44),isV (v49_g44_0),isV (I x66.1),isV (r18_0),isV (I i_48),isV (I (i64 (i_48 + 1))),isV (.pointer (some ⟨g68,Int.toNat (i64 (i_48 + 1)) * 1,none⟩)),isV (.string x78),isV (I x86),isV (.agg #[I x66.1,I x86]),anyF] [oF 9 RP.str r18_0 x10,oF 126 rTerm v49_g44_0 g44_0_49,box g44 74 #[v49_g44_0,I 0],box g3 74 #[S0,I 0]] [.made 10 59 (fun v_=>oF 126 rTerm v_ ([({ coef:=x66.1,lit:=x86 } : Term)])) none] ([]) [([],[]),([],[]),([],[]),([],[]),([],[]),([],[]),([],[]),([],[]),([],[]),([],[]),([],[0])] (S:=[(some 10,[59],none)]) Tryz_mix (by kernel_rfl) rfl (by kernel_rfl) (amF_cons (mono_V _) (amF_cons (mono_V _) (amF_cons (mono_V _) (amF_cons (mono_V _) (amF_cons (mono_V _) (amF_cons (mono_V _) (amF_cons (mono_V _) (amF_cons (mono_V _) (amF_cons (mono_V _) (amF_cons (mono_V _) (amF_cons (mono_any) amF_nil))))))))))) Z ?_ (fun f w_ H96 hS96 hE96 hT96 Z=>?_)
 refine opsS_cons (fun f w_ _ _ s _ _ Z=>fA 0 fa_74_0 ((s 6 rfl).trans sf6) rfl (nO rfl rfl Z)) (opsS_cons (fun f w_ _ _ _ _ p Z=>ldB 2 Z Tryz.isAgg72 (p 0 49 rfl rfl) rfl rfl (nO rfl rfl Z)) (opsS_cons (fun f w_ _ _ s _ _ Z=>mF ((s 8 rfl).trans rfl) rfl (nO rfl rfl Z)) (opsS_cons (fun f w_ _ _ s _ _ Z=>mF ((s 4 rfl).trans sf4) rfl (nO rfl rfl Z)) (opsS_cons (fun f w_ _ _ s _ _ Z=>mF ((s 7 rfl).trans sf7) rfl (nO rfl rfl Z)) (opsS_cons (fun f w_ _ _ _ _ p Z=>L_add rfl (p 4 53 rfl rfl) rfl (nO rfl rfl Z)) (opsS_cons (fun f w_ _ _ _ _ p Z=>L_ixO (R:=(OR.frz RP.str)) (tb:=0) 0 rfl Tryz.underlying44 Tryz.sizeOf9 (p 3 52 rfl rfl) hv69 (by first | rfl | simp) (p 5 54 rfl rfl) hx78 (nO rfl rfl Z)) (opsS_cons ?_ ?_)))))))
 intro f w_ H96 X96 hS96 hE96 hP96 Z
 obtain ⟨cs108,hr108,hat108⟩:=Star.eltF 0 Z rfl hv69 hx78
 obtain rfl : _ = [_]:=hr108
 refine L_ld rfl Tryz.isAgg9 (hP96 6 55 rfl rfl) (At.cell hat108 (j:=0) rfl) (L_nil ⟨rfl,_,_,rfl,Le.refl _,fun _ _=>rfl,Z⟩)
 refine opsS_cons ?_ ?_
 intro f w_ H96 X96 hS96 hE96 hP96 Z
 obtain ⟨H110b,l111,s112,z113,k114⟩:=Z.borrow
 refine L_call rfl Tryz.call104 (ops1 (hP96 7 56 rfl rfl)) (s_l1Literal_c (s:=x78) s112 hx86) ?_
 rintro _ w115 ⟨rfl,Z⟩
 have Z:=k114 Z c0
 exact L_nil ⟨rfl,_,_,rfl,Le.refl _,fun _ _=>rfl,Z⟩
 refine opsS_cons (fun f w_ _ _ _ _ p Z=>L_bld rfl (parts2 (p 2 51 rfl rfl) (p 8 57 rfl rfl)) (bld_126_0_1 (I x66.1) (I x86) rfl rfl) (nO rfl rfl Z)) (opsS_cons ?_ ?_)
 intro f w_ H96 X96 hS96 hE96 hP96 Z
 refine L_bs rfl (parts1 (hP96 9 58 rfl rfl)) (bs_72_1_2 (I x66.1) (I x86) ) Z (fun g116 w117 Z=>?_)
 have Z:=Star.addF (r:=rTerm) (cs:=[I x66.1,I x86]) (x:=({ coef:=x66.1,lit:=x86 } : Term)) Z (rTerm_iff.2 rfl)
 have Z:=Star.mkRow (R:=(OR.frz rTerm)) [([I x66.1,I x86],({ coef:=x66.1,lit:=x86 } : Term))] [({ coef:=x66.1,lit:=x86 } : Term)] 1 Z rfl rfl rfl (by decide)
 have Z:=Z.gets [4,4,4,4] rfl
 exact L_nil ⟨rfl,_,_,rfl,Le.refl _,fun _ _=>trivial,Z⟩
 exact opsS_nil
 have Z : Star H96 w_ ([oF 9 RP.str r18_0 x10,oF 126 rTerm v49_g44_0 g44_0_49,box g44 74 #[v49_g44_0,I 0],box g3 74 #[S0,I 0],oF 126 rTerm (f 59) ([({ coef:=x66.1,lit:=x86 } : Term)])]):=Z
 have Z:=Z.gets [4,2] rfl
 refine L_appM (v:=v49_g44_0) (u:=(f 59)) rfl et_72 (hT96 1 50 rfl rfl) rfl Z hx91 (fun v120 w121 Z=>fA 0 fa_74_0 ((hS96 6 rfl).trans sf6) rfl (L_stB (v:=v120) (cs2:=#[v120,I 0]) 2 rfl Tryz.sizeOf72 rfl rfl (one_len (Star.len 0 Z rfl)) Z rfl rfl rfl (fun w123 Z=>nn (W_region (mF ((hS96 7 rfl).trans sf7) rfl (L_add rfl rfl rfl (aI rfl (nn ?_))))))))
 obtain rfl:=so hB53
 have Z:=Z.gets [3,1,2,3] rfl
 show ∃ m,m < _∧I53 m _ _
 refine ⟨n53,Nat.lt_succ_self _,?_⟩
 exact ij hI53 ⟨i64 (i_48 + 2),x91,H96,v120,hL53,(Le.trans l52 hE96),((hS96 0 rfl).trans sf0),((hS96 2 rfl).trans sf2),((hS96 4 rfl).trans sf4),((hS96 5 rfl).trans sf5),((hS96 6 rfl).trans sf6),rfl,Z⟩
 have hB53:=(ite_f hc55).symm.trans hB53
 refine W_exit ?_
 obtain rfl:=so hB53
 obtain rfl:=so hL53
 exact rj hR53 ⟨i_48,g44_0_49,H51,v49_g44_0,rfl,l52,sf0,sf2,sf4,sf5,sf6,Z⟩
 intro f w_ hR
 obtain ⟨i_48,g44_0_49,H51,v49_g44_0,rfl,l52,sf0,sf2,sf4,sf5,sf6,Z⟩:=rk hR53 hR
 refine W_seq ?_
 obtain ⟨x124,hx124,hF⟩:=bind_some hF
 obtain ⟨x134,hx134,hF⟩:=bind_some hF
 refine W_region (mF sf4 rfl (mF sf5 rfl (L_sub rfl rfl rfl ?_)))
 obtain ⟨g137,cap_g137,hv138,_,_⟩:=Star.row 0 Z rfl hx124
 refine L_ixO (R:=(OR.frz RP.str)) (tb:=0) 0 rfl Tryz.underlying44 Tryz.sizeOf9 rfl hv138 (by first | rfl | simp) rfl hx124 ?_
 obtain ⟨cs139,hr139,hat139⟩:=Star.eltF 0 Z rfl hv138 hx124
 obtain rfl : _ = [_]:=hr139
 refine L_ld rfl Tryz.isAgg9 rfl (At.cell hat139 (j:=0) rfl) ?_
 obtain ⟨H141b,l142,s143,z144,k145⟩:=Z.borrow
 refine L_call rfl Tryz.call74 (ops1 rfl) (s_l17Num_c (s:=x124) s143 hx134) ?_
 rintro _ w146 ⟨rfl,Z⟩
 have Z:=k145 Z c0
 refine mV (.tuple #[I x134.1,Bo x134.2]) rfl (L_ex (v:=I x134.1) rfl rfl rfl (L_ex (v:=Bo x134.2) rfl rfl rfl (fA 1 fa_74_1 sf6 rfl (L_stB (v:=I x134.1) (cs2:=#[v49_g44_0,I x134.1]) 2 rfl Tryz.sizeOf3 rfl rfl rfl Z rfl rfl rfl (fun w147 Z=>L_nil (W_seq (W_seq ?_)))))))
 obtain ⟨x154,hx154,hF⟩:=bind_some hF
 refine W_region (L_lda (cs:=[v49_g44_0,I x134.1]) rfl Tryz.isAgg74 Tryz.sizeOf74 sf6 (At.sub0 (Blk.at (Star.blkAt 0 Z rfl)) 0 2) rfl ?_)
 obtain ⟨H156b,l157,s158,z159,k160⟩:=Z.borrow
 have hb161 : (rS 126 rTerm).rel H156b [v49_g44_0] g44_0_49:=fz_own 2 z159 rfl
 refine L_call rfl Tryz.call137 (ops1 rfl) (s_FormatConstraint_c (c:=({ terms:=g44_0_49,bound:=x134.1 } : Con)) s158 hb161 hx154) ?_
 rintro _ w162 ⟨rfl,Z⟩
 have Z:=k160 Z c0
 refine mF sf0 rfl (L_sneq (s:=x154) (s':=text) rfl rfl rfl (nn (W_cond (b:=(!(ByteArray.toList x154 == ByteArray.toList text))) rfl (fun hc163=>?_) (fun hc163=>?_))))
 have hF:=(ite_t hc163).symm.trans hF
 refine sq (L_bld rfl (parts0 ) (bld_74_  ) (L_staB (vs:=#[S0,I 0]) (cs2:=#[S0,I 0]) 3 rfl Tryz.sizeOf74 sf2 rfl rfl (ones_cons rfl (ones_cons rfl ones_nil)) Z rfl (by show 0 + 2≤2; decide) rfl (fun w165 Z=>aB rfl (nn (W_ret (retG2 (v1:=.agg #[S0,I 0]) (v2:=Bo false) Tryz.results102 (resV_agg Tryz.isAgg74 Tryz.sizeOf74 sf2 (Star.blkAt 0 Z rfl) rfl) rfl ?_))))))
 obtain rfl:=so hF
 have Z:=Star.addNil (R:=(OR.frz rTerm)) (e:=126) Z
 exact ⟨S0,rfl,(Star.down (Star.keepN 1 Z) l52 (co closed_term c0))⟩
 have hF:=(ite_f hc163).symm.trans hF
 refine W_skip (sq (L_lda (cs:=[v49_g44_0,I x134.1]) rfl Tryz.isAgg74 Tryz.sizeOf74 sf6 (At.sub0 (Blk.at (Star.blkAt 0 Z rfl)) 0 2) rfl (L_staB (vs:=#[v49_g44_0,I x134.1]) (cs2:=#[v49_g44_0,I x134.1]) 3 rfl Tryz.sizeOf74 sf2 rfl rfl (ones_cons (one_len (Star.len 2 Z rfl)) (ones_cons rfl ones_nil)) Z rfl (by show 0 + 2≤2; decide) rfl (fun w168 Z=>aB rfl (nn (W_ret (retG2 (v1:=.agg #[v49_g44_0,I x134.1]) (v2:=Bo true) Tryz.results102 (resV_agg Tryz.isAgg74 Tryz.sizeOf74 sf2 (Star.blkAt 0 Z rfl) rfl) rfl ?_)))))))
 obtain rfl:=so hF
 have Z:=Z.get 3 rfl
 exact ⟨v49_g44_0,rfl,(Star.down (Star.keepN 1 Z) l52 (co closed_term c0))⟩
theorem s_l4One_c {b : Bool} {H : FH} {w : World} (Z : Star H w []) {r : Int} (hF : s_l4One b = some r) :
 C Tryz.prog 103 #[Bo b] w fun v w'=>v = I r∧Star H w' []:=by
 unfold s_l4One at hF
 refine C_enter Tryz.func103 rfl Tryz.ntmps103 rfl (sq (aI rfl (nq (sq (mB rfl (nn (W_cond (b:=b) rfl (fun hc1=>?_) (fun hc1=>?_))))))))
 have hF:=(ite_t hc1).symm.trans hF
 refine sq (aI rfl (nn (W_ret (retG1 (v1:=I 1) Tryz.results103 rfl ?_))))
 obtain rfl:=so hF
 exact ⟨rfl,Z⟩
 have hF:=(ite_f hc1).symm.trans hF
 refine W_skip (sq (aI rfl (nn (W_ret (retG1 (v1:=I 0) Tryz.results103 rfl ?_)))))
 obtain rfl:=so hF
 exact ⟨rfl,Z⟩
theorem s_l4Parse_c {fu : Nat} {line : ByteArray} {H : FH} {w : World} (Z : Star H w []) {r : Step} (hF : s_l4Parse fu line = some r) :
 C Tryz.prog 57 #[.string line] w fun v w'=>∃ (u1 : Value),v = .agg #[I r.kind,I r.a,I r.b,u1,I r.given.bound]∧Star H w' [oF 126 rTerm u1 r.given.terms]:=by
 unfold s_l4Parse at hF
 refine C_enter Tryz.func57 rfl Tryz.ntmps57 rfl (sq (L_al (cs:=#[I 0,I 0,I 0,S0,I 0]) rfl Tryz.zeroValue76 rfl Z (fun g3 w4 Z=>nq ?_)))
 obtain ⟨x10,hx10,hF⟩:=bind_some hF
 refine W_region (mV (.string line) rfl ?_)
 obtain ⟨H13b,l14,s15,z16,k17⟩:=Z.borrow
 refine L_call rfl Tryz.call29 (ops2 rfl rfl) (s_l17Cut_c (s:=line) (c:=32) s15 hx10) ?_
 rintro r18_0 w18 ⟨_,rfl,Z⟩
 have Z:=k17 Z (co closed_str c0)
 refine aV r18_0 rfl (ns (L_bld rfl (parts0 ) (bld_76_  ) (L_al (cs:=#[I 0,I 0,I 0,S0,I 0]) rfl Tryz.zeroValue76 rfl Z (fun g23 w24 Z=>L_staB (vs:=#[I 0,I 0,I 0,S0,I 0]) (cs2:=#[I 0,I 0,I 0,S0,I 0]) 0 rfl Tryz.sizeOf76 rfl rfl rfl (ones_cons rfl (ones_cons rfl (ones_cons rfl (ones_cons rfl (ones_cons rfl ones_nil))))) Z rfl (by show 0 + 5≤5; decide) rfl (fun w25 Z=>nq ?_)))))
 obtain ⟨x31,hx31,hF⟩:=bind_some hF
 refine W_region ?_
 obtain ⟨H34b,l35,s36,z37,k38⟩:=Z.borrow
 refine L_call rfl Tryz.call101 ops0 (s_l4Words_c s36 hx31) ?_
 rintro r39_0 w39 ⟨_,rfl,Z⟩
 have Z:=k38 Z (co closed_str c0)
 refine aV r39_0 rfl (nq (sq (aI rfl (nn ?_))))
 obtain ⟨k46,hk46,hF⟩:=bind_some hF
 obtain ⟨j45,hL45,hF⟩:=bind_some hF
 obtain ⟨R45,hR45⟩:=exR fun f w_=>∃ g23_0_42 : Int,∃ H43 : FH,j45 = .nx g23_0_42∧Le H H43∧f 0 = .string line∧f 2 = Pt g3∧f 3 = r18_0∧f 4 = Pt g23∧Star H43 w_ ([oF 9 RP.str r18_0 x10,box g23 76 #[I g23_0_42,I 0,I 0,S0,I 0],box g3 76 #[I 0,I 0,I 0,S0,I 0]])
 refine W_join R45 ?_ ?_
 refine W_block ?_
 obtain ⟨I45,hI45⟩:=exI fun n f w_=>∃ i_41 : Nat,∃ suf45 : Nat,∃ g23_0_42 : Int,∃ H43 : FH,suf45 = n∧1≤i_41∧i_41 + suf45 = 1 + k46∧countL (s_l4Parse_b1 x10 x31) suf45 i_41 g23_0_42 = some j45∧Le H H43∧f 0 = .string line∧f 2 = Pt g3∧f 3 = r18_0∧f 4 = Pt g23∧f 5 = r39_0∧f 6 = I i_41∧Star H43 w_ ([oF 9 RP.str r18_0 x10,oF 9 RP.str r39_0 x31,box g23 76 #[I g23_0_42,I 0,I 0,S0,I 0],box g3 76 #[I 0,I 0,I 0,S0,I 0]])
 have Z:=Z.gets [3,2,2,3] rfl
 refine W_loop I45 (n:=k46) ?_ ?_
 exact ij hI45 ⟨1,k46,0,H,rfl,Nat.le_refl _,rfl,hL45,(Le.refl _),rfl,rfl,rfl,rfl,rfl,rfl,Z⟩
 intro n45 f w_ hI
 obtain ⟨i_41,suf45,g23_0_42,H43,rfl,hs45,hl45,hL45,l44,sf0,sf2,sf3,sf4,sf5,sf6,Z⟩:=ik hI45 hI
 refine W_seq (sq (mF sf6 rfl (mF sf5 rfl (L_len rfl Tryz.underlying44 rfl (Star.len 1 Z rfl) (L_lss rfl rfl rfl (nn (W_cond (b:=decide ((i_41 : Int) < (x31.length : Int))) rfl (fun hc47=>?_) (fun hc47=>?_))))))))
 have hlt45:=of_decide_eq_true hc47
 rcases suf45 with _ | rest45
 exact absurd hlt45 (cntF_no hl45 hk46)
 obtain ⟨o45,hB45,hL45⟩:=count_succ hL45
 rw [s_l4Parse_b1] at hB45
 refine W_skip (W_seq (W_block (W_seq ?_)))
 obtain ⟨x48,hx48,hB45⟩:=bind_some hB45
 obtain ⟨x53,hx53,hB45⟩:=bind_some hB45
 obtain ⟨g59,cap_g59,hv60,_,_⟩:=Star.row 0 Z rfl hx48
 obtain ⟨g63,cap_g63,hv64,_,_⟩:=Star.row 1 Z rfl hx53
 refine W_drawS 7 [isV (r18_0),isV (.pointer (some ⟨g59,Int.toNat 0 * 1,none⟩)),isV (.string x48),isV (r39_0),isV (I i_41),isV (.pointer (some ⟨g63,Int.toNat (i_41 : Int) * 1,none⟩)),isV (.string x53)] [oF 9 RP.str r18_0 x10,oF 9 RP.str r39_0 x31,box g23 76 #[I g23_0_42,I 0,I 0,S0,I 0],box g3 76 #[I 0,I 0,I 0,S0,I 0]] [] ([]) [([],[]),([],[]),([],[]),([],[]),([],[]),([],[]),([],[])] (S:=[]) Tryz_mix (by kernel_rfl) rfl (by kernel_rfl) (amF_cons (mono_V _) (amF_cons (mono_V _) (amF_cons (mono_V _) (amF_cons (mono_V _) (amF_cons (mono_V _) (amF_cons (mono_V _) (amF_cons (mono_V _) amF_nil))))))) Z ?_ (fun f w_ H58 hS58 hE58 hT58 Z=>?_)
 refine opsS_cons (fun f w_ _ _ s _ _ Z=>mF ((s 3 rfl).trans sf3) rfl (nO rfl rfl Z)) (opsS_cons (fun f w_ _ _ _ _ p Z=>L_ixO (R:=(OR.frz RP.str)) (tb:=0) 0 rfl Tryz.underlying44 Tryz.sizeOf9 (p 0 17 rfl rfl) hv60 (by first | rfl | simp) rfl hx48 (nO rfl rfl Z)) (opsS_cons ?_ ?_))
 intro f w_ H58 X58 hS58 hE58 hP58 Z
 obtain ⟨cs67,hr67,hat67⟩:=Star.eltF 0 Z rfl hv60 hx48
 obtain rfl : _ = [_]:=hr67
 refine L_ld rfl Tryz.isAgg9 (hP58 1 18 rfl rfl) (At.cell hat67 (j:=0) rfl) (L_nil ⟨rfl,_,_,rfl,Le.refl _,fun _ _=>rfl,Z⟩)
 refine opsS_cons (fun f w_ _ _ s _ _ Z=>mF ((s 5 rfl).trans sf5) rfl (nO rfl rfl Z)) (opsS_cons (fun f w_ _ _ s _ _ Z=>mF ((s 6 rfl).trans sf6) rfl (nO rfl rfl Z)) (opsS_cons (fun f w_ _ _ _ _ p Z=>L_ixO (R:=(OR.frz RP.str)) (tb:=0) 0 rfl Tryz.underlying44 Tryz.sizeOf9 (p 3 20 rfl rfl) hv64 (by first | rfl | simp) (p 4 21 rfl rfl) hx53 (nO rfl rfl Z)) (opsS_cons ?_ ?_)))
 intro f w_ H58 X58 hS58 hE58 hP58 Z
 obtain ⟨cs69,hr69,hat69⟩:=Star.eltF 1 Z rfl hv64 hx53
 obtain rfl : _ = [_]:=hr69
 refine L_ld rfl Tryz.isAgg9 (hP58 5 22 rfl rfl) (At.cell hat69 (j:=0) rfl) (L_nil ⟨rfl,_,_,rfl,Le.refl _,fun _ _=>rfl,Z⟩)
 exact opsS_nil
 refine L_seql (s:=x48) (s':=x53) rfl (hT58 2 19 rfl rfl) (hT58 6 23 rfl rfl) (nn ?_)
 obtain ⟨g23_0_71,hA72,hB45⟩:=bind_some hB45
 obtain ⟨R72,hR72⟩:=exR fun f w_=>f 0 = .string line∧f 2 = Pt g3∧f 3 = r18_0∧f 4 = Pt g23∧f 5 = r39_0∧f 6 = I i_41∧Star H58 w_ ([oF 9 RP.str r18_0 x10,oF 9 RP.str r39_0 x31,box g23 76 #[I g23_0_71,I 0,I 0,S0,I 0],box g3 76 #[I 0,I 0,I 0,S0,I 0]])
 refine W_join R72 ?_ ?_
 refine W_cond (b:=(ByteArray.toList x48 == ByteArray.toList x53)) rfl (fun hc73=>?_) (fun hc73=>?_)
 have hA72:=(ite_t hc73).symm.trans hA72
 refine W_region (mF ((hS58 6 rfl).trans sf6) rfl (fA 0 fa_76_0 ((hS58 4 rfl).trans sf4) rfl (L_stB (v:=I i_41) (cs2:=#[I i_41,I 0,I 0,S0,I 0]) 2 rfl Tryz.sizeOf3 rfl rfl rfl Z rfl rfl rfl (fun w75 Z=>nn ?_))))
 obtain rfl:=so hA72
 have Z:=Z.gets [3,1,3,3] rfl
 exact rj hR72 ⟨((hS58 0 rfl).trans sf0),((hS58 2 rfl).trans sf2),((hS58 3 rfl).trans sf3),((hS58 4 rfl).trans sf4),((hS58 5 rfl).trans sf5),((hS58 6 rfl).trans sf6),Z⟩
 have hA72:=(ite_f hc73).symm.trans hA72
 refine W_skip ?_
 obtain rfl:=so hA72
 exact rj hR72 ⟨((hS58 0 rfl).trans sf0),((hS58 2 rfl).trans sf2),((hS58 3 rfl).trans sf3),((hS58 4 rfl).trans sf4),((hS58 5 rfl).trans sf5),((hS58 6 rfl).trans sf6),Z⟩
 intro f w_ hR
 obtain ⟨sf0,sf2,sf3,sf4,sf5,sf6,Z⟩:=rk hR72 hR
 refine W_region (mF sf6 rfl (L_add rfl rfl rfl (aI rfl (nn ?_))))
 obtain rfl:=so hB45
 show ∃ m,m < _∧I45 m _ _
 refine ⟨rest45,Nat.lt_succ_self _,?_⟩
 exact ij hI45 ⟨i_41 + 1,rest45,g23_0_71,H58,rfl,by omega,by omega,hL45,(Le.trans l44 hE58),sf0,sf2,sf3,sf4,sf5,(Eq.trans rfl (congrArg (Value.int .i64) (i64_succ (n:=1 + k46) (by omega) (cntF_le hk46)))),Z⟩
 rcases suf45 with _ | _
 obtain rfl:=count_zero hL45
 refine W_exit ?_
 have Z:=Z.gets [3,3,2] rfl
 exact rj hR45 ⟨g23_0_42,H43,rfl,l44,sf0,sf2,sf3,sf4,(Star.keepN 3 Z)⟩
 exact absurd (cntF_yes hs45 hl45 hk46) (of_decide_eq_false hc47)
 intro f w_ hR
 obtain ⟨g23_0_42,H43,rfl,l44,sf0,sf2,sf3,sf4,Z⟩:=rk hR45 hR
 refine W_seq (sq (fA 0 fa_76_0 sf4 rfl (ldB 1 Z Tryz.isAgg3 rfl rfl rfl (L_eql rfl rfl rfl (nn (W_cond (b:=(g23_0_42 == 7)) rfl (fun hc76=>?_) (fun hc76=>?_)))))))
 have hF:=(ite_t hc76).symm.trans hF
 refine W_seq ?_
 obtain ⟨x77,hx77,hF⟩:=bind_some hF
 obtain ⟨x87,hx87,hF⟩:=bind_some hF
 obtain ⟨x89,hx89,hF⟩:=bind_some hF
 obtain ⟨x95,hx95,hF⟩:=bind_some hF
 obtain ⟨g100,cap_g100,hv101,_,_⟩:=Star.row 0 Z rfl hx77
 have Z:=Z.gets [1,2,2] rfl
 refine W_drawS 17 [isV (.string line),isV (r18_0),isV (.pointer (some ⟨g100,Int.toNat 0 * 1,none⟩)),isV (.string x77),isV (I (x77.size : Int)),isV (r18_0),isV (I (x10.length : Int)),isV (Bo (decide ((x10.length : Int) > 1))),isV (I x87),isV (I (i64 ((x77.size : Int) + x87))),isV (.string x89),tup2 (exA fun u_0=>isV (.agg #[u_0,I x95.1.bound])) (isV (Bo x95.2)),tup2 (exA fun u_0=>isV (.agg #[u_0,I x95.1.bound])) (isV (Bo x95.2)),exA fun u_0=>isV (.agg #[u_0,I x95.1.bound]),isV (Bo x95.2),isV (Pq g23 3),anyF] [oF 9 RP.str r18_0 x10,box g3 76 #[I 0,I 0,I 0,S0,I 0]] [.base (box g23 76 #[I g23_0_42,I 0,I 0,S0,I 0]) (some 16),.made 11 42 (fun v_=>own (OR.ownS 126 (OR.frz rTerm)) [(aggC (tupC v_ 0) 0)] x95.1.terms) (some 12),.made 12 30 (fun v_=>own (OR.ownS 126 (OR.frz rTerm)) [(aggC (tupC v_ 0) 0)] x95.1.terms) (some 13),.made 13 43 (fun v_=>oF 126 rTerm (aggC v_ 0) x95.1.terms) none,.madeN 16 [43] (fun vs_=>box g23 76 #[I g23_0_42,I 0,I 0,(aggC (vs_.getD 0 undef) 0),I x95.1.bound]) none] ([]) [([],[]),([],[]),([],[]),([],[]),([],[]),([],[]),([],[]),([],[]),([],[]),([],[]),([],[]),([],[1]),([1],[2]),([2],[3]),([],[]),([],[]),([0,3],[3,4])] (S:=[(none,[],some 16),(some 11,[42],some 12),(some 12,[30],some 13),(some 13,[43],none),(some 16,[43],none)]) Tryz_mix (by kernel_rfl) rfl (by kernel_rfl) (amF_cons (mono_V _) (amF_cons (mono_V _) (amF_cons (mono_V _) (amF_cons (mono_V _) (amF_cons (mono_V _) (amF_cons (mono_V _) (amF_cons (mono_V _) (amF_cons (mono_V _) (amF_cons (mono_V _) (amF_cons (mono_V _) (amF_cons (mono_V _) (amF_cons (mono_tup2 (mono_exA fun _=>mono_V _) (mono_V _)) (amF_cons (mono_tup2 (mono_exA fun _=>mono_V _) (mono_V _)) (amF_cons (mono_exA fun _=>mono_V _) (amF_cons (mono_V _) (amF_cons (mono_V _) (amF_cons (mono_any) amF_nil))))))))))))))))) Z ?_ (fun f w_ H99 hS99 hE99 hT99 Z=>?_)
 refine opsS_cons (fun f w_ _ _ s _ _ Z=>mF ((s 0 rfl).trans sf0) rfl (nO rfl rfl Z)) (opsS_cons (fun f w_ _ _ s _ _ Z=>mF ((s 3 rfl).trans sf3) rfl (nO rfl rfl Z)) (opsS_cons (fun f w_ _ _ _ _ p Z=>L_ixO (R:=(OR.frz RP.str)) (tb:=0) 0 rfl Tryz.underlying44 Tryz.sizeOf9 (p 1 32 rfl rfl) hv101 (by first | rfl | simp) rfl hx77 (nO rfl rfl Z)) (opsS_cons ?_ ?_)))
 intro f w_ H99 X99 hS99 hE99 hP99 Z
 obtain ⟨cs118,hr118,hat118⟩:=Star.eltF 0 Z rfl hv101 hx77
 obtain rfl : _ = [_]:=hr118
 refine L_ld rfl Tryz.isAgg9 (hP99 2 33 rfl rfl) (At.cell hat118 (j:=0) rfl) (L_nil ⟨rfl,_,_,rfl,Le.refl _,fun _ _=>rfl,Z⟩)
 refine opsS_cons (fun f w_ _ _ _ _ p Z=>L_slen (s:=x77) rfl Tryz.underlying9 (p 3 34 rfl rfl) (nO rfl rfl Z)) (opsS_cons (fun f w_ _ _ s _ _ Z=>mF ((s 3 rfl).trans sf3) rfl (nO rfl rfl Z)) (opsS_cons (fun f w_ _ _ _ _ p Z=>L_len rfl Tryz.underlying44 (p 5 36 rfl rfl) (Star.len 0 Z rfl) (nO rfl rfl Z)) (opsS_cons (fun f w_ _ _ _ _ p Z=>L_gtr rfl (p 6 37 rfl rfl) rfl (nO rfl rfl Z)) (opsS_cons ?_ ?_))))
 intro f w_ H99 X99 hS99 hE99 hP99 Z
 obtain ⟨H120b,l121,s122,z123,k124⟩:=Z.borrow
 refine L_call rfl Tryz.call103 (ops1 (hP99 7 38 rfl rfl)) (s_l4One_c (b:=decide ((x10.length : Int) > 1)) s122 hx87) ?_
 rintro _ w125 ⟨rfl,Z⟩
 have Z:=k124 Z c0
 exact L_nil ⟨rfl,_,_,rfl,Le.refl _,fun _ _=>rfl,Z⟩
 refine opsS_cons (fun f w_ _ _ _ _ p Z=>L_add rfl (p 4 35 rfl rfl) (p 8 39 rfl rfl) (nO rfl rfl Z)) (opsS_cons (fun f w_ _ _ _ _ p Z=>L_ssl (a:=i64 ((x77.size : Int) + x87)) (b:=(line.size : Int)) rfl Tryz.underlying9 (p 0 31 rfl rfl) (p 9 40 rfl rfl) rfl hx89 (nO rfl rfl Z)) (opsS_cons ?_ ?_))
 intro f w_ H99 X99 hS99 hE99 hP99 Z
 obtain ⟨H126b,l127,s128,z129,k130⟩:=Z.borrow
 refine L_call rfl Tryz.call102 (ops1 (hP99 10 41 rfl rfl)) (s_ParseConstraint_c (text:=x89) s128 hx95) ?_
 rintro _ w131 ⟨r131_0,rfl,Z⟩
 have Z:=k130 Z (co closed_term c0)
 have Z:=Z.gets [2,2] rfl
 exact L_nil ⟨rfl,_,_,rfl,Le.refl _,fun _ _=>⟨_,_,rfl,⟨_,rfl⟩,rfl⟩,Z⟩
 refine opsS_cons ?_ ?_
 intro f w_ H99 X99 hS99 hE99 hP99 Z
 have Z : Star H99 w_ (oF 9 RP.str r18_0 x10 :: box g3 76 #[I 0,I 0,I 0,S0,I 0] :: own (OR.ownS 126 (OR.frz rTerm)) [(aggC (tupC (f 42) 0) 0)] x95.1.terms :: X99):=Z
 obtain ⟨a133_0,a133_1,hv133,ht133_0,ht133_1⟩:=(hP99 11 42 rfl rfl)
 obtain ⟨u134_0,rfl⟩:=ht133_0
 obtain rfl:=ht133_1
 have hren : Star H99 w_ (oF 9 RP.str r18_0 x10 :: box g3 76 #[I 0,I 0,I 0,S0,I 0] :: own (OR.ownS 126 (OR.frz rTerm)) [(aggC (tupC (f 42) 0) 0)] x95.1.terms :: X99):=Z
 rw [hv133] at hren
 have Z : Star H99 w_ (oF 9 RP.str r18_0 x10 :: box g3 76 #[I 0,I 0,I 0,S0,I 0] :: oF 126 rTerm u134_0 x95.1.terms :: X99):=hren
 refine mF hv133 rfl (L_nil ⟨rfl,_,_,rfl,Le.refl _,fun _ _=>⟨_,_,rfl,⟨_,rfl⟩,rfl⟩,Z⟩)
 refine opsS_cons ?_ ?_
 intro f w_ H99 X99 hS99 hE99 hP99 Z
 have Z : Star H99 w_ (oF 9 RP.str r18_0 x10 :: box g3 76 #[I 0,I 0,I 0,S0,I 0] :: own (OR.ownS 126 (OR.frz rTerm)) [(aggC (tupC (f 30) 0) 0)] x95.1.terms :: X99):=Z
 obtain ⟨a135_0,a135_1,hv135,ht135_0,ht135_1⟩:=(hP99 12 30 rfl rfl)
 obtain ⟨u136_0,rfl⟩:=ht135_0
 obtain rfl:=ht135_1
 have hren : Star H99 w_ (oF 9 RP.str r18_0 x10 :: box g3 76 #[I 0,I 0,I 0,S0,I 0] :: own (OR.ownS 126 (OR.frz rTerm)) [(aggC (tupC (f 30) 0) 0)] x95.1.terms :: X99):=Z
 rw [hv135] at hren
 have Z : Star H99 w_ (oF 9 RP.str r18_0 x10 :: box g3 76 #[I 0,I 0,I 0,S0,I 0] :: oF 126 rTerm u136_0 x95.1.terms :: X99):=hren
 refine L_ex (v:=.agg #[u136_0,I x95.1.bound]) rfl hv135 rfl (L_nil ⟨rfl,_,_,rfl,Le.refl _,fun _ _=>⟨_,rfl⟩,Z⟩)
 refine opsS_cons ?_ ?_
 intro f w_ H99 X99 hS99 hE99 hP99 Z
 obtain ⟨a137_0,a137_1,hv137,ht137_0,ht137_1⟩:=(hP99 12 30 rfl rfl)
 obtain ⟨u138_0,rfl⟩:=ht137_0
 obtain rfl:=ht137_1
 refine L_ex (v:=Bo x95.2) rfl hv137 rfl (L_nil ⟨rfl,_,_,rfl,Le.refl _,fun _ _=>rfl,Z⟩)
 refine opsS_cons (fun f w_ _ _ s _ _ Z=>fA 3 fa_76_3 ((s 4 rfl).trans sf4) rfl (nO rfl rfl Z)) (opsS_cons ?_ ?_)
 intro f w_ H99 X99 hS99 hE99 hP99 Z
 have Z : Star H99 w_ (oF 9 RP.str r18_0 x10 :: box g3 76 #[I 0,I 0,I 0,S0,I 0] :: box g23 76 #[I g23_0_42,I 0,I 0,S0,I 0] :: own (OR.ownS 126 (OR.frz rTerm)) [(aggC (f 43) 0)] x95.1.terms :: X99):=Z
 obtain ⟨u139_0,hv139⟩:=(hP99 13 43 rfl rfl)
 have hren : Star H99 w_ (oF 9 RP.str r18_0 x10 :: box g3 76 #[I 0,I 0,I 0,S0,I 0] :: box g23 76 #[I g23_0_42,I 0,I 0,S0,I 0] :: own (OR.ownS 126 (OR.frz rTerm)) [(aggC (f 43) 0)] x95.1.terms :: X99):=Z
 rw [hv139] at hren
 have Z : Star H99 w_ (oF 9 RP.str r18_0 x10 :: box g3 76 #[I 0,I 0,I 0,S0,I 0] :: box g23 76 #[I g23_0_42,I 0,I 0,S0,I 0] :: oF 126 rTerm u139_0 x95.1.terms :: X99):=hren
 refine L_staB (vs:=#[u139_0,I x95.1.bound]) (cs2:=#[I g23_0_42,I 0,I 0,u139_0,I x95.1.bound]) 2 rfl Tryz.sizeOf74 (hP99 15 45 rfl rfl) hv139 rfl (ones_cons (one_len (Star.len 3 Z rfl)) (ones_cons rfl ones_nil)) Z rfl (by show 3 + 2≤5; decide) rfl (fun w140 Z=>?_)
 have Z:=Z.gets [3,3,3] rfl
 have Z : Star H99 w140 (oF 9 RP.str r18_0 x10 :: box g3 76 #[I 0,I 0,I 0,S0,I 0] :: own (OR.ownS 126 (OR.frz rTerm)) [(aggC (f 43) 0)] x95.1.terms :: box g23 76 #[I g23_0_42,I 0,I 0,(aggC (f 43) 0),I x95.1.bound] :: X99):=by rw [hv139]; exact Z
 exact L_nil ⟨rfl,Bo false,_,rfl,Le.refl _,(fun _ h=>nomatch h),Z⟩
 exact opsS_nil
 have Z : Star H99 w_ ([oF 9 RP.str r18_0 x10,box g3 76 #[I 0,I 0,I 0,S0,I 0],own (OR.ownS 126 (OR.frz rTerm)) [(aggC (f 43) 0)] x95.1.terms,box g23 76 #[I g23_0_42,I 0,I 0,(aggC (f 43) 0),I x95.1.bound]]):=Z
 refine L_nil (sq (L_lda (cs:=[I g23_0_42,I 0,I 0,(aggC (f 43) 0),I x95.1.bound]) rfl Tryz.isAgg76 Tryz.sizeOf76 ((hS99 4 rfl).trans sf4) (At.sub0 (Blk.at (Star.blkAt 3 Z rfl)) 0 5) rfl (L_staB (vs:=#[I g23_0_42,I 0,I 0,(aggC (f 43) 0),I x95.1.bound]) (cs2:=#[I g23_0_42,I 0,I 0,(aggC (f 43) 0),I x95.1.bound]) 1 rfl Tryz.sizeOf76 ((hS99 2 rfl).trans sf2) rfl rfl (ones_cons rfl (ones_cons rfl (ones_cons rfl (ones_cons (one_len (Star.len 2 Z rfl)) (ones_cons rfl ones_nil))))) Z rfl (by show 0 + 5≤5; decide) rfl (fun w142 Z=>nn (W_ret (retG1 (v1:=.agg #[I g23_0_42,I 0,I 0,(aggC (f 43) 0),I x95.1.bound]) Tryz.results57 (resV_agg Tryz.isAgg76 Tryz.sizeOf76 ((hS99 2 rfl).trans sf2) (Star.blkAt 0 Z rfl) rfl) ?_))))))
 obtain rfl:=so hF
 have Z:=Z.get 2 rfl
 exact ⟨(aggC (f 43) 0),rfl,(Star.down (Star.keepN 1 Z) (Le.trans l44 hE99) (co closed_term c0))⟩
 have hF:=(ite_f hc76).symm.trans hF
 refine W_skip (W_seq (sq (mF sf3 rfl (L_len rfl Tryz.underlying44 rfl (Star.len 0 Z rfl) (L_gtr rfl rfl rfl (nn ?_))))))
 obtain ⟨g23_1_143,hA144,hF⟩:=bind_some hF
 obtain ⟨R144,hR144⟩:=exR fun f w_=>f 2 = Pt g3∧f 3 = r18_0∧f 4 = Pt g23∧Star H43 w_ ([oF 9 RP.str r18_0 x10,box g23 76 #[I g23_0_42,I g23_1_143,I 0,S0,I 0],box g3 76 #[I 0,I 0,I 0,S0,I 0]])
 refine W_join R144 ?_ ?_
 refine W_cond (b:=decide ((x10.length : Int) > 1)) rfl (fun hc145=>?_) (fun hc145=>?_)
 have hA144:=(ite_t hc145).symm.trans hA144
 refine W_seq ?_
 obtain ⟨x146,hx146,hA144⟩:=bind_some hA144
 obtain ⟨x156,hx156,hA144⟩:=bind_some hA144
 refine W_region (mF sf3 rfl ?_)
 obtain ⟨g159,cap_g159,hv160,_,_⟩:=Star.row 0 Z rfl hx146
 refine L_ixO (R:=(OR.frz RP.str)) (tb:=0) 0 rfl Tryz.underlying44 Tryz.sizeOf9 rfl hv160 (by first | rfl | simp) rfl hx146 ?_
 obtain ⟨cs161,hr161,hat161⟩:=Star.eltF 0 Z rfl hv160 hx146
 obtain rfl : _ = [_]:=hr161
 refine L_ld rfl Tryz.isAgg9 rfl (At.cell hat161 (j:=0) rfl) ?_
 obtain ⟨H163b,l164,s165,z166,k167⟩:=Z.borrow
 refine L_call rfl Tryz.call74 (ops1 rfl) (s_l17Num_c (s:=x146) s165 hx156) ?_
 rintro _ w168 ⟨rfl,Z⟩
 have Z:=k167 Z c0
 refine mV (.tuple #[I x156.1,Bo x156.2]) rfl (L_ex (v:=I x156.1) rfl rfl rfl (L_ex (v:=Bo x156.2) rfl rfl rfl (fA 1 fa_76_1 sf4 rfl (L_stB (v:=I x156.1) (cs2:=#[I g23_0_42,I x156.1,I 0,S0,I 0]) 1 rfl Tryz.sizeOf3 rfl rfl rfl Z rfl rfl rfl (fun w169 Z=>ns (fA 0 fa_76_0 sf4 rfl (ldB 0 Z Tryz.isAgg3 rfl rfl rfl (L_eql rfl rfl rfl (nn ?_)))))))))
 obtain ⟨g23_1_170,hA171,hA144⟩:=bind_some hA144
 obtain ⟨R171,hR171⟩:=exR fun f w_=>f 2 = Pt g3∧f 3 = r18_0∧f 4 = Pt g23∧Star H43 w_ ([oF 9 RP.str r18_0 x10,box g23 76 #[I g23_0_42,I g23_1_170,I 0,S0,I 0],box g3 76 #[I 0,I 0,I 0,S0,I 0]])
 refine W_join R171 ?_ ?_
 refine W_cond (b:=(g23_0_42 == 6)) rfl (fun hc172=>?_) (fun hc172=>?_)
 have hA171:=(ite_t hc172).symm.trans hA171
 obtain ⟨x180,hx180,hA171⟩:=bind_some hA171
 refine W_region (mF sf3 rfl (L_ixO (R:=(OR.frz RP.str)) (tb:=0) 0 rfl Tryz.underlying44 Tryz.sizeOf9 rfl hv160 (by first | rfl | simp) rfl hx146 ?_))
 obtain ⟨cs183,hr183,hat183⟩:=Star.eltF 1 Z rfl hv160 hx146
 obtain rfl : _ = [_]:=hr183
 refine L_ld rfl Tryz.isAgg9 rfl (At.cell hat183 (j:=0) rfl) ?_
 obtain ⟨H185b,l186,s187,z188,k189⟩:=Z.borrow
 refine L_call rfl Tryz.call104 (ops1 rfl) (s_l1Literal_c (s:=x146) s187 hx180) ?_
 rintro _ w190 ⟨rfl,Z⟩
 have Z:=k189 Z c0
 refine fA 1 fa_76_1 sf4 rfl (L_stB (v:=I x180) (cs2:=#[I g23_0_42,I x180,I 0,S0,I 0]) 0 rfl Tryz.sizeOf3 rfl rfl rfl Z rfl rfl rfl (fun w191 Z=>nn ?_))
 obtain rfl:=so hA171
 have Z:=Z.gets [2,1,2] rfl
 exact rj hR171 ⟨sf2,sf3,sf4,Z⟩
 have hA171:=(ite_f hc172).symm.trans hA171
 refine W_skip ?_
 obtain rfl:=so hA171
 have Z:=Z.gets [2,1,2] rfl
 exact rj hR171 ⟨sf2,sf3,sf4,Z⟩
 intro f w_ hR
 obtain ⟨sf2,sf3,sf4,Z⟩:=rk hR171 hR
 obtain rfl:=so hA144
 exact rj hR144 ⟨sf2,sf3,sf4,Z⟩
 have hA144:=(ite_f hc145).symm.trans hA144
 refine W_skip ?_
 obtain rfl:=so hA144
 exact rj hR144 ⟨sf2,sf3,sf4,Z⟩
 intro f w_ hR
 obtain ⟨sf2,sf3,sf4,Z⟩:=rk hR144 hR
 refine W_seq (sq (mF sf3 rfl (L_len rfl Tryz.underlying44 rfl (Star.len 0 Z rfl) (L_gtr rfl rfl rfl (nn ?_)))))
 obtain ⟨g23_2_192,hA193,hF⟩:=bind_some hF
 obtain ⟨R193,hR193⟩:=exR fun f w_=>f 2 = Pt g3∧f 4 = Pt g23∧Star H43 w_ ([box g23 76 #[I g23_0_42,I g23_1_143,I g23_2_192,S0,I 0],box g3 76 #[I 0,I 0,I 0,S0,I 0]])
 refine W_join R193 ?_ ?_
 refine W_cond (b:=decide ((x10.length : Int) > 2)) rfl (fun hc194=>?_) (fun hc194=>?_)
 have hA193:=(ite_t hc194).symm.trans hA193
 obtain ⟨x195,hx195,hA193⟩:=bind_some hA193
 obtain ⟨x205,hx205,hA193⟩:=bind_some hA193
 refine W_region (mF sf3 rfl ?_)
 obtain ⟨g208,cap_g208,hv209,_,_⟩:=Star.row 0 Z rfl hx195
 refine L_ixO (R:=(OR.frz RP.str)) (tb:=0) 0 rfl Tryz.underlying44 Tryz.sizeOf9 rfl hv209 (by first | rfl | simp) rfl hx195 ?_
 obtain ⟨cs210,hr210,hat210⟩:=Star.eltF 0 Z rfl hv209 hx195
 obtain rfl : _ = [_]:=hr210
 refine L_ld rfl Tryz.isAgg9 rfl (At.cell hat210 (j:=0) rfl) ?_
 obtain ⟨H212b,l213,s214,z215,k216⟩:=Z.borrow
 refine L_call rfl Tryz.call74 (ops1 rfl) (s_l17Num_c (s:=x195) s214 hx205) ?_
 rintro _ w217 ⟨rfl,Z⟩
 have Z:=k216 Z c0
 refine mV (.tuple #[I x205.1,Bo x205.2]) rfl (L_ex (v:=I x205.1) rfl rfl rfl (L_ex (v:=Bo x205.2) rfl rfl rfl (fA 2 fa_76_2 sf4 rfl (L_stB (v:=I x205.1) (cs2:=#[I g23_0_42,I g23_1_143,I x205.1,S0,I 0]) 1 rfl Tryz.sizeOf3 rfl rfl rfl Z rfl rfl rfl (fun w218 Z=>nn ?_)))))
 obtain rfl:=so hA193
 have Z:=Z.gets [2,1] rfl
 exact rj hR193 ⟨sf2,sf4,(Star.keepN 2 Z)⟩
 have hA193:=(ite_f hc194).symm.trans hA193
 refine W_skip ?_
 obtain rfl:=so hA193
 have Z:=Z.gets [2,2] rfl
 exact rj hR193 ⟨sf2,sf4,(Star.keepN 2 Z)⟩
 intro f w_ hR
 obtain ⟨sf2,sf4,Z⟩:=rk hR193 hR
 refine sq (L_lda (cs:=[I g23_0_42,I g23_1_143,I g23_2_192,S0,I 0]) rfl Tryz.isAgg76 Tryz.sizeOf76 sf4 (At.sub0 (Blk.at (Star.blkAt 0 Z rfl)) 0 5) rfl (L_staB (vs:=#[I g23_0_42,I g23_1_143,I g23_2_192,S0,I 0]) (cs2:=#[I g23_0_42,I g23_1_143,I g23_2_192,S0,I 0]) 1 rfl Tryz.sizeOf76 sf2 rfl rfl (ones_cons rfl (ones_cons rfl (ones_cons rfl (ones_cons rfl (ones_cons rfl ones_nil))))) Z rfl (by show 0 + 5≤5; decide) rfl (fun w220 Z=>nn (W_ret (retG1 (v1:=.agg #[I g23_0_42,I g23_1_143,I g23_2_192,S0,I 0]) Tryz.results57 (resV_agg Tryz.isAgg76 Tryz.sizeOf76 sf2 (Star.blkAt 0 Z rfl) rfl) ?_)))))
 obtain rfl:=so hF
 have Z:=Star.addNil (R:=(OR.frz rTerm)) (e:=126) Z
 exact ⟨S0,rfl,(Star.down (Star.keepN 1 Z) l44 (co closed_term c0))⟩
theorem s_ParseProof_c {fu : Nat} {text : ByteArray} {H : FH} {w : World} (Z : Star H w []) {r : (List Step) × Bool} (hF : s_ParseProof fu text = some r) :
 C Tryz.prog 19 #[.string text] w fun v w'=>∃ (u1 : Value),v = .tuple #[u1,Bo r.2]∧Star H w' [oS 76 (oStep 126) u1 r.1]:=by
 unfold s_ParseProof at hF
 refine C_enter Tryz.func19 rfl Tryz.ntmps19 rfl (sq (aV S0 rfl (aB rfl (nq ?_))))
 obtain ⟨x6,hx6,hF⟩:=bind_some hF
 refine W_region (mV (.string text) rfl ?_)
 obtain ⟨H9b,l10,s11,z12,k13⟩:=Z.borrow
 refine L_call rfl Tryz.call29 (ops2 rfl rfl) (s_l17Cut_c (s:=text) (c:=10) s11 hx6) ?_
 rintro r14_0 w14 ⟨_,rfl,Z⟩
 have Z:=k13 Z (co closed_str c0)
 refine aV r14_0 rfl (ns (L_bs rfl parts0 (bs_37_0  ) Z (fun g19 w20 Z=>?_)))
 have Z:=Star.mkRow (R:=(OR.frz (rStep 126))) [] [] 0 Z rfl rfl rfl (by decide)
 refine aV (Sl g19 0 0) rfl (nq (sq (mV r14_0 rfl (L_len rfl Tryz.underlying44 rfl (Star.len 1 Z rfl) (L_gtr rfl rfl rfl (nn (W_cond (b:=decide ((x6.length : Int) > 1001)) rfl (fun hc22=>?_) (fun hc22=>?_))))))))
 have hF:=(ite_t hc22).symm.trans hF
 refine sq (mV (Sl g19 0 0) rfl (aV (Sl g19 0 0) rfl (aB rfl (nn (W_ret (retG2 (v1:=(Sl g19 0 0)) (v2:=Bo false) Tryz.results19 rfl rfl ?_))))))
 obtain rfl:=so hF
 have Z:=Star.recast (R:=(OR.frz (rStep 126))) (R':=(oStep 126)) rfl Z
 exact ⟨(Sl g19 0 0),rfl,(Star.keepN 1 Z)⟩
 have hF:=(ite_f hc22).symm.trans hF
 refine W_skip (W_seq (sq (aI rfl (nn ?_))))
 obtain ⟨j29,hL29,hF⟩:=bind_some hF
 obtain ⟨R29,hR29⟩:=exR fun f w_=>∃ out_26 : List Step,∃ i_28 : Int,∃ v26_out : Value,j29 = .nx (out_26,i_28)∧f 0 = .string text∧f 5 = v26_out∧Star H w_ ([oS 76 (oStep 126) v26_out out_26])
 refine W_join R29 ?_ ?_
 refine W_block ?_
 obtain ⟨I29,hI29⟩:=exI fun n f w_=>∃ out_26 : List Step,∃ i_28 : Int,∃ v26_out : Value,whileL (s_ParseProof_b1 fu x6) n (out_26,i_28) = some j29∧f 0 = .string text∧f 4 = r14_0∧f 5 = v26_out∧f 6 = I i_28∧Star H w_ ([oF 9 RP.str r14_0 x6,oS 76 (oStep 126) v26_out out_26])
 have Z:=Star.recast (R:=(OR.frz (rStep 126))) (R':=(oStep 126)) rfl Z
 have Z:=Z.get 1 rfl
 refine W_loop I29 (n:=fu) ?_ ?_
 exact ij hI29 ⟨[],0,(Sl g19 0 0),hL29,rfl,rfl,rfl,rfl,Z⟩
 intro n29 f w_ hI
 obtain ⟨out_26,i_28,v26_out,hL29,sf0,sf4,sf5,sf6,Z⟩:=ik hI29 hI
 rcases n29 with _ | n29
 exact (while_zero hL29).elim
 obtain ⟨o29,hB29,hL29⟩:=while_succ hL29
 rw [s_ParseProof_b1] at hB29
 refine W_seq (sq (mF sf6 rfl (L_add rfl rfl rfl (mF sf4 rfl (L_len rfl Tryz.underlying44 rfl (Star.len 0 Z rfl) (L_lss rfl rfl rfl (nn (W_cond (b:=decide ((i64 (i_28 + 1)) < (x6.length : Int))) rfl (fun hc30=>?_) (fun hc30=>?_)))))))))
 have hB29:=(ite_t hc30).symm.trans hB29
 refine W_skip (W_seq (W_block ?_))
 obtain ⟨x31,hx31,hB29⟩:=bind_some hB29
 obtain ⟨x41,hx41,hB29⟩:=bind_some hB29
 obtain ⟨x47,hx47,hB29⟩:=bind_some hB29
 refine W_region (mF sf5 rfl (mF sf4 rfl (mF sf6 rfl ?_)))
 obtain ⟨g51,cap_g51,hv52,_,_⟩:=Star.row 0 Z rfl hx31
 refine L_ixO (R:=(OR.frz RP.str)) (tb:=0) 0 rfl Tryz.underlying44 Tryz.sizeOf9 rfl hv52 (by first | rfl | simp) rfl hx31 ?_
 obtain ⟨cs53,hr53,hat53⟩:=Star.eltF 0 Z rfl hv52 hx31
 obtain rfl : _ = [_]:=hr53
 refine L_ld rfl Tryz.isAgg9 rfl (At.cell hat53 (j:=0) rfl) ?_
 obtain ⟨H55b,l56,s57,z58,k59⟩:=Z.borrow
 refine L_call rfl Tryz.call57 (ops1 rfl) (s_l4Parse_c (line:=x31) s57 hx41) ?_
 rintro _ w60 ⟨r60_0,rfl,Z⟩
 have Z:=k59 Z (co closed_term c0)
 refine L_bs rfl (parts1 rfl) (bs_37_1_5 (I x41.kind) (I x41.a) (I x41.b) (r60_0) (I x41.given.bound) ) Z (fun g62 w63 Z=>?_)
 have Z:=Z.get 1 rfl
 have Z:=oStep_close (s:=x41) Z
 have Z:=Star.mkRow (R:=(oStep 126)) [([I x41.kind,I x41.a,I x41.b,r60_0,I x41.given.bound],x41)] [x41] 1 Z rfl rfl rfl (by decide)
 have Z:=Z.get 2 rfl
 refine L_appM (v:=v26_out) (u:=(Sl g62 1 1)) rfl et_37 rfl rfl Z hx47 (fun v65 w66 Z=>aV v65 rfl (nn (W_region (mF sf6 rfl (L_add rfl rfl rfl (aI rfl (nn ?_)))))))
 obtain rfl:=so hB29
 have Z:=Z.get 1 rfl
 show ∃ m,m < _∧I29 m _ _
 refine ⟨n29,Nat.lt_succ_self _,?_⟩
 exact ij hI29 ⟨x47,i64 (i_28 + 1),v65,hL29,sf0,sf4,rfl,rfl,Z⟩
 have hB29:=(ite_f hc30).symm.trans hB29
 refine W_exit ?_
 obtain rfl:=so hB29
 obtain rfl:=so hL29
 have Z:=Z.get 1 rfl
 exact rj hR29 ⟨out_26,i_28,v26_out,rfl,sf0,sf5,(Star.keepN 1 Z)⟩
 intro f w_ hR
 obtain ⟨out_26,i_28,v26_out,rfl,sf0,sf5,Z⟩:=rk hR29 hR
 refine W_seq (W_seq ?_)
 obtain ⟨x74,hx74,hF⟩:=bind_some hF
 refine W_region (mF sf5 rfl ?_)
 obtain ⟨H76b,l77,s78,z79,k80⟩:=Z.borrow
 have hb81 : (rS 76 (rStep 126)).rel H76b [v26_out] out_26:=fz_own 0 z79 rfl
 refine L_call rfl Tryz.call26 (ops1 rfl) (s_FormatProof_c (steps:=out_26) s78 hb81 hx74) ?_
 rintro _ w82 ⟨rfl,Z⟩
 have Z:=k80 Z c0
 refine mF sf0 rfl (L_sneq (s:=x74) (s':=text) rfl rfl rfl (nn (W_cond (b:=(!(ByteArray.toList x74 == ByteArray.toList text))) rfl (fun hc83=>?_) (fun hc83=>?_))))
 have hF:=(ite_t hc83).symm.trans hF
 refine sq (L_bs rfl parts0 (bs_37_0  ) Z (fun g87 w88 Z=>?_))
 have Z:=Star.mkRow (R:=(OR.frz (rStep 126))) [] [] 0 Z rfl rfl rfl (by decide)
 refine aV (Sl g87 0 0) rfl (aB rfl (nn (W_ret (retG2 (v1:=(Sl g87 0 0)) (v2:=Bo false) Tryz.results19 rfl rfl ?_))))
 obtain rfl:=so hF
 have Z:=Star.recast (R:=(OR.frz (rStep 126))) (R':=(oStep 126)) rfl Z
 exact ⟨(Sl g87 0 0),rfl,(Star.keepN 1 Z)⟩
 have hF:=(ite_f hc83).symm.trans hF
 refine W_skip (sq (mF sf5 rfl (aV v26_out rfl (aB rfl (nn (W_ret (retG2 (v1:=v26_out) (v2:=Bo true) Tryz.results19 rfl rfl ?_)))))))
 obtain rfl:=so hF
 exact ⟨v26_out,rfl,Z⟩
theorem slices_Equal_implTerm_c {s1 : List Term} {s2 : List Term} {v0 : Value} {v1 : Value} {H : FH} {w : World} (Z : Star H w []) (h0 : (rS 126 rTerm).rel H [v0] s1) (h1 : (rS 126 rTerm).rel H [v1] s2) {r : Bool} (hF : slices_Equal_implTerm s1 s2 = some r) :
 C Tryz.prog 127 #[v0,v1] w fun v w'=>v = Bo r∧Star H w' []:=by
 unfold slices_Equal_implTerm at hF
 refine C_enter Tryz.func127 rfl Tryz.ntmps127 rfl (sq (aB rfl (nq (sq (mV v0 rfl (L_len rfl Tryz.underlying72 rfl (slice_len h0) (mV v1 rfl (L_len rfl Tryz.underlying72 rfl (slice_len h1) (L_neq rfl rfl rfl (nn (W_cond (b:=((s1.length : Int) != (s2.length : Int))) rfl (fun hc1=>?_) (fun hc1=>?_))))))))))))
 have hF:=(ite_t hc1).symm.trans hF
 refine sq (aB rfl (nn (W_ret (retG1 (v1:=Bo false) Tryz.results127 rfl ?_))))
 obtain rfl:=so hF
 exact ⟨rfl,Z⟩
 have hF:=(ite_f hc1).symm.trans hF
 refine W_skip (W_seq (sq (mV v0 rfl (L_len rfl Tryz.underlying72 rfl (slice_len h0) (mI rfl (nn ?_))))))
 have hlen5 : List.length s1≤9223372036854775807:=len_le (slice_len h0)
 obtain ⟨j5,hL5,hF⟩:=bind_some hF
 obtain ⟨R5,hR5⟩:=exR fun f w_=>∃ H3 : FH,j5 = .nx ()∧Le H H3∧Star H3 w_ ([])
 refine W_join R5 ?_ ?_
 refine W_block ?_
 obtain ⟨I5,hI5⟩:=exI fun n f w_=>∃ i_2 : Nat,∃ suf5 : List Term,∃ H3 : FH,n = suf5.length∧List.drop i_2 s1 = suf5∧i_2 + suf5.length = s1.length∧rangeL (slices_Equal_implTerm_b1 s2) suf5 i_2 () = some j5∧Le H H3∧f 0 = v0∧f 1 = v1∧f 12 = I (s1.length : Int)∧f 13 = I i_2∧Star H3 w_ ([])
 refine W_loop I5 (n:=s1.length) ?_ ?_
 exact ij hI5 ⟨0,s1,H,rfl,rfl,Nat.zero_add _,hL5,(Le.refl _),rfl,rfl,rfl,rfl,Z⟩
 intro n5 f w_ hI
 obtain ⟨i_2,suf5,H3,rfl,hd5,hl5,hL5,l4,sf0,sf1,sf12,sf13,Z⟩:=ik hI5 hI
 refine sq (L_lss rfl sf13 sf12 (nq (W_cond (b:=decide ((i_2 : Int) < (s1.length : Int))) rfl (fun hc6=>?_) (fun hc6=>?_))))
 have hlt5:=of_decide_eq_true hc6
 rcases suf5 with _ | ⟨x_5,rest5⟩
 exact absurd hlt5 (by simp at hl5; omega)
 obtain ⟨o5,hB5,hL5⟩:=range_cons hL5
 rw [slices_Equal_implTerm_b1] at hB5
 have hix5:=drop_idx hd5
 refine W_skip (W_seq (W_block (sq (mF sf13 rfl (aI rfl (nq ?_))))))
 obtain ⟨x11,hx11,hB5⟩:=bind_some hB5
 refine W_drawS 8 [isV (v0),isV (I i_2),isEl rTerm x_5 0,isV (.agg #[I x_5.coef,I x_5.lit]),isV (v1),isV (I i_2),isEl rTerm x11 0,isV (.agg #[I x11.coef,I x11.lit])] [] [] ([]) [([],[]),([],[]),([],[]),([],[]),([],[]),([],[]),([],[]),([],[])] (S:=[]) Tryz_mix (by kernel_rfl) rfl (by kernel_rfl) (amF_cons (mono_V _) (amF_cons (mono_V _) (amF_cons (mono_el _ _ _) (amF_cons (mono_V _) (amF_cons (mono_V _) (amF_cons (mono_V _) (amF_cons (mono_el _ _ _) (amF_cons (mono_V _) amF_nil)))))))) Z ?_ (fun f w_ H16 hS16 hE16 hT16 Z=>?_)
 refine opsS_cons (fun f w_ _ _ s _ _ Z=>mF ((s 0 rfl).trans sf0) rfl (nO rfl rfl Z)) (opsS_cons (fun f w_ _ _ s _ _ Z=>mF ((s 5 rfl).trans rfl) rfl (nO rfl rfl Z)) (opsS_cons ?_ ?_))
 intro f w_ H16 X16 hS16 hE16 hP16 Z
 refine L_ix (r:=rTerm) rfl Tryz.underlying72 Tryz.sizeOf126 (hP16 0 16 rfl rfl) (RP.mono _ h0 (Le.trans l4 hE16)) (hP16 1 17 rfl rfl) hix5 (fun g25 o26 cs_g25 hrk_hat27 hat27=>?_)
 obtain rfl:=rTerm_iff.1 hrk_hat27
 exact L_nil ⟨rfl,_,_,rfl,Le.refl _,fun _ _=>⟨_,_,_,rfl,hrk_hat27,hat27⟩,Z⟩
 refine opsS_cons ?_ ?_
 intro f w_ H16 X16 hS16 hE16 hP16 Z
 obtain ⟨g29,o29,cs29,hv29,hrk_hat29,hat29⟩:=(hP16 2 18 rfl rfl)
 obtain rfl:=rTerm_iff.1 hrk_hat29
 refine L_lda (cs:=[I x_5.coef,I x_5.lit]) rfl Tryz.isAgg126 Tryz.sizeOf126 hv29 (At.sub (AtH.at hat29 Z.sub) 0 2) rfl (L_nil ⟨rfl,_,_,rfl,Le.refl _,fun _ _=>rfl,Z⟩)
 refine opsS_cons (fun f w_ _ _ s _ _ Z=>mF ((s 1 rfl).trans sf1) rfl (nO rfl rfl Z)) (opsS_cons (fun f w_ _ _ s _ _ Z=>mF ((s 5 rfl).trans rfl) rfl (nO rfl rfl Z)) (opsS_cons ?_ ?_))
 intro f w_ H16 X16 hS16 hE16 hP16 Z
 refine L_ix (r:=rTerm) rfl Tryz.underlying72 Tryz.sizeOf126 (hP16 4 20 rfl rfl) (RP.mono _ h1 (Le.trans l4 hE16)) (hP16 5 21 rfl rfl) hx11 (fun g31 o32 cs_g31 hrk_hat33 hat33=>?_)
 obtain rfl:=rTerm_iff.1 hrk_hat33
 exact L_nil ⟨rfl,_,_,rfl,Le.refl _,fun _ _=>⟨_,_,_,rfl,hrk_hat33,hat33⟩,Z⟩
 refine opsS_cons ?_ ?_
 intro f w_ H16 X16 hS16 hE16 hP16 Z
 obtain ⟨g35,o35,cs35,hv35,hrk_hat35,hat35⟩:=(hP16 6 22 rfl rfl)
 obtain rfl:=rTerm_iff.1 hrk_hat35
 refine L_lda (cs:=[I x11.coef,I x11.lit]) rfl Tryz.isAgg126 Tryz.sizeOf126 hv35 (At.sub (AtH.at hat35 Z.sub) 0 2) rfl (L_nil ⟨rfl,_,_,rfl,Le.refl _,fun _ _=>rfl,Z⟩)
 exact opsS_nil
 refine L_tneq (x1:=x_5.coef) (x2:=x_5.lit) (y1:=x11.coef) (y2:=x11.lit) rfl termEq_126 (hT16 3 19 rfl rfl) (hT16 7 23 rfl rfl) (nn (W_cond (b:=(!(x_5 == x11))) rfl (fun hc37=>?_) (fun hc37=>?_)))
 have hB5:=(ite_t hc37).symm.trans hB5
 refine sq (aB rfl (nn (W_ret (retG1 (v1:=Bo false) Tryz.results127 rfl ?_))))
 obtain rfl:=so hB5
 obtain rfl:=so hL5
 obtain rfl:=so hF
 exact ⟨rfl,(Star.down Z (Le.trans l4 hE16) c0)⟩
 have hB5:=(ite_f hc37).symm.trans hB5
 refine W_skip (W_region (L_add rfl ((hS16 13 rfl).trans sf13) rfl (mI rfl (nn ?_))))
 obtain rfl:=so hB5
 show ∃ m,m < _∧I5 m _ _
 refine ⟨rest5.length,by simp,?_⟩
 exact ij hI5 ⟨i_2 + 1,rest5,H16,rfl,drop_next hd5,by simp at hl5; omega,hL5,(Le.trans l4 hE16),((hS16 0 rfl).trans sf0),((hS16 1 rfl).trans sf1),((hS16 12 rfl).trans sf12),(Eq.trans rfl (congrArg (Value.int .i64) (i64_succ (n:=s1.length) (by simp at hl5; omega) hlen5))),Z⟩
 rcases suf5 with _ | ⟨_,_⟩
 obtain rfl:=range_nil hL5
 refine W_exit (rj hR5 ⟨H3,rfl,l4,Z⟩)
 exact absurd (of_decide_eq_false hc6) (by simp at hl5; omega)
 intro f w_ hR
 obtain ⟨H3,rfl,l4,Z⟩:=rk hR5 hR
 refine sq (aB rfl (nn (W_ret (retG1 (v1:=Bo true) Tryz.results127 rfl ?_))))
 obtain rfl:=so hF
 exact ⟨rfl,(Star.down Z l4 c0)⟩
theorem i_ConstraintSame_c {a : Con} {b : Con} {v0_0 : Value} {v1_0 : Value} {H : FH} {w : World} (Z : Star H w []) (h0_0 : (rS 126 rTerm).rel H [v0_0] a.terms) (h1_0 : (rS 126 rTerm).rel H [v1_0] b.terms) {r : Bool} (hF : i_ConstraintSame a b = some r) :
 C Tryz.prog 72 #[.agg #[v0_0,I a.bound],.agg #[v1_0,I b.bound]] w fun v w'=>v = Bo r∧Star H w' []:=by
 unfold i_ConstraintSame at hF
 refine C_enter Tryz.func72 rfl Tryz.ntmps72 rfl (sq (L_box (v:=.agg #[v0_0,I a.bound]) (cs:=#[v0_0,I a.bound]) rfl rfl rfl Z (fun g5 w6 Z=>L_box (v:=.agg #[v1_0,I b.bound]) (cs:=#[v1_0,I b.bound]) rfl rfl rfl Z (fun g7 w8 Z=>aB rfl (nq ?_)))))
 obtain ⟨b16,hb16,hF⟩:=bind_some hF
 obtain ⟨R17,hR17⟩:=exR fun f w_=>f 4 = Bo b16∧Star H w_ ([])
 refine W_join R17 ?_ ?_
 refine W_region (fA 1 fa_74_1 rfl rfl (ldB 1 Z Tryz.isAgg3 rfl rfl rfl (fA 1 fa_74_1 rfl rfl (ldB 0 Z Tryz.isAgg3 rfl rfl rfl (L_eql rfl rfl rfl (mB rfl (L_split (d:=10) (b:=(a.bound == b.bound)) rfl (fun hc18=>?_) (fun hc18=>?_))))))))
 rw [ite_t hc18] at hb16
 obtain ⟨x14,hx14,hb16⟩:=bind_some hb16
 refine fA 0 fa_74_0 rfl rfl (ldB 1 Z Tryz.isAgg72 rfl rfl rfl (fA 0 fa_74_0 rfl rfl (ldB 0 Z Tryz.isAgg72 rfl rfl rfl ?_)))
 obtain ⟨H19b,l20,s21,z22,k23⟩:=Z.borrow
 refine L_call rfl Tryz.call127 (ops2 rfl rfl) (slices_Equal_implTerm_c (s1:=a.terms) (s2:=b.terms) s21 (RP.mono _ h0_0 l20) (RP.mono _ h1_0 l20) hx14) ?_
 rintro _ w24 ⟨rfl,Z⟩
 have Z:=k23 Z c0
 refine L_pick (v:=Bo b16) rfl rfl (congrArg Value.bool (so hb16)) (aB rfl (nn (rj hR17 ⟨rfl,(Star.keepN 0 Z)⟩)))
 rw [ite_f hc18] at hb16
 refine ps rfl (ps rfl (ps rfl (ps rfl (ps rfl (L_pick (v:=Bo b16) rfl rfl (congrArg Value.bool (so hb16)) (aB rfl (nn (rj hR17 ⟨rfl,(Star.keepN 0 Z)⟩))))))))
 intro f w_ hR
 obtain ⟨sf4,Z⟩:=rk hR17 hR
 refine W_ret (retG1 (v1:=Bo b16) Tryz.results72 sf4 ?_)
 obtain rfl:=so hF
 exact ⟨rfl,Z⟩
theorem i_refers_c {kind : Int} {H : FH} {w : World} (Z : Star H w []) {r : Int × Bool} (hF : i_refers kind = some r) :
 C Tryz.prog 118 #[I kind] w fun v w'=>v = .tuple #[I r.1,Bo r.2]∧Star H w' []:=by
 unfold i_refers at hF
 refine C_enter Tryz.func118 rfl Tryz.ntmps118 rfl (sq (aI rfl (aB rfl (nq (sq (mI rfl (nn (W_block (sq (L_eql rfl rfl rfl (aB rfl (nn (W_cond (b:=(kind == 1)) rfl (fun hc1=>?_) (fun hc1=>?_))))))))))))))
 have hF:=(ite_t hc1).symm.trans hF
 refine sq (aI rfl (aB rfl (nn (W_ret (retG2 (v1:=I 2) (v2:=Bo false) Tryz.results118 rfl rfl ?_)))))
 obtain rfl:=so hF
 exact ⟨rfl,Z⟩
 have hF:=(ite_f hc1).symm.trans hF
 refine W_seq (sq (L_eql rfl rfl rfl (aB rfl (nn ?_))))
 obtain ⟨t7_2,hA3,hF⟩:=bind_some hF
 obtain ⟨R3,hR3⟩:=exR fun f w_=>f 4 = I kind∧f 7 = Bo t7_2∧Star H w_ ([])
 refine W_join R3 ?_ ?_
 refine W_cond (b:=(kind == 2)) rfl (fun hc4=>?_) (fun hc4=>?_)
 have hA3:=(ite_t hc4).symm.trans hA3
 refine W_skip ?_
 obtain rfl:=so hA3
 exact rj hR3 ⟨rfl,rfl,Z⟩
 have hA3:=(ite_f hc4).symm.trans hA3
 refine sq (L_eql rfl rfl rfl (aB rfl (nn ?_)))
 obtain ⟨t7_5,hA6,hA3⟩:=bind_some hA3
 obtain ⟨R6,hR6⟩:=exR fun f w_=>f 4 = I kind∧f 7 = Bo t7_5∧Star H w_ ([])
 refine W_join R6 ?_ ?_
 refine W_cond (b:=(kind == 3)) rfl (fun hc7=>?_) (fun hc7=>?_)
 have hA6:=(ite_t hc7).symm.trans hA6
 refine W_skip ?_
 obtain rfl:=so hA6
 exact rj hR6 ⟨rfl,rfl,Z⟩
 have hA6:=(ite_f hc7).symm.trans hA6
 refine W_region (L_eql rfl rfl rfl (aB rfl (nn ?_)))
 obtain rfl:=so hA6
 exact rj hR6 ⟨rfl,rfl,Z⟩
 intro f w_ hR
 obtain ⟨sf4,sf7,Z⟩:=rk hR6 hR
 obtain rfl:=so hA3
 exact rj hR3 ⟨sf4,sf7,Z⟩
 intro f w_ hR
 obtain ⟨sf4,sf7,Z⟩:=rk hR3 hR
 refine W_cond (b:=t7_2) sf7 (fun hc8=>?_) (fun hc8=>?_)
 have hF:=(ite_t hc8).symm.trans hF
 refine sq (aI rfl (aB rfl (nn (W_ret (retG2 (v1:=I 1) (v2:=Bo true) Tryz.results118 rfl rfl ?_)))))
 obtain rfl:=so hF
 exact ⟨rfl,Z⟩
 have hF:=(ite_f hc8).symm.trans hF
 refine W_seq (sq (L_eql rfl sf4 rfl (aB rfl (nn ?_))))
 obtain ⟨t11_9,hA10,hF⟩:=bind_some hF
 obtain ⟨R10,hR10⟩:=exR fun f w_=>f 4 = I kind∧f 11 = Bo t11_9∧Star H w_ ([])
 refine W_join R10 ?_ ?_
 refine W_cond (b:=(kind == 4)) rfl (fun hc11=>?_) (fun hc11=>?_)
 have hA10:=(ite_t hc11).symm.trans hA10
 refine W_skip ?_
 obtain rfl:=so hA10
 exact rj hR10 ⟨sf4,rfl,Z⟩
 have hA10:=(ite_f hc11).symm.trans hA10
 refine W_region (L_eql rfl sf4 rfl (aB rfl (nn ?_)))
 obtain rfl:=so hA10
 exact rj hR10 ⟨sf4,rfl,Z⟩
 intro f w_ hR
 obtain ⟨sf4,sf11,Z⟩:=rk hR10 hR
 refine W_cond (b:=t11_9) sf11 (fun hc12=>?_) (fun hc12=>?_)
 have hF:=(ite_t hc12).symm.trans hF
 refine sq (aI rfl (aB rfl (nn (W_ret (retG2 (v1:=I 1) (v2:=Bo false) Tryz.results118 rfl rfl ?_)))))
 obtain rfl:=so hF
 exact ⟨rfl,Z⟩
 have hF:=(ite_f hc12).symm.trans hF
 refine W_seq (sq (L_eql rfl sf4 rfl (aB rfl (nn ?_))))
 obtain ⟨t14_13,hA14,hF⟩:=bind_some hF
 obtain ⟨R14,hR14⟩:=exR fun f w_=>f 14 = Bo t14_13∧Star H w_ ([])
 refine W_join R14 ?_ ?_
 refine W_cond (b:=(kind == 6)) rfl (fun hc15=>?_) (fun hc15=>?_)
 have hA14:=(ite_t hc15).symm.trans hA14
 refine W_skip ?_
 obtain rfl:=so hA14
 exact rj hR14 ⟨rfl,Z⟩
 have hA14:=(ite_f hc15).symm.trans hA14
 refine W_region (L_eql rfl sf4 rfl (aB rfl (nn ?_)))
 obtain rfl:=so hA14
 exact rj hR14 ⟨rfl,Z⟩
 intro f w_ hR
 obtain ⟨sf14,Z⟩:=rk hR14 hR
 refine W_cond (b:=t14_13) sf14 (fun hc16=>?_) (fun hc16=>?_)
 have hF:=(ite_t hc16).symm.trans hF
 refine sq (aI rfl (aB rfl (nn (W_ret (retG2 (v1:=I 0) (v2:=Bo false) Tryz.results118 rfl rfl ?_)))))
 obtain rfl:=so hF
 exact ⟨rfl,Z⟩
 have hF:=(ite_f hc16).symm.trans hF
 refine W_skip (sq (aI rfl (aB rfl (nn (W_ret (retG2 (v1:=I (-1)) (v2:=Bo false) Tryz.results118 rfl rfl ?_))))))
 obtain rfl:=so hF
 exact ⟨rfl,Z⟩
theorem i_Step_shaped_c {s : Step} {v0_3 : Value} {H : FH} {w : World} (Z : Star H w []) (h0_3 : (rS 126 rTerm).rel H [v0_3] s.given.terms) {r : Bool} (hF : i_Step_shaped s = some r) :
 C Tryz.prog 114 #[.agg #[I s.kind,I s.a,I s.b,v0_3,I s.given.bound]] w fun v w'=>v = Bo r∧Star H w' []:=by
 unfold i_Step_shaped at hF
 refine C_enter Tryz.func114 rfl Tryz.ntmps114 rfl (sq (L_box (v:=.agg #[I s.kind,I s.a,I s.b,v0_3,I s.given.bound]) (cs:=#[I s.kind,I s.a,I s.b,v0_3,I s.given.bound]) rfl rfl rfl Z (fun g3 w4 Z=>aB rfl (nq ?_))))
 obtain ⟨x10,hx10,hF⟩:=bind_some hF
 refine W_region (fA 0 fa_76_0 rfl rfl (ldB 0 Z Tryz.isAgg3 rfl rfl rfl ?_))
 obtain ⟨H12b,l13,s14,z15,k16⟩:=Z.borrow
 refine L_call rfl Tryz.call118 (ops1 rfl) (i_refers_c (kind:=s.kind) s14 hx10) ?_
 rintro _ w17 ⟨rfl,Z⟩
 have Z:=k16 Z c0
 refine mV (.tuple #[I x10.1,Bo x10.2]) rfl (L_ex (v:=I x10.1) rfl rfl rfl (L_ex (v:=Bo x10.2) rfl rfl rfl (aI rfl (aB rfl (nq ?_)))))
 obtain ⟨b26,hb26,hF⟩:=bind_some hF
 obtain ⟨R27,hR27⟩:=exR fun f w_=>f 2 = Bo b26∧Star H w_ ([])
 refine W_join R27 ?_ ?_
 refine W_region (mI rfl (L_geq rfl rfl rfl (mB rfl (L_split (d:=13) (b:=decide (x10.1 ≥ 0)) rfl (fun hc28=>?_) (fun hc28=>?_)))))
 refine mI rfl (L_gtr rfl rfl rfl (mB rfl (L_split (d:=16) (b:=decide (x10.1 > 0)) rfl (fun hc29=>?_) (fun hc29=>?_))))
 refine ps rfl (ps rfl (ps rfl (L_pick (v:=Bo ((decide (x10.1 > 0)) || (s.kind == 6))) rfl rfl (or_t hc29) (mB rfl (L_split (d:=21) (b:=((decide (x10.1 > 0)) || (s.kind == 6))) rfl (fun hc30=>?_) (fun hc30=>?_))))))
 refine ps rfl (ps rfl (ps rfl (L_pick (v:=Bo (((decide (x10.1 > 0)) || (s.kind == 6)) || (s.a == 0))) rfl rfl (or_t hc30) (L_pick (v:=Bo ((decide (x10.1 ≥ 0)) && (((decide (x10.1 > 0)) || (s.kind == 6)) || (s.a == 0)))) rfl rfl (and_t hc28 rfl) (mB rfl (L_split (d:=27) (b:=((decide (x10.1 ≥ 0)) && (((decide (x10.1 > 0)) || (s.kind == 6)) || (s.a == 0)))) rfl (fun hc31=>?_) (fun hc31=>?_)))))))
 refine mI rfl (L_eql rfl rfl rfl (mB rfl (L_split (d:=30) (b:=(x10.1 == 2)) rfl (fun hc32=>?_) (fun hc32=>?_))))
 refine ps rfl (L_pick (v:=Bo ((x10.1 == 2) || x10.2)) rfl rfl (or_t hc32) (mB rfl (L_split (d:=33) (b:=((x10.1 == 2) || x10.2)) rfl (fun hc33=>?_) (fun hc33=>?_))))
 refine ps rfl (ps rfl (ps rfl (L_pick (v:=Bo (((x10.1 == 2) || x10.2) || (s.b == 0))) rfl rfl (or_t hc33) (L_pick (v:=Bo (((decide (x10.1 ≥ 0)) && (((decide (x10.1 > 0)) || (s.kind == 6)) || (s.a == 0))) && (((x10.1 == 2) || x10.2) || (s.b == 0)))) rfl rfl (and_t hc31 rfl) (mB rfl (L_split (d:=39) (b:=(((decide (x10.1 ≥ 0)) && (((decide (x10.1 > 0)) || (s.kind == 6)) || (s.a == 0))) && (((x10.1 == 2) || x10.2) || (s.b == 0)))) rfl (fun hc34=>?_) (fun hc34=>?_)))))))
 rw [ite_t hc34] at hb26
 obtain ⟨b25,hb25,hb26⟩:=bind_some hb26
 refine fA 0 fa_76_0 rfl rfl (ldB 0 Z Tryz.isAgg3 rfl rfl rfl (L_eql rfl rfl rfl (mB rfl (L_split (d:=43) (b:=(s.kind == 7)) rfl (fun hc35=>?_) (fun hc35=>?_)))))
 rw [ite_t hc35] at hb25
 refine ps rfl (ps rfl (ps rfl (ps rfl (L_pick (v:=Bo b25) rfl rfl (congrArg Value.bool (so hb25)) (L_pick (v:=Bo b26) rfl rfl (congrArg Value.bool (so hb26)) (aB rfl (nn (rj hR27 ⟨rfl,(Star.keepN 0 Z)⟩))))))))
 rw [ite_f hc35] at hb25
 obtain ⟨x23,hx23,hb25⟩:=bind_some hb25
 refine fA 3 fa_76_3 rfl rfl (L_lda (cs:=[v0_3,I s.given.bound]) rfl Tryz.isAgg74 Tryz.sizeOf74 rfl (At.sub0 (Blk.at (Star.blkAt 0 Z rfl)) 3 2) rfl (L_bld rfl (parts0 ) (bld_74_  ) ?_))
 obtain ⟨H36b,l37,s38,z39,k40⟩:=Z.borrow
 refine L_call rfl Tryz.call72 (ops2 rfl rfl) (i_ConstraintSame_c (a:=s.given) (b:=({ terms:=[],bound:=0 } : Con)) s38 (RP.mono _ h0_3 l37) (rel_nil _ _ _) hx23) ?_
 rintro _ w41 ⟨rfl,Z⟩
 have Z:=k40 Z c0
 refine L_pick (v:=Bo b25) rfl rfl (congrArg Value.bool (so hb25)) (L_pick (v:=Bo b26) rfl rfl (congrArg Value.bool (so hb26)) (aB rfl (nn (rj hR27 ⟨rfl,(Star.keepN 0 Z)⟩))))
 rw [ite_f hc34] at hb26
 refine ps rfl (ps rfl (ps rfl (ps rfl (ps rfl (ps rfl (ps rfl (ps rfl (ps rfl (L_pick (v:=Bo b26) rfl rfl (congrArg Value.bool (so hb26)) (aB rfl (nn (rj hR27 ⟨rfl,(Star.keepN 0 Z)⟩))))))))))))
 exact boolNo (orT hc32) hc33
 refine mB rfl (L_pick (v:=Bo ((x10.1 == 2) || x10.2)) rfl rfl (or_f hc32 rfl) (mB rfl (L_split (d:=33) (b:=((x10.1 == 2) || x10.2)) rfl (fun hc42=>?_) (fun hc42=>?_))))
 refine ps rfl (ps rfl (ps rfl (L_pick (v:=Bo (((x10.1 == 2) || x10.2) || (s.b == 0))) rfl rfl (or_t hc42) (L_pick (v:=Bo (((decide (x10.1 ≥ 0)) && (((decide (x10.1 > 0)) || (s.kind == 6)) || (s.a == 0))) && (((x10.1 == 2) || x10.2) || (s.b == 0)))) rfl rfl (and_t hc31 rfl) (mB rfl (L_split (d:=39) (b:=(((decide (x10.1 ≥ 0)) && (((decide (x10.1 > 0)) || (s.kind == 6)) || (s.a == 0))) && (((x10.1 == 2) || x10.2) || (s.b == 0)))) rfl (fun hc43=>?_) (fun hc43=>?_)))))))
 rw [ite_t hc43] at hb26
 obtain ⟨b25,hb25,hb26⟩:=bind_some hb26
 refine fA 0 fa_76_0 rfl rfl (ldB 0 Z Tryz.isAgg3 rfl rfl rfl (L_eql rfl rfl rfl (mB rfl (L_split (d:=43) (b:=(s.kind == 7)) rfl (fun hc44=>?_) (fun hc44=>?_)))))
 rw [ite_t hc44] at hb25
 refine ps rfl (ps rfl (ps rfl (ps rfl (L_pick (v:=Bo b25) rfl rfl (congrArg Value.bool (so hb25)) (L_pick (v:=Bo b26) rfl rfl (congrArg Value.bool (so hb26)) (aB rfl (nn (rj hR27 ⟨rfl,(Star.keepN 0 Z)⟩))))))))
 rw [ite_f hc44] at hb25
 obtain ⟨x23,hx23,hb25⟩:=bind_some hb25
 refine fA 3 fa_76_3 rfl rfl (L_lda (cs:=[v0_3,I s.given.bound]) rfl Tryz.isAgg74 Tryz.sizeOf74 rfl (At.sub0 (Blk.at (Star.blkAt 0 Z rfl)) 3 2) rfl (L_bld rfl (parts0 ) (bld_74_  ) ?_))
 obtain ⟨H45b,l46,s47,z48,k49⟩:=Z.borrow
 refine L_call rfl Tryz.call72 (ops2 rfl rfl) (i_ConstraintSame_c (a:=s.given) (b:=({ terms:=[],bound:=0 } : Con)) s47 (RP.mono _ h0_3 l46) (rel_nil _ _ _) hx23) ?_
 rintro _ w50 ⟨rfl,Z⟩
 have Z:=k49 Z c0
 refine L_pick (v:=Bo b25) rfl rfl (congrArg Value.bool (so hb25)) (L_pick (v:=Bo b26) rfl rfl (congrArg Value.bool (so hb26)) (aB rfl (nn (rj hR27 ⟨rfl,(Star.keepN 0 Z)⟩))))
 rw [ite_f hc43] at hb26
 refine ps rfl (ps rfl (ps rfl (ps rfl (ps rfl (ps rfl (ps rfl (ps rfl (ps rfl (L_pick (v:=Bo b26) rfl rfl (congrArg Value.bool (so hb26)) (aB rfl (nn (rj hR27 ⟨rfl,(Star.keepN 0 Z)⟩))))))))))))
 refine fA 2 fa_76_2 rfl rfl (ldB 0 Z Tryz.isAgg3 rfl rfl rfl (L_eql rfl rfl rfl (L_pick (v:=Bo (((x10.1 == 2) || x10.2) || (s.b == 0))) rfl rfl (or_f hc42 rfl) (L_pick (v:=Bo (((decide (x10.1 ≥ 0)) && (((decide (x10.1 > 0)) || (s.kind == 6)) || (s.a == 0))) && (((x10.1 == 2) || x10.2) || (s.b == 0)))) rfl rfl (and_t hc31 rfl) (mB rfl (L_split (d:=39) (b:=(((decide (x10.1 ≥ 0)) && (((decide (x10.1 > 0)) || (s.kind == 6)) || (s.a == 0))) && (((x10.1 == 2) || x10.2) || (s.b == 0)))) rfl (fun hc51=>?_) (fun hc51=>?_)))))))
 rw [ite_t hc51] at hb26
 obtain ⟨b25,hb25,hb26⟩:=bind_some hb26
 refine fA 0 fa_76_0 rfl rfl (ldB 0 Z Tryz.isAgg3 rfl rfl rfl (L_eql rfl rfl rfl (mB rfl (L_split (d:=43) (b:=(s.kind == 7)) rfl (fun hc52=>?_) (fun hc52=>?_)))))
 rw [ite_t hc52] at hb25
 refine ps rfl (ps rfl (ps rfl (ps rfl (L_pick (v:=Bo b25) rfl rfl (congrArg Value.bool (so hb25)) (L_pick (v:=Bo b26) rfl rfl (congrArg Value.bool (so hb26)) (aB rfl (nn (rj hR27 ⟨rfl,(Star.keepN 0 Z)⟩))))))))
 rw [ite_f hc52] at hb25
 obtain ⟨x23,hx23,hb25⟩:=bind_some hb25
 refine fA 3 fa_76_3 rfl rfl (L_lda (cs:=[v0_3,I s.given.bound]) rfl Tryz.isAgg74 Tryz.sizeOf74 rfl (At.sub0 (Blk.at (Star.blkAt 0 Z rfl)) 3 2) rfl (L_bld rfl (parts0 ) (bld_74_  ) ?_))
 obtain ⟨H53b,l54,s55,z56,k57⟩:=Z.borrow
 refine L_call rfl Tryz.call72 (ops2 rfl rfl) (i_ConstraintSame_c (a:=s.given) (b:=({ terms:=[],bound:=0 } : Con)) s55 (RP.mono _ h0_3 l54) (rel_nil _ _ _) hx23) ?_
 rintro _ w58 ⟨rfl,Z⟩
 have Z:=k57 Z c0
 refine L_pick (v:=Bo b25) rfl rfl (congrArg Value.bool (so hb25)) (L_pick (v:=Bo b26) rfl rfl (congrArg Value.bool (so hb26)) (aB rfl (nn (rj hR27 ⟨rfl,(Star.keepN 0 Z)⟩))))
 rw [ite_f hc51] at hb26
 refine ps rfl (ps rfl (ps rfl (ps rfl (ps rfl (ps rfl (ps rfl (ps rfl (ps rfl (L_pick (v:=Bo b26) rfl rfl (congrArg Value.bool (so hb26)) (aB rfl (nn (rj hR27 ⟨rfl,(Star.keepN 0 Z)⟩))))))))))))
 refine ps rfl (ps rfl (ps rfl (ps rfl (ps rfl (ps rfl (ps rfl (ps rfl (ps rfl (ps rfl (L_pick (v:=Bo (((decide (x10.1 ≥ 0)) && (((decide (x10.1 > 0)) || (s.kind == 6)) || (s.a == 0))) && (((x10.1 == 2) || x10.2) || (s.b == 0)))) rfl rfl (and_f hc31) (mB rfl (L_split (d:=39) (b:=(((decide (x10.1 ≥ 0)) && (((decide (x10.1 > 0)) || (s.kind == 6)) || (s.a == 0))) && (((x10.1 == 2) || x10.2) || (s.b == 0)))) rfl (fun hc59=>?_) (fun hc59=>?_)))))))))))))
 exact boolNo hc59 (andF hc31)
 rw [ite_f hc59] at hb26
 refine ps rfl (ps rfl (ps rfl (ps rfl (ps rfl (ps rfl (ps rfl (ps rfl (ps rfl (L_pick (v:=Bo b26) rfl rfl (congrArg Value.bool (so hb26)) (aB rfl (nn (rj hR27 ⟨rfl,(Star.keepN 0 Z)⟩))))))))))))
 exact boolNo (orT hc29) hc30
 refine fA 0 fa_76_0 rfl rfl (ldB 0 Z Tryz.isAgg3 rfl rfl rfl (L_eql rfl rfl rfl (L_pick (v:=Bo ((decide (x10.1 > 0)) || (s.kind == 6))) rfl rfl (or_f hc29 rfl) (mB rfl (L_split (d:=21) (b:=((decide (x10.1 > 0)) || (s.kind == 6))) rfl (fun hc60=>?_) (fun hc60=>?_))))))
 refine ps rfl (ps rfl (ps rfl (L_pick (v:=Bo (((decide (x10.1 > 0)) || (s.kind == 6)) || (s.a == 0))) rfl rfl (or_t hc60) (L_pick (v:=Bo ((decide (x10.1 ≥ 0)) && (((decide (x10.1 > 0)) || (s.kind == 6)) || (s.a == 0)))) rfl rfl (and_t hc28 rfl) (mB rfl (L_split (d:=27) (b:=((decide (x10.1 ≥ 0)) && (((decide (x10.1 > 0)) || (s.kind == 6)) || (s.a == 0)))) rfl (fun hc61=>?_) (fun hc61=>?_)))))))
 refine mI rfl (L_eql rfl rfl rfl (mB rfl (L_split (d:=30) (b:=(x10.1 == 2)) rfl (fun hc62=>?_) (fun hc62=>?_))))
 refine ps rfl (L_pick (v:=Bo ((x10.1 == 2) || x10.2)) rfl rfl (or_t hc62) (mB rfl (L_split (d:=33) (b:=((x10.1 == 2) || x10.2)) rfl (fun hc63=>?_) (fun hc63=>?_))))
 refine ps rfl (ps rfl (ps rfl (L_pick (v:=Bo (((x10.1 == 2) || x10.2) || (s.b == 0))) rfl rfl (or_t hc63) (L_pick (v:=Bo (((decide (x10.1 ≥ 0)) && (((decide (x10.1 > 0)) || (s.kind == 6)) || (s.a == 0))) && (((x10.1 == 2) || x10.2) || (s.b == 0)))) rfl rfl (and_t hc61 rfl) (mB rfl (L_split (d:=39) (b:=(((decide (x10.1 ≥ 0)) && (((decide (x10.1 > 0)) || (s.kind == 6)) || (s.a == 0))) && (((x10.1 == 2) || x10.2) || (s.b == 0)))) rfl (fun hc64=>?_) (fun hc64=>?_)))))))
 rw [ite_t hc64] at hb26
 obtain ⟨b25,hb25,hb26⟩:=bind_some hb26
 refine fA 0 fa_76_0 rfl rfl (ldB 0 Z Tryz.isAgg3 rfl rfl rfl (L_eql rfl rfl rfl (mB rfl (L_split (d:=43) (b:=(s.kind == 7)) rfl (fun hc65=>?_) (fun hc65=>?_)))))
 rw [ite_t hc65] at hb25
 refine ps rfl (ps rfl (ps rfl (ps rfl (L_pick (v:=Bo b25) rfl rfl (congrArg Value.bool (so hb25)) (L_pick (v:=Bo b26) rfl rfl (congrArg Value.bool (so hb26)) (aB rfl (nn (rj hR27 ⟨rfl,(Star.keepN 0 Z)⟩))))))))
 rw [ite_f hc65] at hb25
 obtain ⟨x23,hx23,hb25⟩:=bind_some hb25
 refine fA 3 fa_76_3 rfl rfl (L_lda (cs:=[v0_3,I s.given.bound]) rfl Tryz.isAgg74 Tryz.sizeOf74 rfl (At.sub0 (Blk.at (Star.blkAt 0 Z rfl)) 3 2) rfl (L_bld rfl (parts0 ) (bld_74_  ) ?_))
 obtain ⟨H66b,l67,s68,z69,k70⟩:=Z.borrow
 refine L_call rfl Tryz.call72 (ops2 rfl rfl) (i_ConstraintSame_c (a:=s.given) (b:=({ terms:=[],bound:=0 } : Con)) s68 (RP.mono _ h0_3 l67) (rel_nil _ _ _) hx23) ?_
 rintro _ w71 ⟨rfl,Z⟩
 have Z:=k70 Z c0
 refine L_pick (v:=Bo b25) rfl rfl (congrArg Value.bool (so hb25)) (L_pick (v:=Bo b26) rfl rfl (congrArg Value.bool (so hb26)) (aB rfl (nn (rj hR27 ⟨rfl,(Star.keepN 0 Z)⟩))))
 rw [ite_f hc64] at hb26
 refine ps rfl (ps rfl (ps rfl (ps rfl (ps rfl (ps rfl (ps rfl (ps rfl (ps rfl (L_pick (v:=Bo b26) rfl rfl (congrArg Value.bool (so hb26)) (aB rfl (nn (rj hR27 ⟨rfl,(Star.keepN 0 Z)⟩))))))))))))
 exact boolNo (orT hc62) hc63
 refine mB rfl (L_pick (v:=Bo ((x10.1 == 2) || x10.2)) rfl rfl (or_f hc62 rfl) (mB rfl (L_split (d:=33) (b:=((x10.1 == 2) || x10.2)) rfl (fun hc72=>?_) (fun hc72=>?_))))
 refine ps rfl (ps rfl (ps rfl (L_pick (v:=Bo (((x10.1 == 2) || x10.2) || (s.b == 0))) rfl rfl (or_t hc72) (L_pick (v:=Bo (((decide (x10.1 ≥ 0)) && (((decide (x10.1 > 0)) || (s.kind == 6)) || (s.a == 0))) && (((x10.1 == 2) || x10.2) || (s.b == 0)))) rfl rfl (and_t hc61 rfl) (mB rfl (L_split (d:=39) (b:=(((decide (x10.1 ≥ 0)) && (((decide (x10.1 > 0)) || (s.kind == 6)) || (s.a == 0))) && (((x10.1 == 2) || x10.2) || (s.b == 0)))) rfl (fun hc73=>?_) (fun hc73=>?_)))))))
 rw [ite_t hc73] at hb26
 obtain ⟨b25,hb25,hb26⟩:=bind_some hb26
 refine fA 0 fa_76_0 rfl rfl (ldB 0 Z Tryz.isAgg3 rfl rfl rfl (L_eql rfl rfl rfl (mB rfl (L_split (d:=43) (b:=(s.kind == 7)) rfl (fun hc74=>?_) (fun hc74=>?_)))))
 rw [ite_t hc74] at hb25
 refine ps rfl (ps rfl (ps rfl (ps rfl (L_pick (v:=Bo b25) rfl rfl (congrArg Value.bool (so hb25)) (L_pick (v:=Bo b26) rfl rfl (congrArg Value.bool (so hb26)) (aB rfl (nn (rj hR27 ⟨rfl,(Star.keepN 0 Z)⟩))))))))
 rw [ite_f hc74] at hb25
 obtain ⟨x23,hx23,hb25⟩:=bind_some hb25
 refine fA 3 fa_76_3 rfl rfl (L_lda (cs:=[v0_3,I s.given.bound]) rfl Tryz.isAgg74 Tryz.sizeOf74 rfl (At.sub0 (Blk.at (Star.blkAt 0 Z rfl)) 3 2) rfl (L_bld rfl (parts0 ) (bld_74_  ) ?_))
 obtain ⟨H75b,l76,s77,z78,k79⟩:=Z.borrow
 refine L_call rfl Tryz.call72 (ops2 rfl rfl) (i_ConstraintSame_c (a:=s.given) (b:=({ terms:=[],bound:=0 } : Con)) s77 (RP.mono _ h0_3 l76) (rel_nil _ _ _) hx23) ?_
 rintro _ w80 ⟨rfl,Z⟩
 have Z:=k79 Z c0
 refine L_pick (v:=Bo b25) rfl rfl (congrArg Value.bool (so hb25)) (L_pick (v:=Bo b26) rfl rfl (congrArg Value.bool (so hb26)) (aB rfl (nn (rj hR27 ⟨rfl,(Star.keepN 0 Z)⟩))))
 rw [ite_f hc73] at hb26
 refine ps rfl (ps rfl (ps rfl (ps rfl (ps rfl (ps rfl (ps rfl (ps rfl (ps rfl (L_pick (v:=Bo b26) rfl rfl (congrArg Value.bool (so hb26)) (aB rfl (nn (rj hR27 ⟨rfl,(Star.keepN 0 Z)⟩))))))))))))
 refine fA 2 fa_76_2 rfl rfl (ldB 0 Z Tryz.isAgg3 rfl rfl rfl (L_eql rfl rfl rfl (L_pick (v:=Bo (((x10.1 == 2) || x10.2) || (s.b == 0))) rfl rfl (or_f hc72 rfl) (L_pick (v:=Bo (((decide (x10.1 ≥ 0)) && (((decide (x10.1 > 0)) || (s.kind == 6)) || (s.a == 0))) && (((x10.1 == 2) || x10.2) || (s.b == 0)))) rfl rfl (and_t hc61 rfl) (mB rfl (L_split (d:=39) (b:=(((decide (x10.1 ≥ 0)) && (((decide (x10.1 > 0)) || (s.kind == 6)) || (s.a == 0))) && (((x10.1 == 2) || x10.2) || (s.b == 0)))) rfl (fun hc81=>?_) (fun hc81=>?_)))))))
 rw [ite_t hc81] at hb26
 obtain ⟨b25,hb25,hb26⟩:=bind_some hb26
 refine fA 0 fa_76_0 rfl rfl (ldB 0 Z Tryz.isAgg3 rfl rfl rfl (L_eql rfl rfl rfl (mB rfl (L_split (d:=43) (b:=(s.kind == 7)) rfl (fun hc82=>?_) (fun hc82=>?_)))))
 rw [ite_t hc82] at hb25
 refine ps rfl (ps rfl (ps rfl (ps rfl (L_pick (v:=Bo b25) rfl rfl (congrArg Value.bool (so hb25)) (L_pick (v:=Bo b26) rfl rfl (congrArg Value.bool (so hb26)) (aB rfl (nn (rj hR27 ⟨rfl,(Star.keepN 0 Z)⟩))))))))
 rw [ite_f hc82] at hb25
 obtain ⟨x23,hx23,hb25⟩:=bind_some hb25
 refine fA 3 fa_76_3 rfl rfl (L_lda (cs:=[v0_3,I s.given.bound]) rfl Tryz.isAgg74 Tryz.sizeOf74 rfl (At.sub0 (Blk.at (Star.blkAt 0 Z rfl)) 3 2) rfl (L_bld rfl (parts0 ) (bld_74_  ) ?_))
 obtain ⟨H83b,l84,s85,z86,k87⟩:=Z.borrow
 refine L_call rfl Tryz.call72 (ops2 rfl rfl) (i_ConstraintSame_c (a:=s.given) (b:=({ terms:=[],bound:=0 } : Con)) s85 (RP.mono _ h0_3 l84) (rel_nil _ _ _) hx23) ?_
 rintro _ w88 ⟨rfl,Z⟩
 have Z:=k87 Z c0
 refine L_pick (v:=Bo b25) rfl rfl (congrArg Value.bool (so hb25)) (L_pick (v:=Bo b26) rfl rfl (congrArg Value.bool (so hb26)) (aB rfl (nn (rj hR27 ⟨rfl,(Star.keepN 0 Z)⟩))))
 rw [ite_f hc81] at hb26
 refine ps rfl (ps rfl (ps rfl (ps rfl (ps rfl (ps rfl (ps rfl (ps rfl (ps rfl (L_pick (v:=Bo b26) rfl rfl (congrArg Value.bool (so hb26)) (aB rfl (nn (rj hR27 ⟨rfl,(Star.keepN 0 Z)⟩))))))))))))
 refine ps rfl (ps rfl (ps rfl (ps rfl (ps rfl (ps rfl (ps rfl (ps rfl (ps rfl (ps rfl (L_pick (v:=Bo (((decide (x10.1 ≥ 0)) && (((decide (x10.1 > 0)) || (s.kind == 6)) || (s.a == 0))) && (((x10.1 == 2) || x10.2) || (s.b == 0)))) rfl rfl (and_f hc61) (mB rfl (L_split (d:=39) (b:=(((decide (x10.1 ≥ 0)) && (((decide (x10.1 > 0)) || (s.kind == 6)) || (s.a == 0))) && (((x10.1 == 2) || x10.2) || (s.b == 0)))) rfl (fun hc89=>?_) (fun hc89=>?_)))))))))))))
 exact boolNo hc89 (andF hc61)
 rw [ite_f hc89] at hb26
 refine ps rfl (ps rfl (ps rfl (ps rfl (ps rfl (ps rfl (ps rfl (ps rfl (ps rfl (L_pick (v:=Bo b26) rfl rfl (congrArg Value.bool (so hb26)) (aB rfl (nn (rj hR27 ⟨rfl,(Star.keepN 0 Z)⟩))))))))))))
 refine fA 1 fa_76_1 rfl rfl (ldB 0 Z Tryz.isAgg3 rfl rfl rfl (L_eql rfl rfl rfl (L_pick (v:=Bo (((decide (x10.1 > 0)) || (s.kind == 6)) || (s.a == 0))) rfl rfl (or_f hc60 rfl) (L_pick (v:=Bo ((decide (x10.1 ≥ 0)) && (((decide (x10.1 > 0)) || (s.kind == 6)) || (s.a == 0)))) rfl rfl (and_t hc28 rfl) (mB rfl (L_split (d:=27) (b:=((decide (x10.1 ≥ 0)) && (((decide (x10.1 > 0)) || (s.kind == 6)) || (s.a == 0)))) rfl (fun hc90=>?_) (fun hc90=>?_)))))))
 refine mI rfl (L_eql rfl rfl rfl (mB rfl (L_split (d:=30) (b:=(x10.1 == 2)) rfl (fun hc91=>?_) (fun hc91=>?_))))
 refine ps rfl (L_pick (v:=Bo ((x10.1 == 2) || x10.2)) rfl rfl (or_t hc91) (mB rfl (L_split (d:=33) (b:=((x10.1 == 2) || x10.2)) rfl (fun hc92=>?_) (fun hc92=>?_))))
 refine ps rfl (ps rfl (ps rfl (L_pick (v:=Bo (((x10.1 == 2) || x10.2) || (s.b == 0))) rfl rfl (or_t hc92) (L_pick (v:=Bo (((decide (x10.1 ≥ 0)) && (((decide (x10.1 > 0)) || (s.kind == 6)) || (s.a == 0))) && (((x10.1 == 2) || x10.2) || (s.b == 0)))) rfl rfl (and_t hc90 rfl) (mB rfl (L_split (d:=39) (b:=(((decide (x10.1 ≥ 0)) && (((decide (x10.1 > 0)) || (s.kind == 6)) || (s.a == 0))) && (((x10.1 == 2) || x10.2) || (s.b == 0)))) rfl (fun hc93=>?_) (fun hc93=>?_)))))))
 rw [ite_t hc93] at hb26
 obtain ⟨b25,hb25,hb26⟩:=bind_some hb26
 refine fA 0 fa_76_0 rfl rfl (ldB 0 Z Tryz.isAgg3 rfl rfl rfl (L_eql rfl rfl rfl (mB rfl (L_split (d:=43) (b:=(s.kind == 7)) rfl (fun hc94=>?_) (fun hc94=>?_)))))
 rw [ite_t hc94] at hb25
 refine ps rfl (ps rfl (ps rfl (ps rfl (L_pick (v:=Bo b25) rfl rfl (congrArg Value.bool (so hb25)) (L_pick (v:=Bo b26) rfl rfl (congrArg Value.bool (so hb26)) (aB rfl (nn (rj hR27 ⟨rfl,(Star.keepN 0 Z)⟩))))))))
 rw [ite_f hc94] at hb25
 obtain ⟨x23,hx23,hb25⟩:=bind_some hb25
 refine fA 3 fa_76_3 rfl rfl (L_lda (cs:=[v0_3,I s.given.bound]) rfl Tryz.isAgg74 Tryz.sizeOf74 rfl (At.sub0 (Blk.at (Star.blkAt 0 Z rfl)) 3 2) rfl (L_bld rfl (parts0 ) (bld_74_  ) ?_))
 obtain ⟨H95b,l96,s97,z98,k99⟩:=Z.borrow
 refine L_call rfl Tryz.call72 (ops2 rfl rfl) (i_ConstraintSame_c (a:=s.given) (b:=({ terms:=[],bound:=0 } : Con)) s97 (RP.mono _ h0_3 l96) (rel_nil _ _ _) hx23) ?_
 rintro _ w100 ⟨rfl,Z⟩
 have Z:=k99 Z c0
 refine L_pick (v:=Bo b25) rfl rfl (congrArg Value.bool (so hb25)) (L_pick (v:=Bo b26) rfl rfl (congrArg Value.bool (so hb26)) (aB rfl (nn (rj hR27 ⟨rfl,(Star.keepN 0 Z)⟩))))
 rw [ite_f hc93] at hb26
 refine ps rfl (ps rfl (ps rfl (ps rfl (ps rfl (ps rfl (ps rfl (ps rfl (ps rfl (L_pick (v:=Bo b26) rfl rfl (congrArg Value.bool (so hb26)) (aB rfl (nn (rj hR27 ⟨rfl,(Star.keepN 0 Z)⟩))))))))))))
 exact boolNo (orT hc91) hc92
 refine mB rfl (L_pick (v:=Bo ((x10.1 == 2) || x10.2)) rfl rfl (or_f hc91 rfl) (mB rfl (L_split (d:=33) (b:=((x10.1 == 2) || x10.2)) rfl (fun hc101=>?_) (fun hc101=>?_))))
 refine ps rfl (ps rfl (ps rfl (L_pick (v:=Bo (((x10.1 == 2) || x10.2) || (s.b == 0))) rfl rfl (or_t hc101) (L_pick (v:=Bo (((decide (x10.1 ≥ 0)) && (((decide (x10.1 > 0)) || (s.kind == 6)) || (s.a == 0))) && (((x10.1 == 2) || x10.2) || (s.b == 0)))) rfl rfl (and_t hc90 rfl) (mB rfl (L_split (d:=39) (b:=(((decide (x10.1 ≥ 0)) && (((decide (x10.1 > 0)) || (s.kind == 6)) || (s.a == 0))) && (((x10.1 == 2) || x10.2) || (s.b == 0)))) rfl (fun hc102=>?_) (fun hc102=>?_)))))))
 rw [ite_t hc102] at hb26
 obtain ⟨b25,hb25,hb26⟩:=bind_some hb26
 refine fA 0 fa_76_0 rfl rfl (ldB 0 Z Tryz.isAgg3 rfl rfl rfl (L_eql rfl rfl rfl (mB rfl (L_split (d:=43) (b:=(s.kind == 7)) rfl (fun hc103=>?_) (fun hc103=>?_)))))
 rw [ite_t hc103] at hb25
 refine ps rfl (ps rfl (ps rfl (ps rfl (L_pick (v:=Bo b25) rfl rfl (congrArg Value.bool (so hb25)) (L_pick (v:=Bo b26) rfl rfl (congrArg Value.bool (so hb26)) (aB rfl (nn (rj hR27 ⟨rfl,(Star.keepN 0 Z)⟩))))))))
 rw [ite_f hc103] at hb25
 obtain ⟨x23,hx23,hb25⟩:=bind_some hb25
 refine fA 3 fa_76_3 rfl rfl (L_lda (cs:=[v0_3,I s.given.bound]) rfl Tryz.isAgg74 Tryz.sizeOf74 rfl (At.sub0 (Blk.at (Star.blkAt 0 Z rfl)) 3 2) rfl (L_bld rfl (parts0 ) (bld_74_  ) ?_))
 obtain ⟨H104b,l105,s106,z107,k108⟩:=Z.borrow
 refine L_call rfl Tryz.call72 (ops2 rfl rfl) (i_ConstraintSame_c (a:=s.given) (b:=({ terms:=[],bound:=0 } : Con)) s106 (RP.mono _ h0_3 l105) (rel_nil _ _ _) hx23) ?_
 rintro _ w109 ⟨rfl,Z⟩
 have Z:=k108 Z c0
 refine L_pick (v:=Bo b25) rfl rfl (congrArg Value.bool (so hb25)) (L_pick (v:=Bo b26) rfl rfl (congrArg Value.bool (so hb26)) (aB rfl (nn (rj hR27 ⟨rfl,(Star.keepN 0 Z)⟩))))
 rw [ite_f hc102] at hb26
 refine ps rfl (ps rfl (ps rfl (ps rfl (ps rfl (ps rfl (ps rfl (ps rfl (ps rfl (L_pick (v:=Bo b26) rfl rfl (congrArg Value.bool (so hb26)) (aB rfl (nn (rj hR27 ⟨rfl,(Star.keepN 0 Z)⟩))))))))))))
 refine fA 2 fa_76_2 rfl rfl (ldB 0 Z Tryz.isAgg3 rfl rfl rfl (L_eql rfl rfl rfl (L_pick (v:=Bo (((x10.1 == 2) || x10.2) || (s.b == 0))) rfl rfl (or_f hc101 rfl) (L_pick (v:=Bo (((decide (x10.1 ≥ 0)) && (((decide (x10.1 > 0)) || (s.kind == 6)) || (s.a == 0))) && (((x10.1 == 2) || x10.2) || (s.b == 0)))) rfl rfl (and_t hc90 rfl) (mB rfl (L_split (d:=39) (b:=(((decide (x10.1 ≥ 0)) && (((decide (x10.1 > 0)) || (s.kind == 6)) || (s.a == 0))) && (((x10.1 == 2) || x10.2) || (s.b == 0)))) rfl (fun hc110=>?_) (fun hc110=>?_)))))))
 rw [ite_t hc110] at hb26
 obtain ⟨b25,hb25,hb26⟩:=bind_some hb26
 refine fA 0 fa_76_0 rfl rfl (ldB 0 Z Tryz.isAgg3 rfl rfl rfl (L_eql rfl rfl rfl (mB rfl (L_split (d:=43) (b:=(s.kind == 7)) rfl (fun hc111=>?_) (fun hc111=>?_)))))
 rw [ite_t hc111] at hb25
 refine ps rfl (ps rfl (ps rfl (ps rfl (L_pick (v:=Bo b25) rfl rfl (congrArg Value.bool (so hb25)) (L_pick (v:=Bo b26) rfl rfl (congrArg Value.bool (so hb26)) (aB rfl (nn (rj hR27 ⟨rfl,(Star.keepN 0 Z)⟩))))))))
 rw [ite_f hc111] at hb25
 obtain ⟨x23,hx23,hb25⟩:=bind_some hb25
 refine fA 3 fa_76_3 rfl rfl (L_lda (cs:=[v0_3,I s.given.bound]) rfl Tryz.isAgg74 Tryz.sizeOf74 rfl (At.sub0 (Blk.at (Star.blkAt 0 Z rfl)) 3 2) rfl (L_bld rfl (parts0 ) (bld_74_  ) ?_))
 obtain ⟨H112b,l113,s114,z115,k116⟩:=Z.borrow
 refine L_call rfl Tryz.call72 (ops2 rfl rfl) (i_ConstraintSame_c (a:=s.given) (b:=({ terms:=[],bound:=0 } : Con)) s114 (RP.mono _ h0_3 l113) (rel_nil _ _ _) hx23) ?_
 rintro _ w117 ⟨rfl,Z⟩
 have Z:=k116 Z c0
 refine L_pick (v:=Bo b25) rfl rfl (congrArg Value.bool (so hb25)) (L_pick (v:=Bo b26) rfl rfl (congrArg Value.bool (so hb26)) (aB rfl (nn (rj hR27 ⟨rfl,(Star.keepN 0 Z)⟩))))
 rw [ite_f hc110] at hb26
 refine ps rfl (ps rfl (ps rfl (ps rfl (ps rfl (ps rfl (ps rfl (ps rfl (ps rfl (L_pick (v:=Bo b26) rfl rfl (congrArg Value.bool (so hb26)) (aB rfl (nn (rj hR27 ⟨rfl,(Star.keepN 0 Z)⟩))))))))))))
 refine ps rfl (ps rfl (ps rfl (ps rfl (ps rfl (ps rfl (ps rfl (ps rfl (ps rfl (ps rfl (L_pick (v:=Bo (((decide (x10.1 ≥ 0)) && (((decide (x10.1 > 0)) || (s.kind == 6)) || (s.a == 0))) && (((x10.1 == 2) || x10.2) || (s.b == 0)))) rfl rfl (and_f hc90) (mB rfl (L_split (d:=39) (b:=(((decide (x10.1 ≥ 0)) && (((decide (x10.1 > 0)) || (s.kind == 6)) || (s.a == 0))) && (((x10.1 == 2) || x10.2) || (s.b == 0)))) rfl (fun hc118=>?_) (fun hc118=>?_)))))))))))))
 exact boolNo hc118 (andF hc90)
 rw [ite_f hc118] at hb26
 refine ps rfl (ps rfl (ps rfl (ps rfl (ps rfl (ps rfl (ps rfl (ps rfl (ps rfl (L_pick (v:=Bo b26) rfl rfl (congrArg Value.bool (so hb26)) (aB rfl (nn (rj hR27 ⟨rfl,(Star.keepN 0 Z)⟩))))))))))))
 refine ps rfl (ps rfl (ps rfl (ps rfl (ps rfl (ps rfl (ps rfl (ps rfl (ps rfl (ps rfl (ps rfl (ps rfl (L_pick (v:=Bo ((decide (x10.1 ≥ 0)) && (((decide (x10.1 > 0)) || (s.kind == 6)) || (s.a == 0)))) rfl rfl (and_f hc28) (mB rfl (L_split (d:=27) (b:=((decide (x10.1 ≥ 0)) && (((decide (x10.1 > 0)) || (s.kind == 6)) || (s.a == 0)))) rfl (fun hc119=>?_) (fun hc119=>?_)))))))))))))))
 exact boolNo hc119 (andF hc28)
 refine ps rfl (ps rfl (ps rfl (ps rfl (ps rfl (ps rfl (ps rfl (ps rfl (ps rfl (ps rfl (L_pick (v:=Bo (((decide (x10.1 ≥ 0)) && (((decide (x10.1 > 0)) || (s.kind == 6)) || (s.a == 0))) && (((x10.1 == 2) || x10.2) || (s.b == 0)))) rfl rfl (and_f hc119) (mB rfl (L_split (d:=39) (b:=(((decide (x10.1 ≥ 0)) && (((decide (x10.1 > 0)) || (s.kind == 6)) || (s.a == 0))) && (((x10.1 == 2) || x10.2) || (s.b == 0)))) rfl (fun hc120=>?_) (fun hc120=>?_)))))))))))))
 exact boolNo hc120 (andF hc119)
 rw [ite_f hc120] at hb26
 refine ps rfl (ps rfl (ps rfl (ps rfl (ps rfl (ps rfl (ps rfl (ps rfl (ps rfl (L_pick (v:=Bo b26) rfl rfl (congrArg Value.bool (so hb26)) (aB rfl (nn (rj hR27 ⟨rfl,(Star.keepN 0 Z)⟩))))))))))))
 intro f w_ hR
 obtain ⟨sf2,Z⟩:=rk hR27 hR
 refine W_ret (retG1 (v1:=Bo b26) Tryz.results114 sf2 ?_)
 obtain rfl:=so hF
 exact ⟨rfl,Z⟩
theorem i_isLiteral_c {l : Int} {H : FH} {w : World} (Z : Star H w []) {r : Bool} (hF : i_isLiteral l = some r) :
 C Tryz.prog 115 #[I l] w fun v w'=>v = Bo r∧Star H w' []:=by
 unfold i_isLiteral at hF
 refine C_enter Tryz.func115 rfl Tryz.ntmps115 rfl (sq (aB rfl (nq ?_)))
 obtain ⟨b8,hb8,hF⟩:=bind_some hF
 obtain ⟨R9,hR9⟩:=exR fun f w_=>f 2 = Bo b8∧Star H w_ ([])
 refine W_join R9 ?_ ?_
 refine W_region (mI rfl (L_neq rfl rfl rfl (mB rfl (L_split (d:=5) (b:=(l != 0)) rfl (fun hc10=>?_) (fun hc10=>?_)))))
 rw [ite_t hc10] at hb8
 obtain ⟨x6,hx6,hb8⟩:=bind_some hb8
 refine mI rfl ?_
 obtain ⟨H11b,l12,s13,z14,k15⟩:=Z.borrow
 refine L_call rfl Tryz.call46 (ops3 rfl rfl rfl) (i_within_c (n_:=l) (low:=(-12)) (high:=12) s13 hx6) ?_
 rintro _ w16 ⟨rfl,Z⟩
 have Z:=k15 Z c0
 refine L_pick (v:=Bo b8) rfl rfl (congrArg Value.bool (so hb8)) (aB rfl (nn (rj hR9 ⟨rfl,Z⟩)))
 rw [ite_f hc10] at hb8
 refine ps rfl (ps rfl (L_pick (v:=Bo b8) rfl rfl (congrArg Value.bool (so hb8)) (aB rfl (nn (rj hR9 ⟨rfl,Z⟩)))))
 intro f w_ hR
 obtain ⟨sf2,Z⟩:=rk hR9 hR
 refine W_ret (retG1 (v1:=Bo b8) Tryz.results115 sf2 ?_)
 obtain rfl:=so hF
 exact ⟨rfl,Z⟩
theorem i_variableOf_c {l : Int} {H : FH} {w : World} (Z : Star H w []) {r : Int} (hF : i_variableOf l = some r) :
 C Tryz.prog 145 #[I l] w fun v w'=>v = I r∧Star H w' []:=by
 unfold i_variableOf at hF
 refine C_enter Tryz.func145 rfl Tryz.ntmps145 rfl (sq (aI rfl (ns (mI rfl (mI rfl (L_neg rfl rfl (L_max rfl rfl rfl (aI rfl (nn (W_ret (retG1 (v1:=I (max l (i64 (-l)))) Tryz.results145 rfl ?_)))))))))))
 obtain rfl:=so hF
 exact ⟨rfl,Z⟩
end Go.Proofs.YtohpkefnmkdaeaaGreatDoor
