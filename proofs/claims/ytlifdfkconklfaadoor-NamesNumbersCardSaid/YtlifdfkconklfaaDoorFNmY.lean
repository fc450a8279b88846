/-
  Names: rows of numbers that are made.
-/
import Derived.Test.YtlifdfkconklfaaDoorFNmX
namespace Go.Proofs.YtlifdfkconklfaaDoor
open Go Go.RowKit
set_option linter.unusedVariables false
set_option linter.unusedSimpArgs false

theorem u32_info : (Tryd.prog.info? 35).map (fun i => (i.zero, i.size, i.bytes)) = some (some (.int .u32 0), 1, 4) := by kernel_rfl
theorem make_u32 (W : World) (n : Nat) (hn : n ≤ 1000000) : (Instr.makeSlice 97 (.int .i64 n) (.int .i64 n)).run Tryd.prog W = .ok (.slice (some ⟨W.heap.size, 0, none⟩) n n) (W.alloc (.cells (rowI .u32 (List.replicate n 0)) 35)) := by
  obtain ⟨i0, hi, hz0, hz1, hz2⟩ := info_parts u32_info
  have h := run_makeSlice (P := Tryd.prog) W 97 35 i0 (.int .u32 0) Tryd.underlying97 hi hz0 .i64 .i64 n n (by omega) (by omega) (by rw [hz1]; omega) (by rw [hz2]; omega) (by omega)
  rw [h, hz1, ← rowI_made, Nat.mul_one]; rfl
theorem int_info : (Tryd.prog.info? 3).map (fun i => (i.zero, i.size, i.bytes)) = some (some (.int .i64 0), 1, 8) := by kernel_rfl
theorem make_int (W : World) (n : Nat) (hn : n ≤ 1000000) : (Instr.makeSlice 64 (.int .i64 n) (.int .i64 n)).run Tryd.prog W = .ok (.slice (some ⟨W.heap.size, 0, none⟩) n n) (W.alloc (.cells (rowI .i64 (List.replicate n 0)) 3)) := by
  obtain ⟨i0, hi, hz0, hz1, hz2⟩ := info_parts int_info
  have h := run_makeSlice (P := Tryd.prog) W 64 3 i0 (.int .i64 0) Tryd.underlying64 hi hz0 .i64 .i64 n n (by omega) (by omega) (by rw [hz1]; omega) (by rw [hz2]; omega) (by omega)
  rw [h, hz1, ← rowI_made, Nat.mul_one]; rfl
end Go.Proofs.YtlifdfkconklfaaDoor
