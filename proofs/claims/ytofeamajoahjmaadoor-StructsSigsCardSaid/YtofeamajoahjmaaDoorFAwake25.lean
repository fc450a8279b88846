/-
  ferrylaw25.awake.
-/
import Derived.Test.YtofeamajoahjmaaDoorFVecs
namespace Go.Proofs.YtofeamajoahjmaaDoor
open Go Go.RowKit
set_option linter.unusedVariables false
set_option linter.unusedSimpArgs false

def l16 : List UInt8 := [5, 0, 0, 0, 0, 0, 0, 0, 7, 0, 0, 0, 0, 0, 0, 0]
theorem l16_ok : timeOk l16 = true := by kernel_rfl
theorem l16_time : mkB (timeF l16) = { data := #[0, 0, 0, 5, 0, 0, 0, 7] } := by kernel_rfl
theorem mask3 : mkB (maskB 3) = { data := #[0, 0, 0, 3, 0, 0, 0, 0, 0, 0, 0, 0, 0, 0, 0, 0] } := by kernel_rfl

def z12 : Obj := .cells (madeCells #[.int .u8 0] 12) 5
theorem make12 (W : World) : (Instr.makeSlice 64 (.int .i64 12) (.int .i64 12)).run Tryd.prog W = .ok (.slice (some ⟨W.heap.size, 0, none⟩) 12 12) (W.alloc z12) := by
  obtain ⟨i0, hi, hz0, hz1, hz2⟩ := info_parts u8_info
  have h := run_makeSlice (P := Tryd.prog) W 64 5 i0 (.int .u8 0) Tryd.underlying64 hi hz0 .i64 .i64 12 12 (by decide) (by decide) (by rw [hz1]; decide) (by rw [hz2]; decide) (by decide)
  rw [h, hz1]; rfl
theorem conv12 (W : World) (g : Nat) (h : W.heap[g]? = some z12) : (convert 64 9 (.slice (some ⟨g, 0, none⟩) 12 12)).run Tryd.prog W = .ok (.string { data := #[0, 0, 0, 0, 0, 0, 0, 0, 0, 0, 0, 0] }) W := by
  refine run_convert_bytes_back W _ _ 5 ⟨g, 0, none⟩ 12 [0, 0, 0, 0, 0, 0, 0, 0, 0, 0, 0, 0] Tryd.underlying64 Tryd.underlying5 Tryd.underlying9 ?_
  intro j hj
  have hj' : j < 12 := hj
  have h1 : (⟨g, 0, none⟩ : Addr).add j = ⟨g, j, none⟩ := by
    unfold Addr.add; split
    · rename_i e; rw [e]
    · simp
  have h2 : ∀ j, j < 12 → (madeCells #[Value.int .u8 0] 12)[j]? = some (.int .u8 0) := fun j hj => by
    simp [madeCells, hj, Nat.mod_one]
  have h3 : ∀ j (h : j < 12), (([0, 0, 0, 0, 0, 0, 0, 0, 0, 0, 0, 0] : List UInt8)[j]'h).toNat = 0 := by decide
  rw [h1, cell_at h (h2 j hj'), h3 j hj']; rfl

theorem cat16 : (([0, 0, 0, 3, 0, 0, 0, 0, 0, 0, 0, 0, 0, 0, 0, 0] : List UInt8) == (({ data := #[0, 0, 0, 3] } : ByteArray) ++ { data := #[0, 0, 0, 0, 0, 0, 0, 0, 0, 0, 0, 0] }).toList) = true := by
  have h : (({ data := #[0, 0, 0, 3] } : ByteArray) ++ { data := #[0, 0, 0, 0, 0, 0, 0, 0, 0, 0, 0, 0] }) = mkB [0, 0, 0, 3, 0, 0, 0, 0, 0, 0, 0, 0, 0, 0, 0, 0] := by
    exact (mkB_append [0, 0, 0, 3] [0, 0, 0, 0, 0, 0, 0, 0, 0, 0, 0, 0]).symm
  rw [h, bytes_toList]; decide

set_option maxHeartbeats 1000000 in
set_option maxRecDepth 100000 in
theorem awake25_any (w : World) :
    Calls Tryd.prog 15 #[] w fun e w' => e = .returned (.bool true) ∧ Below w.heap.size w w' := by
  have h1 := Lib.hid l16_ok; have h2 := Lib.hid l16_time; have h3 := Lib.hid mask3
  go_enter Tryd.func15, Tryd.ntmps15
  go_upto_region 2 with (go_at_call 29; refine (time_any l16 (by decide) _).mono ?_; rintro e w1 ⟨rfl, hb1⟩; rw [h1.out, h2.out])
  have HB1 := Lib.hid hb1
  clear hb1
  have hm := make12
  have hc := conv12
  obtain ⟨Z, hZ⟩ : ∃ Z, Z = z12 := ⟨_, rfl⟩
  rw [← hZ] at hm hc
  have hc2 : ∀ W : World, (convert 64 9 (.slice (some ⟨W.heap.size, 0, none⟩) 12 12)).run Tryd.prog (W.alloc Z) = .ok (.string { data := #[0, 0, 0, 0, 0, 0, 0, 0, 0, 0, 0, 0] }) (W.alloc Z) := fun W => hc _ _ (heap_new _ _ _ rfl)
  have hc3 : ∀ W : World, (convert 64 9 (.slice (some ⟨W.heap.size, 0, none⟩) 12 12)).run Tryd.prog (W.alloc Z).drew = .ok (.string { data := #[0, 0, 0, 0, 0, 0, 0, 0, 0, 0, 0, 0] }) (W.alloc Z).drew := fun W => hc _ _ (heap_new _ _ _ rfl)
  have hn : ∀ W : World, (W.alloc Z).heap[W.heap.size]? = some Z := fun W => heap_new _ _ _ rfl
  clear hZ
  go_region_held (fun w' => Below w1.heap.size w1 w') ((first | assumption | exact Below.trans (by assumption) (Below.mono (by assumption) (Below.size (by assumption))) | (refine below_realloc ?_ ?_ ?_; assumption; omega; omega) | ((repeat' (first | assumption | exact Below.refl _ _ | refine Below.drew ?_ | refine Below.setCell ?_ ?_ _ | refine Below.alloc ?_ ?_ _)); all_goals (first | assumption | omega | (simp only [heap_len]; done) | (simp only [heap_len]; omega) | (simp <;> omega)))))
    (first
      | (go_at_call 20; refine (putMask_any 3 (by decide) _).mono ?_; rintro e w2 ⟨rfl, hb2⟩; rw [h3.out]; have s1 : Below w1.heap.size w1 w2 := below_then (by assumption) hb2; have z1 := s1.size; have q1 := (bcell hb2).1; have f1 := (bcell hb2).2; have y1 := hb2.size; (try simp at y1); (try have u1 : w2.heap[w1.heap.size]? = some Z := by rw [hb2.block _ (by (first | omega | (simp only [heap_len]; omega) | exact Nat.lt_of_lt_of_eq (Nat.lt_succ_self _) (heap_len _ _).symm))]; exact heap_new _ _ _ rfl)))
  all_goals (go_wp2; go_ret; exact ⟨congrArg (fun b => Ending.returned (Value.bool b)) cat16, HB1.out.trans (Below.mono (by (first | assumption | exact Below.trans (by assumption) (Below.mono (by assumption) (Below.size (by assumption))) | (refine below_realloc ?_ ?_ ?_; assumption; omega; omega) | ((repeat' (first | assumption | exact Below.refl _ _ | refine Below.drew ?_ | refine Below.setCell ?_ ?_ _ | refine Below.alloc ?_ ?_ _)); all_goals (first | assumption | omega | (simp only [heap_len]; done) | (simp only [heap_len]; omega) | (simp <;> omega))))) HB1.out.size)⟩)
end Go.Proofs.YtofeamajoahjmaaDoor
