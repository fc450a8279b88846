/-
  Names: a symbol's bytes.
-/
import Derived.Test.YtlifdfkconklfaaDoorFNmB
namespace Go.Proofs.YtlifdfkconklfaaDoor
open Go Go.RowKit
set_option linter.unusedVariables false
set_option linter.unusedSimpArgs false

theorem bind_part (b p : Int) (b0 : 0 ≤ b) (b2 : b ≤ 2) (p0 : 0 ≤ p) (p2 : p ≤ 2) : bits BinOp.or .u64 (b * 268435456) p = ((b.toNat * 268435456 + p.toNat : Nat) : Int) := by
  obtain ⟨x, rfl⟩ := Int.eq_ofNat_of_zero_le b0
  obtain ⟨y, rfl⟩ := Int.eq_ofNat_of_zero_le p0
  have h := u64_or_nat (x * 268435456) y (by omega) (by omega)
  rw [show ((x * 268435456 : Nat) : Int) = (x : Int) * 268435456 from rfl] at h
  rw [h, nat_join 28 (x * 268435456) y (by omega) (by omega)]
  rfl
theorem symB_join (s : SymD) (n : Nat) : mkB (be4 n) ++ mkB (be4 s.value) ++ mkB (be4 s.size) ++ mkB (be4 (s.bind.toNat * 268435456 + s.part.toNat)) = mkB (symB s n) := by
  rw [mkB_append, mkB_append, mkB_append, symB]; simp
set_option maxRecDepth 10000 in
theorem symbol_any (s : SymD) (h : s.Ok) (b0 : 0 ≤ s.bind) (b2 : s.bind ≤ 2) (p0 : 0 ≤ s.part) (p2 : s.part ≤ 2) (n : Nat) (hn : n < 9223372036854775808) (w : World) :
    Calls Tryd.prog 24 #[.agg (symV s), .int .i64 n] w fun e w' => e = .returned (.string (mkB (symB s n))) ∧ Below w.heap.size w w' := by
  have hj := symB_join s n
  have hor := bind_part s.bind s.part b0 b2 p0 p2
  obtain ⟨l, v, z, b, p⟩ := s
  obtain ⟨h1, h2, h3, h4, h5, h6, h7⟩ := h
  simp only at *
  have HN := Lib.hid hn
  have HV : Hid (v < 18446744073709551616) := Lib.hid (by omega)
  have HZ : Hid (z < 18446744073709551616) := Lib.hid (by omega)
  have HQ : Hid (b.toNat * 268435456 + p.toNat < 18446744073709551616) := Lib.hid (by omega)
  have hv1 : (v : Int) ≤ 4294967295 := by omega
  have hz1 : (z : Int) ≤ 4294967295 := by omega
  have hn1 : (n : Int) ≤ 9223372036854775807 := by omega
  have HJ := Lib.hid hj
  clear hj hn h1 h2 h3 h4 h5 h6 h7
  obtain ⟨q, hq⟩ : ∃ q, q = b.toNat * 268435456 + p.toNat := ⟨_, rfl⟩
  rw [← hq] at hor HQ HJ
  clear hq
  go_enter Tryd.func24, Tryd.ntmps24
  go_upto_region 1 with fail
  obtain ⟨W, hW⟩ : ∃ W, W = w.alloc (.cells (symV ⟨l, v, z, b, p⟩) 39) := ⟨_, rfl⟩
  have hrow : W.heap[w.heap.size]? = some (.cells (symV ⟨l, v, z, b, p⟩) 39) := by rw [hW]; exact heap_new _ _ _ rfl
  have hB : Hid (Below w.heap.size w W) := Lib.hid (by rw [hW]; exact (Below.refl _ _).alloc (Nat.le_refl _) _)
  have g1 := Grown.cell (o := 1) (v := .int .u32 v) hrow rfl
  have g2 := Grown.cell (o := 2) (v := .int .u32 z) hrow rfl
  have g3 := Grown.cell (o := 3) (v := .int .i64 b) hrow rfl
  have g4 := Grown.cell (o := 4) (v := .int .i64 p) hrow rfl
  rw [← hW]
  clear hW hrow
  have happ := mkB_append
  have hms := mkB_size
  have hb4 := be4_len
  (refine wp_region_grown (by kernel_rfl) (by kernel_rfl) ?_; (repeat (go_big_quiet_step (first | (go_at_call 50; exact Calls.grown (word_any n HN.out _)) | (go_at_call 51; first | (with_reducible exact Calls.grown (put4_any v HV.out _)) | (with_reducible exact Calls.grown (put4_any z HZ.out _)) | (with_reducible exact Calls.grown (put4_any q HQ.out _)))))); refine wpQuiet_nil ?_; intro _ hw'; obtain ⟨sG, hw''⟩ := hw'; subst hw'')
  clear happ hms hb4
  go_wp2
  go_ret
  exact ⟨by rw [← HJ.out]; rfl, hB.out.trans (sG.below.mono hB.out.size)⟩
end Go.Proofs.YtlifdfkconklfaaDoor
