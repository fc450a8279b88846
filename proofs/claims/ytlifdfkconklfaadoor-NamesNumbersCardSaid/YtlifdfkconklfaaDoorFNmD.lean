/-
  Names: a symbol's bytes, by the document.
-/
import Derived.Test.YtlifdfkconklfaaDoorFNmC
import Derived.Deep.RegionHeld
namespace Go.Proofs.YtlifdfkconklfaaDoor
open Go Go.RowKit
set_option linter.unusedVariables false
set_option linter.unusedSimpArgs false
theorem be4_tail (b p : Int) (b0 : 0 ≤ b) (b2 : b ≤ 2) (p0 : 0 ≤ p) (p2 : p ≤ 2) : be4 (b.toNat * 268435456 + p.toNat) = [UInt8.ofNat (b.toNat * 16), 0, 0, UInt8.ofNat p.toNat] := by
  obtain ⟨x, rfl⟩ := Int.eq_ofNat_of_zero_le b0
  obtain ⟨y, rfl⟩ := Int.eq_ofNat_of_zero_le p0
  have hx : x = 0 ∨ x = 1 ∨ x = 2 := by omega
  have hy : y = 0 ∨ y = 1 ∨ y = 2 := by omega
  rcases hx with rfl | rfl | rfl <;> rcases hy with rfl | rfl | rfl <;> decide +kernel
theorem conv_tail (b p : Int) (b0 : 0 ≤ b) (b2 : b ≤ 2) (p0 : 0 ≤ p) (p2 : p ≤ 2) (g : Nat) (w' : World) (c0 : w'.cell? ⟨g, 0, none⟩ = some (.int .u8 (b * 16))) (c1 : w'.cell? ⟨g, 1, none⟩ = some (.int .u8 0)) (c2 : w'.cell? ⟨g, 2, none⟩ = some (.int .u8 0)) (c3 : w'.cell? ⟨g, 3, none⟩ = some (.int .u8 p)) :
    (convert 46 9 (.slice (some ⟨g, 0, none⟩) 4 4)).run Tryd.prog w' = .ok (.string (mkB [UInt8.ofNat (b.toNat * 16), 0, 0, UInt8.ofNat p.toNat])) w' := by
  refine run_convert_bytes_back _ 46 9 5 ⟨g, 0, none⟩ 4 [UInt8.ofNat (b.toNat * 16), 0, 0, UInt8.ofNat p.toNat] Tryd.underlying46 Tryd.underlying5 Tryd.underlying9 (fun j hj => ?_)
  have e1 : ((UInt8.ofNat (b.toNat * 16)).toNat : Int) = b * 16 := by rw [toNat_ofNat8 _ (by omega)]; omega
  have e2 : ((UInt8.ofNat p.toNat).toNat : Int) = p := by rw [toNat_ofNat8 _ (by omega)]; omega
  match j, hj with
  | 0, _ => exact c0.trans (by show _ = some (Value.int .u8 ((UInt8.ofNat (b.toNat * 16)).toNat : Int)); rw [e1])
  | 1, _ => exact c1
  | 2, _ => exact c2
  | 3, _ => exact c3.trans (by show _ = some (Value.int .u8 ((UInt8.ofNat p.toNat).toNat : Int)); rw [e2])
abbrev SymAt (W : World) (g : Nat) (v z : Nat) (b p : Int) (w' : World) : Prop :=
  Below W.heap.size W w' ∧ w'.cell? ⟨g, 1, none⟩ = some (.int .u32 v) ∧ w'.cell? ⟨g, 2, none⟩ = some (.int .u32 z) ∧ w'.cell? ⟨g, 3, none⟩ = some (.int .i64 b) ∧ w'.cell? ⟨g, 4, none⟩ = some (.int .i64 p)
theorem SymAt.below {W : World} {g v z : Nat} {b p : Int} {w' w'' : World} (h : SymAt W g v z b p w') (hg : g < W.heap.size) (hb : Below w'.heap.size w' w'') : SymAt W g v z b p w'' := by
  have hg' : g < w'.heap.size := Nat.lt_of_lt_of_le hg h.1.size
  exact ⟨h.1.trans (hb.mono h.1.size), (hb.cell (p := ⟨g, 1, none⟩) hg').trans h.2.1, (hb.cell (p := ⟨g, 2, none⟩) hg').trans h.2.2.1, (hb.cell (p := ⟨g, 3, none⟩) hg').trans h.2.2.2.1, (hb.cell (p := ⟨g, 4, none⟩) hg').trans h.2.2.2.2⟩
theorem SymAt.drew {W : World} {g v z : Nat} {b p : Int} {w' : World} (h : SymAt W g v z b p w') : SymAt W g v z b p w'.drew := ⟨h.1.drew, h.2⟩
theorem SymAt.alloc {W : World} {g v z : Nat} {b p : Int} {w' : World} (h : SymAt W g v z b p w') (hg : g < W.heap.size) (o : Obj) : SymAt W g v z b p (w'.alloc o) := h.below hg ((Below.refl _ _).alloc (Nat.le_refl _) _)
set_option maxRecDepth 10000 in
set_option maxHeartbeats 4000000 in
theorem rsymbol_any (s : SymD) (h : s.Ok) (b0 : 0 ≤ s.bind) (b2 : s.bind ≤ 2) (p0 : 0 ≤ s.part) (p2 : s.part ≤ 2) (n : Nat) (hn : n < 4294967296) (w : World) :
    Calls Tryd.prog 28 #[.agg (symV s), .int .u32 n] w fun e w' => e = .returned (.string (mkB (symB s n))) ∧ Below w.heap.size w w' := by
  obtain ⟨l, v, z, b, p⟩ := s
  obtain ⟨h1, h2, h3, h4, h5, h6, h7⟩ := h
  simp only at *
  have HN := Lib.hid hn
  have HV : Hid (v < 4294967296) := Lib.hid (by omega)
  have HZ : Hid (z < 4294967296) := Lib.hid (by omega)
  clear hn h1 h2 h3 h4 h5 h6 h7
  go_enter Tryd.func28, Tryd.ntmps28
  go_upto_region 1 with fail
  obtain ⟨W, hW⟩ : ∃ W, W = w.alloc (.cells (symV ⟨l, v, z, b, p⟩) 39) := ⟨_, rfl⟩
  have hrow : W.heap[w.heap.size]? = some (.cells (symV ⟨l, v, z, b, p⟩) 39) := by rw [hW]; exact heap_new _ _ _ rfl
  have hg : Hid (w.heap.size < W.heap.size) := Lib.hid (by rw [hW]; simp only [heap_len]; omega)
  have hB : Hid (Below w.heap.size w W) := Lib.hid (by rw [hW]; exact (Below.refl _ _).alloc (Nat.le_refl _) _)
  have hS : SymAt W w.heap.size v z b p W := ⟨Below.refl _ _, cell_at hrow rfl, cell_at hrow rfl, cell_at hrow rfl, cell_at hrow rfl⟩
  rw [← hW]
  clear hW hrow
  have hw1 : IntKind.i64.wrap (b * 16) = b * 16 := IntWalk.i64_in _ (by omega)
  have hw2 : IntKind.u8.wrap (b * 16) = b * 16 := by rw [IntKind.wrap_u8']; omega
  have hw3 : IntKind.u8.wrap p = p := by rw [IntKind.wrap_u8']; omega
  have hcv := conv_tail b p b0 b2 p0 p2
  have ht := be4_tail b p b0 b2 p0 p2
  obtain ⟨T, hT⟩ : ∃ T, T = [UInt8.ofNat (b.toNat * 16), 0, 0, UInt8.ofNat p.toNat] := ⟨_, rfl⟩
  rw [← hT] at hcv ht
  have hT4 : T.length = 4 := by rw [hT]; rfl
  have HT := Lib.hid ht
  clear hT ht
  clear b0 b2 p0 p2
  have hdw : ∀ x : World, x.drew.heap.size = x.heap.size := fun _ => rfl
  have happ := mkB_append
  have hms := mkB_size
  have hb4 := be4_len
  unfold SymAt at hS
  go_region_held (fun w' => Below W.heap.size W w' ∧ w'.cell? ⟨w.heap.size, 1, none⟩ = some (.int .u32 v) ∧ w'.cell? ⟨w.heap.size, 2, none⟩ = some (.int .u32 z) ∧ w'.cell? ⟨w.heap.size, 3, none⟩ = some (.int .i64 b) ∧ w'.cell? ⟨w.heap.size, 4, none⟩ = some (.int .i64 p))
    (first | assumption | exact hS | exact SymAt.below (by assumption) hg.out hb3 | exact SymAt.below (by assumption) hg.out hb2 | exact SymAt.below (by assumption) hg.out hb1 | exact SymAt.drew (by assumption) | exact SymAt.drew hS | exact SymAt.alloc (by assumption) hg.out _ | exact SymAt.drew (SymAt.alloc (by assumption) hg.out _) | exact SymAt.drew (SymAt.alloc hS hg.out _))
    (first
      | (go_at_call 53; (with_reducible refine (rw_any n HN.out _).mono ?_); rintro e w1 ⟨rfl, hb1⟩; obtain ⟨hc1, hf1⟩ := bcell hb1; have hz1 := hb1.size; (try simp only [hdw, heap_len] at hz1); (try have hy1 := Nat.lt_of_succ_le hz1))
      | (go_at_call 53; (with_reducible refine (rw_any v HV.out _).mono ?_); rintro e w2 ⟨rfl, hb2⟩; obtain ⟨hc2, hf2⟩ := bcell hb2; have hz2 := hb2.size; (try simp only [hdw, heap_len] at hz2); (try have hy2 := Nat.lt_of_succ_le hz2); (try have hx2 : W.heap.size < w2.heap.size := by omega))
      | (go_at_call 53; (with_reducible refine (rw_any z HZ.out _).mono ?_); rintro e w3 ⟨rfl, hb3⟩; obtain ⟨hc3, hf3⟩ := bcell hb3; have hz3 := hb3.size; (try simp only [hdw, heap_len] at hz3); (try have hy3 := Nat.lt_of_succ_le hz3)))
  all_goals clear hcv happ hms hb4 hw1 hw2 hw3 hT4
  all_goals go_wp2
  all_goals go_ret
  all_goals refine ⟨?_, below_then hB.out (And.left (b := _ ∧ _ ∧ _ ∧ _) (?_ : SymAt W w.heap.size v z b p _))⟩
  any_goals (first | assumption | exact SymAt.below (by assumption) hg.out hb3 | exact SymAt.alloc (by assumption) hg.out _ | exact SymAt.alloc (SymAt.below (by assumption) hg.out hb3) hg.out _)
  all_goals (rw [symB, HT.out]; rfl)
end Go.Proofs.YtlifdfkconklfaaDoor
