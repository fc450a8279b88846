/-
  structs.Stat: what is told of a file.
-/
import Derived.Test.YtofeamajoahjmaaFTime
import Derived.Deep.RegionHeld3
namespace Go.Proofs.Ytofeamajoahjmaa
open Go Go.RowKit
set_option linter.unusedVariables false
set_option linter.unusedSimpArgs false

/-- The number of n bytes at a place. -/
def leAt (l : List UInt8) (i n : Nat) : Nat := leN ((l.drop i).take n)
theorem leAt_lt (l : List UInt8) (i n : Nat) (h : n ≤ 8) : leAt l i n < 18446744073709551616 := leN_lt (by rw [List.length_take]; omega)
theorem RowU.belowB {B : Nat} {w w' : World} {g : Nat} {vs : List Nat} (h : RowU w g vs) (hg : g < B) (hk : Below B w w') : RowU w' g vs := by
  obtain ⟨c, fr, h1, h2⟩ := h
  exact ⟨c, fr, (hk.block g hg).trans h1, h2⟩
theorem rowU_drew {w : World} {g : Nat} {vs : List Nat} (h : RowU w g vs) : RowU w.drew g vs := h
theorem bld_drew {T : TypeId} {B b : Nat} {l : List UInt8} {w : World} (h : IsBld T B b l w) : IsBld T B b l w.drew := bld_blocks h fun _ _ _ _ e => e
theorem le_alloc {B : Nat} {w : World} (h : B ≤ w.heap.size) (o : Obj) : B ≤ (w.alloc o).heap.size := by rw [heap_len]; omega
theorem le_drew {B : Nat} {w : World} (h : B ≤ w.heap.size) : B ≤ w.drew.heap.size := h
theorem zU : (0 : Nat) < 18446744073709551616 := by decide
theorem AllU.nil : AllU [] := fun _ h => by cases h
theorem AllU.cons {v : Nat} {l : List Nat} (h : v < 18446744073709551616) (k : AllU l) : AllU (v :: l) := fun u hu => by
  rcases List.mem_cons.1 hu with rfl | hu
  · exact h
  · exact k u hu
theorem bld_lt {T : TypeId} {B b : Nat} {l : List UInt8} {w : World} (h : IsBld T B b l w) : b < w.heap.size := by
  obtain ⟨c, h⟩ := bld_heap h; exact heap_lt h
def statW : List Nat := [8, 8, 8, 4, 4, 4, 4, 8, 8, 8, 8, 8, 8, 8, 8, 8, 8]
def statG (l : List UInt8) : List UInt8 :=
  wordsB 4 [leAt l 0 8, 0, 0, 0] ++ wordsB 8 [leAt l 8 8] ++ wordsB 4 [leAt l 24 4, leAt l 16 8, 0, 0, 0, 0, 0, 0] ++ wordsB 8 [leAt l 48 8] ++ wordsB 4 [leAt l 72 8, 0, leAt l 88 8, 0, leAt l 104 8, 0, leAt l 56 8, 0] ++ wordsB 8 [leAt l 64 8]
def statOk (l : List UInt8) : Bool := decide (l.length = 144)
def statF (l : List UInt8) : List UInt8 := if statOk l then statG l else []
theorem taken_stat (l : List UInt8) : takenL l statW = [leAt l 0 8, leAt l 8 8, leAt l 16 8, leAt l 24 4, leAt l 28 4, leAt l 32 4, leAt l 36 4, leAt l 40 8, leAt l 48 8, leAt l 56 8, leAt l 64 8, leAt l 72 8, leAt l 80 8, leAt l 88 8, leAt l 96 8, leAt l 104 8, leAt l 112 8] := by
  simp only [statW, takenL, leAt, List.drop_drop, Nat.reduceAdd, List.drop_zero]

set_option maxHeartbeats 4000000 in
set_option maxRecDepth 100000 in
theorem stat_any (l : List UInt8) (hl : l.length ≤ 140737488351232) (w : World) :
    Calls Try.prog 16 #[.string (mkB l)] w fun e w' => e = .returned (.tuple #[.string (mkB (statF l)), .bool (statOk l)]) ∧ Below w.heap.size w w' := by
  have hsz := mkB_size l
  by_cases h144 : l.length = 144
  · have hO : Hid (statOk l = true) := Lib.hid (decide_eq_true h144)
    have hF : Hid (statF l = statG l) := Lib.hid (by rw [statF, hO.out]; rfl)
    have HL := Lib.hid hl; have H144 := Lib.hid h144
    have hres := taken_stat l
    obtain ⟨x0, e0⟩ : ∃ x, x = leAt l 0 8 := ⟨_, rfl⟩
    have X0 : Hid (x0 < 18446744073709551616) := Lib.hid (by rw [e0]; exact leAt_lt l _ _ (by omega))
    obtain ⟨x1, e1⟩ : ∃ x, x = leAt l 8 8 := ⟨_, rfl⟩
    have X1 : Hid (x1 < 18446744073709551616) := Lib.hid (by rw [e1]; exact leAt_lt l _ _ (by omega))
    obtain ⟨x2, e2⟩ : ∃ x, x = leAt l 16 8 := ⟨_, rfl⟩
    have X2 : Hid (x2 < 18446744073709551616) := Lib.hid (by rw [e2]; exact leAt_lt l _ _ (by omega))
    obtain ⟨x3, e3⟩ : ∃ x, x = leAt l 24 4 := ⟨_, rfl⟩
    have X3 : Hid (x3 < 18446744073709551616) := Lib.hid (by rw [e3]; exact leAt_lt l _ _ (by omega))
    obtain ⟨x4, e4⟩ : ∃ x, x = leAt l 28 4 := ⟨_, rfl⟩
    have X4 : Hid (x4 < 18446744073709551616) := Lib.hid (by rw [e4]; exact leAt_lt l _ _ (by omega))
    obtain ⟨x5, e5⟩ : ∃ x, x = leAt l 32 4 := ⟨_, rfl⟩
    have X5 : Hid (x5 < 18446744073709551616) := Lib.hid (by rw [e5]; exact leAt_lt l _ _ (by omega))
    obtain ⟨x6, e6⟩ : ∃ x, x = leAt l 36 4 := ⟨_, rfl⟩
    have X6 : Hid (x6 < 18446744073709551616) := Lib.hid (by rw [e6]; exact leAt_lt l _ _ (by omega))
    obtain ⟨x7, e7⟩ : ∃ x, x = leAt l 40 8 := ⟨_, rfl⟩
    have X7 : Hid (x7 < 18446744073709551616) := Lib.hid (by rw [e7]; exact leAt_lt l _ _ (by omega))
    obtain ⟨x8, e8⟩ : ∃ x, x = leAt l 48 8 := ⟨_, rfl⟩
    have X8 : Hid (x8 < 18446744073709551616) := Lib.hid (by rw [e8]; exact leAt_lt l _ _ (by omega))
    obtain ⟨x9, e9⟩ : ∃ x, x = leAt l 56 8 := ⟨_, rfl⟩
    have X9 : Hid (x9 < 18446744073709551616) := Lib.hid (by rw [e9]; exact leAt_lt l _ _ (by omega))
    obtain ⟨x10, e10⟩ : ∃ x, x = leAt l 64 8 := ⟨_, rfl⟩
    have X10 : Hid (x10 < 18446744073709551616) := Lib.hid (by rw [e10]; exact leAt_lt l _ _ (by omega))
    obtain ⟨x11, e11⟩ : ∃ x, x = leAt l 72 8 := ⟨_, rfl⟩
    have X11 : Hid (x11 < 18446744073709551616) := Lib.hid (by rw [e11]; exact leAt_lt l _ _ (by omega))
    obtain ⟨x12, e12⟩ : ∃ x, x = leAt l 80 8 := ⟨_, rfl⟩
    have X12 : Hid (x12 < 18446744073709551616) := Lib.hid (by rw [e12]; exact leAt_lt l _ _ (by omega))
    obtain ⟨x13, e13⟩ : ∃ x, x = leAt l 88 8 := ⟨_, rfl⟩
    have X13 : Hid (x13 < 18446744073709551616) := Lib.hid (by rw [e13]; exact leAt_lt l _ _ (by omega))
    obtain ⟨x14, e14⟩ : ∃ x, x = leAt l 96 8 := ⟨_, rfl⟩
    have X14 : Hid (x14 < 18446744073709551616) := Lib.hid (by rw [e14]; exact leAt_lt l _ _ (by omega))
    obtain ⟨x15, e15⟩ : ∃ x, x = leAt l 104 8 := ⟨_, rfl⟩
    have X15 : Hid (x15 < 18446744073709551616) := Lib.hid (by rw [e15]; exact leAt_lt l _ _ (by omega))
    obtain ⟨x16, e16⟩ : ∃ x, x = leAt l 112 8 := ⟨_, rfl⟩
    have X16 : Hid (x16 < 18446744073709551616) := Lib.hid (by rw [e16]; exact leAt_lt l _ _ (by omega))
    have hG : Hid (statG l = wordsB 4 [x0, 0, 0, 0] ++ wordsB 8 [x1] ++ wordsB 4 [x3, x2, 0, 0, 0, 0, 0, 0] ++ wordsB 8 [x8] ++ wordsB 4 [x11, 0, x13, 0, x15, 0, x9, 0] ++ wordsB 8 [x10]) := Lib.hid (by rw [statG, ← e0, ← e1, ← e2, ← e3, ← e8, ← e9, ← e10, ← e11, ← e13, ← e15])
    rw [← e0, ← e1, ← e2, ← e3, ← e4, ← e5, ← e6, ← e7, ← e8, ← e9, ← e10, ← e11, ← e12, ← e13, ← e14, ← e15, ← e16] at hres
    have HR := Lib.hid hres
    have h144' : (l.length : Int) = 144 := by omega
    clear hres h144 hl e0 e1 e2 e3 e4 e5 e6 e7 e8 e9 e10 e11 e12 e13 e14 e15 e16
    go_enter Try.func16, Try.ntmps16
    go_upto_region 5 with (go_at_call 27; refine (taken_any l HL.out _ _ statW (by decide) (by rw [H144.out]; decide) (by decide) _ (rowN_of (heap_new _ _ _ rfl) (by rfl))).mono ?_; rintro e w1 ⟨v, rfl, hown, hb1⟩)
    rw [HR.out] at hown
    obtain ⟨g, cap, rfl⟩ := own_some (n := 17) hown (by omega)
    have hU : RowU w1 g [x0, x1, x2, x3, x4, x5, x6, x7, x8, x9, x10, x11, x12, x13, x14, x15, x16] := rowU_of_own hown
    have hg : g < w1.heap.size := by obtain ⟨c, fr, h1, _⟩ := hU; exact heap_lt h1
    have HU := Lib.hid hU
    have HB1 : Hid (Below w.heap.size w w1) := Lib.hid (((Below.refl _ _).alloc (Nat.le_refl _) _).trans (hb1.mono (by rw [heap_len]; omega)))
    clear hU hown hb1
    go_upto_region 6 with fail
    obtain ⟨B, hB⟩ : ∃ B, B = w1.heap.size := ⟨_, rfl⟩
    obtain ⟨W0, hW0⟩ : ∃ W : World, W = w1.alloc (.cells #[.pointer none, .slice none 0 0] 65) := ⟨_, rfl⟩
    have K0 : Hid (IsBld 65 B B [] W0) := Lib.hid (by rw [hW0, hB]; exact bld_new w1)
    have L0 : Hid (Below B w1 W0) := Lib.hid (by rw [hW0, hB]; exact (Below.refl _ _).alloc (Nat.le_refl _) _)
    have Z0 : Hid (B ≤ W0.heap.size) := Lib.hid (by rw [hW0, hB, heap_len]; omega)
    have HUB : Hid (g < B) := Lib.hid (by rw [hB]; exact hg)
    have HBw : Hid (w.heap.size ≤ B) := Lib.hid (by rw [hB]; exact HB1.out.size)
    rw [← hW0, ← hB]
    clear hW0 hg
    have HBe := Lib.hid hB
    clear hB
    have hu : RowU W0 g [x0, x1, x2, x3, x4, x5, x6, x7, x8, x9, x10, x11, x12, x13, x14, x15, x16] := HU.out.belowB HUB.out L0.out
    have gz : g < W0.heap.size := Nat.lt_of_lt_of_le HUB.out Z0.out
    have c0 : W0.cell? ⟨g, 0, none⟩ = some (.int .u64 (x0 : Nat)) := hu.cell 0 (by simp)
    clear hu
    have N0 : Hid (W0.heap.size ≠ B) := Lib.hid (by have := bld_lt K0.out; omega)
    have LEN0 : Hid (([] : List UInt8).length + 8 * 4 ≤ 140737488355328) := Lib.hid (by simp)
    go_upto_region 7 with (go_at_call 28; refine (put_any B B W0.heap.size 4 [x0, 0, 0, 0] (AllU.cons X0.out (AllU.cons zU (AllU.cons zU (AllU.cons zU .nil)))) ([]) (LEN0.out) _ _ (rowU_of (heap_new _ _ _ rfl) (by simp)) N0.out (bld_alloc K0.out _) (le_alloc Z0.out _)).mono ?_; rintro e W1 ⟨rfl, k1, k2, k3⟩)
    have K1 : Hid (IsBld 65 B B (wordsB 4 [x0, 0, 0, 0]) W1) := Lib.hid k1
    have L1 : Hid (Below B w1 W1) := Lib.hid (L0.out.trans (Below.trans (Below.alloc (Below.refl _ _) Z0.out _) k2))
    have Z1 : Hid (B ≤ W1.heap.size) := Lib.hid (Nat.le_trans ((le_alloc Z0.out _)) k2.size)
    have Q1 : Hid ((wordsB 4 [x0, 0, 0, 0]).length ≤ 100) := Lib.hid (by have := wordsB_length 4 [x0, 0, 0, 0]; simp only [List.length_cons, List.length_nil] at this; omega)
    clear k1 k2 k3 gz c0 L0 Z0 K0 N0 LEN0 
    have hu : RowU W1 g [x0, x1, x2, x3, x4, x5, x6, x7, x8, x9, x10, x11, x12, x13, x14, x15, x16] := HU.out.belowB HUB.out L1.out
    have gz : g < W1.heap.size := Nat.lt_of_lt_of_le HUB.out Z1.out
    have c1 : W1.cell? ⟨g, 1, none⟩ = some (.int .u64 (x1 : Nat)) := hu.cell 1 (by simp)
    clear hu
    have N1 : Hid (W1.heap.size ≠ B) := Lib.hid (by have := bld_lt K1.out; omega)
    have LEN1 : Hid ((wordsB 4 [x0, 0, 0, 0]).length + 8 * 1 ≤ 140737488355328) := Lib.hid (by have := Q1.out; omega)
    go_upto_region 8 with (go_at_call 28; refine (put_any B B W1.heap.size 8 [x1] (AllU.cons X1.out .nil) (wordsB 4 [x0, 0, 0, 0]) (LEN1.out) _ _ (rowU_of (heap_new _ _ _ rfl) (by simp)) N1.out (bld_alloc K1.out _) (le_alloc Z1.out _)).mono ?_; rintro e W2 ⟨rfl, k1, k2, k3⟩)
    have K2 : Hid (IsBld 65 B B (wordsB 4 [x0, 0, 0, 0] ++ wordsB 8 [x1]) W2) := Lib.hid k1
    have L2 : Hid (Below B w1 W2) := Lib.hid (L1.out.trans (Below.trans (Below.alloc (Below.refl _ _) Z1.out _) k2))
    have Z2 : Hid (B ≤ W2.heap.size) := Lib.hid (Nat.le_trans ((le_alloc Z1.out _)) k2.size)
    have Q2 : Hid ((wordsB 4 [x0, 0, 0, 0] ++ wordsB 8 [x1]).length ≤ 200) := Lib.hid (by have := wordsB_length 8 [x1]; simp only [List.length_cons, List.length_nil] at this; have q := Q1.out; rw [List.length_append]; omega)
    clear k1 k2 k3 gz c1 L1 Z1 K1 N1 LEN1 Q1
    have hu : RowU W2 g [x0, x1, x2, x3, x4, x5, x6, x7, x8, x9, x10, x11, x12, x13, x14, x15, x16] := HU.out.belowB HUB.out L2.out
    have gz : g < W2.heap.size := Nat.lt_of_lt_of_le HUB.out Z2.out
    have c3 : W2.cell? ⟨g, 3, none⟩ = some (.int .u64 (x3 : Nat)) := hu.cell 3 (by simp)
    have c2 : W2.cell? ⟨g, 2, none⟩ = some (.int .u64 (x2 : Nat)) := hu.cell 2 (by simp)
    clear hu
    have N2 : Hid (W2.heap.size ≠ B) := Lib.hid (by have := bld_lt K2.out; omega)
    have LEN2 : Hid ((wordsB 4 [x0, 0, 0, 0] ++ wordsB 8 [x1]).length + 8 * 8 ≤ 140737488355328) := Lib.hid (by have := Q2.out; omega)
    go_upto_region 8 with fail
    go_region_held (fun w' => w'.cell? ⟨g, 3, none⟩ = some (.int .u64 (x3 : Nat)) ∧ w'.cell? ⟨g, 2, none⟩ = some (.int .u64 (x2 : Nat))) (first | ((repeat' apply And.intro) <;> assumption) | go_keep) ((go_at_call 28; refine (put_any B B W2.heap.size 4 [x3, x2, 0, 0, 0, 0, 0, 0] (AllU.cons X3.out (AllU.cons X2.out (AllU.cons zU (AllU.cons zU (AllU.cons zU (AllU.cons zU (AllU.cons zU (AllU.cons zU .nil)))))))) (wordsB 4 [x0, 0, 0, 0] ++ wordsB 8 [x1]) (LEN2.out) _ _ (rowU_drew (rowU_of (heap_new _ _ _ rfl) (by simp))) N2.out (bld_drew (bld_alloc K2.out _)) (le_drew (le_alloc Z2.out _))).mono ?_; rintro e W3 ⟨rfl, k1, k2, k3⟩; have hu := HU.out.belowB HUB.out (L2.out.trans (Below.trans (Below.drew (Below.alloc (Below.refl _ _) Z2.out _)) k2)); have d3 := hu.cell 3 (by simp); have d2 := hu.cell 2 (by simp); clear hu))
    go_upto_region 9 with fail
    clear d3 d2
    have K3 : Hid (IsBld 65 B B (wordsB 4 [x0, 0, 0, 0] ++ wordsB 8 [x1] ++ wordsB 4 [x3, x2, 0, 0, 0, 0, 0, 0]) W3) := Lib.hid k1
    have L3 : Hid (Below B w1 W3) := Lib.hid (L2.out.trans (Below.trans (Below.drew (Below.alloc (Below.refl _ _) Z2.out _)) k2))
    have Z3 : Hid (B ≤ W3.heap.size) := Lib.hid (Nat.le_trans (le_drew (le_alloc Z2.out _)) k2.size)
    have Q3 : Hid ((wordsB 4 [x0, 0, 0, 0] ++ wordsB 8 [x1] ++ wordsB 4 [x3, x2, 0, 0, 0, 0, 0, 0]).length ≤ 300) := Lib.hid (by have := wordsB_length 4 [x3, x2, 0, 0, 0, 0, 0, 0]; simp only [List.length_cons, List.length_nil] at this; have q := Q2.out; rw [List.length_append]; omega)
    clear k1 k2 k3 gz c3 c2 L2 Z2 K2 N2 LEN2 Q2
    have hu : RowU W3 g [x0, x1, x2, x3, x4, x5, x6, x7, x8, x9, x10, x11, x12, x13, x14, x15, x16] := HU.out.belowB HUB.out L3.out
    have gz : g < W3.heap.size := Nat.lt_of_lt_of_le HUB.out Z3.out
    have c8 : W3.cell? ⟨g, 8, none⟩ = some (.int .u64 (x8 : Nat)) := hu.cell 8 (by simp)
    clear hu
    have N3 : Hid (W3.heap.size ≠ B) := Lib.hid (by have := bld_lt K3.out; omega)
    have LEN3 : Hid ((wordsB 4 [x0, 0, 0, 0] ++ wordsB 8 [x1] ++ wordsB 4 [x3, x2, 0, 0, 0, 0, 0, 0]).length + 8 * 1 ≤ 140737488355328) := Lib.hid (by have := Q3.out; omega)
    go_upto_region 10 with (go_at_call 28; refine (put_any B B W3.heap.size 8 [x8] (AllU.cons X8.out .nil) (wordsB 4 [x0, 0, 0, 0] ++ wordsB 8 [x1] ++ wordsB 4 [x3, x2, 0, 0, 0, 0, 0, 0]) (LEN3.out) _ _ (rowU_of (heap_new _ _ _ rfl) (by simp)) N3.out (bld_alloc K3.out _) (le_alloc Z3.out _)).mono ?_; rintro e W4 ⟨rfl, k1, k2, k3⟩)
    have K4 : Hid (IsBld 65 B B (wordsB 4 [x0, 0, 0, 0] ++ wordsB 8 [x1] ++ wordsB 4 [x3, x2, 0, 0, 0, 0, 0, 0] ++ wordsB 8 [x8]) W4) := Lib.hid k1
    have L4 : Hid (Below B w1 W4) := Lib.hid (L3.out.trans (Below.trans (Below.alloc (Below.refl _ _) Z3.out _) k2))
    have Z4 : Hid (B ≤ W4.heap.size) := Lib.hid (Nat.le_trans ((le_alloc Z3.out _)) k2.size)
    have Q4 : Hid ((wordsB 4 [x0, 0, 0, 0] ++ wordsB 8 [x1] ++ wordsB 4 [x3, x2, 0, 0, 0, 0, 0, 0] ++ wordsB 8 [x8]).length ≤ 400) := Lib.hid (by have := wordsB_length 8 [x8]; simp only [List.length_cons, List.length_nil] at this; have q := Q3.out; rw [List.length_append]; omega)
    clear k1 k2 k3 gz c8 L3 Z3 K3 N3 LEN3 Q3
    have hu : RowU W4 g [x0, x1, x2, x3, x4, x5, x6, x7, x8, x9, x10, x11, x12, x13, x14, x15, x16] := HU.out.belowB HUB.out L4.out
    have gz : g < W4.heap.size := Nat.lt_of_lt_of_le HUB.out Z4.out
    have c11 : W4.cell? ⟨g, 11, none⟩ = some (.int .u64 (x11 : Nat)) := hu.cell 11 (by simp)
    have c13 : W4.cell? ⟨g, 13, none⟩ = some (.int .u64 (x13 : Nat)) := hu.cell 13 (by simp)
    have c15 : W4.cell? ⟨g, 15, none⟩ = some (.int .u64 (x15 : Nat)) := hu.cell 15 (by simp)
    have c9 : W4.cell? ⟨g, 9, none⟩ = some (.int .u64 (x9 : Nat)) := hu.cell 9 (by simp)
    clear hu
    have N4 : Hid (W4.heap.size ≠ B) := Lib.hid (by have := bld_lt K4.out; omega)
    have LEN4 : Hid ((wordsB 4 [x0, 0, 0, 0] ++ wordsB 8 [x1] ++ wordsB 4 [x3, x2, 0, 0, 0, 0, 0, 0] ++ wordsB 8 [x8]).length + 8 * 8 ≤ 140737488355328) := Lib.hid (by have := Q4.out; omega)
    go_upto_region 10 with fail
    go_region_held (fun w' => w'.cell? ⟨g, 11, none⟩ = some (.int .u64 (x11 : Nat)) ∧ w'.cell? ⟨g, 13, none⟩ = some (.int .u64 (x13 : Nat)) ∧ w'.cell? ⟨g, 15, none⟩ = some (.int .u64 (x15 : Nat)) ∧ w'.cell? ⟨g, 9, none⟩ = some (.int .u64 (x9 : Nat))) (first | ((repeat' apply And.intro) <;> assumption) | go_keep) ((go_at_call 28; refine (put_any B B W4.heap.size 4 [x11, 0, x13, 0, x15, 0, x9, 0] (AllU.cons X11.out (AllU.cons zU (AllU.cons X13.out (AllU.cons zU (AllU.cons X15.out (AllU.cons zU (AllU.cons X9.out (AllU.cons zU .nil)))))))) (wordsB 4 [x0, 0, 0, 0] ++ wordsB 8 [x1] ++ wordsB 4 [x3, x2, 0, 0, 0, 0, 0, 0] ++ wordsB 8 [x8]) (LEN4.out) _ _ (rowU_drew (rowU_of (heap_new _ _ _ rfl) (by simp))) N4.out (bld_drew (bld_alloc K4.out _)) (le_drew (le_alloc Z4.out _))).mono ?_; rintro e W5 ⟨rfl, k1, k2, k3⟩; have hu := HU.out.belowB HUB.out (L4.out.trans (Below.trans (Below.drew (Below.alloc (Below.refl _ _) Z4.out _)) k2)); have d11 := hu.cell 11 (by simp); have d13 := hu.cell 13 (by simp); have d15 := hu.cell 15 (by simp); have d9 := hu.cell 9 (by simp); clear hu))
    go_upto_region 11 with fail
    clear d11 d13 d15 d9
    have K5 : Hid (IsBld 65 B B (wordsB 4 [x0, 0, 0, 0] ++ wordsB 8 [x1] ++ wordsB 4 [x3, x2, 0, 0, 0, 0, 0, 0] ++ wordsB 8 [x8] ++ wordsB 4 [x11, 0, x13, 0, x15, 0, x9, 0]) W5) := Lib.hid k1
    have L5 : Hid (Below B w1 W5) := Lib.hid (L4.out.trans (Below.trans (Below.drew (Below.alloc (Below.refl _ _) Z4.out _)) k2))
    have Z5 : Hid (B ≤ W5.heap.size) := Lib.hid (Nat.le_trans (le_drew (le_alloc Z4.out _)) k2.size)
    have Q5 : Hid ((wordsB 4 [x0, 0, 0, 0] ++ wordsB 8 [x1] ++ wordsB 4 [x3, x2, 0, 0, 0, 0, 0, 0] ++ wordsB 8 [x8] ++ wordsB 4 [x11, 0, x13, 0, x15, 0, x9, 0]).length ≤ 500) := Lib.hid (by have := wordsB_length 4 [x11, 0, x13, 0, x15, 0, x9, 0]; simp only [List.length_cons, List.length_nil] at this; have q := Q4.out; rw [List.length_append]; omega)
    clear k1 k2 k3 gz c11 c13 c15 c9 L4 Z4 K4 N4 LEN4 Q4
    have hu : RowU W5 g [x0, x1, x2, x3, x4, x5, x6, x7, x8, x9, x10, x11, x12, x13, x14, x15, x16] := HU.out.belowB HUB.out L5.out
    have gz : g < W5.heap.size := Nat.lt_of_lt_of_le HUB.out Z5.out
    have c10 : W5.cell? ⟨g, 10, none⟩ = some (.int .u64 (x10 : Nat)) := hu.cell 10 (by simp)
    clear hu
    have N5 : Hid (W5.heap.size ≠ B) := Lib.hid (by have := bld_lt K5.out; omega)
    have LEN5 : Hid ((wordsB 4 [x0, 0, 0, 0] ++ wordsB 8 [x1] ++ wordsB 4 [x3, x2, 0, 0, 0, 0, 0, 0] ++ wordsB 8 [x8] ++ wordsB 4 [x11, 0, x13, 0, x15, 0, x9, 0]).length + 8 * 1 ≤ 140737488355328) := Lib.hid (by have := Q5.out; omega)
    go_upto_region 12 with (go_at_call 28; refine (put_any B B W5.heap.size 8 [x10] (AllU.cons X10.out .nil) (wordsB 4 [x0, 0, 0, 0] ++ wordsB 8 [x1] ++ wordsB 4 [x3, x2, 0, 0, 0, 0, 0, 0] ++ wordsB 8 [x8] ++ wordsB 4 [x11, 0, x13, 0, x15, 0, x9, 0]) (LEN5.out) _ _ (rowU_of (heap_new _ _ _ rfl) (by simp)) N5.out (bld_alloc K5.out _) (le_alloc Z5.out _)).mono ?_; rintro e W6 ⟨rfl, k1, k2, k3⟩)
    have K6 : Hid (IsBld 65 B B (wordsB 4 [x0, 0, 0, 0] ++ wordsB 8 [x1] ++ wordsB 4 [x3, x2, 0, 0, 0, 0, 0, 0] ++ wordsB 8 [x8] ++ wordsB 4 [x11, 0, x13, 0, x15, 0, x9, 0] ++ wordsB 8 [x10]) W6) := Lib.hid k1
    have L6 : Hid (Below B w1 W6) := Lib.hid (L5.out.trans (Below.trans (Below.alloc (Below.refl _ _) Z5.out _) k2))
    have Z6 : Hid (B ≤ W6.heap.size) := Lib.hid (Nat.le_trans ((le_alloc Z5.out _)) k2.size)
    have Q6 : Hid ((wordsB 4 [x0, 0, 0, 0] ++ wordsB 8 [x1] ++ wordsB 4 [x3, x2, 0, 0, 0, 0, 0, 0] ++ wordsB 8 [x8] ++ wordsB 4 [x11, 0, x13, 0, x15, 0, x9, 0] ++ wordsB 8 [x10]).length ≤ 600) := Lib.hid (by have := wordsB_length 8 [x10]; simp only [List.length_cons, List.length_nil] at this; have q := Q5.out; rw [List.length_append]; omega)
    clear k1 k2 k3 gz c10 L5 Z5 K5 N5 LEN5 Q5
    go_wp2_with (go_at_call 29; refine (bstr_any _ _ _ _ K6.out Z6.out).mono ?_; rintro e w3 ⟨rfl, _, hb3, _⟩)
    go_ret2
    refine ⟨?_, HB1.out.trans ((L6.out.trans hb3).mono HBw.out)⟩
    rw [hF.out, hO.out, hG.out]; rfl
  · have hO : Hid (statOk l = false) := Lib.hid (decide_eq_false h144)
    have hF : Hid (statF l = []) := Lib.hid (by rw [statF, hO.out]; rfl)
    have h144' : ((l.length : Int) != 144) = true := by simp; omega
    have hl2 : (l.length : Int) ≤ 140737488351232 := by omega
    clear h144 hl
    go_enter Try.func16, Try.ntmps16
    go_wp2
    go_ret2
    exact ⟨by rw [hF.out, hO.out]; rfl, Below.refl _ _⟩
end Go.Proofs.Ytofeamajoahjmaa
