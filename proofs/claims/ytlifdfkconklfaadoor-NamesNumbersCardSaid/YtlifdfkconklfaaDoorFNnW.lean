/-
  Names: what stands in memory while the program's Write goes on: two builders and three rows of numbers, all apart.
-/
import Derived.Test.YtlifdfkconklfaaDoorFNnD
import Derived.Test.YtlifdfkconklfaaDoorFBldT
namespace Go.Proofs.YtlifdfkconklfaaDoor
open Go Go.RowKit
set_option linter.unusedVariables false
set_option linter.unusedSimpArgs false

/-- The blocks: two builders, three rows, the result; all below M and apart. -/
structure WPl where
  w0 : World
  b1 : Nat
  b2 : Nat
  g1 : Nat
  g2 : Nat
  g3 : Nat
  rb : Nat
  M : Nat
  lt : w0.heap.size ≤ rb ∧ rb < M ∧ b1 < M ∧ b2 < M ∧ g1 < M ∧ g2 < M ∧ g3 < M ∧ w0.heap.size ≤ b1 ∧ w0.heap.size ≤ b2 ∧ w0.heap.size ≤ g1 ∧ w0.heap.size ≤ g2 ∧ w0.heap.size ≤ g3
  ap : b1 ≠ b2 ∧ b1 ≠ g1 ∧ b1 ≠ g2 ∧ b1 ≠ g3 ∧ b1 ≠ rb ∧ b2 ≠ g1 ∧ b2 ≠ g2 ∧ b2 ≠ g3 ∧ b2 ≠ rb ∧ g1 ≠ g2 ∧ g1 ≠ g3 ∧ g1 ≠ rb ∧ g2 ≠ g3 ∧ g2 ≠ rb ∧ g3 ≠ rb
structure WInv (p : WPl) (A B : List UInt8) (X Y Z : List Nat) (r1 r2 : Option Nat) (w : World) : Prop where
  bl1 : BldAt 67 p.b1 r1 A w
  bl2 : BldAt 67 p.b2 r2 B w
  row1 : w.heap[p.g1]? = some (.cells (rowI .i64 X) 3)
  row2 : w.heap[p.g2]? = some (.cells (rowI .i64 Y) 3)
  row3 : w.heap[p.g3]? = some (.cells (rowI .i64 Z) 3)
  res : w.heap[p.rb]? = some (.cells (tabV [] [] []) 23)
  below : Below p.w0.heap.size p.w0 w
  m1 : ∀ x, r1 = some x → p.M ≤ x
  m2 : ∀ x, r2 = some x → p.M ≤ x
  m12 : r1 = none ∨ r1 ≠ r2
  sz : p.M ≤ w.heap.size
theorem WInv.grow {p : WPl} {A B : List UInt8} {X Y Z : List Nat} {r1 r2 : Option Nat} {w w' : World} (h : WInv p A B X Y Z r1 r2 w) (hb : Below w.heap.size w w') : WInv p A B X Y Z r1 r2 w' := by
  obtain ⟨_, a2, a3, a4, a5, a6, a7, _⟩ := p.lt
  have := h.sz
  exact ⟨h.bl1.below hb, h.bl2.below hb, (hb.block _ (by omega)).trans h.row1, (hb.block _ (by omega)).trans h.row2, (hb.block _ (by omega)).trans h.row3, (hb.block _ (by omega)).trans h.res, h.below.trans (hb.mono h.below.size), h.m1, h.m2, h.m12, Nat.le_trans h.sz hb.size⟩
theorem ne_of_m {M k : Nat} {r : Option Nat} (hm : ∀ x, r = some x → M ≤ x) (hk : k < M) : some k ≠ r := fun e => by have := hm k e.symm; omega
theorem WInv.w1 {p : WPl} {A A' B : List UInt8} {X Y Z : List Nat} {r1 r1' r2 : Option Nat} {w w' : World} (h : WInv p A B X Y Z r1 r2 w) (ho : Only p.b1 r1 w w') (hb : BldAt 67 p.b1 r1' A' w') (hr : r1' = r1 ∨ ∃ g, r1' = some g ∧ w.heap.size ≤ g) : WInv p A' B X Y Z r1' r2 w' := by
  obtain ⟨a1, a2, a3, a4, a5, a6, a7, a8, a9, a10, a11, a12⟩ := p.lt
  obtain ⟨c1, c2, c3, c4, c5, c6, c7, c8, c9, c10, c11, c12, c13, c14, c15⟩ := p.ap
  have hsz := h.sz
  have bl : ∀ k, k < p.M → k ≠ p.b1 → w'.heap[k]? = w.heap[k]? := fun k hk hne => ho.block k (by omega) hne (ne_of_m h.m1 hk)
  refine ⟨hb, h.bl2.other ho (fun e => c1 e.symm) (ne_of_m h.m1 a4) (fun e => (ne_of_m h.m2 a3) e.symm) ?_, (bl _ a5 (fun e => c2 e.symm)).trans h.row1, (bl _ a6 (fun e => c3 e.symm)).trans h.row2, (bl _ a7 (fun e => c4 e.symm)).trans h.row3, (bl _ a2 (fun e => c5 e.symm)).trans h.res,
    h.below.trans (ho.below a8 (fun k hk => by have := h.m1 k hk; omega) (by omega)), ?_, h.m2, ?_, Nat.le_trans hsz ho.size⟩
  · rcases h.m12 with e | e
    · subst e; cases r2 with
      | none => exact .inl rfl
      | some x => exact .inr (by simp)
    · exact .inr (fun e2 => e e2.symm)
  · intro x hx
    rcases hr with rfl | ⟨g, rfl, hg⟩
    · exact h.m1 x hx
    · cases hx; omega
  · rcases hr with rfl | ⟨g, rfl, hg⟩
    · exact h.m12
    · exact .inr (fun e => by have := h.bl2.row g e.symm; omega)
theorem WInv.w2 {p : WPl} {A B B' : List UInt8} {X Y Z : List Nat} {r1 r2 r2' : Option Nat} {w w' : World} (h : WInv p A B X Y Z r1 r2 w) (ho : Only p.b2 r2 w w') (hb : BldAt 67 p.b2 r2' B' w') (hr : r2' = r2 ∨ ∃ g, r2' = some g ∧ w.heap.size ≤ g) : WInv p A B' X Y Z r1 r2' w' := by
  obtain ⟨a1, a2, a3, a4, a5, a6, a7, a8, a9, a10, a11, a12⟩ := p.lt
  obtain ⟨c1, c2, c3, c4, c5, c6, c7, c8, c9, c10, c11, c12, c13, c14, c15⟩ := p.ap
  have hsz := h.sz
  have bl : ∀ k, k < p.M → k ≠ p.b2 → w'.heap[k]? = w.heap[k]? := fun k hk hne => ho.block k (by omega) hne (ne_of_m h.m2 hk)
  refine ⟨h.bl1.other ho c1 (ne_of_m h.m2 a3) (fun e => (ne_of_m h.m1 a4) e.symm) h.m12, hb, (bl _ a5 (fun e => c6 e.symm)).trans h.row1, (bl _ a6 (fun e => c7 e.symm)).trans h.row2, (bl _ a7 (fun e => c8 e.symm)).trans h.row3, (bl _ a2 (fun e => c9 e.symm)).trans h.res,
    h.below.trans (ho.below a9 (fun k hk => by have := h.m2 k hk; omega) (by omega)), h.m1, ?_, ?_, Nat.le_trans hsz ho.size⟩
  · intro x hx
    rcases hr with rfl | ⟨g, rfl, hg⟩
    · exact h.m2 x hx
    · cases hx; omega
  · rcases hr with rfl | ⟨g, rfl, hg⟩
    · exact h.m12
    · cases hr1 : r1 with
      | none => exact .inl rfl
      | some x => exact .inr (fun e => by cases e; have := h.bl1.row g hr1; omega)
theorem WInv.put {p : WPl} {A B : List UInt8} {X Y Z X' Y' Z' : List Nat} {r1 r2 : Option Nat} {w w' : World} (h : WInv p A B X Y Z r1 r2 w) (g : Nat) (hg : g = p.g1 ∨ g = p.g2 ∨ g = p.g3) (hsz : w'.heap.size = w.heap.size) (he : w'.os = w.os ∧ w'.tape = w.tape ∧ w'.output = w.output)
    (hk : ∀ k, k ≠ g → w'.heap[k]? = w.heap[k]?) (r1' : w'.heap[p.g1]? = some (.cells (rowI .i64 X') 3)) (r2' : w'.heap[p.g2]? = some (.cells (rowI .i64 Y') 3)) (r3' : w'.heap[p.g3]? = some (.cells (rowI .i64 Z') 3)) : WInv p A B X' Y' Z' r1 r2 w' := by
  obtain ⟨a1, a2, a3, a4, a5, a6, a7, a8, a9, a10, a11, a12⟩ := p.lt
  obtain ⟨c1, c2, c3, c4, c5, c6, c7, c8, c9, c10, c11, c12, c13, c14, c15⟩ := p.ap
  have nb1 : p.b1 ≠ g := by rcases hg with rfl | rfl | rfl <;> assumption
  have nb2 : p.b2 ≠ g := by rcases hg with rfl | rfl | rfl <;> assumption
  have nrb : p.rb ≠ g := by rcases hg with rfl | rfl | rfl <;> (intro e; exact absurd e.symm (by assumption))
  clear c1 c2 c3 c4 c5 c6 c7 c8 c9 c10 c11 c12 c13 c14 c15
  have hM := h.sz
  have hgM : g < p.M := by rcases hg with rfl | rfl | rfl <;> assumption
  have hg0 : p.w0.heap.size ≤ g := by rcases hg with rfl | rfl | rfl <;> assumption
  have k1 : ∀ k, r1 = some k → k ≠ g := fun k e => by have := h.m1 k e; omega
  have k2 : ∀ k, r2 = some k → k ≠ g := fun k e => by have := h.m2 k e; omega
  refine ⟨h.bl1.kept (hk _ nb1) (fun k e => hk _ (k1 k e)), h.bl2.kept (hk _ nb2) (fun k e => hk _ (k2 k e)), r1', r2', r3', (hk _ nrb).trans h.res, ?_, h.m1, h.m2, h.m12, by omega⟩
  exact h.below.trans ⟨he.1, he.2.1, he.2.2, by omega, fun k hk' => hk k (by omega)⟩
theorem WInv.set1 {p : WPl} {A B : List UInt8} {X Y Z : List Nat} {r1 r2 : Option Nat} {w : World} (h : WInv p A B X Y Z r1 r2 w) (i v : Nat) : WInv p A B (X.set i v) Y Z r1 r2 (w.setCell ⟨p.g1, i, none⟩ (.int .i64 (v : Nat))) := by
  obtain ⟨c1, c2, c3, c4, c5, c6, c7, c8, c9, c10, c11, c12, c13, c14, c15⟩ := p.ap
  exact h.put p.g1 (.inl rfl) (by simp [World.setCell]) ⟨rfl, rfl, rfl⟩ (fun k hk => heap_set_ne _ _ _ _ _ hk) (rowI_setCell h.row1 i v) ((heap_set_ne _ _ _ _ _ (fun e => c10 e.symm)).trans h.row2) ((heap_set_ne _ _ _ _ _ (fun e => c11 e.symm)).trans h.row3)
theorem WInv.set2 {p : WPl} {A B : List UInt8} {X Y Z : List Nat} {r1 r2 : Option Nat} {w : World} (h : WInv p A B X Y Z r1 r2 w) (i v : Nat) : WInv p A B X (Y.set i v) Z r1 r2 (w.setCell ⟨p.g2, i, none⟩ (.int .i64 (v : Nat))) := by
  obtain ⟨c1, c2, c3, c4, c5, c6, c7, c8, c9, c10, c11, c12, c13, c14, c15⟩ := p.ap
  exact h.put p.g2 (.inr (.inl rfl)) (by simp [World.setCell]) ⟨rfl, rfl, rfl⟩ (fun k hk => heap_set_ne _ _ _ _ _ hk) ((heap_set_ne _ _ _ _ _ c10).trans h.row1) (rowI_setCell h.row2 i v) ((heap_set_ne _ _ _ _ _ (fun e => c13 e.symm)).trans h.row3)
theorem WInv.set3 {p : WPl} {A B : List UInt8} {X Y Z : List Nat} {r1 r2 : Option Nat} {w : World} (h : WInv p A B X Y Z r1 r2 w) (i v : Nat) : WInv p A B X Y (Z.set i v) r1 r2 (w.setCell ⟨p.g3, i, none⟩ (.int .i64 (v : Nat))) := by
  obtain ⟨c1, c2, c3, c4, c5, c6, c7, c8, c9, c10, c11, c12, c13, c14, c15⟩ := p.ap
  exact h.put p.g3 (.inr (.inr rfl)) (by simp [World.setCell]) ⟨rfl, rfl, rfl⟩ (fun k hk => heap_set_ne _ _ _ _ _ hk) ((heap_set_ne _ _ _ _ _ c11).trans h.row1) ((heap_set_ne _ _ _ _ _ c13).trans h.row2) (rowI_setCell h.row3 i v)
/-- What is left of it behind the loop. -/
structure WEnd (p : WPl) (X Z : List Nat) (w : World) : Prop where
  row1 : w.heap[p.g1]? = some (.cells (rowI .i64 X) 3)
  row3 : w.heap[p.g3]? = some (.cells (rowI .i64 Z) 3)
  res : w.heap[p.rb]? = some (.cells (tabV [] [] []) 23)
  below : Below p.w0.heap.size p.w0 w
  sz : p.M ≤ w.heap.size
theorem WEnd.grow {p : WPl} {X Z : List Nat} {w w' : World} (h : WEnd p X Z w) (hb : Below w.heap.size w w') : WEnd p X Z w' := by
  obtain ⟨_, a2, a3, a4, a5, a6, a7, _⟩ := p.lt
  have := h.sz
  exact ⟨(hb.block _ (by omega)).trans h.row1, (hb.block _ (by omega)).trans h.row3, (hb.block _ (by omega)).trans h.res, h.below.trans (hb.mono h.below.size), Nat.le_trans h.sz hb.size⟩
theorem WInv.end1 {p : WPl} {A B : List UInt8} {X Y Z : List Nat} {r1 r2 : Option Nat} {w w' : World} (h : WInv p A B X Y Z r1 r2 w) (ho : Only p.b1 r1 w w') : BldAt 67 p.b2 r2 B w' ∧ WEnd p X Z w' := by
  obtain ⟨a1, a2, a3, a4, a5, a6, a7, a8, a9, a10, a11, a12⟩ := p.lt
  obtain ⟨c1, c2, c3, c4, c5, c6, c7, c8, c9, c10, c11, c12, c13, c14, c15⟩ := p.ap
  have hsz := h.sz
  have bl : ∀ k, k < p.M → k ≠ p.b1 → w'.heap[k]? = w.heap[k]? := fun k hk hne => ho.block k (by omega) hne (ne_of_m h.m1 hk)
  refine ⟨h.bl2.other ho (fun e => c1 e.symm) (ne_of_m h.m1 a4) (fun e => (ne_of_m h.m2 a3) e.symm) ?_, (bl _ a5 (fun e => c2 e.symm)).trans h.row1, (bl _ a7 (fun e => c4 e.symm)).trans h.row3, (bl _ a2 (fun e => c5 e.symm)).trans h.res,
    h.below.trans (ho.below a8 (fun k hk => by have := h.m1 k hk; omega) (by omega)), Nat.le_trans hsz ho.size⟩
  rcases h.m12 with e | e
  · subst e; cases r2 with
    | none => exact .inl rfl
    | some x => exact .inr (by simp)
  · exact .inr (fun e2 => e e2.symm)
theorem WEnd.end2 {p : WPl} {X Z : List Nat} {r2 : Option Nat} {w w' : World} (h : WEnd p X Z w) (m2 : ∀ x, r2 = some x → p.M ≤ x) (ho : Only p.b2 r2 w w') : WEnd p X Z w' := by
  obtain ⟨a1, a2, a3, a4, a5, a6, a7, a8, a9, a10, a11, a12⟩ := p.lt
  obtain ⟨c1, c2, c3, c4, c5, c6, c7, c8, c9, c10, c11, c12, c13, c14, c15⟩ := p.ap
  have hsz := h.sz
  have bl : ∀ k, k < p.M → k ≠ p.b2 → w'.heap[k]? = w.heap[k]? := fun k hk hne => ho.block k (by omega) hne (ne_of_m m2 hk)
  exact ⟨(bl _ a5 (fun e => c6 e.symm)).trans h.row1, (bl _ a7 (fun e => c8 e.symm)).trans h.row3, (bl _ a2 (fun e => c9 e.symm)).trans h.res,
    h.below.trans (ho.below a9 (fun k hk => by have := m2 k hk; omega) (by omega)), Nat.le_trans hsz ho.size⟩
theorem words_row (X : List Nat) (hX : ∀ x ∈ X, x < 4294967296) (N g cap : Nat) (hN : X.length = N) (hl : N ≤ 1000000) {T : TypeId} {fr : Nat × Nat} (w : World) (h : w.heap[g]? = some (.cells (rowI .i64 X) T fr)) :
    Calls Tryd.prog 38 #[.slice (some ⟨g, 0, none⟩) N cap] w fun e w' => e = .returned (.string (mkB (wordsL X))) ∧ Below w.heap.size w w' := by
  subst hN
  exact words_any X hl (fun i hi => by have := hX _ (List.getElem_mem hi); omega) g 0 cap w (fun i hi => by rw [Nat.zero_add]; exact cell_at h (rowI_at hi)) (heap_lt h)
end Go.Proofs.YtlifdfkconklfaaDoor
