/-
  Reading the arguments: a guest's memory.
-/
import Derived.Test.YtbaelhaajplbnaaFHoA
import Derived.Test.YtbaelhaajplbnaaFOpn
namespace Go.Proofs.Ytbaelhaajplbnaa
open Go Go.ChangeShapes Go.WideShapes Go.RowKit
set_option linter.unusedVariables false
set_option linter.unusedSimpArgs false

section
variable {P : Program} {H : Type} {enc : TypeId × Value → H} {W : World} {base : Nat} {spare : Nat → Bool} {held : Bool}
theorem mapM_mem {α β : Type} {f : α → Option β} : ∀ {l : List α} {xs : List β}, l.mapM f = some xs → ∀ a ∈ l, ∃ y, f a = some y
  | [], _, _, a, ha => by cases ha
  | x :: l, xs, h, a, ha => by
    simp only [List.mapM_cons, Option.bind_eq_bind, Option.bind_eq_some_iff, Option.pure_def, Option.some.injEq] at h
    obtain ⟨y, hy, ys, hys, _⟩ := h
    rcases List.mem_cons.1 ha with rfl | ha
    · exact ⟨y, hy⟩
    · exact mapM_mem hys a ha
/-- A struct's fields, read. -/
theorem trod_parts {t : TypeId} {fs : Array Field} {fuel : Nat} {cs : List Value} {x : DataW H × List MemPlace} (hu : P.underlying t = some (.struct fs)) (h : DataW.trod enc P W base spare held fuel t cs = some x) :
    ∃ n, ∀ f ∈ fs.toList, ∃ y, DataW.trod enc P W base spare held n f.type ((cs.drop f.offset).take (P.cellsOf f.type)) = some y := by
  cases fuel with
  | zero => simp [DataW.trod] at h
  | succ n =>
    rw [DataW.trod.eq_10 _ _ _ _ _ _ _ _ _ _ hu] at h
    split at h
    · simp only [Option.map_eq_some_iff] at h
      obtain ⟨xs, hxs, _⟩ := h
      exact ⟨n, fun f hf => mapM_mem hxs f hf⟩
    · cases h
theorem slice_of_cell {t e : TypeId} {r : Reach} {b0 : Nat} {v : Value} (hu : P.underlying t = some (.slice e)) (h : Cell.okWide P W r b0 t v) : ∃ p n c, v = .slice p n c := by
  unfold Cell.okWide at h
  rw [hu] at h
  cases v <;> first
    | exact ⟨_, _, _, rfl⟩
    | (dsimp only at h; unfold Cell.ok at h; rw [hu] at h; exact h.elim)
/-- A slice of structs of two cells, a cell of a struct. -/
theorem open_sl2 {α : Type} {c0 c1 : α → Value} {Q : α → Prop} {d : Nat} {t e : TypeId} {ks : List CK} {v : Value} {r : Reach} {b0 fuel : Nat} {y : DataW H × List MemPlace} (hu : P.underlying t = some (.slice e)) (h : flat P (d + 1) e = some ks) (hk : ks.length = 2)
    (hf : ∀ cs, Fits ks cs → ∃ a, cs = [c0 a, c1 a] ∧ Q a) (hok : Cell.okWide P W r b0 t v) (hx : DataW.trod enc P W base spare held fuel t [v] = some y) :
    ∃ (l : List α) (p : Option Addr) (cap : Nat), v = .slice p l.length cap ∧ Sl2 c0 c1 W v l ∧ ∀ a ∈ l, Q a := by
  have hok2 : Value.okWide P W r b0 t v := by unfold Value.okWide; rw [hu]; exact hok
  obtain ⟨p, n, c, rfl⟩ := slice_of_cell hu hok
  rcases open_rows (dd := y.1) (ps := y.2) hu h hok2 ⟨fuel, hx⟩ with h1 | ⟨b, off, len, cap, m, C, h1, hb, hlm, hm, hel⟩
  · rw [h1]
    exact ⟨[], none, 0, rfl, ⟨none, 0, rfl, fun h => absurd rfl h⟩, fun a ha => by cases ha⟩
  · have each : ∀ i, i < len → ∃ a, C i = [c0 a, c1 a] ∧ Q a := fun i hi => hf _ (hel i hi).2.1
    rw [h1]
    by_cases h0 : len = 0
    · subst h0
      exact ⟨[], _, _, rfl, ⟨_, _, rfl, fun h => absurd rfl h⟩, fun a ha => by cases ha⟩
    obtain ⟨a0, _, _⟩ := each 0 (by omega)
    obtain ⟨f, hf⟩ : ∃ f : Nat → α, ∀ i, i < len → C i = [c0 (f i), c1 (f i)] ∧ Q (f i) := by
      refine ⟨fun i => if hi : i < len then Classical.choose (each i hi) else a0, fun i hi => ?_⟩
      dsimp only
      rw [dif_pos hi]
      exact Classical.choose_spec (each i hi)
    have hl : ((List.range len).map f).length = len := by simp
    refine ⟨(List.range len).map f, _, cap, by rw [hl], ⟨_, cap, by rw [hl], fun _ => ⟨b, off, rfl, hb, fun i hi => ?_, fun i hi => ?_⟩⟩, fun a ha => ?_⟩
    · rw [hl] at hi
      have h2 := (hel i hi).1 0 (c0 (f i)) (by rw [(hf i hi).1]; rfl)
      rw [hk] at h2
      rw [List.getElem_map, List.getElem_range]
      exact h2
    · rw [hl] at hi
      have h2 := (hel i hi).1 1 (c1 (f i)) (by rw [(hf i hi).1]; rfl)
      rw [hk] at h2
      rw [List.getElem_map, List.getElem_range]
      exact h2
    · obtain ⟨i, hi, rfl⟩ := List.mem_map.1 ha
      exact (hf i (List.mem_range.1 hi)).2
end
set_option maxRecDepth 100000 in
theorem map_flat : flat Try.prog (1 + 1) 80 = some [.i .u64, .i .i64] := by kernel_rfl
set_option maxRecDepth 100000 in
theorem cell_flat : flat Try.prog (1 + 1) 85 = some [.i .u64, .i .u64] := by kernel_rfl
set_option maxRecDepth 100000 in
theorem page_flat : flat Try.prog (1 + 1) 77 = some [.i .u32, .i .i64] := by kernel_rfl
theorem two_of {k0 k1 : CK} {cs : List Value} (h : Fits [k0, k1] cs) : ∃ v0 v1, cs = [v0, v1] ∧ k0.ok v0 ∧ k1.ok v1 := by
  match cs, h with
  | [v0, v1], ⟨h0, h1, _⟩ => exact ⟨v0, v1, rfl, h0, h1⟩
set_option maxRecDepth 100000 in
theorem guest_types : Try.prog.cellTypes Try.prog.depth 33 = some [26, 27, 30, 31] := by kernel_rfl
set_option maxRecDepth 100000 in
theorem guest_cells : Try.prog.cellsOf 33 = 4 := by kernel_rfl
theorem host_cells : Try.prog.cellsOf 29 = 2 := by kernel_rfl
theorem maps_cells : Try.prog.cellsOf 26 = 1 := by kernel_rfl
theorem cellsl_cells : Try.prog.cellsOf 27 = 1 := by kernel_rfl
theorem pages_cells : Try.prog.cellsOf 31 = 1 := by kernel_rfl
theorem u64_cells : Try.prog.cellsOf 30 = 1 := by kernel_rfl
set_option maxRecDepth 100000 in
theorem open_guest {H : Type} {enc : TypeId × Value → H} {W : World} {base : Nat} {spare : Nat → Bool} {held : Bool} {v : Value} {r : Reach} {b0 : Nat} {dd : DataW H} {ps : List MemPlace} (hok : Value.okWide Try.prog W r b0 33 v)
    (ht : DataW.Trod enc Try.prog W base spare held 33 v dd ps) :
    ∃ (ms : List MapD) (cs : List CellD) (b : Nat) (gs : List PageD) (m1 : Option Addr) (m2 : Nat) (c1 : Option Addr) (c2 : Nat) (p1 : Option Addr) (p2 : Nat),
      v = .agg #[.slice m1 ms.length m2, .slice c1 cs.length c2, .int .u64 b, .slice p1 gs.length p2] ∧ b < 18446744073709551616 ∧
      MapsV W (.slice m1 ms.length m2) ms ∧ CellsV W (.slice c1 cs.length c2) cs ∧ PagesV W (.slice p1 gs.length p2) gs ∧
      (∀ m ∈ ms, m.page < 18446744073709551616 ∧ -9223372036854775808 ≤ m.prot ∧ m.prot < 9223372036854775808) ∧ (∀ c ∈ cs, c.pos < 18446744073709551616 ∧ c.word < 18446744073709551616) ∧
      (∀ p ∈ gs, p.num < 4294967296 ∧ -9223372036854775808 ≤ p.prot ∧ p.prot < 9223372036854775808) := by
  have hu := Try.underlying33
  obtain ⟨cs, rfl, hsz⟩ := okWide_struct hu hok
  rw [guest_cells] at hsz
  have hrow : Row.okWide Try.prog W r b0 33 cs := by
    unfold Value.okWide at hok
    rw [hu] at hok
    obtain ⟨cs', h1, _, h2⟩ := hok
    cases h1
    exact h2
  obtain ⟨ts, hts, hmul, hcell⟩ := hrow
  clear hmul
  rw [guest_types] at hts
  cases hts
  obtain ⟨v0, v1, v2, v3, rfl⟩ : ∃ v0 v1 v2 v3, cs = #[v0, v1, v2, v3] := by
    obtain ⟨l⟩ := cs
    match l, hsz with
    | [v0, v1, v2, v3], _ => exact ⟨_, _, _, _, rfl⟩
  obtain ⟨u0, e0, k0⟩ := hcell 0 v0 rfl
  obtain ⟨u1, e1, k1⟩ := hcell 1 v1 rfl
  obtain ⟨u2, e2, k2⟩ := hcell 2 v2 rfl
  obtain ⟨u3, e3, k3⟩ := hcell 3 v3 rfl
  cases e0; cases e1; cases e2; cases e3
  obtain ⟨fuel, hx⟩ := ht
  obtain ⟨n, hn⟩ := trod_parts hu hx
  obtain ⟨y0, hy0⟩ := hn _ (List.mem_cons_self ..)
  obtain ⟨y3, hy3⟩ := hn _ (List.mem_cons_of_mem _ (List.mem_cons_of_mem _ (List.mem_cons_self ..)))
  obtain ⟨n2, hn2⟩ := trod_parts Try.underlying29 hy0
  obtain ⟨z0, hz0⟩ := hn2 _ (List.mem_cons_self ..)
  obtain ⟨z1, hz1⟩ := hn2 _ (List.mem_cons_of_mem _ (List.mem_cons_self ..))
  simp only [host_cells, maps_cells, cellsl_cells, pages_cells, Value.cells, List.drop_zero, List.take_succ_cons, List.take_zero, List.drop_succ_cons] at hy3 hz0 hz1
  obtain ⟨b, hb, rfl⟩ : ∃ b : Nat, b < 18446744073709551616 ∧ v2 = .int .u64 b := by
    unfold Cell.okWide at k2
    rw [Try.underlying30] at k2
    cases v2 <;> simp only at k2 <;> (unfold Cell.ok at k2; rw [Try.underlying30] at k2) <;> first
      | exact k2.elim
      | (obtain ⟨rfl, h⟩ := k2
         rename_i i
         simp [IntKind.has, IntKind.min, IntKind.max, IntKind.signed, IntKind.bits] at h
         exact ⟨i.toNat, by omega, by rw [Int.toNat_of_nonneg h.1]⟩)
  obtain ⟨ms, m1, m2, rfl, hm, qm⟩ := open_sl2 (c0 := fun m : MapD => .int .u64 (m.page : Nat)) (c1 := fun m => .int .i64 m.prot) (Q := fun m => m.page < 18446744073709551616 ∧ -9223372036854775808 ≤ m.prot ∧ m.prot < 9223372036854775808) Try.underlying26 map_flat rfl (fun l hl => by
    obtain ⟨a, c, rfl, ⟨x, rfl, hx⟩, ⟨y, rfl, hy⟩⟩ := two_of hl
    rw [wf_u64] at hx; rw [wf_i64] at hy
    exact ⟨⟨x.toNat, y⟩, by simp only [Int.toNat_of_nonneg hx.1], by show x.toNat < _; omega, by show _ ≤ y; omega, by show y < _; omega⟩) k0 hz0
  obtain ⟨cl, c1, c2, rfl, hc, qc⟩ := open_sl2 (c0 := fun c : CellD => .int .u64 (c.pos : Nat)) (c1 := fun c => .int .u64 (c.word : Nat)) (Q := fun c => c.pos < 18446744073709551616 ∧ c.word < 18446744073709551616) Try.underlying27 cell_flat rfl (fun l hl => by
    obtain ⟨a, c, rfl, ⟨x, rfl, hx⟩, ⟨y, rfl, hy⟩⟩ := two_of hl
    rw [wf_u64] at hx hy
    exact ⟨⟨x.toNat, y.toNat⟩, by simp only [Int.toNat_of_nonneg hx.1, Int.toNat_of_nonneg hy.1], by show x.toNat < _; omega, by show y.toNat < _; omega⟩) k1 hz1
  obtain ⟨pl, p1, p2, rfl, hp, qp⟩ := open_sl2 (c0 := fun p : PageD => .int .u32 (p.num : Nat)) (c1 := fun p => .int .i64 p.prot) (Q := fun p => p.num < 4294967296 ∧ -9223372036854775808 ≤ p.prot ∧ p.prot < 9223372036854775808) Try.underlying31 page_flat rfl (fun l hl => by
    obtain ⟨a, c, rfl, ⟨x, rfl, hx⟩, ⟨y, rfl, hy⟩⟩ := two_of hl
    rw [wf_u32] at hx; rw [wf_i64] at hy
    exact ⟨⟨x.toNat, y⟩, by simp only [Int.toNat_of_nonneg hx.1], by show x.toNat < _; omega, by show _ ≤ y; omega, by show y < _; omega⟩) k3 hy3
  exact ⟨ms, cl, b, pl, m1, m2, c1, c2, p1, p2, rfl, hb, hm, hc, hp, qm, qc, qp⟩
end Go.Proofs.Ytbaelhaajplbnaa
