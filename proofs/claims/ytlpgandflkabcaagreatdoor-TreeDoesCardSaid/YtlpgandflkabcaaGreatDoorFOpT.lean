/-
  Reading the arguments: a tree of files.
-/
import Derived.Test.YtlpgandflkabcaaGreatDoorFTrK
import Derived.Test.YtlpgandflkabcaaGreatDoorFOpn
namespace Go.Proofs.YtlpgandflkabcaaGreatDoor
open Go Go.ChangeShapes Go.WideShapes Go.RowKit
set_option linter.unusedVariables false
set_option linter.unusedSimpArgs false

section
variable {P : Program} {H : Type} {enc : TypeId × Value → H} {W : World} {base : Nat} {spare : Nat → Bool} {held : Bool}
theorem mapM_mem {α β : Type} {f : α → Option β} : ∀ {l : List α} {xs : List β}, l.mapM f = some xs → ∀ a ∈ l, ∃ y, f a = some y
  | [], _, _, a, ha => by cases ha
  | x :: l, xs, h, a, ha => by
    simp only [List.mapM_cons, Option.bind_eq_bind, Option.bind_eq_some_iff, Option.pure_def, Option.some.injEq] at h
    obtain ⟨y, hy, ys, hys, _⟩ := h
    rcases List.mem_cons.1 ha with rfl | ha
    · exact ⟨y, hy⟩
    · exact mapM_mem hys a ha
/-- A struct's fields, read. -/
theorem trod_parts {t : TypeId} {fs : Array Field} {fuel : Nat} {cs : List Value} {x : DataW H × List MemPlace} (hu : P.underlying t = some (.struct fs)) (h : DataW.trod enc P W base spare held fuel t cs = some x) :
    ∃ n, ∀ f ∈ fs.toList, ∃ y, DataW.trod enc P W base spare held n f.type ((cs.drop f.offset).take (P.cellsOf f.type)) = some y := by
  cases fuel with
  | zero => simp [DataW.trod] at h
  | succ n =>
    rw [DataW.trod.eq_10 _ _ _ _ _ _ _ _ _ _ hu] at h
    split at h
    · simp only [Option.map_eq_some_iff] at h
      obtain ⟨xs, hxs, _⟩ := h
      exact ⟨n, fun f hf => mapM_mem hxs f hf⟩
    · cases h
theorem slice_of_cell {t e : TypeId} {r : Reach} {b0 : Nat} {v : Value} (hu : P.underlying t = some (.slice e)) (h : Cell.okWide P W r b0 t v) : ∃ p n c, v = .slice p n c := by
  unfold Cell.okWide at h
  rw [hu] at h
  cases v <;> first
    | exact ⟨_, _, _, rfl⟩
    | (dsimp only at h; unfold Cell.ok at h; rw [hu] at h; exact h.elim)
end
set_option maxRecDepth 100000 in
theorem node_flat : flat Tryz.prog (1 + 1) 28 = some [.s, .b, .s, .i .i64] := by kernel_rfl
def NodeSized (x : NodeD) : Prop := x.path.length ≤ 9223372036854775807 ∧ x.data.length ≤ 9223372036854775807 ∧ -9223372036854775808 ≤ x.id ∧ x.id < 9223372036854775808
theorem maxLen_is : maxLen = 9223372036854775807 := rfl
set_option maxRecDepth 100000 in
theorem node_of {cs : List Value} (h : Fits [.s, .b, .s, .i .i64] cs) : ∃ x : NodeD, cs = (nodeV x).toList ∧ NodeSized x := by
  obtain ⟨v0, v1, v2, v3, rfl⟩ : ∃ v0 v1 v2 v3, cs = [v0, v1, v2, v3] := by
    have hl : cs.length = 4 := h.length
    match cs, hl with
    | [v0, v1, v2, v3], _ => exact ⟨_, _, _, _, rfl⟩
  · obtain ⟨h0, h1, h2, h3, _⟩ := h
    obtain ⟨p, rfl, hp⟩ := h0
    obtain ⟨d, rfl⟩ := h1
    obtain ⟨q, rfl, hq⟩ := h2
    obtain ⟨i, rfl, hi⟩ := h3
    rw [wf_i64] at hi
    rw [maxLen_is] at hp hq
    obtain ⟨lp, rfl⟩ : ∃ l, p = mkB l := ⟨p.data.toList, (mkB_data p).symm⟩
    obtain ⟨lq, rfl⟩ : ∃ l, q = mkB l := ⟨q.data.toList, (mkB_data q).symm⟩
    rw [mkB_size] at hp hq
    exact ⟨⟨lp, d, lq, i⟩, rfl, hp, hq, by show _ ≤ i; omega, by show i < _; omega⟩
set_option maxRecDepth 100000 in
theorem open_nodes {H : Type} {enc : TypeId × Value → H} {W : World} {base : Nat} {spare : Nat → Bool} {held : Bool} {v : Value} {r : Reach} {b0 fuel : Nat} {y : DataW H × List MemPlace}
    (hok : Cell.okWide Tryz.prog W r b0 22 v) (hx : DataW.trod enc Tryz.prog W base spare held fuel 22 [v] = some y) :
    ∃ (l : List NodeD) (p : Option Addr) (cap : Nat), v = .slice p l.length cap ∧ NodesV W v l ∧ ∀ a ∈ l, NodeSized a := by
  have hu := Tryz.underlying22
  have hok2 : Value.okWide Tryz.prog W r b0 22 v := by unfold Value.okWide; rw [hu]; exact hok
  obtain ⟨p, n, c, rfl⟩ := slice_of_cell hu hok
  rcases open_rows (dd := y.1) (ps := y.2) hu node_flat hok2 ⟨fuel, hx⟩ with h1 | ⟨b, off, len, cap, m, C, h1, hb, hlm, hm, hel⟩
  · rw [h1]
    exact ⟨[], none, 0, rfl, ⟨none, 0, rfl, fun h => absurd rfl h⟩, fun a ha => by cases ha⟩
  · have each : ∀ i, i < len → ∃ x : NodeD, C i = (nodeV x).toList ∧ NodeSized x := fun i hi => node_of (hel i hi).2.1
    rw [h1]
    by_cases h0 : len = 0
    · subst h0
      exact ⟨[], _, _, rfl, ⟨_, _, rfl, fun h => absurd rfl h⟩, fun a ha => by cases ha⟩
    obtain ⟨f, hf⟩ : ∃ f : Nat → NodeD, ∀ i, i < len → C i = (nodeV (f i)).toList ∧ NodeSized (f i) := by
      refine ⟨fun i => if hi : i < len then Classical.choose (each i hi) else ⟨[], false, [], 0⟩, fun i hi => ?_⟩
      dsimp only
      rw [dif_pos hi]
      exact Classical.choose_spec (each i hi)
    have hl : ((List.range len).map f).length = len := by simp
    have hat : ∀ i (hi : i < len) (j : Nat) (u : Value), (nodeV (f i)).toList[j]? = some u → W.cell? ⟨b, off + i * 4 + j, none⟩ = some u := fun i hi j u hu => by
      have h2 := (hel i hi).1 j u (by rw [(hf i hi).1]; exact hu)
      exact h2
    refine ⟨(List.range len).map f, _, cap, by rw [hl], ⟨_, cap, by rw [hl], fun _ => ⟨b, off, rfl, hb, ?_, ?_, ?_, ?_⟩⟩, fun a ha => ?_⟩
    · intro i hi; rw [hl] at hi; rw [List.getElem_map, List.getElem_range]; exact hat i hi 0 _ rfl
    · intro i hi; rw [hl] at hi; rw [List.getElem_map, List.getElem_range]; exact hat i hi 1 _ rfl
    · intro i hi; rw [hl] at hi; rw [List.getElem_map, List.getElem_range]; exact hat i hi 2 _ rfl
    · intro i hi; rw [hl] at hi; rw [List.getElem_map, List.getElem_range]; exact hat i hi 3 _ rfl
    · obtain ⟨i, hi, rfl⟩ := List.mem_map.1 ha
      exact (hf i (List.mem_range.1 hi)).2
set_option maxRecDepth 100000 in
theorem tree_types : Tryz.prog.cellTypes Tryz.prog.depth 24 = some [22, 3] := by kernel_rfl
set_option maxRecDepth 100000 in
theorem tree_cells : Tryz.prog.cellsOf 24 = 2 := by kernel_rfl
theorem nodes_cells : Tryz.prog.cellsOf 22 = 1 := by kernel_rfl
set_option maxRecDepth 100000 in
theorem open_tree {H : Type} {enc : TypeId × Value → H} {W : World} {base : Nat} {spare : Nat → Bool} {held : Bool} {v : Value} {r : Reach} {b0 : Nat} {dd : DataW H} {ps : List MemPlace} (hok : Value.okWide Tryz.prog W r b0 24 v)
    (ht : DataW.Trod enc Tryz.prog W base spare held 24 v dd ps) :
    ∃ (ns : List NodeD) (p : Option Addr) (cap : Nat) (nx : Int), v = .agg (keepV (.slice p ns.length cap) nx) ∧ NodesV W (.slice p ns.length cap) ns ∧ (∀ a ∈ ns, NodeSized a) ∧ -9223372036854775808 ≤ nx ∧ nx < 9223372036854775808 := by
  have hu := Tryz.underlying24
  obtain ⟨cs, rfl, hsz⟩ := okWide_struct hu hok
  rw [tree_cells] at hsz
  have hrow : Row.okWide Tryz.prog W r b0 24 cs := by
    unfold Value.okWide at hok
    rw [hu] at hok
    obtain ⟨cs', h1, _, h2⟩ := hok
    cases h1
    exact h2
  obtain ⟨ts, hts, hmul, hcell⟩ := hrow
  clear hmul
  rw [tree_types] at hts
  cases hts
  obtain ⟨v0, v1, rfl⟩ : ∃ v0 v1, cs = #[v0, v1] := by
    obtain ⟨l⟩ := cs
    match l, hsz with
    | [v0, v1], _ => exact ⟨_, _, rfl⟩
  obtain ⟨u0, e0, k0⟩ := hcell 0 v0 rfl
  obtain ⟨u1, e1, k1⟩ := hcell 1 v1 rfl
  cases e0; cases e1
  obtain ⟨fuel, hx⟩ := ht
  obtain ⟨n, hn⟩ := trod_parts hu hx
  obtain ⟨y0, hy0⟩ := hn _ (List.mem_cons_self ..)
  simp only [nodes_cells, Value.cells, List.drop_zero, List.take_succ_cons, List.take_zero, List.drop_succ_cons] at hy0
  obtain ⟨nx, hnx, rfl⟩ : ∃ nx : Int, (-9223372036854775808 ≤ nx ∧ nx < 9223372036854775808) ∧ v1 = .int .i64 nx := by
    unfold Cell.okWide at k1
    rw [Tryz.underlying3] at k1
    cases v1 <;> simp only at k1 <;> (unfold Cell.ok at k1; rw [Tryz.underlying3] at k1) <;> first
      | exact k1.elim
      | (obtain ⟨rfl, h⟩ := k1
         rename_i i
         simp [IntKind.has, IntKind.min, IntKind.max, IntKind.signed, IntKind.bits] at h
         exact ⟨i, ⟨by omega, by omega⟩, rfl⟩)
  obtain ⟨ns, p, cap, rfl, hN, hS⟩ := open_nodes k0 hy0
  exact ⟨ns, p, cap, nx, rfl, hN, hS, hnx.1, hnx.2⟩
end Go.Proofs.YtlpgandflkabcaaGreatDoor
