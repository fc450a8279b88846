/-
  Names: the arguments of the laws, opened.
-/
import Derived.Test.YtlifdfkconklfaaDoorFNnJ
import Derived.Test.YtlifdfkconklfaaDoorFOpn
namespace Go.Proofs.YtlifdfkconklfaaDoor
open Go Go.ChangeShapes Go.WideShapes Go.RowKit
set_option linter.unusedVariables false
set_option linter.unusedSimpArgs false

theorem reach_is : reachBytes = 140737488351232 := rfl
set_option maxRecDepth 100000 in
theorem sym_open {cs : List Value} (h : Fits symK cs) (hs : ∀ s, Value.string s ∈ cs → s.size ≤ reachBytes) : ∃ s : SymD, cs = (symV s).toList ∧ s.Ok := by
  obtain ⟨v0, v1, v2, v3, v4, rfl⟩ : ∃ v0 v1 v2 v3 v4, cs = [v0, v1, v2, v3, v4] := by
    have hl : cs.length = 5 := h.length
    match cs, hl with
    | [v0, v1, v2, v3, v4], _ => exact ⟨_, _, _, _, _, rfl⟩
  · obtain ⟨h0, h1, h2, h3, h4, _⟩ := h
    obtain ⟨nm, rfl, _⟩ := h0
    obtain ⟨v, rfl, hv⟩ := h1
    obtain ⟨z, rfl, hz⟩ := h2
    obtain ⟨b, rfl, hb⟩ := h3
    obtain ⟨p, rfl, hp⟩ := h4
    have hn := hs nm (List.mem_cons_self ..)
    rw [reach_is] at hn
    rw [wf_u32] at hv hz
    rw [wf_i64] at hb hp
    obtain ⟨l, rfl⟩ : ∃ l, nm = mkB l := ⟨nm.data.toList, (mkB_data nm).symm⟩
    rw [mkB_size] at hn
    obtain ⟨x, rfl⟩ : ∃ x : Nat, v = x := ⟨v.toNat, by omega⟩
    obtain ⟨y, rfl⟩ : ∃ y : Nat, z = y := ⟨z.toNat, by omega⟩
    exact ⟨⟨l, x, y, b, p⟩, rfl, ⟨hn, by show x < _; omega, by show y < _; omega, by show _ ≤ b; omega, by show b ≤ _; omega, by show _ ≤ p; omega, by show p ≤ _; omega⟩⟩
set_option maxRecDepth 100000 in
theorem open_syms {H : Type} {enc : TypeId × Value → H} {W : World} {base : Nat} {spare : Nat → Bool} {held : Bool} {v : Value} {r : Reach} {b0 : Nat} {dd : DataW H} {ps : List MemPlace} (hok : Value.okWide Tryd.prog W r b0 26 v)
    (ht : DataW.Trod enc Tryd.prog W base spare held 26 v dd ps) (hw : ∀ n ∈ dd.weights Tryd.prog 26, n ≤ reachBytes) :
    ∃ (l : List SymD) (vp : Option Addr) (cap : Nat), v = .slice vp l.length cap ∧ SymsV W v l ∧ AllOk l ∧ l.length ≤ 140737488351232 := by
  rcases open_rows Tryd.underlying26 sym_flat hok ht with rfl | ⟨b, off, len, cap, m, C, rfl, hb, hlm, hm, hel⟩
  · exact ⟨[], none, 0, rfl, .inl ⟨rfl, rfl⟩, fun s hs => (by cases hs), by simp⟩
  · have each : ∀ i, i < len → ∃ s : SymD, C i = (symV s).toList ∧ s.Ok := fun i hi => sym_open (hel i hi).2.1 (fun s hs => hw _ ((hel i hi).2.2 s hs))
    obtain ⟨f, hf⟩ : ∃ f : Nat → SymD, ∀ i, i < len → C i = (symV (f i)).toList ∧ (f i).Ok := by
      refine ⟨fun i => if hi : i < len then Classical.choose (each i hi) else ⟨[], 0, 0, 0, 0⟩, fun i hi => ?_⟩
      dsimp only
      rw [dif_pos hi]
      exact Classical.choose_spec (each i hi)
    have hl : ((List.range len).map f).length = len := by simp
    have hlen : len ≤ 140737488351232 := by
      have h1 := hw _ hm
      have h2 : Tryd.prog.bytesOf 39 = 40 := by kernel_rfl
      rw [h2, reach_is] at h1
      omega
    refine ⟨(List.range len).map f, some ⟨b, off, none⟩, cap, by rw [hl], .inr ⟨b, off, cap, by rw [hl], hb, fun i hi => ?_⟩, fun s hs => ?_, by rw [hl]; exact hlen⟩
    · rw [hl] at hi
      have h1 := (hel i hi).1
      rw [(hf i hi).1] at h1
      rw [List.getElem_map, List.getElem_range]
      exact h1
    · obtain ⟨i, hi, rfl⟩ := List.mem_map.1 hs
      exact (hf i (List.mem_range.1 hi)).2
set_option maxRecDepth 100000 in
theorem open_tab {H : Type} {enc : TypeId × Value → H} {W : World} {base : Nat} {spare : Nat → Bool} {held : Bool} {v : Value} {r : Reach} {b0 : Nat} {dd : DataW H} {ps : List MemPlace} (hok : Value.okWide Tryd.prog W r b0 23 v)
    (ht : DataW.Trod enc Tryd.prog W base spare held 23 v dd ps) : ∃ a b c : List UInt8, v = .agg (tabV a b c) := by
  obtain ⟨cs, rfl, hf, _⟩ := open_flat tab_flat (by kernel_rfl) hok ht
  obtain ⟨cs⟩ := cs
  match cs, hf with
  | [_, _, _], ⟨⟨a, rfl, _⟩, ⟨b, rfl, _⟩, ⟨c, rfl, _⟩, _⟩ =>
    refine ⟨a.data.toList, b.data.toList, c.data.toList, ?_⟩
    unfold tabV
    rw [mkB_data, mkB_data, mkB_data]
end Go.Proofs.YtlifdfkconklfaaDoor
