/-
  Which memories of the host can be, by the document.
-/
import Derived.Test.YtbaelhaajplbnaaFHoA
namespace Go.Proofs.Ytbaelhaajplbnaa
open Go Go.RowKit
set_option linter.unusedVariables false
set_option linter.unusedSimpArgs false

theorem rise_of {α : Type} {key : α → Nat} {l : List α} (h : ∀ j (hj : j < l.length), ∀ h0 : 0 < j, key (l[j - 1]'(by omega)) < key l[j]) : Rise key l := by
  refine List.pairwise_iff_getElem.2 fun i j hi hj hij => ?_
  induction j with
  | zero => omega
  | succ j ih =>
    have h1 := h (j + 1) hj (by omega)
    simp only [Nat.add_sub_cancel] at h1
    rcases Nat.lt_or_eq_of_le (Nat.le_of_lt_succ hij) with h2 | rfl
    · have := ih (by omega) h2; omega
    · exact h1
theorem Rise.step {α : Type} {key : α → Nat} {l : List α} (h : Rise key l) {j : Nat} (hj : j < l.length) (h0 : 0 < j) : key (l[j - 1]'(by omega)) < key l[j] := h.at hj (by omega)

structure HostOk (ms : List MapD) (cs : List CellD) : Prop where
  nm : ms.length ≤ 64
  nc : cs.length ≤ 131072
  map : ∀ m ∈ ms, m.page ≤ 1125899906842623 ∧ 0 ≤ m.prot ∧ m.prot ≤ 7
  mrise : Rise MapD.page ms
  cell : ∀ c ∈ cs, c.pos % 8 = 0 ∧ c.word ≠ 0 ∧ hasB MapD.page ms (c.pos / 16384) = true
  crise : Rise CellD.pos cs
noncomputable def fitH (ms : List MapD) (cs : List CellD) : Bool := @decide (HostOk ms cs) (Classical.propDecidable _)
theorem fitH_iff {ms : List MapD} {cs : List CellD} : fitH ms cs = true ↔ HostOk ms cs := by simp [fitH]
theorem fitH_not {ms : List MapD} {cs : List CellD} (h : ¬ HostOk ms cs) : fitH ms cs = false := by simp [fitH, h]

def okMap (ms : List MapD) (j : Nat) (h : j < ms.length) : Prop := ms[j].page ≤ 1125899906842623 ∧ 0 ≤ ms[j].prot ∧ ms[j].prot ≤ 7 ∧ ∀ h0 : 0 < j, (ms[j - 1]'(by omega)).page < ms[j].page
def okCell (ms : List MapD) (cs : List CellD) (j : Nat) (h : j < cs.length) : Prop := cs[j].pos % 8 = 0 ∧ cs[j].word ≠ 0 ∧ (∀ h0 : 0 < j, (cs[j - 1]'(by omega)).pos < cs[j].pos) ∧ hasB MapD.page ms (cs[j].pos / 16384) = true
theorem HostOk.okMap {ms : List MapD} {cs : List CellD} (h : HostOk ms cs) (j : Nat) (hj : j < ms.length) : okMap ms j hj :=
  ⟨(h.map _ (List.getElem_mem hj)).1, (h.map _ (List.getElem_mem hj)).2.1, (h.map _ (List.getElem_mem hj)).2.2, fun h0 => h.mrise.step hj h0⟩
theorem HostOk.okCell {ms : List MapD} {cs : List CellD} (h : HostOk ms cs) (j : Nat) (hj : j < cs.length) : okCell ms cs j hj :=
  ⟨(h.cell _ (List.getElem_mem hj)).1, (h.cell _ (List.getElem_mem hj)).2.1, fun h0 => h.crise.step hj h0, (h.cell _ (List.getElem_mem hj)).2.2⟩
theorem hostOk_of {ms : List MapD} {cs : List CellD} (h1 : ms.length ≤ 64) (h2 : cs.length ≤ 131072) (h3 : ∀ j (h : j < ms.length), j < ms.length → okMap ms j h) (h4 : ∀ j (h : j < cs.length), j < cs.length → okCell ms cs j h) : HostOk ms cs where
  nm := h1
  nc := h2
  map := fun m hm => by
    obtain ⟨k, hk, rfl⟩ := List.getElem_of_mem hm
    exact ⟨(h3 k hk hk).1, (h3 k hk hk).2.1, (h3 k hk hk).2.2.1⟩
  mrise := rise_of fun j hj h0 => (h3 j hj hj).2.2.2 h0
  cell := fun c hc => by
    obtain ⟨k, hk, rfl⟩ := List.getElem_of_mem hc
    exact ⟨(h4 k hk hk).1, (h4 k hk hk).2.1, (h4 k hk hk).2.2.2⟩
  crise := rise_of fun j hj h0 => (h4 j hj hj).2.2.1 h0
theorem snoc_all {n k : Nat} {Q : ∀ j, j < n → Prop} (hk : k < n) (h : ∀ j (h : j < n), j < k → Q j h) (hq : Q k hk) : ∀ j (h : j < n), j < k + 1 → Q j h := by
  intro j hj hjk
  rcases Nat.lt_or_eq_of_le (Nat.le_of_lt_succ hjk) with h1 | rfl
  · exact h j hj h1
  · exact hq
theorem map_size : (Try.prog.info? 80).map (·.size) = some 2 := by kernel_rfl
theorem cell_size : (Try.prog.info? 85).map (·.size) = some 2 := by kernel_rfl
theorem page_size : (Try.prog.info? 77).map (·.size) = some 2 := by kernel_rfl
/-- Beyond the host's last page. -/
def hugeP (m : Nat) : Bool := decide ((1125899906842624 : Int) ≤ (m : Int))
theorem hugeP_eq (m : Nat) : decide ((1125899906842624 : Int) ≤ (m : Int)) = hugeP m := rfl
/-- What a map of the list says. -/
theorem map_cases (ms : List MapD) (k : Nat) (hk : k < ms.length) :
    (hugeP ms[k].page = true ∧ ¬ okMap ms k hk) ∨
    (hugeP ms[k].page = false ∧ ms[k].prot < 0 ∧ ¬ okMap ms k hk) ∨
    (hugeP ms[k].page = false ∧ 0 ≤ ms[k].prot ∧ 7 < ms[k].prot ∧ ¬ okMap ms k hk) ∨
    (hugeP ms[k].page = false ∧ 0 ≤ ms[k].prot ∧ ms[k].prot ≤ 7 ∧ k = 0 ∧ okMap ms k hk) ∨
    (hugeP ms[k].page = false ∧ 0 ≤ ms[k].prot ∧ ms[k].prot ≤ 7 ∧ (∃ q, ∃ h : q + 1 = k, (ms[k].page : Int) ≤ (ms[q].page : Int)) ∧ ¬ okMap ms k hk) ∨
    (hugeP ms[k].page = false ∧ 0 ≤ ms[k].prot ∧ ms[k].prot ≤ 7 ∧ (∃ q, ∃ h : q + 1 = k, (ms[q].page : Int) < (ms[k].page : Int)) ∧ okMap ms k hk) := by
  by_cases h1 : ms[k].page ≤ 1125899906842623
  · have g1 : hugeP ms[k].page = false := by simp only [hugeP, decide_eq_false_iff_not]; omega
    by_cases h2 : 0 ≤ ms[k].prot
    · by_cases h3 : ms[k].prot ≤ 7
      · rcases Nat.eq_zero_or_pos k with h0 | h0
        · exact .inr (.inr (.inr (.inl ⟨g1, h2, h3, h0, h1, h2, h3, fun h => absurd h (by omega)⟩)))
        · obtain ⟨q, rfl⟩ : ∃ q, k = q + 1 := ⟨k - 1, by omega⟩
          by_cases h4 : (ms[q]'(by omega)).page < ms[q + 1].page
          · exact .inr (.inr (.inr (.inr (.inr ⟨g1, h2, h3, ⟨q, rfl, by omega⟩, h1, h2, h3, fun _ => h4⟩))))
          · exact .inr (.inr (.inr (.inr (.inl ⟨g1, h2, h3, ⟨q, rfl, by omega⟩, fun h => h4 (h.2.2.2 h0)⟩))))
      · exact .inr (.inr (.inl ⟨g1, h2, by omega, fun h => h3 h.2.2.1⟩))
    · exact .inr (.inl ⟨g1, by omega, fun h => h2 h.2.1⟩)
  · exact .inl ⟨by simp only [hugeP, decide_eq_true_eq]; omega, fun h => h1 h.1⟩
theorem cell_cases (ms : List MapD) (cs : List CellD) (k : Nat) (hk : k < cs.length) :
    (((cs[k].pos : Int) % 8 != 0) = true ∧ ¬ okCell ms cs k hk) ∨
    (((cs[k].pos : Int) % 8 != 0) = false ∧ ((cs[k].word : Int) == 0) = true ∧ ¬ okCell ms cs k hk) ∨
    (((cs[k].pos : Int) % 8 != 0) = false ∧ ((cs[k].word : Int) == 0) = false ∧ (∃ q, ∃ h : q + 1 = k, (cs[k].pos : Int) ≤ (cs[q].pos : Int)) ∧ ¬ okCell ms cs k hk) ∨
    (((cs[k].pos : Int) % 8 != 0) = false ∧ ((cs[k].word : Int) == 0) = false ∧ k = 0 ∧ (okCell ms cs k hk ↔ hasB MapD.page ms (cs[k].pos / 16384) = true)) ∨
    (((cs[k].pos : Int) % 8 != 0) = false ∧ ((cs[k].word : Int) == 0) = false ∧ (∃ q, ∃ h : q + 1 = k, (cs[q].pos : Int) < (cs[k].pos : Int)) ∧ (okCell ms cs k hk ↔ hasB MapD.page ms (cs[k].pos / 16384) = true)) := by
  by_cases h1 : cs[k].pos % 8 = 0
  · have b1 : ((cs[k].pos : Int) % 8 != 0) = false := by simp only [bne_eq_false_iff_eq]; omega
    by_cases h2 : cs[k].word = 0
    · have b2 : ((cs[k].word : Int) == 0) = true := by rw [h2]; rfl
      exact .inr (.inl ⟨b1, b2, fun h => h.2.1 h2⟩)
    · have b2 : ((cs[k].word : Int) == 0) = false := by rw [beq_eq_false_iff_ne]; omega
      rcases Nat.eq_zero_or_pos k with h0 | h0
      · exact .inr (.inr (.inr (.inl ⟨b1, b2, h0, fun h => h.2.2.2, fun h => ⟨h1, h2, fun h => absurd h (by omega), h⟩⟩)))
      · obtain ⟨q, rfl⟩ : ∃ q, k = q + 1 := ⟨k - 1, by omega⟩
        by_cases h4 : (cs[q]'(by omega)).pos < cs[q + 1].pos
        · exact .inr (.inr (.inr (.inr ⟨b1, b2, ⟨q, rfl, by omega⟩, fun h => h.2.2.2, fun h => ⟨h1, h2, fun _ => h4, h⟩⟩)))
        · exact .inr (.inr (.inl ⟨b1, b2, ⟨q, rfl, by omega⟩, fun h => h4 (h.2.2.1 h0)⟩))
  · have b1 : ((cs[k].pos : Int) % 8 != 0) = true := by simp only [bne_iff_ne]; omega
    exact .inl ⟨b1, fun h => h1 h.1⟩
theorem placeI_neg {ms : List MapD} {x : Nat} : decide (placeI ms x < 0) = !hasB MapD.page ms x := by
  rw [placeI]
  cases hasB MapD.page ms x
  · rfl
  · simp only [if_true, Bool.not_true, decide_eq_false_iff_not]; omega
end Go.Proofs.Ytbaelhaajplbnaa
