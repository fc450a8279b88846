/-
  Which memories of the guest can be: what the document asks.
-/
import Derived.Test.YtbaelhaajplbnaaFHoD
namespace Go.Proofs.Ytbaelhaajplbnaa
open Go Go.RowKit
set_option linter.unusedVariables false
set_option linter.unusedSimpArgs false

def okPage (base : Nat) (ms : List MapD) (ps : List PageD) (j : Nat) (h : j < ps.length) : Prop := ps[j].num < 1048576 ∧ 0 ≤ ps[j].prot ∧ ps[j].prot ≤ 7 ∧ (∀ h0 : 0 < j, (ps[j - 1]'(by omega)).num < ps[j].num) ∧ hasB MapD.page ms (hostP base ps[j].num) = true
def okMapG (base : Nat) (ps : List PageD) (m : MapD) : Prop := inR base (m.page * 16384) = true → m.prot = 3 ∧ usedB base ps m.page = true
def okCellG (base : Nat) (ps : List PageD) (c : CellD) : Prop := inR base c.pos = true → 0 ≤ protL ps (ownN base c.pos)
structure GuestOk (base : Nat) (ms : List MapD) (cs : List CellD) (ps : List PageD) : Prop where
  host : HostOk ms cs
  round : base % 16384 = 0
  low : base ≤ 4611686018427387904
  few : ps.length ≤ 256
  page : ∀ j (h : j < ps.length), okPage base ms ps j h
  map : ∀ m ∈ ms, okMapG base ps m
  cell : ∀ c ∈ cs, okCellG base ps c
noncomputable def fitG (base : Nat) (ms : List MapD) (cs : List CellD) (ps : List PageD) : Bool := @decide (GuestOk base ms cs ps) (Classical.propDecidable _)
theorem fitG_iff {base : Nat} {ms : List MapD} {cs : List CellD} {ps : List PageD} : fitG base ms cs ps = true ↔ GuestOk base ms cs ps := by simp [fitG]
theorem fitG_not {base : Nat} {ms : List MapD} {cs : List CellD} {ps : List PageD} (h : ¬ GuestOk base ms cs ps) : fitG base ms cs ps = false := by simp [fitG, h]
theorem guestOk_of {base : Nat} {ms : List MapD} {cs : List CellD} {ps : List PageD} (h1 : HostOk ms cs) (h2 : base % 16384 = 0) (h3 : base ≤ 4611686018427387904) (h4 : ps.length ≤ 256)
    (h5 : ∀ j (h : j < ps.length), j < ps.length → okPage base ms ps j h) (h6 : ∀ j (h : j < ms.length), j < ms.length → okMapG base ps ms[j]) (h7 : ∀ j (h : j < cs.length), j < cs.length → okCellG base ps cs[j]) : GuestOk base ms cs ps where
  host := h1
  round := h2
  low := h3
  few := h4
  page := fun j h => h5 j h h
  map := fun m hm => by obtain ⟨k, hk, rfl⟩ := List.getElem_of_mem hm; exact h6 k hk hk
  cell := fun m hm => by obtain ⟨k, hk, rfl⟩ := List.getElem_of_mem hm; exact h7 k hk hk
def hugeN (m : Nat) : Bool := decide ((1048576 : Int) ≤ (m : Int))
theorem hugeN_eq (m : Nat) : decide ((1048576 : Int) ≤ (m : Int)) = hugeN m := rfl
def bigB (m : Nat) : Bool := decide ((4611686018427387904 : Int) < (m : Int))
theorem bigB_eq (m : Nat) : decide ((4611686018427387904 : Int) < (m : Int)) = bigB m := rfl
theorem page_cases (base : Nat) (ms : List MapD) (ps : List PageD) (k : Nat) (hk : k < ps.length) :
    (hugeN ps[k].num = true ∧ ¬ okPage base ms ps k hk) ∨
    (hugeN ps[k].num = false ∧ decide (ps[k].prot < 0) = true ∧ ¬ okPage base ms ps k hk) ∨
    (hugeN ps[k].num = false ∧ decide (ps[k].prot < 0) = false ∧ decide (7 < ps[k].prot) = true ∧ ¬ okPage base ms ps k hk) ∨
    (hugeN ps[k].num = false ∧ decide (ps[k].prot < 0) = false ∧ decide (7 < ps[k].prot) = false ∧ (∃ q, ∃ h : q + 1 = k, decide (ps[k].num ≤ ps[q].num) = true) ∧ ¬ okPage base ms ps k hk) ∨
    (hugeN ps[k].num = false ∧ decide (ps[k].prot < 0) = false ∧ decide (7 < ps[k].prot) = false ∧ k = 0 ∧ (okPage base ms ps k hk ↔ hasB MapD.page ms (hostP base ps[k].num) = true)) ∨
    (hugeN ps[k].num = false ∧ decide (ps[k].prot < 0) = false ∧ decide (7 < ps[k].prot) = false ∧ (∃ q, ∃ h : q + 1 = k, decide (ps[k].num ≤ ps[q].num) = false) ∧ (okPage base ms ps k hk ↔ hasB MapD.page ms (hostP base ps[k].num) = true)) := by
  by_cases h1 : ps[k].num < 1048576
  · have g1 : hugeN ps[k].num = false := by simp only [hugeN, decide_eq_false_iff_not]; omega
    by_cases h2 : 0 ≤ ps[k].prot
    · have g2 : decide (ps[k].prot < 0) = false := decide_eq_false (by omega)
      by_cases h3 : ps[k].prot ≤ 7
      · have g3 : decide (7 < ps[k].prot) = false := decide_eq_false (by omega)
        rcases Nat.eq_zero_or_pos k with h0 | h0
        · exact .inr (.inr (.inr (.inr (.inl ⟨g1, g2, g3, h0, fun h => h.2.2.2.2, fun h => ⟨h1, h2, h3, fun h => absurd h (by omega), h⟩⟩))))
        · obtain ⟨q, rfl⟩ : ∃ q, k = q + 1 := ⟨k - 1, by omega⟩
          by_cases h4 : (ps[q]'(by omega)).num < ps[q + 1].num
          · exact .inr (.inr (.inr (.inr (.inr ⟨g1, g2, g3, ⟨q, rfl, decide_eq_false (by omega)⟩, fun h => h.2.2.2.2, fun h => ⟨h1, h2, h3, fun _ => h4, h⟩⟩))))
          · exact .inr (.inr (.inr (.inl ⟨g1, g2, g3, ⟨q, rfl, decide_eq_true (by omega)⟩, fun h => h4 (h.2.2.2.1 h0)⟩)))
      · exact .inr (.inr (.inl ⟨g1, g2, decide_eq_true (by omega), fun h => h3 h.2.2.1⟩))
    · exact .inr (.inl ⟨g1, decide_eq_true (by omega), fun h => h2 h.2.1⟩)
  · exact .inl ⟨by simp only [hugeN, decide_eq_true_eq]; omega, fun h => h1 h.1⟩
theorem mapG_cases (base : Nat) (ps : List PageD) (m : MapD) :
    (inR base (m.page * 16384) = false ∧ okMapG base ps m) ∨
    (inR base (m.page * 16384) = true ∧ (m.prot != 3) = true ∧ ¬ okMapG base ps m) ∨
    (inR base (m.page * 16384) = true ∧ (m.prot != 3) = false ∧ usedB base ps m.page = false ∧ ¬ okMapG base ps m) ∨
    (inR base (m.page * 16384) = true ∧ (m.prot != 3) = false ∧ usedB base ps m.page = true ∧ okMapG base ps m) := by
  cases h1 : inR base (m.page * 16384)
  · exact .inl ⟨rfl, fun h => by rw [h1] at h; cases h⟩
  · by_cases h2 : m.prot = 3
    · have g2 : (m.prot != 3) = false := by rw [h2]; rfl
      cases h3 : usedB base ps m.page
      · exact .inr (.inr (.inl ⟨rfl, g2, rfl, fun h => by have := (h h1).2; rw [h3] at this; cases this⟩))
      · exact .inr (.inr (.inr ⟨rfl, g2, rfl, fun _ => ⟨h2, h3⟩⟩))
    · exact .inr (.inl ⟨rfl, by simp only [bne_iff_ne]; exact h2, fun h => h2 (h h1).1⟩)
theorem cellG_cases (base : Nat) (ps : List PageD) (c : CellD) :
    (inR base c.pos = false ∧ okCellG base ps c) ∨
    (inR base c.pos = true ∧ decide (protL ps (ownN base c.pos) < 0) = true ∧ ¬ okCellG base ps c) ∨
    (inR base c.pos = true ∧ decide (protL ps (ownN base c.pos) < 0) = false ∧ okCellG base ps c) := by
  cases h1 : inR base c.pos
  · exact .inl ⟨rfl, fun h => by rw [h1] at h; cases h⟩
  · by_cases h2 : 0 ≤ protL ps (ownN base c.pos)
    · exact .inr (.inr ⟨rfl, decide_eq_false (by omega), fun _ => h2⟩)
    · exact .inr (.inl ⟨rfl, decide_eq_true (by omega), fun h => h2 (h h1)⟩)
theorem guest_size (vm vc : Value) (base : Nat) (vp : Value) : (Try.prog.info? 33).map (·.size) = some (guestV vm vc base vp).size := by
  show _ = some 4
  kernel_rfl
end Go.Proofs.Ytbaelhaajplbnaa
