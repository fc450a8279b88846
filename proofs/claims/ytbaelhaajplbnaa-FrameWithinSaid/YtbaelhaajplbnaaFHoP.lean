/-
  The host's memory as plain lists: lists whose keys rise, where a key stands, cells set, and bytes read.
-/
import Derived.WalkKit
namespace Go.Proofs.Ytbaelhaajplbnaa
set_option linter.unusedVariables false
set_option linter.unusedSimpArgs false

structure MapD where
  page : Nat
  prot : Int
  deriving DecidableEq
structure CellD where
  pos : Nat
  word : Nat
  deriving DecidableEq
structure PageD where
  num : Nat
  prot : Int
  deriving DecidableEq

section
variable {α : Type}

def Rise (key : α → Nat) (l : List α) : Prop := l.Pairwise fun a b => key a < key b
/-- Where a key stands, or should stand. -/
def lowB (key : α → Nat) (l : List α) (x : Nat) : Nat := l.findIdx fun a => decide (x ≤ key a)
def hasB (key : α → Nat) (l : List α) (x : Nat) : Bool := l.any fun a => key a == x

theorem lowB_of {key : α → Nat} {l : List α} {x i : Nat} (hi : i ≤ l.length) (h1 : ∀ k (h : k < l.length), k < i → key l[k] < x) (h2 : ∀ k (h : k < l.length), i ≤ k → x ≤ key l[k]) : lowB key l x = i := by
  rcases Nat.lt_or_eq_of_le hi with hl | rfl
  · refine (List.findIdx_eq hl).2 ⟨by simpa using h2 i hl (Nat.le_refl _), fun j hj => ?_⟩
    have := h1 j (by omega) hj
    simp only [decide_eq_false_iff_not]; omega
  · refine List.findIdx_eq_length_of_false fun a ha => ?_
    obtain ⟨k, hk, rfl⟩ := List.getElem_of_mem ha
    have := h1 k hk hk
    simp only [decide_eq_false_iff_not]; omega

theorem lowB_le {key : α → Nat} {l : List α} {x : Nat} : lowB key l x ≤ l.length := List.findIdx_le_length
theorem lowB_lt {key : α → Nat} {l : List α} {x k : Nat} (hk : k < lowB key l x) (h : k < l.length) : key l[k] < x := by
  have := List.not_of_lt_findIdx hk
  simp only [decide_eq_false_iff_not] at this
  omega
theorem lowB_ge {key : α → Nat} {l : List α} {x : Nat} (h : lowB key l x < l.length) : x ≤ key l[lowB key l x] := by
  have := List.findIdx_getElem (p := fun a => decide (x ≤ key a)) (w := h)
  exact of_decide_eq_true this

theorem Rise.at {key : α → Nat} {l : List α} (hr : Rise key l) {i j : Nat} (hj : j < l.length) (hij : i < j) : key (l[i]'(by omega)) < key l[j] := List.pairwise_iff_getElem.1 hr i j (by omega) hj hij
theorem Rise.ge {key : α → Nat} {l : List α} (hr : Rise key l) {x k : Nat} (h : k < l.length) (hk : lowB key l x ≤ k) : x ≤ key l[k] := by
  have h1 := lowB_ge (key := key) (l := l) (x := x) (by omega)
  rcases Nat.lt_or_eq_of_le hk with hk | hk
  · have := hr.at h hk; omega
  · subst hk; exact h1

theorem hasB_at {key : α → Nat} {l : List α} (hr : Rise key l) {x : Nat} : hasB key l x = true ↔ ∃ h : lowB key l x < l.length, key l[lowB key l x] = x := by
  constructor
  · intro h
    simp only [hasB, List.any_eq_true, beq_iff_eq] at h
    obtain ⟨a, ha, hx⟩ := h
    obtain ⟨k, hk, rfl⟩ := List.getElem_of_mem ha
    have h1 : lowB key l x ≤ k := by
      rcases Nat.lt_or_ge k (lowB key l x) with h | h
      · have := lowB_lt h hk; omega
      · exact h
    refine ⟨by omega, ?_⟩
    have h2 := lowB_ge (key := key) (l := l) (x := x) (by omega)
    rcases Nat.lt_or_eq_of_le h1 with h3 | h3
    · have := hr.at hk h3; omega
    · subst h3; exact hx
  · rintro ⟨h, hx⟩
    simp only [hasB, List.any_eq_true, beq_iff_eq]
    exact ⟨_, List.getElem_mem h, hx⟩
end

/-! ### Cells -/
def wordL (cs : List CellD) (a : Nat) : Nat := match cs with
  | [] => 0
  | c :: cs => if c.pos = a then c.word else wordL cs a
def setL (cs : List CellD) (a w : Nat) : List CellD := match cs with
  | [] => if w = 0 then [] else [⟨a, w⟩]
  | c :: cs => if c.pos < a then c :: setL cs a w else if c.pos = a then (if w = 0 then cs else ⟨a, w⟩ :: cs) else if w = 0 then c :: cs else ⟨a, w⟩ :: c :: cs

theorem wordL_not {cs : List CellD} {a : Nat} (h : ∀ c ∈ cs, c.pos ≠ a) : wordL cs a = 0 := by
  induction cs with
  | nil => rfl
  | cons c cs ih =>
    simp only [wordL, if_neg (h c (List.mem_cons_self ..))]
    exact ih fun d hd => h d (List.mem_cons_of_mem _ hd)
theorem wordL_at {cs : List CellD} (hr : Rise CellD.pos cs) {k : Nat} (hk : k < cs.length) : wordL cs cs[k].pos = cs[k].word := by
  induction cs generalizing k with
  | nil => simp at hk
  | cons c cs ih =>
    cases k with
    | zero => simp [wordL]
    | succ k =>
      simp only [List.length_cons] at hk
      have h1 := (List.pairwise_cons.1 hr).1 cs[k] (List.getElem_mem (by omega))
      simp only [List.getElem_cons_succ, wordL]
      rw [if_neg (by omega)]
      exact ih (List.pairwise_cons.1 hr).2 (by omega)
theorem wordL_low {cs : List CellD} (hr : Rise CellD.pos cs) (a : Nat) : wordL cs a = if h : lowB CellD.pos cs a < cs.length ∧ hasB CellD.pos cs a = true then (cs[lowB CellD.pos cs a]'h.1).word else 0 := by
  split
  · rename_i h
    obtain ⟨h1, h2⟩ := (hasB_at hr).1 h.2
    have := wordL_at hr h1
    rw [h2] at this
    exact this
  · rename_i h
    refine wordL_not fun c hc he => h ?_
    have hb : hasB CellD.pos cs a = true := by
      simp only [hasB, List.any_eq_true, beq_iff_eq]; exact ⟨c, hc, he⟩
    exact ⟨((hasB_at hr).1 hb).1, hb⟩

theorem setL_pos {cs : List CellD} {a w : Nat} {c : CellD} (h : c ∈ setL cs a w) : c ∈ cs ∨ (c = ⟨a, w⟩ ∧ w ≠ 0) := by
  induction cs with
  | nil =>
    simp only [setL] at h
    split at h
    · cases h
    · rename_i hw; simp only [List.mem_singleton] at h; exact .inr ⟨h, hw⟩
  | cons d cs ih =>
    simp only [setL] at h
    split at h
    · rcases List.mem_cons.1 h with h | h
      · exact .inl (h ▸ List.mem_cons_self ..)
      · exact (ih h).imp (List.mem_cons_of_mem _) id
    · split at h
      · split at h
        · exact .inl (List.mem_cons_of_mem _ h)
        · rename_i hw
          rcases List.mem_cons.1 h with h | h
          · exact .inr ⟨h, hw⟩
          · exact .inl (List.mem_cons_of_mem _ h)
      · split at h
        · exact .inl h
        · rename_i hw
          rcases List.mem_cons.1 h with h | h
          · exact .inr ⟨h, hw⟩
          · exact .inl h
theorem setL_rise {cs : List CellD} (hr : Rise CellD.pos cs) (a w : Nat) : Rise CellD.pos (setL cs a w) := by
  induction cs with
  | nil => simp only [setL]; split <;> simp [Rise]
  | cons d cs ih =>
    obtain ⟨h1, h2⟩ := List.pairwise_cons.1 hr
    simp only [setL]
    split
    · rename_i hd
      refine List.pairwise_cons.2 ⟨fun c hc => ?_, ih h2⟩
      rcases setL_pos hc with hc | ⟨rfl, _⟩
      · exact h1 c hc
      · exact hd
    · split
      · rename_i he
        split
        · exact h2
        · exact List.pairwise_cons.2 ⟨fun c hc => by have := h1 c hc; simp only; omega, h2⟩
      · split
        · exact hr
        · refine List.pairwise_cons.2 ⟨fun c hc => ?_, hr⟩
          rcases List.mem_cons.1 hc with rfl | hc
          · simp only; omega
          · have := h1 c hc; simp only; omega
theorem wordL_setL {cs : List CellD} (hr : Rise CellD.pos cs) (a w b : Nat) : wordL (setL cs a w) b = if b = a then w else wordL cs b := by
  induction cs with
  | nil =>
    simp only [setL]
    split
    · rename_i hw; subst hw; simp [wordL]
    · simp only [wordL, eq_comm]
  | cons d cs ih =>
    obtain ⟨h1, h2⟩ := List.pairwise_cons.1 hr
    have ih := ih h2
    simp only [setL]
    split
    · rename_i hd
      simp only [wordL, ih]
      by_cases hb : b = a
      · subst hb; rw [if_neg (by omega)]; simp
      · simp only [if_neg hb]
    · split
      · rename_i hd he
        by_cases hb : b = a
        · subst hb
          simp only [if_true]
          split
          · rename_i hw
            rw [hw]
            exact wordL_not fun c hc => by have := h1 c hc; omega
          · simp [wordL]
        · simp only [if_neg hb]
          split
          · rename_i hw
            simp only [wordL]
            rw [if_neg (by omega)]
          · simp only [wordL]
            rw [if_neg (by omega), if_neg (by omega)]
      · split
        · rename_i hd he hw
          by_cases hb : b = a
          · subst hb
            simp only [if_true, hw]
            refine wordL_not fun c hc => ?_
            rcases List.mem_cons.1 hc with rfl | hc
            · exact he
            · have := h1 c hc; omega
          · simp only [if_neg hb]
        · rename_i hd he hw
          by_cases hb : b = a
          · subst hb; simp [wordL]
          · simp only [if_neg hb]
            simp only [wordL]
            rw [if_neg (by omega)]
/-- The set list by where its key stands. -/
theorem setL_low (cs : List CellD) (hr : Rise CellD.pos cs) (a w : Nat) : setL cs a w = if hasB CellD.pos cs a = true then (if w = 0 then cs.take (lowB CellD.pos cs a) ++ cs.drop (lowB CellD.pos cs a + 1) else cs.take (lowB CellD.pos cs a) ++ ⟨a, w⟩ :: cs.drop (lowB CellD.pos cs a + 1)) else if w = 0 then cs else cs.take (lowB CellD.pos cs a) ++ ⟨a, w⟩ :: cs.drop (lowB CellD.pos cs a) := by
  induction cs with
  | nil => simp [setL, hasB, lowB]
  | cons d cs ih =>
    obtain ⟨h1, h2⟩ := List.pairwise_cons.1 hr
    have ih := ih h2
    simp only [setL]
    by_cases hd : d.pos < a
    · rw [if_pos hd, ih]
      have e1 : lowB CellD.pos (d :: cs) a = lowB CellD.pos cs a + 1 := by
        simp only [lowB, List.findIdx_cons]
        rw [show decide (a ≤ d.pos) = false by simp only [decide_eq_false_iff_not]; omega]
        rfl
      have e2 : hasB CellD.pos (d :: cs) a = hasB CellD.pos cs a := by
        simp only [hasB, List.any_cons]
        rw [show (d.pos == a) = false by simp only [beq_eq_false_iff_ne]; omega, Bool.false_or]
      rw [e1, e2]
      split <;> split <;> simp
    · rw [if_neg hd]
      have e1 : lowB CellD.pos (d :: cs) a = 0 := by
        simp only [lowB, List.findIdx_cons]
        rw [show decide (a ≤ d.pos) = true by simp only [decide_eq_true_eq]; omega]
        rfl
      rw [e1]
      by_cases he : d.pos = a
      · have e2 : hasB CellD.pos (d :: cs) a = true := by simp [hasB, he]
        rw [if_pos he, e2]
        simp
      · have e2 : hasB CellD.pos (d :: cs) a = false := by
          rw [Bool.eq_false_iff]
          intro h
          simp only [hasB, List.any_eq_true, beq_iff_eq] at h
          obtain ⟨c, hc, hx⟩ := h
          rcases List.mem_cons.1 hc with rfl | hc
          · exact he hx
          · have := h1 c hc; omega
        rw [if_neg he, e2]
        simp

/-- A byte, whatever is allowed. -/
def peekL (cs : List CellD) (p : Nat) : Nat := wordL cs (p - p % 8) / 2 ^ (8 * (p % 8)) % 256
end Go.Proofs.Ytbaelhaajplbnaa
