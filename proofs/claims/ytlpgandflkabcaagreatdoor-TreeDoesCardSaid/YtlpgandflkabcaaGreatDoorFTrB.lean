/-
  Names of files: the library's search for a byte 0 or a slash in any text; which names can be.
-/
import Derived.Test.YtlpgandflkabcaaGreatDoorFTrA
import Derived.Laws.RangeAny
import Derived.Lib.DecodeN
import Derived.WalkMore
import Derived.Lib.OthersKept
namespace Go.Proofs.YtlpgandflkabcaaGreatDoor
open Go Go.RowKit Go.Shelf
set_option linter.unusedVariables false
set_option linter.unusedSimpArgs false


/-! ### A text with a byte 0 or a slash -/
theorem decode_bytes (s : ByteArray) (i : Nat) (h : i < s.size) (ha : 128 ≤ (s[i]'h).toNat) : i + (Utf8.decode s i).2 ≤ s.size ∧ 1 ≤ (Utf8.decode s i).2 ∧ ∀ j (hj : j < s.size), i ≤ j → j < i + (Utf8.decode s i).2 → 128 ≤ (s[j]'hj).toNat := by
  have g : ∀ k (hk : i + k < s.size), (s.get! (i + k)).toNat = (s[i + k]'hk).toNat := fun k hk => by
    have := get_at s (i + k) hk
    rw [Nat.add_zero] at this
    rw [this]
  have g0 : (s.get! i).toNat = (s[i]'h).toNat := g 0 h
  rw [Lib.decode_at]
  have key : ∀ n b0 b1 b2 b3 : Nat, 1 ≤ n → (Lib.decodeN n b0 b1 b2 b3).2 = 1 ∨ ((Lib.decodeN n b0 b1 b2 b3).2 = 2 ∧ 1 < n ∧ b1 / 64 = 2) ∨ ((Lib.decodeN n b0 b1 b2 b3).2 = 3 ∧ 2 < n ∧ b1 / 64 = 2 ∧ b2 / 64 = 2) ∨ ((Lib.decodeN n b0 b1 b2 b3).2 = 4 ∧ 3 < n ∧ b1 / 64 = 2 ∧ b2 / 64 = 2 ∧ b3 / 64 = 2) := by
    intro n b0 b1 b2 b3 hn
    unfold Lib.decodeN
    repeat' split
    all_goals first | exact .inl rfl | (right; left; exact ⟨rfl, by omega⟩) | (right; right; left; exact ⟨rfl, by omega⟩) | (right; right; right; exact ⟨rfl, by omega⟩) | omega
  rcases key (s.size - i) (s.get! i).toNat (s.get! (i + 1)).toNat (s.get! (i + 2)).toNat (s.get! (i + 3)).toNat (by omega) with h1 | ⟨h1, h2, h3⟩ | ⟨h1, h2, h3, h4⟩ | ⟨h1, h2, h3, h4, h5⟩
  · rw [h1]
    refine ⟨by omega, by omega, fun j hj h6 h7 => ?_⟩
    obtain rfl : j = i := by omega
    exact ha
  · rw [h1]
    refine ⟨by omega, by omega, fun j hj h6 h7 => ?_⟩
    rcases (show j = i ∨ j = i + 1 by omega) with rfl | rfl
    · exact ha
    · rw [← g 1 hj]; omega
  · rw [h1]
    refine ⟨by omega, by omega, fun j hj h6 h7 => ?_⟩
    rcases (show j = i ∨ j = i + 1 ∨ j = i + 2 by omega) with rfl | rfl | rfl
    · exact ha
    · rw [← g 1 hj]; omega
    · rw [← g 2 hj]; omega
  · rw [h1]
    refine ⟨by omega, by omega, fun j hj h6 h7 => ?_⟩
    rcases (show j = i ∨ j = i + 1 ∨ j = i + 2 ∨ j = i + 3 by omega) with rfl | rfl | rfl | rfl
    · exact ha
    · rw [← g 1 hj]; omega
    · rw [← g 2 hj]; omega
    · rw [← g 3 hj]; omega
def badS (s : List UInt8) : Bool := s.contains 0 || s.contains 47
theorem noAny_all {s : ByteArray} {i n : Nat} (h : Lib.NoAny s.data.toList [0, 47] i) (hn : ∀ j (hj : j < s.size), i ≤ j → j < i + n → 128 ≤ (s[j]'hj).toNat) (hs : i + n ≤ s.size) : Lib.NoAny s.data.toList [0, 47] (i + n) := by
  induction n with
  | zero => exact h
  | succ n ih =>
    have h1 := ih (fun j hj h1 h2 => hn j hj h1 (by omega)) (by omega)
    have h2 := hn (i + n) (by omega) (by omega) (by omega)
    refine Lib.NoAny.succ h1 (Lib.data_getElem? s (i + n) (by omega)) ?_
    have e0 : s[i + n]'(by omega) ≠ 0 := fun e => by rw [e] at h2; exact absurd h2 (by decide)
    have e1 : s[i + n]'(by omega) ≠ 47 := fun e => by rw [e] at h2; exact absurd h2 (by decide)
    simp [e0, e1]
theorem below_iterAt {B k : Nat} {a w : World} (h : Below B a w) (hk : B ≤ k) (s : ByteArray) (pos : Nat) : Below B a (w.iterAt k s pos) :=
  ⟨h.os, h.tape, h.output, by have := h.size; simpa [World.iterAt] using this, fun j hj => by
    have := h.block j hj
    rw [← this]
    show (w.heap.setIfInBounds k _)[j]? = _
    rw [Array.getElem?_setIfInBounds_ne (by omega)]⟩
set_option maxHeartbeats 8000000 in
set_option maxRecDepth 1000000 in
theorem indexAny_short (s : ByteArray) (w : World) (h8 : s.size ≤ 8) :
    Calls Tryz.prog 87 #[.string s, .string ⟨#[0, 47]⟩] w fun e w' => e = .returned (.int .i64 (Lib.indexAny s.data.toList [0, 47])) ∧ Below w.heap.size w w' := by
  have h8z : decide ((8 : Int) < (s.size : Int)) = false := decide_eq_false (by omega)
  go_enter Tryz.func87, Tryz.ntmps87
  go_wp2_with (go_at_call 107; refine (Tryz.strings_shouldUseASCIISet _ _).mono ?_; rintro e w' ⟨rfl, rfl⟩; rw [h8z])
  go_loopg [9, 10] s.size (fun g _ _ wx => ∃ i : Nat, i + g = s.size ∧ Hid (wx.heap[w'.heap.size]? = some (.stringIter s i)) ∧ Hid (Below w'.heap.size w' wx) ∧ Hid (Lib.NoAny s.data.toList [0, 47] i))
  case atStart => exact ⟨0, by omega, Lib.hid (heap_new _ _ _ rfl), Lib.hid ((Below.refl _ _).alloc (Nat.le_refl _) _), Lib.hid (Lib.NoAny.zero _ _)⟩
  case round =>
    obtain ⟨i, hig, HI, HB, HN⟩ := hrel
    cases gk with
    | zero =>
      obtain rfl : i = s.size := by omega
      have hnx := fun ty => Lib.run_next_end_at (P := Tryz.prog) wr w'.heap.size s s.size ty HI.out (by omega)
      go_wp2
      go_ret
      exact ⟨by rw [Lib.indexAny_none (by rw [← Lib.size_eq]; exact HN.out)]; rfl, HB.out⟩
    | succ g =>
      have hi : i < s.size := by omega
      obtain ⟨x, hx⟩ : ∃ x : UInt8, s[i]'hi = x := ⟨_, rfl⟩
      have Hx : Hid (s.data.toList[i]? = some x) := Lib.hid (by rw [← hx]; exact Lib.data_getElem? s i hi)
      by_cases hx128 : x.toNat < 128
      · have hnx := fun ty => Lib.run_next_ascii_at (P := Tryz.prog) wr w'.heap.size s i ty HI.out hi (by rw [hx]; exact hx128)
        rw [hx] at hnx
        have HI2 : Hid ((wr.iterAt w'.heap.size s (i + 1)).heap[w'.heap.size]? = some (.stringIter s (i + 1))) := Lib.hid (Lib.iterAt_heap wr _ s i (i + 1) HI.out)
        have HB2 : Hid (Below w'.heap.size w' (wr.iterAt w'.heap.size s (i + 1))) := Lib.hid (below_iterAt HB.out (Nat.le_refl _) _ _)
        generalize wr.iterAt w'.heap.size s (i + 1) = wy at hnx HI2 HB2
        have hcon := Lib.contains_iff_indexByte [0, 47] x
        have hback : ((x.toNat : Int)).toNat.toUInt8 = x := by simp
        clear hx
        cases hin : ([0, 47] : List UInt8).contains x
        · rw [hin] at hcon
          have hlt : ¬ ((0 : Int) ≤ Lib.indexByte [0, 47] x) := of_decide_eq_false hcon.symm
          clear hcon
          go_wp2_with (go_at_call 106; refine (Tryz.strings_IndexRune_ascii _ _ _ (by omega) (by omega)).mono ?_; rintro e w2 ⟨rfl, rfl⟩; rw [hback])
          go_roundg g
          case measure => omega
          case rel => exact ⟨i + 1, by omega, HI2, HB2, Lib.hid (HN.out.succ Hx.out hin)⟩
        · rw [hin] at hcon
          have hge : (0 : Int) ≤ Lib.indexByte [0, 47] x := of_decide_eq_true hcon.symm
          clear hcon
          go_wp2_with (go_at_call 106; refine (Tryz.strings_IndexRune_ascii _ _ _ (by omega) (by omega)).mono ?_; rintro e w2 ⟨rfl, rfl⟩; rw [hback])
          go_ret
          exact ⟨by rw [Lib.indexAny_hit HN.out Hx.out hin]; rfl, HB2.out⟩
      · have hh : 128 ≤ (s[i]'hi).toNat := by rw [hx]; omega
        obtain ⟨d1, d2, d3⟩ := decode_bytes s i hi hh
        have dh := (decode_high s i hi hh).1
        have hnx := fun ty => Lib.run_next_any_at (P := Tryz.prog) wr w'.heap.size s i ty HI.out hi
        generalize hr : Utf8.decode s i = rn at d1 d2 d3 dh hnx
        obtain ⟨r, n⟩ := rn
        dsimp only at d1 d2 d3 dh hnx
        have HI2 : Hid ((wr.iterAt w'.heap.size s (i + n)).heap[w'.heap.size]? = some (.stringIter s (i + n))) := Lib.hid (Lib.iterAt_heap wr _ s i (i + n) HI.out)
        have HB2 : Hid (Below w'.heap.size w' (wr.iterAt w'.heap.size s (i + n))) := Lib.hid (below_iterAt HB.out (Nat.le_refl _) _ _)
        generalize wr.iterAt w'.heap.size s (i + n) = wy at hnx HI2 HB2
        have HN2 : Hid (Lib.NoAny s.data.toList [0, 47] (i + n)) := Lib.hid (noAny_all HN.out d3 d1)
        have HRN : Hid (∀ w, Calls Tryz.prog 106 #[.string ⟨#[0, 47]⟩, .int .i32 r] w fun e w' => e = .returned (.int .i64 (-1)) ∧ Below w.heap.size w w') := Lib.hid (fun w => rune_high r dh w)
        clear d3 hx hh hr hx128
        go_wp2_with (go_at_call 106; refine (HRN.out _).mono ?_; rintro e w2 ⟨rfl, hb2⟩; have HB3 := Lib.hid hb2; clear hb2)
        go_roundg (s.size - (i + n))
        case measure => omega
        case rel => exact ⟨i + n, by omega, Lib.hid ((HB3.out.block _ (by have := (Array.getElem?_eq_some_iff.1 HI2.out).1; omega)).trans HI2.out), Lib.hid (HB2.out.trans (HB3.out.mono HB2.out.size)), HN2⟩
set_option maxRecDepth 100000 in
theorem indexAny2_any (s : ByteArray) (w : World) (hs : s.size ≤ 1000000) :
    Calls Tryz.prog 87 #[.string s, .string ⟨#[0, 47]⟩] w fun e w' => e = .returned (.int .i64 (Lib.indexAny s.data.toList [0, 47])) ∧ Below w.heap.size w w' := by
  by_cases h8 : s.size ≤ 8
  · exact indexAny_short s w h8
  · refine (Tryz.strings_IndexAny_long (fun w => (zero_of_info (P := Tryz.prog) (t := 129) (n := 256) (by kernel_rfl)).1 w) s ⟨#[0, 47]⟩ w (by decide) (by omega) (by omega) (by decide) (fun j b hj => ?_)).mono ?_
    · match j, hj with
      | 0, hj => cases hj; decide
      | 1, hj => cases hj; decide
      | j + 2, hj => cases hj
    · rintro e w' ⟨rfl, rfl⟩
      exact ⟨rfl, ((Below.refl _ _).alloc (Nat.le_refl _) _).alloc (by simp) _⟩
theorem noAny_iff (s : List UInt8) : decide (0 ≤ Lib.indexAny s [0, 47]) = badS s := by
  induction s with
  | nil => rfl
  | cons b s ih =>
    have hg := Lib.indexAny_ge [0, 47] s
    have e : badS (b :: s) = (([0, 47] : List UInt8).contains b || badS s) := by
      simp only [badS, List.contains_cons, List.contains_nil, Bool.or_false]
      rw [show ((0 : UInt8) == b) = (b == 0) from BEq.comm, show ((47 : UInt8) == b) = (b == 47) from BEq.comm]
      cases (b == 0) <;> cases (b == 47) <;> simp
    rw [Lib.indexAny, e, ← ih]
    cases ([0, 47] : List UInt8).contains b
    · simp only [Bool.false_eq_true, if_false, Bool.false_or]
      split
      · rename_i h
        rw [beq_iff_eq.1 h]
      · rename_i h
        have : Lib.indexAny s [0, 47] ≠ -1 := fun e => h (beq_iff_eq.2 e)
        rw [decide_eq_true (by omega), decide_eq_true (by omega)]
    · simp
theorem containsAny_any (l : List UInt8) (w : World) (hs : l.length ≤ 1000000) :
    Calls Tryz.prog 71 #[.string (mkB l), .string ⟨#[0, 47]⟩] w fun e w' => e = .returned (.bool (badS l)) ∧ Below w.heap.size w w' := by
  have HI : Hid (Calls Tryz.prog 87 #[.string (mkB l), .string ⟨#[0, 47]⟩] w fun e w' => e = .returned (.int .i64 (Lib.indexAny l [0, 47])) ∧ Below w.heap.size w w') := Lib.hid (by
    have := indexAny2_any (mkB l) w (by rw [mkB_size]; exact hs)
    exact this)
  have hb := noAny_iff l
  go_enter Tryz.func71, Tryz.ntmps71
  go_wp2_with (go_at_call 87; refine HI.out.mono ?_; rintro e w2 ⟨rfl, hb2⟩)
  go_ret
  exact ⟨by rw [← hb]; rfl, hb2⟩

/-! ### Names -/
set_option maxHeartbeats 2000000 in
theorem isName_any (l : List UInt8) (w : World) (hs : l.length ≤ 1000000) :
    Calls Tryz.prog 49 #[.string (mkB l)] w fun e w' => e = .returned (.bool (nameB l)) ∧ Below w.heap.size w w' := by
  have HC := Lib.hid (containsAny_any l w hs)
  have hsz := mkB_size l
  have HL : Hid ((mkB l).toList = l) := Lib.hid (by rw [Lib.toList_data]; rfl)
  have hlen : (l.length : Int) ≤ 1000000 := by omega
  by_cases h0 : (mkB l).toList = []
  · have HR : Hid (nameB l = false) := Lib.hid (by rw [HL.out] at h0; subst h0; rfl)
    clear hs HC
    go_enter Tryz.func49, Tryz.ntmps49
    go_wp2
    go_ret
    exact ⟨by rw [HR.out]; rfl, Below.refl _ _⟩
  by_cases h1 : l.length ≤ 31
  · have i1 : (l.length : Int) ≤ 31 := by omega
    by_cases h2 : (mkB l).toList = [46]
    · have HR : Hid (nameB l = false) := Lib.hid (by rw [HL.out] at h2; subst h2; rfl)
      clear hs HC h0 h1
      go_enter Tryz.func49, Tryz.ntmps49
      go_wp2
      go_ret
      exact ⟨by rw [HR.out]; rfl, Below.refl _ _⟩
    by_cases h3 : (mkB l).toList = [46, 46]
    · have HR : Hid (nameB l = false) := Lib.hid (by rw [HL.out] at h3; subst h3; rfl)
      clear hs HC h0 h1 h2
      go_enter Tryz.func49, Tryz.ntmps49
      go_wp2
      go_ret
      exact ⟨by rw [HR.out]; rfl, Below.refl _ _⟩
    have HR : Hid (nameB l = !badS l) := Lib.hid (by rw [HL.out] at h0 h2 h3; simp only [nameB, badS, Bool.not_or]; rw [beq_eq_false_iff_ne.2 h0, beq_eq_false_iff_ne.2 h2, beq_eq_false_iff_ne.2 h3, decide_eq_true h1]; simp)
    have e0 : (mkB l).toList.isEmpty = false := by simpa using h0
    have e2 : ((mkB l).toList == [46]) = false := beq_eq_false_iff_ne.2 h2
    have e3 : ((mkB l).toList == [46, 46]) = false := beq_eq_false_iff_ne.2 h3
    clear hs h1
    go_enter Tryz.func49, Tryz.ntmps49
    go_wp2_with (go_at_call 71; refine HC.out.mono ?_; rintro e w2 ⟨rfl, hb2⟩)
    go_ret
    exact ⟨by rw [HR.out]; rfl, hb2⟩
  · have i1 : (31 : Int) < l.length := by omega
    have HR : Hid (nameB l = false) := Lib.hid (by simp [nameB, h1])
    clear hs HC h1
    go_enter Tryz.func49, Tryz.ntmps49
    go_wp2
    go_ret
    exact ⟨by rw [HR.out]; rfl, Below.refl _ _⟩
end Go.Proofs.YtlpgandflkabcaaGreatDoor
