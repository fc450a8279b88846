/-
  The library's pieces between slashes; which texts are paths, by the program.
-/
import Derived.Test.YtlpgandflkabcaaGreatDoorFTrD
import Derived.Shelf.Strings.SplitCore
namespace Go.Proofs.YtlpgandflkabcaaGreatDoor
open Go Go.RowKit Go.Shelf
set_option linter.unusedVariables false
set_option linter.unusedSimpArgs false

theorem count1 (c : UInt8) : ∀ (n : Nat) (l : List UInt8), l.length ≤ n → Lib.count l [c] = l.count c := by
  intro n
  induction n with
  | zero =>
    intro l h
    obtain rfl : l = [] := List.length_eq_zero_iff.1 (by omega)
    rfl
  | succ n ih =>
    intro l h
    by_cases hm : c ∈ l
    · obtain ⟨a, t, ha, rfl⟩ := cut_first hm
      have hi := index1_at (t := t) ha
      have hd : (a ++ c :: t).drop (a.length + 1) = t := by simp [List.drop_append]
      rw [Lib.count_hit (by simp) hi]
      simp only [List.length_cons, List.length_nil, Nat.zero_add, hd]
      rw [ih t (by simp at h; omega), List.count_append, List.count_cons_self, List.count_eq_zero.2 ha]
      omega
    · rw [Lib.count_miss (index1_none hm), List.count_eq_zero.2 hm]
def pieceRow (l : List (List UInt8)) : Array Value := (l.map fun p => Value.string (mkB p)).toArray
theorem pieces_row (c : UInt8) (l : List UInt8) : ((Lib.splitB ⟨#[c]⟩ 0 (Lib.countB ⟨l.toArray⟩ ⟨#[c]⟩) ⟨l.toArray⟩).map Value.string).toArray = pieceRow (splitB c l) := by
  unfold pieceRow
  rw [← lib_split c l, List.map_map]
  congr 1
theorem pieceRow_at {l : List (List UInt8)} {k : Nat} (h : k < l.length) : (pieceRow l)[k]? = some (.string (mkB l[k])) := by
  simp [pieceRow, h]
set_option maxHeartbeats 1000000 in
theorem split_any (l : List UInt8) (w : World) (hs : l.length ≤ 1000000) :
    Calls Tryz.prog 54 #[.string (mkB l), .string ⟨#[47]⟩] w fun e w' =>
      e = .returned (.slice (some ⟨w.heap.size, 0, none⟩) (splitB 47 l).length (splitB 47 l).length) ∧ w' = w.alloc (.cells (pieceRow (splitB 47 l)) 9) := by
  have hsz := mkB_size l
  have hle := lib_split_length 47 l
  have hlen := Lib.splitB_all ⟨#[47]⟩ (Nat.le_refl 1) 0 _ (mkB l) rfl
  have hc : Lib.countB (mkB l) ⟨#[47]⟩ + 1 = (splitB 47 l).length := hle
  have hcl : l.count 47 ≤ l.length := List.count_le_length
  have hcc : Lib.countB (mkB l) ⟨#[47]⟩ = l.count 47 := count1 47 l.length l (Nat.le_refl _)
  have c : Calls Tryz.prog 78 #[.string (mkB l), .string ⟨#[47]⟩, .int .i64 ((0 : Nat) : Int), .int .i64 (-1)] w fun e w' =>
      e = .returned (.slice (some ⟨w.heap.size, 0, none⟩) (Lib.splitB ⟨#[47]⟩ 0 (Lib.countB (mkB l) ⟨#[47]⟩ + 1 - 1) (mkB l)).length (Lib.countB (mkB l) ⟨#[47]⟩ + 1)) ∧ w' = w.alloc (.cells (Lib.cellsOf (Lib.splitB ⟨#[47]⟩ 0 (Lib.countB (mkB l) ⟨#[47]⟩ + 1 - 1) (mkB l)) (Lib.countB (mkB l) ⟨#[47]⟩ + 1)) 9) :=
    Any.strings_genSplit_core (P := Tryz.prog) (ρ := Tryz.lays146_ren) { Tryz.lays146 with } (by kernel_rfl) (mkB l) ⟨#[47]⟩ 0 (-1) (Lib.countB (mkB l) ⟨#[47]⟩ + 1) w (by rw [hsz]; omega) (Nat.le_refl 1) (Nat.zero_le _)
      (fun x cc hx => (Tryz.strings_Index_one x 47 _).mono fun e w' h => ⟨by rw [h.1, Lib.one x ⟨#[47]⟩ rfl]; rfl, h.2⟩)
      ((Tryz.strings_Count_one (mkB l) 47 w).mono fun e w' h => ⟨by rw [h.1, hcc]; rfl, h.2⟩)
      (by decide) (by decide) (by rw [if_pos (by decide), hsz, hcc]; omega)
  rw [Nat.add_sub_cancel, hlen] at c
  have e2 : Lib.cellsOf (Lib.splitB ⟨#[47]⟩ 0 (Lib.countB (mkB l) ⟨#[47]⟩) (mkB l)) (Lib.countB (mkB l) ⟨#[47]⟩ + 1) = pieceRow (splitB 47 l) := by
    rw [← hlen, Lib.cellsOf_full]
    exact pieces_row 47 l
  rw [e2, hc] at c
  have C := Lib.hid c
  clear c e2 hc hle hlen hcl hcc
  go_enter Tryz.func54, Tryz.ntmps54
  go_wp2_with (go_at_call 78; refine C.out.mono ?_; rintro e w' ⟨rfl, rfl⟩)
  go_ret
  exact ⟨rfl, rfl⟩
/-- The program's test of a piece. -/
theorem isPath1_any (l : List UInt8) (w : World) (hs : l.length ≤ 1000000) :
    Calls Tryz.prog 55 #[.string (mkB l)] w fun e w' => e = .returned (.bool (!nameB l)) ∧ Below w.heap.size w w' := by
  have HC := Lib.hid (isName_any l w hs)
  clear hs
  go_enter Tryz.func55, Tryz.ntmps55
  go_wp2_with (go_at_call 49; refine HC.out.mono ?_; rintro e w' ⟨rfl, hb⟩)
  go_ret
  exact ⟨rfl, hb⟩
theorem all_false {l : List (List UInt8)} {k : Nat} (hk : k < l.length) (h : nameB l[k] = false) : l.all nameB = false := by
  rw [Bool.eq_false_iff]
  intro e
  have := List.all_eq_true.1 e _ (List.getElem_mem hk)
  rw [h] at this; cases this
theorem all_true {l : List (List UInt8)} (h : ∀ j (hj : j < l.length), j < l.length → nameB l[j] = true) : l.all nameB = true := List.all_eq_true.2 fun x hx => by
  obtain ⟨k, hk, rfl⟩ := List.getElem_of_mem hx
  exact h k hk hk
set_option maxHeartbeats 2000000 in
theorem idxNames_any (l : List (List UInt8)) (hl : ∀ p ∈ l, p.length ≤ 1000000) (hlen : l.length ≤ 2000000) (b n c : Nat) (w : World) (hb : b < w.heap.size) (hrow : ∀ k (h : k < l.length), w.cell? ⟨b, k, none⟩ = some (.string (mkB l[k]))) :
    Calls Tryz.prog 53 #[.slice (some ⟨b, 0, none⟩) l.length c, .func (.func 55) #[] #[]] w fun e w' => e = .returned (.bool (!l.all nameB)) ∧ Below w.heap.size w w' := by
  have HROW : Hid (∀ w', Below w.heap.size w w' → ∀ k (h : k < l.length), w'.cell? ⟨b, k, none⟩ = some (.string (mkB l[k]))) := Lib.hid (fun w' h k hk => (h.cell (p := ⟨b, k, none⟩) hb).trans (hrow k hk))
  have HC : Hid (∀ k (h : k < l.length) w, Calls Tryz.prog 55 #[.string (mkB l[k])] w fun e w' => e = .returned (.bool (!nameB l[k])) ∧ Below w.heap.size w w') := Lib.hid (fun k h w => isPath1_any _ w (hl _ (List.getElem_mem h)))
  have hli : (l.length : Int) ≤ 2000000 := by omega
  have HI : Hid (Calls Tryz.prog 77 #[.slice (some ⟨b, 0, none⟩) l.length c, .func (.func 55) #[] #[]] w fun e w' => (∃ i : Int, e = .returned (.int .i64 i) ∧ decide (0 ≤ i) = !l.all nameB) ∧ Below w.heap.size w w') := by
    clear hrow hl
    refine Lib.hid ?_
    go_enter Tryz.func77, Tryz.ntmps77
    go_wp2
    go_loopw [8] (fun iv wr => ∃ k : Nat, k ≤ l.length ∧ iv = .int .i64 k ∧ Hid (Below w.heap.size w wr) ∧ Hid (∀ j (hj : j < l.length), j < k → nameB l[j] = true)) (fun iv wr => l.length - (intOf iv).toNat)
    case atStart => exact ⟨0, Nat.zero_le _, rfl, Lib.hid (Below.refl _ _), Lib.hid (fun j _ h => absurd h (Nat.not_lt_zero _))⟩
    case round =>
      obtain ⟨k, hk, rfl, HB, HN⟩ := hrel
      by_cases hlt : k < l.length
      · have cell := HROW.out wr HB.out k hlt
        have HCK := Lib.hid (HC.out k hlt wr)
        cases hn : nameB l[k]
        · have HNK := Lib.hid hn
          clear hn
          go_wp2_with (go_at_call 55; refine HCK.out.mono ?_; rintro e w2 ⟨rfl, hb2⟩; rw [HNK.out]; have HB2 := Lib.hid (HB.out.trans (hb2.mono HB.out.size)); clear hb2)
          go_ret
          exact ⟨⟨_, rfl, by rw [all_false hlt HNK.out]; simp⟩, HB2.out⟩
        · have HNK := Lib.hid hn
          clear hn
          go_wp2_with (go_at_call 55; refine HCK.out.mono ?_; rintro e w2 ⟨rfl, hb2⟩; rw [HNK.out]; have HB2 := Lib.hid (HB.out.trans (hb2.mono HB.out.size)); clear hb2)
          go_roundw
          case rel => exact ⟨k + 1, by omega, by go_num, HB2, Lib.hid (fun j hj hjk => by
            rcases Nat.lt_or_eq_of_le (Nat.le_of_lt_succ hjk) with h | rfl
            · exact HN.out j hj h
            · exact HNK.out)⟩
          case measure => simp [intOf]; omega
      · obtain rfl : k = l.length := by omega
        go_wp2
        go_ret
        exact ⟨⟨_, rfl, by rw [all_true HN.out]; rfl⟩, HB.out⟩
  clear hrow hl HC HROW
  go_enter Tryz.func53, Tryz.ntmps53
  go_wp2_with (go_at_call 77; refine HI.out.mono ?_; rintro e w2 ⟨⟨i, rfl, hi⟩, hb2⟩)
  go_ret
  exact ⟨by rw [← hi]; rfl, hb2⟩
theorem split_mem {l p : List UInt8} (hp : p ∈ splitB 47 l) : p.length ≤ l.length := (splitB_mem hp).2
theorem split_len : ∀ l : List UInt8, (splitB 47 l).length ≤ l.length + 1
  | [] => by simp [splitB]
  | b :: l => by
    have ih := split_len l
    rw [splitB]
    split
    · simp; omega
    · split
      · simp
      · rename_i p ps h; rw [h] at ih; simp at ih ⊢; omega
theorem cut_slash (t : List UInt8) (w : World) : Calls Tryz.prog 52 #[.string (mkB (47 :: t)), .string ⟨#[47]⟩] w fun e w' => e = .returned (.tuple #[.string (mkB t), .bool true]) ∧ w' = w :=
  (Tryz.strings_CutPrefix (mkB (47 :: t)) ⟨#[47]⟩ w).mono fun e w' h => ⟨by rw [h.1]; simp [Lib.trimPrefix, Lib.hasPrefix, mkB, List.isPrefixOf], h.2⟩
theorem cut_none (l : List UInt8) (h : l.head? ≠ some 47) (w : World) : Calls Tryz.prog 52 #[.string (mkB l), .string ⟨#[47]⟩] w fun e w' => e = .returned (.tuple #[.string (mkB l), .bool false]) ∧ w' = w :=
  (Tryz.strings_CutPrefix (mkB l) ⟨#[47]⟩ w).mono fun e w' h' => ⟨by
    have e1 : Lib.hasPrefix (mkB l).data.toList (⟨#[47]⟩ : ByteArray).data.toList = false := by
      match l, h with
      | [], _ => rfl
      | b :: t, h =>
        have hb : (47 : UInt8) ≠ b := fun e => h (by rw [e]; rfl)
        simp [Lib.hasPrefix, mkB, List.isPrefixOf, hb]
    rw [h'.1, Lib.trimPrefix, e1]; rfl, h'.2⟩
set_option maxHeartbeats 2000000 in
set_option maxRecDepth 100000 in
theorem isPath_any (l : List UInt8) (w : World) (hs : l.length ≤ 1000000) :
    Calls Tryz.prog 26 #[.string (mkB l)] w fun e w' => e = .returned (.bool (pathB l)) ∧ Below w.heap.size w w' := by
  have hsz := mkB_size l
  have HL : Hid ((mkB l).toList = l) := Lib.hid (mkB_toList l)
  have hlen : (l.length : Int) ≤ 1000000 := by omega
  by_cases h4 : l.head? = some 47
  · obtain ⟨t, ht⟩ : ∃ t, l = 47 :: t := List.head?_eq_some_iff.1 h4
    have HT := Lib.hid ht
    have HCUT : Hid (∀ w, Calls Tryz.prog 52 #[.string (mkB l), .string ⟨#[47]⟩] w fun e w' => e = .returned (.tuple #[.string (mkB t), .bool true]) ∧ w' = w) := Lib.hid (by rw [ht]; exact cut_slash t)
    have htl : t.length + 1 = l.length := by rw [ht]; rfl
    clear ht
    by_cases h0 : (mkB l).toList = [47]
    · have HR : Hid (pathB l = true) := Lib.hid (by rw [HL.out] at h0; rw [h0]; rfl)
      clear hs h4 htl
      go_enter Tryz.func26, Tryz.ntmps26
      go_wp2_with (go_at_call 52; refine (HCUT.out _).mono ?_; rintro e w' ⟨rfl, rfl⟩)
      go_ret
      exact ⟨by rw [HR.out]; rfl, Below.refl _ _⟩
    have e0 : ((mkB l).toList == [47]) = false := beq_eq_false_iff_ne.2 h0
    by_cases h2 : l.length ≤ 255
    · have i2 : (l.length : Int) ≤ 255 := by omega
      obtain ⟨n, hn⟩ : ∃ n : Nat, n = (splitB 47 t).length := ⟨_, rfl⟩
      have HR : Hid (pathB l = (splitB 47 t).all nameB) := Lib.hid (by
        rw [HL.out] at h0
        rw [pathB, beq_eq_false_iff_ne.2 h0, decide_eq_true h2, HT.out]; simp)
      have HS : Hid (Calls Tryz.prog 54 #[.string (mkB t), .string ⟨#[47]⟩] w fun e w' => e = .returned (.slice (some ⟨w.heap.size, 0, none⟩) n n) ∧ w' = w.alloc (.cells (pieceRow (splitB 47 t)) 9)) := Lib.hid (by rw [hn]; exact split_any t w (by omega))
      have HA : Hid (Calls Tryz.prog 53 #[.slice (some ⟨w.heap.size, 0, none⟩) n n, .func (.func 55) #[] #[]] (w.alloc (.cells (pieceRow (splitB 47 t)) 9)) fun e w' => e = .returned (.bool (!(splitB 47 t).all nameB)) ∧ Below (w.alloc (.cells (pieceRow (splitB 47 t)) 9)).heap.size (w.alloc (.cells (pieceRow (splitB 47 t)) 9)) w') := Lib.hid (by
        have hl2 := split_len t
        rw [hn]
        exact idxNames_any (splitB 47 t) (fun p hp => by have := split_mem hp; omega) (by omega) w.heap.size 0 _ _ (by simp only [heap_len]; omega) (fun k hk => cell_at (heap_new _ _ _ rfl) (pieceRow_at hk)))
      clear hn hs h2 h4 htl
      go_enter Tryz.func26, Tryz.ntmps26
      go_wp2_with (first
        | (go_at_call 52; refine (HCUT.out _).mono ?_; rintro e w' ⟨rfl, rfl⟩)
        | (go_at_call 54; refine HS.out.mono ?_; rintro e w' ⟨rfl, rfl⟩)
        | (go_at_call 53; refine HA.out.mono ?_; rintro e w' ⟨rfl, hb⟩; have HB := Lib.hid hb; clear hb))
      go_ret
      exact ⟨by rw [HR.out]; simp, ((Below.refl _ _).alloc (Nat.le_refl _) _).trans (HB.out.mono (by simp only [heap_len]; omega))⟩
    · have i2 : (255 : Int) < (l.length : Int) := by omega
      have HR : Hid (pathB l = false) := Lib.hid (by rw [HL.out] at h0; rw [pathB, beq_eq_false_iff_ne.2 h0, decide_eq_false h2]; rfl)
      clear hs h4 h2 htl
      go_enter Tryz.func26, Tryz.ntmps26
      go_wp2_with (go_at_call 52; refine (HCUT.out _).mono ?_; rintro e w' ⟨rfl, rfl⟩)
      go_ret
      exact ⟨by rw [HR.out]; rfl, Below.refl _ _⟩
  · have HCUT := Lib.hid (cut_none l h4)
    have h0 : ¬ (mkB l).toList = [47] := by rw [HL.out]; rintro rfl; exact h4 rfl
    have e0 : ((mkB l).toList == [47]) = false := beq_eq_false_iff_ne.2 h0
    have HR : Hid (pathB l = false) := Lib.hid (by
      rw [HL.out] at h0
      rw [pathB, beq_eq_false_iff_ne.2 h0, beq_eq_false_iff_ne.2 h4]; simp)
    clear hs h4
    go_enter Tryz.func26, Tryz.ntmps26
    go_wp2_with (go_at_call 52; refine (HCUT.out _).mono ?_; rintro e w' ⟨rfl, rfl⟩)
    go_ret
    exact ⟨by rw [HR.out]; rfl, Below.refl _ _⟩
end Go.Proofs.YtlpgandflkabcaaGreatDoor
