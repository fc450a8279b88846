/-
  Names: the document's Text; numbers as bytes.
-/
import Derived.Test.YtlifdfkconklfaaDoorFNmH
namespace Go.Proofs.YtlifdfkconklfaaDoor
open Go Go.RowKit
set_option linter.unusedVariables false
set_option linter.unusedSimpArgs false

def txtOk (s : List UInt8) (k : Nat) : Bool := decide (k < s.length) && hasZ (s.drop k)
def txtV (s : List UInt8) (k : Nat) : List UInt8 := if txtOk s k then upto0 (s.drop k) else []
theorem upto0_at {l : List UInt8} {j : Nat} (hj : j < l.length) (h0 : (l.take j).contains 0 = false) (hz : l[j] = 0) : upto0 l = l.take j := by
  have e : l = l.take j ++ l[j] :: l.drop (j + 1) := by rw [List.getElem_cons_drop, List.take_append_drop]
  have h1 : ∀ x ∈ l.take j, (x != 0) = true := by
    intro x hx
    rw [bne_iff_ne]
    intro e0
    rw [e0] at hx
    rw [List.contains_eq_mem, decide_eq_false_iff_not] at h0
    exact h0 hx
  conv => lhs; rw [e]
  unfold upto0
  rw [List.takeWhile_append_of_pos h1, hz, List.takeWhile_cons, if_neg (by simp)]
  simp
set_option maxHeartbeats 1000000 in
theorem rtext_any (s : List UInt8) (k : Nat) (hs : s.length ≤ 140737488351232) (hk : k < 4294967296) (w : World) :
    Calls Tryd.prog 26 #[.string (mkB s), .int .u32 k] w fun e w' => e = .returned (.tuple #[.string (mkB (txtV s k)), .bool (txtOk s k)]) ∧ w = w' := by
  have hsz := mkB_size s
  have hsi : (s.length : Int) ≤ 140737488351232 := by omega
  have hki : (k : Int) ≤ 4294967295 := by omega
  by_cases hlt : k < s.length
  · have hkl : (k : Int) < (s.length : Int) := by omega
    have hK : Hid (k < s.length ∧ txtOk s k = hasZ (s.drop k)) := Lib.hid ⟨hlt, by rw [txtOk, decide_eq_true hlt]; rfl⟩
    clear hlt hs hk
    go_enter Tryd.func26, Tryd.ntmps26
    go_wp2
    go_loop [6] (fun i => ∃ j : Nat, (k : Int) ≤ j ∧ (j : Int) ≤ s.length ∧ i = .int .i64 j ∧ Hid (((s.drop k).take (j - k)).contains 0 = false)) (fun i => s.length - (intOf i).toNat)
    case atStart => exact ⟨k, by omega, by omega, rfl, Lib.hid (by simp)⟩
    case round =>
      obtain ⟨j, hj1, hj2, rfl, HJ⟩ := hrel
      by_cases hjl : j < s.length
      · have hjli : (j : Int) < (s.length : Int) := by omega
        have hd : j - k < (s.drop k).length := by rw [List.length_drop]; omega
        have hgd : (s.drop k)[j - k]'hd = s[j] := by rw [List.getElem_drop]; congr 1; omega
        by_cases hz : s[j] = 0
        · have e0 : (s[j]).toNat = 0 := by rw [hz]; rfl
          have hb8 : ∀ h', ((mkB s)[j]'h').toNat = 0 := fun _ => e0
          have ht : upto0 (s.drop k) = (s.drop k).take (j - k) := upto0_at hd HJ.out (by rw [hgd]; exact hz)
          have hok : hasZ (s.drop k) = true := has_zero hd (by rw [hgd]; exact hz)
          have hx : (mkB s).extract k j = mkB ((s.drop k).take (j - k)) := mkB_extract s k j
          have R1 : Hid (txtOk s k = true) := Lib.hid (by rw [hK.out.2, hok])
          have R2 : Hid (txtV s k = (s.drop k).take (j - k)) := Lib.hid (by rw [txtV, R1.out, if_pos rfl, ht])
          clear e0 hz ht hok hgd hd
          go_wp2
          go_ret2
          exact ⟨by rw [R1.out, R2.out]; rfl, rfl⟩
        · have e0 : ((((s[j]).toNat : Int) == 0) : Bool) = false := by
            rw [beq_eq_false_iff_ne]
            intro e
            have e1 : (s[j]).toNat = (0 : UInt8).toNat := by show (s[j]).toNat = 0; omega
            exact hz (UInt8.toNat_inj.1 e1)
          have hb8 : ∀ h', (((((mkB s)[j]'h').toNat : Int) == 0) : Bool) = false := fun _ => e0
          have HN : Hid (((s.drop k).take (j + 1 - k)).contains 0 = false) := Lib.hid (by
            rw [show j + 1 - k = (j - k) + 1 by omega]
            exact take_zero hd HJ.out (by rw [hgd]; exact hz))
          clear e0 hz hgd hd
          go_wp2
          go_round
          case rel => exact ⟨j + 1, by omega, by omega, by go_num, HN⟩
          case measure => simp [intOf]; omega
      · obtain rfl : j = s.length := by omega
        have R1 : Hid (txtOk s k = false) := Lib.hid (by
          have := HJ.out
          rw [show s.length - k = (s.drop k).length by rw [List.length_drop], List.take_length] at this
          rw [hK.out.2]; exact this)
        have R2 : Hid (txtV s k = []) := Lib.hid (by rw [txtV, R1.out]; rfl)
        go_wp2
        go_ret2
        exact ⟨by rw [R1.out, R2.out]; rfl, rfl⟩
  · have R1 : Hid (txtOk s k = false) := Lib.hid (by rw [txtOk, decide_eq_false hlt]; rfl)
    have R2 : Hid (txtV s k = []) := Lib.hid (by rw [txtV, R1.out]; rfl)
    have hkl : (s.length : Int) ≤ (k : Int) := by omega
    clear hlt hs hk
    go_enter Tryd.func26, Tryd.ntmps26
    go_wp2
    go_ret2
    exact ⟨by rw [R1.out, R2.out]; rfl, rfl⟩

/-! ### Numbers as bytes -/
def wordsL (l : List Nat) : List UInt8 := l.flatMap be4
theorem wordsL_len (l : List Nat) : (wordsL l).length = 4 * l.length := by
  induction l with
  | nil => rfl
  | cons x l ih => simp only [wordsL, List.flatMap_cons, List.length_append, be4_len, List.length_cons] at *; omega
theorem wordsL_take {l : List Nat} {k : Nat} (h : k < l.length) : wordsL (l.take (k + 1)) = wordsL (l.take k) ++ be4 l[k] := by
  rw [List.take_succ_eq_append_getElem h, wordsL, List.flatMap_append, List.flatMap_cons, List.flatMap_nil, List.append_nil]; rfl
set_option maxHeartbeats 1000000 in
theorem words_any (l : List Nat) (hl : l.length ≤ 1000000) (hv : ∀ i (h : i < l.length), l[i] < 9223372036854775808) (g off cap : Nat) (w : World) (hr : ∀ i (h : i < l.length), w.cell? ⟨g, off + i, none⟩ = some (.int .i64 (l[i] : Nat))) (hg : g < w.heap.size) :
    Calls Tryd.prog 38 #[.slice (some ⟨g, off, none⟩) l.length cap] w fun e w' => e = .returned (.string (mkB (wordsL l))) ∧ Below w.heap.size w w' := by
  have HR := Lib.hid hr; have HV := Lib.hid hv; have HG := Lib.hid hg
  have hli : (l.length : Int) ≤ 1000000 := by omega
  have HL := Lib.hid hl
  clear hr hv hg hl
  go_enter Tryd.func38, Tryd.ntmps38
  go_wp2
  go_loopw [8] (fun i wr => ∃ k : Nat, (k : Int) ≤ l.length ∧ i = .int .i64 k ∧ Hid (IsBld 67 w.heap.size w.heap.size (wordsL (l.take k)) wr) ∧ Hid (Below w.heap.size w wr)) (fun i _ => l.length - (intOf i).toNat)
  case atStart => exact ⟨0, by omega, rfl, Lib.hid (by simpa [wordsL] using bld_new w), Lib.hid ((Below.refl _ _).alloc (Nat.le_refl _) _)⟩
  case round =>
    obtain ⟨k, hk, rfl, H1, H2⟩ := hrel
    by_cases hlt : k < l.length
    · obtain ⟨x, hx⟩ : ∃ x, x = l[k] := ⟨_, rfl⟩
      have hc : wr.cell? ⟨g, off + k, none⟩ = some (.int .i64 (x : Nat)) := by rw [hx]; exact (H2.out.cell (p := ⟨g, off + k, none⟩) HG.out).trans (HR.out k hlt)
      have HX : Hid (x < 9223372036854775808) := Lib.hid (by rw [hx]; exact HV.out k hlt)
      have HW : Hid (wordsL (l.take k) ++ be4 x = wordsL (l.take (k + 1))) := Lib.hid (by rw [hx, wordsL_take hlt])
      have HLen : Hid ((wordsL (l.take k)).length + 4 ≤ 5000000) := Lib.hid (by rw [wordsL_len, List.length_take]; have := HL.out; omega)
      clear hx
      go_upto_region 5 with fail
      go_wp2_with (first
        | (go_at_call 50; refine (word_any x HX.out _).mono ?_; rintro e w1 ⟨rfl, hb1⟩; have K1 := Lib.hid (bld_below H1.out hb1); have K2 := Lib.hid (below_then H2.out hb1); clear hb1)
        | (go_at_call 33; refine (wstr_any bldT_builder w.heap.size w.heap.size (wordsL (l.take k)) (mkB (be4 x)) _ K1.out (by rw [mkB_size, be4_len]; have := HLen.out; omega) K2.out.size).mono ?_; rintro e w2 ⟨rfl, k1, k2, k3⟩; have R1 := Lib.hid k1; have R2 := Lib.hid (K2.out.trans k2); clear k1 k2 k3))
      go_roundw
      case rel => exact ⟨k + 1, by omega, by go_num, Lib.hid (by have := R1.out; rw [mkB_list, HW.out] at this; exact this), R2⟩
      case measure => simp [intOf]; omega
    · obtain rfl : k = l.length := by omega
      rw [List.take_length] at H1
      go_wp2_with (go_at_call 37; refine (bstr_any _ _ _ _ H1.out H2.out.size).mono ?_; rintro e w3 ⟨rfl, _, hb3, _⟩; have HB := Lib.hid (H2.out.trans hb3); clear hb3)
      go_ret
      exact ⟨rfl, HB.out⟩
end Go.Proofs.YtlifdfkconklfaaDoor
