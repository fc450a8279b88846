/-
  Names: numbers and texts out of bytes, by the program and by the document.
-/
import Derived.Test.YtlifdfkconklfaaDoorFNmG
namespace Go.Proofs.YtlifdfkconklfaaDoor
open Go Go.RowKit
set_option linter.unusedVariables false
set_option linter.unusedSimpArgs false

theorem beN_lt4 {l : List UInt8} (h : l.length ≤ 4) : beN l < 4294967296 :=
  Nat.lt_of_lt_of_le (beN_lt l) (by
    have : 256 ^ l.length ≤ 256 ^ 4 := Nat.pow_le_pow_right (by omega) h
    simpa using this)
theorem beN_take_lt (l : List UInt8) (k : Nat) (hl : l.length ≤ 8) : beN (l.take k) ≤ 18446744073709551615 := by
  have := beN_lt8 (l := l.take k) (by rw [List.length_take]; omega)
  omega
theorem beN_take_next {l : List UInt8} {k : Nat} (h : k < l.length) : beN (l.take (k + 1)) = beN (l.take k) * 256 + l[k].toNat := by rw [take_next' h, beN_snoc]
set_option maxHeartbeats 1000000 in
theorem rbe_any (l : List UInt8) (hl : l.length ≤ 8) (w : World) :
    Calls Tryd.prog 52 #[.string (mkB l)] w fun e w' => e = .returned (.int .u64 (beN l : Nat)) ∧ w = w' := by
  have hsz := mkB_size l
  have hli : (l.length : Int) ≤ 8 := by omega
  have HL := Lib.hid hl; clear hl
  go_enter Tryd.func52, Tryd.ntmps52
  go_wp2
  go_loop [3, 4] (fun n i => ∃ k : Nat, k ≤ l.length ∧ i = .int .i64 k ∧ ∃ x : Nat, n = .int .u64 x ∧ Hid (x = beN (l.take k))) (fun _ i => l.length - (intOf i).toNat)
  case atStart => exact ⟨0, Nat.zero_le _, rfl, 0, rfl, Lib.hid rfl⟩
  case round =>
    obtain ⟨k, hk, rfl, x, rfl, HX⟩ := hrel
    by_cases hlt : k < l.length
    · obtain ⟨c, hc⟩ : ∃ c, c = l[k] := ⟨_, rfl⟩
      have hck : ∀ h', (mkB l)[k]'h' = c := fun _ => hc.symm
      have hc8 : (c.toNat : Int) ≤ 255 := by have := c.toNat_lt; omega
      have hn : Hid (x * 256 + c.toNat = beN (l.take (k + 1))) := Lib.hid (by rw [beN_take_next hlt, ← hc, HX.out])
      have hx1 : (x : Int) * 256 + (c.toNat : Int) ≤ 18446744073709551615 := by
        have h1 := beN_take_lt l (k + 1) HL.out
        have h2 := hn.out
        omega
      have hx2 : (x : Int) * 256 ≤ 18446744073709551615 := by omega
      clear hc
      go_wp2
      go_round
      case rel => exact ⟨k + 1, by omega, by go_num, x * 256 + c.toNat, by first | (rw [hck]; rfl) | rfl, hn⟩
      case measure => simp [intOf]; omega
    · obtain rfl : k = l.length := by omega
      rw [List.take_length] at HX
      go_wp2
      go_ret
      exact ⟨ret_int (by rw [HX.out]), rfl⟩
theorem be8_any (l : List UInt8) (hl : l.length ≤ 8) (w : World) :
    Calls Tryd.prog 21 #[.string (mkB l)] w fun e w' => e = .returned (.int .u64 (beN l : Nat)) ∧ Below w.heap.size w w' := by
  have h := be_any (mkB l) w (by rw [mkB_size]; omega)
  rw [numF_be l hl] at h
  exact h
/-- The four bytes at a place, as a number. -/
def wordAt (l : List UInt8) (k : Nat) : Nat := beN ((l.drop k).take 4)
theorem wordAt_lt (l : List UInt8) (k : Nat) : wordAt l k < 4294967296 := beN_lt4 (by rw [List.length_take]; omega)
theorem rword_any (l : List UInt8) (k : Nat) (hk : k + 4 ≤ l.length) (hl : l.length ≤ 140737488351232) (w : World) :
    Calls Tryd.prog 25 #[.string (mkB l), .int .i64 k] w fun e w' => e = .returned (.int .u32 (wordAt l k : Nat)) ∧ w = w' := by
  have hsz := mkB_size l
  obtain ⟨y, hy⟩ : ∃ y : Nat, (k : Int) + 4 = (y : Int) := ⟨k + 4, rfl⟩
  have hyl : (y : Int) ≤ (l.length : Int) := by omega
  have hky : (k : Int) ≤ (y : Int) := by omega
  have hli : (l.length : Int) ≤ 140737488351232 := by omega
  have hx : (mkB l).extract k y = mkB ((l.drop k).take 4) := by have := mkB_extract l k y; rwa [show y - k = 4 by omega] at this
  obtain ⟨x, hxw⟩ : ∃ x, x = wordAt l k := ⟨_, rfl⟩
  have hwi : (x : Int) ≤ 4294967295 := by have := wordAt_lt l k; omega
  obtain ⟨T, hT⟩ : ∃ T, T = (l.drop k).take 4 := ⟨_, rfl⟩
  have hlen : Hid (T.length ≤ 8) := Lib.hid (by rw [hT, List.length_take]; omega)
  have hw : Hid (beN T = x) := Lib.hid (by rw [hT, hxw]; rfl)
  rw [← hT] at hx
  rw [← hxw]
  clear hk hl hT hxw
  go_enter Tryd.func25, Tryd.ntmps25
  go_wp2_with (go_at_call 52; refine (rbe_any _ hlen.out _).mono ?_; rintro e w' ⟨rfl, rfl⟩; rw [hw.out])
  go_ret
  exact ⟨rfl, rfl⟩
/-- The k-th number of a text. -/
def numAt (l : List UInt8) (k : Nat) : Option Nat := if 4 * k + 4 ≤ l.length then some (wordAt l (4 * k)) else none
def numV (n : Option Nat) : Nat := n.getD 0
theorem num_any (l : List UInt8) (k : Nat) (hl : l.length ≤ 1000000) (hk : k ≤ 9223372036854775807) (w : World) :
    Calls Tryd.prog 30 #[.string (mkB l), .int .u64 k] w fun e w' => e = .returned (.tuple #[.int .u32 (numV (numAt l k) : Nat), .bool (numAt l k).isSome]) ∧ w = w' := by
  have hsz := mkB_size l
  have hli : (l.length : Int) ≤ 1000000 := by omega
  by_cases h1 : 1073741824 < k
  · have hr : Hid (numAt l k = none) := Lib.hid (by rw [numAt, if_neg (by omega)])
    have h1i : (1073741824 : Int) < (k : Int) := by omega
    clear h1 hl
    go_enter Tryd.func30, Tryd.ntmps30
    go_wp2
    go_ret2
    exact ⟨by rw [hr.out]; rfl, rfl⟩
  · have h1i : (k : Int) ≤ 1073741824 := by omega
    clear h1
    by_cases h2 : 4 * k + 4 ≤ l.length
    · have hr : Hid (numAt l k = some (wordAt l (4 * k))) := Lib.hid (by rw [numAt, if_pos h2])
      have h2i : (k : Int) * 4 ≤ (l.length : Int) - 4 := by omega
      have H2 : Hid (k * 4 + 4 ≤ l.length ∧ l.length ≤ 140737488351232) := Lib.hid (by omega)
      have e4 : (k : Int) * 4 = ((k * 4 : Nat) : Int) := by omega
      have E4 := Lib.hid e4
      have c4 : Hid (k * 4 = 4 * k) := Lib.hid (Nat.mul_comm _ _)
      clear h2 hl e4
      go_enter Tryd.func30, Tryd.ntmps30
      go_wp2_with (go_at_call 25; rw [E4.out]; refine (rword_any l (k * 4) H2.out.1 H2.out.2 _).mono ?_; rintro e w' ⟨rfl, rfl⟩; rw [c4.out])
      go_ret2
      exact ⟨by rw [hr.out]; rfl, rfl⟩
    · have hr : Hid (numAt l k = none) := Lib.hid (by rw [numAt, if_neg h2])
      have h2i : (l.length : Int) - 4 < (k : Int) * 4 := by omega
      clear h2 hl
      go_enter Tryd.func30, Tryd.ntmps30
      go_wp2
      go_ret2
      exact ⟨by rw [hr.out]; rfl, rfl⟩
theorem at_any (l : List UInt8) (k : Nat) (hl : l.length ≤ 140737488351232) (hk : k ≤ 1099511627776) (w : World) :
    Calls Tryd.prog 55 #[.string (mkB l), .int .i64 k] w fun e w' => e = .returned (.tuple #[.int .i64 (numV (numAt l k) : Nat), .bool (numAt l k).isSome]) ∧ Below w.heap.size w w' := by
  have hsz := mkB_size l
  have hli : (l.length : Int) ≤ 140737488351232 := by omega
  have hki : (k : Int) ≤ 1099511627776 := by omega
  by_cases h2 : 4 * k + 4 ≤ l.length
  · have hr : Hid (numAt l k = some (wordAt l (4 * k))) := Lib.hid (by rw [numAt, if_pos h2])
    obtain ⟨u, hu⟩ : ∃ u : Nat, 4 * (k : Int) = (u : Int) := ⟨4 * k, by omega⟩
    have hu' : u = 4 * k := by omega
    obtain ⟨y, hy⟩ : ∃ y : Nat, (u : Int) + 4 = (y : Int) := ⟨u + 4, rfl⟩
    have hyl : (y : Int) ≤ (l.length : Int) := by omega
    have hky : (u : Int) ≤ (y : Int) := by omega
    have hx : (mkB l).extract u y = mkB ((l.drop (4 * k)).take 4) := by have := mkB_extract l u y; rw [show y - u = 4 by omega] at this; rw [this, hu']
    clear hu'
    obtain ⟨x, hxw⟩ : ∃ x, x = wordAt l (4 * k) := ⟨_, rfl⟩
    have hwi : (x : Int) ≤ 4294967295 := by have := wordAt_lt l (4 * k); omega
    obtain ⟨T, hT⟩ : ∃ T, T = (l.drop (4 * k)).take 4 := ⟨_, rfl⟩
    have hlen : Hid (T.length ≤ 8) := Lib.hid (by rw [hT, List.length_take]; omega)
    have hw : Hid (beN T = x) := Lib.hid (by rw [hT, hxw]; rfl)
    rw [← hT] at hx
    replace hr : Hid (numAt l k = some x) := Lib.hid (by rw [hr.out, hxw])
    clear h2 hl hk hT hxw
    go_enter Tryd.func55, Tryd.ntmps55
    go_wp2_with (go_at_call 21; refine (be8_any _ hlen.out _).mono ?_; rintro e w' ⟨rfl, hb⟩; rw [hw.out]; have HB := Lib.hid hb; clear hb)
    go_ret2
    exact ⟨by rw [hr.out]; rfl, HB.out⟩
  · have hr : Hid (numAt l k = none) := Lib.hid (by rw [numAt, if_neg h2])
    have h2i : (l.length : Int) < 4 * (k : Int) + 4 := by omega
    clear h2 hl hk
    go_enter Tryd.func55, Tryd.ntmps55
    go_wp2
    go_ret2
    exact ⟨by rw [hr.out]; rfl, Below.refl _ _⟩

/-! ### A text up to a byte 0 -/
def upto0 (l : List UInt8) : List UInt8 := l.takeWhile (· != 0)
theorem upto0_index : ∀ (l : List UInt8), Lib.indexByte l 0 = if l.contains 0 then ((upto0 l).length : Int) else -1
  | [] => by decide
  | b :: l => by
    have ih := upto0_index l
    unfold Lib.indexByte
    by_cases hb : b = 0
    · subst hb; simp [upto0]
    · have h1 : (b == 0) = false := by simpa using hb
      have h2 : (b :: l).contains 0 = l.contains 0 := by
        have : ((0 : UInt8) == b) = false := by simpa using fun h => hb h.symm
        rw [List.contains_cons, this, Bool.false_or]
      have h3 : upto0 (b :: l) = b :: upto0 l := by
        unfold upto0
        rw [List.takeWhile_cons, if_pos (by simpa using hb)]
      rw [h2, h1, h3, ih]
      cases l.contains 0
      · simp
      · simp only [Bool.false_eq_true, if_false, if_true, List.length_cons]
        have : ((((upto0 l).length : Nat) : Int) == -1) = false := by rw [beq_eq_false_iff_ne]; omega
        rw [this]; simp
theorem upto0_take (l : List UInt8) : l.take (upto0 l).length = upto0 l := by
  unfold upto0
  induction l with
  | nil => rfl
  | cons b l ih =>
    rw [List.takeWhile_cons]
    split
    · rw [List.length_cons, List.take_succ_cons, ih]
    · rfl
theorem upto0_le (l : List UInt8) : (upto0 l).length ≤ l.length := by
  have := congrArg List.length (upto0_take l)
  rw [List.length_take] at this
  omega
theorem upto0_lt (l : List UInt8) (h : l.contains 0 = true) : (upto0 l).length < l.length := by
  induction l with
  | nil => simp at h
  | cons b l ih =>
    unfold upto0
    rw [List.takeWhile_cons]
    split
    · rename_i hb
      have hb' : ¬ b = 0 := by simpa using hb
      have h2 : (b :: l).contains 0 = l.contains 0 := by
        have : ((0 : UInt8) == b) = false := by simpa using fun h => hb' h.symm
        rw [List.contains_cons, this, Bool.false_or]
      rw [h2] at h
      have := ih h
      simp only [List.length_cons]
      unfold upto0 at this
      omega
    · simp
theorem lcut_any (l : List UInt8) (hl : l.length ≤ 140737488351232) (w : World) :
    Calls Tryd.prog 48 #[.string (mkB l), .string ⟨#[0]⟩] w fun e w' => e = .returned (.tuple #[.string (mkB (if l.contains 0 then upto0 l else l)), .string (mkB (if l.contains 0 then l.drop ((upto0 l).length + 1) else [])), .bool (l.contains 0)]) ∧ ∃ n, w' = w.drewN n := by
  have hsz := mkB_size l
  have hx := upto0_index l
  have hi : Hid (Lib.indexByte (mkB l).data.toList 0 = if l.contains 0 then ((upto0 l).length : Int) else -1) := Lib.hid (by rw [mkB_list]; exact hx)
  have hli : (l.length : Int) ≤ 140737488351232 := by omega
  clear hx
  cases hc : l.contains 0
  · have hi2 : Hid (Lib.indexByte (mkB l).data.toList 0 = -1) := Lib.hid (by rw [hi.out, hc]; rfl)
    clear hi hc hl
    go_enter Tryd.func48, Tryd.ntmps48
    go_wp2_with (go_at_call 66; refine (Tryd.stringslite_Index_one (mkB l) 0 _).mono ?_; rintro e w' ⟨rfl, rfl⟩; rw [hi2.out])
    go_ret3
    exact ⟨rfl, 0, rfl⟩
  · have hlt := upto0_lt l hc
    obtain ⟨y, hy⟩ : ∃ y, y = (upto0 l).length := ⟨_, rfl⟩
    rw [← hy] at hlt
    have hi2 : Hid (Lib.indexByte (mkB l).data.toList 0 = (y : Nat)) := Lib.hid (by rw [hi.out, hc, hy]; rfl)
    have hx1 : (mkB l).extract 0 y = mkB (upto0 l) := by rw [mkB_take, hy, upto0_take]
    obtain ⟨z, hz⟩ : ∃ z : Nat, (y : Int) + 1 = (z : Int) := ⟨y + 1, rfl⟩
    have hz' : y + 1 = z := by omega
    have hx2 : (mkB l).extract z l.length = mkB (l.drop ((upto0 l).length + 1)) := by rw [← hy, hz']; have := mkB_drop l z; rwa [mkB_size] at this
    have hyl : (y : Int) ≤ (l.length : Int) := by omega
    have hzl : (z : Int) ≤ (l.length : Int) := by omega
    have hw1 : IntKind.i64.wrap ((y : Int) + 1) = (z : Int) := by rw [hz]; exact IntWalk.i64_in _ (by omega)
    clear hi hc hl hy hz' hlt
    go_enter Tryd.func48, Tryd.ntmps48
    go_wp2_with (go_at_call 66; refine (Tryd.stringslite_Index_one (mkB l) 0 _).mono ?_; rintro e w' ⟨rfl, rfl⟩; rw [hi2.out])
    go_quiet (fail)
    go_wp2
    go_ret3
    exact ⟨rfl, _, rfl⟩
/-- That a byte 0 is there. -/
def hasZ (l : List UInt8) : Bool := l.contains 0
def cutA (l : List UInt8) : List UInt8 := if l.contains 0 then upto0 l else l
def cutC (l : List UInt8) : List UInt8 := if l.contains 0 then l.drop ((upto0 l).length + 1) else []
theorem cut_any (l : List UInt8) (hl : l.length ≤ 140737488351232) (w : World) :
    Calls Tryd.prog 22 #[.string (mkB l), .string ⟨#[0]⟩] w fun e w' => e = .returned (.tuple #[.string (mkB (cutA l)), .string (mkB (cutC l)), .bool (hasZ l)]) ∧ ∃ n, w' = w.drewN n := by
  have h : ∀ w, Calls Tryd.prog 48 #[.string (mkB l), .string ⟨#[0]⟩] w fun e w' => e = .returned (.tuple #[.string (mkB (cutA l)), .string (mkB (cutC l)), .bool (hasZ l)]) ∧ ∃ n, w' = w.drewN n := fun w => lcut_any l hl w
  have H := Lib.hid h
  clear h hl
  go_enter Tryd.func22, Tryd.ntmps22
  go_wp2_with (go_at_call 48; refine (H.out _).mono ?_; rintro e w' ⟨rfl, n, rfl⟩)
  go_ret3
  exact ⟨rfl, _, rfl⟩
end Go.Proofs.YtlifdfkconklfaaDoor
