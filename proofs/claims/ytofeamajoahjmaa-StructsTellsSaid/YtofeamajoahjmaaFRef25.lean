/-
  ferryref25.Stat, Time.
-/
import Derived.Test.YtofeamajoahjmaaFRef1b
import Derived.Test.YtofeamajoahjmaaFTimes
namespace Go.Proofs.Ytofeamajoahjmaa
open Go Go.RowKit
set_option linter.unusedVariables false
set_option linter.unusedSimpArgs false

theorem rle25_at (l : List UInt8) (i n : Int) (hi : 0 ≤ i) (hn0 : 0 ≤ n) (hn : n ≤ 8) (h : i + n ≤ l.length) (hl : l.length ≤ 140737488351232) (w : World) :
    Calls Try.prog 35 #[.string (mkB l), .int .i64 i, .int .i64 n] w fun e w' => e = .returned (.int .u64 (leAt l i.toNat n.toNat : Nat)) ∧ w' = w := by
  have := rle25_any l i.toNat n.toNat (by omega) (by omega) hl w
  rwa [Int.toNat_of_nonneg hi, Int.toNat_of_nonneg hn0] at this

def statS0 (l : List UInt8) : List UInt8 :=
  beB (leAt l 0 8) 4 ++ beB 0 4 ++ beB 0 8 ++ beB (leAt l 8 8) 8 ++ beB (leAt l 24 4) 4 ++ beB (leAt l 16 8) 4 ++ beB 0 4 ++ beB 0 8 ++ beB 0 4 ++ beB 0 8 ++ beB (leAt l 48 8) 8
def statS (l : List UInt8) (k : Nat) : List UInt8 :=
  match k with
  | 0 => statS0 l
  | 1 => statS0 l ++ beB (leAt l 72 8) 4 ++ beB 0 4
  | 2 => statS0 l ++ beB (leAt l 72 8) 4 ++ beB 0 4 ++ beB (leAt l 88 8) 4 ++ beB 0 4
  | _ => statS0 l ++ beB (leAt l 72 8) 4 ++ beB 0 4 ++ beB (leAt l 88 8) 4 ++ beB 0 4 ++ beB (leAt l 104 8) 4 ++ beB 0 4
theorem be08 : beB 0 8 = beB 0 4 ++ beB 0 4 := by kernel_rfl
theorem statG_is (l : List UInt8) : statG l = statS l 3 ++ beB (leAt l 56 8) 4 ++ beB 0 4 ++ beB (leAt l 64 8) 8 := by
  simp only [statG, statS, statS0, wordsB, List.flatMap_cons, List.flatMap_nil, List.append_nil, be08, List.append_assoc]

set_option maxHeartbeats 4000000 in
set_option maxRecDepth 100000 in
theorem rstat_any (l : List UInt8) (hl : l.length ≤ 140737488351232) (w : World) :
    Calls Try.prog 18 #[.string (mkB l)] w fun e w' => e = .returned (.tuple #[.string (mkB (statF l)), .bool (statOk l)]) ∧ Below w.heap.size w w' := by
  have hsz := mkB_size l
  by_cases h144 : l.length = 144
  · have hO : Hid (statOk l = true) := Lib.hid (decide_eq_true h144)
    have hF : Hid (statF l = statG l) := Lib.hid (by rw [statF, hO.out]; rfl)
    have HL := Lib.hid hl; have H144 := Lib.hid h144
    have h144' : (l.length : Int) = 144 := by omega
    have hA := mkB_append
    have hB4 := beB_len
    have hB8 := beB_len8
    have hZ := mkB_size
    have hLA := @List.length_append UInt8
    have HB : Hid (Below w.heap.size w w) := Lib.hid (Below.refl _ _)
    clear h144 hl hsz
    go_enter Try.func18, Try.ntmps18
    go_upto_region 5 with (first
      | (go_at_call 35; refine (rle25_at l _ _ (by decide) (by decide) (by decide) (by rw [H144.out]; decide) HL.out _).mono ?_; rintro e w1 ⟨rfl, hw⟩; rw [hw]; clear hw)
      | (go_at_call_of 34 (Value.int .u64 0); refine (rbe25_any 0 zU _ _).mono ?_; rintro e w1 ⟨rfl, hb1⟩; rw [beB_is]; replace HB := Lib.hid (below_then HB.out hb1); clear hb1)
      | (go_at_call 34; refine (rbe25_any _ (leAt_lt l _ _ (by decide)) _ _).mono ?_; rintro e w1 ⟨rfl, hb1⟩; rw [beB_is]; replace HB := Lib.hid (below_then HB.out hb1); clear hb1))
    have e0 : statS l 0 = beB (leAt l 0 8) 4 ++ (beB 0 4 ++ (beB 0 8 ++ (beB (leAt l 8 8) 8 ++ (beB (leAt l 24 4) 4 ++ (beB (leAt l 16 8) 4 ++ (beB 0 4 ++ (beB 0 8 ++ (beB 0 4 ++ (beB 0 8 ++ beB (leAt l 48 8) 8))))))))) := by
      simp only [statS, statS0, List.append_assoc]
    rw [← e0]
    have HS : Hid (∀ k, k ≤ 3 → (statS l k).length = 64 + 8 * k) := Lib.hid (by
      intro k hk
      rcases (show k = 0 ∨ k = 1 ∨ k = 2 ∨ k = 3 from by omega) with rfl | rfl | rfl | rfl <;> simp only [statS, statS0, List.length_append, beB_len, beB_len8])
    clear e0
    go_upto_region 6 with fail
    go_loopw [4, 5] (fun x i wr => ∃ k : Nat, k ≤ 3 ∧ i = .int .i64 (72 + 16 * (k : Int)) ∧ x = .string (mkB (statS l k)) ∧ Hid (Below w.heap.size w wr)) (fun _ i _ => (200 - intOf i).toNat)
    case atStart => exact ⟨0, by omega, rfl, rfl, HB⟩
    case round =>
      obtain ⟨k, hk, rfl, rfl, H1⟩ := hrel
      clear HB
      have hS := HS.out k hk
      rcases (show k = 0 ∨ k = 1 ∨ k = 2 ∨ k = 3 from by omega) with rfl | rfl | rfl | rfl
      · have h72 : (72 : Int) + 16 * ((0 : Nat) : Int) = 72 := rfl
        rw [h72]
        go_wp2_with (first
          | (go_at_call 35; refine (rle25_at l _ _ (by decide) (by decide) (by decide) (by rw [H144.out]; decide) HL.out _).mono ?_; rintro e w1 ⟨rfl, hw⟩; rw [hw]; clear hw)
          | (go_at_call_of 34 (Value.int .u64 0); refine (rbe25_any 0 zU _ _).mono ?_; rintro e w1 ⟨rfl, hb1⟩; rw [beB_is]; replace H1 := Lib.hid (below_then H1.out hb1); clear hb1)
          | (go_at_call 34; refine (rbe25_any _ (leAt_lt l _ _ (by decide)) _ _).mono ?_; rintro e w1 ⟨rfl, hb1⟩; rw [beB_is]; replace H1 := Lib.hid (below_then H1.out hb1); clear hb1))
        go_roundw
        case rel => exact ⟨1, by omega, rfl, by simp only [statS, List.append_assoc], H1⟩
        case measure => simp [intOf]
      · have h72 : (72 : Int) + 16 * ((1 : Nat) : Int) = 88 := rfl
        rw [h72]
        go_wp2_with (first
          | (go_at_call 35; refine (rle25_at l _ _ (by decide) (by decide) (by decide) (by rw [H144.out]; decide) HL.out _).mono ?_; rintro e w1 ⟨rfl, hw⟩; rw [hw]; clear hw)
          | (go_at_call_of 34 (Value.int .u64 0); refine (rbe25_any 0 zU _ _).mono ?_; rintro e w1 ⟨rfl, hb1⟩; rw [beB_is]; replace H1 := Lib.hid (below_then H1.out hb1); clear hb1)
          | (go_at_call 34; refine (rbe25_any _ (leAt_lt l _ _ (by decide)) _ _).mono ?_; rintro e w1 ⟨rfl, hb1⟩; rw [beB_is]; replace H1 := Lib.hid (below_then H1.out hb1); clear hb1))
        go_roundw
        case rel => exact ⟨2, by omega, rfl, by simp only [statS, List.append_assoc], H1⟩
        case measure => simp [intOf]
      · have h72 : (72 : Int) + 16 * ((2 : Nat) : Int) = 104 := rfl
        rw [h72]
        go_wp2_with (first
          | (go_at_call 35; refine (rle25_at l _ _ (by decide) (by decide) (by decide) (by rw [H144.out]; decide) HL.out _).mono ?_; rintro e w1 ⟨rfl, hw⟩; rw [hw]; clear hw)
          | (go_at_call_of 34 (Value.int .u64 0); refine (rbe25_any 0 zU _ _).mono ?_; rintro e w1 ⟨rfl, hb1⟩; rw [beB_is]; replace H1 := Lib.hid (below_then H1.out hb1); clear hb1)
          | (go_at_call 34; refine (rbe25_any _ (leAt_lt l _ _ (by decide)) _ _).mono ?_; rintro e w1 ⟨rfl, hb1⟩; rw [beB_is]; replace H1 := Lib.hid (below_then H1.out hb1); clear hb1))
        go_roundw
        case rel => exact ⟨3, by omega, rfl, by simp only [statS, List.append_assoc], H1⟩
        case measure => simp [intOf]
      · have h72 : (72 : Int) + 16 * ((3 : Nat) : Int) = 120 := rfl
        rw [h72]
        go_wp2_with (first
          | (go_at_call 35; refine (rle25_at l _ _ (by decide) (by decide) (by decide) (by rw [H144.out]; decide) HL.out _).mono ?_; rintro e w1 ⟨rfl, hw⟩; rw [hw]; clear hw)
          | (go_at_call_of 34 (Value.int .u64 0); refine (rbe25_any 0 zU _ _).mono ?_; rintro e w1 ⟨rfl, hb1⟩; rw [beB_is]; replace H1 := Lib.hid (below_then H1.out hb1); clear hb1)
          | (go_at_call 34; refine (rbe25_any _ (leAt_lt l _ _ (by decide)) _ _).mono ?_; rintro e w1 ⟨rfl, hb1⟩; rw [beB_is]; replace H1 := Lib.hid (below_then H1.out hb1); clear hb1))
        go_ret2
        exact ⟨by rw [hF.out, hO.out, statG_is]; simp only [List.append_assoc]; rfl, H1.out⟩
  · have hO : Hid (statOk l = false) := Lib.hid (decide_eq_false h144)
    have hF : Hid (statF l = []) := Lib.hid (by rw [statF, hO.out]; rfl)
    have h144' : ((l.length : Int) != 144) = true := by simp; omega
    have hl2 : (l.length : Int) ≤ 140737488351232 := by omega
    clear h144 hl
    go_enter Try.func18, Try.ntmps18
    go_wp2
    go_ret2
    exact ⟨by rw [hF.out, hO.out]; rfl, Below.refl _ _⟩

def gt31 (m : Nat) : Bool := decide (2147483647 < m)
def gtE9 (m : Nat) : Bool := decide (999999999 < m)
theorem gt31_is (m : Nat) : decide (2147483647 < (m : Int)) = gt31 m := decide_eq_decide.2 (by omega)
theorem gtE9_is (m : Nat) : decide (999999999 < (m : Int)) = gtE9 m := decide_eq_decide.2 (by omega)
theorem time_le (l : List UInt8) (h : l.length = 16) : timeOk l = (!gt31 (leAt l 0 8) && !gtE9 (leAt l 8 8)) := by
  have e1 : leAt l 0 8 = leN (l.take 8) := by rw [leAt, List.drop_zero]
  have e2 : leAt l 8 8 = leN (l.drop 8) := by rw [leAt, List.take_of_length_le (by rw [List.length_drop]; omega)]
  rw [timeOk, e1, e2, decide_eq_true h, Bool.true_and]
  congr 1
  · rw [gt31, ← decide_not]; exact decide_eq_decide.2 (by omega)
  · rw [gtE9, ← decide_not]; exact decide_eq_decide.2 (by omega)
theorem time_leF (l : List UInt8) (h : l.length = 16) : timeF l = if timeOk l then beB (leAt l 0 8) 4 ++ beB (leAt l 8 8) 4 else [] := by
  have e1 : leAt l 0 8 = leN (l.take 8) := by rw [leAt, List.drop_zero]
  have e2 : leAt l 8 8 = leN (l.drop 8) := by rw [leAt, List.take_of_length_le (by rw [List.length_drop]; omega)]
  rw [timeF, e1, e2]

set_option maxHeartbeats 4000000 in
set_option maxRecDepth 100000 in
theorem rtime_any (l : List UInt8) (hl : l.length ≤ 140737488351232) (w : World) :
    Calls Try.prog 19 #[.string (mkB l)] w fun e w' => e = .returned (.tuple #[.string (mkB (timeF l)), .bool (timeOk l)]) ∧ Below w.heap.size w w' := by
  have hsz := mkB_size l
  by_cases h16 : l.length = 16
  · have hO : Hid (timeOk l = (!gt31 (leAt l 0 8) && !gtE9 (leAt l 8 8))) := Lib.hid (time_le l h16)
    have hF : Hid (timeF l = if timeOk l then beB (leAt l 0 8) 4 ++ beB (leAt l 8 8) 4 else []) := Lib.hid (time_leF l h16)
    have HL := Lib.hid hl; have H16 := Lib.hid h16
    have h16' : (l.length : Int) = 16 := by omega
    have hA := mkB_append
    have hB4 := beB_len
    have hZ := mkB_size
    have HB : Hid (Below w.heap.size w w) := Lib.hid (Below.refl _ _)
    have q1 := gt31_is
    have q2 := gtE9_is
    clear h16 hl hsz
    go_enter Try.func19, Try.ntmps19
    go_upto_region 5 with (go_at_call 35; refine (rle25_at l _ _ (by decide) (by decide) (by decide) (by rw [H16.out]; decide) HL.out _).mono ?_; rintro e w1 ⟨rfl, hw⟩; rw [hw]; clear hw)
    have h12 : gt31 (leAt l 0 8) = false ∧ gtE9 (leAt l 8 8) = false ∨ gt31 (leAt l 0 8) = true ∨ gt31 (leAt l 0 8) = false ∧ gtE9 (leAt l 8 8) = true := by cases gt31 (leAt l 0 8) <;> cases gtE9 (leAt l 8 8) <;> simp
    rcases h12 with ⟨v1, v2⟩ | v1 | ⟨v1, v2⟩
    · have hok : Hid (timeOk l = true) := Lib.hid (by rw [hO.out, v1, v2]; rfl)
      go_wp2_with (go_at_call 34; refine (rbe25_any _ (leAt_lt l _ _ (by decide)) _ _).mono ?_; rintro e w1 ⟨rfl, hb1⟩; rw [beB_is]; replace HB := Lib.hid (below_then HB.out hb1); clear hb1)
      go_ret2
      exact ⟨by rw [hF.out, hok.out]; rfl, HB.out⟩
    · have hok : Hid (timeOk l = false) := Lib.hid (by rw [hO.out, v1]; rfl)
      go_wp2
      go_ret2
      exact ⟨by rw [hF.out, hok.out]; rfl, HB.out⟩
    · have hok : Hid (timeOk l = false) := Lib.hid (by rw [hO.out, v1, v2]; rfl)
      go_wp2
      go_ret2
      exact ⟨by rw [hF.out, hok.out]; rfl, HB.out⟩
  · have hO : Hid (timeOk l = false) := Lib.hid (by simp [timeOk, h16])
    have hF : Hid (timeF l = []) := Lib.hid (by simp [timeF, hO.out])
    have h16' : ((l.length : Int) != 16) = true := by simp; omega
    have hl2 : (l.length : Int) ≤ 140737488351232 := by omega
    clear h16 hl
    go_enter Try.func19, Try.ntmps19
    go_wp2
    go_ret2
    exact ⟨by rw [hF.out, hO.out]; rfl, Below.refl _ _⟩
end Go.Proofs.Ytofeamajoahjmaa
