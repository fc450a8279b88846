/-
  slices.BinarySearchFunc at the host's and the guest's lists.
-/
import Derived.Test.YtbaelhaajplbnaaFHoG
namespace Go.Proofs.Ytbaelhaajplbnaa
open Go Go.RowKit
set_option linter.unusedVariables false
set_option linter.unusedSimpArgs false

set_option maxHeartbeats 2000000 in
theorem bsP_any (l : List PageD) (hr : Rise PageD.num l) (hlen : l.length ≤ 1000000) (x : Nat) (v : Value) (w : World) (h : PagesV w v l)
    (hc : ∀ (p : PageD) (W : World), Below w.heap.size w W → Calls Try.prog 81 #[.agg #[.int .u32 (p.num : Nat), .int .i64 p.prot], .int .u32 (x : Nat)] W fun e w' => e = .returned (.int .i64 (cmpI p.num x)) ∧ Below W.heap.size W w') :
    Calls Try.prog 80 #[v, .int .u32 (x : Nat), .func (.func 81) #[] #[]] w fun e w' => e = .returned (.tuple #[.int .i64 (lowB PageD.num l x : Nat), .bool (hasB PageD.num l x)]) ∧ Below w.heap.size w w' := by
  obtain ⟨p, c, rfl, h⟩ := h
  have H := Lib.hid h; have HC := Lib.hid hc; have HR := Lib.hid hr
  have hli : (l.length : Int) ≤ 1000000 := by omega
  clear h hc hr hlen
  go_enter Try.func80, Try.ntmps80
  go_wp2
  go_loopw [9, 10] (fun iv jv wr => ∃ i j : Nat, i ≤ j ∧ j ≤ l.length ∧ iv = .int .i64 i ∧ jv = .int .i64 j ∧ Hid (Below w.heap.size w wr) ∧ Hid (∀ k (h : k < l.length), k < i → l[k].num < x) ∧ Hid (∀ k (h : k < l.length), j ≤ k → x ≤ l[k].num)) (fun iv jv _ => (intOf jv).toNat - (intOf iv).toNat)
  case atStart => exact ⟨0, l.length, Nat.zero_le _, Nat.le_refl _, rfl, rfl, Lib.hid (Below.refl _ _), Lib.hid (fun k _ h => absurd h (Nat.not_lt_zero _)), Lib.hid (fun k h1 h2 => absurd h1 (by omega))⟩
  case round =>
    obtain ⟨i, j, hij, hjl, rfl, rfl, HB, HI, HJ⟩ := hrel
    by_cases hlt : i < j
    · obtain ⟨m, hm⟩ : ∃ m : Nat, m = (i + j) / 2 := ⟨_, rfl⟩
      obtain ⟨s, hs⟩ : ∃ s : Nat, s = i + j := ⟨_, rfl⟩
      have hml : m < l.length := by omega
      have him : i ≤ m := by omega
      have hmj : m < j := by omega
      have f1 : (i : Int) + (j : Int) = (s : Int) := by omega
      have f2 : (s : Int) / 2 = (m : Int) := by omega
      have f3 : (s : Int) ≤ 2000000 := by omega
      have f4 : (m : Int) < (l.length : Int) := by omega
      obtain ⟨b, off, rfl, hrw⟩ := H.out (ne_nil hml)
      have c0 := (hrw.below HB.out).fst m hml
      have c1 := (hrw.below HB.out).snd m hml
      have HCM := Lib.hid (HC.out l[m] wr HB.out)
      clear hrw hm hs
      by_cases hcm : l[m].num < x
      · have b1 : decide (cmpI l[m].num x < 0) = true := by rw [cmpI_lt]; exact decide_eq_true hcm
        have HCX := Lib.hid hcm
        clear hcm
        go_wp2_with (go_at_call 81; (with_reducible refine HCM.out.mono ?_); rintro e w2 ⟨rfl, hb2⟩; have HB2 : Hid (Below w.heap.size w w2) := Lib.hid (HB.out.trans (hb2.mono HB.out.size)); clear hb2)
        go_roundw
        case rel => exact ⟨m + 1, j, by omega, hjl, by go_num, rfl, HB2, Lib.hid (fun k h hk => by
          rcases Nat.lt_or_eq_of_le (Nat.le_of_lt_succ hk) with h1 | rfl
          · exact Nat.lt_trans (HR.out.at hml h1) HCX.out
          · exact HCX.out), HJ⟩
        case measure => simp [intOf]; omega
      · have b1 : decide (cmpI l[m].num x < 0) = false := by rw [cmpI_lt]; exact decide_eq_false hcm
        have HCX := Lib.hid hcm
        clear hcm
        go_wp2_with (go_at_call 81; (with_reducible refine HCM.out.mono ?_); rintro e w2 ⟨rfl, hb2⟩; have HB2 : Hid (Below w.heap.size w w2) := Lib.hid (HB.out.trans (hb2.mono HB.out.size)); clear hb2)
        go_roundw
        case rel => exact ⟨i, m, him, by omega, rfl, rfl, HB2, HI, Lib.hid (fun k h hk => by
          have h0 := HCX.out
          rcases Nat.lt_or_eq_of_le hk with h1 | rfl
          · have := HR.out.at h h1; omega
          · omega)⟩
        case measure => simp [intOf]; omega
    · obtain rfl : i = j := by omega
      have hlow : Hid (lowB PageD.num l x = i) := Lib.hid (lowB_of hjl HI.out HJ.out)
      by_cases hil : i < l.length
      · obtain ⟨b, off, rfl, hrw⟩ := H.out (ne_nil hil)
        have c0 := (hrw.below HB.out).fst i hil
        have c1 := (hrw.below HB.out).snd i hil
        have HCM := Lib.hid (HC.out l[i] wr HB.out)
        have b1 : ((cmpI l[i].num x == 0) : Bool) = hasB PageD.num l x := by
          rw [cmpI_eq, Bool.eq_iff_iff, hasB_at HR.out, beq_iff_eq]
          constructor
          · intro h; exact ⟨by rw [hlow.out]; exact hil, by simp only [hlow.out]; exact h⟩
          · rintro ⟨h1, h2⟩; simp only [hlow.out] at h2; exact h2
        have f4 : (i : Int) < (l.length : Int) := by omega
        clear hrw
        go_wp2_with (go_at_call 81; (with_reducible refine HCM.out.mono ?_); rintro e w2 ⟨rfl, hb2⟩; have HB2 : Hid (Below w.heap.size w w2) := Lib.hid (HB.out.trans (hb2.mono HB.out.size)); clear hb2)
        go_ret2
        exact ⟨by rw [hlow.out]; rfl, HB2.out⟩
      · have hb : Hid (hasB PageD.num l x = false) := Lib.hid (by
          rw [Bool.eq_false_iff]
          intro h
          obtain ⟨h1, _⟩ := (hasB_at HR.out).1 h
          rw [hlow.out] at h1
          exact hil h1)
        have f4 : ¬ (i : Int) < (l.length : Int) := by omega
        go_wp2
        go_ret2
        exact ⟨by rw [hlow.out, hb.out]; rfl, HB.out⟩
set_option maxHeartbeats 2000000 in
theorem bsM_any (l : List MapD) (hr : Rise MapD.page l) (hlen : l.length ≤ 1000000) (x : Nat) (B : Nat) (v : Value) (w : World) (h : MapsV w v l)
    (hc : ∀ (p : MapD) (W : World), Below w.heap.size w W → Calls Try.prog 84 #[.agg #[.int .u64 (p.page : Nat), .int .i64 p.prot], .int .u64 (x : Nat), .pointer (some ⟨B, 0, none⟩)] W fun e w' => e = .returned (.int .i64 (cmpI p.page x)) ∧ Below W.heap.size W w') :
    Calls Try.prog 83 #[v, .int .u64 (x : Nat), .func (.func 84) #[] #[.pointer (some ⟨B, 0, none⟩)]] w fun e w' => e = .returned (.tuple #[.int .i64 (lowB MapD.page l x : Nat), .bool (hasB MapD.page l x)]) ∧ Below w.heap.size w w' := by
  obtain ⟨p, c, rfl, h⟩ := h
  have H := Lib.hid h; have HC := Lib.hid hc; have HR := Lib.hid hr
  have hli : (l.length : Int) ≤ 1000000 := by omega
  clear h hc hr hlen
  go_enter Try.func83, Try.ntmps83
  go_wp2
  go_loopw [9, 10] (fun iv jv wr => ∃ i j : Nat, i ≤ j ∧ j ≤ l.length ∧ iv = .int .i64 i ∧ jv = .int .i64 j ∧ Hid (Below w.heap.size w wr) ∧ Hid (∀ k (h : k < l.length), k < i → l[k].page < x) ∧ Hid (∀ k (h : k < l.length), j ≤ k → x ≤ l[k].page)) (fun iv jv _ => (intOf jv).toNat - (intOf iv).toNat)
  case atStart => exact ⟨0, l.length, Nat.zero_le _, Nat.le_refl _, rfl, rfl, Lib.hid (Below.refl _ _), Lib.hid (fun k _ h => absurd h (Nat.not_lt_zero _)), Lib.hid (fun k h1 h2 => absurd h1 (by omega))⟩
  case round =>
    obtain ⟨i, j, hij, hjl, rfl, rfl, HB, HI, HJ⟩ := hrel
    by_cases hlt : i < j
    · obtain ⟨m, hm⟩ : ∃ m : Nat, m = (i + j) / 2 := ⟨_, rfl⟩
      obtain ⟨s, hs⟩ : ∃ s : Nat, s = i + j := ⟨_, rfl⟩
      have hml : m < l.length := by omega
      have him : i ≤ m := by omega
      have hmj : m < j := by omega
      have f1 : (i : Int) + (j : Int) = (s : Int) := by omega
      have f2 : (s : Int) / 2 = (m : Int) := by omega
      have f3 : (s : Int) ≤ 2000000 := by omega
      have f4 : (m : Int) < (l.length : Int) := by omega
      obtain ⟨b, off, rfl, hrw⟩ := H.out (ne_nil hml)
      have c0 := (hrw.below HB.out).fst m hml
      have c1 := (hrw.below HB.out).snd m hml
      have HCM := Lib.hid (HC.out l[m] wr HB.out)
      clear hrw hm hs
      by_cases hcm : l[m].page < x
      · have b1 : decide (cmpI l[m].page x < 0) = true := by rw [cmpI_lt]; exact decide_eq_true hcm
        have HCX := Lib.hid hcm
        clear hcm
        go_wp2_with (go_at_call 84; (with_reducible refine HCM.out.mono ?_); rintro e w2 ⟨rfl, hb2⟩; have HB2 : Hid (Below w.heap.size w w2) := Lib.hid (HB.out.trans (hb2.mono HB.out.size)); clear hb2)
        go_roundw
        case rel => exact ⟨m + 1, j, by omega, hjl, by go_num, rfl, HB2, Lib.hid (fun k h hk => by
          rcases Nat.lt_or_eq_of_le (Nat.le_of_lt_succ hk) with h1 | rfl
          · exact Nat.lt_trans (HR.out.at hml h1) HCX.out
          · exact HCX.out), HJ⟩
        case measure => simp [intOf]; omega
      · have b1 : decide (cmpI l[m].page x < 0) = false := by rw [cmpI_lt]; exact decide_eq_false hcm
        have HCX := Lib.hid hcm
        clear hcm
        go_wp2_with (go_at_call 84; (with_reducible refine HCM.out.mono ?_); rintro e w2 ⟨rfl, hb2⟩; have HB2 : Hid (Below w.heap.size w w2) := Lib.hid (HB.out.trans (hb2.mono HB.out.size)); clear hb2)
        go_roundw
        case rel => exact ⟨i, m, him, by omega, rfl, rfl, HB2, HI, Lib.hid (fun k h hk => by
          have h0 := HCX.out
          rcases Nat.lt_or_eq_of_le hk with h1 | rfl
          · have := HR.out.at h h1; omega
          · omega)⟩
        case measure => simp [intOf]; omega
    · obtain rfl : i = j := by omega
      have hlow : Hid (lowB MapD.page l x = i) := Lib.hid (lowB_of hjl HI.out HJ.out)
      by_cases hil : i < l.length
      · obtain ⟨b, off, rfl, hrw⟩ := H.out (ne_nil hil)
        have c0 := (hrw.below HB.out).fst i hil
        have c1 := (hrw.below HB.out).snd i hil
        have HCM := Lib.hid (HC.out l[i] wr HB.out)
        have b1 : ((cmpI l[i].page x == 0) : Bool) = hasB MapD.page l x := by
          rw [cmpI_eq, Bool.eq_iff_iff, hasB_at HR.out, beq_iff_eq]
          constructor
          · intro h; exact ⟨by rw [hlow.out]; exact hil, by simp only [hlow.out]; exact h⟩
          · rintro ⟨h1, h2⟩; simp only [hlow.out] at h2; exact h2
        have f4 : (i : Int) < (l.length : Int) := by omega
        clear hrw
        go_wp2_with (go_at_call 84; (with_reducible refine HCM.out.mono ?_); rintro e w2 ⟨rfl, hb2⟩; have HB2 : Hid (Below w.heap.size w w2) := Lib.hid (HB.out.trans (hb2.mono HB.out.size)); clear hb2)
        go_ret2
        exact ⟨by rw [hlow.out]; rfl, HB2.out⟩
      · have hb : Hid (hasB MapD.page l x = false) := Lib.hid (by
          rw [Bool.eq_false_iff]
          intro h
          obtain ⟨h1, _⟩ := (hasB_at HR.out).1 h
          rw [hlow.out] at h1
          exact hil h1)
        have f4 : ¬ (i : Int) < (l.length : Int) := by omega
        go_wp2
        go_ret2
        exact ⟨by rw [hlow.out, hb.out]; rfl, HB.out⟩
set_option maxHeartbeats 2000000 in
theorem bsC_any (l : List CellD) (hr : Rise CellD.pos l) (hlen : l.length ≤ 1000000) (x : Nat) (B : Nat) (v : Value) (w : World) (h : CellsV w v l)
    (hc : ∀ (p : CellD) (W : World), Below w.heap.size w W → Calls Try.prog 75 #[.agg #[.int .u64 (p.pos : Nat), .int .u64 (p.word : Nat)], .int .u64 (x : Nat), .pointer (some ⟨B, 0, none⟩)] W fun e w' => e = .returned (.int .i64 (cmpI p.pos x)) ∧ Below W.heap.size W w') :
    Calls Try.prog 74 #[v, .int .u64 (x : Nat), .func (.func 75) #[] #[.pointer (some ⟨B, 0, none⟩)]] w fun e w' => e = .returned (.tuple #[.int .i64 (lowB CellD.pos l x : Nat), .bool (hasB CellD.pos l x)]) ∧ Below w.heap.size w w' := by
  obtain ⟨p, c, rfl, h⟩ := h
  have H := Lib.hid h; have HC := Lib.hid hc; have HR := Lib.hid hr
  have hli : (l.length : Int) ≤ 1000000 := by omega
  clear h hc hr hlen
  go_enter Try.func74, Try.ntmps74
  go_wp2
  go_loopw [9, 10] (fun iv jv wr => ∃ i j : Nat, i ≤ j ∧ j ≤ l.length ∧ iv = .int .i64 i ∧ jv = .int .i64 j ∧ Hid (Below w.heap.size w wr) ∧ Hid (∀ k (h : k < l.length), k < i → l[k].pos < x) ∧ Hid (∀ k (h : k < l.length), j ≤ k → x ≤ l[k].pos)) (fun iv jv _ => (intOf jv).toNat - (intOf iv).toNat)
  case atStart => exact ⟨0, l.length, Nat.zero_le _, Nat.le_refl _, rfl, rfl, Lib.hid (Below.refl _ _), Lib.hid (fun k _ h => absurd h (Nat.not_lt_zero _)), Lib.hid (fun k h1 h2 => absurd h1 (by omega))⟩
  case round =>
    obtain ⟨i, j, hij, hjl, rfl, rfl, HB, HI, HJ⟩ := hrel
    by_cases hlt : i < j
    · obtain ⟨m, hm⟩ : ∃ m : Nat, m = (i + j) / 2 := ⟨_, rfl⟩
      obtain ⟨s, hs⟩ : ∃ s : Nat, s = i + j := ⟨_, rfl⟩
      have hml : m < l.length := by omega
      have him : i ≤ m := by omega
      have hmj : m < j := by omega
      have f1 : (i : Int) + (j : Int) = (s : Int) := by omega
      have f2 : (s : Int) / 2 = (m : Int) := by omega
      have f3 : (s : Int) ≤ 2000000 := by omega
      have f4 : (m : Int) < (l.length : Int) := by omega
      obtain ⟨b, off, rfl, hrw⟩ := H.out (ne_nil hml)
      have c0 := (hrw.below HB.out).fst m hml
      have c1 := (hrw.below HB.out).snd m hml
      have HCM := Lib.hid (HC.out l[m] wr HB.out)
      clear hrw hm hs
      by_cases hcm : l[m].pos < x
      · have b1 : decide (cmpI l[m].pos x < 0) = true := by rw [cmpI_lt]; exact decide_eq_true hcm
        have HCX := Lib.hid hcm
        clear hcm
        go_wp2_with (go_at_call 75; (with_reducible refine HCM.out.mono ?_); rintro e w2 ⟨rfl, hb2⟩; have HB2 : Hid (Below w.heap.size w w2) := Lib.hid (HB.out.trans (hb2.mono HB.out.size)); clear hb2)
        go_roundw
        case rel => exact ⟨m + 1, j, by omega, hjl, by go_num, rfl, HB2, Lib.hid (fun k h hk => by
          rcases Nat.lt_or_eq_of_le (Nat.le_of_lt_succ hk) with h1 | rfl
          · exact Nat.lt_trans (HR.out.at hml h1) HCX.out
          · exact HCX.out), HJ⟩
        case measure => simp [intOf]; omega
      · have b1 : decide (cmpI l[m].pos x < 0) = false := by rw [cmpI_lt]; exact decide_eq_false hcm
        have HCX := Lib.hid hcm
        clear hcm
        go_wp2_with (go_at_call 75; (with_reducible refine HCM.out.mono ?_); rintro e w2 ⟨rfl, hb2⟩; have HB2 : Hid (Below w.heap.size w w2) := Lib.hid (HB.out.trans (hb2.mono HB.out.size)); clear hb2)
        go_roundw
        case rel => exact ⟨i, m, him, by omega, rfl, rfl, HB2, HI, Lib.hid (fun k h hk => by
          have h0 := HCX.out
          rcases Nat.lt_or_eq_of_le hk with h1 | rfl
          · have := HR.out.at h h1; omega
          · omega)⟩
        case measure => simp [intOf]; omega
    · obtain rfl : i = j := by omega
      have hlow : Hid (lowB CellD.pos l x = i) := Lib.hid (lowB_of hjl HI.out HJ.out)
      by_cases hil : i < l.length
      · obtain ⟨b, off, rfl, hrw⟩ := H.out (ne_nil hil)
        have c0 := (hrw.below HB.out).fst i hil
        have c1 := (hrw.below HB.out).snd i hil
        have HCM := Lib.hid (HC.out l[i] wr HB.out)
        have b1 : ((cmpI l[i].pos x == 0) : Bool) = hasB CellD.pos l x := by
          rw [cmpI_eq, Bool.eq_iff_iff, hasB_at HR.out, beq_iff_eq]
          constructor
          · intro h; exact ⟨by rw [hlow.out]; exact hil, by simp only [hlow.out]; exact h⟩
          · rintro ⟨h1, h2⟩; simp only [hlow.out] at h2; exact h2
        have f4 : (i : Int) < (l.length : Int) := by omega
        clear hrw
        go_wp2_with (go_at_call 75; (with_reducible refine HCM.out.mono ?_); rintro e w2 ⟨rfl, hb2⟩; have HB2 : Hid (Below w.heap.size w w2) := Lib.hid (HB.out.trans (hb2.mono HB.out.size)); clear hb2)
        go_ret2
        exact ⟨by rw [hlow.out]; rfl, HB2.out⟩
      · have hb : Hid (hasB CellD.pos l x = false) := Lib.hid (by
          rw [Bool.eq_false_iff]
          intro h
          obtain ⟨h1, _⟩ := (hasB_at HR.out).1 h
          rw [hlow.out] at h1
          exact hil h1)
        have f4 : ¬ (i : Int) < (l.length : Int) := by omega
        go_wp2
        go_ret2
        exact ⟨by rw [hlow.out, hb.out]; rfl, HB.out⟩
end Go.Proofs.Ytbaelhaajplbnaa
