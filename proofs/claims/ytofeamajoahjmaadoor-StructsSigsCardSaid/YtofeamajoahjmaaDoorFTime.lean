/-
  structs.Time: a time as the guest has it.
-/
import Derived.Test.YtofeamajoahjmaaDoorFStr
namespace Go.Proofs.YtofeamajoahjmaaDoor
open Go Go.RowKit
set_option linter.unusedVariables false
set_option linter.unusedSimpArgs false

def timeOk (l : List UInt8) : Bool := decide (l.length = 16) && (decide (leN (l.take 8) < 2147483648) && decide (leN (l.drop 8) < 1000000000))
def timeF (l : List UInt8) : List UInt8 := if timeOk l then beB (leN (l.take 8)) 4 ++ beB (leN (l.drop 8)) 4 else []

theorem rowU_of_own {w : World} {B g cap n : Nat} {vs : List Nat} (h : w.ownsRow B 22 1 (.slice (some ⟨g, 0, none⟩) n cap) n (u64V vs)) : RowU w g vs := by
  rcases h.2 with ⟨h', _⟩ | ⟨g', cap', cur, h', _, hg, _, _, _, htake⟩
  · simp at h'
  · simp only [Value.slice.injEq, Option.some.injEq, Addr.mk.injEq, and_true, true_and] at h'
    obtain ⟨rfl, rfl⟩ := h'
    refine ⟨cur, _, hg, fun i hi => ?_⟩
    have h1 : (u64V vs)[i]? = some (.int .u64 (vs[i] : Nat)) := by simp [u64V, hi]
    rw [← htake, List.getElem?_take] at h1
    split at h1
    · simpa using h1
    · cases h1

set_option maxHeartbeats 2000000 in
set_option maxRecDepth 100000 in
theorem time_any (l : List UInt8) (hl : l.length ≤ 140737488351232) (w : World) :
    Calls Tryd.prog 29 #[.string (mkB l)] w fun e w' => e = .returned (.tuple #[.string (mkB (timeF l)), .bool (timeOk l)]) ∧ Below w.heap.size w w' := by
  have hsz := mkB_size l
  by_cases h16 : l.length = 16
  · have hres : takenL l [8, 8] = [leN (l.take 8), leN (l.drop 8)] := by
      have : (l.drop 8).take 8 = l.drop 8 := List.take_of_length_le (by rw [List.length_drop]; omega)
      simp only [takenL, this]
    obtain ⟨a, ha⟩ : ∃ a, a = leN (l.take 8) := ⟨_, rfl⟩
    obtain ⟨b, hb⟩ : ∃ b, b = leN (l.drop 8) := ⟨_, rfl⟩
    rw [← ha, ← hb] at hres
    have ha64 : (a : Int) ≤ 18446744073709551615 := by have := leN_lt (l := l.take 8) (by rw [List.length_take]; omega); rw [← ha] at this; omega
    have hb64 : (b : Int) ≤ 18446744073709551615 := by have := leN_lt (l := l.drop 8) (by rw [List.length_drop]; omega); rw [← hb] at this; omega
    have HAB : Hid (AllU [a, b]) := Lib.hid (fun v hv => by
      rcases List.mem_cons.1 hv with rfl | hv
      · omega
      · rcases List.mem_cons.1 hv with rfl | hv
        · omega
        · cases hv)
    have hF : Hid (timeF l = if a < 2147483648 ∧ b < 1000000000 then beB a 4 ++ beB b 4 else []) := Lib.hid (by simp [timeF, timeOk, h16, ← ha, ← hb])
    have hO : Hid (timeOk l = decide (a < 2147483648 ∧ b < 1000000000)) := Lib.hid (by simp [timeOk, h16, ← ha, ← hb])
    have H16 := Lib.hid h16; have HR := Lib.hid hres; have HL := Lib.hid hl
    have h16' : (l.length : Int) = 16 := by omega
    clear ha hb h16 hres hl
    go_enter Tryd.func29, Tryd.ntmps29
    go_upto_region 4 with (go_at_call 40; refine (taken_any l HL.out _ _ [8, 8] (by simp) (by have := H16.out; simp; omega) (by simp) _ (rowN_of (heap_new _ _ _ rfl) (by simp))).mono ?_; rintro e w1 ⟨v, rfl, hown, hb1⟩)
    rw [HR.out] at hown
    obtain ⟨g, cap, rfl⟩ := own_some (n := 2) hown (by omega)
    have hU := rowU_of_own hown
    have c0 := hU.cell 0 (by simp)
    have c1 := hU.cell 1 (by simp)
    have HU := Lib.hid hU
    have HB1 : Hid (Below w.heap.size w w1) := Lib.hid (((Below.refl _ _).alloc (Nat.le_refl _) _).trans (hb1.mono (by rw [heap_len]; omega)))
    have hgz : Hid (g < w1.heap.size) := Lib.hid (by obtain ⟨c, fr, h1, _⟩ := hU; exact heap_lt h1)
    simp only [List.getElem_cons_zero, List.getElem_cons_succ] at c0 c1
    clear hU hown hb1
    by_cases h1 : a < 2147483648
    · have h1' : (a : Int) / 2147483648 = 0 := by omega
      by_cases h2 : b < 1000000000
      · have H1 := Lib.hid h1; have H2 := Lib.hid h2
        have h2' : decide (1000000000 ≤ b) = false := decide_eq_false (by omega)
        have h2i : decide (1000000000 ≤ (b : Int)) = false := decide_eq_false (by omega)
        clear h1 h2 h1'
        have hq : (((a : Int) / 2147483648) != 0) = false := by have := H1.out; simp; omega
        go_upto_region 8 with (go_at_call 33; refine (put_any w1.heap.size w1.heap.size g 4 [a, b] HAB.out [] (by simp) _ _ (HU.out.below ((Below.refl _ _).alloc (Nat.le_refl _) _)) (Nat.ne_of_lt hgz.out) (bld_new w1) (by rw [heap_len]; omega)).mono ?_; rintro e w2 ⟨rfl, k1, k2, k3⟩)
        have K1 := Lib.hid k1; have K2 := Lib.hid k2
        have HZ : Hid (w1.heap.size ≤ w2.heap.size) := Lib.hid (by have := k2.size; rw [heap_len] at this; omega)
        clear k1 k2 k3
        go_wp2_with (go_at_call 34; refine (bstr_any _ _ _ _ K1.out HZ.out).mono ?_; rintro e w3 ⟨rfl, _, hb3, _⟩)
        go_ret2
        refine ⟨?_, HB1.out.trans ((((Below.refl _ _).alloc (Nat.le_refl _) _).trans (K2.out.trans hb3)).mono HB1.out.size)⟩
        rw [hF.out, if_pos ⟨H1.out, H2.out⟩, hO.out, decide_eq_true ⟨H1.out, H2.out⟩]
        simp [wordsB, mkB]
      · have h2' : decide (1000000000 ≤ b) = true := decide_eq_true (by omega)
        have h2i : decide (1000000000 ≤ (b : Int)) = true := decide_eq_true (by omega)
        have hq : (((a : Int) / 2147483648) != 0) = false := by simp; omega
        have H2 := Lib.hid h2
        clear h1 h2 h1'
        go_wp2
        go_ret2
        refine ⟨?_, HB1.out⟩
        rw [hF.out, if_neg (fun h => H2.out h.2), hO.out, decide_eq_false (fun h => H2.out h.2)]
        rfl
    · have hq : (((a : Int) / 2147483648) != 0) = true := by simp; omega
      have H1 := Lib.hid h1
      clear h1
      go_wp2
      go_ret2
      refine ⟨?_, HB1.out⟩
      rw [hF.out, if_neg (fun h => H1.out h.1), hO.out, decide_eq_false (fun h => H1.out h.1)]
      rfl
  · have hO : Hid (timeOk l = false) := Lib.hid (by simp [timeOk, h16])
    have hF : Hid (timeF l = []) := Lib.hid (by simp [timeF, hO.out])
    have h16' : ((l.length : Int) != 16) = true := by simp; omega
    have hl2 : (l.length : Int) ≤ 140737488351232 := by omega
    clear h16 hl
    go_enter Tryd.func29, Tryd.ntmps29
    go_wp2
    go_ret2
    exact ⟨by rw [hF.out, hO.out]; rfl, Below.refl _ _⟩
end Go.Proofs.YtofeamajoahjmaaDoor
