/-
  Names: which symbols can be, by the document.
-/
import Derived.Test.YtlifdfkconklfaaDoorFNmF
namespace Go.Proofs.YtlifdfkconklfaaDoor
open Go Go.RowKit
set_option linter.unusedVariables false
set_option linter.unusedSimpArgs false

theorem take_zero {l : List UInt8} {k : Nat} (hk : k < l.length) (h : (l.take k).contains 0 = false) (hz : l[k] ≠ 0) : (l.take (k + 1)).contains 0 = false := by
  rw [take_next' hk]
  simp only [List.contains_eq_any_beq, List.any_append, List.any_cons, List.any_nil, Bool.or_false] at h ⊢
  rw [h, Bool.false_or]
  simpa using fun e => hz e.symm
theorem has_zero {l : List UInt8} {k : Nat} (hk : k < l.length) (hz : l[k] = 0) : l.contains 0 = true := by
  rw [List.contains_iff_mem]
  exact hz ▸ List.getElem_mem hk
set_option maxHeartbeats 1000000 in
theorem rfits_any (s : SymD) (h : s.Ok) (w : World) :
    Calls Tryd.prog 27 #[.agg (symV s)] w fun e w' => e = .returned (.bool (fitS s)) ∧ Below w.heap.size w w' := by
  obtain ⟨l, v, z, b, p⟩ := s
  obtain ⟨h1, h2, h3, h4, h5, h6, h7⟩ := h
  have hsz := mkB_size l
  have hF : fitS ⟨l, v, z, b, p⟩ = (decide (l ≠ []) && (decide (l.length ≤ 31) && (!l.contains 0 && (decide (0 ≤ b) && (decide (b ≤ 2) && (decide (0 ≤ p) && decide (p ≤ 2))))))) := rfl
  unfold symV
  simp only at *
  have HF := Lib.hid hF
  clear hF
  by_cases c1 : l = []
  · have D : Hid (decide (l ≠ []) = false) := Lib.hid (decide_eq_false (by simp [c1]))
    have i1 : (l.length : Int) < 1 := by rw [c1]; simp
    clear c1
    go_enter Tryd.func27, Tryd.ntmps27
    go_wp2
    go_ret
    exact ⟨by rw [HF.out]; rw [D.out]; rfl, (Below.refl _ _).alloc (Nat.le_refl _) _⟩
  · have D1 : Hid (decide (l ≠ []) = true) := Lib.hid (decide_eq_true c1)
    have i1 : (1 : Int) ≤ (l.length : Int) := by have : l.length ≠ 0 := fun e => c1 (List.length_eq_zero_iff.1 e); omega
    clear c1
    by_cases c2 : l.length ≤ 31
    · have D2 : Hid (decide (l.length ≤ 31) = true) := Lib.hid (decide_eq_true c2)
      have c2i : (l.length : Int) ≤ 31 := by omega
      clear c2
      by_cases c4 : b < 0
      · have D4 : Hid (decide (0 ≤ b) = false) := Lib.hid (decide_eq_false (by omega))
        go_enter Tryd.func27, Tryd.ntmps27
        go_wp2
        go_ret
        exact ⟨by rw [HF.out]; rw [D4.out]; simp, (Below.refl _ _).alloc (Nat.le_refl _) _⟩
      · have D4 : Hid (decide (0 ≤ b) = true) := Lib.hid (decide_eq_true (by omega))
        have c4i : 0 ≤ b := by omega
        clear c4
        by_cases c6 : 2 < b
        · have D5 : Hid (decide (b ≤ 2) = false) := Lib.hid (decide_eq_false (by omega))
          go_enter Tryd.func27, Tryd.ntmps27
          go_wp2
          go_ret
          exact ⟨by rw [HF.out]; rw [D5.out]; simp, (Below.refl _ _).alloc (Nat.le_refl _) _⟩
        · have D5 : Hid (decide (b ≤ 2) = true) := Lib.hid (decide_eq_true (by omega))
          have c6i : b ≤ 2 := by omega
          clear c6
          by_cases c7 : p < 0
          · have D6 : Hid (decide (0 ≤ p) = false) := Lib.hid (decide_eq_false (by omega))
            go_enter Tryd.func27, Tryd.ntmps27
            go_wp2
            go_ret
            exact ⟨by rw [HF.out]; rw [D6.out]; simp, (Below.refl _ _).alloc (Nat.le_refl _) _⟩
          · have D6 : Hid (decide (0 ≤ p) = true) := Lib.hid (decide_eq_true (by omega))
            have c7i : 0 ≤ p := by omega
            clear c7
            by_cases c8 : 2 < p
            · have D7 : Hid (decide (p ≤ 2) = false) := Lib.hid (decide_eq_false (by omega))
              go_enter Tryd.func27, Tryd.ntmps27
              go_wp2
              go_ret
              exact ⟨by rw [HF.out]; rw [D7.out]; simp, (Below.refl _ _).alloc (Nat.le_refl _) _⟩
            · have D7 : Hid (decide (p ≤ 2) = true) := Lib.hid (decide_eq_true (by omega))
              have c8i : p ≤ 2 := by omega
              clear c8
              have HFS : Hid (fitS ⟨l, v, z, b, p⟩ = !l.contains 0) := Lib.hid (by rw [HF.out, D1.out, D2.out, D4.out, D5.out, D6.out, D7.out]; simp)
              go_enter Tryd.func27, Tryd.ntmps27
              go_wp2
              go_loop [3] (fun i => ∃ k : Nat, k ≤ l.length ∧ i = .int .i64 k ∧ Hid ((l.take k).contains 0 = false)) (fun i => l.length - (intOf i).toNat)
              case atStart => exact ⟨0, Nat.zero_le _, rfl, Lib.hid (by simp)⟩
              case round =>
                obtain ⟨k, hk, rfl, HK⟩ := hrel
                by_cases hlt : k < l.length
                · by_cases hz : l[k] = 0
                  · have e0 : (l[k]).toNat = 0 := by rw [hz]; rfl
                    have hb8 : ∀ h', ((mkB l)[k]'h').toNat = 0 := fun _ => e0
                    clear e0
                    have hres : Hid (fitS ⟨l, v, z, b, p⟩ = false) := Lib.hid (by rw [HFS.out, has_zero hlt hz]; rfl)
                    clear hz
                    go_wp2
                    go_ret
                    exact ⟨by rw [hres.out]; rfl, (Below.refl _ _).alloc (Nat.le_refl _) _⟩
                  · have e0 : ((((l[k]).toNat : Int) == 0) : Bool) = false := by
                      rw [beq_eq_false_iff_ne]
                      intro e
                      have e1 : (l[k]).toNat = (0 : UInt8).toNat := by show (l[k]).toNat = 0; omega
                      exact hz (UInt8.toNat_inj.1 e1)
                    have hb8 : ∀ h', (((((mkB l)[k]'h').toNat : Int) == 0) : Bool) = false := fun _ => e0
                    clear e0
                    have HZ := Lib.hid hz; clear hz
                    go_wp2
                    go_round
                    case rel => exact ⟨k + 1, by omega, by go_num, Lib.hid (take_zero hlt HK.out HZ.out)⟩
                    case measure => simp [intOf]; omega
                · obtain rfl : k = l.length := by omega
                  have hres : Hid (fitS ⟨l, v, z, b, p⟩ = true) := Lib.hid (by rw [HFS.out]; have := HK.out; rw [List.take_length] at this; rw [this]; rfl)
                  go_wp2
                  go_ret
                  exact ⟨by rw [hres.out]; rfl, (Below.refl _ _).alloc (Nat.le_refl _) _⟩
    · have D2 : Hid (decide (l.length ≤ 31) = false) := Lib.hid (decide_eq_false c2)
      have c2i : (31 : Int) < (l.length : Int) := by omega
      clear c2
      go_enter Tryd.func27, Tryd.ntmps27
      go_wp2
      go_ret
      exact ⟨by rw [HF.out]; rw [D2.out]; simp, (Below.refl _ _).alloc (Nat.le_refl _) _⟩

theorem all_take {l : List SymD} {k : Nat} (hk : k < l.length) (h : (l.take k).all fitS = true) (hf : fitS l[k] = true) : (l.take (k + 1)).all fitS = true := by
  rw [List.take_succ_eq_append_getElem hk, List.all_append, h]; simp [hf]
theorem all_not {l : List SymD} {k : Nat} (hk : k < l.length) (hf : fitS l[k] = false) : l.all fitS = false := by
  rw [List.all_eq_false]
  exact ⟨_, List.getElem_mem hk, by simp [hf]⟩
set_option maxHeartbeats 1000000 in
theorem rfit_at (l : List SymD) (hok : AllOk l) (b off cap : Nat) (hlen : l.length ≤ 1000000) (w : World) (h : SymsAt w b off l) :
    Calls Tryd.prog 17 #[.slice (some ⟨b, off, none⟩) l.length cap] w fun e w' => e = .returned (.bool (fitL l)) ∧ Below w.heap.size w w' := by
  have H := Lib.hid h; have OK := Lib.hid hok
  clear h hok
  by_cases h2 : l.length ≤ 200
  · have h2i : (l.length : Int) ≤ 200 := by omega
    have hF : Hid (fitL l = l.all fitS) := Lib.hid (by rw [fitL, decide_eq_true h2]; rfl)
    clear h2
    go_enter Tryd.func17, Tryd.ntmps17
    go_wp2
    go_loopw [3] (fun i wr => ∃ k : Nat, k ≤ l.length ∧ i = .int .i64 k ∧ Hid (Below w.heap.size w wr) ∧ Hid ((l.take k).all fitS = true)) (fun i _ => l.length - (intOf i).toNat)
    case atStart => exact ⟨0, Nat.zero_le _, rfl, Lib.hid (Below.refl _ _), Lib.hid rfl⟩
    case round =>
      obtain ⟨k, hk, rfl, HB, HA⟩ := hrel
      by_cases hlt : k < l.length
      · obtain ⟨s, hs⟩ : ∃ s, s = l[k] := ⟨_, rfl⟩
        have HS : Hid (s.Ok) := Lib.hid (by rw [hs]; exact OK.out _ (List.getElem_mem _))
        have HR : Hid (wr.rangeAt b (off + k * 5) (symV s).toList) := Lib.hid (by rw [hs]; exact (H.out.below HB.out).at_ k hlt)
        have HE := Lib.hid hs; clear hs
        cases hf : fitS s
        · have hres : Hid (fitL l = false) := Lib.hid (by rw [hF.out]; exact all_not hlt (by rw [← HE.out]; exact hf))
          go_wp2_with (first
            | (refine wpl_load 39 ?_; refine LoadGoal.mid (symV s) rfl HR.out Tryd.underlying39 rfl (sym_size s) rfl ?_)
            | (go_at_call 27; refine (rfits_any s HS.out _).mono ?_; rintro e w' ⟨rfl, hb⟩; rw [hf]; replace HB := hidB HB hb; clear hb))
          go_ret
          exact ⟨by rw [hres.out]; rfl, HB.out⟩
        · go_wp2_with (first
            | (refine wpl_load 39 ?_; refine LoadGoal.mid (symV s) rfl HR.out Tryd.underlying39 rfl (sym_size s) rfl ?_)
            | (go_at_call 27; refine (rfits_any s HS.out _).mono ?_; rintro e w' ⟨rfl, hb⟩; rw [hf]; replace HB := hidB HB hb; clear hb))
          go_roundw
          case rel => exact ⟨k + 1, by omega, by go_num, HB, Lib.hid (all_take hlt HA.out (by rw [← HE.out]; exact hf))⟩
          case measure => simp [intOf]; omega
      · obtain rfl : k = l.length := by omega
        have hres : Hid (fitL l = true) := Lib.hid (by rw [hF.out]; have := HA.out; rw [List.take_length] at this; exact this)
        go_wp2
        go_ret
        exact ⟨by rw [hres.out]; rfl, HB.out⟩
  · have h2i : (200 : Int) < (l.length : Int) := by omega
    have hF : Hid (fitL l = false) := Lib.hid (by rw [fitL, decide_eq_false h2]; rfl)
    clear h2
    go_enter Tryd.func17, Tryd.ntmps17
    go_wp2
    go_ret
    exact ⟨by rw [hF.out]; rfl, Below.refl _ _⟩
theorem rfit_any (l : List SymD) (hok : AllOk l) (hlen : l.length ≤ 1000000) (v : Value) (w : World) (h : SymsV w v l) :
    Calls Tryd.prog 17 #[v] w fun e w' => e = .returned (.bool (fitL l)) ∧ Below w.heap.size w w' := by
  rcases h with ⟨rfl, rfl⟩ | ⟨b, off, cap, rfl, h⟩
  · have hr : fitL [] = true := rfl
    rw [hr]
    go_enter Tryd.func17, Tryd.ntmps17
    go_wp2
    refine wp_loop_rounds 1 ?_
    rw [rounds_succ]
    go_wp2
    go_ret
    exact ⟨rfl, Below.refl _ _⟩
  · exact rfit_at l hok b off cap hlen w h
end Go.Proofs.YtlifdfkconklfaaDoor
