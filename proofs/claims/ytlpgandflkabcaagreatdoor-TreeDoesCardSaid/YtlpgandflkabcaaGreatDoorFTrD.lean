/-
  Which texts are paths, by the document.
-/
import Derived.Test.YtlpgandflkabcaaGreatDoorFTrC
namespace Go.Proofs.YtlpgandflkabcaaGreatDoor
open Go Go.RowKit Go.Shelf
set_option linter.unusedVariables false
set_option linter.unusedSimpArgs false

theorem seg_no {l : List UInt8} {f i : Nat} (h : ∀ j (hj : j < l.length), f ≤ j → j < i → l[j] ≠ 47) : (47 : UInt8) ∉ (l.drop f).take (i - f) := by
  intro hm
  obtain ⟨k, hk, he⟩ := List.getElem_of_mem hm
  simp only [List.length_take, List.length_drop] at hk
  rw [List.getElem_take, List.getElem_drop] at he
  exact h (f + k) (by omega) (by omega) (by omega) he
theorem drop_seg {l : List UInt8} {f i : Nat} (hf : f ≤ i) (hi : i < l.length) (e : l[i] = 47) : l.drop f = (l.drop f).take (i - f) ++ 47 :: l.drop (i + 1) := by
  have h1 : (l.drop f).drop (i - f) = 47 :: l.drop (i + 1) := by
    rw [List.drop_drop, show f + (i - f) = i by omega, List.drop_eq_getElem_cons hi, e]
  rw [← h1, List.take_append_drop]
def restN (l : List UInt8) (f : Nat) : Bool := if f ≤ l.length then (splitB 47 (l.drop f)).all nameB else true
theorem restN_cut {l : List UInt8} {f i : Nat} (hf : f ≤ i) (hi : i < l.length) (e : l[i] = 47) (h : ∀ j (hj : j < l.length), f ≤ j → j < i → l[j] ≠ 47) : restN l f = (nameB ((l.drop f).take (i - f)) && restN l (i + 1)) := by
  unfold restN
  rw [if_pos (by omega), if_pos (by omega), drop_seg hf hi e, splitB_app (seg_no h), List.all_cons]
  have hlen : ((l.drop f).take (i - f)).length = i - f := by simp; omega
  rw [← drop_seg hf hi e]
theorem restN_end {l : List UInt8} {f : Nat} (hf : f ≤ l.length) (h : ∀ j (hj : j < l.length), f ≤ j → j < l.length → l[j] ≠ 47) : restN l f = (nameB ((l.drop f).take (l.length - f)) && restN l (l.length + 1)) := by
  unfold restN
  have h1 : (l.drop f).take (l.length - f) = l.drop f := List.take_of_length_le (by simp)
  have h2 := seg_no h
  rw [h1] at h2 ⊢
  rw [if_pos hf, if_neg (by omega), splitB_none h2]
  simp
theorem pathB_rest {l : List UInt8} (h1 : l ≠ [47]) (h2 : l ≠ []) (h3 : l.length ≤ 255) (h4 : l.head? = some 47) : pathB l = restN l 1 := by
  match l, h2 with
  | b :: l, _ => 
    have h3' : decide (l.length + 1 ≤ 255) = true := decide_eq_true (by simpa using h3)
    simp only [pathB, beq_eq_false_iff_ne.2 h1, Bool.false_or, h3', h4, beq_self_eq_true, Bool.true_and, List.tail_cons, restN, List.length_cons, List.drop_succ_cons, List.drop_zero]
    rw [if_pos (by omega)]
set_option maxHeartbeats 4000000 in
theorem rpath_any (l : List UInt8) (w : World) (hs : l.length ≤ 1000000) :
    Calls Tryz.prog 19 #[.string (mkB l)] w fun e w' => e = .returned (.bool (pathB l)) ∧ w' = w := by
  have hsz := mkB_size l
  have HL : Hid ((mkB l).toList = l) := Lib.hid (mkB_toList l)
  have hlen : (l.length : Int) ≤ 1000000 := by omega
  by_cases h0 : (mkB l).toList = [47]
  · have HR : Hid (pathB l = true) := Lib.hid (by rw [HL.out] at h0; subst h0; rfl)
    clear hs
    go_enter Tryz.func19, Tryz.ntmps19
    go_wp2
    go_ret
    exact ⟨by rw [HR.out]; rfl, rfl⟩
  have e0 : ((mkB l).toList == [47]) = false := beq_eq_false_iff_ne.2 h0
  by_cases h1 : (mkB l).toList = []
  · have HR : Hid (pathB l = false) := Lib.hid (by rw [HL.out] at h1; subst h1; rfl)
    clear hs h0
    go_enter Tryz.func19, Tryz.ntmps19
    go_wp2
    go_ret
    exact ⟨by rw [HR.out]; rfl, rfl⟩
  have e1 : (mkB l).toList.isEmpty = false := by simpa using h1
  by_cases h2 : l.length ≤ 255
  · have i2 : (l.length : Int) ≤ 255 := by omega
    have hpos : 0 < l.length := by rw [HL.out] at h1; exact List.length_pos_iff.2 h1
    have hlt2 : 0 < (mkB l).size := by rw [mkB_size]; exact hpos
    obtain ⟨v, hv⟩ : ∃ v : Nat, ((mkB l)[0]'hlt2).toNat = v := ⟨_, rfl⟩
    have HV : Hid (l[0].toNat = v) := Lib.hid hv
    by_cases h3 : v = 47
    · subst h3
      have HR : Hid (pathB l = restN l 1) := Lib.hid (by
        rw [HL.out] at h0 h1
        refine pathB_rest h0 h1 h2 ?_
        rw [List.head?_eq_getElem?, List.getElem?_eq_getElem hpos, UInt8.toNat_inj.1 (show l[0].toNat = (47 : UInt8).toNat from HV.out)])
      have HNM : Hid (∀ (s : List UInt8) (w : World), s.length ≤ 1000000 → Calls Tryz.prog 46 #[.string (mkB s)] w fun e w' => e = .returned (.bool (nameB s)) ∧ w' = w) := Lib.hid fun s w h => fitName_any s w h
      clear h2
      go_enter Tryz.func19, Tryz.ntmps19
      go_wp2
      go_loop [3, 4] (fun fv iv => ∃ f i : Nat, 1 ≤ f ∧ f ≤ i ∧ i ≤ l.length + 1 ∧ fv = .int .i64 f ∧ iv = .int .i64 i ∧ Hid (pathB l = restN l f) ∧ Hid (i = l.length + 1 → f = l.length + 1) ∧ Hid (∀ j (hj : j < l.length), f ≤ j → j < i → l[j] ≠ 47)) (fun fv iv => l.length + 1 - (intOf iv).toNat)
      case atStart => exact ⟨1, 1, Nat.le_refl _, Nat.le_refl _, by omega, rfl, rfl, HR, Lib.hid (fun h => by omega), Lib.hid (fun j hj h h2 => by omega)⟩
      case round =>
        obtain ⟨f, i, h1f, hfi, hil, rfl, rfl, HP, HE, HN⟩ := hrel
        by_cases hlt : i < l.length
        · have hlt3 : i < (mkB l).size := by rw [mkB_size]; exact hlt
          obtain ⟨v, hv⟩ : ∃ v : Nat, ((mkB l)[i]'hlt3).toNat = v := ⟨_, rfl⟩
          have HV : Hid (l[i].toNat = v) := Lib.hid hv
          have hne : ((i : Int) < (l.length : Int)) := by omega
          by_cases h3 : v = 47
          · subst h3
            have hx : (mkB l).extract f i = mkB ((l.drop f).take (i - f)) := mkB_extract l f i
            obtain ⟨sg, hsg⟩ : ∃ sg, sg = (l.drop f).take (i - f) := ⟨_, rfl⟩
            have hcut : restN l f = (nameB sg && restN l (i + 1)) := by rw [hsg]; exact restN_cut hfi hlt (UInt8.toNat_inj.1 (show l[i].toNat = (47 : UInt8).toNat from HV.out)) HN.out
            have HSL : Hid (sg.length ≤ 1000000) := Lib.hid (by rw [hsg]; simp; omega)
            rw [← hsg] at hx
            clear hsg
            cases hnb : nameB sg
            · have HPR : Hid (pathB l = false) := Lib.hid (by rw [HP.out, hcut, hnb]; rfl)
              have HNB := Lib.hid hnb
              clear hcut hnb
              go_wp2_with (go_at_call 46; refine (HNM.out sg _ HSL.out).mono ?_; rintro e w1 ⟨rfl, rfl⟩; rw [HNB.out])
              go_ret
              exact ⟨by rw [HPR.out]; rfl, rfl⟩
            · have HPR : Hid (pathB l = restN l (i + 1)) := Lib.hid (by rw [HP.out, hcut, hnb]; rfl)
              have HNB := Lib.hid hnb
              clear hcut hnb
              go_wp2_with (go_at_call 46; refine (HNM.out sg _ HSL.out).mono ?_; rintro e w1 ⟨rfl, rfl⟩; rw [HNB.out])
              go_round
              case rel => exact ⟨i + 1, i + 1, by omega, by omega, by omega, by go_num, by go_num, HPR, Lib.hid (fun h => by omega), Lib.hid (fun j hj h h2 => by omega)⟩
              case measure => simp [intOf]; omega
          · have c1 : ((v : Int) != 47) = true := by rw [bne, beq_eq_false_iff_ne.2 (show (v : Int) ≠ 47 by omega)]; rfl
            have c2 : ((v : Int) == 47) = false := beq_eq_false_iff_ne.2 (by omega)
            go_wp2
            go_round
            case rel => exact ⟨f, i + 1, h1f, by omega, by omega, by go_num, by go_num, HP, Lib.hid (fun h => by omega), Lib.hid (fun j hj h h2 => by
              rcases Nat.lt_or_eq_of_le (Nat.le_of_lt_succ h2) with h5 | rfl
              · exact HN.out j hj h h5
              · exact fun e => h3 (HV.out.symm.trans (congrArg UInt8.toNat e)))⟩
            case measure => simp [intOf]; omega
        · by_cases hend : i = l.length
          · subst hend
            have hx : (mkB l).extract f l.length = mkB ((l.drop f).take (l.length - f)) := mkB_extract l f l.length
            obtain ⟨sg, hsg⟩ : ∃ sg, sg = (l.drop f).take (l.length - f) := ⟨_, rfl⟩
            have hcut : restN l f = (nameB sg && restN l (l.length + 1)) := by rw [hsg]; exact restN_end hfi HN.out
            have HSL : Hid (sg.length ≤ 1000000) := Lib.hid (by rw [hsg]; simp; omega)
            rw [← hsg] at hx
            clear hsg
            cases hnb : nameB sg
            · have HPR : Hid (pathB l = false) := Lib.hid (by rw [HP.out, hcut, hnb]; rfl)
              have HNB := Lib.hid hnb
              clear hcut hnb
              go_wp2_with (go_at_call 46; refine (HNM.out sg _ HSL.out).mono ?_; rintro e w1 ⟨rfl, rfl⟩; rw [HNB.out])
              go_ret
              exact ⟨by rw [HPR.out]; rfl, rfl⟩
            · have HPR : Hid (pathB l = restN l (l.length + 1)) := Lib.hid (by rw [HP.out, hcut, hnb]; rfl)
              have HNB := Lib.hid hnb
              clear hcut hnb
              go_wp2_with (go_at_call 46; refine (HNM.out sg _ HSL.out).mono ?_; rintro e w1 ⟨rfl, rfl⟩; rw [HNB.out])
              go_round
              case rel => exact ⟨l.length + 1, l.length + 1, by omega, by omega, by omega, by go_num, by go_num, HPR, Lib.hid (fun h => rfl), Lib.hid (fun j hj h h2 => by omega)⟩
              case measure => simp [intOf]
          · obtain rfl : i = l.length + 1 := by omega
            have HPR : Hid (pathB l = true) := Lib.hid (by rw [HP.out, HE.out rfl, restN, if_neg (by omega)])
            go_wp2
            go_ret
            exact ⟨by rw [HPR.out]; rfl, rfl⟩
    · have HR : Hid (pathB l = false) := Lib.hid (by
        rw [HL.out] at h0
        have h4 : (l.head? == some 47) = false := by
          rw [List.head?_eq_getElem?, List.getElem?_eq_getElem hpos, beq_eq_false_iff_ne]
          intro e
          exact h3 (HV.out.symm.trans (congrArg UInt8.toNat (Option.some.inj e)))
        rw [pathB, beq_eq_false_iff_ne.2 h0, h4]; simp)
      have c1 : ((v : Int) != 47) = true := by rw [bne, beq_eq_false_iff_ne.2 (show (v : Int) ≠ 47 by omega)]; rfl
      clear hs h2
      go_enter Tryz.func19, Tryz.ntmps19
      go_wp2
      go_ret
      exact ⟨by rw [HR.out]; rfl, rfl⟩
  · have i2 : (255 : Int) < l.length := by omega
    have HR : Hid (pathB l = false) := Lib.hid (by rw [HL.out] at h0; rw [pathB, beq_eq_false_iff_ne.2 h0, decide_eq_false h2]; rfl)
    clear hs h2
    go_enter Tryz.func19, Tryz.ntmps19
    go_wp2
    go_ret
    exact ⟨by rw [HR.out]; rfl, rfl⟩
end Go.Proofs.YtlpgandflkabcaaGreatDoor
