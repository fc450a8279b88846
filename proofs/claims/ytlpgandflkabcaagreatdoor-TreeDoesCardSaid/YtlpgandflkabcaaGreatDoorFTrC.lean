/-
  Names and paths by the document; pieces of a text by the library.
-/
import Derived.Test.YtlpgandflkabcaaGreatDoorFTrB
namespace Go.Proofs.YtlpgandflkabcaaGreatDoor
open Go Go.RowKit Go.Shelf
set_option linter.unusedVariables false
set_option linter.unusedSimpArgs false

theorem mkB_toList (l : List UInt8) : (mkB l).toList = l := by rw [Lib.toList_data]; rfl
theorem byte_eq (a b : UInt8) : (((a.toNat : Int) == (b.toNat : Int)) : Bool) = (a == b) := by
  by_cases h : a = b
  · subst h; simp
  · rw [beq_eq_false_iff_ne.2 h, beq_eq_false_iff_ne.2 (fun e => h (UInt8.toNat_inj.1 (by omega)))]
theorem badS_take {l : List UInt8} {k : Nat} (hk : k < l.length) (h : ∀ j (hj : j < l.length), j < k + 1 → l[j] ≠ 0 ∧ l[j] ≠ 47) : l[k] ≠ 0 ∧ l[k] ≠ 47 := h k hk (Nat.lt_succ_self k)
theorem badS_all {l : List UInt8} (h : ∀ j (hj : j < l.length), j < l.length → l[j] ≠ 0 ∧ l[j] ≠ 47) : badS l = false := by
  have : ∀ b ∈ l, b ≠ 0 ∧ b ≠ 47 := fun b hb => by
    obtain ⟨k, hk, rfl⟩ := List.getElem_of_mem hb
    exact h k hk hk
  simp only [badS, List.contains_eq_mem, Bool.or_eq_false_iff, decide_eq_false_iff_not]
  exact ⟨fun hm => (this 0 hm).1 rfl, fun hm => (this 47 hm).2 rfl⟩
theorem badS_at {l : List UInt8} {k : Nat} (hk : k < l.length) (h : l[k] = 0 ∨ l[k] = 47) : badS l = true := by
  simp only [badS, List.contains_eq_mem, Bool.or_eq_true, decide_eq_true_eq]
  rcases h with h | h
  · exact .inl (h ▸ List.getElem_mem hk)
  · exact .inr (h ▸ List.getElem_mem hk)
theorem nameB_is (l : List UInt8) : nameB l = (!(l == []) && decide (l.length ≤ 31) && !(l == [46]) && !(l == [46, 46]) && !badS l) := by
  simp only [nameB, badS, Bool.not_or, Bool.and_assoc]

set_option maxHeartbeats 2000000 in
theorem fitName_any (l : List UInt8) (w : World) (hs : l.length ≤ 1000000) :
    Calls Tryz.prog 46 #[.string (mkB l)] w fun e w' => e = .returned (.bool (nameB l)) ∧ w' = w := by
  have hsz := mkB_size l
  have HL : Hid ((mkB l).toList = l) := Lib.hid (mkB_toList l)
  have hlen : (l.length : Int) ≤ 1000000 := by omega
  by_cases h0 : (mkB l).toList = []
  · have HR : Hid (nameB l = false) := Lib.hid (by rw [HL.out] at h0; subst h0; rfl)
    clear hs
    go_enter Tryz.func46, Tryz.ntmps46
    go_wp2
    go_ret
    exact ⟨by rw [HR.out]; rfl, rfl⟩
  have e0 : (mkB l).toList.isEmpty = false := by simpa using h0
  by_cases h1 : l.length ≤ 31
  · have i1 : (l.length : Int) ≤ 31 := by omega
    by_cases h2 : (mkB l).toList = [46]
    · have HR : Hid (nameB l = false) := Lib.hid (by rw [HL.out] at h2; subst h2; rfl)
      clear hs h0 h1
      go_enter Tryz.func46, Tryz.ntmps46
      go_wp2
      go_ret
      exact ⟨by rw [HR.out]; rfl, rfl⟩
    have e2 : ((mkB l).toList == [46]) = false := beq_eq_false_iff_ne.2 h2
    by_cases h3 : (mkB l).toList = [46, 46]
    · have HR : Hid (nameB l = false) := Lib.hid (by rw [HL.out] at h3; subst h3; rfl)
      clear hs h0 h1 h2
      go_enter Tryz.func46, Tryz.ntmps46
      go_wp2
      go_ret
      exact ⟨by rw [HR.out]; rfl, rfl⟩
    have e3 : ((mkB l).toList == [46, 46]) = false := beq_eq_false_iff_ne.2 h3
    have HR : Hid (nameB l = !badS l) := Lib.hid (by rw [HL.out] at h0 h2 h3; rw [nameB_is, beq_eq_false_iff_ne.2 h0, beq_eq_false_iff_ne.2 h2, beq_eq_false_iff_ne.2 h3, decide_eq_true h1]; simp)
    clear hs h1
    go_enter Tryz.func46, Tryz.ntmps46
    go_wp2
    go_loop [3] (fun i => ∃ k : Nat, k ≤ l.length ∧ i = .int .i64 k ∧ Hid (∀ j (hj : j < l.length), j < k → l[j] ≠ 0 ∧ l[j] ≠ 47)) (fun i => l.length - (intOf i).toNat)
    case atStart => exact ⟨0, Nat.zero_le _, rfl, Lib.hid (fun j _ h => absurd h (Nat.not_lt_zero _))⟩
    case round =>
      obtain ⟨k, hk, rfl, HK⟩ := hrel
      by_cases hlt : k < l.length
      · have hlt2 : k < (mkB l).size := by rw [mkB_size]; exact hlt
        obtain ⟨v, hv⟩ : ∃ v : Nat, ((mkB l)[k]'hlt2).toNat = v := ⟨_, rfl⟩
        have HV : Hid (l[k].toNat = v) := Lib.hid hv
        by_cases h0 : v = 0
        · subst h0
          go_wp2
          go_ret
          exact ⟨by rw [HR.out, badS_at hlt (.inl (UInt8.toNat_inj.1 HV.out))]; rfl, rfl⟩
        · have c0 : ((v : Int) == 0) = false := beq_eq_false_iff_ne.2 (by omega)
          by_cases h1 : v = 47
          · subst h1
            go_wp2
            go_ret
            exact ⟨by rw [HR.out, badS_at hlt (.inr (UInt8.toNat_inj.1 HV.out))]; rfl, rfl⟩
          · have c1 : ((v : Int) == 47) = false := beq_eq_false_iff_ne.2 (by omega)
            have HB := Lib.hid (And.intro h0 h1)
            go_wp2
            go_round
            case rel => exact ⟨k + 1, by omega, by go_num, Lib.hid (fun j hj hjk => by
              rcases Nat.lt_or_eq_of_le (Nat.le_of_lt_succ hjk) with h | rfl
              · exact HK.out j hj h
              · exact ⟨fun e => HB.out.1 (HV.out.symm.trans (congrArg UInt8.toNat e)), fun e => HB.out.2 (HV.out.symm.trans (congrArg UInt8.toNat e))⟩)⟩
            case measure => simp [intOf]; omega
      · obtain rfl : k = l.length := by omega
        go_wp2
        go_ret
        exact ⟨by rw [HR.out, badS_all HK.out]; rfl, rfl⟩
  · have i1 : (31 : Int) < l.length := by omega
    have HR : Hid (nameB l = false) := Lib.hid (by simp [nameB, h1])
    clear hs h1
    go_enter Tryz.func46, Tryz.ntmps46
    go_wp2
    go_ret
    exact ⟨by rw [HR.out]; rfl, rfl⟩
end Go.Proofs.YtlpgandflkabcaaGreatDoor
