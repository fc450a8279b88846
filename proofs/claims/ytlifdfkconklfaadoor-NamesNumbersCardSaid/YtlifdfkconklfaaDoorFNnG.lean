/-
  Names: the walk of NamesReads.
-/
import Derived.Test.YtlifdfkconklfaaDoorFNnF
namespace Go.Proofs.YtlifdfkconklfaaDoor
open Go Go.RowKit
set_option linter.unusedVariables false
set_option linter.unusedSimpArgs false

def fewB (a b c : List UInt8) : Bool := decide (a.length ≤ 1000) && (decide (b.length ≤ 3000) && decide (c.length ≤ 2000))
theorem few_any (a b c : List UInt8) (w : World) : Calls Tryd.prog 7 #[.agg (tabV a b c)] w fun e w' => e = .returned (.bool (fewB a b c)) ∧ Below w.heap.size w w' := by
  have ha := mkB_size a
  have hb := mkB_size b
  have hc := mkB_size c
  have hB : Hid (Below w.heap.size w (w.alloc (.cells (tabV a b c) 23))) := Lib.hid ((Below.refl _ _).alloc (Nat.le_refl _) _)
  by_cases h1 : a.length ≤ 1000
  · have h1i : (a.length : Int) ≤ 1000 := by omega
    by_cases h2 : b.length ≤ 3000
    · have h2i : (b.length : Int) ≤ 3000 := by omega
      by_cases h3 : c.length ≤ 2000
      · have h3i : (c.length : Int) ≤ 2000 := by omega
        have hF : Hid (fewB a b c = true) := Lib.hid (by rw [fewB, decide_eq_true h1, decide_eq_true h2, decide_eq_true h3]; rfl)
        clear h1 h2 h3
        go_enter Tryd.func7, Tryd.ntmps7
        unfold tabV
        go_wp2
        go_ret
        exact ⟨by rw [hF.out]; rfl, hB.out⟩
      · have h3i : (2000 : Int) < (c.length : Int) := by omega
        have hF : Hid (fewB a b c = false) := Lib.hid (by rw [fewB, decide_eq_false h3]; simp)
        have hD : Hid (decide ((c.length : Int) ≤ 2000) = false) := Lib.hid (decide_eq_false (by omega))
        clear h1 h2 h3
        go_enter Tryd.func7, Tryd.ntmps7
        unfold tabV
        go_wp2
        go_ret
        refine ⟨?_, hB.out⟩
        rw [hF.out]
        exact congrArg (fun x => Ending.returned (.bool x)) hD.out
    · have h2i : (3000 : Int) < (b.length : Int) := by omega
      have hF : Hid (fewB a b c = false) := Lib.hid (by rw [fewB, decide_eq_false h2]; simp)
      clear h1 h2
      go_enter Tryd.func7, Tryd.ntmps7
      unfold tabV
      go_wp2
      go_ret
      exact ⟨by rw [hF.out]; rfl, hB.out⟩
  · have h1i : (1000 : Int) < (a.length : Int) := by omega
    have hF : Hid (fewB a b c = false) := Lib.hid (by rw [fewB, decide_eq_false h1]; simp)
    clear h1
    go_enter Tryd.func7, Tryd.ntmps7
    unfold tabV
    go_wp2
    go_ret
    exact ⟨by rw [hF.out]; rfl, hB.out⟩

set_option maxHeartbeats 4000000 in
set_option maxRecDepth 100000 in
theorem namesReads_walk (a b c name : List UInt8) (w : World) :
    Calls Tryd.prog 3 #[.agg (tabV a b c), .string (mkB name)] w fun e w' => e = .returned (.bool true) ∧ Below w.heap.size w w' := by
  have hnm := mkB_size name
  have HTS := Lib.hid (tab_size a b c)
  have HAW : Hid (∀ w, Calls Tryd.prog 8 #[] w fun e w' => e = .returned (.bool true) ∧ Below w.heap.size w w') := Lib.hid awake15_any
  have HFW : Hid (∀ w, Calls Tryd.prog 7 #[.agg (tabV a b c)] w fun e w' => e = .returned (.bool (fewB a b c)) ∧ Below w.heap.size w w') := Lib.hid (few_any a b c)
  go_enter Tryd.func3, Tryd.ntmps3
  go_upto_region 1 with fail
  obtain ⟨W, hW⟩ : ∃ W, W = w.alloc (.cells (tabV a b c) 23) := ⟨_, rfl⟩
  have HT : Hid (∀ v, Below W.heap.size W v → v.heap[w.heap.size]? = some (.cells (tabV a b c) 23)) := Lib.hid (fun v hv => by rw [hv.block _ (by rw [hW]; simp only [heap_len]; omega), hW]; exact heap_new _ _ _ rfl)
  have HWB : Hid (Below w.heap.size w W) := Lib.hid (by rw [hW]; exact (Below.refl _ _).alloc (Nat.le_refl _) _)
  have HB0 : Hid (Below W.heap.size W W) := Lib.hid (Below.refl _ _)
  rw [← hW]
  clear hW
  cases hfw : fewB a b c
  · rw [hfw] at HFW
    clear hfw
    go_wp2_with (first
      | (refine wpl_load 23 ?_; refine LoadGoal.of (tabV a b c) rfl (HT.out _ HB0.out) (by kernel_rfl) HTS.out rfl ?_)
      | (go_at_call 7; refine (HFW.out _).mono ?_; rintro e w1 ⟨rfl, hb⟩; have HB1 := hidB HB0 hb; clear hb)
      | (go_at_call 8; refine (HAW.out _).mono ?_; rintro e w2 ⟨rfl, hb⟩; have HB2 := hidB HB1 hb; clear hb))
    go_ret
    exact ⟨rfl, HWB.out.trans (HB2.out.mono HWB.out.size)⟩
  · rw [hfw] at HFW
    by_cases hn : name.length ≤ 1000
    · have hni : (name.length : Int) ≤ 1000 := by omega
      obtain ⟨b1, b2, b3⟩ : a.length ≤ 1000 ∧ b.length ≤ 3000 ∧ c.length ≤ 2000 := by simpa only [fewB, Bool.and_eq_true, decide_eq_true_eq] using hfw
      obtain ⟨R, hR⟩ : ∃ R, R = readF a b := ⟨_, rfl⟩
      have HRD : Hid (∀ w, Calls Tryd.prog 9 #[.agg (tabV a b c)] w (ReadPost R w)) := Lib.hid (fun w => by rw [hR]; exact read_any a b c (by omega) (by omega) w)
      have HRR : Hid (∀ w, Calls Tryd.prog 10 #[.agg (tabV a b c)] w (ReadPost R w)) := Lib.hid (fun w => by rw [hR]; exact rread_any a b c (by omega) (by omega) w)
      obtain ⟨O, hO⟩ : ∃ O, O = findF a b c name := ⟨_, rfl⟩
      have HFD : Hid (∀ w, Calls Tryd.prog 11 #[.agg (tabV a b c), .string (mkB name)] w (FindPost O w)) := Lib.hid (fun w => by rw [hO]; exact find_any a b c name (by omega) (by omega) (by omega) (by omega) w)
      have HFR : Hid (∀ w, Calls Tryd.prog 12 #[.agg (tabV a b c), .string (mkB name)] w (FindPost O w)) := Lib.hid (fun w => by rw [hO]; exact rfind_any a b c name (by omega) (by omega) (by omega) (by omega) w)
      have HH1 : Hid (∀ w, Calls Tryd.prog 14 #[.string (mkB name)] w fun e w' => e = .returned (.int .u32 (hashL name : Nat)) ∧ Below w.heap.size w w') := Lib.hid (fun w => hash_any name (by omega) w)
      have HH2 : Hid (∀ w, Calls Tryd.prog 15 #[.string (mkB name)] w fun e w' => e = .returned (.int .u32 (hashL name : Nat)) ∧ w = w') := Lib.hid (fun w => rhash_any name (by omega) w)
      have hall : AllOk (R.getD []) ∧ (R.getD []).length ≤ 1000000 := by
        cases hr : R with
        | none => exact ⟨fun s hs => (by cases hs), by simp⟩
        | some l => obtain ⟨h1, h2⟩ := readF_ok (hR.symm.trans hr) (by omega); exact ⟨h1, by show l.length ≤ _; omega⟩
      have HALL := Lib.hid hall
      clear hR hO hall hfw hn b1 b2 b3
      go_wp2_with (first
        | (refine wpl_load 23 ?_; refine LoadGoal.of (tabV a b c) rfl (HT.out _ (by first | exact HB4.out | exact HB3.out | exact HB2.out | exact HB1.out | exact HB0.out)) (by kernel_rfl) HTS.out rfl ?_)
        | (go_at_call 7; refine (HFW.out _).mono ?_; rintro e w1 ⟨rfl, hb⟩; have HB1 := hidB HB0 hb; clear hb)
        | (go_at_call 9; refine (HRD.out _).mono ?_; rintro e w2 ⟨v, rfl, hs, hb⟩; have HS2 := Lib.hid hs; have HB2 := hidB HB1 hb; clear hb hs)
        | (go_at_call 10; refine (HRR.out _).mono ?_; rintro e w3 ⟨u, rfl, hs, hb⟩; have HS3 := Lib.hid (And.intro (HS2.out.below hb) hs); have HB3 := hidB HB2 hb; clear hb hs)
        | (go_at_call 11; refine (HFD.out _).mono ?_; rintro e w4 ⟨rfl, hb⟩; have HS4 := Lib.hid (And.intro (HS3.out.1.below hb) (HS3.out.2.below hb)); have HB4 := hidB HB3 hb; clear hb)
        | (go_at_call 12; refine (HFR.out _).mono ?_; rintro e w5 ⟨rfl, hb⟩; have HS5 := Lib.hid (And.intro (HS4.out.1.below hb) (HS4.out.2.below hb)); have HB5 := hidB HB4 hb; clear hb)
        | (go_at_call 13; refine (same_any v u _ _ HALL.out.1 HALL.out.1 HALL.out.2 HALL.out.2 _ HS5.out.1 HS5.out.2).mono ?_; rintro e w6 ⟨rfl, hb⟩; rw [decide_eq_true rfl]; have HB6 := hidB HB5 hb; clear hb)
        | (go_at_call 14; refine (HH1.out _).mono ?_; rintro e w7 ⟨rfl, hb⟩; have HB7 := hidB HB6 hb; clear hb)
        | (go_at_call 15; refine (HH2.out _).mono ?_; rintro e w8 ⟨rfl, rfl⟩)
        | (go_at_call 8; refine (HAW.out _).mono ?_; rintro e w9 ⟨rfl, hb⟩; have HB9 := hidB HB7 hb; clear hb))
      all_goals go_ret
      all_goals exact ⟨rfl, HWB.out.trans (HB9.out.mono HWB.out.size)⟩
    · have hni : (1000 : Int) < (name.length : Int) := by omega
      clear hn hfw
      go_wp2_with (first
        | (refine wpl_load 23 ?_; refine LoadGoal.of (tabV a b c) rfl (HT.out _ HB0.out) (by kernel_rfl) HTS.out rfl ?_)
        | (go_at_call 7; refine (HFW.out _).mono ?_; rintro e w1 ⟨rfl, hb⟩; have HB1 := hidB HB0 hb; clear hb)
        | (go_at_call 8; refine (HAW.out _).mono ?_; rintro e w2 ⟨rfl, hb⟩; have HB2 := hidB HB1 hb; clear hb))
      go_ret
      exact ⟨rfl, HWB.out.trans (HB2.out.mono HWB.out.size)⟩
end Go.Proofs.YtlifdfkconklfaaDoor
