/-
  TreeNorms: the walk.
-/
import Derived.Test.YtlpgandflkabcaaDoorFTrV
import Derived.Test.YtlpgandflkabcaaDoorFTrD
namespace Go.Proofs.YtlpgandflkabcaaDoor
open Go Go.RowKit Go.Shelf
set_option linter.unusedVariables false
set_option linter.unusedSimpArgs false

set_option maxRecDepth 100000 in
set_option maxHeartbeats 4000000 in
theorem treeNorms_any (cwd path : List UInt8) (w : World) :
    Calls Tryd.prog 3 #[.string (mkB cwd), .string (mkB path)] w fun e w' => e = .returned (.bool true) ∧ Below w.heap.size w w' := by
  have hz1 := mkB_size cwd
  have hz2 := mkB_size path
  by_cases hg : 600 < cwd.length ∨ 600 < path.length
  · have hgi : (600 : Int) < cwd.length ∨ (600 : Int) < path.length := by omega
    by_cases h1 : 600 < cwd.length
    · have h1i : (600 : Int) < cwd.length := by omega
      clear hg hgi h1
      go_enter Tryd.func3, Tryd.ntmps3
      go_wp2_with (go_at_call 5; refine (awake_any _).mono ?_; rintro e w1 ⟨rfl, hb1⟩; have HB1 := Lib.hid hb1; clear hb1)
      go_ret
      exact ⟨rfl, HB1.out⟩
    · have h1i : ¬ (600 : Int) < cwd.length := by omega
      have h2i : (600 : Int) < path.length := by omega
      clear hg hgi h1
      go_enter Tryd.func3, Tryd.ntmps3
      go_wp2_with (go_at_call 5; refine (awake_any _).mono ?_; rintro e w1 ⟨rfl, hb1⟩; have HB1 := Lib.hid hb1; clear hb1)
      go_ret
      exact ⟨rfl, HB1.out⟩
  · have h1i : ¬ (600 : Int) < cwd.length := by omega
    have h2i : ¬ (600 : Int) < path.length := by omega
    have HNO : Hid (∀ w, Calls Tryd.prog 6 #[.string (mkB cwd), .string (mkB path)] w fun e w' => e = .returned (.tuple #[.string (mkB (normN cwd path).2), .int .i64 (normN cwd path).1]) ∧ Below w.heap.size w w') := Lib.hid (fun w => norm_any cwd path w (by omega) (by omega))
    have hcl : cwd.length ≤ 1000000 := by omega
    clear hg
    obtain ⟨e, s, hes⟩ : ∃ e s, normN cwd path = (e, s) := ⟨_, _, rfl⟩
    rw [hes] at HNO
    by_cases he : e = 0
    · subst he
      obtain ⟨l, hl⟩ := normN_ok hes
      have hsl := hl.len
      obtain ⟨u, t, hu, hst, hrt⟩ := hl.dots
      have hul : u.length ≤ s.length := by rw [hst]; simp
      have HN1 : Hid (∀ w, Calls Tryd.prog 6 #[.string (mkB cwd), .string (mkB s)] w fun e w' => e = .returned (.tuple #[.string (mkB s), .int .i64 0]) ∧ Below w.heap.size w w') := Lib.hid (fun w => by
        have := norm_any cwd s w hcl (by omega)
        rw [hl.again] at this
        exact this)
      have HN2 : Hid (∀ w, Calls Tryd.prog 6 #[.string (mkB s), .string ⟨#[46]⟩] w fun e w' => e = .returned (.tuple #[.string (mkB s), .int .i64 0]) ∧ Below w.heap.size w w') := Lib.hid (fun w => by
        have := norm_any s [46] w (by omega) (by decide)
        rw [hl.dot] at this
        exact this)
      have HN3 : Hid (∀ w, Calls Tryd.prog 6 #[.string (mkB s), .string ⟨#[46, 46]⟩] w fun e w' => e = .returned (.tuple #[.string (mkB u), .int .i64 0]) ∧ Below w.heap.size w w') := Lib.hid (fun w => by
        have := norm_any s [46, 46] w (by omega) (by decide)
        rw [hu] at this
        exact this)
      have HRP : Hid (∀ w, Calls Tryd.prog 7 #[.string (mkB s)] w fun e w' => e = .returned (.bool true) ∧ w' = w) := Lib.hid (fun w => by
        have := rpath_any s w (by omega)
        rw [hl.path] at this
        exact this)
      have hzs := mkB_size s
      have hzu := mkB_size u
      have i1 : (u.length : Int) ≤ (s.length : Int) := by omega
      have i2 : (s.length : Int) ≤ 255 := by omega
      have hx1 : (mkB s).extract 0 u.length = mkB u := by rw [mkB_take, hst, List.take_left]
      have hss : ((mkB s).toList == (mkB s).toList) = true := by simp
      have huu : ((mkB u).toList == (mkB u).toList) = true := by simp
      have hb1 : ((mkB s).toList == [47]) = decide (t = []) := by
        rw [mkB_toList, Bool.eq_iff_iff, beq_iff_eq, decide_eq_true_eq]; exact hrt
      have hb2 : ((mkB u).toList == (mkB s).toList) = decide (t = []) := by
        rw [mkB_toList, mkB_toList, Bool.eq_iff_iff, beq_iff_eq, decide_eq_true_eq, hst]
        constructor
        · intro h
          have := congrArg List.length h
          rw [List.length_append] at this
          exact List.length_eq_zero_iff.1 (by omega)
        · rintro rfl
          simp
      generalize decide (t = []) = b at hb1 hb2
      clear hes hl hsl hst hrt hu hul hcl
      cases b <;>
      ( go_enter Tryd.func3, Tryd.ntmps3
        go_upto_region 6 with (go_at_call 6; refine (HNO.out _).mono ?_; rintro e w1 ⟨rfl, hb1⟩; have HB1 := Lib.hid hb1; clear hb1 HNO)
        go_upto_region 7 with (go_at_call 6; refine (HN1.out _).mono ?_; rintro e w2 ⟨rfl, hb2⟩; have HB2 := Lib.hid (HB1.out.trans (hb2.mono HB1.out.size)); clear hb2 HN1)
        go_upto_region 8 with (go_at_call 6; refine (HN2.out _).mono ?_; rintro e w3 ⟨rfl, hb3⟩; have HB3 := Lib.hid (HB2.out.trans (hb3.mono HB2.out.size)); clear hb3 HN2)
        go_wp2_with (first
          | (go_at_call 6; refine (HN3.out _).mono ?_; rintro e w4 ⟨rfl, hb4⟩; have HB4 := Lib.hid (HB3.out.trans (hb4.mono HB3.out.size)); clear hb4)
          | (go_at_call 7; refine (HRP.out _).mono ?_; rintro e w5 ⟨rfl, rfl⟩)
          | (go_at_call 5; refine (awake_any _).mono ?_; rintro e w6 ⟨rfl, hb6⟩; have HB6 := Lib.hid (HB4.out.trans (hb6.mono HB4.out.size)); clear hb6))
        go_ret
        exact ⟨rfl, HB6.out⟩)
    · obtain rfl := normN_bad hes he
      have hei : ¬ (e = 0) := he
      have hme : (mkB ([] : List UInt8)).toList.isEmpty = true := by rw [mkB_toList]; rfl
      clear hes hcl
      go_enter Tryd.func3, Tryd.ntmps3
      go_wp2_with (first
        | (go_at_call 6; refine (HNO.out _).mono ?_; rintro e w1 ⟨rfl, hb1⟩; have HB1 := Lib.hid hb1; clear hb1)
        | (go_at_call 5; refine (awake_any _).mono ?_; rintro e w6 ⟨rfl, hb6⟩; have HB6 := Lib.hid (HB1.out.trans (hb6.mono HB1.out.size)); clear hb6))
      go_ret
      exact ⟨rfl, HB6.out⟩
end Go.Proofs.YtlpgandflkabcaaDoor
