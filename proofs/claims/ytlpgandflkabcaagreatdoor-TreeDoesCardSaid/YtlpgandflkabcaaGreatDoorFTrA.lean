/-
  The library's search for a rune above 127 in the two bytes 0 and slash.
-/
import Derived.Test.YtlpgandflkabcaaGreatDoorFShelfT
import Derived.Test.YtlpgandflkabcaaGreatDoorFTrS
import Derived.Test.YtlpgandflkabcaaGreatDoorFRowN
import Derived.Laws.RangeAny
import Derived.Lib.DecodeN
import Derived.WalkMore
namespace Go.Proofs.YtlpgandflkabcaaGreatDoor
open Go Go.RowKit Go.Shelf
set_option linter.unusedVariables false
set_option linter.unusedSimpArgs false

theorem enc_cases (r : Nat) (h1 : 128 ≤ r) (h2 : Utf8.valid (r : Int) = true) : (∃ a b : UInt8, Utf8.encode (r : Int) = ⟨#[a, b]⟩ ∧ b ≠ 47) ∨ (∃ a b c : UInt8, Utf8.encode (r : Int) = ⟨#[a, b, c]⟩) ∨ (∃ a b c d : UInt8, Utf8.encode (r : Int) = ⟨#[a, b, c, d]⟩) := by
  have n1 : ¬ r < 128 := by omega
  simp only [Utf8.encode, h2, if_true, Int.toNat_natCast, n1, if_false]
  by_cases h3 : r < 2048
  · left
    rw [if_pos h3]
    refine ⟨_, _, rfl, fun e => ?_⟩
    have := congrArg UInt8.toNat e
    simp at this
    omega
  · rw [if_neg h3]
    by_cases h4 : r < 65536
    · rw [if_pos h4]; exact .inr (.inl ⟨_, _, _, rfl⟩)
    · rw [if_neg h4]; exact .inr (.inr ⟨_, _, _, _, rfl⟩)
theorem validRune_any (r : Nat) (w : World) : Calls Tryz.prog 124 #[.int .i32 r] w fun e w' => e = .returned (.bool (Utf8.valid r)) ∧ w' = w := by
  have h0 : (0 : Int) ≤ r := by omega
  by_cases h1 : (r : Int) < 55296
  · have hv : Hid (Utf8.valid r = true) := Lib.hid (by simp [Utf8.valid]; omega)
    go_enter Tryz.func124, Tryz.ntmps124
    go_wp2
    go_ret
    exact ⟨by rw [hv.out]; rfl, rfl⟩
  · by_cases h2 : (57343 : Int) < r
    · by_cases h3 : (r : Int) ≤ 1114111
      · have hv : Hid (Utf8.valid r = true) := Lib.hid (by simp [Utf8.valid]; omega)
        go_enter Tryz.func124, Tryz.ntmps124
        go_wp2
        go_ret
        exact ⟨by rw [hv.out]; rfl, rfl⟩
      · have hv : Hid (Utf8.valid r = false) := Lib.hid (by simp [Utf8.valid]; omega)
        go_enter Tryz.func124, Tryz.ntmps124
        go_wp2
        go_ret
        exact ⟨by rw [hv.out]; rfl, rfl⟩
    · have hv : Hid (Utf8.valid r = false) := Lib.hid (by simp [Utf8.valid]; omega)
      go_enter Tryz.func124, Tryz.ntmps124
      go_wp2
      go_ret
      exact ⟨by rw [hv.out]; rfl, rfl⟩
theorem indexByte_any (s : ByteArray) (c : UInt8) (w : World) : Calls Tryz.prog 123 #[.string s, .int .u8 (c.toNat : Nat)] w fun e w' => e = .returned (.int .i64 (Lib.indexByte s.data.toList c)) ∧ w' = w := by
  have := Any.strings_IndexByte (P := Tryz.prog) (ρ := Tryz.lays152_ren) { Tryz.lays152 with } s (c.toNat : Nat) w
  have e : ((c.toNat : Nat) : Int).toNat.toUInt8 = c := by simp
  rw [e] at this
  exact this
set_option maxHeartbeats 4000000 in
set_option maxRecDepth 1000000 in
theorem rune_high (r : Nat) (h1 : 128 ≤ r) (w : World) :
    Calls Tryz.prog 106 #[.string ⟨#[0, 47]⟩, .int .i32 r] w fun e w' => e = .returned (.int .i64 (-1)) ∧ Below w.heap.size w w' := by
  have n1 : ¬ (r : Int) < 128 := by omega
  have n0 : (0 : Int) ≤ r := by omega
  by_cases h2 : r = 65533
  · subst h2
    have hx0 := fun ty => run_next_ascii (P := Tryz.prog) w ⟨#[0, 47]⟩ 0 ty (by decide) (by decide)
    have hx1 := fun ty => run_next_ascii (P := Tryz.prog) w ⟨#[0, 47]⟩ 1 ty (by decide) (by decide)
    have hx2 := fun ty => run_next_end (P := Tryz.prog) w ⟨#[0, 47]⟩ 2 ty (by decide)
    go_enter Tryz.func106, Tryz.ntmps106
    go_wp2
    go_loopg [5, 6] 2 (fun g _ _ wx => ∃ i : Nat, i + g = 2 ∧ wx = w.iter ⟨#[0, 47]⟩ i)
    case atStart => exact ⟨0, rfl, rfl⟩
    case round =>
      obtain ⟨i, hig, rfl⟩ := hrel
      cases gk with
      | zero =>
        obtain rfl : i = 2 := by omega
        clear hx0 hx1
        go_wp2
        go_ret
        exact ⟨rfl, (Below.refl _ _).alloc (Nat.le_refl _) _⟩
      | succ g =>
        rcases (show i = 0 ∨ i = 1 by omega) with rfl | rfl
        · clear hx1 hx2
          go_wp2
          go_roundg g
          case measure => omega
          case rel => exact ⟨1, by omega, rfl⟩
        · clear hx0 hx2
          go_wp2
          go_roundg g
          case measure => omega
          case rel => exact ⟨2, by omega, rfl⟩
  · have n2 : ((r : Int) == 65533) = false := beq_eq_false_iff_ne.2 (by omega)
    cases hv : Utf8.valid r
    · have HV := Lib.hid hv; clear hv
      go_enter Tryz.func106, Tryz.ntmps106
      go_wp2_with (go_at_call 124; refine (validRune_any r _).mono ?_; rintro e w' ⟨rfl, rfl⟩; rw [HV.out])
      go_ret
      exact ⟨rfl, Below.refl _ _⟩
    · have HV := Lib.hid hv; clear hv
      rcases enc_cases r h1 HV.out with ⟨a, b, he, hb⟩ | ⟨a, b, c, he⟩ | ⟨a, b, c, d, he⟩
      · go_enter Tryz.func106, Tryz.ntmps106
        go_wp2_with (go_at_call 124; refine (validRune_any r _).mono ?_; rintro e w' ⟨rfl, rfl⟩; rw [HV.out])
        have hne : ((47 : Int) == (b.toNat : Int)) = false := beq_eq_false_iff_ne.2 (fun e => hb (UInt8.toNat_inj.1 (by show b.toNat = 47; omega)))
        have HIB : Hid (∀ w, Calls Tryz.prog 123 #[.string ByteArray.empty, .int .u8 (b.toNat : Nat)] w fun e w' => e = .returned (.int .i64 (-1)) ∧ w' = w) := Lib.hid (fun w => (indexByte_any ByteArray.empty b w).mono fun e w' h => h)
        have hnx : ((47 : Int) != (b.toNat : Int)) = true := by rw [bne, hne]; rfl
        clear hb
        go_step3
        go_wp2
        go_loopw [9] (fun iv wr => iv = .int .i64 1 ∧ wr = w') (fun _ _ => 0)
        case atStart => exact ⟨rfl, rfl⟩
        case round =>
          obtain ⟨rfl, rfl⟩ := hrel
          go_wp2
          go_step3
          go_upto_region 6 with fail
          (refine wp_region_grown (by kernel_rfl) (by kernel_rfl) ?_; (repeat (go_big_quiet_step (fail))); refine wpQuiet_nil ?_; intro _ hw'; obtain ⟨sG, hw''⟩ := hw'; subst hw'')
          have hB1 := Lib.hid sG.below
          generalize sG.w = W1 at hB1 ⊢
          clear sG
          have hcx : ((((⟨#[0, 47]⟩ : ByteArray)[1]'(by show 1 < 2; omega)).toNat : Int) != (((⟨#[a, b]⟩ : ByteArray)[1]'(by show 1 < 2; omega)).toNat : Int)) = true := hnx
          go_upto_region 7 with fail
          (refine wp_region_grown (by kernel_rfl) (by kernel_rfl) ?_; (repeat (go_big_quiet_step ((go_at_call 123; exact Calls.grown_same (HIB.out _))))); refine wpQuiet_nil ?_; intro _ hw'; obtain ⟨sG, hw''⟩ := hw'; subst hw'')
          go_wp2
          rw [Exit.noGoto_ret]
          dsimp (config := {zetaDelta := true}) only [Exit.noGoto, Exit.inBlock, Exit.then]
          go_ret
          exact ⟨rfl, hB1.out.trans (sG.below.mono hB1.out.size)⟩
      · go_enter Tryz.func106, Tryz.ntmps106
        go_wp2_with (go_at_call 124; refine (validRune_any r _).mono ?_; rintro e w' ⟨rfl, rfl⟩; rw [HV.out])
        go_step3
        go_wp2
        go_loopw [9] (fun iv wr => iv = .int .i64 2 ∧ wr = w') (fun _ _ => 0)
        case atStart => exact ⟨rfl, rfl⟩
        case round =>
          obtain ⟨rfl, rfl⟩ := hrel
          go_wp2
          (repeat rw [Exit.noGoto_ret])
          go_ret
          exact ⟨rfl, Below.refl _ _⟩
      · go_enter Tryz.func106, Tryz.ntmps106
        go_wp2_with (go_at_call 124; refine (validRune_any r _).mono ?_; rintro e w' ⟨rfl, rfl⟩; rw [HV.out])
        go_step3
        go_wp2
        go_loopw [9] (fun iv wr => iv = .int .i64 3 ∧ wr = w') (fun _ _ => 0)
        case atStart => exact ⟨rfl, rfl⟩
        case round =>
          obtain ⟨rfl, rfl⟩ := hrel
          go_wp2
          (repeat rw [Exit.noGoto_ret])
          go_ret
          exact ⟨rfl, Below.refl _ _⟩
end Go.Proofs.YtlpgandflkabcaaGreatDoor
