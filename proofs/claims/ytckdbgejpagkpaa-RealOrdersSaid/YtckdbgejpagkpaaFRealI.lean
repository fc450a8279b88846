/-
  Numbers with a point: real's own way to a whole number, whole numbers of 32 bits, walked.
-/
import Derived.Test.YtckdbgejpagkpaaFRealH
namespace Go.Proofs.Ytckdbgejpagkpaa
open Go Go.RowKit
set_option linter.unusedVariables false
set_option linter.unusedSimpArgs false

theorem word_rung (s : Bool) (r : Nat) (h : r < 9223372036854775808) : rung (Ieee.double.word s r) = r := by
  have hs : Ieee.double.signWeight = 9223372036854775808 := by decide
  unfold Ieee.Format.word rung
  rw [hs]
  split <;> omega
theorem write_nanB (d : Ieee.Datum) (h : d.isNaN = false) : nanB (Ieee.double.write d) = false := by
  have hi : Ieee.double.infRung = 9218868437227405312 := by decide
  cases d with
  | nan s f => simp [Ieee.Datum.isNaN] at h
  | infinity s =>
    show nanB (Ieee.double.word s Ieee.double.infRung) = false
    unfold nanB
    rw [hi, word_rung _ _ (by omega)]
    simp
  | number s m p =>
    show nanB (Ieee.double.nearest s m p) = false
    unfold nanB Ieee.Format.nearest
    split
    · rw [word_rung _ _ (by omega)]; simp
    · dsimp only
      rw [hi, word_rung _ _ (by omega)]
      simp only [decide_eq_false_iff_not]
      omega
theorem integral_nan (d : Ieee.Datum) (t : Ieee.Toward) (h : d.isNaN = false) : (d.integral t).isNaN = false := by
  cases d <;> simp_all [Ieee.Datum.isNaN, Ieee.Datum.integral]
theorem read_isNaN {a : Nat} (h : nanB a = false) : (Ieee.double.read a).isNaN = false := by
  have hle := of_decide_eq_false h
  by_cases c : rung a = 9218868437227405312
  · rw [read_inf c]; rfl
  · rw [read_number (by omega)]; rfl
theorem cutR_nanB {a : Nat} (h : nanB a = false) (t : Ieee.Toward) : nanB (cutR t a) = false := write_nanB _ (integral_nan _ _ (read_isNaN h))
theorem canon_of {a : Nat} (h : nanB a = false) : canon a = a := by unfold canon; rw [h]; rfl
/-- A number cut; of none the quiet one. -/
def cutC (t : Ieee.Toward) (a : Nat) : Nat := if nanB a then 9221120237041090560 else cutR t a
theorem quiet_lt (t : Nat) (h : t < 4503599627370496) : 2251799813685248 ≤ t ||| 2251799813685248 ∧ t ||| 2251799813685248 < 4503599627370496 :=
  ⟨Nat.right_le_or, Nat.or_lt_two_pow (n := 52) (by simpa using h) (by decide)⟩
/-- What the library's cut asks, by what the word stands for. -/
def askCut (t : Ieee.Toward) (a : Nat) (d : Ieee.Datum) : Sem Value :=
  match d with
  | .nan s u => if FloatKind.f64.format.quiet u = u then pure (.float .f64 a) else
      choose (.extern "math.Floor,Ceil,Trunc,RoundToEven.signallingNaN kept" 2) >>= fun k => pure (.float .f64 (if k == 1 then a else FloatKind.f64.encode (.nan s (FloatKind.f64.format.quiet u))))
  | .infinity s => pure (.float .f64 (FloatKind.f64.encode (Ieee.Datum.integral t (.infinity s))))
  | .number s m p => pure (.float .f64 (FloatKind.f64.encode (Ieee.Datum.integral t (.number s m p))))
theorem askCut_is (name : String) (t : Ieee.Toward) (a : Nat) : Extern.MathFloor.toIntegral name t #[.float .f64 a] = askCut t a (Ieee.double.read a) := by
  have : ∀ d, askCut t a d = (match d with
      | .nan s u => if FloatKind.f64.format.quiet u = u then pure (.float .f64 a) else
          choose (.extern "math.Floor,Ceil,Trunc,RoundToEven.signallingNaN kept" 2) >>= fun k => pure (.float .f64 (if k == 1 then a else FloatKind.f64.encode (.nan s (FloatKind.f64.format.quiet u))))
      | d => pure (.float .f64 (FloatKind.f64.encode (d.integral t)))) := by
    intro d
    cases d <;> rfl
  exact (this (FloatKind.f64.decode a)).symm
theorem integral_run (name : String) (t : Ieee.Toward) (f : FuncId) (w : World) (a : Nat)
    (hc : ∀ w, (callFunc f #[.float .f64 a]).run Try.prog w = ((Extern.MathFloor.toIntegral name t #[.float .f64 a]).run Try.prog w).andThen fun v w' => .ok (.value v) w') :
    ∃ r n, (callFunc f #[.float .f64 a]).run Try.prog w = .ok (.value (.float .f64 r)) (w.drewN n) ∧ canon r = cutC t a := by
  cases h : nanB a
  · refine ⟨cutR t a, 0, ?_, ?_⟩
    · rw [hc]
      have hn := read_isNaN h
      have hd : FloatKind.f64.decode a = Ieee.double.read a := rfl
      rw [askCut_is]
      cases e : Ieee.double.read a with
      | nan s f => rw [e] at hn; simp [Ieee.Datum.isNaN] at hn
      | infinity s => simp only [cutR, e]; rfl
      | number s m p => simp only [cutR, e]; rfl
    · rw [canon_of (cutR_nanB h t)]; unfold cutC; rw [h]; rfl
  · have hq : cutC t a = 9221120237041090560 := by unfold cutC; rw [h]; rfl
    have hx : canon a = 9221120237041090560 := by unfold canon; rw [h]; rfl
    have hn := read_nan (of_decide_eq_true h)
    have hd : FloatKind.f64.decode a = Ieee.double.read a := rfl
    have hs : Ieee.double.signWeight = 9223372036854775808 := by decide
    have hi : Ieee.double.infRung = 9218868437227405312 := by decide
    have hb : Ieee.double.binade = 4503599627370496 := by decide
    have hcall : ∀ w, (callFunc f #[.float .f64 a]).run Try.prog w = ((Extern.MathFloor.toIntegral name t #[.float .f64 a]).run Try.prog w).andThen fun v w' => .ok (.value v) w' := hc
    cases e : Ieee.double.read a with
    | infinity s => rw [e] at hn; simp [Ieee.Datum.isNaN] at hn
    | number s m p => rw [e] at hn; simp [Ieee.Datum.isNaN] at hn
    | nan s u =>
      by_cases g : FloatKind.f64.format.quiet u = u
      · refine ⟨a, 0, ?_, by rw [hx, hq]⟩
        rw [hc]
        rw [askCut_is, e]
        simp only [askCut, g, if_true]
        rfl
      · have hw : canon (FloatKind.f64.encode (.nan s (FloatKind.f64.format.quiet u))) = 9221120237041090560 := by
          have e2 : FloatKind.f64.encode (.nan s (FloatKind.f64.format.quiet u)) = Ieee.double.word s (9218868437227405312 + (u ||| 2251799813685248) % 4503599627370496) := by
            show Ieee.double.word s (Ieee.double.infRung + Ieee.double.quiet u % Ieee.double.binade) = _
            rw [hi, hb]; rfl
          have hu : u < 4503599627370496 := by
            have := e
            unfold Ieee.Format.read at this
            simp only [hb, hi, hs] at this
            split at this
            · cases this
            · split at this
              · cases this
              · split at this
                · cases this
                · have k := Ieee.Datum.nan.inj this
                  omega
          have q := quiet_lt u hu
          have hnb : nanB (FloatKind.f64.encode (.nan s (FloatKind.f64.format.quiet u))) = true := by
            unfold nanB
            rw [e2, Nat.mod_eq_of_lt q.2, word_rung _ _ (by omega)]
            exact decide_eq_true (by omega)
          unfold canon; rw [hnb]; rfl
        have hrun : (Extern.MathFloor.toIntegral name t #[.float .f64 a]).run Try.prog w =
            .ok (.float .f64 (if (Question.extern "math.Floor,Ceil,Trunc,RoundToEven.signallingNaN kept" 2).cut (w.tape w.drawn (.extern "math.Floor,Ceil,Trunc,RoundToEven.signallingNaN kept" 2)) == 1 then a else FloatKind.f64.encode (.nan s (FloatKind.f64.format.quiet u)))) w.drew := by
          rw [askCut_is, e]
          simp only [askCut, g, if_false]
          simp [Question.forced]
        refine ⟨_, 1, (hc w).trans (by rw [hrun]; rfl), ?_⟩
        split
        · rw [hx, hq]
        · rw [hw, hq]
theorem trunc_run (w : World) (a : Nat) : ∃ r n, (callFunc 52 #[.float .f64 a]).run Try.prog w = .ok (.value (.float .f64 r)) (w.drewN n) ∧ canon r = cutC .zero a :=
  integral_run "math.archTrunc" .zero _ w a fun w => run_callFunc_extern (e := Extern.MathFloor.toIntegral "math.archTrunc" .zero) Try.func52 (by kernel_rfl) (by kernel_rfl) (by kernel_rfl) (by kernel_rfl) _ _
theorem floor_run (w : World) (a : Nat) : ∃ r n, (callFunc 54 #[.float .f64 a]).run Try.prog w = .ok (.value (.float .f64 r)) (w.drewN n) ∧ canon r = cutC .down a :=
  integral_run "math.archFloor" .down _ w a fun w => run_callFunc_extern (e := Extern.MathFloor.toIntegral "math.archFloor" .down) Try.func54 (by kernel_rfl) (by kernel_rfl) (by kernel_rfl) (by kernel_rfl) _ _
theorem ceil_run (w : World) (a : Nat) : ∃ r n, (callFunc 56 #[.float .f64 a]).run Try.prog w = .ok (.value (.float .f64 r)) (w.drewN n) ∧ canon r = cutC .up a :=
  integral_run "math.archCeil" .up _ w a fun w => run_callFunc_extern (e := Extern.MathFloor.toIntegral "math.archCeil" .up) Try.func56 (by kernel_rfl) (by kernel_rfl) (by kernel_rfl) (by kernel_rfl) _ _
theorem even_run (w : World) (a : Nat) : ∃ r n, (callFunc 35 #[.float .f64 a]).run Try.prog w = .ok (.value (.float .f64 r)) (w.drewN n) ∧ canon r = cutC .even a :=
  integral_run "math.RoundToEven" .even _ w a fun w => run_callFunc_extern (e := Extern.MathFloor.toIntegral "math.RoundToEven" .even) Try.func35 (by kernel_rfl) (by kernel_rfl) (by kernel_rfl) (by kernel_rfl) _ _
def CutTo (t : Ieee.Toward) (a : Nat) (w : World) (e : Ending) (w' : World) : Prop := ∃ r n, e = .returned (.float .f64 r) ∧ w' = w.drewN n ∧ canon r = cutC t a
theorem trunc_in (a : Nat) (w : World) : Calls Try.prog 32 #[.float .f64 a] w (CutTo .zero a w) := by
  obtain ⟨r, n, hr, hc⟩ := trunc_run w a
  have HC := Lib.hid hc; clear hc
  go_enter Try.func32, Try.ntmps32
  go_wp2
  go_ret
  exact ⟨r, n, rfl, rfl, HC.out⟩
theorem floor_in (a : Nat) (w : World) : Calls Try.prog 33 #[.float .f64 a] w (CutTo .down a w) := by
  obtain ⟨r, n, hr, hc⟩ := floor_run w a
  have HC := Lib.hid hc; clear hc
  go_enter Try.func33, Try.ntmps33
  go_wp2
  go_ret
  exact ⟨r, n, rfl, rfl, HC.out⟩
theorem ceil_in (a : Nat) (w : World) : Calls Try.prog 34 #[.float .f64 a] w (CutTo .up a w) := by
  obtain ⟨r, n, hr, hc⟩ := ceil_run w a
  have HC := Lib.hid hc; clear hc
  go_enter Try.func34, Try.ntmps34
  go_wp2
  go_ret
  exact ⟨r, n, rfl, rfl, HC.out⟩
theorem roundD_way (a : Nat) (k : Int) (h : k = 0 ∨ k = 1 ∨ k = 2 ∨ k = 3) : roundD a k = cutC (wayOf k) a := by
  unfold roundD cutC
  rw [if_neg (show ¬ (k < 0 ∨ 3 < k) by omega)]
theorem roundD_out (a : Nat) (k : Int) (h : k < 0 ∨ 3 < k) : roundD a k = canon a := by
  unfold roundD canon
  rw [if_pos h]
theorem round_in (a : Nat) (way : Int) (w : World) :
    Calls Try.prog 12 #[.int .u64 a, .int .i64 way] w fun e w' => e = .returned (.int .u64 (roundD a way)) ∧ ∃ n, w' = w.drewN n := by
  by_cases hw : way < 0 ∨ 3 < way
  · rw [roundD_out a way hw]
    have w0 : (way == 0) = false := by simp; omega
    have w1 : (way == 1) = false := by simp; omega
    have w2 : (way == 2) = false := by simp; omega
    have w3 : (way == 3) = false := by simp; omega
    clear hw
    go_enter Try.func12, Try.ntmps12
    go_wp2_with (first
      | (go_at_call 31; refine (point_in _ _).mono ?_; rintro e w' ⟨rfl, rfl⟩)
      | (go_at_call 36; refine (bits_in _ _).mono ?_; rintro e w' ⟨rfl, rfl⟩))
    go_ret
    exact ⟨rfl, 0, rfl⟩
  · have hk : way = 0 ∨ way = 1 ∨ way = 2 ∨ way = 3 := by omega
    rw [roundD_way a way hk]
    clear hw
    rcases hk with rfl | rfl | rfl | rfl
    · go_enter Try.func12, Try.ntmps12
      go_wp2_with (first
        | (go_at_call 31; refine (point_in _ _).mono ?_; rintro e w' ⟨rfl, rfl⟩)
        | (go_at_call 32; refine (trunc_in _ _).mono ?_; rintro e w' ⟨r, n, rfl, rfl, hc⟩; have HC := Lib.hid hc; clear hc)
        | (go_at_call 36; refine (bits_in _ _).mono ?_; rintro e w' ⟨rfl, rfl⟩; rw [HC.out]))
      go_ret
      exact ⟨rfl, _, rfl⟩
    · go_enter Try.func12, Try.ntmps12
      go_wp2_with (first
        | (go_at_call 31; refine (point_in _ _).mono ?_; rintro e w' ⟨rfl, rfl⟩)
        | (go_at_call 33; refine (floor_in _ _).mono ?_; rintro e w' ⟨r, n, rfl, rfl, hc⟩; have HC := Lib.hid hc; clear hc)
        | (go_at_call 36; refine (bits_in _ _).mono ?_; rintro e w' ⟨rfl, rfl⟩; rw [HC.out]))
      go_ret
      exact ⟨rfl, _, rfl⟩
    · go_enter Try.func12, Try.ntmps12
      go_wp2_with (first
        | (go_at_call 31; refine (point_in _ _).mono ?_; rintro e w' ⟨rfl, rfl⟩)
        | (go_at_call 34; refine (ceil_in _ _).mono ?_; rintro e w' ⟨r, n, rfl, rfl, hc⟩; have HC := Lib.hid hc; clear hc)
        | (go_at_call 36; refine (bits_in _ _).mono ?_; rintro e w' ⟨rfl, rfl⟩; rw [HC.out]))
      go_ret
      exact ⟨rfl, _, rfl⟩
    · obtain ⟨r, n, hr, hc⟩ := even_run w a
      have HC := Lib.hid hc; clear hc
      go_enter Try.func12, Try.ntmps12
      go_wp2_with (first
        | (go_at_call 31; refine (point_in _ _).mono ?_; rintro e w' ⟨rfl, rfl⟩)
        | (go_at_call 36; refine (bits_in _ _).mono ?_; rintro e w' ⟨rfl, rfl⟩; rw [HC.out]))
      go_ret
      exact ⟨rfl, _, rfl⟩
end Go.Proofs.Ytckdbgejpagkpaa
