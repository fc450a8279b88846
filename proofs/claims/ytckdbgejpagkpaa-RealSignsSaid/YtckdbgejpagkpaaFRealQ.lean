/-
  Numbers with a point: the lesser and the greater one, walked.
-/
import Derived.Test.YtckdbgejpagkpaaFRealO
namespace Go.Proofs.Ytckdbgejpagkpaa
open Go Go.RowKit
set_option linter.unusedVariables false
set_option linter.unusedSimpArgs false

theorem pick_ok (a b : Nat) (l : Bool) (na : nanB a = false) (nb : nanB b = false) : pickR a b l = a ∨ pickR a b l = b := by
  unfold pickR
  rw [na, nb]
  simp only [Bool.false_eq_true, if_false]
  repeat' split
  all_goals first | exact .inl rfl | exact .inr rfl
theorem libMin_in (a b : Nat) (ha : a < 18446744073709551616) (hb : b < 18446744073709551616) (na : nanB a = false) (nb : nanB b = false) (w : World) :
    Calls Try.prog 44 #[.float .f64 a, .float .f64 b] w fun e w' => e = .returned (.float .f64 (pickR a b true)) ∧ w = w' := by
  have hr := fun w => pick_run "math.archMin" true 61 a b ha hb na nb w (run_callFunc_extern (e := Extern.MathDim.pick "math.archMin" true .lt) Try.func61 (by kernel_rfl) (by kernel_rfl) (by kernel_rfl) (by kernel_rfl) _ _)
  go_enter Try.func44, Try.ntmps44
  go_wp2
  go_ret
  exact ⟨rfl, rfl⟩
theorem libMax_in (a b : Nat) (ha : a < 18446744073709551616) (hb : b < 18446744073709551616) (na : nanB a = false) (nb : nanB b = false) (w : World) :
    Calls Try.prog 46 #[.float .f64 a, .float .f64 b] w fun e w' => e = .returned (.float .f64 (pickR a b false)) ∧ w = w' := by
  have hr := fun w => pick_run "math.archMax" false 63 a b ha hb na nb w (run_callFunc_extern (e := Extern.MathDim.pick "math.archMax" false .gt) Try.func63 (by kernel_rfl) (by kernel_rfl) (by kernel_rfl) (by kernel_rfl) _ _)
  go_enter Try.func46, Try.ntmps46
  go_wp2
  go_ret
  exact ⟨rfl, rfl⟩
def KeptB (W : World) (x : Bool) (e : Ending) (w' : World) : Prop := e = .returned (.bool x) ∧ Below W.heap.size W w'
theorem asked_kept (W : World) (x : Bool) (e : Ending) (w' : World) (h : Asked (fun w2 => W.alloc (.cells #[.bool false] 4) = w2) W x e w') : KeptB W x e w' := by
  obtain ⟨rfl, w2, rfl, h2⟩ := h
  rcases h2 with ⟨_, rfl⟩ | ⟨_, rfl⟩
  · exact ⟨rfl, ((Below.refl _ W).alloc (Nat.le_refl _) _).setCell (Nat.le_refl _) _⟩
  · exact ⟨rfl, (((Below.refl _ W).alloc (Nat.le_refl _) _).alloc (by simp only [heap_len]; omega) _).setCell (Nat.le_refl _) _⟩
theorem asked_one1 (n : Nat) (p : Addr) (W : World) (hp : W.cell? p = some (.int .u64 n)) (lp : p.block < W.heap.size) :
    Calls Try.prog 40 #[.func (.func 59) #[] #[.pointer (some p)]] W (KeptB W (!nanB n)) := by
  have hnew : (W.alloc (.cells #[.bool false] 4)).cell? ⟨W.heap.size, 0, none⟩ = some (.bool false) := by simp [go_sem]
  have hnz : (W.alloc (.cells #[.bool false] 4)).frozen? ⟨W.heap.size, 0, none⟩ = false := by simp [go_sem]
  have lnew : W.heap.size < (W.alloc (.cells #[.bool false] 4)).heap.size := by simp only [heap_len]; omega
  cases hn : nanB n
  · have h := one1_ok n p hn (W.alloc (.cells #[.bool false] 4)) ((old_cell lp).trans hp)
    refine (asked_ok 59 _ _ W (fun _ => by kernel_rfl) h ?_).mono (asked_kept W true)
    rintro w' rfl
    exact ⟨hnew, hnz⟩
  · have h := one1_nan n p hn (W.alloc (.cells #[.bool false] 4)) ((old_cell lp).trans hp)
    refine (asked_no 59 _ _ W (fun _ => by kernel_rfl) h ?_).mono (asked_kept W false)
    rintro w' rfl
    exact ⟨(old_cell lnew).trans hnew, (old_frozen lnew).trans hnz⟩
theorem asked_one2 (n : Nat) (p : Addr) (W : World) (hp : W.cell? p = some (.int .u64 n)) (lp : p.block < W.heap.size) :
    Calls Try.prog 40 #[.func (.func 60) #[] #[.pointer (some p)]] W (KeptB W (!nanB n)) := by
  have hnew : (W.alloc (.cells #[.bool false] 4)).cell? ⟨W.heap.size, 0, none⟩ = some (.bool false) := by simp [go_sem]
  have hnz : (W.alloc (.cells #[.bool false] 4)).frozen? ⟨W.heap.size, 0, none⟩ = false := by simp [go_sem]
  have lnew : W.heap.size < (W.alloc (.cells #[.bool false] 4)).heap.size := by simp only [heap_len]; omega
  cases hn : nanB n
  · have h := one2_ok n p hn (W.alloc (.cells #[.bool false] 4)) ((old_cell lp).trans hp)
    refine (asked_ok 60 _ _ W (fun _ => by kernel_rfl) h ?_).mono (asked_kept W true)
    rintro w' rfl
    exact ⟨hnew, hnz⟩
  · have h := one2_nan n p hn (W.alloc (.cells #[.bool false] 4)) ((old_cell lp).trans hp)
    refine (asked_no 60 _ _ W (fun _ => by kernel_rfl) h ?_).mono (asked_kept W false)
    rintro w' rfl
    exact ⟨(old_cell lnew).trans hnew, (old_frozen lnew).trans hnz⟩
theorem one_min (a b : Nat) (ha : a < 18446744073709551616) (hb : b < 18446744073709551616) (w : World) :
    Calls Try.prog 43 #[.int .u64 a, .int .u64 b, .func (.func 44) #[] #[]] w fun e w' => e = .returned (.int .u64 (pickR a b true)) ∧ Below w.heap.size w w' := by
  have hmf : ∀ (fn : Fn) (first cap : Array Value) (w : World), (Instr.makeFunc fn first cap).run Try.prog w = .ok (.func fn first cap) w := fun _ _ _ _ => rfl
  have hB0 : Hid (Below w.heap.size w ((w.alloc (.cells #[.int .u64 a] 22)).alloc (.cells #[.int .u64 b] 22))) := Lib.hid (((Below.refl _ w).alloc (Nat.le_refl _) _).alloc (by simp only [heap_len]; omega) _)
  have hp := pick_ok a b true
  have hq : pickR a b true = if nanB a then canon b else if nanB b then a else pickR a b true := by
    unfold pickR canon
    cases nanB a <;> cases nanB b <;> simp
  cases na : nanB a
  · cases nb : nanB b
    · have hcp : canon (pickR a b true) = pickR a b true := by
        refine canon_of ?_
        rcases hp na nb with e | e <;> rw [e] <;> assumption
      have HCP := Lib.hid hcp
      clear hp hq hcp
      go_enter Try.func43, Try.ntmps43
      go_wp2_with fail
      refine (asked_one1 a ⟨w.heap.size, 0, none⟩ _ (by simp [go_sem]) (by simp only [heap_len]; omega)).mono ?_
      rintro e w1 ⟨rfl, h1⟩
      rw [na]
      have c1 : w1.cell? ⟨w.heap.size, 0, none⟩ = some (.int .u64 a) := (h1.cell (p := ⟨w.heap.size, 0, none⟩) (by simp only [heap_len]; omega)).trans (by simp [go_sem])
      have c2 : w1.cell? ⟨w.heap.size + 1, 0, none⟩ = some (.int .u64 b) := (h1.cell (p := ⟨w.heap.size + 1, 0, none⟩) (by simp only [heap_len]; omega)).trans (by simp [go_sem])
      have hz1 : w.heap.size + 1 < w1.heap.size := by have := h1.size; simp only [heap_len] at this; omega
      have hB1 : Hid (Below w.heap.size w w1) := Lib.hid (hB0.out.trans (h1.mono (by simp only [heap_len]; omega)))
      clear h1 hB0
      go_wp2_with fail
      refine (asked_one2 b ⟨w.heap.size + 1, 0, none⟩ _ c2 hz1).mono ?_
      rintro e w2 ⟨rfl, h2⟩
      rw [nb]
      have d1 : w2.cell? ⟨w.heap.size, 0, none⟩ = some (.int .u64 a) := (h2.cell (p := ⟨w.heap.size, 0, none⟩) (by show w.heap.size < w1.heap.size; omega)).trans c1
      have d2 : w2.cell? ⟨w.heap.size + 1, 0, none⟩ = some (.int .u64 b) := (h2.cell (p := ⟨w.heap.size + 1, 0, none⟩) hz1).trans c2
      have hB2 : Hid (Below w.heap.size w w2) := Lib.hid (hB1.out.trans (h2.mono (by omega)))
      clear h2 hB1 c1 c2 hz1
      go_wp2_with fail
      go_quiet ((first
        | (go_at_call 31; exact Calls.quiet_of_same ((point_in _ _).mono fun _ _ h => ⟨h.1, h.2.symm⟩))
        | (go_at_call 44; exact Calls.quiet_of_same ((libMin_in _ _ ha hb na nb _).mono fun _ _ h => ⟨h.1, h.2.symm⟩))
        | (go_at_call 36; exact Calls.quiet_of_same ((bits_in _ _).mono fun _ _ h => ⟨h.1, h.2.symm⟩))))
      go_wp2_with fail
      go_ret
      exact ⟨ret_int (by rw [HCP.out]), below_drw hB2.out _⟩
    · have hq' : pickR a b true = a := by rw [hq, na, nb]; rfl
      have HQ := Lib.hid hq'
      clear hp hq hq'
      go_enter Try.func43, Try.ntmps43
      go_wp2_with fail
      refine (asked_one1 a ⟨w.heap.size, 0, none⟩ _ (by simp [go_sem]) (by simp only [heap_len]; omega)).mono ?_
      rintro e w1 ⟨rfl, h1⟩
      rw [na]
      have c1 : w1.cell? ⟨w.heap.size, 0, none⟩ = some (.int .u64 a) := (h1.cell (p := ⟨w.heap.size, 0, none⟩) (by simp only [heap_len]; omega)).trans (by simp [go_sem])
      have c2 : w1.cell? ⟨w.heap.size + 1, 0, none⟩ = some (.int .u64 b) := (h1.cell (p := ⟨w.heap.size + 1, 0, none⟩) (by simp only [heap_len]; omega)).trans (by simp [go_sem])
      have hz1 : w.heap.size + 1 < w1.heap.size := by have := h1.size; simp only [heap_len] at this; omega
      have hB1 : Hid (Below w.heap.size w w1) := Lib.hid (hB0.out.trans (h1.mono (by simp only [heap_len]; omega)))
      clear h1 hB0
      go_wp2_with fail
      refine (asked_one2 b ⟨w.heap.size + 1, 0, none⟩ _ c2 hz1).mono ?_
      rintro e w2 ⟨rfl, h2⟩
      rw [nb]
      have d1 : w2.cell? ⟨w.heap.size, 0, none⟩ = some (.int .u64 a) := (h2.cell (p := ⟨w.heap.size, 0, none⟩) (by show w.heap.size < w1.heap.size; omega)).trans c1
      have hB2 : Hid (Below w.heap.size w w2) := Lib.hid (hB1.out.trans (h2.mono (by omega)))
      clear h2 hB1 c1 c2 hz1
      go_wp2_with fail
      go_ret
      exact ⟨ret_int (by rw [HQ.out]), hB2.out⟩
  · have hq' : pickR a b true = canon b := by rw [hq, na]; rfl
    have HQ := Lib.hid hq'
    clear hp hq hq'
    go_enter Try.func43, Try.ntmps43
    go_wp2_with fail
    refine (asked_one1 a ⟨w.heap.size, 0, none⟩ _ (by simp [go_sem]) (by simp only [heap_len]; omega)).mono ?_
    rintro e w1 ⟨rfl, h1⟩
    rw [na]
    have c2 : w1.cell? ⟨w.heap.size + 1, 0, none⟩ = some (.int .u64 b) := (h1.cell (p := ⟨w.heap.size + 1, 0, none⟩) (by simp only [heap_len]; omega)).trans (by simp [go_sem])
    have hB1 : Hid (Below w.heap.size w w1) := Lib.hid (hB0.out.trans (h1.mono (by simp only [heap_len]; omega)))
    clear h1 hB0
    go_wp2_with (first
      | (go_at_call 31; refine (point_in _ _).mono ?_; rintro e w' ⟨rfl, rfl⟩)
      | (go_at_call 36; refine (bits_in _ _).mono ?_; rintro e w' ⟨rfl, rfl⟩))
    go_ret
    exact ⟨ret_int (by rw [HQ.out]), hB1.out⟩
theorem min_in (a b : Nat) (ha : a < 18446744073709551616) (hb : b < 18446744073709551616) (w : World) :
    Calls Try.prog 23 #[.int .u64 a, .int .u64 b] w fun e w' => e = .returned (.int .u64 (pickR a b true)) ∧ Below w.heap.size w w' := by
  go_enter Try.func23, Try.ntmps23
  go_wp2_with (go_at_call 43; refine (one_min _ _ ha hb _).mono ?_; rintro e w' ⟨rfl, hB⟩; have HB := Lib.hid hB; clear hB)
  go_ret
  exact ⟨rfl, HB.out⟩
theorem one_max (a b : Nat) (ha : a < 18446744073709551616) (hb : b < 18446744073709551616) (w : World) :
    Calls Try.prog 43 #[.int .u64 a, .int .u64 b, .func (.func 46) #[] #[]] w fun e w' => e = .returned (.int .u64 (pickR a b false)) ∧ Below w.heap.size w w' := by
  have hmf : ∀ (fn : Fn) (first cap : Array Value) (w : World), (Instr.makeFunc fn first cap).run Try.prog w = .ok (.func fn first cap) w := fun _ _ _ _ => rfl
  have hB0 : Hid (Below w.heap.size w ((w.alloc (.cells #[.int .u64 a] 22)).alloc (.cells #[.int .u64 b] 22))) := Lib.hid (((Below.refl _ w).alloc (Nat.le_refl _) _).alloc (by simp only [heap_len]; omega) _)
  have hp := pick_ok a b false
  have hq : pickR a b false = if nanB a then canon b else if nanB b then a else pickR a b false := by
    unfold pickR canon
    cases nanB a <;> cases nanB b <;> simp
  cases na : nanB a
  · cases nb : nanB b
    · have hcp : canon (pickR a b false) = pickR a b false := by
        refine canon_of ?_
        rcases hp na nb with e | e <;> rw [e] <;> assumption
      have HCP := Lib.hid hcp
      clear hp hq hcp
      go_enter Try.func43, Try.ntmps43
      go_wp2_with fail
      refine (asked_one1 a ⟨w.heap.size, 0, none⟩ _ (by simp [go_sem]) (by simp only [heap_len]; omega)).mono ?_
      rintro e w1 ⟨rfl, h1⟩
      rw [na]
      have c1 : w1.cell? ⟨w.heap.size, 0, none⟩ = some (.int .u64 a) := (h1.cell (p := ⟨w.heap.size, 0, none⟩) (by simp only [heap_len]; omega)).trans (by simp [go_sem])
      have c2 : w1.cell? ⟨w.heap.size + 1, 0, none⟩ = some (.int .u64 b) := (h1.cell (p := ⟨w.heap.size + 1, 0, none⟩) (by simp only [heap_len]; omega)).trans (by simp [go_sem])
      have hz1 : w.heap.size + 1 < w1.heap.size := by have := h1.size; simp only [heap_len] at this; omega
      have hB1 : Hid (Below w.heap.size w w1) := Lib.hid (hB0.out.trans (h1.mono (by simp only [heap_len]; omega)))
      clear h1 hB0
      go_wp2_with fail
      refine (asked_one2 b ⟨w.heap.size + 1, 0, none⟩ _ c2 hz1).mono ?_
      rintro e w2 ⟨rfl, h2⟩
      rw [nb]
      have d1 : w2.cell? ⟨w.heap.size, 0, none⟩ = some (.int .u64 a) := (h2.cell (p := ⟨w.heap.size, 0, none⟩) (by show w.heap.size < w1.heap.size; omega)).trans c1
      have d2 : w2.cell? ⟨w.heap.size + 1, 0, none⟩ = some (.int .u64 b) := (h2.cell (p := ⟨w.heap.size + 1, 0, none⟩) hz1).trans c2
      have hB2 : Hid (Below w.heap.size w w2) := Lib.hid (hB1.out.trans (h2.mono (by omega)))
      clear h2 hB1 c1 c2 hz1
      go_wp2_with fail
      go_quiet ((first
        | (go_at_call 31; exact Calls.quiet_of_same ((point_in _ _).mono fun _ _ h => ⟨h.1, h.2.symm⟩))
        | (go_at_call 46; exact Calls.quiet_of_same ((libMax_in _ _ ha hb na nb _).mono fun _ _ h => ⟨h.1, h.2.symm⟩))
        | (go_at_call 36; exact Calls.quiet_of_same ((bits_in _ _).mono fun _ _ h => ⟨h.1, h.2.symm⟩))))
      go_wp2_with fail
      go_ret
      exact ⟨ret_int (by rw [HCP.out]), below_drw hB2.out _⟩
    · have hq' : pickR a b false = a := by rw [hq, na, nb]; rfl
      have HQ := Lib.hid hq'
      clear hp hq hq'
      go_enter Try.func43, Try.ntmps43
      go_wp2_with fail
      refine (asked_one1 a ⟨w.heap.size, 0, none⟩ _ (by simp [go_sem]) (by simp only [heap_len]; omega)).mono ?_
      rintro e w1 ⟨rfl, h1⟩
      rw [na]
      have c1 : w1.cell? ⟨w.heap.size, 0, none⟩ = some (.int .u64 a) := (h1.cell (p := ⟨w.heap.size, 0, none⟩) (by simp only [heap_len]; omega)).trans (by simp [go_sem])
      have c2 : w1.cell? ⟨w.heap.size + 1, 0, none⟩ = some (.int .u64 b) := (h1.cell (p := ⟨w.heap.size + 1, 0, none⟩) (by simp only [heap_len]; omega)).trans (by simp [go_sem])
      have hz1 : w.heap.size + 1 < w1.heap.size := by have := h1.size; simp only [heap_len] at this; omega
      have hB1 : Hid (Below w.heap.size w w1) := Lib.hid (hB0.out.trans (h1.mono (by simp only [heap_len]; omega)))
      clear h1 hB0
      go_wp2_with fail
      refine (asked_one2 b ⟨w.heap.size + 1, 0, none⟩ _ c2 hz1).mono ?_
      rintro e w2 ⟨rfl, h2⟩
      rw [nb]
      have d1 : w2.cell? ⟨w.heap.size, 0, none⟩ = some (.int .u64 a) := (h2.cell (p := ⟨w.heap.size, 0, none⟩) (by show w.heap.size < w1.heap.size; omega)).trans c1
      have hB2 : Hid (Below w.heap.size w w2) := Lib.hid (hB1.out.trans (h2.mono (by omega)))
      clear h2 hB1 c1 c2 hz1
      go_wp2_with fail
      go_ret
      exact ⟨ret_int (by rw [HQ.out]), hB2.out⟩
  · have hq' : pickR a b false = canon b := by rw [hq, na]; rfl
    have HQ := Lib.hid hq'
    clear hp hq hq'
    go_enter Try.func43, Try.ntmps43
    go_wp2_with fail
    refine (asked_one1 a ⟨w.heap.size, 0, none⟩ _ (by simp [go_sem]) (by simp only [heap_len]; omega)).mono ?_
    rintro e w1 ⟨rfl, h1⟩
    rw [na]
    have c2 : w1.cell? ⟨w.heap.size + 1, 0, none⟩ = some (.int .u64 b) := (h1.cell (p := ⟨w.heap.size + 1, 0, none⟩) (by simp only [heap_len]; omega)).trans (by simp [go_sem])
    have hB1 : Hid (Below w.heap.size w w1) := Lib.hid (hB0.out.trans (h1.mono (by simp only [heap_len]; omega)))
    clear h1 hB0
    go_wp2_with (first
      | (go_at_call 31; refine (point_in _ _).mono ?_; rintro e w' ⟨rfl, rfl⟩)
      | (go_at_call 36; refine (bits_in _ _).mono ?_; rintro e w' ⟨rfl, rfl⟩))
    go_ret
    exact ⟨ret_int (by rw [HQ.out]), hB1.out⟩
theorem max_in (a b : Nat) (ha : a < 18446744073709551616) (hb : b < 18446744073709551616) (w : World) :
    Calls Try.prog 25 #[.int .u64 a, .int .u64 b] w fun e w' => e = .returned (.int .u64 (pickR a b false)) ∧ Below w.heap.size w w' := by
  go_enter Try.func25, Try.ntmps25
  go_wp2_with (go_at_call 43; refine (one_max _ _ ha hb _).mono ?_; rintro e w' ⟨rfl, hB⟩; have HB := Lib.hid hB; clear hB)
  go_ret
  exact ⟨rfl, HB.out⟩
end Go.Proofs.Ytckdbgejpagkpaa
