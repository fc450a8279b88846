/-
  Numbers with a point: the lesser and the greater one.
-/
import Derived.Test.YtckdbgejpagkpaaFRealN
namespace Go.Proofs.Ytckdbgejpagkpaa
open Go Go.RowKit
set_option linter.unusedVariables false
set_option linter.unusedSimpArgs false

theorem word_inj {a b : Nat} (ha : a < 18446744073709551616) (hb : b < 18446744073709551616) (hs : sgn a = sgn b) (hr : rung a = rung b) : a = b := by
  rw [← word_is ha, ← word_is hb, hs, hr]
theorem read_zero {a : Nat} (h : nanB a = false) : (Ieee.double.read a).isZero = decide (rung a = 0) := by
  have hle := of_decide_eq_false h
  by_cases c : rung a = 9218868437227405312
  · rw [read_inf c, c]; rfl
  · rw [read_number (by omega)]
    unfold Ieee.Datum.isZero
    by_cases z : rung a = 0
    · rw [z]; rfl
    · have hm : mant (rung a) ≠ 0 := by unfold mant; split <;> omega
      rw [decide_eq_false z]
      split
      · rename_i e; injection e with _ e2 _; exact absurd e2 hm
      · rfl
theorem read_neg {a : Nat} (h : nanB a = false) : (Ieee.double.read a).neg = sgn a := by
  have hle := of_decide_eq_false h
  by_cases c : rung a = 9218868437227405312
  · rw [read_inf c]; rfl
  · rw [read_number (by omega)]; rfl
theorem read_infB {a : Nat} (h : nanB a = false) (s : Bool) : (Ieee.double.read a == .infinity s) = (infB a && (sgn a == s)) := by
  have hle := of_decide_eq_false h
  by_cases c : rung a = 9218868437227405312
  · rw [read_inf c, show infB a = true from decide_eq_true c]
    cases sgn a <;> cases s <;> rfl
  · rw [read_number (by omega), show infB a = false from decide_eq_false c]
    rfl
/-- The library's pick of two numbers is the document's. -/
def libPick (a b : Nat) (l : Bool) : Nat :=
  if (infB a && (sgn a == l)) || (infB b && (sgn b == l)) then Ieee.double.word l 9218868437227405312
  else if decide (rung a = 0) && decide (rung b = 0) then (if sgn a == l then a else b)
  else if (cmpR a b == (if l then -1 else 1)) then a else b
theorem rank_zero_eq {a b : Nat} (h : rank a = rank b) (h0 : ¬ (rung a = 0 ∧ rung b = 0)) : sgn a = sgn b ∧ rung a = rung b := by
  unfold rank at h
  generalize rung a = x at *
  generalize rung b = y at *
  generalize sgn a = s at *
  generalize sgn b = t at *
  cases s <;> cases t
  · exact ⟨rfl, by have k : (x : Int) = y := h; omega⟩
  · exfalso; have k : (x : Int) = -y := h; omega
  · exfalso; have k : -(x : Int) = y := h; omega
  · exact ⟨rfl, by have k : -(x : Int) = -y := h; omega⟩
theorem libPick_is (a b : Nat) (l : Bool) (ha : a < 18446744073709551616) (hb : b < 18446744073709551616) (na : nanB a = false) (nb : nanB b = false) : libPick a b l = pickR a b l := by
  have la := of_decide_eq_false na
  have lb := of_decide_eq_false nb
  have hcmp : cmpR a b = if rank a < rank b then -1 else if rank b < rank a then 1 else 0 := by unfold cmpR; rw [na, nb]; rfl
  unfold pickR libPick
  rw [na, nb]
  simp only [Bool.false_eq_true, if_false]
  by_cases hab : a = b
  · subst hab
    have c0 : cmpR a a = 0 := by rw [hcmp]; simp
    simp only [c0, if_true, ite_self]
    split
    · rename_i h
      simp only [Bool.or_self, Bool.and_eq_true, beq_iff_eq] at h
      have hi := of_decide_eq_true h.1
      rw [← h.2, ← hi, word_is ha]
    · first | rfl | (split <;> first | rfl | (split <;> rfl))
  · have k1 : rank a < rank b → cmpR a b = -1 := fun c => by rw [hcmp, if_pos c]
    have k2 : rank b < rank a → cmpR a b = 1 := fun c => by rw [hcmp, if_neg (show ¬ rank a < rank b by omega), if_pos c]
    by_cases h1 : ((infB a && (sgn a == l)) || (infB b && (sgn b == l))) = true
    · rw [if_pos h1]
      rw [Bool.or_eq_true, Bool.and_eq_true, Bool.and_eq_true, beq_iff_eq, beq_iff_eq] at h1
      rcases h1 with ⟨hi, hs⟩ | ⟨hi, hs⟩
      · have hi := of_decide_eq_true hi
        have ea : Ieee.double.word l 9218868437227405312 = a := by rw [← hs, ← hi, word_is ha]
        rw [ea]
        have hr : rank a = if l then -9218868437227405312 else 9218868437227405312 := by unfold rank; rw [hs, hi]; rfl
        have hbn : ¬ (sgn b = l ∧ rung b = 9218868437227405312) := fun e => hab (word_inj ha hb (hs.trans e.1.symm) (hi.trans e.2.symm))
        have hrb : if l then rank a < rank b else rank b < rank a := by
          rw [hr]
          unfold rank
          cases l <;> cases hsb : sgn b <;> simp_all <;> omega
        cases l
        · simp only [Bool.false_eq_true, if_false] at hrb
          rw [k2 hrb]; rfl
        · simp only [if_true] at hrb
          rw [k1 hrb]; rfl
      · have hi := of_decide_eq_true hi
        have eb : Ieee.double.word l 9218868437227405312 = b := by rw [← hs, ← hi, word_is hb]
        rw [eb]
        have hr : rank b = if l then -9218868437227405312 else 9218868437227405312 := by unfold rank; rw [hs, hi]; rfl
        have han : ¬ (sgn a = l ∧ rung a = 9218868437227405312) := fun e => hab (word_inj ha hb (e.1.trans hs.symm) (e.2.trans hi.symm))
        have hra : if l then rank b < rank a else rank a < rank b := by
          rw [hr]
          unfold rank
          cases l <;> cases hsa : sgn a <;> simp_all <;> omega
        cases l
        · simp only [Bool.false_eq_true, if_false] at hra
          rw [k1 hra]; rfl
        · simp only [if_true] at hra
          rw [k2 hra]; rfl
    · rw [if_neg h1]
      clear h1
      by_cases hz : rung a = 0 ∧ rung b = 0
      · rw [decide_eq_true hz.1, decide_eq_true hz.2]
        have c0 : cmpR a b = 0 := by
          rw [hcmp]; unfold rank; rw [hz.1, hz.2]
          cases sgn a <;> cases sgn b <;> rfl
        rw [c0]
        simp [hab]
      · have hzb : (decide (rung a = 0) && decide (rung b = 0)) = false := by
          rw [Bool.and_eq_false_iff, decide_eq_false_iff_not, decide_eq_false_iff_not]
          by_cases e : rung a = 0
          · right; exact fun k => hz ⟨e, k⟩
          · left; exact e
        rw [hzb]
        have hne : ¬ rank a = rank b := fun e => by
          have k := rank_zero_eq e hz
          exact hab (word_inj ha hb k.1 k.2)
        simp only [Bool.false_eq_true, if_false]
        by_cases c : rank a < rank b
        · rw [k1 c]; cases l <;> rfl
        · rw [k2 (by omega)]; cases l <;> rfl
/-- What the library's pick asks. -/
theorem pick_run (name : String) (l : Bool) (f : FuncId) (a b : Nat) (ha : a < 18446744073709551616) (hb : b < 18446744073709551616) (na : nanB a = false) (nb : nanB b = false) (w : World)
    (hc : (callFunc f #[.float .f64 a, .float .f64 b]).run Try.prog w = ((Extern.MathDim.pick name l (if l then .lt else .gt) #[.float .f64 a, .float .f64 b]).run Try.prog w).andThen fun v w' => .ok (.value v) w') :
    (callFunc f #[.float .f64 a, .float .f64 b]).run Try.prog w = .ok (.value (.float .f64 (pickR a b l))) w := by
  rw [hc, ← libPick_is a b l ha hb na nb]
  have hd : ∀ n, FloatKind.f64.decode n = Ieee.double.read n := fun _ => rfl
  have hi : FloatKind.f64.encode (.infinity l) = Ieee.double.word l 9218868437227405312 := by
    have hinf : Ieee.double.infRung = 9218868437227405312 := by decide
    show Ieee.double.word l Ieee.double.infRung = _
    rw [hinf]
  have ho : ((Ieee.double.read a).order (Ieee.double.read b) == some (if l then .lt else .gt)) = (cmpR a b == (if l then -1 else 1)) := by
    have hcmp : cmpR a b = if rank a < rank b then -1 else if rank b < rank a then 1 else 0 := by unfold cmpR; rw [na, nb]; rfl
    have h1 := lt_of na nb
    have h2 := gt_of na nb
    rw [hcmp]
    cases l
    · refine h2.trans ?_
      by_cases c : rank a < rank b
      · rw [if_pos c, decide_eq_false (by omega)]; rfl
      · rw [if_neg c]
        by_cases d : rank b < rank a
        · rw [if_pos d, decide_eq_true d]; rfl
        · rw [if_neg d, decide_eq_false d]; rfl
    · refine h1.trans ?_
      by_cases c : rank a < rank b
      · rw [if_pos c, decide_eq_true c]; rfl
      · rw [if_neg c, decide_eq_false c]
        by_cases d : rank b < rank a
        · rw [if_pos d]; rfl
        · rw [if_neg d]; rfl
  have hbody : Extern.MathDim.pick name l (if l then .lt else .gt) #[.float .f64 a, .float .f64 b] = pure (.float .f64 (libPick a b l)) := by
    show pure (Value.float .f64 (if (FloatKind.f64.decode a == .infinity l || FloatKind.f64.decode b == .infinity l) = true then FloatKind.f64.encode (.infinity l)
      else if ((FloatKind.f64.decode a).isNaN || (FloatKind.f64.decode b).isNaN) = true then 0x7FF8000000000001
      else if ((FloatKind.f64.decode a).isZero && (FloatKind.f64.decode b).isZero) = true then (if ((FloatKind.f64.decode a).neg == l) = true then a else b)
      else if ((FloatKind.f64.decode a).order (FloatKind.f64.decode b) == some (if l then .lt else .gt)) = true then a else b)) = _
    rw [hd, hd, read_infB na, read_infB nb, read_isNaN na, read_isNaN nb, read_zero na, read_zero nb, read_neg na, ho, hi]
    rfl
  rw [hbody]
  rfl
end Go.Proofs.Ytckdbgejpagkpaa
