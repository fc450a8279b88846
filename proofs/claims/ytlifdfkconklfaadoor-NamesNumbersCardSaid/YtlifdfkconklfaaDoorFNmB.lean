/-
  Names: a symbol: whether it can be, and its sixteen bytes, by the program and by the document.
-/
import Derived.Test.YtlifdfkconklfaaDoorFNmA
import Derived.Test.YtlifdfkconklfaaDoorFShelfN
namespace Go.Proofs.YtlifdfkconklfaaDoor
open Go Go.RowKit
set_option linter.unusedVariables false
set_option linter.unusedSimpArgs false

structure SymD where
  name : List UInt8
  value : Nat
  size : Nat
  bind : Int
  part : Int
  deriving DecidableEq
/-- A symbol's numbers fit their kinds. -/
structure SymD.Ok (s : SymD) : Prop where
  name : s.name.length ≤ 140737488351232
  value : s.value < 4294967296
  size : s.size < 4294967296
  bind0 : -9223372036854775808 ≤ s.bind
  bind1 : s.bind ≤ 9223372036854775807
  part0 : -9223372036854775808 ≤ s.part
  part1 : s.part ≤ 9223372036854775807
def symV (s : SymD) : Array Value := #[.string (mkB s.name), .int .u32 (s.value : Nat), .int .u32 (s.size : Nat), .int .i64 s.bind, .int .i64 s.part]
def fitS (s : SymD) : Bool := decide (s.name ≠ []) && (decide (s.name.length ≤ 31) && (!s.name.contains 0 && (decide (0 ≤ s.bind) && (decide (s.bind ≤ 2) && (decide (0 ≤ s.part) && decide (s.part ≤ 2))))))
theorem fitS_is {s : SymD} (h : fitS s = true) : s.name ≠ [] ∧ s.name.length ≤ 31 ∧ s.name.contains 0 = false ∧ 0 ≤ s.bind ∧ s.bind ≤ 2 ∧ 0 ≤ s.part ∧ s.part ≤ 2 := by
  simpa [fitS] using h
theorem indexByte_zero : ∀ (l : List UInt8), decide (0 ≤ Lib.indexByte l 0) = l.contains 0
  | [] => by decide
  | b :: l => by
    have ih := indexByte_zero l
    have hge := Lib.indexByte_ge l 0
    unfold Lib.indexByte
    by_cases hb : b = 0
    · subst hb; simp
    · have h1 : (b == 0) = false := by simpa using hb
      have h2 : (b :: l).contains 0 = l.contains 0 := by
        have : ((0 : UInt8) == b) = false := by simpa using fun h => hb h.symm
        rw [List.contains_cons, this, Bool.false_or]
      rw [h2, ← ih, h1]
      by_cases h3 : Lib.indexByte l 0 = -1
      · simp [h3]
      · have h4 : 0 ≤ Lib.indexByte l 0 := by omega
        simp [h3, h4]; omega
set_option maxHeartbeats 1000000 in
theorem fits_any (s : SymD) (h : s.Ok) (w : World) :
    Calls Tryd.prog 23 #[.agg (symV s)] w fun e w' => e = .returned (.bool (fitS s)) ∧ Below w.heap.size w w' := by
  obtain ⟨l, v, z, b, p⟩ := s
  obtain ⟨h1, h2, h3, h4, h5, h6, h7⟩ := h
  have hsz := mkB_size l
  have hcon := indexByte_zero l
  have hF : fitS ⟨l, v, z, b, p⟩ = (decide (l ≠ []) && (decide (l.length ≤ 31) && (!l.contains 0 && (decide (0 ≤ b) && (decide (b ≤ 2) && (decide (0 ≤ p) && decide (p ≤ 2))))))) := rfl
  unfold symV
  simp only at *
  have HF := Lib.hid hF; have HC : Hid (decide (0 ≤ Lib.indexByte (mkB l).data.toList 0) = l.contains 0) := Lib.hid (by rw [mkB_list]; exact hcon)
  clear hF hcon
  have CN : Hid (l.contains 0 = l.contains 0) := Lib.hid rfl
  by_cases c1 : l = []
  · have e1 : (mkB l).toList.isEmpty = true := by rw [bytes_toList, c1]; rfl
    have e2 : ((mkB l).toList == []) = true := by rw [bytes_toList, c1]; rfl
    have D : Hid (decide (l ≠ []) = false) := Lib.hid (decide_eq_false (by simp [c1]))
    clear c1
    go_enter Tryd.func23, Tryd.ntmps23
    go_wp2_with (go_at_call 49; refine (Tryd.strings_Contains_one (mkB l) 0 _).mono ?_; rintro e w' ⟨rfl, rfl⟩; rw [HC.out, CN.out])
    go_ret
    exact ⟨by rw [HF.out]; rw [D.out]; rfl, (Below.refl _ _).alloc (Nat.le_refl _) _⟩
  · have e1 : (mkB l).toList.isEmpty = false := by rw [bytes_toList]; cases l <;> simp_all
    have e2 : ((mkB l).toList == []) = false := by rw [bytes_toList]; cases l <;> simp_all
    have D1 : Hid (decide (l ≠ []) = true) := Lib.hid (decide_eq_true c1)
    clear c1
    by_cases c2 : l.length ≤ 31
    · have D2 : Hid (decide (l.length ≤ 31) = true) := Lib.hid (decide_eq_true c2)
      have c2i : (l.length : Int) ≤ 31 := by omega
      clear c2
      cases c3 : l.contains 0
      · have D3 := Lib.hid c3
        replace CN : Hid (l.contains 0 = false) := Lib.hid c3
        clear c3
        by_cases c4 : b < 0
        · have D4 : Hid (decide (0 ≤ b) = false) := Lib.hid (decide_eq_false (by omega))
          go_enter Tryd.func23, Tryd.ntmps23
          go_wp2_with (go_at_call 49; refine (Tryd.strings_Contains_one (mkB l) 0 _).mono ?_; rintro e w' ⟨rfl, rfl⟩; rw [HC.out, CN.out])
          go_ret
          exact ⟨by rw [HF.out]; rw [D1.out, D2.out, D3.out, D4.out]; rfl, (Below.refl _ _).alloc (Nat.le_refl _) _⟩
        · have D4 : Hid (decide (0 ≤ b) = true) := Lib.hid (decide_eq_true (by omega))
          have c4i : 0 ≤ b := by omega
          by_cases c5 : b = 3
          · have D5 : Hid (decide (b ≤ 2) = false) := Lib.hid (decide_eq_false (by omega))
            subst c5
            go_enter Tryd.func23, Tryd.ntmps23
            go_wp2_with (go_at_call 49; refine (Tryd.strings_Contains_one (mkB l) 0 _).mono ?_; rintro e w' ⟨rfl, rfl⟩; rw [HC.out, CN.out])
            go_ret
            exact ⟨by rw [HF.out]; rw [D1.out, D2.out, D3.out, D5.out]; simp, (Below.refl _ _).alloc (Nat.le_refl _) _⟩
          · by_cases c6 : 3 < b
            · have D5 : Hid (decide (b ≤ 2) = false) := Lib.hid (decide_eq_false (by omega))
              go_enter Tryd.func23, Tryd.ntmps23
              go_wp2_with (go_at_call 49; refine (Tryd.strings_Contains_one (mkB l) 0 _).mono ?_; rintro e w' ⟨rfl, rfl⟩; rw [HC.out, CN.out])
              go_ret
              exact ⟨by rw [HF.out]; rw [D1.out, D2.out, D3.out, D4.out, D5.out]; rfl, (Below.refl _ _).alloc (Nat.le_refl _) _⟩
            · have D5 : Hid (decide (b ≤ 2) = true) := Lib.hid (decide_eq_true (by omega))
              have c6i : b ≤ 2 := by omega
              have cb3 : (b != 3) = true := by rw [bne_iff_ne]; omega
              by_cases c7 : p < 0
              · have D6 : Hid (decide (0 ≤ p) = false) := Lib.hid (decide_eq_false (by omega))
                go_enter Tryd.func23, Tryd.ntmps23
                go_wp2_with (go_at_call 49; refine (Tryd.strings_Contains_one (mkB l) 0 _).mono ?_; rintro e w' ⟨rfl, rfl⟩; rw [HC.out, CN.out])
                go_ret
                exact ⟨by rw [HF.out]; rw [D1.out, D2.out, D3.out, D4.out, D5.out, D6.out]; rfl, (Below.refl _ _).alloc (Nat.le_refl _) _⟩
              · have D6 : Hid (decide (0 ≤ p) = true) := Lib.hid (decide_eq_true (by omega))
                have c7i : 0 ≤ p := by omega
                by_cases c8 : p < 3
                · have D7 : Hid (decide (p ≤ 2) = true) := Lib.hid (decide_eq_true (by omega))
                  go_enter Tryd.func23, Tryd.ntmps23
                  go_wp2_with (go_at_call 49; refine (Tryd.strings_Contains_one (mkB l) 0 _).mono ?_; rintro e w' ⟨rfl, rfl⟩; rw [HC.out, CN.out])
                  go_ret
                  exact ⟨by rw [HF.out]; rw [D1.out, D2.out, D3.out, D4.out, D5.out, D6.out, D7.out]; rfl, (Below.refl _ _).alloc (Nat.le_refl _) _⟩
                · have D7 : Hid (decide (p ≤ 2) = false) := Lib.hid (decide_eq_false (by omega))
                  have cp3 : decide (p < 3) = false := decide_eq_false c8
                  clear c8
                  go_enter Tryd.func23, Tryd.ntmps23
                  go_wp2_with (go_at_call 49; refine (Tryd.strings_Contains_one (mkB l) 0 _).mono ?_; rintro e w' ⟨rfl, rfl⟩; rw [HC.out, CN.out])
                  go_ret
                  exact ⟨by rw [HF.out]; rw [D1.out, D2.out, D3.out, D4.out, D5.out, D6.out, D7.out]; rfl, (Below.refl _ _).alloc (Nat.le_refl _) _⟩
      · have D3 := Lib.hid c3
        replace CN : Hid (l.contains 0 = true) := Lib.hid c3
        clear c3
        go_enter Tryd.func23, Tryd.ntmps23
        go_wp2_with (go_at_call 49; refine (Tryd.strings_Contains_one (mkB l) 0 _).mono ?_; rintro e w' ⟨rfl, rfl⟩; rw [HC.out, CN.out])
        go_ret
        exact ⟨by rw [HF.out]; rw [D1.out, D2.out, D3.out]; rfl, (Below.refl _ _).alloc (Nat.le_refl _) _⟩
    · have D2 : Hid (decide (l.length ≤ 31) = false) := Lib.hid (decide_eq_false c2)
      have c2i : (31 : Int) < (l.length : Int) := by omega
      clear c2
      go_enter Tryd.func23, Tryd.ntmps23
      go_wp2_with (go_at_call 49; refine (Tryd.strings_Contains_one (mkB l) 0 _).mono ?_; rintro e w' ⟨rfl, rfl⟩; rw [HC.out, CN.out])
      go_ret
      exact ⟨by rw [HF.out]; rw [D1.out, D2.out]; rfl, (Below.refl _ _).alloc (Nat.le_refl _) _⟩

/-! ### Its bytes -/
def be4 (n : Nat) : List UInt8 := beB n 4
theorem be4_len (n : Nat) : (be4 n).length = 4 := by
  rw [be4, beB, putBeF, if_pos (by omega)]; simp [leL_length]
def symB (s : SymD) (at_ : Nat) : List UInt8 := be4 at_ ++ (be4 s.value ++ (be4 s.size ++ be4 (s.bind.toNat * 268435456 + s.part.toNat)))
theorem symB_len (s : SymD) (n : Nat) : (symB s n).length = 16 := by simp [symB, be4_len]
theorem put4_any (v : Nat) (hv : v < 18446744073709551616) (w : World) :
    Calls Tryd.prog 51 #[.int .u64 v, .int .i64 4] w fun e w' => e = .returned (.string (mkB (be4 v))) ∧ Below w.heap.size w w' := putBe_any v hv 4 w
theorem word_any (v : Nat) (hv : v < 9223372036854775808) (w : World) :
    Calls Tryd.prog 50 #[.int .i64 v] w fun e w' => e = .returned (.string (mkB (be4 v))) ∧ Below w.heap.size w w' := by
  have hv1 : (v : Int) ≤ 9223372036854775807 := by omega
  have HV : Hid (v < 18446744073709551616) := Lib.hid (by omega)
  clear hv
  go_enter Tryd.func50, Tryd.ntmps50
  go_wp2_with (go_at_call 51; refine (put4_any v HV.out _).mono ?_; rintro e w' ⟨rfl, hB⟩; have HB := Lib.hid hB; clear hB)
  go_ret
  exact ⟨rfl, HB.out⟩
theorem rw_any (v : Nat) (hv : v < 4294967296) (w : World) :
    Calls Tryd.prog 53 #[.int .u32 v] w fun e w' => e = .returned (.string (mkB (be4 v))) ∧ Below w.heap.size w w' := by
  have hv1 : (v : Int) ≤ 4294967295 := by omega
  have HV : Hid (v < 18446744073709551616) := Lib.hid (by omega)
  clear hv
  go_enter Tryd.func53, Tryd.ntmps53
  go_wp2_with (go_at_call 69; refine (rputBe_any v HV.out 4 _).mono ?_; rintro e w' ⟨rfl, hB⟩; have HB := Lib.hid hB; clear hB)
  go_ret
  exact ⟨rfl, HB.out⟩
end Go.Proofs.YtlifdfkconklfaaDoor
