/-
  ferryref25.Dents.
-/
import Derived.Test.YtofeamajoahjmaaFRef25
import Derived.Test.YtofeamajoahjmaaFDents
namespace Go.Proofs.Ytofeamajoahjmaa
open Go Go.RowKit
set_option linter.unusedVariables false
set_option linter.unusedSimpArgs false

/-- Is one of the bytes from 19 up to i zero? -/
def zeroTo (r : List UInt8) (i : Nat) : Bool := ((r.drop 19).take (i - 19)).contains 0
theorem zeroTo_start (r : List UInt8) : zeroTo r 19 = false := by simp [zeroTo]
theorem zeroTo_step (r : List UInt8) (i : Nat) (h : 19 ≤ i) (hi : i < r.length) : zeroTo r (i + 1) = (zeroTo r i || r[i] == 0) := by
  unfold zeroTo
  have e : i + 1 - 19 = (i - 19) + 1 := by omega
  have hl : i - 19 < (r.drop 19).length := by rw [List.length_drop]; omega
  have hg : (r.drop 19)[i - 19]'hl = r[i] := by
    rw [List.getElem_drop]
    congr 1
    omega
  rw [e, List.take_succ_eq_append_getElem hl, hg, List.contains_eq_any_beq, List.contains_eq_any_beq, List.any_append]
  congr 1
  simp only [List.any_cons, List.any_nil, Bool.or_false]
  exact Bool.beq_comm

set_option maxHeartbeats 1000000 in
set_option maxRecDepth 100000 in
theorem rdents_any (l : List UInt8) (hl : l.length ≤ 5000) (w : World) :
    Calls Try.prog 20 #[.string (mkB l)] w (DentsPost l w) := by
  have HL := Lib.hid hl
  have hA := mkB_append
  have hZ := mkB_size
  have hB2 := beB_len2
  have hB8 := beB_lenE
  have hLA := @List.length_append UInt8
  clear hl
  go_enter Try.func20, Try.ntmps20
  go_wp2
  go_loopw [0, 4, 5, 6, 7] (fun x o v n i wr => ∃ (acc r : List UInt8) (k : Nat), x = .string (mkB r) ∧ o = .string (mkB acc) ∧ Hid (Below w.heap.size w wr) ∧
    Hid (dentsF l = (dentsG k r).map (acc ++ ·) ∧ r.length ≤ k ∧ acc.length + r.length = l.length)) (fun x _ _ _ _ _ => strLen x)
  case atStart => exact ⟨[], l, l.length, rfl, rfl, Lib.hid (Below.refl _ _), Lib.hid ⟨by simp [dentsF], Nat.le_refl _, by simp⟩⟩
  case round =>
    obtain ⟨acc, r, k, rfl, rfl, H2, H3⟩ := hrel
    have hsz := mkB_size r
    by_cases hr0 : r.length = 0
    · have hnil : r = [] := List.length_eq_zero_iff.1 hr0
      subst hnil
      have he : (mkB []).toList = [] := bytes_toList []
      have hres : Hid (dentsF l = some acc) := Lib.hid (by rw [H3.out.1, dentsG_nil]; simp)
      go_wp2
      go_ret2
      exact ⟨by rw [hres.out]; rfl, H2.out⟩
    · have hpos : (0 : Int) < (r.length : Int) := by omega
      have hne : Hid (r ≠ []) := Lib.hid (fun h => hr0 (by rw [h]; rfl))
      have he1 : (mkB r).toList.isEmpty = false := by rw [bytes_toList]; cases r <;> simp_all
      have he2 : ((mkB r).toList == []) = false := by rw [bytes_toList]; cases r <;> simp_all
      have hstep : Hid (dentsF l = if dentOk r then ((dentsG (k - 1) (r.drop (dentN r))).map (dentB r ++ ·)).map (acc ++ ·) else none) := Lib.hid (by
        rw [H3.out.1, dentsG_step hne.out H3.out.2.1]; split <;> rfl)
      have HRL : Hid (r.length ≤ 5000) := Lib.hid (by have := H3.out.2.2; have := HL.out; omega)
      have hAC : acc.length ≤ 5000 := by have := H3.out.2.2; have := HL.out; omega
      clear hr0
      by_cases h24 : r.length < 24
      · have hbad : Hid (dentsF l = none) := Lib.hid (by rw [hstep.out, dentOk, decide_eq_false (by omega), Bool.false_and]; rfl)
        have h24' : (r.length : Int) < 24 := by omega
        go_wp2
        go_ret2
        exact ⟨by rw [hbad.out]; rfl, H2.out⟩
      · have h24' : decide ((r.length : Int) < 24) = false := decide_eq_false (by omega)
        have R24 : Hid (24 ≤ r.length ∧ r.length ≤ 5000) := Lib.hid ⟨by omega, HRL.out⟩
        obtain ⟨n, en⟩ : ∃ x, x = dentN r := ⟨_, rfl⟩
        have n16 : (n : Int) ≤ 65535 := by have := dentN_lt r; omega
        have HN := Lib.hid en
        have HNL : Hid (leAt r 16 2 = n) := Lib.hid en.symm
        clear en h24
        have HOK : Hid (dentOk r = (decide (24 ≤ n) && (decide (n % 8 = 0) && (decide (n ≤ r.length) && zeroTo r n)))) := Lib.hid (by rw [dentOk, ← HN.out, decide_eq_true R24.out.1, Bool.true_and]; rfl)
        go_upto_region 6 with (go_at_call 35; refine (rle25_at r _ _ (by decide) (by decide) (by decide) (by have := R24.out; omega) (by have := R24.out; omega) _).mono ?_; rintro e w1 ⟨rfl, hw⟩; rw [hw, show leAt r (Int.toNat 16) (Int.toNat 2) = n from HNL.out]; clear hw)
        obtain ⟨m, em⟩ : ∃ m, m = n % 8 := ⟨_, rfl⟩
        have h8 : (n : Int) % 8 = (m : Nat) := by omega
        have h8t : Int.tmod (n : Int) 8 = (m : Nat) := by rw [Int.tmod_eq_emod_of_nonneg (by omega)]; exact h8
        obtain ⟨cz, ecz⟩ : ∃ c, c = zeroTo r n := ⟨_, rfl⟩
        have HCZ := Lib.hid ecz
        replace HOK : Hid (dentOk r = (decide (24 ≤ n) && (decide (m = 0) && (decide (n ≤ r.length) && cz)))) := Lib.hid (by rw [HOK.out, ecz, em])
        have EM := Lib.hid em
        clear em ecz
        by_cases c24 : n < 24
        · have hbad : Hid (dentsF l = none) := Lib.hid (by rw [hstep.out, HOK.out, decide_eq_false (by omega), Bool.false_and]; rfl)
          have c24' : (n : Int) < 24 := by omega
          go_wp2
          go_ret2
          exact ⟨by rw [hbad.out]; rfl, H2.out⟩
        · have c24' : ¬ (n : Int) < 24 := by omega
          have C24 := Lib.hid c24
          by_cases cm : m = 0
          · have hm0 : ((m : Int) != 0) = false := by rw [cm]; rfl
            have CM := Lib.hid cm
            by_cases cl : n ≤ r.length
            · have cl2 : ¬ (r.length : Int) < (n : Int) := by omega
              have CL := Lib.hid cl
              clear c24 cm cl
              go_upto_region 10 with fail
              go_loopw [6, 7] (fun v i wr2 => wr2 = wr ∧ ∃ j : Nat, 19 ≤ j ∧ j ≤ n ∧ i = .int .i64 j ∧ v = .bool (zeroTo r j)) (fun _ i _ => n - (intOf i).toNat)
              case atStart => exact ⟨rfl, 19, by omega, by have := C24.out; omega, rfl, by rw [zeroTo_start]⟩
              case round =>
                obtain ⟨rfl, j, hj19, hjn, rfl, rfl⟩ := hrel
                by_cases hlt : j < n
                · have hlti : (j : Int) < (n : Int) := by omega
                  have hjr : j < r.length := by have := CL.out; omega
                  have hjs : j < (mkB r).size := by omega
                  have hji : (j : Int) < (r.length : Int) := by omega
                  obtain ⟨x, hx⟩ : ∃ x, x = r[j] := ⟨_, rfl⟩
                  have hx1 : (mkB r)[j]'hjs = x := hx.symm
                  have HST : Hid (zeroTo r (j + 1) = (zeroTo r j || x == 0)) := Lib.hid (by rw [hx]; exact zeroTo_step r j hj19 hjr)
                  clear hx
                  obtain ⟨c, ec⟩ : ∃ c, c = zeroTo r j := ⟨_, rfl⟩
                  rw [← ec] at HST ⊢
                  clear ec
                  cases c
                  · cases hz : (x == 0)
                    · have hz1 : ((x.toNat : Int) == 0) = false := by
                        have := beq_eq_false_iff_ne.1 hz
                        rw [beq_eq_false_iff_ne]
                        intro h
                        exact this (UInt8.toNat_inj.1 (by simpa using Int.ofNat_inj.1 h))
                      have HST2 : Hid (zeroTo r (j + 1) = false) := Lib.hid (by rw [HST.out, hz]; rfl)
                      go_wp2
                      go_roundw
                      case rel => exact ⟨trivial, j + 1, by omega, by omega, by go_num, by rw [HST2.out]⟩
                      case measure => simp [intOf]; omega
                    · have hz1 : ((x.toNat : Int) == 0) = true := by rw [beq_iff_eq.1 hz]; rfl
                      have HST2 : Hid (zeroTo r (j + 1) = true) := Lib.hid (by rw [HST.out, hz]; rfl)
                      go_wp2
                      go_roundw
                      case rel => exact ⟨trivial, j + 1, by omega, by omega, by go_num, by rw [HST2.out]⟩
                      case measure => simp [intOf]; omega
                  · have HST2 : Hid (zeroTo r (j + 1) = true) := Lib.hid (by rw [HST.out]; rfl)
                    go_wp2
                    go_roundw
                    case rel => exact ⟨trivial, j + 1, by omega, by omega, by go_num, by rw [HST2.out]⟩
                    case measure => simp [intOf]; omega
                · obtain rfl : j = n := by omega
                  rw [← HCZ.out]
                  rcases Bool.eq_false_or_eq_true cz with hz | hz
                  · have x18 : (mkB r).extract 18 j = mkB ((r.drop 18).take (j - 18)) := mkB_extract r 18 j
                    have xn : (mkB r).extract j r.length = mkB (r.drop j) := by have := mkB_drop r j; rwa [mkB_size] at this
                    have i18 : (18 : Int) ≤ (j : Int) := by omega
                    have cl1 : (j : Int) ≤ (r.length : Int) := by have := CL.out; omega
                    have s18 : ((r.drop 18).take (j - 18)).length = j - 18 := by have := CL.out; rw [List.length_take, List.length_drop]; omega
                    have HB : Hid (Below wr.heap.size wr wr) := Lib.hid (Below.refl _ _)
                    have g1 : ¬ 9223372036854775807 < acc.length + 8 := by omega
                    have g2 : ¬ 9223372036854775807 < acc.length + 8 + 8 := by omega
                    have g3 : ¬ 9223372036854775807 < acc.length + 16 + 2 := by omega
                    have g4 : ¬ 9223372036854775807 < acc.length + 18 + (j - 18) := by have := R24.out; omega
                    have hwj : IntKind.u64.wrap (j : Int) = (j : Int) := by simp [IntKind.wrap, IntKind.signed, IntKind.bits]; omega
                    go_upto_region 15 with fail
                    go_region_with (first
                      | (go_at_call 35; refine (rle25_at r _ _ (by decide) (by decide) (by decide) (by have := R24.out; omega) (by have := R24.out; omega) _).mono ?_; rintro e w1 ⟨rfl, hw⟩; rw [hw]; clear hw)
                      | (go_at_call_of 34 (Value.int .u64 (j : Nat)); refine (rbe25_any j (by omega) _ _).mono ?_; rintro e w5 ⟨rfl, hb5⟩; rw [beB_is])
                      | (go_at_call_of 34 (Value.int .u64 (leAt r 0 8 : Nat)); refine (rbe25_any (leAt r 0 8) (leAt_lt r _ _ (by decide)) _ _).mono ?_; rintro e w3 ⟨rfl, hb3⟩; rw [beB_is])
                      | (go_at_call_of 34 (Value.int .u64 (leAt r 8 8 : Nat)); refine (rbe25_any (leAt r 8 8) (leAt_lt r _ _ (by decide)) _ _).mono ?_; rintro e w4 ⟨rfl, hb4⟩; rw [beB_is]))
                    have R2 : Hid (Below w.heap.size w w5) := Lib.hid (below_then (below_then (below_then H2.out (below_of_drew hb3)) hb4) hb5)
                    have HD : Hid (acc ++ (beB (leAt r 0 8) 8 ++ (beB (leAt r 8 8) 8 ++ (beB j 2 ++ (r.drop 18).take (j - 18)))) = acc ++ dentB r) := Lib.hid (by
                      simp only [dentB, wordsB, List.flatMap_cons, List.flatMap_nil, List.append_nil, List.append_assoc, ← HN.out])
                    clear hb3 hb4 hb5 hA hZ hB2 hB8 hLA
                    go_wp2
                    go_roundw
                    case rel =>
                      refine ⟨acc ++ dentB r, r.drop j, k - 1, rfl, by rw [HD.out], R2, Lib.hid ⟨?_, ?_, ?_⟩⟩
                      · rw [hstep.out, HOK.out, decide_eq_true (by have := C24.out; omega), decide_eq_true CM.out, decide_eq_true CL.out, hz, Bool.true_and, Bool.true_and, Bool.true_and, if_pos rfl, ← HN.out, Option.map_map]
                        congr 1
                        funext t
                        simp
                      · have := H3.out.2.1; rw [List.length_drop]; have := C24.out; omega
                      · have h1 : (dentB r).length = j := by rw [HN.out]; exact dentB_len r (by rw [← HN.out]; have := C24.out; omega) (by rw [← HN.out]; exact CL.out)
                        have := H3.out.2.2; have := CL.out
                        rw [List.length_append, h1, List.length_drop]; omega
                    case measure => have := C24.out; have := CL.out; simp [strLen, mkB_size]; omega
                  · have hbad : Hid (dentsF l = none) := Lib.hid (by rw [hstep.out, HOK.out, hz, Bool.and_false, Bool.and_false, Bool.and_false]; rfl)
                    go_wp2
                    go_ret2
                    exact ⟨by rw [hbad.out]; rfl, H2.out⟩
            · have hbad : Hid (dentsF l = none) := Lib.hid (by rw [hstep.out, HOK.out, decide_eq_false cl, Bool.false_and, Bool.and_false, Bool.and_false]; rfl)
              have cl2 : (r.length : Int) < (n : Int) := by omega
              clear c24 cm cl
              go_wp2
              go_ret2
              exact ⟨by rw [hbad.out]; rfl, H2.out⟩
          · have hbad : Hid (dentsF l = none) := Lib.hid (by rw [hstep.out, HOK.out, decide_eq_false cm, Bool.false_and, Bool.and_false]; rfl)
            have hm0 : ((m : Int) != 0) = true := by rw [bne_iff_ne]; omega
            clear c24 cm
            go_wp2
            go_ret2
            exact ⟨by rw [hbad.out]; rfl, H2.out⟩
end Go.Proofs.Ytofeamajoahjmaa
