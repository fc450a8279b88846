/-
  structs.Dents: a directory's entries.
-/
import Derived.Test.YtofeamajoahjmaaFStat
import Derived.Test.YtofeamajoahjmaaFVecs
import Derived.Test.YtofeamajoahjmaaFShelf
namespace Go.Proofs.Ytofeamajoahjmaa
open Go Go.RowKit
set_option linter.unusedVariables false
set_option linter.unusedSimpArgs false

/-- The world's variables have their shapes. -/
def Sh (w : World) : Prop := w.ShapedOpen Try.prog
theorem shape_below {B : Nat} {w w' : World} (hb : Below B w w') (hB : w.heap.size ≤ B) : ∀ b x, w.shape? b = some x → w'.shape? b = some x := by
  intro b x h
  have hlt : b < w.heap.size := by
    unfold World.shape? at h
    split at h
    · rename_i e; exact heap_lt e
    · cases h
  unfold World.shape? at h ⊢
  rw [hb.block b (by omega)]; exact h
theorem Sh.below {w w' : World} (h : Sh w) (hb : Below w.heap.size w w') : Sh w' := by
  refine ⟨fun g zero t hg hz => ?_, fun k hk1 hk2 => ?_⟩
  · obtain ⟨cs, h1, h2, h3⟩ := h.1 g zero t hg hz
    exact ⟨cs, (hb.block g (heap_lt h1)).trans h1, h2, fun hb' => Row.ok_of_shape (fun b x => shape_below hb (Nat.le_refl _) b x) (h3 hb')⟩
  · obtain ⟨o, o₀, h1, h2, h3⟩ := h.2 k hk1 hk2
    exact ⟨o, o₀, (hb.block k (heap_lt h1)).trans h1, h2, h3⟩

theorem index_zero : ∀ (l : List UInt8), decide (0 ≤ Lib.index l [0]) = l.contains 0
  | [] => by decide
  | b :: l => by
    have ih := index_zero l
    have hge := Lib.index_ge l [0]
    unfold Lib.index
    by_cases hb : b = 0
    · subst hb; simp
    · have h1 : ([0] : List UInt8).isPrefixOf (b :: l) = false := by
        simp [List.isPrefixOf]; exact fun h => hb h.symm
      have h2 : (b :: l).contains 0 = l.contains 0 := by
        have : ((0 : UInt8) == b) = false := by simpa using fun h => hb h.symm
        rw [List.contains_cons, this, Bool.false_or]
      rw [h1, h2, ← ih]
      by_cases h3 : Lib.index l [0] = -1
      · simp [h3]
      · have h4 : 0 ≤ Lib.index l [0] := by omega
        simp [h3, h4]; omega
theorem contains_zero (l : List UInt8) : Lib.contains l [0] = l.contains 0 := index_zero l

/-- The length that an entry tells. -/
def dentN (r : List UInt8) : Nat := leAt r 16 2
def dentOk (r : List UInt8) : Bool := decide (24 ≤ r.length) && (decide (24 ≤ dentN r) && (decide (dentN r % 8 = 0) && (decide (dentN r ≤ r.length) && ((r.drop 19).take (dentN r - 19)).contains 0)))
/-- An entry as the guest has it. -/
def dentB (r : List UInt8) : List UInt8 := wordsB 8 [leAt r 0 8, leAt r 8 8] ++ wordsB 2 [dentN r] ++ (r.drop 18).take (dentN r - 18)
def dentsG : Nat → List UInt8 → Option (List UInt8)
  | 0, r => if r = [] then some [] else none
  | k + 1, r => if r = [] then some [] else if dentOk r then (dentsG k (r.drop (dentN r))).map (dentB r ++ ·) else none
def dentsF (l : List UInt8) : Option (List UInt8) := dentsG l.length l
theorem taken_dent (r : List UInt8) : takenL r [8, 8, 2] = [leAt r 0 8, leAt r 8 8, dentN r] := by
  simp only [takenL, leAt, dentN, List.drop_drop, Nat.reduceAdd, List.drop_zero]
theorem dentN_lt (r : List UInt8) : dentN r < 65536 := by
  have h := beN_lt ((r.drop 16).take 2).reverse
  have h2 : ((r.drop 16).take 2).reverse.length ≤ 2 := by rw [List.length_reverse, List.length_take]; omega
  have h3 : 256 ^ ((r.drop 16).take 2).reverse.length ≤ 256 ^ 2 := Nat.pow_le_pow_right (by omega) h2
  exact Nat.lt_of_lt_of_le h h3
theorem beB_len2 (v : Nat) : (beB v 2).length = 2 := by
  rw [beB, putBeF, if_pos (by omega)]; simp [leL_length]
theorem beB_lenE (v : Nat) : (beB v 8).length = 8 := by
  rw [beB, putBeF, if_pos (by omega)]; simp [leL_length]
theorem dentB_len (r : List UInt8) (h1 : 18 ≤ dentN r) (h2 : dentN r ≤ r.length) : (dentB r).length = dentN r := by
  simp only [dentB, wordsB, List.flatMap_cons, List.flatMap_nil, List.append_nil, List.length_append, beB_len2, beB_lenE, List.length_take, List.length_drop]
  omega
theorem dentOk_is {r : List UInt8} (h : dentOk r = true) : 24 ≤ r.length ∧ 24 ≤ dentN r ∧ dentN r % 8 = 0 ∧ dentN r ≤ r.length ∧ ((r.drop 19).take (dentN r - 19)).contains 0 = true := by
  simpa [dentOk] using h
theorem dentsG_nil (k : Nat) : dentsG k [] = some [] := by cases k <;> simp [dentsG]
theorem dentsG_step {r : List UInt8} (h : r ≠ []) {k : Nat} (hk : r.length ≤ k) : dentsG k r = if dentOk r then (dentsG (k - 1) (r.drop (dentN r))).map (dentB r ++ ·) else none := by
  cases k with
  | zero => exact absurd (List.length_eq_zero_iff.1 (by omega)) h
  | succ k => rw [dentsG, if_neg h]; rfl

theorem RowU.init {w : World} {g x0 x1 n : Nat} (h : RowU w g [x0, x1, n]) : RowU w g [x0, x1] := by
  obtain ⟨c, fr, h1, h2⟩ := h
  exact ⟨c, fr, h1, fun i hi => by
    have h3 := h2 i (by simp at hi ⊢; omega)
    match i, hi, h3 with
    | 0, _, h3 => exact h3
    | 1, _, h3 => exact h3⟩
def DentsPost (l : List UInt8) (w : World) (e : Ending) (w' : World) : Prop :=
  e = .returned (.tuple #[.string (mkB ((dentsF l).getD [])), .bool (dentsF l).isSome]) ∧ Below w.heap.size w w'

set_option maxHeartbeats 4000000 in
set_option maxRecDepth 100000 in
theorem dents_any (l : List UInt8) (hl : l.length ≤ 5000) (w : World) (hsh : Sh w) :
    Calls Try.prog 17 #[.string (mkB l)] w (DentsPost l w) := by
  have HSH := Lib.hid hsh; have HL := Lib.hid hl
  clear hsh hl
  go_enter Try.func17, Try.ntmps17
  go_wp2
  obtain ⟨B, hB⟩ : ∃ B, B = w.heap.size := ⟨_, rfl⟩
  go_loopw [0, 5, 6] (fun x v n wr => ∃ (acc r : List UInt8) (k : Nat), x = .string (mkB r) ∧ Hid (IsBld 65 w.heap.size w.heap.size acc wr) ∧ Hid (Below w.heap.size w wr) ∧
    Hid (dentsF l = (dentsG k r).map (acc ++ ·) ∧ r.length ≤ k ∧ acc.length + r.length = l.length)) (fun x _ _ _ => strLen x)
  case atStart => exact ⟨[], l, l.length, rfl, Lib.hid (bld_new w), Lib.hid ((Below.refl _ _).alloc (Nat.le_refl _) _), Lib.hid ⟨by simp [dentsF], Nat.le_refl _, by simp⟩⟩
  case round =>
    obtain ⟨acc, r, k, rfl, H1, H2, H3⟩ := hrel
    have hsz := mkB_size r
    by_cases hr0 : r.length = 0
    · have hnil : r = [] := List.length_eq_zero_iff.1 hr0
      subst hnil
      have hres : Hid (dentsF l = some acc) := Lib.hid (by rw [H3.out.1, dentsG_nil]; simp)
      go_wp2_with (go_at_call 29; refine (bstr_any _ _ _ _ H1.out H2.out.size).mono ?_; rintro e w3 ⟨rfl, _, hb3, _⟩)
      go_ret2
      exact ⟨by rw [hres.out]; rfl, H2.out.trans hb3⟩
    · have hpos : (0 : Int) < (r.length : Int) := by omega
      have hne : Hid (r ≠ []) := Lib.hid (fun h => hr0 (by rw [h]; rfl))
      have hstep : Hid (dentsF l = if dentOk r then ((dentsG (k - 1) (r.drop (dentN r))).map (dentB r ++ ·)).map (acc ++ ·) else none) := Lib.hid (by
        rw [H3.out.1, dentsG_step hne.out H3.out.2.1]; split <;> rfl)
      have HRL : Hid (r.length ≤ 5000) := Lib.hid (by have := H3.out.2.2; have := HL.out; omega)
      clear hr0
      by_cases h24 : r.length < 24
      · have hbad : Hid (dentsF l = none) := Lib.hid (by rw [hstep.out, dentOk, decide_eq_false (by omega), Bool.false_and]; rfl)
        have h24' : (r.length : Int) < 24 := by omega
        go_wp2
        go_ret2
        exact ⟨by rw [hbad.out]; rfl, H2.out⟩
      · have h24' : ¬ (r.length : Int) < 24 := by omega
        have h24i : (24 : Int) ≤ (r.length : Int) := by omega
        have R24 : Hid (24 ≤ r.length ∧ r.length ≤ 5000) := Lib.hid ⟨by omega, HRL.out⟩
        obtain ⟨x0, e0⟩ : ∃ x, x = leAt r 0 8 := ⟨_, rfl⟩
        obtain ⟨x1, e1⟩ : ∃ x, x = leAt r 8 8 := ⟨_, rfl⟩
        obtain ⟨n, en⟩ : ∃ x, x = dentN r := ⟨_, rfl⟩
        have X0 : Hid (x0 < 18446744073709551616) := Lib.hid (by rw [e0]; exact leAt_lt r _ _ (by omega))
        have X1 : Hid (x1 < 18446744073709551616) := Lib.hid (by rw [e1]; exact leAt_lt r _ _ (by omega))
        have n16 : (n : Int) ≤ 65535 := by have := dentN_lt r; omega
        have HR : Hid (takenL r [8, 8, 2] = [x0, x1, n]) := Lib.hid (by rw [taken_dent, e0, e1, en])
        have HD : Hid (dentB r = wordsB 8 [x0, x1] ++ wordsB 2 [n] ++ (r.drop 18).take (n - 18)) := Lib.hid (by rw [dentB, e0, e1, en])
        have HOK : Hid (dentOk r = (decide (24 ≤ n) && (decide (n % 8 = 0) && (decide (n ≤ r.length) && ((r.drop 19).take (n - 19)).contains 0)))) := Lib.hid (by rw [dentOk, ← en, decide_eq_true (by omega), Bool.true_and])
        have HN := Lib.hid en
        clear e0 e1 en h24
        go_upto_region 6 with (go_at_call 27; refine (taken_any r (by have := R24.out; omega) _ _ [8, 8, 2] (by simp) (by have := R24.out; simp; omega) (by simp) _ (rowN_of (heap_new _ _ _ rfl) (by simp))).mono ?_; rintro e w1 ⟨v, rfl, hown, hb1⟩)
        rw [HR.out] at hown
        obtain ⟨g, cap, rfl⟩ := own_some (n := 3) hown (by omega)
        have hU : RowU w1 g [x0, x1, n] := rowU_of_own hown
        have hg : g < w1.heap.size := by obtain ⟨c, fr, h1, _⟩ := hU; exact heap_lt h1
        have hgB : Hid (g ≠ w.heap.size) := Lib.hid (by
          have := bld_lt H1.out
          have h2 := (hown.lt g rfl).1
          rw [heap_len] at h2
          omega)
        have hcap : 3 ≤ cap := by
          rcases hown.2 with ⟨h, _⟩ | ⟨g', cap', cur, h, _, _, h3, _⟩
          · simp at h
          · simp only [Value.slice.injEq] at h; omega
        have hcap2 : (2 : Int) ≤ (cap : Int) := by omega
        have HU := Lib.hid hU
        have hb0 : Below wr.heap.size wr w1 := ((Below.refl _ _).alloc (Nat.le_refl _) _).trans (hb1.mono (by rw [heap_len]; omega))
        have K1 : Hid (IsBld 65 w.heap.size w.heap.size acc w1) := Lib.hid (bld_below H1.out hb0)
        have L1 : Hid (Below w.heap.size w w1) := Lib.hid (H2.out.trans (hb0.mono H2.out.size))
        have c2 : w1.cell? ⟨g, 2, none⟩ = some (.int .u64 (n : Nat)) := hU.cell 2 (by simp)
        clear hU hown hb1 hb0
        obtain ⟨m, em⟩ : ∃ m, m = n % 8 := ⟨_, rfl⟩
        have h7 : bits BinOp.and IntKind.i64 (n : Int) 7 = (m : Nat) := by rw [em]; exact and7 n (by omega)
        obtain ⟨S, eS⟩ : ∃ S, S = (r.drop 19).take (n - 19) := ⟨_, rfl⟩
        obtain ⟨cz, ecz⟩ : ∃ c, c = S.contains 0 := ⟨_, rfl⟩
        have hc : Hid (Lib.contains (mkB S).data.toList ({ data := #[0] } : ByteArray).data.toList = cz) := Lib.hid (by rw [mkB_list, ecz]; exact contains_zero S)
        have hS19 : (mkB r).extract 19 n = mkB S := by rw [eS]; exact mkB_extract r 19 n
        have hS18 : (mkB r).extract 18 n = mkB ((r.drop 18).take (n - 18)) := mkB_extract r 18 n
        have hSn : (mkB r).extract n r.length = mkB (r.drop n) := by have := mkB_drop r n; rwa [mkB_size] at this
        have HSl : Hid (S.length ≤ 5000) := Lib.hid (by have := R24.out; rw [eS, List.length_take, List.length_drop]; omega)
        replace HOK : Hid (dentOk r = (decide (24 ≤ n) && (decide (m = 0) && (decide (n ≤ r.length) && cz)))) := Lib.hid (by rw [HOK.out, ecz, eS, em])
        have EM := Lib.hid em
        clear em eS ecz
        by_cases c24 : n < 24
        · have hbad : Hid (dentsF l = none) := Lib.hid (by rw [hstep.out, HOK.out, decide_eq_false (by omega), Bool.false_and]; rfl)
          have c24' : (n : Int) < 24 := by omega
          go_wp2
          go_ret2
          exact ⟨by rw [hbad.out]; rfl, L1.out⟩
        · have c24i : (24 : Int) ≤ (n : Int) := by omega
          have c24' : ¬ (n : Int) < 24 := by omega
          have C24 := Lib.hid c24
          by_cases cm : m = 0
          · have hm0 : ((m : Int) != 0) = false := by rw [cm]; rfl
            have CM := Lib.hid cm
            by_cases cl : n ≤ r.length
            · have cl1 : (n : Int) ≤ (r.length : Int) := by omega
              have cl2 : ¬ (r.length : Int) < (n : Int) := by omega
              have CL := Lib.hid cl
              have i19 : (19 : Int) ≤ (n : Int) := by omega
              have i18 : (18 : Int) ≤ (n : Int) := by omega
              clear c24 cm cl
              rcases Bool.eq_false_or_eq_true cz with hz | hz
              · go_upto_region 9 with (go_at_call 32; refine (Try.strings_Contains_shaped _ _ _ (HSH.out.below L1.out) (by rw [mkB_size]; have := HSl.out; omega)).mono ?_; rintro e w2 ⟨rfl, rfl⟩; rw [hc.out])
                have G1 : Hid (Below w.heap.size w w2) := Lib.hid (L1.out)
                have Z1 : Hid (w.heap.size ≤ w2.heap.size) := Lib.hid L1.out.size
                have HB2 : Hid (AllU [n]) := Lib.hid (AllU.cons (by have := n16; omega) .nil)
                have HLE : Hid (acc.length + r.length ≤ 5000) := Lib.hid (by have := H3.out.2.2; have := HL.out; omega)
                have HSz : Hid (((r.drop 18).take (n - 18)).length ≤ 5000) := Lib.hid (by rw [List.length_take, List.length_drop]; have := R24.out; omega)
                go_upto_region 10 with (go_at_call 28; refine (put_any w.heap.size w.heap.size g 8 [x0, x1] (AllU.cons X0.out (AllU.cons X1.out .nil)) acc (by have := HLE.out; simp; omega) _ _ (RowU.init HU.out) hgB.out K1.out Z1.out).mono ?_; rintro e w3 ⟨rfl, k1, k2, k3⟩)
                have hu3 : RowU w3 g [x0, x1, n] := HU.out.kept k3 hgB.out
                have g2 : w3.cell? ⟨g, 2, none⟩ = some (.int .u64 (n : Nat)) := hu3.cell 2 (by simp)
                have gl : g < w3.heap.size := by obtain ⟨c, fr, h1, _⟩ := hu3; exact heap_lt h1
                have P1 := Lib.hid k1; have P2 := Lib.hid (L1.out.trans k2)
                have N3 : Hid (w3.heap.size ≠ w.heap.size) := Lib.hid (by have := bld_lt k1; omega)
                have W1 : Hid ((acc ++ wordsB 8 [x0, x1]).length ≤ 5100) := Lib.hid (by have := wordsB_length 8 [x0, x1]; have := HLE.out; simp at *; omega)
                clear hu3 k1 k2 k3 c2 K1
                go_upto_region 11 with (go_at_call 28; refine (put_any w.heap.size w.heap.size w3.heap.size 2 [n] HB2.out (acc ++ wordsB 8 [x0, x1]) (by have := W1.out; simp at *; omega) _ _ (rowU_of (heap_new _ _ _ rfl) (by simp)) N3.out (bld_alloc P1.out _) (le_alloc P2.out.size _)).mono ?_; rintro e w4 ⟨rfl, k1, k2, k3⟩)
                have Q1 := Lib.hid k1
                have Q2 : Hid (Below w.heap.size w w4) := Lib.hid (P2.out.trans (Below.trans (Below.alloc (Below.refl _ _) P2.out.size _) k2))
                have W2 : Hid ((acc ++ wordsB 8 [x0, x1] ++ wordsB 2 [n]).length ≤ 5200) := Lib.hid (by have := wordsB_length 2 [n]; have := W1.out; rw [List.length_append]; simp only [List.length_cons, List.length_nil] at *; omega)
                clear k1 k2 k3
                go_upto_region 12 with (go_at_call 33; refine (wstr_any bldT_writer w.heap.size w.heap.size (acc ++ wordsB 8 [x0, x1] ++ wordsB 2 [n]) (mkB ((r.drop 18).take (n - 18))) _ Q1.out (by rw [mkB_size]; have := W2.out; have := HSz.out; omega) Q2.out.size).mono ?_; rintro e w5 ⟨rfl, k1, k2, k3⟩)
                have R1 : Hid (IsBld 65 w.heap.size w.heap.size (acc ++ dentB r) w5) := Lib.hid (by rw [mkB_list] at k1; rw [HD.out]; simpa [List.append_assoc] using k1)
                have R2 := Lib.hid (Q2.out.trans k2)
                clear k1 k2 k3
                go_wp2
                go_roundw
                case rel =>
                  refine ⟨acc ++ dentB r, r.drop n, k - 1, rfl, R1, R2, Lib.hid ⟨?_, ?_, ?_⟩⟩
                  · rw [hstep.out, HOK.out, decide_eq_true (by have := C24.out; omega), decide_eq_true CM.out, decide_eq_true CL.out, hz, Bool.true_and, Bool.true_and, Bool.true_and, if_pos rfl, ← HN.out, Option.map_map]
                    congr 1
                    funext t
                    simp
                  · have := H3.out.2.1; rw [List.length_drop]; have := C24.out; omega
                  · have h1 : (dentB r).length = n := by rw [HN.out]; exact dentB_len r (by rw [← HN.out]; have := C24.out; omega) (by rw [← HN.out]; exact CL.out)
                    have := H3.out.2.2; have := CL.out
                    rw [List.length_append, h1, List.length_drop]; omega
                case measure => have := C24.out; have := CL.out; simp [strLen, mkB_size]; omega
              · have hbad : Hid (dentsF l = none) := Lib.hid (by rw [hstep.out, HOK.out, hz, Bool.and_false, Bool.and_false, Bool.and_false]; rfl)
                go_wp2_with (go_at_call 32; refine (Try.strings_Contains_shaped _ _ _ (HSH.out.below L1.out) (by rw [mkB_size]; have := HSl.out; omega)).mono ?_; rintro e w2 ⟨rfl, rfl⟩; rw [hc.out])
                go_ret2
                exact ⟨by rw [hbad.out]; rfl, L1.out⟩
            · have hbad : Hid (dentsF l = none) := Lib.hid (by rw [hstep.out, HOK.out, decide_eq_false cl, Bool.false_and, Bool.and_false, Bool.and_false]; rfl)
              have cl2 : (r.length : Int) < (n : Int) := by omega
              clear c24 cm cl
              go_wp2
              go_ret2
              exact ⟨by rw [hbad.out]; rfl, L1.out⟩
          · have hbad : Hid (dentsF l = none) := Lib.hid (by rw [hstep.out, HOK.out, decide_eq_false cm, Bool.false_and, Bool.and_false]; rfl)
            have hm0 : ((m : Int) != 0) = true := by rw [bne_iff_ne]; omega
            clear c24 cm
            go_wp2
            go_ret2
            exact ⟨by rw [hbad.out]; rfl, L1.out⟩
end Go.Proofs.Ytofeamajoahjmaa
