/-
  The reference's signals and actions as bytes: they are the program's.
-/
import Derived.Test.YtofeamajoahjmaaDoorFBack25
import Derived.Test.YtofeamajoahjmaaDoorFRef1b
namespace Go.Proofs.YtofeamajoahjmaaDoor
open Go Go.RowKit
set_option linter.unusedVariables false
set_option linter.unusedSimpArgs false

theorem leN_zero : ∀ (b : List UInt8), leN b = 0 ↔ ∀ c ∈ b, c = 0
  | [] => by simp [leN, beN]
  | x :: b => by
    have h : leN (x :: b) = leN b * 256 + x.toNat := by rw [leN, List.reverse_cons, beN_snoc]; rfl
    have ih := leN_zero b
    rw [h]
    constructor
    · intro e c hc
      rcases List.mem_cons.1 hc with rfl | hc
      · exact UInt8.toNat_inj.1 (by simp; omega)
      · exact ih.1 (by omega) c hc
    · intro e
      have h1 : x = 0 := e x (by simp)
      have h2 := ih.2 (fun c hc => e c (by simp [hc]))
      rw [h1, h2]; rfl
theorem beN_zero (d : List UInt8) : beN d = 0 ↔ ∀ c ∈ d, c = 0 := by
  have : beN d = leN d.reverse := by rw [leN, List.reverse_reverse]
  rw [this, leN_zero]
  simp
theorem maskOk_be {l : List UInt8} (h : l.length = 16) : maskOk l = (beN (l.drop 8) == 0) := by
  rw [maskOk, decide_eq_true h, Bool.true_and]
  rw [Bool.eq_iff_iff]
  simp only [List.isEmpty_iff, beq_iff_eq]
  rw [trim_nil, beN_zero]

set_option maxHeartbeats 1000000 in
set_option maxRecDepth 100000 in
theorem rMask25 (l : List UInt8) (hl : l.length ≤ 140737488351232) (w : World) :
    Calls Tryd.prog 17 #[.string (mkB l)] w fun e w' => e = .returned (.tuple #[.int .u64 (maskV l : Nat), .bool (maskOk l)]) ∧ Below w.heap.size w w' := by
  have hsz := mkB_size l
  by_cases c1 : l.length = 16
  · have hx : (mkB l).extract 8 16 = mkB (l.drop 8) := by have := mkB_drop l 8; rwa [mkB_size, c1] at this
    have hy : (mkB l).extract 0 4 = mkB (l.take 4) := mkB_take l 4
    have hz : (mkB l).extract 4 8 = mkB ((l.drop 4).take 4) := mkB_extract l 4 8
    have HL1 : Hid ((l.drop 8).length ≤ 8 ∧ (l.take 4).length ≤ 8 ∧ ((l.drop 4).take 4).length ≤ 8) := Lib.hid (by simp only [List.length_drop, List.length_take]; omega)
    have hsz16 : (mkB l).size = 16 := by rw [hsz, c1]
    have HOK : Hid (maskOk l = (beN (l.drop 8) == 0)) := Lib.hid (maskOk_be c1)
    have hw1 : beN (l.take 4) < 4294967296 := wordN_lt l
    have hw2 : beN ((l.drop 4).take 4) < 4294967296 := wordN_lt (l.drop 4)
    clear hl hsz c1
    obtain ⟨z, hz0⟩ : ∃ z, z = beN (l.drop 8) := ⟨_, rfl⟩
    obtain ⟨a, ha⟩ : ∃ a, a = beN ((l.drop 4).take 4) := ⟨_, rfl⟩
    obtain ⟨b, hb⟩ : ∃ b, b = beN (l.take 4) := ⟨_, rfl⟩
    rw [← hz0] at HOK
    rw [← ha] at hw2
    rw [← hb] at hw1
    have HV : Hid (maskV l = if maskOk l then a * 4294967296 + b else 0) := Lib.hid (by rw [maskV, wordN, wordN, ← ha, ← hb])
    have hor : bits BinOp.or .u64 (b : Int) ((a : Int) * 4294967296) = ((a * 4294967296 + b : Nat) : Int) := by
      have h1 : ((a : Int) * 4294967296) = ((a * 4294967296 : Nat) : Int) := by simp
      rw [h1, u64_or_nat _ _ (by omega) (by omega), Nat.or_comm]
      have := Nat.shiftLeft_add_eq_or_of_lt (b := b) (i := 32) (by simpa using hw1) a
      rw [Nat.shiftLeft_eq] at this
      rw [show (4294967296 : Nat) = 2 ^ 32 from rfl, this]
    have hwr : IntKind.u64.wrap ((a : Int) * 4294967296) = (a : Int) * 4294967296 := by rw [IntKind.wrap_u64]; omega
    have HZ := Lib.hid hz0; have HA := Lib.hid ha; have HB := Lib.hid hb
    clear hz0 ha hb hw1 hw2
    cases zc : ((z : Int) != 0)
    · have HOK2 : Hid (maskOk l = true) := Lib.hid (by rw [HOK.out]; simpa using zc)
      go_enter Tryd.func17, Tryd.ntmps17
      go_upto_region 3 with (go_at_call 32; refine (rbe_any _ HL1.out.1 _).mono ?_; rintro e w1 ⟨rfl, hw⟩; rw [hw, ← HZ.out]; clear hw)
      have CB : Hid (∀ W, Calls Tryd.prog 32 #[.string (mkB (l.take 4))] W fun e w' => e = .returned (.int .u64 (b : Nat)) ∧ w' = W) := Lib.hid (fun W => by rw [HB.out]; exact rbe_any _ HL1.out.2.1 W)
      have CA : Hid (∀ W, Calls Tryd.prog 32 #[.string (mkB ((l.drop 4).take 4))] W fun e w' => e = .returned (.int .u64 (a : Nat)) ∧ w' = W) := Lib.hid (fun W => by rw [HA.out]; exact rbe_any _ HL1.out.2.2 W)
      (refine wp_region_grown (by kernel_rfl) (by kernel_rfl) ?_; (repeat (go_big_quiet_step (first | (go_at_call_of 32 (Value.string (mkB (l.take 4))); exact Calls.grown_same (CB.out _)) | (go_at_call_of 32 (Value.string (mkB ((l.drop 4).take 4))); exact Calls.grown_same (CA.out _))))); refine wpQuiet_nil ?_; intro _ hw'; obtain ⟨sG, hw''⟩ := hw'; subst hw'')
      go_wp2
      go_ret2
      exact ⟨by rw [HOK2.out, HV.out, HOK2.out]; rfl, sG.below⟩
    · have HOK2 : Hid (maskOk l = false) := Lib.hid (by rw [HOK.out]; simpa using zc)
      go_enter Tryd.func17, Tryd.ntmps17
      go_wp2_with (go_at_call 32; refine (rbe_any _ HL1.out.1 _).mono ?_; rintro e w1 ⟨rfl, hw⟩; rw [hw, ← HZ.out]; clear hw)
      go_ret2
      exact ⟨by rw [HV.out, HOK2.out]; rfl, Below.refl _ _⟩
  · have HOK : Hid (maskOk l = false) := Lib.hid (by rw [maskOk, decide_eq_false c1]; rfl)
    have HV : Hid (maskV l = 0) := Lib.hid (by rw [maskV, HOK.out]; rfl)
    have hne : ((l.length : Int) != 16) = true := by simp; omega
    clear c1
    go_enter Tryd.func17, Tryd.ntmps17
    go_wp2
    go_ret2
    exact ⟨by rw [HOK.out, HV.out]; rfl, Below.refl _ _⟩

theorem rb_is (v : Nat) (n : Int) : putBeF v n = mkB (beB v n) := (mkB_data _).symm
theorem rb_08 : beB 0 8 = beB 0 4 ++ beB 0 4 := by kernel_rfl
theorem rb_len8 (v : Nat) : (beB v 8).length = 8 := by rw [beB, putBeF, if_pos (by omega)]; simp [leL_length]

set_option maxHeartbeats 1000000 in
set_option maxRecDepth 100000 in
theorem rPutMask25 (m : Nat) (hm : m < 18446744073709551616) (w : World) :
    Calls Tryd.prog 21 #[.int .u64 m] w fun e w' => e = .returned (.string (mkB (maskB m))) ∧ Below w.heap.size w w' := by
  have hA := mkB_append
  have hZ := mkB_size
  have hB4 := bk_len
  have hB8 := rb_len8
  have hd : (m : Int) / 4294967296 = ((m / 4294967296 : Nat) : Int) := by simp
  have HM := Lib.hid hm
  have HR : Hid (beB m 4 ++ beB (m / 4294967296) 4 ++ beB 0 8 = maskB m) := Lib.hid (by rw [bk_mask, rb_08]; simp only [List.append_assoc])
  clear hm
  obtain ⟨h, hh⟩ : ∃ h, h = m / 4294967296 := ⟨_, rfl⟩
  have HH : Hid (h < 18446744073709551616) := Lib.hid (by have := HM.out; omega)
  rw [← hh] at hd HR
  clear hh
  have he : (mkB []).toList = [] := bytes_toList []
  go_enter Tryd.func21, Tryd.ntmps21
  go_wp2_with (first
    | (go_at_call_of 35 (Value.int .u64 (m : Nat)); refine (rbe25_any m HM.out 4 _).mono ?_; rintro e w1 ⟨rfl, hb1⟩; rw [rb_is])
    | (go_at_call_of 35 (Value.int .u64 (h : Nat)); refine (rbe25_any h HH.out 4 _).mono ?_; rintro e w2 ⟨rfl, hb2⟩; rw [rb_is])
    | (go_at_call 35; refine (rbe25_any 0 (by decide) 8 _).mono ?_; rintro e w3 ⟨rfl, hb3⟩; rw [rb_is]))
  go_ret
  refine ⟨?_, below_then (below_then hb1 hb2) hb3⟩
  rw [← HR.out]
  rfl

set_option maxHeartbeats 1000000 in
set_option maxRecDepth 100000 in
theorem rAction25 (l : List UInt8) (hl : l.length ≤ 140737488351232) (w : World) :
    Calls Tryd.prog 19 #[.string (mkB l)] w fun e w' => e = .returned (.tuple #[.agg (actA l), .bool (actOk l)]) ∧ Below w.heap.size w w' := by
  have hsz := mkB_size l
  by_cases c1 : l.length = 24
  · have hx : (mkB l).extract 8 24 = mkB (l.drop 8) := by have := mkB_drop l 8; rwa [mkB_size, c1] at this
    have hy : (mkB l).extract 0 4 = mkB (l.take 4) := mkB_take l 4
    have hz : (mkB l).extract 4 8 = mkB ((l.drop 4).take 4) := mkB_extract l 4 8
    have HL1 : Hid ((l.take 4).length ≤ 8 ∧ ((l.drop 4).take 4).length ≤ 8) := Lib.hid (by simp only [List.length_drop, List.length_take]; omega)
    have hsz24 : (mkB l).size = 24 := by rw [hsz, c1]
    have HC := Lib.hid c1
    have HOK : Hid (actOk l = maskOk (l.drop 8)) := Lib.hid (by rw [actOk, decide_eq_true c1]; rfl)
    clear hl hsz c1
    obtain ⟨v, hv⟩ : ∃ v, v = maskV (l.drop 8) := ⟨_, rfl⟩
    obtain ⟨ok, hok⟩ : ∃ ok, ok = maskOk (l.drop 8) := ⟨_, rfl⟩
    have HV := Lib.hid hv; have HO := Lib.hid hok
    clear hv hok
    cases okc : ok
    · have HOK2 : Hid (actOk l = false) := Lib.hid (by rw [HOK.out, ← HO.out, okc])
      have HA : Hid (actA l = actC 0 0 0) := Lib.hid (by rw [actA, HOK2.out]; rfl)
      go_enter Tryd.func19, Tryd.ntmps19
      go_upto_region 4 with (go_at_call 17; refine (rMask25 (l.drop 8) (by have := HC.out; rw [List.length_drop]; omega) _).mono ?_; rintro e w1 ⟨rfl, hb1⟩; rw [← HV.out, ← HO.out, okc])
      have g1 : Hid (w1.heap[w.heap.size]? = some (.cells (actC 0 0 0) 25)) := Lib.hid ((hb1.block _ (by simp only [heap_len]; omega)).trans (heap_new _ _ _ rfl))
      have HB1 : Hid (Below w.heap.size w w1) := Lib.hid (((Below.refl _ _).alloc (Nat.le_refl _) _).trans (hb1.mono (by simp only [heap_len]; omega)))
      have k0 := cell_at (o := 0) (v := .int .u32 0) g1.out rfl
      have k1 := cell_at (o := 1) (v := .int .u32 0) g1.out rfl
      have k2 := cell_at (o := 2) (v := .int .u64 0) g1.out rfl
      have f0 := free_at (o := 0) g1.out
      have f1 := free_at (o := 1) g1.out
      have f2 := free_at (o := 2) g1.out
      clear hb1
      go_wp2
      refine bodyPost_ret (res_cell_tmp rfl (cs := actC 0 0 0) rfl (heap_set (heap_set (heap_set g1.out))) act_agg act_size) rfl ?_
      exact ⟨by rw [HOK2.out, HA.out]; rfl, ((HB1.out.setCell (Nat.le_refl _) _).setCell (Nat.le_refl _) _).setCell (Nat.le_refl _) _⟩
    · have HOK2 : Hid (actOk l = true) := Lib.hid (by rw [HOK.out, ← HO.out, okc])
      have hx1 : beN (l.take 4) < 4294967296 := wordN_lt l
      have hy1 : beN ((l.drop 4).take 4) < 4294967296 := wordN_lt (l.drop 4)
      obtain ⟨x, hxx⟩ : ∃ x, x = beN (l.take 4) := ⟨_, rfl⟩
      obtain ⟨y, hyy⟩ : ∃ y, y = beN ((l.drop 4).take 4) := ⟨_, rfl⟩
      have HA : Hid (actA l = actC x y v) := Lib.hid (by rw [actA, HOK2.out, hxx, hyy, HV.out]; rfl)
      rw [← hxx] at hx1
      rw [← hyy] at hy1
      have hx2 : (x : Int) ≤ 4294967295 := by omega
      have hy2 : (y : Int) ≤ 4294967295 := by omega
      have HX := Lib.hid hxx; have HY := Lib.hid hyy
      have hwx : IntKind.u32.wrap (x : Int) = (x : Int) := by simp [IntKind.wrap, IntKind.signed, IntKind.bits]; omega
      have hwy : IntKind.u32.wrap (y : Int) = (y : Int) := by simp [IntKind.wrap, IntKind.signed, IntKind.bits]; omega
      clear hxx hyy hx1 hy1
      go_enter Tryd.func19, Tryd.ntmps19
      go_upto_region 6 with (go_at_call 17; refine (rMask25 (l.drop 8) (by have := HC.out; rw [List.length_drop]; omega) _).mono ?_; rintro e w1 ⟨rfl, hb1⟩; rw [← HV.out, ← HO.out, okc])
      have g1 : Hid (w1.heap[w.heap.size]? = some (.cells (actC 0 0 0) 25)) := Lib.hid ((hb1.block _ (by simp only [heap_len]; omega)).trans (heap_new _ _ _ rfl))
      have HB1 : Hid (Below w.heap.size w w1) := Lib.hid (((Below.refl _ _).alloc (Nat.le_refl _) _).trans (hb1.mono (by simp only [heap_len]; omega)))
      have k0 := cell_at (o := 0) (v := .int .u32 0) g1.out rfl
      have k1 := cell_at (o := 1) (v := .int .u32 0) g1.out rfl
      have k2 := cell_at (o := 2) (v := .int .u64 0) g1.out rfl
      have f0 := free_at (o := 0) g1.out
      have f1 := free_at (o := 1) g1.out
      have f2 := free_at (o := 2) g1.out
      clear hb1
      go_region_with (first
        | (go_at_call_of 32 (Value.string (mkB (l.take 4))); refine (rbe_any _ HL1.out.1 _).mono ?_; rintro e w3 ⟨rfl, hw⟩; rw [hw, ← HX.out]; clear hw)
        | (go_at_call_of 32 (Value.string (mkB ((l.drop 4).take 4))); refine (rbe_any _ HL1.out.2 _).mono ?_; rintro e w4 ⟨rfl, hw⟩; rw [hw, ← HY.out]; clear hw))
      all_goals
        go_wp2
        refine bodyPost_ret (res_cell_tmp rfl (cs := actC x y v) rfl (act_row g1.out) act_agg act_size) rfl ?_
        exact ⟨by rw [HOK2.out, HA.out]; rfl, ((HB1.out.drew.setCell (Nat.le_refl _) _).setCell (Nat.le_refl _) _).setCell (Nat.le_refl _) _⟩
  · have HOK : Hid (actOk l = false) := Lib.hid (by rw [actOk, decide_eq_false c1]; rfl)
    have HA : Hid (actA l = actC 0 0 0) := Lib.hid (by rw [actA, HOK.out]; rfl)
    have hne : ((l.length : Int) != 24) = true := by simp; omega
    clear c1
    go_enter Tryd.func19, Tryd.ntmps19
    go_wp2
    refine bodyPost_ret (res_cell_tmp rfl (cs := actC 0 0 0) rfl (heap_new _ _ _ rfl) act_agg act_size) rfl ?_
    exact ⟨by rw [HOK.out, HA.out]; rfl, (Below.refl _ _).alloc (Nat.le_refl _) _⟩
end Go.Proofs.YtofeamajoahjmaaDoor
