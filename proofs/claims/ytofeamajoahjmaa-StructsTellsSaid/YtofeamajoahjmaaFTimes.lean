/-
  ferrylaw25.StructsTimes: the walk.
-/
import Derived.Test.YtofeamajoahjmaaFAwake25
import Derived.Test.YtofeamajoahjmaaFRef1
namespace Go.Proofs.Ytofeamajoahjmaa
open Go Go.RowKit
set_option linter.unusedVariables false
set_option linter.unusedSimpArgs false

def lt31 (m : Nat) : Bool := decide (m < 2147483648)
def ltE9 (m : Nat) : Bool := decide (m < 1000000000)
theorem lt31_is (m : Nat) : decide ((m : Int) < 2147483648) = lt31 m := decide_eq_decide.2 (by omega)
theorem ltE9_is (m : Nat) : decide ((m : Int) < 1000000000) = ltE9 m := decide_eq_decide.2 (by omega)

theorem leL_zero (v : Nat) : leL 0 v = [] := rfl
theorem beN_leL : ∀ (n v : Nat), beN (leL n v).reverse = v % 256 ^ n
  | 0, v => by simp [leL, beN]; omega
  | n + 1, v => by
    have ih := beN_leL n (v / 256)
    rw [leL, List.reverse_cons, beN_snoc, ih, toNat_ofNat8 _ (Nat.mod_lt _ (by decide))]
    rw [Nat.pow_succ, Nat.mul_comm (256 ^ n) 256, Nat.mod_mul, Nat.mul_comm, Nat.add_comm]

def timesIn (s n : Nat) : List UInt8 := leL 8 s ++ leL 8 n
theorem times_len (s n : Nat) : (timesIn s n).length = 16 := by rw [timesIn, List.length_append, leL_length, leL_length]
theorem leN_leL8 (s : Nat) (hs : s < 18446744073709551616) : leN (leL 8 s) = s := by
  rw [leN, beN_leL]; exact Nat.mod_eq_of_lt hs
theorem times_take (s n : Nat) (hs : s < 18446744073709551616) : leN ((timesIn s n).take 8) = s := by
  rw [timesIn, List.take_left' (leL_length 8 s), leN_leL8 s hs]
theorem times_drop (s n : Nat) (hn : n < 18446744073709551616) : leN ((timesIn s n).drop 8) = n := by
  rw [timesIn, List.drop_left' (leL_length 8 s), leN_leL8 n hn]
theorem times_ok (s n : Nat) (hs : s < 18446744073709551616) (hn : n < 18446744073709551616) : timeOk (timesIn s n) = (decide (s < 2147483648) && decide (n < 1000000000)) := by
  rw [timeOk, times_take s n hs, times_drop s n hn, times_len]; rfl
theorem times_is (s n : Nat) (hs : s < 2147483648) (hn : n < 1000000000) : timeF (timesIn s n) = beB s 4 ++ beB n 4 := by
  have h0 : s < 18446744073709551616 := by omega
  have h1 : n < 18446744073709551616 := by omega
  rw [timeF, times_ok s n h0 h1, decide_eq_true hs, decide_eq_true hn, times_take s n h0, times_drop s n h1]; rfl
theorem beB_len (v : Nat) : (beB v 4).length = 4 := by
  rw [beB, putBeF, if_pos (by omega)]; simp [leL_length]
theorem beB_len8 (v : Nat) : (beB v 8).length = 8 := by
  rw [beB, putBeF, if_pos (by omega)]; simp [leL_length]
theorem beN_beB4 (v : Nat) (h : v < 4294967296) : beN (beB v 4) = v := by
  rw [beB, putBeF, if_pos (by omega)]
  show beN (leL 4 v).reverse.toArray.toList = v
  rw [List.toList_toArray, beN_leL]; exact Nat.mod_eq_of_lt h
def vecsIn (a k : Nat) : List UInt8 := beB a 4 ++ beB k 4 ++ beB 0 8
theorem vecsIn_length (a k : Nat) : (vecsIn a k).length = 16 := by
  rw [vecsIn, List.length_append, List.length_append, beB_len, beB_len, beB_len8]
theorem vecsIn_take (a k : Nat) (ha : a < 4294967296) : wordN (vecsIn a k) = a := by
  rw [wordN, vecsIn, List.append_assoc, List.take_left' (beB_len a), beN_beB4 a ha]
theorem vecsIn_drop4 (a k : Nat) : (vecsIn a k).drop 4 = beB k 4 ++ beB 0 8 := by
  rw [vecsIn, List.append_assoc, List.drop_left' (beB_len a)]
theorem vecsIn_drop8 (a k : Nat) : (vecsIn a k).drop 8 = beB 0 8 := by
  rw [vecsIn, List.drop_left' (by rw [List.length_append, beB_len, beB_len])]
theorem vecsIn_is (a k : Nat) (ha : a < 4294967296) (hk : k < 65536) : vecsF (vecsIn a k) = some [(a, k), (0, 0)] := by
  have h1 : vecsOk (vecsIn a k) = true := by rw [vecsOk, vecsIn_length]; rfl
  have h2 : wordN (beB k 4 ++ beB 0 8) = k := by rw [wordN, List.take_left' (beB_len k), beN_beB4 k (by omega)]
  have h3 : vecsG 1 (beB 0 8) (65536 - k) = some [(0, 0)] := by
    have e1 : wordN (beB 0 8) = 0 := by kernel_rfl
    have e2 : wordN ((beB 0 8).drop 4) = 0 := by kernel_rfl
    rw [vecsG, e1, e2, if_neg (by omega)]; rfl
  rw [vecsF, h1, if_pos rfl, vecsIn_length]
  show vecsG (1 + 1) _ _ = _
  rw [vecsG, vecsIn_drop4, vecsIn_drop8, h2, vecsIn_take a k ha, if_neg (by omega), h3]; rfl
theorem beB_is (v : Nat) (n : Int) : putBeF v n = mkB (beB v n) := (mkB_data _).symm
theorem leB_is (v : Nat) : putLeF v 8 = mkB (leL 8 v) := by rw [putLeF, if_pos (by omega)]; rfl

set_option maxHeartbeats 4000000 in
set_option maxRecDepth 100000 in
theorem times_walk (s n a k : Nat) (hs : s < 18446744073709551616) (hn : n < 18446744073709551616) (ha : a < 4294967296) (hk : k < 65536) (w : World) :
    Calls Try.prog 4 #[.int .u64 s, .int .u64 n, .int .u32 a, .int .u16 k] w fun e w' => e = .returned (.bool true) ∧ Below w.heap.size w w' := by
  have HS := Lib.hid hs; have HN := Lib.hid hn
  have HOK := Lib.hid (times_ok s n hs hn)
  obtain ⟨A, hA⟩ : ∃ A, putLeF s 8 = A := ⟨_, rfl⟩
  obtain ⟨B, hB⟩ : ∃ B, putLeF n 8 = B := ⟨_, rfl⟩
  obtain ⟨L, hL⟩ : ∃ L, L = timesIn s n := ⟨_, rfl⟩
  have hAB : A ++ B = mkB L := by rw [← hA, ← hB, leB_is, leB_is, mkB_append, hL]; rfl
  have hLl : Hid (L.length ≤ 140737488351232) := Lib.hid (by rw [hL, timesIn, List.length_append, leL_length, leL_length]; omega)
  obtain ⟨C, hC⟩ : ∃ C, putBeF s 4 = C := ⟨_, rfl⟩
  obtain ⟨D, hD⟩ : ∃ D, putBeF n 4 = D := ⟨_, rfl⟩
  have hT : Hid (s < 2147483648 → n < 1000000000 → timeF L = beB s 4 ++ beB n 4) := Lib.hid (by rw [hL]; exact times_is s n)
  have hCD : Hid (C ++ D = mkB (beB s 4 ++ beB n 4)) := Lib.hid (by rw [← hC, ← hD, beB_is, beB_is, mkB_append])
  rw [← hL] at HOK
  have zA : A.size = 8 := by rw [← hA, leB_is, mkB_size, leL_length]
  have zB : B.size = 8 := by rw [← hB, leB_is, mkB_size, leL_length]
  have zC : C.size = 4 := by rw [← hC, beB_is, mkB_size, beB_len]
  have zD : D.size = 4 := by rw [← hD, beB_is, mkB_size, beB_len]
  replace hA := Lib.hid hA; replace hB := Lib.hid hB; replace hC := Lib.hid hC; replace hD := Lib.hid hD; replace hL := Lib.hid hL
  obtain ⟨X, hX⟩ : ∃ X, putBeF a 4 = X := ⟨_, rfl⟩
  obtain ⟨Y, hY⟩ : ∃ Y, putBeF k 4 = Y := ⟨_, rfl⟩
  obtain ⟨Z, hZ⟩ : ∃ Z, putBeF 0 8 = Z := ⟨_, rfl⟩
  obtain ⟨V, hV⟩ : ∃ V, V = vecsIn a k := ⟨_, rfl⟩
  have hXYZ : X ++ Y ++ Z = mkB V := by rw [← hX, ← hY, ← hZ, beB_is, beB_is, beB_is, mkB_append, mkB_append, hV]; rfl
  have hVl : Hid (V.length ≤ 140737488351232) := Lib.hid (by rw [hV, vecsIn_length]; omega)
  have hVF : Hid (vecsF V = some [(a, k), (0, 0)]) := Lib.hid (by rw [hV]; exact vecsIn_is a k ha hk)
  have zX : X.size = 4 := by rw [← hX, beB_is, mkB_size, beB_len]
  have zY : Y.size = 4 := by rw [← hY, beB_is, mkB_size, beB_len]
  have zZ : Z.size = 8 := by rw [← hZ, beB_is, mkB_size, beB_len8]
  have zXY : (X ++ Y).size = 8 := by rw [ByteArray.size_append, zX, zY]
  replace hX := Lib.hid hX; replace hY := Lib.hid hY; replace hZ := Lib.hid hZ; replace hV := Lib.hid hV
  have HA := Lib.hid ha; have HK := Lib.hid hk
  have ka : (a : Int) ≤ 4294967295 := by omega
  have kk : (k : Int) ≤ 65535 := by omega
  clear hs hn ha hk
  go_enter Try.func4, Try.ntmps4
  go_upto_region 2 with (first
    | (go_at_call_of 12 (Value.int .u64 (s : Nat)); refine (rputLe_any s HS.out 8 _).mono ?_; rintro e w1 ⟨rfl, hb1⟩; rw [hA.out])
    | (go_at_call_of 12 (Value.int .u64 (n : Nat)); refine (rputLe_any n HN.out 8 _).mono ?_; rintro e w2 ⟨rfl, hb2⟩; rw [hB.out])
    | (go_at_call 11; refine (time_any L hLl.out _).mono ?_; rintro e w3 ⟨rfl, hb3⟩; rw [HOK.out]))
  have HB3 : Hid (Below w.heap.size w w3) := Lib.hid (below_then (below_then hb1 hb2) hb3)
  clear hb1 hb2 hb3
  have hb1 : lt31 s = decide (s < 2147483648) := rfl
  have hb2 : ltE9 n = decide (n < 1000000000) := rfl
  rw [← hb1, ← hb2]
  have hb1' := lt31_is
  have hb2' := ltE9_is
  have HX1 := Lib.hid hb1; have HX2 := Lib.hid hb2
  clear hb1 hb2
  have hnil : Hid (lt31 s = false ∨ ltE9 n = false → timeF L = []) := Lib.hid (fun h => by
    have h1 := HOK.out
    rw [← HX1.out, ← HX2.out] at h1
    have : (lt31 s && ltE9 n) = false := by rcases h with h | h <;> simp [h]
    rw [timeF, h1, this]; rfl)
  have hyes : Hid (lt31 s = true → ltE9 n = true → mkB (timeF L) = C ++ D) := Lib.hid (fun h1 h2 => by
    rw [hT.out (of_decide_eq_true (HX1.out.symm.trans h1)) (of_decide_eq_true (HX2.out.symm.trans h2)), hCD.out])
  have h12 : lt31 s = true ∧ ltE9 n = true ∨ lt31 s = true ∧ ltE9 n = false ∨ lt31 s = false ∧ ltE9 n = true ∨ lt31 s = false ∧ ltE9 n = false := by cases lt31 s <;> cases ltE9 n <;> simp
  have he : (mkB []).toList.isEmpty = true := by rw [bytes_toList]; rfl
  rcases h12 with ⟨v1, v2⟩ | ⟨v1, v2⟩ | ⟨v1, v2⟩ | ⟨v1, v2⟩
  · have hE : mkB (timeF L) = C ++ D := hyes.out v1 v2
    rw [hE]
    go_upto_region 4 with (first
      | (go_at_call_of 13 (Value.int .u64 (s : Nat)); refine (rputBe_any s HS.out 4 _).mono ?_; rintro e w1 ⟨rfl, hb1⟩; rw [hC.out])
      | (go_at_call_of 13 (Value.int .u64 (n : Nat)); refine (rputBe_any n HN.out 4 _).mono ?_; rintro e w2 ⟨rfl, hb2⟩; rw [hD.out]))
    replace HB3 : Hid (Below w.heap.size w w2) := Lib.hid (below_then (below_then HB3.out hb1) hb2)
    clear hb1 hb2
    clear hE he v1 v2 hyes hnil
    go_upto_region 5 with (first
      | (go_at_call_of 13 (Value.int .u64 (a : Nat)); refine (rputBe_any a (Nat.lt_trans HA.out (by decide)) 4 _).mono ?_; rintro e w4 ⟨rfl, hb4⟩; rw [hX.out])
      | (go_at_call_of 13 (Value.int .u64 (k : Nat)); refine (rputBe_any k (Nat.lt_trans HK.out (by decide)) 4 _).mono ?_; rintro e w5 ⟨rfl, hb5⟩; rw [hY.out])
      | (go_at_call_of 13 (Value.int .u64 0); refine (rputBe_any 0 (by decide) 8 _).mono ?_; rintro e w6 ⟨rfl, hb6⟩; rw [hZ.out])
      | (go_at_call 14; refine (vecs_any V hVl.out _).mono ?_; rintro e w7 ⟨⟨v, rfl, hv⟩, hb7⟩))
    have hsome : (vecsF V).isSome = true := by rw [hVF.out]; rfl
    rw [hsome]
    have hown : w7.ownsRow w6.heap.size 47 2 v 2 (vecV [(a, k), (0, 0)]) := by
      rcases hv with ⟨ps, hps, hown⟩ | ⟨h0, _⟩
      · rw [hVF.out] at hps
        obtain rfl := Option.some.inj hps
        exact hown
      · rw [hVF.out] at h0; cases h0
    clear hv hsome
    obtain ⟨g, cap, rfl⟩ := own_some (n := 2) hown (by omega)
    have c0 : w7.cell? ⟨g, 0, none⟩ = some (.int .u32 (a : Nat)) := hown.cellAt 0 (by omega)
    have c1 : w7.cell? ⟨g, 1, none⟩ = some (.int .u32 (k : Nat)) := hown.cellAt 1 (by omega)
    have c3 : w7.cell? ⟨g, 3, none⟩ = some (.int .u32 0) := hown.cellAt 3 (by omega)
    replace HB3 : Hid (Below w.heap.size w w7) := Lib.hid (below_then (below_then (below_then (below_then HB3.out hb4) hb5) hb6) hb7)
    clear hown hb4 hb5 hb6 hb7
    go_wp2_with (go_at_call 15; refine (awake25_any _).mono ?_; rintro e w8 ⟨rfl, hb8⟩)
    go_ret
    exact ⟨rfl, below_then HB3.out hb8⟩
  · have hE : mkB (timeF L) = mkB [] := by rw [hnil.out (.inr v2)]
    rw [hE]
    go_upto_region 4 with fail
    clear hE he v1 v2 hyes hnil
    go_upto_region 5 with (first
      | (go_at_call_of 13 (Value.int .u64 (a : Nat)); refine (rputBe_any a (Nat.lt_trans HA.out (by decide)) 4 _).mono ?_; rintro e w4 ⟨rfl, hb4⟩; rw [hX.out])
      | (go_at_call_of 13 (Value.int .u64 (k : Nat)); refine (rputBe_any k (Nat.lt_trans HK.out (by decide)) 4 _).mono ?_; rintro e w5 ⟨rfl, hb5⟩; rw [hY.out])
      | (go_at_call_of 13 (Value.int .u64 0); refine (rputBe_any 0 (by decide) 8 _).mono ?_; rintro e w6 ⟨rfl, hb6⟩; rw [hZ.out])
      | (go_at_call 14; refine (vecs_any V hVl.out _).mono ?_; rintro e w7 ⟨⟨v, rfl, hv⟩, hb7⟩))
    have hsome : (vecsF V).isSome = true := by rw [hVF.out]; rfl
    rw [hsome]
    have hown : w7.ownsRow w6.heap.size 47 2 v 2 (vecV [(a, k), (0, 0)]) := by
      rcases hv with ⟨ps, hps, hown⟩ | ⟨h0, _⟩
      · rw [hVF.out] at hps
        obtain rfl := Option.some.inj hps
        exact hown
      · rw [hVF.out] at h0; cases h0
    clear hv hsome
    obtain ⟨g, cap, rfl⟩ := own_some (n := 2) hown (by omega)
    have c0 : w7.cell? ⟨g, 0, none⟩ = some (.int .u32 (a : Nat)) := hown.cellAt 0 (by omega)
    have c1 : w7.cell? ⟨g, 1, none⟩ = some (.int .u32 (k : Nat)) := hown.cellAt 1 (by omega)
    have c3 : w7.cell? ⟨g, 3, none⟩ = some (.int .u32 0) := hown.cellAt 3 (by omega)
    replace HB3 : Hid (Below w.heap.size w w7) := Lib.hid (below_then (below_then (below_then (below_then HB3.out hb4) hb5) hb6) hb7)
    clear hown hb4 hb5 hb6 hb7
    go_wp2_with (go_at_call 15; refine (awake25_any _).mono ?_; rintro e w8 ⟨rfl, hb8⟩)
    go_ret
    exact ⟨rfl, below_then HB3.out hb8⟩
  · have hE : mkB (timeF L) = mkB [] := by rw [hnil.out (.inl v1)]
    rw [hE]
    go_upto_region 4 with fail
    clear hE he v1 v2 hyes hnil
    go_upto_region 5 with (first
      | (go_at_call_of 13 (Value.int .u64 (a : Nat)); refine (rputBe_any a (Nat.lt_trans HA.out (by decide)) 4 _).mono ?_; rintro e w4 ⟨rfl, hb4⟩; rw [hX.out])
      | (go_at_call_of 13 (Value.int .u64 (k : Nat)); refine (rputBe_any k (Nat.lt_trans HK.out (by decide)) 4 _).mono ?_; rintro e w5 ⟨rfl, hb5⟩; rw [hY.out])
      | (go_at_call_of 13 (Value.int .u64 0); refine (rputBe_any 0 (by decide) 8 _).mono ?_; rintro e w6 ⟨rfl, hb6⟩; rw [hZ.out])
      | (go_at_call 14; refine (vecs_any V hVl.out _).mono ?_; rintro e w7 ⟨⟨v, rfl, hv⟩, hb7⟩))
    have hsome : (vecsF V).isSome = true := by rw [hVF.out]; rfl
    rw [hsome]
    have hown : w7.ownsRow w6.heap.size 47 2 v 2 (vecV [(a, k), (0, 0)]) := by
      rcases hv with ⟨ps, hps, hown⟩ | ⟨h0, _⟩
      · rw [hVF.out] at hps
        obtain rfl := Option.some.inj hps
        exact hown
      · rw [hVF.out] at h0; cases h0
    clear hv hsome
    obtain ⟨g, cap, rfl⟩ := own_some (n := 2) hown (by omega)
    have c0 : w7.cell? ⟨g, 0, none⟩ = some (.int .u32 (a : Nat)) := hown.cellAt 0 (by omega)
    have c1 : w7.cell? ⟨g, 1, none⟩ = some (.int .u32 (k : Nat)) := hown.cellAt 1 (by omega)
    have c3 : w7.cell? ⟨g, 3, none⟩ = some (.int .u32 0) := hown.cellAt 3 (by omega)
    replace HB3 : Hid (Below w.heap.size w w7) := Lib.hid (below_then (below_then (below_then (below_then HB3.out hb4) hb5) hb6) hb7)
    clear hown hb4 hb5 hb6 hb7
    go_wp2_with (go_at_call 15; refine (awake25_any _).mono ?_; rintro e w8 ⟨rfl, hb8⟩)
    go_ret
    exact ⟨rfl, below_then HB3.out hb8⟩
  · have hE : mkB (timeF L) = mkB [] := by rw [hnil.out (.inl v1)]
    rw [hE]
    go_upto_region 4 with fail
    clear hE he v1 v2 hyes hnil
    go_upto_region 5 with (first
      | (go_at_call_of 13 (Value.int .u64 (a : Nat)); refine (rputBe_any a (Nat.lt_trans HA.out (by decide)) 4 _).mono ?_; rintro e w4 ⟨rfl, hb4⟩; rw [hX.out])
      | (go_at_call_of 13 (Value.int .u64 (k : Nat)); refine (rputBe_any k (Nat.lt_trans HK.out (by decide)) 4 _).mono ?_; rintro e w5 ⟨rfl, hb5⟩; rw [hY.out])
      | (go_at_call_of 13 (Value.int .u64 0); refine (rputBe_any 0 (by decide) 8 _).mono ?_; rintro e w6 ⟨rfl, hb6⟩; rw [hZ.out])
      | (go_at_call 14; refine (vecs_any V hVl.out _).mono ?_; rintro e w7 ⟨⟨v, rfl, hv⟩, hb7⟩))
    have hsome : (vecsF V).isSome = true := by rw [hVF.out]; rfl
    rw [hsome]
    have hown : w7.ownsRow w6.heap.size 47 2 v 2 (vecV [(a, k), (0, 0)]) := by
      rcases hv with ⟨ps, hps, hown⟩ | ⟨h0, _⟩
      · rw [hVF.out] at hps
        obtain rfl := Option.some.inj hps
        exact hown
      · rw [hVF.out] at h0; cases h0
    clear hv hsome
    obtain ⟨g, cap, rfl⟩ := own_some (n := 2) hown (by omega)
    have c0 : w7.cell? ⟨g, 0, none⟩ = some (.int .u32 (a : Nat)) := hown.cellAt 0 (by omega)
    have c1 : w7.cell? ⟨g, 1, none⟩ = some (.int .u32 (k : Nat)) := hown.cellAt 1 (by omega)
    have c3 : w7.cell? ⟨g, 3, none⟩ = some (.int .u32 0) := hown.cellAt 3 (by omega)
    replace HB3 : Hid (Below w.heap.size w w7) := Lib.hid (below_then (below_then (below_then (below_then HB3.out hb4) hb5) hb6) hb7)
    clear hown hb4 hb5 hb6 hb7
    go_wp2_with (go_at_call 15; refine (awake25_any _).mono ?_; rintro e w8 ⟨rfl, hb8⟩)
    go_ret
    exact ⟨rfl, below_then HB3.out hb8⟩
end Go.Proofs.Ytofeamajoahjmaa
