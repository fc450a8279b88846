/-
  StructsBack: signals and actions as bytes are read as they are, and bytes that are read are theirs.
-/
import Derived.Test.YtofeamajoahjmaaDoorFMask25
import Derived.Test.YtofeamajoahjmaaDoorFSig
namespace Go.Proofs.YtofeamajoahjmaaDoor
open Go Go.RowKit
set_option linter.unusedVariables false
set_option linter.unusedSimpArgs false

theorem bk_beN_leL : ∀ (n v : Nat), beN (leL n v).reverse = v % 256 ^ n
  | 0, v => by simp [leL, beN]; omega
  | n + 1, v => by
    have ih := bk_beN_leL n (v / 256)
    rw [leL, List.reverse_cons, beN_snoc, ih, toNat_ofNat8 _ (Nat.mod_lt _ (by decide))]
    rw [Nat.pow_succ, Nat.mul_comm (256 ^ n) 256, Nat.mod_mul, Nat.mul_comm, Nat.add_comm]
theorem bk_leL_leN : ∀ (b : List UInt8), leL b.length (leN b) = b
  | [] => rfl
  | x :: b => by
    have ih := bk_leL_leN b
    have h : leN (x :: b) = leN b * 256 + x.toNat := by rw [leN, List.reverse_cons, beN_snoc]; rfl
    have hx : x.toNat < 256 := UInt8.toNat_lt x
    have h1 : (leN b * 256 + x.toNat) % 256 = x.toNat := by omega
    have h2 : (leN b * 256 + x.toNat) / 256 = leN b := by omega
    rw [List.length_cons, leL, h, h1, h2, ih]
    congr 1
    exact UInt8.ofNat_toNat ..
theorem bk_beB (v : Nat) : beB v 4 = (leL 4 v).reverse := by rw [beB, putBeF, if_pos (by omega)]; rfl
theorem bk_len (v : Nat) : (beB v 4).length = 4 := by rw [bk_beB]; simp [leL_length]
theorem bk_num (v : Nat) : beN (beB v 4) = v % 4294967296 := by rw [bk_beB, bk_beN_leL]
theorem bk_back (b : List UInt8) (h : b.length = 4) : beB (beN b) 4 = b := by
  have h1 := bk_leL_leN b.reverse
  rw [List.length_reverse, h, leN, List.reverse_reverse] at h1
  rw [bk_beB, h1, List.reverse_reverse]
theorem bk_mod (v : Nat) : beB v 4 = beB (v % 4294967296) 4 := by
  have := bk_back (beB v 4) (bk_len v)
  rw [bk_num] at this
  exact this.symm
theorem bk_take (a r : List UInt8) (h : a.length = 4) : (a ++ r).take 4 = a := by rw [← h, List.take_left]
theorem bk_drop (a r : List UInt8) (h : a.length = 4) : (a ++ r).drop 4 = r := by rw [← h, List.drop_left]
theorem bk_drop8 (l : List UInt8) : l.drop 8 = (l.drop 4).drop 4 := by rw [List.drop_drop]
theorem bk_mask (m : Nat) : maskB m = beB m 4 ++ (beB (m / 4294967296) 4 ++ (beB 0 4 ++ beB 0 4)) := by simp [maskB, wordsB]
theorem bk_zero : trimL (trimR (beB 0 4 ++ beB 0 4)) = [] := by kernel_rfl

theorem mask_there (m : Nat) (hm : m < 18446744073709551616) : maskOk (maskB m) = true ∧ maskV (maskB m) = m := by
  have hok : maskOk (maskB m) = true := by
    rw [maskOk, bk_mask, bk_drop8, bk_drop _ _ (bk_len _), bk_drop _ _ (bk_len _), bk_zero]
    simp [bk_len]
  refine ⟨hok, ?_⟩
  rw [maskV, if_pos hok, wordN, wordN, bk_mask, bk_drop _ _ (bk_len _), bk_take _ _ (bk_len _), bk_take _ _ (bk_len _), bk_num, bk_num]
  omega
theorem zeros8 {d : List UInt8} (hd : d.length = 8) (h : ∀ c ∈ d, c = 0) : d = beB 0 4 ++ beB 0 4 := by
  have h1 : d = List.replicate 8 0 := by rw [← hd]; exact List.eq_replicate_iff.2 ⟨rfl, h⟩
  have h2 : List.replicate 8 (0 : UInt8) = beB 0 4 ++ beB 0 4 := by kernel_rfl
  exact h1.trans h2
theorem parts4 (l : List UInt8) : l = l.take 4 ++ l.drop 4 := (List.take_append_drop 4 l).symm
theorem mask_back {l : List UInt8} (h : maskOk l = true) : maskB (maskV l) = l := by
  have hV : maskV l = wordN (l.drop 4) * 4294967296 + wordN l := by rw [maskV, if_pos h]
  simp only [maskOk, Bool.and_eq_true, decide_eq_true_eq] at h
  obtain ⟨h16, ht⟩ := h
  have ht' : trimL (trimR (l.drop 8)) = [] := by simpa using ht
  have hz := zeros8 (by rw [List.length_drop]; omega) ((trim_nil _).1 ht')
  have hlo := wordN_lt l
  have hhi := wordN_lt (l.drop 4)
  rw [bk_mask, hV, bk_mod, show (wordN (l.drop 4) * 4294967296 + wordN l) % 4294967296 = wordN l by omega, show (wordN (l.drop 4) * 4294967296 + wordN l) / 4294967296 = wordN (l.drop 4) by omega]
  rw [wordN, wordN, bk_back _ (by rw [List.length_take]; omega), bk_back _ (by rw [List.length_take, List.length_drop]; omega), ← hz, bk_drop8, ← parts4, ← parts4]
theorem maskV_lt (l : List UInt8) : maskV l < 18446744073709551616 := by
  have hlo := wordN_lt l
  have hhi := wordN_lt (l.drop 4)
  rw [maskV]; split <;> omega
theorem bk_act (x y v : Nat) : actB x y v = beB x 4 ++ (beB y 4 ++ maskB v) := by simp [actB, wordsB]
theorem mask_len (v : Nat) : (maskB v).length = 16 := by rw [bk_mask]; simp [bk_len]
theorem act_there (x y v : Nat) (hx : x < 4294967296) (hy : y < 4294967296) (hv : v < 18446744073709551616) : actOk (actB x y v) = true ∧ actA (actB x y v) = actC x y v := by
  have hd : (actB x y v).drop 8 = maskB v := by rw [bk_act, bk_drop8, bk_drop _ _ (bk_len _), bk_drop _ _ (bk_len _)]
  have hok : actOk (actB x y v) = true := by
    rw [actOk, hd, (mask_there v hv).1, bk_act]
    simp [bk_len, mask_len]
  refine ⟨hok, ?_⟩
  rw [actA, if_pos hok, hd, (mask_there v hv).2, wordN, wordN, bk_act, bk_drop _ _ (bk_len _), bk_take _ _ (bk_len _), bk_take _ _ (bk_len _), bk_num, bk_num, Nat.mod_eq_of_lt hx, Nat.mod_eq_of_lt hy]
theorem act_back {l : List UInt8} (h : actOk l = true) : actB (wordN l) (wordN (l.drop 4)) (maskV (l.drop 8)) = l := by
  simp only [actOk, Bool.and_eq_true, decide_eq_true_eq] at h
  obtain ⟨h24, hm⟩ := h
  rw [bk_act, mask_back hm, wordN, wordN, bk_back _ (by rw [List.length_take]; omega), bk_back _ (by rw [List.length_take, List.length_drop]; omega), bk_drop8, ← parts4, ← parts4]

theorem actC_fits (x y v : Nat) (hx : x < 4294967296) (hy : y < 4294967296) (hv : v < 18446744073709551616) : Fits actK (actC x y v).toList :=
  ⟨⟨_, rfl, wf_u32.2 (by omega)⟩, ⟨_, rfl, wf_u32.2 (by omega)⟩, ⟨_, rfl, wf_u64.2 (by omega)⟩, trivial⟩
theorem actA_fits (l : List UInt8) : Fits actK (actA l).toList := by
  rw [actA]
  split
  · exact actC_fits _ _ _ (wordN_lt _) (wordN_lt _) (maskV_lt _)
  · exact actC_fits 0 0 0 (by omega) (by omega) (by omega)
theorem act_size' : (Tryd.prog.info? 25).map (·.size) = some actK.length := act_size
theorem actA_size (l : List UInt8) : (Tryd.prog.info? 25).map (·.size) = some (actA l).size := by rw [(actA_fits l).arr_size]; exact act_size

set_option maxHeartbeats 3000000 in
set_option maxRecDepth 100000 in
theorem back_walk (m : Nat) (hm : m < 18446744073709551616) (x y v : Nat) (hx : x < 4294967296) (hy : y < 4294967296) (hv : v < 18446744073709551616) (k l : List UInt8) (hk : k.length ≤ 140737488351232) (hl : l.length ≤ 140737488351232) (w : World) :
    Calls Tryd.prog 7 #[.int .u64 m, .agg (actC x y v), .string (mkB k), .string (mkB l)] w fun e w' => e = .returned (.bool true) ∧ Below w.heap.size w w' := by
  have M1 := Lib.hid (mask_there m hm)
  have A1 := Lib.hid (act_there x y v hx hy hv)
  have F := Lib.hid (actC_fits x y v hx hy hv)
  have F0 := Lib.hid (actC_fits 0 0 0 (by omega) (by omega) (by omega))
  have HM := Lib.hid hm
  have HP : Hid (∀ W, Calls Tryd.prog 22 #[.agg (actC x y v)] W fun e w' => e = .returned (.string (mkB (actB x y v))) ∧ Below W.heap.size W w') := Lib.hid (sPutAction x y v hx hy hv)
  have HS1 : Hid ((maskB m).length ≤ 140737488351232) := Lib.hid (by rw [mask_len]; omega)
  have HS2 : Hid ((actB x y v).length ≤ 140737488351232) := Lib.hid (by rw [bk_act]; simp [bk_len, mask_len])
  have HK := Lib.hid hk; have HL := Lib.hid hl
  have hgt : Tryd.prog.eqGuardType Tryd.prog.depth 25 = false := by kernel_rfl
  have q1 : ∀ W, (Op.equalIn 10000 25 (.agg (actC x y v)) (.agg (actC x y v))).run Tryd.prog W = .ok true W := fun W => by
    rw [eq_flat' act_flat (by kernel_rfl) (by omega) F.out F.out W, (cellsEq_iff F.out F.out).2 rfl]
  have z25 : ∀ W, (zeroValue 25).run Tryd.prog W = .ok (.agg (actC 0 0 0)) W := (zero_of_info (n := 3) (by kernel_rfl)).1
  clear hm hx hy hv hk hl
  go_enter Tryd.func7, Tryd.ntmps7
  go_upto_region 2 with (first
    | (go_at_call 20; refine (putMask_any m HM.out _).mono ?_; rintro e w1 ⟨rfl, hb1⟩)
    | (go_at_call 16; refine (sMask (maskB m) HS1.out _).mono ?_; rintro e w2 ⟨rfl, hb2⟩; rw [M1.out.1, M1.out.2]))
  have G2 : Hid (w2.heap[w.heap.size]? = some (.cells (actC x y v) 25)) := Lib.hid ((hb2.block _ (Nat.lt_of_lt_of_le (by rw [heap_len]; omega) hb1.size)).trans ((hb1.block _ (by rw [heap_len]; omega)).trans (heap_new _ _ _ rfl)))
  have HB2 : Hid (Below w.heap.size w w2) := Lib.hid (below_then (((Below.refl _ w).alloc (Nat.le_refl _) _).trans (hb1.mono (by rw [heap_len]; omega))) hb2)
  clear hb1 hb2
  go_upto_region 3 with (first
    | (refine wpl_load 25 ?_; refine LoadGoal.of (actC x y v) rfl G2.out act_agg act_size rfl ?_)
    | (go_at_call 22; refine (HP.out _).mono ?_; rintro e w3 ⟨rfl, hb3⟩)
    | (go_at_call 18; refine (sAction (actB x y v) HS2.out _).mono ?_; rintro e w4 ⟨rfl, hb4⟩; rw [A1.out.1, A1.out.2])
    | (refine wpl_store 25 ?_; refine StoreGoal.of (actC x y v) (actC 0 0 0) rfl rfl (heap_new _ _ _ rfl) F.out F0.out act_size' ?_))
  obtain ⟨W4, hW4⟩ : ∃ W4, W4 = (w4.alloc (.cells (actC 0 0 0) 25)).setRow w4.heap.size (actC x y v) := ⟨_, rfl⟩
  obtain ⟨b4, hb⟩ : ∃ b4, b4 = w4.heap.size := ⟨_, rfl⟩
  have hbb := below_then (below_then HB2.out hb3) hb4
  have hlt4 : w.heap.size < b4 := by rw [hb]; exact Nat.lt_of_lt_of_le (heap_lt G2.out) (Nat.le_trans hb3.size hb4.size)
  have L1 : Hid (W4.heap[w.heap.size]? = some (.cells (actC x y v) 25)) := Lib.hid (by rw [hW4]; exact (row_ne _ _ _ _ (by omega)).trans ((heap_old _ _ _ (by omega)).trans ((hb4.block _ (Nat.lt_of_lt_of_le (heap_lt G2.out) hb3.size)).trans ((hb3.block _ (heap_lt G2.out)).trans G2.out))))
  have L2 : Hid (W4.heap[b4]? = some (.cells (actC x y v) 25)) := Lib.hid (by rw [hW4, hb]; exact row_same (heap_new _ _ _ rfl))
  have HB4 : Hid (Below w.heap.size w W4) := Lib.hid (by rw [hW4]; exact below_row (hbb.alloc (by omega) _) _ _ (by omega))
  rw [← hW4, ← hb]
  clear hW4 hb hb3 hb4 hbb G2 HB2
  go_upto_region 5 with (first
    | (refine wpl_load 25 ?_; refine LoadGoal.of (actC x y v) rfl L1.out act_agg act_size rfl ?_)
    | (refine wpl_load 25 ?_; refine LoadGoal.of (actC x y v) rfl L2.out act_agg act_size rfl ?_))
  clear q1 hgt
  have he : (mkB []).toList = [] := bytes_toList []
  obtain ⟨u, hu⟩ : ∃ u, u = maskV k := ⟨_, rfl⟩
  have HU64 : Hid (u < 18446744073709551616) := Lib.hid (by rw [hu]; exact maskV_lt k)
  have HU := Lib.hid hu
  obtain ⟨A, hA⟩ : ∃ A, A = actA l := ⟨_, rfl⟩
  have HA := Lib.hid hA
  have FA : Hid (Fits actK A.toList) := Lib.hid (by rw [hA]; exact actA_fits l)
  have HAS : Hid ((Tryd.prog.info? 25).map (·.size) = some A.size) := Lib.hid (by rw [hA]; exact actA_size l)
  clear hu hA
  cases okk : maskOk k
  all_goals
    have OKK := Lib.hid okk
    clear okk
    try (have HMB : Hid (maskB u = k) := Lib.hid (by rw [HU.out]; exact mask_back OKK.out))
    go_upto_region 8 with (first
      | (go_at_call 16; refine (sMask k HK.out _).mono ?_; rintro e w5 ⟨rfl, hb5⟩; rw [← HU.out, OKK.out]; have B5 : Hid (Below w.heap.size w w5) := Lib.hid (HB4.out.trans (hb5.mono HB4.out.size)); have B6 : Hid (Below w.heap.size w w5) := Lib.hid B5.out)
      | (go_at_call 20; refine (putMask_any u HU64.out _).mono ?_; rintro e w6 ⟨rfl, hb6⟩; rw [HMB.out]; replace B6 : Hid (Below w.heap.size w w6) := Lib.hid (B5.out.trans (hb6.mono B5.out.size))))
    cases oka : actOk l
    all_goals
      have OKA := Lib.hid oka
      clear oka
      try (have HPA : Hid (∀ W, Calls Tryd.prog 22 #[.agg A] W fun e w' => e = .returned (.string (mkB l)) ∧ Below W.heap.size W w') := Lib.hid (fun W => by
        have h := sPutAction _ _ _ (wordN_lt l) (wordN_lt (l.drop 4)) (maskV_lt (l.drop 8)) W
        rw [act_back OKA.out] at h
        rw [HA.out, actA, if_pos OKA.out]
        exact h))
      go_wp2_with (first
        | (go_at_call 18; refine (sAction l HL.out _).mono ?_; rintro e w7 ⟨rfl, hb7⟩; rw [← HA.out, OKA.out]; have B7 : Hid (Below w.heap.size w w7) := Lib.hid (B6.out.trans (hb7.mono B6.out.size)); have B8 : Hid (Below w.heap.size w ((w7.alloc (.cells (actC 0 0 0) 25)).setRow w7.heap.size A)) := Lib.hid (below_row (B7.out.alloc B7.out.size _) _ _ B7.out.size))
        | (refine wpl_store 25 ?_; refine StoreGoal.of A (actC 0 0 0) rfl rfl (heap_new _ _ _ rfl) FA.out F0.out act_size' ?_)
        | (refine wpl_load 25 ?_; refine LoadGoal.of A rfl (row_same (heap_new _ _ _ rfl)) act_agg HAS.out rfl ?_)
        | (go_at_call 22; refine (HPA.out _).mono ?_; rintro e w8 ⟨rfl, hb8⟩; replace B8 : Hid (Below w.heap.size w w8) := Lib.hid (B8.out.trans (hb8.mono B8.out.size)))
        | (go_at_call 15; refine (awake25_any _).mono ?_; rintro e w9 ⟨rfl, hb9⟩))
      go_ret
      exact ⟨rfl, B8.out.trans (hb9.mono B8.out.size)⟩
end Go.Proofs.YtofeamajoahjmaaDoor
