/-
  SigsEnters: a handler that was begun masks what it masked and its own signal, unless that is not deferred.
-/
import Derived.Test.YtofeamajoahjmaaDoorFAwake26
namespace Go.Proofs.YtofeamajoahjmaaDoor
open Go Go.RowKit
set_option linter.unusedVariables false
set_option linter.unusedSimpArgs false

theorem compl_bit (x i : Nat) (h : x < 18446744073709551616) : (18446744073709551615 - x).testBit i = (decide (i < 64) && !x.testBit i) := by
  have := Nat.testBit_two_pow_sub_succ (x := x) (n := 64) (by simpa using h) i
  rw [show (18446744073709551615 : Nat) - x = 2 ^ 64 - (x + 1) by omega]
  exact this
theorem bit_lt64 {x i : Nat} (h : x < 18446744073709551616) (hi : x.testBit i = true) : i < 64 := by
  by_cases c : i < 64
  · exact c
  · have : x.testBit i = false := Nat.testBit_lt_two_pow (Nat.lt_of_lt_of_le h (by
      have : 2 ^ 64 ≤ 2 ^ i := Nat.pow_le_pow_right (by omega) (by omega)
      simpa using this))
    rw [this] at hi; cases hi
theorem keepsMask (a b x : Nat) (hx : x < 18446744073709551616) (h0 : x &&& 4194560 = 0) (hin : ∀ i, x.testBit i = true → (a ||| b).testBit i = true) :
    ((a ||| b) &&& (18446744073709551615 - 4194560)) &&& x = x := by
  apply Nat.eq_of_testBit_eq
  intro i
  rw [Nat.testBit_and, Nat.testBit_and, compl_bit _ _ (by decide)]
  cases hi : x.testBit i
  · simp
  · have h1 := hin i hi
    have h2 := bit_lt64 hx hi
    have h3 : (x &&& 4194560).testBit i = false := by rw [h0]; simp
    rw [Nat.testBit_and, hi] at h3
    simp only [Bool.true_and] at h3
    rw [h1, h3]
    simp [h2]
theorem ownBit (a k : Nat) (hk : k < 64) (h8 : k ≠ 8) (h22 : k ≠ 22) : ((a ||| 2 ^ k) &&& (18446744073709551615 - 4194560)) &&& 2 ^ k ≠ 0 := by
  intro h
  have h3 : (((a ||| 2 ^ k) &&& (18446744073709551615 - 4194560)) &&& 2 ^ k).testBit k = false := by rw [h]; simp
  rw [Nat.testBit_and, Nat.testBit_and, compl_bit _ _ (by decide), Nat.testBit_or] at h3
  have h4 : ∀ j, j < 64 → j ≠ 8 → j ≠ 22 → Nat.testBit 4194560 j = false := by decide
  rw [h4 k hk h8 h22] at h3
  simp [hk] at h3

theorem fitM_nat {x : Int} (h1 : 0 ≤ x) (h2 : x ≤ 18446744073709551615) (h : fitM x = true) : x.toNat &&& 4194560 = 0 := by
  have := u64_and x 4194560 h1 (by omega) (by omega) (by omega)
  rw [fitM, this] at h
  have h' : ((x.toNat &&& (4194560 : Int).toNat : Nat) : Int) = 0 := by simpa using h
  exact Int.ofNat_inj.1 h'

theorem bitN_k (k : Nat) : bitN ((k : Int) + 1) = ((2 ^ k : Nat) : Int) := by
  have : ((k : Int) + 1).toNat - 1 = k := by omega
  rw [bitN, this]

theorem enterM_laws {cs : Array Value} (h : Fits sigK cs.toList) (hfit : fitSig cs = true) (k : Nat) (hk : k < 64) :
    bits BinOp.and .u64 (enterM cs k) (iat cs 0) = iat cs 0 ∧ bits BinOp.and .u64 (enterM cs k) (iat cs (2 + k * 3 + 2)) = iat cs (2 + k * 3 + 2) ∧
    (bits BinOp.and .u32 (iat cs (2 + k * 3)) 1073741824 = 0 → k ≠ 8 → k ≠ 22 → (bits BinOp.and .u64 (enterM cs k) (bitN ((k : Int) + 1)) == 0) = false) := by
  have r0 := (h.iat (i := 0) rfl).2
  have rm := (h.iat (sigK_ms k hk)).2
  rw [wf_u64] at r0 rm
  simp only [fitSig, Bool.and_eq_true] at hfit
  have f0 := fitM_nat r0.1 r0.2 hfit.1.1.1
  have fm := fitM_nat rm.1 rm.2 (fitAll_lt hfit.1.2 k hk)
  have hb := bitN_lt ((k : Int) + 1) (by omega) (by omega)
  obtain ⟨o, ho⟩ : ∃ o : Int, o = (if bits BinOp.and .u32 (iat cs (2 + k * 3)) 1073741824 != 0 then 0 else bitN ((k : Int) + 1)) := ⟨_, rfl⟩
  have hor : 0 ≤ o ∧ o ≤ 18446744073709551615 := by rw [ho]; split <;> omega
  obtain ⟨m, hm⟩ : ∃ m : Nat, m = (iat cs 0).toNat := ⟨_, rfl⟩
  obtain ⟨a, ha⟩ : ∃ a : Nat, a = (iat cs (2 + k * 3 + 2)).toNat := ⟨_, rfl⟩
  have em : iat cs 0 = (m : Int) := by omega
  have ea : iat cs (2 + k * 3 + 2) = (a : Int) := by omega
  obtain ⟨p, hp⟩ : ∃ p : Nat, p = o.toNat := ⟨_, rfl⟩
  have eo : o = (p : Int) := by omega
  rw [← hm] at f0
  rw [← ha] at fm
  have lm : m < 18446744073709551616 := by omega
  have la : a < 18446744073709551616 := by omega
  have lp : p < 18446744073709551616 := by omega
  have lma : m ||| a < 18446744073709551616 := Nat.or_lt_two_pow (n := 64) lm la
  have lmap : m ||| a ||| p < 18446744073709551616 := Nat.or_lt_two_pow (n := 64) lma lp
  have hE : enterM cs k = (((m ||| a ||| p) &&& (18446744073709551615 - 4194560) : Nat) : Int) := by
    rw [enterM, ← ho, em, ea, eo, u64_or_nat m a lm la, u64_or_nat _ _ lma lp]
    exact u64_andNot_nat _ 4194560 lmap (by decide)
  have lE : (m ||| a ||| p) &&& (18446744073709551615 - 4194560) < 18446744073709551616 := Nat.lt_of_le_of_lt Nat.and_le_left lmap
  refine ⟨?_, ?_, ?_⟩
  · rw [hE, em, u64_and_nat _ _ lE lm, keepsMask (m ||| a) p m lm f0 (fun i hi => by simp [Nat.testBit_or, hi])]
  · rw [hE, ea, u64_and_nat _ _ lE la, keepsMask (m ||| a) p a la fm (fun i hi => by simp [Nat.testBit_or, hi])]
  · intro hf h8 h22
    have hpk : p = 2 ^ k := by
      rw [hf] at ho
      have : o = ((2 ^ k : Nat) : Int) := by rw [ho, ← bitN_k]; rfl
      omega
    have hk64 : (2 ^ k : Nat) < 18446744073709551616 := by
      have := Nat.pow_lt_pow_right (a := 2) (by omega) hk
      simpa using this
    rw [bitN_k, hE, u64_and_nat _ _ lE hk64, hpk]
    have := ownBit (m ||| a) k hk h8 h22
    simpa using this

theorem set_get {cs : Array Value} (i j : Nat) (v : Value) : (cs.setIfInBounds i v)[j]? = if i = j ∧ j < cs.size then some v else cs[j]? := by
  rw [Array.getElem?_setIfInBounds]
  by_cases h : i = j
  · subst h
    by_cases h2 : i < cs.size <;> simp [h2]
  · simp [h]
theorem enter_0 {cs : Array Value} (h : Fits sigK cs.toList) (k : Nat) (hk : k < 64) : (enterA cs k)[0]? = some (.int .u64 (enterM cs k)) := by
  have : (resetA cs k).size = 197 := (reset_fits h k hk).arr_size
  rw [enterA, set_get, if_pos ⟨rfl, by omega⟩]
theorem enter_j (cs : Array Value) (k j : Nat) (h0 : j ≠ 0) (h1 : j ≠ 2 + k * 3) (h2 : j ≠ 2 + k * 3 + 1) (h3 : j ≠ 2 + k * 3 + 2) : (enterA cs k)[j]? = cs[j]? := by
  rw [enterA, set_get, if_neg (by omega), resetA]
  split
  · rw [set_get, if_neg (by omega), set_get, if_neg (by omega), set_get, if_neg (by omega)]
  · rfl
theorem enter_keep (cs : Array Value) (k j : Nat) (h0 : j ≠ 0) (hr : (bits BinOp.and .u32 (iat cs (2 + k * 3)) 2147483648 != 0) = false) : (enterA cs k)[j]? = cs[j]? := by
  rw [enterA, set_get, if_neg (by omega), resetA, hr]; rfl
theorem enter_zero {cs : Array Value} (h : Fits sigK cs.toList) (k : Nat) (hk : k < 64) (hr : (bits BinOp.and .u32 (iat cs (2 + k * 3)) 2147483648 != 0) = true) :
    (enterA cs k)[2 + k * 3]? = some (.int .u32 0) ∧ (enterA cs k)[2 + k * 3 + 1]? = some (.int .u32 0) ∧ (enterA cs k)[2 + k * 3 + 2]? = some (.int .u64 0) := by
  have hs : cs.size = 197 := h.arr_size
  refine ⟨?_, ?_, ?_⟩
  · rw [enterA, set_get, if_neg (by omega), resetA, if_pos hr, set_get, if_neg (by omega), set_get, if_neg (by omega), set_get, if_pos ⟨rfl, by omega⟩]
  · rw [enterA, set_get, if_neg (by omega), resetA, if_pos hr, set_get, if_neg (by omega), set_get, if_pos ⟨rfl, by simp only [Array.size_setIfInBounds]; omega⟩]
  · rw [enterA, set_get, if_neg (by omega), resetA, if_pos hr, set_get, if_pos ⟨rfl, by simp only [Array.size_setIfInBounds]; omega⟩]

set_option maxHeartbeats 4000000 in
set_option maxRecDepth 100000 in
theorem enters_walk (cs : Array Value) (h : Fits sigK cs.toList) (n : Int) (hn : (Lit.int .u8 n).wf = true) (w : World) (hT : TabAt w) :
    Calls Tryd.prog 5 #[.agg cs, .int .u8 n] w fun e w' => e = .returned (.bool true) ∧ Below w.heap.size w w' := by
  rw [wf_u8] at hn
  obtain ⟨n1, n2⟩ := hn
  obtain ⟨k, hk⟩ : ∃ k : Nat, n % 64 = k := ⟨(n % 64).toNat, by omega⟩
  have hk64 : k < 64 := by omega
  have HT := Lib.hid hT
  have H := Lib.hid h
  clear h hT
  cases c1 : fitSig cs
  · have C1 := Lib.hid c1; clear c1
    go_enter Tryd.func5, Tryd.ntmps5
    go_upto_region 2 with (first
      | (refine wpl_load 30 ?_; refine LoadGoal.of cs (t := 30) (fr := (0, 0)) rfl (heap_new _ _ _ rfl) (by kernel_rfl) (sig_sz H.out) rfl ?_)
      | (go_at_call 8; refine (fit26_any cs H.out _).mono ?_; rintro e w' ⟨rfl, m, rfl⟩; rw [C1.out]))
    obtain ⟨W, hW⟩ : ∃ W, W = ((w.alloc (.cells cs 30)).alloc (.cells cs 30)).drewN m := ⟨_, rfl⟩
    have HB : Hid (Below w.heap.size w W) := Lib.hid (by rw [hW]; (repeat (first | exact Below.refl _ _ | (refine below_drewN ?_ _) | (refine Below.alloc ?_ (by (try simp only [heap_len, heap_drewN]); omega) _))))
    rw [← hW]
    clear hW
    go_wp2_with (go_at_call 9; refine (awake26_any _ (tab_below HB.out HT.out)).mono ?_; rintro e w' ⟨rfl, hb⟩)
    go_ret
    exact ⟨rfl, HB.out.trans (hb.mono HB.out.size)⟩
  · obtain ⟨m1, m2, m3⟩ := enterM_laws H.out c1 k hk64
    have C1 := Lib.hid c1; clear c1
    go_enter Tryd.func5, Tryd.ntmps5
    go_upto_region 4 with (first
      | (refine wpl_load 30 ?_; refine LoadGoal.of cs (t := 30) (fr := (0, 0)) rfl (heap_new _ _ _ rfl) (by kernel_rfl) (sig_sz H.out) rfl ?_)
      | (go_at_call 8; refine (fit26_any cs H.out _).mono ?_; rintro e w' ⟨rfl, m, rfl⟩; rw [C1.out]))
    obtain ⟨W, hW⟩ : ∃ W, W = ((w.alloc (.cells cs 30)).alloc (.cells cs 30)).drewN m := ⟨_, rfl⟩
    have B1 : Hid (W.heap[w.heap.size]? = some (.cells cs 30)) := Lib.hid (by rw [hW]; exact (heap_old _ _ _ (by simp only [heap_len]; omega)).trans (heap_new _ _ _ rfl))
    have HB : Hid (Below w.heap.size w W) := Lib.hid (by rw [hW]; (repeat (first | exact Below.refl _ _ | (refine below_drewN ?_ _) | (refine Below.alloc ?_ (by (try simp only [heap_len, heap_drewN]); omega) _))))
    rw [← hW]
    clear hW
    have z1 := (zero_of_info sig_zero).1
    go_upto_region 5 with (first
      | (refine wpl_load 30 ?_; refine LoadGoal.of cs rfl B1.out (by kernel_rfl) (sig_sz H.out) rfl ?_)
      | (go_at_call 14; refine (sgEnter cs H.out k hk64 _).mono ?_; rintro e w2 ⟨rfl, hb2⟩)
      | (refine wpl_store 30 ?_; refine StoreGoal.of (enterA cs k) sigZ rfl rfl (heap_new _ _ _ rfl) (enter_fits H.out k hk64) sigZ_fits sig_size ?_))
    obtain ⟨W2, hW2⟩ : ∃ W2, W2 = (w2.alloc (.cells sigZ 30)).setRow w2.heap.size (enterA cs k) := ⟨_, rfl⟩
    obtain ⟨b, hb⟩ : ∃ b, b = w2.heap.size := ⟨_, rfl⟩
    have hlt : w.heap.size < b := by rw [hb]; exact Nat.lt_of_lt_of_le (heap_lt B1.out) hb2.size
    have G1 : Hid (W2.heap[w.heap.size]? = some (.cells cs 30)) := Lib.hid (by rw [hW2]; exact (row_ne _ _ _ _ (by omega)).trans ((heap_old _ _ _ (by omega)).trans ((hb2.block _ (heap_lt B1.out)).trans B1.out)))
    have G2 : Hid (W2.heap[b]? = some (.cells (enterA cs k) 30)) := Lib.hid (by rw [hW2, hb]; exact row_same (heap_new _ _ _ rfl))
    have HB2 : Hid (Below w.heap.size w W2) := Lib.hid (by rw [hW2]; exact below_row ((HB.out.trans (hb2.mono HB.out.size)).alloc (by omega) _) _ _ (by omega))
    rw [← hW2, ← hb]
    clear hW2 hb hb2 B1 HB
    have ef := cell_at G1.out (H.out.iat (sigK_fl k hk64)).1
    have eh := cell_at G1.out (H.out.iat (sigK_hd k hk64)).1
    have em := cell_at G1.out (H.out.iat (sigK_ms k hk64)).1
    go_upto_region 6 with fail
    obtain ⟨W3, hW3⟩ : ∃ W3, W3 = W2.alloc (.cells #[.int .u32 (iat cs (2 + k * 3)), .int .u32 (iat cs (2 + k * 3 + 1)), .int .u64 (iat cs (2 + k * 3 + 2))] 25) := ⟨_, rfl⟩
    obtain ⟨b3, hb3⟩ : ∃ b3, b3 = W2.heap.size := ⟨_, rfl⟩
    have hz1 := heap_lt G1.out
    have hz2 := heap_lt G2.out
    have K1 : Hid (W3.heap[w.heap.size]? = some (.cells cs 30)) := Lib.hid (by rw [hW3]; exact (heap_old _ _ _ hz1).trans G1.out)
    have K2 : Hid (W3.heap[b]? = some (.cells (enterA cs k) 30)) := Lib.hid (by rw [hW3]; exact (heap_old _ _ _ hz2).trans G2.out)
    have K3 : Hid (W3.heap[b3]? = some (.cells #[.int .u32 (iat cs (2 + k * 3)), .int .u32 (iat cs (2 + k * 3 + 1)), .int .u64 (iat cs (2 + k * 3 + 2))] 25)) := Lib.hid (by rw [hW3, hb3]; exact heap_new _ _ _ rfl)
    have HB3 : Hid (Below w.heap.size w W3) := Lib.hid (by rw [hW3]; exact HB2.out.alloc (by omega) _)
    rw [← hW3, ← hb3]
    clear hW3 hb3 G1 G2 HB2 ef eh em hz1 hz2
    have c0 := cell_at K1.out (H.out.iat (i := 0) rfl).1
    have c1 := cell_at K1.out (H.out.iat (i := 1) rfl).1
    have c194 := cell_at K1.out (H.out.iat (i := 194) rfl).1
    have c195 := cell_at K1.out (H.out.iat (i := 195) rfl).1
    have c196 := cell_at K1.out (H.out.bat (i := 196) rfl)
    have e0 := cell_at K2.out (enter_0 H.out k hk64)
    have e1 := cell_at K2.out ((enter_j cs k 1 (by omega) (by omega) (by omega) (by omega)).trans (H.out.iat (i := 1) rfl).1)
    have e194 := cell_at K2.out ((enter_j cs k 194 (by omega) (by omega) (by omega) (by omega)).trans (H.out.iat (i := 194) rfl).1)
    have e195 := cell_at K2.out ((enter_j cs k 195 (by omega) (by omega) (by omega) (by omega)).trans (H.out.iat (i := 195) rfl).1)
    have e196 := cell_at K2.out ((enter_j cs k 196 (by omega) (by omega) (by omega) (by omega)).trans (H.out.bat (i := 196) rfl))
    have a0 := cell_at (o := 0) (v := .int .u32 (iat cs (2 + k * 3))) K3.out rfl
    have a1 := cell_at (o := 1) (v := .int .u32 (iat cs (2 + k * 3 + 1))) K3.out rfl
    have a2 := cell_at (o := 2) (v := .int .u64 (iat cs (2 + k * 3 + 2))) K3.out rfl
    have hga : Tryd.prog.eqGuardType Tryd.prog.depth 28 = false := by kernel_rfl
    have hgt : Tryd.prog.eqGuardType Tryd.prog.depth 25 = false := by kernel_rfl
    have qa : ∀ W, (Op.equalIn 10000 28 (.agg #[.int .u32 (iat cs 194), .int .u32 (iat cs 195), .bool (bat cs 196)]) (.agg #[.int .u32 (iat cs 194), .int .u32 (iat cs 195), .bool (bat cs 196)])).run Tryd.prog W = .ok true W := fun W => by
      have := eq_flat alt_flat (by kernel_rfl) (by omega) (xs := [.int .u32 (iat cs 194), .int .u32 (iat cs 195), .bool (bat cs 196)]) (ys := [.int .u32 (iat cs 194), .int .u32 (iat cs 195), .bool (bat cs 196)]) ⟨⟨_, rfl, (H.out.iat (i := 194) rfl).2⟩, ⟨_, rfl, (H.out.iat (i := 195) rfl).2⟩, ⟨_, rfl⟩, trivial⟩
        ⟨⟨_, rfl, (H.out.iat (i := 194) rfl).2⟩, ⟨_, rfl, (H.out.iat (i := 195) rfl).2⟩, ⟨_, rfl⟩, trivial⟩ W
      rw [this]
      simp [cellsEq, cellEq]
    go_upto_region 9 with fail
    clear qa hga c0 c1 c194 c195 c196 e1 e194 e195 e196 m1 m2
    have hown : IntKind.u64.wrap (2 ^ k) = bitN ((k : Int) + 1) := by
      have := bitN_wrap ((k : Int) + 1) (by omega) (by omega)
      rwa [show ((k : Int) + 1).toNat - 1 = k by omega] at this
    rw [hown]
    have M3 : Hid ((bits BinOp.and .u32 (iat cs (2 + k * 3)) 1073741824 == 0) = true → ((k : Int) + 1 != 9) = true → ((k : Int) + 1 != 23) = true → (bits BinOp.and .u64 (enterM cs k) (bitN ((k : Int) + 1)) == 0) = false) := Lib.hid (fun h1 h2 h3 => m3 (by simpa using h1) (by intro e; rw [e] at h2; simp at h2) (by intro e; rw [e] at h3; simp at h3))
    clear m3
    have rf := (H.out.iat (sigK_fl k hk64)).2
    have rh := (H.out.iat (sigK_hd k hk64)).2
    have rm := (H.out.iat (sigK_ms k hk64)).2
    obtain ⟨x, hx⟩ : ∃ x, x = iat cs (2 + k * 3) := ⟨_, rfl⟩
    obtain ⟨y, hy⟩ : ∃ y, y = iat cs (2 + k * 3 + 1) := ⟨_, rfl⟩
    obtain ⟨v, hv⟩ : ∃ v, v = iat cs (2 + k * 3 + 2) := ⟨_, rfl⟩
    have HXYV : Hid (x = iat cs (2 + k * 3) ∧ y = iat cs (2 + k * 3 + 1) ∧ v = iat cs (2 + k * 3 + 2)) := Lib.hid ⟨hx, hy, hv⟩
    rw [← hx] at a0 rf M3
    rw [← hy] at a1 rh
    rw [← hv] at a2 rm
    rw [← hx, ← hy, ← hv]
    have F1 : Fits actK [.int .u32 x, .int .u32 y, .int .u64 v] := ⟨⟨_, rfl, rf⟩, ⟨_, rfl, rh⟩, ⟨_, rfl, rm⟩, trivial⟩
    have F0 : Fits actK [.int .u32 0, .int .u32 0, .int .u64 0] := ⟨⟨_, rfl, by decide⟩, ⟨_, rfl, by decide⟩, ⟨_, rfl, by decide⟩, trivial⟩
    have q1 : ∀ W, (Op.equalIn 10000 25 (.agg #[.int .u32 x, .int .u32 y, .int .u64 v]) (.agg #[.int .u32 x, .int .u32 y, .int .u64 v])).run Tryd.prog W = .ok true W := fun W => by
      have := eq_flat act_flat (by kernel_rfl) (by omega) F1 F1 W
      rw [this]; simp [cellsEq, cellEq]
    have q2 : ∀ W, (Op.equalIn 10000 25 (.agg #[.int .u32 0, .int .u32 0, .int .u64 0]) (.agg #[.int .u32 0, .int .u32 0, .int .u64 0])).run Tryd.prog W = .ok true W := fun W => by
      have := eq_flat act_flat (by kernel_rfl) (by omega) F0 F0 W
      rw [this]; simp [cellsEq, cellEq]
    have q3 : ∃ z, ∀ W, (Op.equalIn 10000 25 (.agg #[.int .u32 0, .int .u32 0, .int .u64 0]) (.agg #[.int .u32 x, .int .u32 y, .int .u64 v])).run Tryd.prog W = .ok z W :=
      ⟨_, fun W => eq_flat act_flat (by kernel_rfl) (by omega) F0 F1 W⟩
    clear F0 F1 rf rh rm
    have hwk : IntKind.i64.wrap (k : Int) = (k : Int) := by simp [IntKind.wrap, IntKind.signed, IntKind.bits]; omega
    have A0 : ∀ s : Grown W3, s.w.cell? ⟨b3, 0, none⟩ = some (.int .u32 x) := fun s => (bcell s.below).1 _ _ (heap_lt K3.out) |>.trans a0
    have A1 : ∀ s : Grown W3, s.w.cell? ⟨b3, 1, none⟩ = some (.int .u32 y) := fun s => (bcell s.below).1 _ _ (heap_lt K3.out) |>.trans a1
    have A2 : ∀ s : Grown W3, s.w.cell? ⟨b3, 2, none⟩ = some (.int .u64 v) := fun s => (bcell s.below).1 _ _ (heap_lt K3.out) |>.trans a2
    have hkI : (k : Int) < 64 := by omega
    cases cr : (bits BinOp.and .u32 x 2147483648 != 0)
    · have b0 := Grown.cell K2.out ((enter_keep cs k (2 + k * 3) (by omega) (by rw [← hx]; exact cr)).trans (H.out.iat (sigK_fl k hk64)).1)
      have b1 := Grown.cell K2.out ((enter_keep cs k (2 + k * 3 + 1) (by omega) (by rw [← hx]; exact cr)).trans (H.out.iat (sigK_hd k hk64)).1)
      have b2 := Grown.cell K2.out ((enter_keep cs k (2 + k * 3 + 2) (by omega) (by rw [← hx]; exact cr)).trans (H.out.iat (sigK_ms k hk64)).1)
      rw [← hx] at b0
      rw [← hy] at b1
      rw [← hv] at b2
      clear q2 q3 hx hy hv
      cases d1 : ((k : Int) + 1 != 9)
      · skip
        go_upto_region 11 with fail
        (refine wp_region_grown (by kernel_rfl) (by kernel_rfl) ?_; (repeat (go_big_quiet_step (exact Calls.grown (awake26_any _ (tab_below (HB3.out.trans (Grown.below _ |>.mono HB3.out.size)) HT.out))))); refine wpQuiet_nil ?_; intro _ hw'; obtain ⟨sG, hw''⟩ := hw'; subst hw'')
        go_wp2
        go_ret
        exact ⟨rfl, HB3.out.trans (sG.below.mono HB3.out.size)⟩
      · cases d2 : ((k : Int) + 1 != 23)
        · skip
          go_upto_region 11 with fail
          (refine wp_region_grown (by kernel_rfl) (by kernel_rfl) ?_; (repeat (go_big_quiet_step (exact Calls.grown (awake26_any _ (tab_below (HB3.out.trans (Grown.below _ |>.mono HB3.out.size)) HT.out))))); refine wpQuiet_nil ?_; intro _ hw'; obtain ⟨sG, hw''⟩ := hw'; subst hw'')
          go_wp2
          go_ret
          exact ⟨rfl, HB3.out.trans (sG.below.mono HB3.out.size)⟩
        · cases d3 : (bits BinOp.and .u32 x 1073741824 == 0)
          · skip
            go_upto_region 11 with fail
            (refine wp_region_grown (by kernel_rfl) (by kernel_rfl) ?_; (repeat (go_big_quiet_step (exact Calls.grown (awake26_any _ (tab_below (HB3.out.trans (Grown.below _ |>.mono HB3.out.size)) HT.out))))); refine wpQuiet_nil ?_; intro _ hw'; obtain ⟨sG, hw''⟩ := hw'; subst hw'')
            go_wp2
            go_ret
            exact ⟨rfl, HB3.out.trans (sG.below.mono HB3.out.size)⟩
          · have M4 := M3.out d3 d1 d2
            go_upto_region 11 with fail
            (refine wp_region_grown (by kernel_rfl) (by kernel_rfl) ?_; (repeat (go_big_quiet_step (exact Calls.grown (awake26_any _ (tab_below (HB3.out.trans (Grown.below _ |>.mono HB3.out.size)) HT.out))))); refine wpQuiet_nil ?_; intro _ hw'; obtain ⟨sG, hw''⟩ := hw'; subst hw'')
            go_wp2
            go_ret
            exact ⟨rfl, HB3.out.trans (sG.below.mono HB3.out.size)⟩
    · obtain ⟨z0, z1, z2⟩ := enter_zero H.out k hk64 (by rw [← hx]; exact cr)
      have b0 := Grown.cell K2.out z0
      have b1 := Grown.cell K2.out z1
      have b2 := Grown.cell K2.out z2
      obtain ⟨z, q3⟩ := q3
      clear q1 hx hy hv z0 z1 z2
      cases z
      · skip
        cases d1 : ((k : Int) + 1 != 9)
        · skip
          go_upto_region 11 with fail
          (refine wp_region_grown (by kernel_rfl) (by kernel_rfl) ?_; (repeat (go_big_quiet_step (exact Calls.grown (awake26_any _ (tab_below (HB3.out.trans (Grown.below _ |>.mono HB3.out.size)) HT.out))))); refine wpQuiet_nil ?_; intro _ hw'; obtain ⟨sG, hw''⟩ := hw'; subst hw'')
          go_wp2
          go_ret
          exact ⟨rfl, HB3.out.trans (sG.below.mono HB3.out.size)⟩
        · cases d2 : ((k : Int) + 1 != 23)
          · skip
            go_upto_region 11 with fail
            (refine wp_region_grown (by kernel_rfl) (by kernel_rfl) ?_; (repeat (go_big_quiet_step (exact Calls.grown (awake26_any _ (tab_below (HB3.out.trans (Grown.below _ |>.mono HB3.out.size)) HT.out))))); refine wpQuiet_nil ?_; intro _ hw'; obtain ⟨sG, hw''⟩ := hw'; subst hw'')
            go_wp2
            go_ret
            exact ⟨rfl, HB3.out.trans (sG.below.mono HB3.out.size)⟩
          · cases d3 : (bits BinOp.and .u32 x 1073741824 == 0)
            · skip
              go_upto_region 11 with fail
              (refine wp_region_grown (by kernel_rfl) (by kernel_rfl) ?_; (repeat (go_big_quiet_step (exact Calls.grown (awake26_any _ (tab_below (HB3.out.trans (Grown.below _ |>.mono HB3.out.size)) HT.out))))); refine wpQuiet_nil ?_; intro _ hw'; obtain ⟨sG, hw''⟩ := hw'; subst hw'')
              go_wp2
              go_ret
              exact ⟨rfl, HB3.out.trans (sG.below.mono HB3.out.size)⟩
            · have M4 := M3.out d3 d1 d2
              go_upto_region 11 with fail
              (refine wp_region_grown (by kernel_rfl) (by kernel_rfl) ?_; (repeat (go_big_quiet_step (exact Calls.grown (awake26_any _ (tab_below (HB3.out.trans (Grown.below _ |>.mono HB3.out.size)) HT.out))))); refine wpQuiet_nil ?_; intro _ hw'; obtain ⟨sG, hw''⟩ := hw'; subst hw'')
              go_wp2
              go_ret
              exact ⟨rfl, HB3.out.trans (sG.below.mono HB3.out.size)⟩
      · skip
        cases d1 : ((k : Int) + 1 != 9)
        · skip
          go_upto_region 11 with fail
          (refine wp_region_grown (by kernel_rfl) (by kernel_rfl) ?_; (repeat (go_big_quiet_step (exact Calls.grown (awake26_any _ (tab_below (HB3.out.trans (Grown.below _ |>.mono HB3.out.size)) HT.out))))); refine wpQuiet_nil ?_; intro _ hw'; obtain ⟨sG, hw''⟩ := hw'; subst hw'')
          go_wp2
          go_ret
          exact ⟨rfl, HB3.out.trans (sG.below.mono HB3.out.size)⟩
        · cases d2 : ((k : Int) + 1 != 23)
          · skip
            go_upto_region 11 with fail
            (refine wp_region_grown (by kernel_rfl) (by kernel_rfl) ?_; (repeat (go_big_quiet_step (exact Calls.grown (awake26_any _ (tab_below (HB3.out.trans (Grown.below _ |>.mono HB3.out.size)) HT.out))))); refine wpQuiet_nil ?_; intro _ hw'; obtain ⟨sG, hw''⟩ := hw'; subst hw'')
            go_wp2
            go_ret
            exact ⟨rfl, HB3.out.trans (sG.below.mono HB3.out.size)⟩
          · cases d3 : (bits BinOp.and .u32 x 1073741824 == 0)
            · skip
              go_upto_region 11 with fail
              (refine wp_region_grown (by kernel_rfl) (by kernel_rfl) ?_; (repeat (go_big_quiet_step (exact Calls.grown (awake26_any _ (tab_below (HB3.out.trans (Grown.below _ |>.mono HB3.out.size)) HT.out))))); refine wpQuiet_nil ?_; intro _ hw'; obtain ⟨sG, hw''⟩ := hw'; subst hw'')
              go_wp2
              go_ret
              exact ⟨rfl, HB3.out.trans (sG.below.mono HB3.out.size)⟩
            · have M4 := M3.out d3 d1 d2
              go_upto_region 11 with fail
              (refine wp_region_grown (by kernel_rfl) (by kernel_rfl) ?_; (repeat (go_big_quiet_step (exact Calls.grown (awake26_any _ (tab_below (HB3.out.trans (Grown.below _ |>.mono HB3.out.size)) HT.out))))); refine wpQuiet_nil ?_; intro _ hw'; obtain ⟨sG, hw''⟩ := hw'; subst hw'')
              go_wp2
              go_ret
              exact ⟨rfl, HB3.out.trans (sG.below.mono HB3.out.size)⟩
end Go.Proofs.YtofeamajoahjmaaDoor
