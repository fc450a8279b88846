/-
  host.Store: the walk.
-/
import Derived.Test.YtbaelhaajplbnaaFHoQ
import Derived.Test.YtbaelhaajplbnaaFHoS
import Derived.Test.YtbaelhaajplbnaaFGrA
import Derived.Deep.DeepCutAuto
namespace Go.Proofs.Ytbaelhaajplbnaa
open Go Go.RowKit
set_option linter.unusedVariables false
set_option linter.unusedSimpArgs false

theorem own_mono {w : World} {B B' : Nat} {e : TypeId} {size n : Nat} {v : Value} {xs : List Value} (h : w.ownsRow B e size v n xs) (hB : B' ≤ B) : w.ownsRow B' e size v n xs :=
  ⟨h.1, h.2.elim .inl fun ⟨g, cap, cur, h1, h2, h3⟩ => .inr ⟨g, cap, cur, h1, Nat.le_trans hB h2, h3⟩⟩
theorem own_slice {w : World} {B : Nat} {e : TypeId} {size n : Nat} {v : Value} {xs : List Value} (h : w.ownsRow B e size v n xs) : ∃ p c, v = .slice p n c := by
  rcases h.2 with ⟨rfl, rfl⟩ | ⟨g, cap, cur, rfl, _⟩
  · exact ⟨_, _, rfl⟩
  · exact ⟨_, _, rfl⟩
theorem own_setCell {w : World} {B k o : Nat} {e : TypeId} {size n : Nat} {v u : Value} {xs : List Value} (h : w.ownsRow B e size v n xs) (hk : k < B) : (w.setCell ⟨k, o, none⟩ u).ownsRow B e size v n xs :=
  ⟨h.1, h.2.elim .inl fun ⟨g, cap, cur, h1, h2, h3, h4⟩ => .inr ⟨g, cap, cur, h1, h2, (heap_set_ne _ _ _ _ _ (by omega)).trans h3, h4⟩⟩
theorem three_set {w : World} {h : Nat} {a b c d e x0 x1 y0 y1 : Value} {T1 T2 : TypeId} (h1 : w.heap[h + 1]? = some (.cells #[x0, x1] T1 (0, 0))) (h2 : w.heap[h + 1 + 1]? = some (.cells #[y0, y1] T2 (0, 0))) :
    (((((w.setCell ⟨h, 1, none⟩ a).setCell ⟨h + 1, 0, none⟩ b).setCell ⟨h + 1, 1, none⟩ c).setCell ⟨h + 1 + 1, 0, none⟩ d).setCell ⟨h + 1 + 1, 1, none⟩ e).heap[h + 1]? = some (.cells #[b, c] T1 (0, 0)) ∧
    (((((w.setCell ⟨h, 1, none⟩ a).setCell ⟨h + 1, 0, none⟩ b).setCell ⟨h + 1, 1, none⟩ c).setCell ⟨h + 1 + 1, 0, none⟩ d).setCell ⟨h + 1 + 1, 1, none⟩ e).heap[h + 1 + 1]? = some (.cells #[d, e] T2 (0, 0)) := by
  constructor
  · rw [heap_set_ne _ _ _ _ _ (by omega), heap_set_ne _ _ _ _ _ (by omega)]
    exact two_set ((heap_set_ne _ _ _ _ _ (by omega)).trans h1)
  · refine two_set (u := y0) (v := y1) ?_
    rw [heap_set_ne _ _ _ _ _ (by omega), heap_set_ne _ _ _ _ _ (by omega), heap_set_ne _ _ _ _ _ (by omega)]
    exact h2
theorem and_not7 (x : Nat) (hx : x < 18446744073709551616) : x &&& (18446744073709551615 - 7) = x - x % 8 := by
  refine Nat.eq_of_testBit_eq fun j => ?_
  have e : x - x % 8 = x / 8 * 8 := by omega
  have h := Nat.testBit_two_pow_sub_succ (x := 7) (n := 64) (by decide) j
  rw [show 2 ^ 64 - (7 + 1) = 18446744073709551615 - 7 from rfl] at h
  rw [Nat.testBit_and, h, e, show x / 8 * 8 = x / 2 ^ 3 * 2 ^ 3 from rfl, Nat.testBit_mul_two_pow, Nat.testBit_div_two_pow]
  by_cases h3 : 3 ≤ j
  · rw [show j - 3 + 3 = j by omega]
    have h7 : (7 : Nat).testBit j = false := Nat.testBit_lt_two_pow (Nat.lt_of_lt_of_le (by decide : 7 < 2 ^ 3) (Nat.pow_le_pow_right (by omega) h3))
    by_cases h64 : j < 64
    · simp [h3, h7, h64]
    · have hxj : x.testBit j = false := Nat.testBit_lt_two_pow (Nat.lt_of_lt_of_le (show x < 2 ^ 64 by simpa using hx) (Nat.pow_le_pow_right (by omega) (by omega)))
      simp [hxj]
  · have hj : j = 0 ∨ j = 1 ∨ j = 2 := by omega
    rcases hj with rfl | rfl | rfl <;> simp [show Nat.testBit 7 0 = true from rfl, show Nat.testBit 7 1 = true from rfl, show Nat.testBit 7 2 = true from rfl]

set_option maxHeartbeats 4000000 in
set_option maxRecDepth 100000 in
theorem store_any (ms : List MapD) (cs : List CellD) (hrm : Rise MapD.page ms) (hlm : ms.length ≤ 1000000) (hcs : CellsOk cs) (hlc : cs.length ≤ 800000) (x n v : Nat) (hn : 1 ≤ n) (hn8 : n ≤ 8) (hv : v < 18446744073709551616) (hok : ∀ i, i < n → openAt ms (x + i)) (vm vc : Value) (w : World) (hm : MapsV w vm ms) (hc : CellsV w vc cs) :
    Calls Try.prog 46 #[.agg #[vm, vc], .int .u64 (x : Nat), .int .i64 (n : Nat), .int .u64 (v : Nat)] w fun e w' => ∃ vc', e = .returned (.tuple #[.agg #[vm, vc'], .agg fault0]) ∧ CellsV w' vc' (storeL cs x n v) ∧ Below w.heap.size w w' := by
  obtain ⟨mp, mc, rfl, hm'⟩ := hm
  have hm : MapsV w (.slice mp ms.length mc) ms := ⟨mp, mc, rfl, hm'⟩
  clear hm'
  have HM := Lib.hid hm; have HC := Lib.hid hc; have HCS := Lib.hid hcs
  have HA := Lib.hid (fun (W : World) (hW : Below w.heap.size w W) => ask_ok ms hrm hlm x n 2 (.inr rfl) hn8 hok (.slice mp ms.length mc) vc W (hm.below hW))
  have HCL : Hid (∀ W, Below w.heap.size w W → Calls Try.prog 58 #[vc] W fun e w' => ∃ v', e = .returned v' ∧ w'.ownsRow W.heap.size 85 2 v' cs.length (cellVs cs) ∧ Below W.heap.size W w') :=
    Lib.hid (fun W hW => clone_any cs (by omega) vc W (hc.below hW))
  have HWD : Hid (∀ y W, Below w.heap.size w W → Calls Try.prog 59 #[.agg #[.slice mp ms.length mc, vc], .int .u64 (y : Nat)] W fun e w' => e = .returned (.int .u64 (wordL cs y : Nat)) ∧ Below W.heap.size W w') :=
    Lib.hid (fun y W hW => word_any cs hcs.rise (by omega) y (.slice mp ms.length mc) vc W (hc.below hW))
  have hx64 : x + n ≤ 18446744073709551616 := by have := (hok (n - 1) (by omega)).1; omega
  clear hm hc hcs hok
  obtain ⟨M, hM⟩ : ∃ M : Nat, M = 2 ^ (8 * n) - 1 := ⟨_, rfl⟩
  obtain ⟨u, hu⟩ : ∃ u : Nat, u = v % 2 ^ (8 * n) := ⟨_, rfl⟩
  obtain ⟨r, hr⟩ : ∃ r : Nat, r = x % 8 := ⟨_, rfl⟩
  obtain ⟨b, hb⟩ : ∃ b : Nat, b = x - r := ⟨_, rfl⟩
  have hpn : 2 ^ (8 * n) ≤ 18446744073709551616 := by
    have : 2 ^ (8 * n) ≤ 2 ^ 64 := Nat.pow_le_pow_right (by omega) (by omega)
    simpa using this
  have hp0 := Nat.two_pow_pos (8 * n)
  have hM64 : M < 18446744073709551616 := by omega
  have hr8 : r < 8 := by rw [hr]; exact Nat.mod_lt _ (by omega)
  have fM : IntKind.u64.wrap (IntKind.u64.wrap (IntKind.u64.wrap (2 ^ (8 * n - 1)) * 2) - 1) = (M : Int) := by
    have e : 2 ^ (8 * n) = 2 ^ (8 * n - 1) * 2 := by rw [← Nat.pow_succ, show (8 * n - 1).succ = 8 * n by omega]
    obtain ⟨q, hq⟩ : ∃ q : Nat, q = 2 ^ (8 * n - 1) := ⟨_, rfl⟩
    have eI : (2 ^ (8 * n - 1) : Int) = (q : Int) := by rw [hq]; simp
    rw [eI, IntKind.wrap_u64, IntKind.wrap_u64, IntKind.wrap_u64]
    rw [← hq] at e
    omega
  have fV : bits BinOp.and .u64 (v : Int) (M : Int) = (u : Int) := by
    rw [u64_and_nat v M hv hM64, hM, Nat.and_two_pow_sub_one_eq_mod, hu]
  have fB : bits BinOp.andNot .u64 (x : Int) 7 = (b : Int) := by
    have h := u64_andNot_nat x 7 (by omega) (by omega)
    rw [show ((7 : Nat) : Int) = 7 from rfl] at h
    rw [h, hb, hr]
    congr 1
    exact and_not7 x (by omega)
  have fR : bits BinOp.and .u64 (x : Int) 7 = (r : Int) := by
    have h := u64_and_nat x 7 (by omega) (by omega)
    rw [show ((7 : Nat) : Int) = 7 from rfl, nat_mask3] at h
    rw [h, hr]
  have fS : IntKind.u64.wrap (8 * (r : Int)) = ((8 * r : Nat) : Int) := by rw [IntKind.wrap_u64]; omega
  obtain ⟨low, hlow⟩ : ∃ low : Nat, low = keepW (wordL cs b) (M * 2 ^ (8 * r) % 18446744073709551616) ||| u * 2 ^ (8 * r) % 18446744073709551616 := ⟨_, rfl⟩
  have hlow64 : low < 18446744073709551616 := by rw [hlow, hM, hu]; exact low_lt
  have eSh : ∀ q : Nat, IntKind.u64.wrap ((q : Int) * 2 ^ (8 * (r : Int)).toNat) = ((q * 2 ^ (8 * r) % 18446744073709551616 : Nat) : Int) := fun q => by
    rw [show (8 * (r : Int)).toNat = 8 * r by omega, IntKind.wrap_u64]
    simp
  have fL : Hid (bits BinOp.or IntKind.u64 (bits BinOp.andNot IntKind.u64 (wordL cs b : Int) (IntKind.u64.wrap ((M : Int) * 2 ^ (8 * (r : Int)).toNat))) (IntKind.u64.wrap ((u : Int) * 2 ^ (8 * (r : Int)).toNat)) = (low : Int)) := Lib.hid (by
    rw [eSh, eSh, u64_andNot_nat _ _ (wordL_lt HCS.out.word b) (Nat.mod_lt _ (by omega)), u64_or_nat _ _ (Nat.lt_of_le_of_lt Nat.and_le_left (wordL_lt HCS.out.word b)) (Nat.mod_lt _ (by omega)), hlow]
    rfl)
  have hb8 : b % 8 = 0 := by omega
  have hb64 : b < 18446744073709551616 := by omega
  have HCS1 : Hid (CellsOk (setL cs b low)) := Lib.hid (HCS.out.set hb8 hb64 hlow64)
  have HSET : Hid (∀ B W v', W.ownsRow B 85 2 v' cs.length (cellVs cs) → B ≤ W.heap.size → Calls Try.prog 57 #[v', .int .u64 (b : Nat), .int .u64 (low : Nat)] W fun e w' => ∃ v', e = .returned v' ∧ w'.ownsRow B 85 2 v' (setL cs b low).length (cellVs (setL cs b low)) ∧ Below B W w') :=
    Lib.hid (fun B W v' ho hB => set_any B cs HCS.out.rise (by omega) b low hb64 hlow64 v' W ho hB)
  have HLOW := Lib.hid hlow
  have HDM := Lib.hid hM; have HDU := Lib.hid hu; have HDR := Lib.hid hr; have HDB := Lib.hid hb
  have hM64i : (M : Int) ≤ 18446744073709551615 := by omega
  have hr8i : (r : Int) ≤ 7 := by omega
  clear hM hu hr hb hpn hp0 hM64 hv hlow hlow64 hb8 hb64 eSh
  have n1 : decide ((n : Int) < 1) = false := decide_eq_false (by omega)
  have n2 : decide (8 < (n : Int)) = false := decide_eq_false (by omega)
  go_enter Try.func46, Try.ntmps46
  go_upto_region 3 with fail
  obtain ⟨W0, hW⟩ : ∃ W0, W0 = ((w.alloc (.cells #[.slice mp ms.length mc, vc] 29)).alloc (.cells #[.slice none 0 0, .slice none 0 0] 29)).alloc (.cells #[.int .i64 0, .int .u64 0] 70) := ⟨_, rfl⟩
  have HROW : Hid (W0.heap[w.heap.size]? = some (.cells #[.slice mp ms.length mc, vc] 29)) := Lib.hid (by rw [hW]; exact (heap_old _ _ _ (by simp only [heap_len]; omega)).trans ((heap_old _ _ _ (by simp only [heap_len]; omega)).trans (heap_new _ _ _ rfl)))
  have HR1 : Hid (W0.heap[w.heap.size + 1]? = some (.cells #[.slice none 0 0, .slice none 0 0] 29)) := Lib.hid (by rw [hW]; exact (heap_old _ _ _ (by simp only [heap_len]; omega)).trans (heap_new _ _ _ (by simp only [heap_len])))
  have HR2 : Hid (W0.heap[w.heap.size + 1 + 1]? = some (.cells #[.int .i64 0, .int .u64 0] 70)) := Lib.hid (by rw [hW]; exact heap_new _ _ _ (by simp only [heap_len]))
  have HB0 : Hid (Below w.heap.size w W0) := Lib.hid (by rw [hW]; exact (((Below.refl _ _).alloc (Nat.le_refl _) _).alloc (by simp only [heap_len]; omega) _).alloc (by simp only [heap_len]; omega) _)
  have hz0 : W0.heap.size = w.heap.size + 3 := by rw [hW]; simp only [heap_len]
  rw [← hW]
  clear hW
  have l0 := cell_at (o := 0) HROW.out rfl
  have l1 := cell_at (o := 1) HROW.out rfl
  go_upto_region 4 with (go_at_call 56; (with_reducible refine (HA.out _ HB0.out).mono ?_); rintro e w1 ⟨rfl, hb1⟩; unfold fault0)
  obtain ⟨W1, hW⟩ : ∃ W1, W1 = ((w1.alloc (.cells #[.int .i64 0, .int .u64 0] 70)).setCell ⟨w1.heap.size, 0, none⟩ (.int .i64 0)).setCell ⟨w1.heap.size, 1, none⟩ (.int .u64 0) := ⟨_, rfl⟩
  try rw [← hW]
  go_upto_region 9 with fail
  obtain ⟨W2, hW⟩ : ∃ W2, W2 = w1.alloc (.cells #[.int .i64 0, .int .u64 0] 70) := ⟨_, rfl⟩
  have hB2 : Below w.heap.size w W2 := by rw [hW]; exact (HB0.out.trans (hb1.mono HB0.out.size)).alloc (Nat.le_trans HB0.out.size hb1.size) _
  have HRW2 : Hid (W2.heap[w.heap.size]? = some (.cells #[.slice mp ms.length mc, vc] 29)) := Lib.hid (by rw [hW]; exact (heap_old _ _ _ (Nat.lt_of_lt_of_le (heap_lt HROW.out) hb1.size)).trans ((hb1.block _ (heap_lt HROW.out)).trans HROW.out))
  have HR1W : Hid (W2.heap[w.heap.size + 1]? = some (.cells #[.slice none 0 0, .slice none 0 0] 29)) := Lib.hid (by rw [hW]; exact (heap_old _ _ _ (Nat.lt_of_lt_of_le (heap_lt HR1.out) hb1.size)).trans ((hb1.block _ (heap_lt HR1.out)).trans HR1.out))
  have HR2W : Hid (W2.heap[w.heap.size + 1 + 1]? = some (.cells #[.int .i64 0, .int .u64 0] 70)) := Lib.hid (by rw [hW]; exact (heap_old _ _ _ (Nat.lt_of_lt_of_le (heap_lt HR2.out) hb1.size)).trans ((hb1.block _ (heap_lt HR2.out)).trans HR2.out))
  rw [← hW]
  have l0 := cell_at (o := 0) HRW2.out rfl
  have l1 := cell_at (o := 1) HRW2.out rfl
  clear hW
  go_cut [14] (fun s14 wx => ∃ v2, s14 = v2 ∧ wx.ownsRow W2.heap.size 85 2 v2 (setL cs b low).length (cellVs (setL cs b low)) ∧ Below W2.heap.size W2 wx)
  case first =>
    go_region_with (first
      | (go_at_call 58; (with_reducible refine (HCL.out _ (by first | exact hB2.drew | exact hB2.drew.trans (Below.mono (by assumption) hB2.drew.size))).mono ?_); rintro e wB ⟨v', rfl, ho, hbB⟩; have l2 := cell_at (o := 0) ((hbB.block _ (heap_lt HRW2.out)).trans HRW2.out) rfl; have l3 := cell_at (o := 1) ((hbB.block _ (heap_lt HRW2.out)).trans HRW2.out) rfl)
      | (go_at_call 59; (with_reducible refine (HWD.out b _ (by first | exact hB2.drew | exact hB2.drew.trans (Below.mono (by assumption) hB2.drew.size))).mono ?_); rintro e wA ⟨rfl, hbA⟩; have l4 := cell_at (o := 0) ((hbA.block _ (Nat.lt_of_lt_of_le (heap_lt HRW2.out) (by first | exact Nat.le_refl _ | exact hbB.size))).trans (by first | exact HRW2.out | exact (hbB.block _ (heap_lt HRW2.out)).trans HRW2.out)) rfl; have l5 := cell_at (o := 1) ((hbA.block _ (Nat.lt_of_lt_of_le (heap_lt HRW2.out) (by first | exact Nat.le_refl _ | exact hbB.size))).trans (by first | exact HRW2.out | exact (hbB.block _ (heap_lt HRW2.out)).trans HRW2.out)) rfl)
      | (go_at_call 57; rw [fL.out]; have hcall := (by first | exact HSET.out W2.heap.size wB v' (own_mono ho hbA.size) (Nat.le_trans hbA.size hbB.size) | exact HSET.out W2.heap.size wA v' (own_below (own_mono ho (Nat.le_refl _)) hbA) (Nat.le_trans hbB.size hbA.size)); (with_reducible refine hcall.mono ?_); clear hcall; rintro e wC ⟨v2, rfl, hoC, hbC⟩; have KO := Lib.hid hoC; have KB : Hid (Below W2.heap.size W2 wC) := Lib.hid (by first | exact ((below_of_drew hbA).trans (hbB.mono hbA.size)).trans hbC | exact ((below_of_drew hbB).trans (hbA.mono hbB.size)).trans hbC); clear hoC hbC))
    all_goals (go_wp2; go_meet; exact ⟨_, rfl, KO.out, KB.out⟩)
  case rest =>
    obtain ⟨v2, rfl, hoC, hbC⟩ := hcut
    obtain ⟨qp, qc, rfl⟩ := own_slice hoC
    have KO := Lib.hid hoC; have KB := Lib.hid hbC
    clear hoC hbC l0 l1
    have HC0 : Hid (wc.heap[w.heap.size]? = some (.cells #[.slice mp ms.length mc, vc] 29)) := Lib.hid ((KB.out.block _ (heap_lt HRW2.out)).trans HRW2.out)
    have HC1 : Hid (wc.heap[w.heap.size + 1]? = some (.cells #[.slice none 0 0, .slice none 0 0] 29)) := Lib.hid ((KB.out.block _ (heap_lt HR1W.out)).trans HR1W.out)
    have HC2 : Hid (wc.heap[w.heap.size + 1 + 1]? = some (.cells #[.int .i64 0, .int .u64 0] 70)) := Lib.hid ((KB.out.block _ (heap_lt HR2W.out)).trans HR2W.out)
    have l0 := cell_at (o := 0) HC0.out rfl
    have l1 := cell_at (o := 1) HC0.out rfl
    have f1 := free_at (o := 1) HC0.out
    have m0 := cell_at (o := 0) HC1.out rfl
    have m1 := cell_at (o := 1) HC1.out rfl
    have mf0 := free_at (o := 0) HC1.out
    have mf1 := free_at (o := 1) HC1.out
    have r0 := cell_at (o := 0) HC2.out rfl
    have r1 := cell_at (o := 1) HC2.out rfl
    have rf0 := free_at (o := 0) HC2.out
    have rf1 := free_at (o := 1) HC2.out
    obtain ⟨hg, hhg⟩ : ∃ hg : Nat, hg = M / 2 / 2 ^ (63 - 8 * r) := ⟨_, rfl⟩
    have fH : (M : Int) / 2 / 2 ^ (63 - 8 * r) = (hg : Int) := by rw [hhg]; simp
    have HHG := Lib.hid hhg
    clear hhg
    have hz2 : w.heap.size + 1 + 1 < W2.heap.size := heap_lt HR2W.out
    by_cases hcase : hg ≠ 0 ∧ 0 < r
    · obtain ⟨g1, g2⟩ := hcase
      have hne : ((hg : Int) != 0) = true := by simp; omega
      have hgt : decide (0 < 8 * (r : Int)) = true := decide_eq_true (by omega)
      have h8 : 8 < r + n := (hi_iff hn hn8 (by omega)).1 ⟨by rw [← HDM.out, ← HHG.out]; exact g1, g2⟩
      have hbx : b + 8 < 18446744073709551616 := by have := HDB.out; have := HDR.out; omega
      obtain ⟨b8, hb8⟩ : ∃ b8 : Nat, b8 = b + 8 := ⟨_, rfl⟩
      have fB8 : IntKind.u64.wrap ((b : Int) + 8) = (b8 : Int) := by rw [IntKind.wrap_u64]; omega
      obtain ⟨uh, huh⟩ : ∃ uh : Nat, uh = u / 2 ^ (64 - 8 * r) := ⟨_, rfl⟩
      have fU : (u : Int) / 2 ^ (64 - 8 * r) = (uh : Int) := by rw [huh]; simp
      obtain ⟨hi, hhi⟩ : ∃ hi : Nat, hi = keepW (wordL cs b8) hg ||| uh := ⟨_, rfl⟩
      have hg64 : hg < 18446744073709551616 := by rw [HHG.out]; have h1 := Nat.div_le_self (M / 2) (2 ^ (63 - 8 * r)); omega
      have hu64 : uh < 18446744073709551616 := by
        have h1 := Nat.div_le_self u (2 ^ (64 - 8 * r))
        have h2 := Nat.mod_lt v (Nat.two_pow_pos (8 * n))
        have h3 := HDM.out; have h4 := HDU.out
        omega
      have hhi64 : hi < 18446744073709551616 := by rw [hhi, huh, HDU.out, HHG.out, HDM.out]; exact high_lt hn8
      have fHi : Hid (bits BinOp.or IntKind.u64 (bits BinOp.andNot IntKind.u64 (wordL cs b8 : Int) (hg : Int)) (uh : Int) = (hi : Int)) := Lib.hid (by
        rw [u64_andNot_nat _ _ (wordL_lt HCS.out.word b8) hg64, u64_or_nat _ _ (Nat.lt_of_le_of_lt Nat.and_le_left (wordL_lt HCS.out.word b8)) hu64, hhi]
        rfl)
      have hb88 : b8 % 8 = 0 := by have := HDB.out; have := HDR.out; omega
      have HHI : Hid (storeL cs x n v = setL (setL cs b low) b8 hi) := Lib.hid (by
        have hx1 : x % 8 = r := HDR.out.symm
        have hx2 : x - r = b := HDB.out.symm
        unfold storeL
        rw [hx1, if_pos ⟨by rw [← HDM.out, ← HHG.out]; exact g1, g2⟩, hx2, ← hb8, ← HDU.out, ← HDM.out, ← HLOW.out, ← HHG.out, ← huh, ← hhi])
      have HS2 : Hid (∀ W, Below wc.heap.size wc W → Calls Try.prog 57 #[.slice qp (setL cs b low).length qc, .int .u64 (b8 : Nat), .int .u64 (hi : Nat)] W fun e w' => ∃ v', e = .returned v' ∧ w'.ownsRow W2.heap.size 85 2 v' (setL (setL cs b low) b8 hi).length (cellVs (setL (setL cs b low) b8 hi)) ∧ Below W2.heap.size W w') :=
        Lib.hid (fun W hW => set_any W2.heap.size _ HCS1.out.rise (by have := setL_len cs b low; omega) b8 hi (by omega) hhi64 _ W (own_below KO.out hW) (Nat.le_trans KB.out.size hW.size))
      clear hb8 huh hhi g1 g2 h8 hbx hg64 hu64 hhi64 hb88
      go_upto_region 13 with (first
        | (go_at_call 59; (with_reducible refine (HWD.out b8 _ (hB2.trans (KB.out.mono hB2.size))).mono ?_); rintro e wA ⟨rfl, hbA⟩)
        | (go_at_call 57; rw [fHi.out]; (with_reducible refine (HS2.out _ hbA).mono ?_); rintro e wD ⟨v3, rfl, hoD, hbD⟩))
      obtain ⟨sp, sc, rfl⟩ := own_slice hoD
      have KO2 := Lib.hid hoD
      have KB2 : Hid (Below W2.heap.size wc wD) := Lib.hid ((hbA.mono KB.out.size).trans hbD)
      clear hoD hbD hbA l0 l1 f1 m0 m1 mf0 mf1 r0 r1 rf0 rf1
      have HE0 : Hid (wD.heap[w.heap.size]? = some (.cells #[.slice mp ms.length mc, vc] 29)) := Lib.hid ((KB2.out.block _ (by omega)).trans HC0.out)
      have HE1 : Hid (wD.heap[w.heap.size + 1]? = some (.cells #[.slice none 0 0, .slice none 0 0] 29)) := Lib.hid ((KB2.out.block _ (by omega)).trans HC1.out)
      have HE2 : Hid (wD.heap[w.heap.size + 1 + 1]? = some (.cells #[.int .i64 0, .int .u64 0] 70)) := Lib.hid ((KB2.out.block _ (by omega)).trans HC2.out)
      have l0 := cell_at (o := 0) HE0.out rfl
      have l1 := cell_at (o := 1) HE0.out rfl
      have f1 := free_at (o := 1) HE0.out
      have m0 := cell_at (o := 0) HE1.out rfl
      have m1 := cell_at (o := 1) HE1.out rfl
      have mf0 := free_at (o := 0) HE1.out
      have mf1 := free_at (o := 1) HE1.out
      have r0 := cell_at (o := 0) HE2.out rfl
      have r1 := cell_at (o := 1) HE2.out rfl
      have rf0 := free_at (o := 0) HE2.out
      have rf1 := free_at (o := 1) HE2.out
      go_wp2
      refine bodyPost_ret (res_cell_cell rfl rfl (three_set HE1.out HE2.out).1 (by kernel_rfl) (by show _ = some 2; kernel_rfl) rfl (run_var_row _ _ _ _ _ _ (three_set HE1.out HE2.out).2 (by kernel_rfl) (by show _ = some 2; kernel_rfl))) rfl ?_
      refine ⟨_, rfl, ?_, ?_⟩
      · rw [HHI.out]; exact cellsV_of_own (own_setCell (own_setCell (own_setCell (own_setCell (own_setCell KO2.out (by omega)) (by omega)) (by omega)) (by omega)) (by omega))
      · exact ((((((hB2.trans ((KB.out.trans KB2.out).mono hB2.size)).setCell (Nat.le_refl _) _).setCell (by simp) _).setCell (by simp) _).setCell (by simp; omega) _).setCell (by simp; omega) _)
    · have HLO : Hid (storeL cs x n v = setL cs b low) := Lib.hid (by
        have hx1 : x % 8 = r := HDR.out.symm
        have hx2 : x - r = b := HDB.out.symm
        unfold storeL
        rw [hx1, if_neg (by rw [← HDM.out, ← HHG.out]; exact hcase), hx2, ← HDU.out, ← HDM.out, ← HLOW.out])
      by_cases h1 : hg = 0
      · have hne : ((hg : Int) != 0) = false := by subst h1; rfl
        clear h1 hcase
        go_wp2
        refine bodyPost_ret (res_cell_cell rfl rfl (three_set HC1.out HC2.out).1 (by kernel_rfl) (by show _ = some 2; kernel_rfl) rfl (run_var_row _ _ _ _ _ _ (three_set HC1.out HC2.out).2 (by kernel_rfl) (by show _ = some 2; kernel_rfl))) rfl ?_
        refine ⟨_, rfl, ?_, ?_⟩
        · rw [HLO.out]; exact cellsV_of_own (own_setCell (own_setCell (own_setCell (own_setCell (own_setCell KO.out (by omega)) (by omega)) (by omega)) (by omega)) (by omega))
        · exact ((((((hB2.trans (KB.out.mono hB2.size)).setCell (Nat.le_refl _) _).setCell (by simp) _).setCell (by simp) _).setCell (by simp; omega) _).setCell (by simp; omega) _)
      · have h2 : r = 0 := by omega
        have hne : ((hg : Int) != 0) = true := by simp; omega
        have hgt : decide (0 < 8 * (r : Int)) = false := decide_eq_false (by omega)
        clear h1 h2 hcase
        go_wp2
        refine bodyPost_ret (res_cell_cell rfl rfl (three_set HC1.out HC2.out).1 (by kernel_rfl) (by show _ = some 2; kernel_rfl) rfl (run_var_row _ _ _ _ _ _ (three_set HC1.out HC2.out).2 (by kernel_rfl) (by show _ = some 2; kernel_rfl))) rfl ?_
        refine ⟨_, rfl, ?_, ?_⟩
        · rw [HLO.out]; exact cellsV_of_own (own_setCell (own_setCell (own_setCell (own_setCell (own_setCell KO.out (by omega)) (by omega)) (by omega)) (by omega)) (by omega))
        · exact ((((((hB2.trans (KB.out.mono hB2.size)).setCell (Nat.le_refl _) _).setCell (by simp) _).setCell (by simp) _).setCell (by simp; omega) _).setCell (by simp; omega) _)
end Go.Proofs.Ytbaelhaajplbnaa
