/-
  SigsNext: what is taken did wait and is not masked; none that is lower could be taken, unless it is the one that kills; all others wait as they did.
-/
import Derived.Test.YtofeamajoahjmaaDoorFEnters
namespace Go.Proofs.YtofeamajoahjmaaDoor
open Go Go.RowKit
set_option linter.unusedVariables false
set_option linter.unusedSimpArgs false

theorem clr9_self {x : Nat} (hx : x < 18446744073709551616) (h : x &&& 256 = 0) : clr9 x = x := by
  apply Nat.eq_of_testBit_eq
  intro i
  rw [clr9, Nat.testBit_and, compl_bit _ _ (by decide)]
  cases hi : x.testBit i
  · simp
  · have h2 := bit_lt64 hx hi
    have h3 : (x &&& 256).testBit i = false := by rw [h]; simp
    rw [Nat.testBit_and, hi] at h3
    simp only [Bool.true_and] at h3
    rw [h3]; simp [h2]
theorem ready_nil {x : Nat} (hx : x < 18446744073709551616) (h : readyL x = []) : x = 0 := by
  unfold readyL at h
  split at h
  · rename_i h0
    rw [clr9_self hx h0] at h
    by_cases hz : x = 0
    · exact hz
    · rw [lowF_step hz] at h; simp at h
  · simp at h
/-- The first one of those that can be taken: it can; and none that is lower can, unless it is the ninth. -/
theorem ready_head {x k : Nat} {t : List Nat} (hx : x < 18446744073709551616) (h : readyL x = k :: t) : k < 64 ∧ x.testBit k = true ∧ (k ≠ 8 → x &&& (2 ^ k - 1) = 0) := by
  unfold readyL at h
  split at h
  · rename_i h0
    rw [clr9_self hx h0] at h
    have hz : x ≠ 0 := by
      intro e
      subst e
      rw [lowF_zero] at h; simp at h
    rw [lowF_step hz] at h
    simp only [List.nil_append, List.cons.injEq] at h
    obtain ⟨m, hm, hlt⟩ := Lib.ctzFrom_spec 64 x (by omega) hx
    have hk : Lib.ctz 64 x = Lib.ctzFrom 64 x := by simp [Lib.ctz, hz]
    rw [h.1] at hk
    rw [← hk] at hm hlt
    refine ⟨hlt, ?_, fun _ => ?_⟩
    · rw [hm, Nat.mul_comm, Nat.testBit_mul_two_pow]
      simp
    · rw [Nat.and_two_pow_sub_one_eq_mod, hm]
      exact Nat.mul_mod_right _ _
  · rename_i h0
    simp only [List.cons_append, List.nil_append, List.cons.injEq] at h
    rw [← h.1]
    refine ⟨by omega, ?_, fun e => absurd rfl e⟩
    cases h1 : x.testBit 8
    · exfalso
      apply h0
      apply Nat.eq_of_testBit_eq
      intro i
      rw [Nat.testBit_and, show (256 : Nat) = 2 ^ 8 from rfl, Nat.testBit_two_pow]
      by_cases e : 8 = i
      · rw [← e, h1]; simp
      · simp [e]
    · rfl
theorem unmasked {w m k : Nat} (hm : m < 18446744073709551616) (h : (w &&& (18446744073709551615 - m)).testBit k = true) : m &&& 2 ^ k = 0 := by
  rw [Nat.testBit_and, compl_bit _ _ hm] at h
  simp only [Bool.and_eq_true, Bool.not_eq_true'] at h
  apply Nat.eq_of_testBit_eq
  intro i
  rw [Nat.testBit_and, Nat.testBit_two_pow]
  by_cases e : k = i
  · rw [← e, h.2.2]; simp
  · simp [e]

theorem pow_lt64 {k : Nat} (hk : k < 64) : 2 ^ k < 18446744073709551616 := by
  have := Nat.pow_lt_pow_right (a := 2) (by omega) hk
  simpa using this

theorem eq_self_sig {cs : Array Value} (h : Fits sigK cs.toList) (W : World) : (Op.equalIn 10000 30 (.agg cs) (.agg cs)).run Tryd.prog W = .ok true W := by
  rw [eq_flat' sig_flat (by kernel_rfl) (by omega) h h W]
  rw [(cellsEq_iff h h).2 rfl]

set_option maxHeartbeats 4000000 in
set_option maxRecDepth 100000 in
theorem next_walk (cs : Array Value) (h : Fits sigK cs.toList) (w : World) (hT : TabAt w) :
    Calls Tryd.prog 3 #[.agg cs] w fun e w' => e = .returned (.bool true) ∧ Below w.heap.size w w' := by
  have HT := Lib.hid hT
  have H := Lib.hid h
  clear h hT
  have z1 := (zero_of_info sig_zero).1
  cases c1 : fitSig cs
  · have C1 := Lib.hid c1; clear c1
    go_enter Tryd.func3, Tryd.ntmps3
    go_upto_region 2 with (first
      | (refine wpl_load 30 ?_; refine LoadGoal.of cs (t := 30) (fr := (0, 0)) rfl (heap_new _ _ _ rfl) (by kernel_rfl) (sig_sz H.out) rfl ?_)
      | (go_at_call 8; refine (fit26_any cs H.out _).mono ?_; rintro e w' ⟨rfl, m, rfl⟩; rw [C1.out]))
    obtain ⟨W, hW⟩ : ∃ W, W = ((w.alloc (.cells cs 30)).alloc (.cells cs 30)).drewN m := ⟨_, rfl⟩
    have HB : Hid (Below w.heap.size w W) := Lib.hid (by rw [hW]; (repeat (first | exact Below.refl _ _ | (refine below_drewN ?_ _) | (refine Below.alloc ?_ (by (try simp only [heap_len, heap_drewN]); omega) _))))
    rw [← hW]
    clear hW
    go_wp2_with (go_at_call 9; refine (awake26_any _ (tab_below HB.out HT.out)).mono ?_; rintro e w' ⟨rfl, hb⟩)
    go_ret
    exact ⟨rfl, HB.out.trans (hb.mono HB.out.size)⟩
  · have C1 := Lib.hid c1; clear c1
    go_enter Tryd.func3, Tryd.ntmps3
    go_upto_region 3 with (first
      | (refine wpl_load 30 ?_; refine LoadGoal.of cs (t := 30) (fr := (0, 0)) rfl (heap_new _ _ _ rfl) (by kernel_rfl) (sig_sz H.out) rfl ?_)
      | (go_at_call 8; refine (fit26_any cs H.out _).mono ?_; rintro e w' ⟨rfl, m, rfl⟩; rw [C1.out]))
    obtain ⟨W, hW⟩ : ∃ W, W = ((w.alloc (.cells cs 30)).alloc (.cells cs 30)).drewN m := ⟨_, rfl⟩
    have B1 : Hid (W.heap[w.heap.size]? = some (.cells cs 30)) := Lib.hid (by rw [hW]; exact (heap_old _ _ _ (by simp only [heap_len]; omega)).trans (heap_new _ _ _ rfl))
    have HB : Hid (Below w.heap.size w W) := Lib.hid (by rw [hW]; (repeat (first | exact Below.refl _ _ | (refine below_drewN ?_ _) | (refine Below.alloc ?_ (by (try simp only [heap_len, heap_drewN]); omega) _))))
    rw [← hW]
    clear hW
    obtain ⟨A, hA⟩ : ∃ A, A = nextA cs := ⟨_, rfl⟩
    obtain ⟨y, hy⟩ : ∃ y, y = nextI cs := ⟨_, rfl⟩
    have HA := Lib.hid hA; have HY := Lib.hid hy
    have FA : Hid (Fits sigK A.toList) := Lib.hid (by rw [hA]; exact next_fits H.out)
    clear hA hy
    go_upto_region 4 with (first
      | (refine wpl_load 30 ?_; refine LoadGoal.of cs rfl B1.out (by kernel_rfl) (sig_sz H.out) rfl ?_)
      | (go_at_call 10; refine (sgNext cs H.out _ (tab_below HB.out HT.out)).mono ?_; rintro e w2 ⟨rfl, hb2⟩; rw [← HA.out, ← HY.out])
      | (refine wpl_store 30 ?_; refine StoreGoal.of A sigZ rfl rfl (heap_new _ _ _ rfl) FA.out sigZ_fits sig_size ?_))
    obtain ⟨W2, hW2⟩ : ∃ W2, W2 = (w2.alloc (.cells sigZ 30)).setRow w2.heap.size A := ⟨_, rfl⟩
    obtain ⟨b, hb⟩ : ∃ b, b = w2.heap.size := ⟨_, rfl⟩
    have hlt : w.heap.size < b := by rw [hb]; exact Nat.lt_of_lt_of_le (heap_lt B1.out) hb2.size
    have G1 : Hid (W2.heap[w.heap.size]? = some (.cells cs 30)) := Lib.hid (by rw [hW2]; exact (row_ne _ _ _ _ (by omega)).trans ((heap_old _ _ _ (by omega)).trans ((hb2.block _ (heap_lt B1.out)).trans B1.out)))
    have G2 : Hid (W2.heap[b]? = some (.cells A 30)) := Lib.hid (by rw [hW2, hb]; exact row_same (heap_new _ _ _ rfl))
    have HB2 : Hid (Below w.heap.size w W2) := Lib.hid (by rw [hW2]; exact below_row ((HB.out.trans (hb2.mono HB.out.size)).alloc (by omega) _) _ _ (by omega))
    rw [← hW2, ← hb]
    clear hW2 hb hb2 B1 HB
    have c0 := cell_at G1.out (H.out.iat (i := 0) rfl).1
    have c1 := cell_at G1.out (H.out.iat (i := 1) rfl).1
    have hg : Tryd.prog.eqGuardType Tryd.prog.depth 30 = false := by kernel_rfl
    cases hr : readyL (canN cs) with
    | nil =>
      have hA : A = cs := by rw [HA.out, nextA, hr]
      have hY : y = 0 := by rw [HY.out, nextI, hr]
      have h0 := ready_nil (canN_lt cs) hr
      have hcan : bits BinOp.andNot .u64 (iat cs 1) (iat cs 0) = 0 := by rw [canN_is H.out, h0]; rfl
      subst hY
      have G2' : Hid (W2.heap[b]? = some (.cells cs 30)) := Lib.hid (by rw [← hA]; exact G2.out)
      have q : ∀ W, (Op.equalIn 10000 30 (.agg cs) (.agg cs)).run Tryd.prog W = .ok true W := eq_self_sig H.out
      clear hr h0
      go_wp2_with (first
        | (refine wpl_load 30 ?_; refine LoadGoal.of cs rfl G1.out (by kernel_rfl) (sig_sz H.out) rfl ?_)
        | (refine wpl_load 30 ?_; refine LoadGoal.of cs rfl G2'.out (by kernel_rfl) (sig_sz H.out) rfl ?_)
        | (go_at_call 9; refine (awake26_any _ (tab_below HB2.out HT.out)).mono ?_; rintro e w' ⟨rfl, hb⟩))
      go_ret
      exact ⟨rfl, HB2.out.trans (hb.mono HB2.out.size)⟩
    | cons k t =>
      obtain ⟨hk, hbit, hlow⟩ := ready_head (canN_lt cs) hr
      have hte : takeE k = (k : Int) + 1 := by rw [takeE, Nat.mod_eq_of_lt hk]
      have hA : A = takeA cs ((k : Int) + 1) := by rw [HA.out, nextA, hr, ← hte]
      have hY : y = (k : Int) + 1 := by rw [HY.out, nextI, hr, ← hte]
      have r0 := (H.out.iat (i := 0) rfl).2
      have r1 := (H.out.iat (i := 1) rfl).2
      rw [wf_u64] at r0 r1
      have hp := pow_lt64 hk
      have hmask : bits BinOp.and .u64 (iat cs 0) (bitN ((k : Int) + 1)) = 0 := by
        rw [bitN_k, u64_and _ _ (by omega) (by omega) (Int.natCast_nonneg _) (Int.ofNat_lt.2 hp), Int.toNat_natCast, unmasked (w := (iat cs 1).toNat) (by omega) hbit]; rfl
      have hcan := canN_is H.out
      have hown : IntKind.u64.wrap (2 ^ k) = bitN ((k : Int) + 1) := by
        have := bitN_wrap ((k : Int) + 1) (by omega) (by omega)
        rwa [show ((k : Int) + 1).toNat - 1 = k by omega] at this
      have hsub : IntKind.u64.wrap (bitN ((k : Int) + 1) - 1) = ((2 ^ k - 1 : Nat) : Int) := by
        have : 0 < 2 ^ k := Nat.pow_pos (by omega)
        rw [bitN_k, IntKind.wrap_u64]; omega
      obtain ⟨c, hc⟩ : ∃ c, c = canN cs := ⟨_, rfl⟩
      have hc64 := canN_lt cs
      rw [← hc] at hcan hlow hc64
      have hand : bits BinOp.and .u64 (c : Int) ((2 ^ k - 1 : Nat) : Int) = ((c &&& (2 ^ k - 1) : Nat) : Int) := u64_and_nat _ _ hc64 (by omega)
      obtain ⟨lw, hlw⟩ : ∃ lw, lw = c &&& (2 ^ k - 1) := ⟨_, rfl⟩
      rw [← hlw] at hand hlow
      subst hY
      have hk1 : (k : Int) < 64 := by omega
      have HLOW := Lib.hid hlow
      have HTA : Hid (Fits sigK (takeA cs ((k : Int) + 1)).toList) := Lib.hid (take_fits H.out _)
      have G2' : Hid (W2.heap[b]? = some (.cells (takeA cs ((k : Int) + 1)) 30)) := Lib.hid (by rw [← hA]; exact G2.out)
      have q : ∀ W, (Op.equalIn 10000 30 (.agg (takeA cs ((k : Int) + 1))) (.agg (takeA cs ((k : Int) + 1)))).run Tryd.prog W = .ok true W := eq_self_sig HTA.out
      have fz := free_at (o := 1) G1.out
      clear hr hlow hbit hte r0 r1 hp hc hc64 hlw
      go_upto_region 10 with fail
      go_upto_region 11 with fail
      obtain ⟨W3, hW3⟩ : ∃ W3, W3 = W2.setCell ⟨w.heap.size, 1, none⟩ (.int .u64 (bits BinOp.andNot .u64 (iat cs 1) (bitN ((k : Int) + 1)))) := ⟨_, rfl⟩
      have K1 : Hid (W3.heap[w.heap.size]? = some (.cells (takeA cs ((k : Int) + 1)) 30)) := Lib.hid (by rw [hW3]; exact heap_set G1.out)
      have K2 : Hid (W3.heap[b]? = some (.cells (takeA cs ((k : Int) + 1)) 30)) := Lib.hid (by rw [hW3]; exact (heap_set_ne _ _ _ _ _ (by omega)).trans G2'.out)
      have HB3 : Hid (Below w.heap.size w W3) := Lib.hid (by rw [hW3]; exact HB2.out.setCell (Nat.le_refl _) _)
      have d0 : W3.cell? ⟨w.heap.size, 0, none⟩ = some (.int .u64 (iat cs 0)) := cell_at K1.out (by rw [takeA, set_get, if_neg (by omega)]; exact (H.out.iat (i := 0) rfl).1)
      rw [← hW3]
      clear hW3 G1 G2 G2' HB2 c0 c1 fz
      cases e8 : ((k : Int) + 1 == 9)
      · have hl0 : lw = 0 := HLOW.out (by intro e; rw [e] at e8; simp at e8)
        have hlz : ((lw : Int) == 0) = true := by rw [hl0]; rfl
        clear hl0
        go_wp2_with (first
          | (refine wpl_load 30 ?_; refine LoadGoal.of (takeA cs ((k : Int) + 1)) rfl K1.out (by kernel_rfl) (sig_sz HTA.out) rfl ?_)
          | (refine wpl_load 30 ?_; refine LoadGoal.of (takeA cs ((k : Int) + 1)) rfl K2.out (by kernel_rfl) (sig_sz HTA.out) rfl ?_)
          | (go_at_call 9; refine (awake26_any _ (tab_below HB3.out HT.out)).mono ?_; rintro e w' ⟨rfl, hb⟩))
        go_ret
        exact ⟨rfl, HB3.out.trans (hb.mono HB3.out.size)⟩
      · cases hlz : ((lw : Int) == 0)
        all_goals
          go_wp2_with (first
            | (refine wpl_load 30 ?_; refine LoadGoal.of (takeA cs ((k : Int) + 1)) rfl K1.out (by kernel_rfl) (sig_sz HTA.out) rfl ?_)
            | (refine wpl_load 30 ?_; refine LoadGoal.of (takeA cs ((k : Int) + 1)) rfl K2.out (by kernel_rfl) (sig_sz HTA.out) rfl ?_)
            | (go_at_call 9; refine (awake26_any _ (tab_below HB3.out HT.out)).mono ?_; rintro e w' ⟨rfl, hb⟩))
          go_ret
          exact ⟨rfl, HB3.out.trans (hb.mono HB3.out.size)⟩
end Go.Proofs.YtofeamajoahjmaaDoor
