/-
  Names: the program's iterator over the places of a name's way.
-/
import Derived.Test.YtlifdfkconklfaaDoorFNmZ
import Derived.Stop.RegionWithIn
namespace Go.Proofs.YtlifdfkconklfaaDoor
open Go Go.RowKit Go.Shelf
set_option linter.unusedVariables false
set_option linter.unusedSimpArgs false
attribute [local go_sem] Oper.semAt_some

/-- A guarded call that is not wanted. -/
theorem wplIn_skip_call {n : Nat} {P : Program} {ops : Array Oper} {Q : Exit → Act → World → Prop} {rest : List Oper} {a : Act} {w : World} {d : Option Tmp} {c : Call} {ty : TypeId} {pos : String} {af : Array Edge} {g : Nat × Bool}
    (hw : Region.wanted ⟨d, .call c, ty, pos, af, some g⟩ (yielded ops a.tmps) = false) (h : wpListIn Fence.wide n P ops Q rest (a.put d undef) w) : wpListIn Fence.wide n P ops Q (⟨d, .call c, ty, pos, af, some g⟩ :: rest) a w := by
  unfold wpListIn
  rw [if_neg (by rw [hw]; exact Bool.false_ne_true)]
  exact ⟨fun _ _ => trivial, h⟩
theorem abide_below {β : Type} {B : Nat} {J : β → World → Prop} (h : AbidesFrom B J) {s : β} {W W' : World} (hs : J s W) (hb : Below W.heap.size W W') : J s W' :=
  h s W W' none hs ⟨hb.os, hb.tape, hb.output, hb.size, fun k hk _ => hb.block k hk⟩ (fun r e => by cases e)

set_option maxHeartbeats 2000000 in
set_option maxRecDepth 10000 in
theorem chain_in (n : Nat) (hn : 1 ≤ n) (l n₀ b1 b2 b3 : Nat) (hb name : List UInt8) (N : Nat) (hhb : hb.length ≤ 1000000) (hname : name.length ≤ 1000000) (hN : N ≤ 1000000) (J Jx : List (Fin N) → World → Prop)
    (W : World) (hJ : AbidesFrom W.heap.size J) (hJx : AbidesFrom W.heap.size Jx)
    (hY : ∀ pre x W, J pre W → pre.length < N + 1 → YieldAt Fence.wide (n - 1) Tryd.prog l #[.int .i64 (x.val : Nat)] W fun e W' =>
      (e = .returned (.bool true) ∧ J (pre ++ [x]) W' ∧ Below n₀ W W') ∨ (e = .returned (.bool false) ∧ Jx (pre ++ [x]) W'))
    (hb1 : b1 < n₀) (hb2 : b2 < n₀) (hb3 : b3 < n₀) (hz : n₀ ≤ W.heap.size)
    (hc1 : W.cell? ⟨b1, 2, none⟩ = some (.string (mkB hb))) (hc2 : W.cell? ⟨b2, 0, none⟩ = some (.string (mkB name))) (hc3 : W.cell? ⟨b3, 0, none⟩ = some (.int .i64 N)) (h0 : J [] W) :
    CallsIn Fence.wide n Tryd.prog 54 #[.func (.yield l) #[] #[], .pointer (some ⟨b1, 0, none⟩), .pointer (some ⟨b2, 0, none⟩), .pointer (some ⟨b3, 0, none⟩)] W fun e W' => (∃ v, e = .returned v) ∧
      ((∃ ys : List (Fin N), ys.map Fin.val = chainL hb name N ∧ J ys W') ∨ (∃ pre : List (Fin N), pre.map Fin.val <+: chainL hb name N ∧ Jx pre W')) := by
  have HJ := Lib.hid hJ; have HY := Lib.hid hY; have H0 := Lib.hid h0
  have HAT : Hid (∀ (k : Nat) (W : World), k ≤ 1099511627776 → Calls Tryd.prog 55 #[.string (mkB hb), .int .i64 k] W fun e w' => e = .returned (.tuple #[.int .i64 (numV (numAt hb k) : Nat), .bool (numAt hb k).isSome]) ∧ Below W.heap.size W w') := Lib.hid (fun k W hk => at_any hb k (by omega) hk W)
  have HAT0 : Hid (∀ (W : World), Calls Tryd.prog 55 #[.string (mkB hb), .int .i64 0] W fun e w' => e = .returned (.tuple #[.int .i64 (numV (numAt hb 0) : Nat), .bool (numAt hb 0).isSome]) ∧ Below W.heap.size W w') := Lib.hid (fun W => HAT.out 0 W (by omega))
  have HHS : Hid (∀ w, Calls Tryd.prog 14 #[.string (mkB name)] w fun e w' => e = .returned (.int .u32 (hashL name : Nat)) ∧ Below w.heap.size w w') := Lib.hid (fun w => hash_any name (by omega) w)
  have hNi : (N : Int) ≤ 1000000 := by omega
  have hw1 : Fence.wide.fn 55 := trivial
  have hw2 : Fence.wide.fn 14 := trivial
  clear hJ hJx hY h0 hhb hname hN
  refine callsIn_of_wp Tryd.func54 rfl trivial ?_ rfl
  simp only [Tryd.ntmps54, List.size_toArray, List.length_cons, List.length_nil, Nat.reduceAdd, Nat.reduceSub, Array.replicate_succ, Array.replicate_zero, List.push_toArray, List.append_toArray, List.nil_append, List.cons_append]
  cases hn0 : numAt hb 0 with
  | none =>
    have HC : Hid (chainL hb name N = []) := Lib.hid (by unfold chainL; rw [hn0])
    rw [hn0] at HAT0
    clear hn0
    gi_wp2_with (gi_at_call 55; refine (callsIn_wide.2 (HAT0.out _)).mono ?_; rintro e w1 ⟨rfl, hw⟩; have HW := Lib.hid hw; clear hw)
    refine bodyPost_ret (results_none rfl _ _ _) rfl ?_
    exact ⟨⟨_, rfl⟩, .inl ⟨[], HC.out.symm, abide_below HJ.out H0.out HW.out⟩⟩
  | some ways =>
    have hwl := numAt_lt hn0
    have hwi : (ways : Int) ≤ 4294967295 := by omega
    rw [hn0] at HAT0
    have hnv : (numV (some ways) : Int) = (ways : Int) := rfl
    simp only [hnv] at HAT0
    by_cases hwz : ways = 0
    · subst hwz
      have HC : Hid (chainL hb name N = []) := Lib.hid (by unfold chainL; rw [hn0]; rfl)
      clear hn0 hwi hwl hnv
      gi_wp2_with (gi_at_call 55; refine (callsIn_wide.2 (HAT0.out _)).mono ?_; rintro e w1 ⟨rfl, hw⟩; have HW := Lib.hid hw; clear hw)
      refine bodyPost_ret (results_none rfl _ _ _) rfl ?_
      exact ⟨⟨_, rfl⟩, .inl ⟨[], HC.out.symm, abide_below HJ.out H0.out HW.out⟩⟩
    · obtain ⟨c0, hc0⟩ : ∃ c0, c0 = numAt hb (2 + hashL name % ways) := ⟨_, rfl⟩
      have HC : Hid (chainL hb name N = wayL hb ways N (N + 1) c0) := Lib.hid (by unfold chainL; rw [hn0]; dsimp only; rw [if_neg hwz, hc0])
      have hwne : (ways : Int) ≠ 0 := by omega
      have hwzb : ((ways : Int) == 0) = false := by rw [beq_eq_false_iff_ne]; exact hwne
      clear hn0 hnv hwl
      gi_wp2_with (gi_at_call 55; refine (callsIn_wide.2 (HAT0.out _)).mono ?_; rintro e w1 ⟨rfl, hw⟩; have HW := Lib.hid hw; clear hw; clear hw1)
      obtain ⟨u, hu⟩ : ∃ u : Nat, ((hashL name : Nat) : Int) % (ways : Int) = (u : Int) := ⟨hashL name % ways, by omega⟩
      have huN : u = hashL name % ways := by omega
      have hui : (u : Int) ≤ 4294967295 := by have := Nat.mod_lt (hashL name) (show 0 < ways by omega); omega
      obtain ⟨q, hq⟩ : ∃ q : Nat, (2 : Int) + (u : Int) = (q : Int) := ⟨2 + u, by omega⟩
      have hqN : q = 2 + u := by omega
      have HQ : Hid (∀ W : World, Calls Tryd.prog 55 #[.string (mkB hb), .int .i64 q] W fun e w' => e = .returned (.tuple #[.int .i64 (numV c0 : Nat), .bool c0.isSome]) ∧ Below W.heap.size W w') := Lib.hid (fun W => by
        have := HAT.out q W (by omega)
        rw [hqN, huN, ← hc0] at this
        rw [hqN, huN]
        exact this)
      have hlt0 : Hid (∀ k, c0 = some k → k < 4294967296) := Lib.hid (fun k e => numAt_lt (hc0.symm.trans e))
      have hs1 : Hid (n₀ ≤ w1.heap.size) := Lib.hid (Nat.le_trans hz HW.out.size)
      have d1 : ∀ s : Grown w1, s.w.cell? ⟨b1, 2, none⟩ = some (.string (mkB hb)) := fun s => (s.below.cell (p := ⟨b1, 2, none⟩) (Nat.lt_of_lt_of_le hb1 hs1.out)).trans ((HW.out.cell (p := ⟨b1, 2, none⟩) (Nat.lt_of_lt_of_le hb1 hz)).trans hc1)
      have d2 : ∀ s : Grown w1, s.w.cell? ⟨b2, 0, none⟩ = some (.string (mkB name)) := fun s => (s.below.cell (p := ⟨b2, 0, none⟩) (Nat.lt_of_lt_of_le hb2 hs1.out)).trans ((HW.out.cell (p := ⟨b2, 0, none⟩) (Nat.lt_of_lt_of_le hb2 hz)).trans hc2)
      have d3 : ∀ s : Grown w1, s.w.cell? ⟨b3, 0, none⟩ = some (.int .i64 N) := fun s => (s.below.cell (p := ⟨b3, 0, none⟩) (Nat.lt_of_lt_of_le hb3 hs1.out)).trans ((HW.out.cell (p := ⟨b3, 0, none⟩) (Nat.lt_of_lt_of_le hb3 hz)).trans hc3)
      have J1 : Hid (J [] w1) := Lib.hid (abide_below HJ.out H0.out HW.out)
      clear hc1 hc2 hc3 hc0 huN hqN HAT0
      have hw1 : Fence.wide.fn 55 := trivial
      refine wpIn_wide.2 ?_
      (refine wp_region_grown (by kernel_rfl) (by kernel_rfl) ?_; (repeat (go_big_quiet_step (first | (go_at_call 14; exact Calls.grown (HHS.out _)) | (go_at_call 55; exact Calls.grown (HQ.out _))))); refine wpQuiet_nil ?_; intro _ hw'; obtain ⟨sG, hw''⟩ := hw'; subst hw'')
      have J2 : Hid (J [] sG.w) := Lib.hid (abide_below HJ.out J1.out sG.below)
      have hs2 : Hid (n₀ ≤ sG.w.heap.size) := Lib.hid (Nat.le_trans hs1.out sG.below.size)
      obtain ⟨w2, hw2'⟩ : ∃ w2, w2 = sG.w := ⟨_, rfl⟩
      have e1 := d1 sG; have e2 := d2 sG; have e3 := d3 sG
      rw [← hw2'] at e1 e2 e3 J2 hs2 ⊢
      clear d1 d2 d3 hw2' J1 hs1 HW H0 HHS HQ hq hu hui
      gi_wp2
      gi_loopw [6, 7, 35] (fun okv kv iv wr => ∃ (i : Nat) (c : Option Nat) (pre : List (Fin N)), okv = .bool c.isSome ∧ kv = .int .i64 (numV c : Nat) ∧ iv = .int .i64 (i : Int) ∧ i ≤ N + 1 ∧ Hid (∀ k, c = some k → k < 4294967296) ∧ Hid (pre.length = i) ∧
        Hid (chainL hb name N = pre.map Fin.val ++ wayL hb ways N (N + 1 - i) c) ∧ Hid (J pre wr) ∧ Hid (n₀ ≤ wr.heap.size) ∧ wr.cell? ⟨b1, 2, none⟩ = some (.string (mkB hb)) ∧ wr.cell? ⟨b3, 0, none⟩ = some (.int .i64 N)) (fun _ _ x _ => N + 1 - (intOf x).toNat)
      case atStart => exact ⟨0, c0, [], rfl, rfl, rfl, by omega, hlt0, Lib.hid rfl, HC, J2, hs2, e1, e3⟩
      case round =>
        obtain ⟨i, c, pre, rfl, rfl, rfl, hil, hcl, hpl, hch, hJr, hsr, f1, f3⟩ := hrel
        clear e1 e2 e3 J2 hs2 hlt0 HC
        by_cases hi1 : i ≤ N
        · have hii : (i : Int) < (N : Int) + 1 := by omega
          cases c with
          | none =>
            have hdone : Hid (pre.map Fin.val = chainL hb name N) := Lib.hid (by rw [hch.out, show N + 1 - i = (N - i) + 1 by omega]; simp [wayL])
            gi_wp2_with (refine wplIn_skip_call (by rfl) ?_)
            refine bodyPost_ret (results_none rfl _ _ _) rfl ?_
            exact ⟨⟨_, rfl⟩, .inl ⟨pre, hdone.out, hJr.out⟩⟩
          | some k =>
            have hk1 := hcl.out k rfl
            have hki : (k : Int) ≤ 4294967295 := by omega
            have hnv : (numV (some k) : Int) = (k : Int) := rfl
            rw [hnv]
            clear hnv hcl
            by_cases hk : 1 ≤ k ∧ k ≤ N
            · obtain ⟨j, hj⟩ : ∃ j : Nat, (k : Int) - 1 = (j : Int) := ⟨k - 1, by omega⟩
              obtain ⟨J0, hJ0⟩ : ∃ J0 : Fin N, J0 = ⟨k - 1, by omega⟩ := ⟨_, rfl⟩
              have hjk : (J0.val : Int) = (j : Int) := by rw [hJ0]; show ((k - 1 : Nat) : Int) = _; omega
              have hkl : (k : Int) ≤ (N : Int) := by omega
              have hkp : (1 : Int) ≤ (k : Int) := by omega
              obtain ⟨a1, ha1⟩ : ∃ a1 : Nat, (2 : Int) + (ways : Int) = (a1 : Int) := ⟨2 + ways, by omega⟩
              obtain ⟨q1, hq1⟩ : ∃ q1 : Nat, (a1 : Int) + (k : Int) = (q1 : Int) := ⟨a1 + k, by omega⟩
              have hab : (a1 : Int) ≤ 4294967299 := by omega
              have HN2 : Hid (∀ w, Calls Tryd.prog 55 #[.string (mkB hb), .int .i64 q1] w fun e w' => e = .returned (.tuple #[.int .i64 (numV (numAt hb q1) : Nat), .bool (numAt hb q1).isSome]) ∧ Below w.heap.size w w') := Lib.hid (fun w => HAT.out q1 w (by omega))
              have hst : Hid (chainL hb name N = ((pre ++ [J0]).map Fin.val) ++ wayL hb ways N (N + 1 - (i + 1)) (numAt hb q1)) := Lib.hid (by
                rw [hch.out, show N + 1 - i = (N + 1 - (i + 1)) + 1 by omega, wayL, if_pos hk, show 2 + ways + k = q1 by omega, show (k - 1) = J0.val by rw [hJ0], List.map_append, List.append_assoc]; rfl)
              obtain ⟨fn, tmps, assign, body, hy, hR⟩ := HY.out pre J0 wr hJr.out (by rw [hpl.out]; omega)
              rw [hjk] at hy
              clear hk hjk hch hJ0
              gi_wp2
              refine hR.mono ?_
              rintro e W5 (⟨rfl, hJ5, hk5⟩ | ⟨rfl, hJx5⟩)
              · have H5 := Lib.hid hJ5
                have g1 : W5.cell? ⟨b1, 2, none⟩ = some (.string (mkB hb)) := (hk5.cell (p := ⟨b1, 2, none⟩) hb1).trans f1
                have g3 : W5.cell? ⟨b3, 0, none⟩ = some (.int .i64 N) := (hk5.cell (p := ⟨b3, 0, none⟩) hb3).trans f3
                have hs5 : Hid (n₀ ≤ W5.heap.size) := Lib.hid (Nat.le_trans hsr.out hk5.size)
                clear hJ5 hk5 hy hR f1 f3 hJr
                gi_wp2_with (gi_at_call 55; refine (callsIn_wide.2 (HN2.out _)).mono ?_; rintro e w6 ⟨rfl, hw⟩; have HW6 := Lib.hid hw; clear hw)
                go_roundw
                case rel =>
                  exact ⟨i + 1, numAt hb q1, pre ++ [J0], rfl, rfl, by go_num, by omega, Lib.hid (fun k e => numAt_lt e), Lib.hid (by rw [List.length_append, hpl.out]; rfl), hst, Lib.hid (abide_below HJ.out H5.out HW6.out), Lib.hid (Nat.le_trans hs5.out HW6.out.size),
                    (HW6.out.cell (p := ⟨b1, 2, none⟩) (Nat.lt_of_lt_of_le hb1 hs5.out)).trans g1, (HW6.out.cell (p := ⟨b3, 0, none⟩) (Nat.lt_of_lt_of_le hb3 hs5.out)).trans g3⟩
                case measure => simp [intOf]; omega
              · have HX := Lib.hid hJx5
                clear hJx5
                gi_wp2
                refine bodyPost_ret (results_none rfl _ _ _) rfl ?_
                exact ⟨⟨_, rfl⟩, .inr ⟨pre ++ [J0], by rw [hst.out]; exact List.prefix_append _ _, HX.out⟩⟩
            · have hdone : Hid (pre.map Fin.val = chainL hb name N) := Lib.hid (by rw [hch.out, show N + 1 - i = (N - i) + 1 by omega, wayL, if_neg hk]; simp)
              by_cases hk0 : k = 0
              · subst hk0
                clear hk
                gi_wp2_with (refine wplIn_skip_call (by rfl) ?_)
                refine bodyPost_ret (results_none rfl _ _ _) rfl ?_
                exact ⟨⟨_, rfl⟩, .inl ⟨pre, hdone.out, hJr.out⟩⟩
              · have hkp : (1 : Int) ≤ (k : Int) := by omega
                have hkg : (N : Int) < (k : Int) := by omega
                clear hk hk0
                gi_wp2_with (refine wplIn_skip_call (by rfl) ?_)
                refine bodyPost_ret (results_none rfl _ _ _) rfl ?_
                exact ⟨⟨_, rfl⟩, .inl ⟨pre, hdone.out, hJr.out⟩⟩
        · have hie : i = N + 1 := by omega
          subst hie
          have hdone : Hid (pre.map Fin.val = chainL hb name N) := Lib.hid (by rw [hch.out, Nat.sub_self]; simp [wayL])
          clear hi1 hil
          gi_wp2
          go_end0
          exact ⟨⟨_, rfl⟩, .inl ⟨pre, hdone.out, hJr.out⟩⟩
end Go.Proofs.YtlifdfkconklfaaDoor
