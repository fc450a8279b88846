/-
  ferrylaw25.StructsTells: the walk.
-/
import Derived.Test.YtofeamajoahjmaaFRef25d
import Derived.Test.YtofeamajoahjmaaFRef25v
import Derived.Test.YtofeamajoahjmaaFAwake25
namespace Go.Proofs.Ytofeamajoahjmaa
open Go Go.RowKit
set_option linter.unusedVariables false
set_option linter.unusedSimpArgs false

theorem vecV_get : ∀ (ps : List (Nat × Nat)) (k : Nat) (h : k < ps.length), (vecV ps)[k * 2]? = some (.int .u32 (ps[k].1 : Nat)) ∧ (vecV ps)[k * 2 + 1]? = some (.int .u32 (ps[k].2 : Nat))
  | p :: ps, 0, _ => ⟨rfl, rfl⟩
  | p :: ps, k + 1, h => by
    have ih := vecV_get ps k (by simpa using h)
    have e : vecV (p :: ps) = [.int .u32 (p.1 : Nat), .int .u32 (p.2 : Nat)] ++ vecV ps := by simp [vecV]
    have e1 : (k + 1) * 2 = k * 2 + 2 := by omega
    have e2 : (k + 1) * 2 + 1 = k * 2 + 1 + 2 := by omega
    rw [e, e2, e1]
    exact ih
theorem meas_next {n k : Nat} {z : Int} (e : z = (k : Int) + 1) (h : k < n) : n - (intOf (.int .i64 z)).toNat < n - (intOf (.int .i64 (k : Int))).toNat := by
  subst e
  simp [intOf]; omega
/-- What Vecs gives: a row, or nothing. -/
def VecsV (l : List UInt8) (B : Nat) (v : Value) (w : World) : Prop :=
  (∃ ps, vecsF l = some ps ∧ w.ownsRow B 47 2 v ps.length (vecV ps)) ∨ (vecsF l = none ∧ v = .slice none 0 0)

set_option maxHeartbeats 4000000 in
set_option maxRecDepth 100000 in
theorem tells_walk (a b c d : List UInt8) (ha : a.length ≤ 140737488351232) (hb : b.length ≤ 140737488351232) (hc : c.length ≤ 140737488351232) (hd : d.length ≤ 140737488351232) (w : World) (hsh : Sh w) :
    Calls Try.prog 6 #[.string (mkB a), .string (mkB b), .string (mkB c), .string (mkB d)] w fun e w' => e = .returned (.bool true) ∧ Below w.heap.size w w' := by
  have za := mkB_size a
  have zb := mkB_size b
  have zc := mkB_size c
  have zd := mkB_size d
  have HSH := Lib.hid hsh
  clear hsh
  by_cases hok : a.length ≤ 1000 ∧ b.length ≤ 1000 ∧ c.length ≤ 5000 ∧ d.length ≤ 1000
  · obtain ⟨h1, h2, h3, h4⟩ := hok
    have c1 : ¬ (1000 : Int) < (a.length : Int) := by omega
    have c2 : ¬ (1000 : Int) < (b.length : Int) := by omega
    have c3 : ¬ (5000 : Int) < (c.length : Int) := by omega
    have c4 : ¬ (1000 : Int) < (d.length : Int) := by omega
    have HA := Lib.hid ha; have HB := Lib.hid hb; have HC := Lib.hid h3; have HD := Lib.hid hd
    clear ha hb hc hd h1 h2 h3 h4
    have H0 : Hid (Below w.heap.size w w) := Lib.hid (Below.refl _ _)
    go_enter Try.func6, Try.ntmps6
    go_upto_region 11 with (first
      | (go_at_call 16; refine (stat_any a HA.out _).mono ?_; rintro e w1 ⟨rfl, hb1⟩; replace H0 := Lib.hid (below_then H0.out hb1); clear hb1)
      | (go_at_call 18; refine (rstat_any a HA.out _).mono ?_; rintro e w1 ⟨rfl, hb1⟩; replace H0 := Lib.hid (below_then H0.out hb1); clear hb1)
      | (go_at_call 11; refine (time_any b HB.out _).mono ?_; rintro e w1 ⟨rfl, hb1⟩; replace H0 := Lib.hid (below_then H0.out hb1); clear hb1)
      | (go_at_call 19; refine (rtime_any b HB.out _).mono ?_; rintro e w1 ⟨rfl, hb1⟩; replace H0 := Lib.hid (below_then H0.out hb1); clear hb1)
      | (go_at_call 17; refine (dents_any c HC.out _ (HSH.out.below H0.out)).mono ?_; rintro e w1 ⟨rfl, hb1⟩; replace H0 := Lib.hid (below_then H0.out hb1); clear hb1)
      | (go_at_call 20; refine (rdents_any c HC.out _).mono ?_; rintro e w1 ⟨rfl, hb1⟩; replace H0 := Lib.hid (below_then H0.out hb1); clear hb1)
      | (go_at_call 14; refine (vecs_any d HD.out _).mono ?_; rintro e wA ⟨⟨vA, rfl, hv⟩, hb1⟩; have HA2 := Lib.hid hv; replace H0 := Lib.hid (below_then H0.out hb1); clear hb1 hv)
      | (go_at_call 21; refine (rvecs_any d HD.out _).mono ?_; rintro e wB ⟨⟨vB, rfl, hv⟩, hb2⟩; have HB2 := Lib.hid hv; replace H0 := Lib.hid (below_then H0.out hb2); clear hv))
    have HBA : Hid (∃ ps, wB.ownsRow w1.heap.size 47 2 vA ps.length (vecV ps) ∧ wB.ownsRow wA.heap.size 47 2 vB ps.length (vecV ps)) := Lib.hid (by
      rcases HA2.out with ⟨ps, e1, o1⟩ | ⟨e1, rfl⟩
      · rcases HB2.out with ⟨ps2, e2, o2⟩ | ⟨e2, _⟩
        · rw [e1] at e2
          obtain rfl := Option.some.inj e2
          exact ⟨ps, own_below o1 hb2, o2⟩
        · rw [e1] at e2; cases e2
      · rcases HB2.out with ⟨ps2, e2, o2⟩ | ⟨_, rfl⟩
        · rw [e1] at e2; cases e2
        · exact ⟨[], World.ownsRow_nil _ _ _ _, World.ownsRow_nil _ _ _ _⟩)
    clear HA2 HB2 hb2
    obtain ⟨ps, oA, oB⟩ := HBA.out
    clear HBA
    obtain ⟨sA, eA⟩ : ∃ x, x = mkB (statF a) := ⟨_, rfl⟩
    obtain ⟨sB, eB⟩ : ∃ x, x = mkB (timeF b) := ⟨_, rfl⟩
    obtain ⟨sC, eC⟩ : ∃ x, x = mkB ((dentsF c).getD []) := ⟨_, rfl⟩
    rw [← eA, ← eB, ← eC]
    clear eA eB eC
    by_cases hn : ps.length = 0
    · rw [hn] at oA oB
      have z : ∀ {B : Nat} {v : Value} {xs : List Value}, wB.ownsRow B 47 2 v 0 xs → v = .slice none 0 0 ∨ ∃ g cap, v = .slice (some ⟨g, 0, none⟩) 0 cap := fun h => by
        rcases h.2 with ⟨h, _⟩ | ⟨g, cap, _, h, _⟩
        · exact .inl h
        · exact .inr ⟨g, cap, h⟩
      have ZA := z oA
      have ZB := z oB
      clear z oA oB hn
      rcases ZA with rfl | ⟨gA, capA, rfl⟩ <;> rcases ZB with rfl | ⟨gB, capB, rfl⟩
      all_goals (
        go_upto_region 14 with fail
        go_loopw [127] (fun i wr => i = .int .i64 0 ∧ wr = wB) (fun _ _ => 0)
        case atStart => exact ⟨rfl, rfl⟩
        case round =>
          obtain ⟨rfl, rfl⟩ := hrel
          go_wp2_with (go_at_call 15; refine (awake25_any _).mono ?_; rintro e w9 ⟨rfl, hb9⟩)
          go_ret
          exact ⟨rfl, below_then H0.out hb9⟩)
    · obtain ⟨gA, capA, rfl⟩ := own_some oA hn
      obtain ⟨gB, capB, rfl⟩ := own_some oB hn
      have OA := Lib.hid oA; have OB := Lib.hid oB
      have lA : Hid (gA < wB.heap.size) := Lib.hid (oA.lt gA rfl).2
      have lB : Hid (gB < wB.heap.size) := Lib.hid (oB.lt gB rfl).2
      obtain ⟨n, en⟩ : ∃ n, n = ps.length := ⟨_, rfl⟩
      have hnm : n ≤ maxLen := by
        rcases oA.2 with ⟨h, _⟩ | ⟨g', cap', cur, h, _, _, h3, h4, _⟩
        · cases h
        · rw [en]; exact Nat.le_trans h3 h4
      have HNM : Hid (n ≤ maxLen) := Lib.hid hnm
      rw [← en] at OA OB ⊢
      clear oA oB hn hnm
      go_upto_region 14 with fail
      go_loopw [25, 127] (fun _ i wr => ∃ k : Nat, k ≤ n ∧ i = .int .i64 k ∧ Hid (Below w.heap.size w wr) ∧ Hid (Below wB.heap.size wB wr)) (fun _ i _ => n - (intOf i).toNat)
      case atStart => exact ⟨0, by omega, rfl, H0, Lib.hid (Below.refl _ _)⟩
      case round =>
        obtain ⟨k, hk, rfl, H1, H2⟩ := hrel
        by_cases hlt : k < n
        · have hlti : (k : Int) < (n : Int) := by omega
          have hkl : k < ps.length := by omega
          have WK : Hid (wrap64 ((k : Int) + 1) = (k : Int) + 1) := Lib.hid (by have := HNM.out; unfold maxLen at this; unfold wrap64; omega)
          have oA := own_below OA.out H2.out
          have oB := own_below OB.out H2.out
          have a0 : wr.cell? ⟨gA, k * 2, none⟩ = some (.int .u32 (ps[k].1 : Nat)) := (oA.cellAt (k * 2) (by omega)).trans (vecV_get ps k hkl).1
          have a1 : wr.cell? ⟨gA, k * 2 + 1, none⟩ = some (.int .u32 (ps[k].2 : Nat)) := (oA.cellAt (k * 2 + 1) (by omega)).trans (vecV_get ps k hkl).2
          have b0 : wr.cell? ⟨gB, k * 2, none⟩ = some (.int .u32 (ps[k].1 : Nat)) := (oB.cellAt (k * 2) (by omega)).trans (vecV_get ps k hkl).1
          have b1 : wr.cell? ⟨gB, k * 2 + 1, none⟩ = some (.int .u32 (ps[k].2 : Nat)) := (oB.cellAt (k * 2 + 1) (by omega)).trans (vecV_get ps k hkl).2
          obtain ⟨x, hx⟩ : ∃ x, x = ps[k].1 := ⟨_, rfl⟩
          obtain ⟨y, hy⟩ : ∃ y, y = ps[k].2 := ⟨_, rfl⟩
          rw [← hx] at a0 b0
          rw [← hy] at a1 b1
          clear hx hy oA oB
          go_upto_region 16 with fail
          go_region
          go_wp2
          go_roundw
          case rel => exact ⟨k + 1, by omega, congrArg (Value.int .i64) (WK.out.trans (by omega)), Lib.hid H1.out.drew, Lib.hid H2.out.drew⟩
          case measure => exact meas_next WK.out hlt
        · obtain rfl : k = n := by omega
          go_wp2_with (go_at_call 15; refine (awake25_any _).mono ?_; rintro e w9 ⟨rfl, hb9⟩)
          go_ret
          exact ⟨rfl, below_then H1.out hb9⟩
  · clear ha hb hc hd
    have hor : (1000 : Int) < (a.length : Int) ∨ ¬ (1000 : Int) < (a.length : Int) ∧ ((1000 : Int) < (b.length : Int) ∨ ¬ (1000 : Int) < (b.length : Int) ∧ ((5000 : Int) < (c.length : Int) ∨ ¬ (5000 : Int) < (c.length : Int) ∧ (1000 : Int) < (d.length : Int))) := by omega
    clear hok
    go_enter Try.func6, Try.ntmps6
    rcases hor with c1 | ⟨c1, c2 | ⟨c2, c3 | ⟨c3, c4⟩⟩⟩
    · go_wp2_with (go_at_call 15; refine (awake25_any _).mono ?_; rintro e w1 ⟨rfl, hb1⟩)
      go_ret
      exact ⟨rfl, hb1⟩
    · go_wp2_with (go_at_call 15; refine (awake25_any _).mono ?_; rintro e w1 ⟨rfl, hb1⟩)
      go_ret
      exact ⟨rfl, hb1⟩
    · go_wp2_with (go_at_call 15; refine (awake25_any _).mono ?_; rintro e w1 ⟨rfl, hb1⟩)
      go_ret
      exact ⟨rfl, hb1⟩
    · go_wp2_with (go_at_call 15; refine (awake25_any _).mono ?_; rintro e w1 ⟨rfl, hb1⟩)
      go_ret
      exact ⟨rfl, hb1⟩
end Go.Proofs.Ytofeamajoahjmaa
