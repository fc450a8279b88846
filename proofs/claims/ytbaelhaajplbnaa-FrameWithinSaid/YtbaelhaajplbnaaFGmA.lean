/-
  The guest's bytes: the program's iterator over addresses and their faults.
-/
import Derived.Test.YtbaelhaajplbnaaFHoJ
import Derived.Test.YtbaelhaajplbnaaFBldT
import Derived.Stop.RegionWithIn
import Derived.WalkMore
import Derived.Sort.CutIn
namespace Go.Proofs.Ytbaelhaajplbnaa
open Go Go.RowKit Go.Shelf
set_option linter.unusedVariables false
set_option linter.unusedSimpArgs false
attribute [local go_sem] Oper.semAt_some

/-- A byte's fault: 0 none, 1 nothing is there, 2 it may not. -/
def kindL (ps : List PageD) (need : Int) (x : Nat) : Int := if x < 4294967296 then (if protL ps (x / 4096) < 0 then 1 else if (bits BinOp.and .i64 (protL ps (x / 4096)) need != need) = true then 2 else 0) else 1
def faultL (ps : List PageD) (need : Int) (a n : Nat) : Array Value := match (List.range n).find? (fun i => kindL ps need (a + i) != 0) with
  | none => #[.int .i64 0, .int .u64 0]
  | some i => #[.int .i64 (kindL ps need (a + i)), .int .u64 (a + i : Nat)]

theorem abide_belowG {β : Type} {B : Nat} {J : β → World → Prop} (h : AbidesFrom B J) {s : β} {W W' : World} (hs : J s W) (hb : Below W.heap.size W W') : J s W' :=
  h s W W' none hs ⟨hb.os, hb.tape, hb.output, hb.size, fun k hk _ => hb.block k hk⟩ (fun r e => by cases e)
theorem range_snoc (k : Nat) : List.range (k + 1) = List.range k ++ [k] := List.range_succ
theorem range_pre {k n : Nat} (h : k ≤ n) : List.range k <+: List.range n := by
  obtain ⟨m, rfl⟩ : ∃ m, n = k + m := ⟨n - k, by omega⟩
  rw [List.range_add]
  exact List.prefix_append _ _

set_option maxHeartbeats 2000000 in
set_option maxRecDepth 100000 in
theorem span_in (f : Nat) (hf : 1 ≤ f) (l n₀ b1 b2 b3 b4 : Nat) (ps : List PageD) (hr : Rise PageD.num ps) (hlen : ps.length ≤ 1000000) (a n base : Nat) (need : Int) (ha : a < 4294967296) (hn : n ≤ 1000000) (vm vc vp : Value) (J Jx : List (Fin n) → World → Prop)
    (W : World) (hJ : AbidesFrom W.heap.size J) (hJx : AbidesFrom W.heap.size Jx)
    (hY : ∀ pre x W, J pre W → pre.length < n + 1 → YieldAt Fence.wide (f - 1) Try.prog l #[.int .u64 (a + x.val : Nat), .int .i64 (kindL ps need (a + x.val))] W fun e W' =>
      (e = .returned (.bool true) ∧ J (pre ++ [x]) W' ∧ Below n₀ W W') ∨ (e = .returned (.bool false) ∧ Jx (pre ++ [x]) W'))
    (hb1 : b1 < n₀) (hb2 : b2 < n₀) (hb3 : b3 < n₀) (hb4 : b4 < n₀) (hz : n₀ ≤ W.heap.size)
    (hc1 : W.cell? ⟨b1, 0, none⟩ = some (.int .u32 a)) (hc2 : W.cell? ⟨b2, 0, none⟩ = some (.int .i64 n)) (hc3 : W.heap[b3]? = some (.cells (guestV vm vc base vp) 33)) (hc4 : W.cell? ⟨b4, 0, none⟩ = some (.int .i64 need)) (hp : ∀ W', Below n₀ W W' → PagesV W' vp ps) (h0 : J [] W) :
    CallsIn Fence.wide f Try.prog 63 #[.func (.yield l) #[] #[], .pointer (some ⟨b1, 0, none⟩), .pointer (some ⟨b2, 0, none⟩), .pointer (some ⟨b3, 0, none⟩), .pointer (some ⟨b4, 0, none⟩)] W fun e W' => (∃ v, e = .returned v) ∧
      ((∃ ys : List (Fin n), ys.map Fin.val = List.range n ∧ J ys W') ∨ (∃ pre : List (Fin n), pre.map Fin.val <+: List.range n ∧ Jx pre W')) := by
  have HJ := Lib.hid hJ; have HY := Lib.hid hY; have H0 := Lib.hid h0; have HP := Lib.hid hp; have HR := Lib.hid hr; have HC3 := Lib.hid hc3
  have hni : (n : Int) ≤ 1000000 := by omega
  have hai : (a : Int) ≤ 4294967295 := by omega
  have hw1 : Fence.wide.fn 64 := trivial
  have f0 : IntKind.u64.wrap (n : Int) = (n : Int) := IntWalk.u64_in _ (by omega)
  clear hJ hJx hY h0 hn hp hr hc3 ha
  refine callsIn_of_wp Try.func63 rfl trivial ?_ rfl
  simp only [Try.ntmps63, List.size_toArray, List.length_cons, List.length_nil, Nat.reduceAdd, Nat.reduceSub, Array.replicate_succ, Array.replicate_zero, List.push_toArray, List.append_toArray, List.nil_append, List.cons_append]
  gi_wp2
  gi_loopw [6] (fun av wr => ∃ (i : Nat) (pre : List (Fin n)), av = .int .u64 ((a + i : Nat) : Int) ∧ i ≤ n ∧ Hid (pre.map Fin.val = List.range i) ∧ Hid (J pre wr) ∧ Hid (n₀ ≤ wr.heap.size) ∧ Hid (Below n₀ W wr) ∧ wr.cell? ⟨b1, 0, none⟩ = some (.int .u32 a) ∧ wr.cell? ⟨b2, 0, none⟩ = some (.int .i64 n) ∧ wr.cell? ⟨b4, 0, none⟩ = some (.int .i64 need)) (fun x _ => a + n - (intOf x).toNat)
  case atStart => exact ⟨0, [], rfl, Nat.zero_le _, Lib.hid rfl, H0, Lib.hid hz, Lib.hid (Below.refl _ _), hc1, hc2, hc4⟩
  case round =>
    obtain ⟨i, pre, rfl, hil, hpre, hJr, hsr, hBr, e1, e2, e4⟩ := hrel
    obtain ⟨x, hx⟩ : ∃ x : Nat, x = a + i := ⟨_, rfl⟩
    have HX := Lib.hid hx
    obtain ⟨N, hN⟩ : ∃ N : Nat, N = a + n := ⟨_, rfl⟩
    have fN : IntKind.u64.wrap ((a : Int) + (n : Int)) = (N : Int) := by rw [hN]; rw [IntKind.wrap_u64]; omega
    have fN2 : (a : Int) + (n : Int) = (N : Int) := by omega
    rw [← hx]
    have hxi : (x : Int) ≤ 4296000000 := by omega
    by_cases hi : i < n
    · have hlt : (x : Int) < (N : Int) := by omega
      clear hx hN
      by_cases h32 : x < 4294967296
      · have h32i : decide ((x : Int) < 4294967296) = true := decide_eq_true (by omega)
        obtain ⟨q, hq⟩ : ∃ q : Nat, q = x / 4096 := ⟨_, rfl⟩
        have fq : (x : Int) / 4096 = (q : Int) := by omega
        have fq1 : IntKind.u64.wrap (q : Int) = (q : Int) := IntWalk.u64_in _ (by omega)
        have fq2 : IntKind.u32.wrap (q : Int) = (q : Int) := by rw [IntKind.wrap_u32']; omega
        have hk0 : kindL ps need x = if protL ps q < 0 then 1 else if (bits BinOp.and .i64 (protL ps q) need != need) = true then 2 else 0 := by rw [kindL, if_pos h32, hq]
        have HPR : Hid (∀ W', Below n₀ W W' → Calls Try.prog 64 #[.agg (guestV vm vc base vp), .int .u32 (q : Nat)] W' fun e w' => e = .returned (.int .i64 (protL ps q)) ∧ Below W'.heap.size W' w') := Lib.hid (fun W' hW' => prot_any ps HR.out hlen q base vm vc vp W' (HP.out W' hW'))
        have HG : Hid (wr.heap[b3]? = some (.cells (guestV vm vc base vp) 33)) := Lib.hid ((hBr.out.block _ hb3).trans HC3.out)
        have hBr2 : Below n₀ W wr := hBr.out
        have HBr2 := Lib.hid hBr2; clear hBr2
        obtain ⟨P, hP⟩ : ∃ P, P = protL ps q := ⟨_, rfl⟩
        rw [← hP] at hk0 HPR
        clear hP hq h32
        have d0 := cell_at (o := 0) HG.out rfl
        have d1 := cell_at (o := 1) HG.out rfl
        have d2 := cell_at (o := 2) HG.out rfl
        have d3 := cell_at (o := 3) HG.out rfl
        have g0 : (guestV vm vc base vp).size = 4 := rfl
        gi_upto_region 7 with (gi_at_call 64; refine (callsIn_wide.2 (HPR.out _ HBr2.out)).mono ?_; rintro e w6 ⟨rfl, hw6⟩)
        have HW6 := Lib.hid hw6
        have HSZ : Hid (n₀ ≤ w6.heap.size) := Lib.hid (Nat.le_trans hsr.out hw6.size)
        have HBW : Hid (Below n₀ W w6) := Lib.hid (HBr2.out.trans (hw6.mono hsr.out))
        have HE1 : Hid (w6.cell? ⟨b1, 0, none⟩ = some (.int .u32 a)) := Lib.hid ((hw6.cell (p := ⟨b1, 0, none⟩) (Nat.lt_of_lt_of_le hb1 hsr.out)).trans e1)
        have HE2 : Hid (w6.cell? ⟨b2, 0, none⟩ = some (.int .i64 n)) := Lib.hid ((hw6.cell (p := ⟨b2, 0, none⟩) (Nat.lt_of_lt_of_le hb2 hsr.out)).trans e2)
        have HE4 : Hid (w6.cell? ⟨b4, 0, none⟩ = some (.int .i64 need)) := Lib.hid ((hw6.cell (p := ⟨b4, 0, none⟩) (Nat.lt_of_lt_of_le hb4 hsr.out)).trans e4)
        have q4 := HE4.out
        have HJ6 : Hid (J pre w6) := Lib.hid (abide_belowG HJ.out hJr.out hw6)
        clear e1 e2 e4 hw6 d0 d1 d2 d3 hJr hw1
        by_cases hp0 : P < 0
        · have hpd : decide (P < 0) = true := decide_eq_true hp0
          have HK : Hid (kindL ps need x = 1) := Lib.hid (by rw [hk0, if_pos hp0])
          clear hk0 hp0
          obtain ⟨fn, tmps, assign, body, hy, hRR⟩ := HY.out pre ⟨i, hi⟩ w6 HJ6.out (by have h := congrArg List.length hpre.out; rw [List.length_map, List.length_range] at h; omega)
          have hx' : (((a + (⟨i, hi⟩ : Fin n).val : Nat)) : Int) = (x : Int) := by have := HX.out; show ((a + i : Nat) : Int) = _; omega
          rw [hx', show a + (⟨i, hi⟩ : Fin n).val = x from HX.out.symm, HK.out] at hy
          gi_wp2
          refine hRR.mono ?_
          rintro e W5 (⟨rfl, hJ5, hk5⟩ | ⟨rfl, hJx5⟩)
          · have H5 := Lib.hid hJ5
            have g1 : W5.cell? ⟨b1, 0, none⟩ = some (.int .u32 a) := (hk5.cell (p := ⟨b1, 0, none⟩) hb1).trans HE1.out
            have g2 : W5.cell? ⟨b2, 0, none⟩ = some (.int .i64 n) := (hk5.cell (p := ⟨b2, 0, none⟩) hb2).trans HE2.out
            have g4 : W5.cell? ⟨b4, 0, none⟩ = some (.int .i64 need) := (hk5.cell (p := ⟨b4, 0, none⟩) hb4).trans HE4.out
            have HS5 : Hid (n₀ ≤ W5.heap.size) := Lib.hid (Nat.le_trans HSZ.out hk5.size)
            have HB5 : Hid (Below n₀ W W5) := Lib.hid (HBW.out.trans hk5)
            clear hJ5 hk5 hy hRR HE1 HE2 HE4
            gi_wp2
            go_roundw
            case rel => exact ⟨i + 1, pre ++ [⟨i, hi⟩], by rw [show ((a + (i + 1) : Nat) : Int) = (x : Int) + 1 by have := HX.out; omega], by omega, Lib.hid (by rw [List.map_append, hpre.out, range_snoc]; rfl), H5, HS5, HB5, g1, g2, g4⟩
            case measure => have := HX.out; simp [intOf]; omega
          · have HX5 := Lib.hid hJx5
            clear hJx5
            gi_wp2
            refine bodyPost_ret (results_none rfl _ _ _) rfl ?_
            exact ⟨⟨_, rfl⟩, .inr ⟨pre ++ [⟨i, hi⟩], by rw [List.map_append, hpre.out]; show List.range i ++ [i] <+: _; rw [← range_snoc]; exact range_pre (by omega), HX5.out⟩⟩
        · have hpd : decide (P < 0) = false := decide_eq_false hp0
          cases hb : (bits BinOp.and .i64 P need != need)
          · have HK : Hid (kindL ps need x = 0) := Lib.hid (by rw [hk0, if_neg hp0, if_neg (by rw [hb]; simp)])
            clear hk0 hp0
            obtain ⟨fn, tmps, assign, body, hy, hRR⟩ := HY.out pre ⟨i, hi⟩ w6 HJ6.out (by have h := congrArg List.length hpre.out; rw [List.length_map, List.length_range] at h; omega)
            have hx' : (((a + (⟨i, hi⟩ : Fin n).val : Nat)) : Int) = (x : Int) := by have := HX.out; show ((a + i : Nat) : Int) = _; omega
            rw [hx', show a + (⟨i, hi⟩ : Fin n).val = x from HX.out.symm, HK.out] at hy
            gi_wp2
            refine hRR.mono ?_
            rintro e W5 (⟨rfl, hJ5, hk5⟩ | ⟨rfl, hJx5⟩)
            · have H5 := Lib.hid hJ5
              have g1 : W5.cell? ⟨b1, 0, none⟩ = some (.int .u32 a) := (hk5.cell (p := ⟨b1, 0, none⟩) hb1).trans HE1.out
              have g2 : W5.cell? ⟨b2, 0, none⟩ = some (.int .i64 n) := (hk5.cell (p := ⟨b2, 0, none⟩) hb2).trans HE2.out
              have g4 : W5.cell? ⟨b4, 0, none⟩ = some (.int .i64 need) := (hk5.cell (p := ⟨b4, 0, none⟩) hb4).trans HE4.out
              have HS5 : Hid (n₀ ≤ W5.heap.size) := Lib.hid (Nat.le_trans HSZ.out hk5.size)
              have HB5 : Hid (Below n₀ W W5) := Lib.hid (HBW.out.trans hk5)
              clear hJ5 hk5 hy hRR HE1 HE2 HE4
              gi_wp2
              go_roundw
              case rel => exact ⟨i + 1, pre ++ [⟨i, hi⟩], by rw [show ((a + (i + 1) : Nat) : Int) = (x : Int) + 1 by have := HX.out; omega], by omega, Lib.hid (by rw [List.map_append, hpre.out, range_snoc]; rfl), H5, HS5, HB5, g1, g2, g4⟩
              case measure => have := HX.out; simp [intOf]; omega
            · have HX5 := Lib.hid hJx5
              clear hJx5
              gi_wp2
              refine bodyPost_ret (results_none rfl _ _ _) rfl ?_
              exact ⟨⟨_, rfl⟩, .inr ⟨pre ++ [⟨i, hi⟩], by rw [List.map_append, hpre.out]; show List.range i ++ [i] <+: _; rw [← range_snoc]; exact range_pre (by omega), HX5.out⟩⟩
          · have HK : Hid (kindL ps need x = 2) := Lib.hid (by rw [hk0, if_neg hp0, if_pos hb])
            clear hk0 hp0
            obtain ⟨fn, tmps, assign, body, hy, hRR⟩ := HY.out pre ⟨i, hi⟩ w6 HJ6.out (by have h := congrArg List.length hpre.out; rw [List.length_map, List.length_range] at h; omega)
            have hx' : (((a + (⟨i, hi⟩ : Fin n).val : Nat)) : Int) = (x : Int) := by have := HX.out; show ((a + i : Nat) : Int) = _; omega
            rw [hx', show a + (⟨i, hi⟩ : Fin n).val = x from HX.out.symm, HK.out] at hy
            gi_wp2
            refine hRR.mono ?_
            rintro e W5 (⟨rfl, hJ5, hk5⟩ | ⟨rfl, hJx5⟩)
            · have H5 := Lib.hid hJ5
              have g1 : W5.cell? ⟨b1, 0, none⟩ = some (.int .u32 a) := (hk5.cell (p := ⟨b1, 0, none⟩) hb1).trans HE1.out
              have g2 : W5.cell? ⟨b2, 0, none⟩ = some (.int .i64 n) := (hk5.cell (p := ⟨b2, 0, none⟩) hb2).trans HE2.out
              have g4 : W5.cell? ⟨b4, 0, none⟩ = some (.int .i64 need) := (hk5.cell (p := ⟨b4, 0, none⟩) hb4).trans HE4.out
              have HS5 : Hid (n₀ ≤ W5.heap.size) := Lib.hid (Nat.le_trans HSZ.out hk5.size)
              have HB5 : Hid (Below n₀ W W5) := Lib.hid (HBW.out.trans hk5)
              clear hJ5 hk5 hy hRR HE1 HE2 HE4
              gi_wp2
              go_roundw
              case rel => exact ⟨i + 1, pre ++ [⟨i, hi⟩], by rw [show ((a + (i + 1) : Nat) : Int) = (x : Int) + 1 by have := HX.out; omega], by omega, Lib.hid (by rw [List.map_append, hpre.out, range_snoc]; rfl), H5, HS5, HB5, g1, g2, g4⟩
              case measure => have := HX.out; simp [intOf]; omega
            · have HX5 := Lib.hid hJx5
              clear hJx5
              gi_wp2
              refine bodyPost_ret (results_none rfl _ _ _) rfl ?_
              exact ⟨⟨_, rfl⟩, .inr ⟨pre ++ [⟨i, hi⟩], by rw [List.map_append, hpre.out]; show List.range i ++ [i] <+: _; rw [← range_snoc]; exact range_pre (by omega), HX5.out⟩⟩
      · have h32i : decide ((x : Int) < 4294967296) = false := decide_eq_false (by omega)
        have HK : Hid (kindL ps need x = 1) := Lib.hid (by rw [kindL, if_neg h32])
        have HSZ := hsr
        have HBW := hBr
        have HE1 := Lib.hid e1; have HE2 := Lib.hid e2; have HE4 := Lib.hid e4
        clear h32
        obtain ⟨fn, tmps, assign, body, hy, hRR⟩ := HY.out pre ⟨i, hi⟩ wr hJr.out (by have h := congrArg List.length hpre.out; rw [List.length_map, List.length_range] at h; omega)
        have hx' : (((a + (⟨i, hi⟩ : Fin n).val : Nat)) : Int) = (x : Int) := by have := HX.out; show ((a + i : Nat) : Int) = _; omega
        rw [hx', show a + (⟨i, hi⟩ : Fin n).val = x from HX.out.symm, HK.out] at hy
        gi_wp2
        refine hRR.mono ?_
        rintro e W5 (⟨rfl, hJ5, hk5⟩ | ⟨rfl, hJx5⟩)
        · have H5 := Lib.hid hJ5
          have g1 : W5.cell? ⟨b1, 0, none⟩ = some (.int .u32 a) := (hk5.cell (p := ⟨b1, 0, none⟩) hb1).trans HE1.out
          have g2 : W5.cell? ⟨b2, 0, none⟩ = some (.int .i64 n) := (hk5.cell (p := ⟨b2, 0, none⟩) hb2).trans HE2.out
          have g4 : W5.cell? ⟨b4, 0, none⟩ = some (.int .i64 need) := (hk5.cell (p := ⟨b4, 0, none⟩) hb4).trans HE4.out
          have HS5 : Hid (n₀ ≤ W5.heap.size) := Lib.hid (Nat.le_trans HSZ.out hk5.size)
          have HB5 : Hid (Below n₀ W W5) := Lib.hid (HBW.out.trans hk5)
          clear hJ5 hk5 hy hRR HE1 HE2 HE4
          gi_wp2
          go_roundw
          case rel => exact ⟨i + 1, pre ++ [⟨i, hi⟩], by rw [show ((a + (i + 1) : Nat) : Int) = (x : Int) + 1 by have := HX.out; omega], by omega, Lib.hid (by rw [List.map_append, hpre.out, range_snoc]; rfl), H5, HS5, HB5, g1, g2, g4⟩
          case measure => have := HX.out; simp [intOf]; omega
        · have HX5 := Lib.hid hJx5
          clear hJx5
          gi_wp2
          refine bodyPost_ret (results_none rfl _ _ _) rfl ?_
          exact ⟨⟨_, rfl⟩, .inr ⟨pre ++ [⟨i, hi⟩], by rw [List.map_append, hpre.out]; show List.range i ++ [i] <+: _; rw [← range_snoc]; exact range_pre (by omega), HX5.out⟩⟩
    · have hin : i = n := by omega
      have hxN : x = N := by omega
      subst hin
      subst hxN
      have HJ2 := hJr
      clear hx hN hi hil fN2 HX
      gi_wp2
      go_end0
      exact ⟨⟨_, rfl⟩, .inl ⟨pre, hpre.out, HJ2.out⟩⟩
end Go.Proofs.Ytbaelhaajplbnaa
