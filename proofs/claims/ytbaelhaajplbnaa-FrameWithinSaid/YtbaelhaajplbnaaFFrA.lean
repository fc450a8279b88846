/-
  The frame's writer: words, doubles, noughts.
-/
import Derived.Test.YtbaelhaajplbnaaFPlace
import Derived.Test.YtbaelhaajplbnaaFPMask
import Derived.Test.YtbaelhaajplbnaaFRowN
import Derived.Test.YtbaelhaajplbnaaFShelfR
namespace Go.Proofs.Ytbaelhaajplbnaa
open Go Go.RowKit
set_option linter.unusedVariables false
set_option linter.unusedSimpArgs false

theorem bldT_fwriter : BldT 60 := ⟨by decide, by kernel_rfl⟩
def All32 (vs : List Nat) : Prop := ∀ v ∈ vs, v < 4294967296
/-- A row of u32 in a block, from a place on. -/
def Row32 (w : World) (g off : Nat) (vs : List Nat) : Prop := ∃ c t fr, t ≠ 5 ∧ w.heap[g]? = some (.cells c t fr) ∧ ∀ i (h : i < vs.length), c[off + i]? = some (.int .u32 (vs[i] : Nat))
theorem Row32.cell {w : World} {g off : Nat} {vs : List Nat} (h : Row32 w g off vs) (i : Nat) (hi : i < vs.length) : w.cell? ⟨g, off + i, none⟩ = some (.int .u32 (vs[i] : Nat)) := by
  obtain ⟨c, t, fr, h0, h1, h2⟩ := h
  rw [cell_of_row w g (off + i) c _ fr h1, h2 i hi]
theorem Row32.kept {w w' : World} {g off b : Nat} {vs : List Nat} (h : Row32 w g off vs) (hk : Lib.OthersKept 5 (some b) w w') (hne : g ≠ b) : Row32 w' g off vs := by
  obtain ⟨c, t, fr, h0, h1, h2⟩ := h
  exact ⟨c, t, fr, h0, hk g _ h1 (fun e => hne (Option.some.inj e)) (fun c fz e => by cases e; exact h0 rfl), h2⟩
theorem Row32.below {w w' : World} {g off : Nat} {vs : List Nat} (h : Row32 w g off vs) (hk : Below w.heap.size w w') : Row32 w' g off vs := by
  obtain ⟨c, t, fr, h0, h1, h2⟩ := h
  exact ⟨c, t, fr, h0, (hk.block g (heap_lt h1)).trans h1, h2⟩
theorem row32_of {w : World} {g : Nat} {vs : List Nat} {c : Array Value} {t : TypeId} {fr : Nat × Nat} (h : w.heap[g]? = some (.cells c t fr)) (ht : t ≠ 5) (hc : c = (vs.map fun n => Value.int .u32 (n : Nat)).toArray) : Row32 w g 0 vs :=
  ⟨c, t, fr, ht, h, fun i hi => by subst hc; simp [hi]⟩
theorem beB4_length (v : Nat) : (beB v 4).length = 4 := by simp [beB, putBeF, leL_length]
theorem wordsB4_length : ∀ vs : List Nat, (wordsB 4 vs).length = 4 * vs.length
  | [] => rfl
  | v :: vs => by
    have := wordsB4_length vs
    simp only [wordsB, List.flatMap_cons, List.length_append, List.length_cons, beB4_length] at this ⊢
    omega
theorem mono_others {e : TypeId} {b : Option Nat} {u v w : World} (h : Lib.OthersKept e b u v) (k : Below v.heap.size v w) : Lib.OthersKept e b u w := h.trans (others_below k)

set_option maxHeartbeats 2000000 in
set_option maxRecDepth 100000 in
theorem words_any (B b g off : Nat) (vs : List Nat) (hvs : All32 vs) (l : List UInt8) (hl : l.length + 8 * vs.length ≤ 140737488355328) (w : World) (cap : Nat) (hg : Row32 w g off vs) (hgb : g ≠ b)
    (h : IsBld 60 B b l w) (hBw : B ≤ w.heap.size) :
    Calls Try.prog 32 #[.pointer (some ⟨b, 0, none⟩), .slice (some ⟨g, off, none⟩) vs.length cap] w fun e w' => e = .returned (.tuple #[]) ∧
      (IsBld 60 B b (l ++ wordsB 4 vs) w' ∧ Below B w w' ∧ Lib.OthersKept 5 (some b) w w') := by
  have HVS := Lib.hid hvs; have HL := Lib.hid hl; have HG := Lib.hid hg; have HGB := Lib.hid hgb; have HB := Lib.hid h; have HBW := Lib.hid hBw
  have hlen : vs.length ≤ 140737488355328 := by omega
  clear hvs hl hg hgb h hBw
  go_enter Try.func32, Try.ntmps32
  go_wp2
  go_loopw [8] (fun i wr => ∃ k : Nat, k ≤ vs.length ∧ i = .int .i64 k ∧ Hid (IsBld 60 B b (l ++ wordsB 4 (vs.take k)) wr) ∧ Hid (Below B w wr) ∧ Hid (Lib.OthersKept 5 (some b) w wr)) (fun i _ => vs.length - (intOf i).toNat)
  case atStart => exact ⟨0, by omega, rfl, Lib.hid (by simpa [wordsB] using HB.out), Lib.hid (Below.refl _ _), Lib.hid (Lib.OthersKept.refl _ _ _)⟩
  case round =>
    obtain ⟨k, hk, rfl, H1, H2, H3⟩ := hrel
    by_cases hlt : k < vs.length
    · have hc := (HG.out.kept H3.out HGB.out).cell k hlt
      obtain ⟨v, hv⟩ : ∃ v, v = vs[k] := ⟨_, rfl⟩
      rw [← hv] at hc
      have hv32 : v < 4294967296 := by rw [hv]; exact HVS.out _ (List.getElem_mem ..)
      have HV : Hid (v < 18446744073709551616) := Lib.hid (by omega)
      have fv : IntKind.u64.wrap (v : Int) = (v : Int) := IntWalk.u64_in _ (by omega)
      have HS : Hid (wordsB 4 (vs.take (k + 1)) = wordsB 4 (vs.take k) ++ beB v 4) := Lib.hid (by rw [hv]; exact wordsB_take 4 vs k hlt)
      have HLEN : Hid ((l ++ wordsB 4 (vs.take k)).length + (putBeF v 4).size ≤ 140737488355328) := Lib.hid (by
        have h1 := wordsB_length 4 (vs.take k)
        have h2 := beB_length v 4
        have h3 := HL.out
        rw [List.length_append, putBe_size]
        rw [List.length_take] at h1
        omega)
      clear hv hv32
      go_upto_region 3 with fail
      go_region_with (first
        | (go_at_call 42; refine (putBe_any v HV.out 4 _).mono ?_; rintro e w1 ⟨rfl, hb1⟩)
        | (go_at_call 18; refine (wstr_any bldT_fwriter B b _ (putBeF v 4) _ (bld_below H1.out (below_of_drew hb1)) HLEN.out (Nat.le_trans (Nat.le_trans HBW.out H2.out.size) hb1.size)).mono ?_; rintro e w2 ⟨rfl, k1, k2, k3⟩))
      have hB1 := (below_of_drew hb1).mono (Nat.le_trans HBW.out H2.out.size)
      have K1 := Lib.hid k1
      have K2 := Lib.hid (H2.out.trans (hB1.trans k2))
      have K3 := Lib.hid (H3.out.trans ((others_below (below_of_drew hb1)).trans k3))
      clear k1 k2 k3 hb1 hB1 hc
      go_wp2
      go_roundw
      case rel => exact ⟨k + 1, by omega, by go_num, Lib.hid (by rw [HS.out, ← List.append_assoc]; exact K1.out), K2, K3⟩
      case measure => simp [intOf]; omega
    · obtain rfl : k = vs.length := by omega
      rw [List.take_length] at H1
      go_wp2
      go_end0
      exact ⟨rfl, H1.out, H2.out, H3.out⟩

/-- Each word behind a nought. -/
def dblL (vs : List Nat) : List Nat := vs.flatMap fun v => [0, v]
theorem dblL_length (vs : List Nat) : (dblL vs).length = 2 * vs.length := by
  induction vs with
  | nil => rfl
  | cons v vs ih => simp only [dblL, List.flatMap_cons, List.length_append, List.length_cons, List.length_nil] at ih ⊢; omega
theorem dblL_take (vs : List Nat) (k : Nat) (h : k < vs.length) : dblL (vs.take (k + 1)) = dblL (vs.take k) ++ [0, vs[k]] := by
  rw [List.take_succ_eq_append_getElem h, dblL, List.flatMap_append]
  rfl
theorem wordsB_app (n : Int) (a b : List Nat) : wordsB n (a ++ b) = wordsB n a ++ wordsB n b := by simp [wordsB]

set_option maxHeartbeats 2000000 in
set_option maxRecDepth 100000 in
theorem doubles_any (B b g off : Nat) (vs : List Nat) (hvs : All32 vs) (l : List UInt8) (hl : l.length + 16 * vs.length + 16 ≤ 140737488355328) (w : World) (cap : Nat) (hg : Row32 w g off vs) (hgb : g ≠ b)
    (h : IsBld 60 B b l w) (hBw : B ≤ w.heap.size) :
    Calls Try.prog 33 #[.pointer (some ⟨b, 0, none⟩), .slice (some ⟨g, off, none⟩) vs.length cap] w fun e w' => e = .returned (.tuple #[]) ∧
      (IsBld 60 B b (l ++ wordsB 4 (dblL vs)) w' ∧ Below B w w' ∧ Lib.OthersKept 5 (some b) w w') := by
  have HVS := Lib.hid hvs; have HL := Lib.hid hl; have HG := Lib.hid hg; have HGB := Lib.hid hgb; have HB := Lib.hid h; have HBW := Lib.hid hBw
  have hlen : vs.length ≤ 140737488355328 := by omega
  clear hvs hl hg hgb h hBw
  go_enter Try.func33, Try.ntmps33
  go_wp2
  go_loopw [8] (fun i wr => ∃ k : Nat, k ≤ vs.length ∧ i = .int .i64 k ∧ Hid (IsBld 60 B b (l ++ wordsB 4 (dblL (vs.take k))) wr) ∧ Hid (Below B w wr) ∧ Hid (Lib.OthersKept 5 (some b) w wr)) (fun i _ => vs.length - (intOf i).toNat)
  case atStart => exact ⟨0, by omega, rfl, Lib.hid (by simpa [wordsB, dblL] using HB.out), Lib.hid (Below.refl _ _), Lib.hid (Lib.OthersKept.refl _ _ _)⟩
  case round =>
    obtain ⟨k, hk, rfl, H1, H2, H3⟩ := hrel
    by_cases hlt : k < vs.length
    · have hc := (HG.out.kept H3.out HGB.out).cell k hlt
      obtain ⟨v, hv⟩ : ∃ v, v = vs[k] := ⟨_, rfl⟩
      rw [← hv] at hc
      have hv32 : v < 4294967296 := by rw [hv]; exact HVS.out _ (List.getElem_mem ..)
      have HS : Hid (wordsB 4 (dblL (vs.take (k + 1))) = wordsB 4 (dblL (vs.take k)) ++ wordsB 4 [0, v]) := Lib.hid (by rw [hv, dblL_take vs k hlt, wordsB_app])
      have HLEN : Hid ((l ++ wordsB 4 (dblL (vs.take k))).length + 8 * 2 ≤ 140737488355328) := Lib.hid (by
        have h3 := HL.out
        rw [List.length_append, wordsB4_length, dblL_length, List.length_take]
        omega)
      have HB32 : Hid (b < wr.heap.size) := Lib.hid (by obtain ⟨c, hc⟩ := bld_heap H1.out; exact heap_lt hc)
      have HW : Hid (Calls Try.prog 32 #[.pointer (some ⟨b, 0, none⟩), .slice (some ⟨wr.heap.size, 0, none⟩) 2 2] (wr.alloc (.cells #[.int .u32 0, .int .u32 v] 22)) fun e w' => e = .returned (.tuple #[]) ∧
          (IsBld 60 B b (l ++ wordsB 4 (dblL (vs.take k)) ++ wordsB 4 [0, v]) w' ∧ Below B (wr.alloc (.cells #[.int .u32 0, .int .u32 v] 22)) w' ∧ Lib.OthersKept 5 (some b) (wr.alloc (.cells #[.int .u32 0, .int .u32 v] 22)) w')) := Lib.hid
        (words_any B b wr.heap.size 0 [0, v] (fun x hx => by simp at hx; rcases hx with rfl | rfl <;> omega) _ (by simpa using HLEN.out) _ 2 (row32_of (heap_new _ _ _ rfl) (by decide) (by simp)) (by have := HB32.out; omega) (bld_alloc H1.out _) (by rw [heap_len]; have := HBW.out; have := H2.out.size; omega))
      clear hv hv32
      go_upto_region 3 with fail
      go_wp2_with (go_at_call 32; (with_reducible refine HW.out.mono ?_); rintro e w2 ⟨rfl, k1, k2, k3⟩)
      have K1 : Hid (IsBld 60 B b (l ++ wordsB 4 (dblL (vs.take (k + 1)))) w2) := Lib.hid (by rw [HS.out, ← List.append_assoc]; exact k1)
      have K2 : Hid (Below B w w2) := Lib.hid ((H2.out.alloc (Nat.le_trans HBW.out H2.out.size) _).trans k2)
      have K3 : Hid (Lib.OthersKept 5 (some b) w w2) := Lib.hid ((H3.out.alloc _).trans k3)
      clear k1 k2 k3 hc HW
      go_roundw
      case rel => exact ⟨k + 1, by omega, by go_num, K1, K2, K3⟩
      case measure => simp [intOf]; omega
    · obtain rfl : k = vs.length := by omega
      rw [List.take_length] at H1
      go_wp2
      go_end0
      exact ⟨rfl, H1.out, H2.out, H3.out⟩

theorem repeat_zero (n : Nat) : Lib.repeatL [0] n = List.replicate n (0 : UInt8) := by
  induction n with
  | zero => rfl
  | succ n ih => rw [Lib.repeatL, ih]; rfl
set_option maxHeartbeats 2000000 in
set_option maxRecDepth 100000 in
theorem zeros_any (B b n : Nat) (hn : n ≤ 1000000) (l : List UInt8) (hl : l.length ≤ 1000000000) (w : World) (h : IsBld 60 B b l w) (hBw : B ≤ w.heap.size) :
    Calls Try.prog 15 #[.pointer (some ⟨b, 0, none⟩), .int .i64 (n : Nat)] w fun e w' => e = .returned (.tuple #[]) ∧
      (IsBld 60 B b (l ++ List.replicate n 0) w' ∧ Below B w w' ∧ Lib.OthersKept 5 (some b) w w') := by
  have HB := Lib.hid h; have HBW := Lib.hid hBw
  obtain ⟨z, hz⟩ : ∃ z : ByteArray, z = ⟨(Lib.repeatL [0] n).toArray⟩ := ⟨_, rfl⟩
  have HREP : Hid (∀ w, Calls Try.prog 31 #[.string ⟨#[0]⟩, .int .i64 n] w fun e w' => e = .returned (.string z) ∧ Below w.heap.size w w') := Lib.hid (fun w => by rw [hz]; exact Try.strings_Repeat ⟨#[0]⟩ n w (by omega) (by show 1 * n ≤ _; omega))
  have hzl : z.data.toList = List.replicate n 0 := by rw [hz, ← repeat_zero]
  have hzs : z.size = n := by
    have : z.data.toList.length = n := by rw [hzl, List.length_replicate]
    rwa [Array.length_toList] at this
  have HLEN : Hid (l.length + z.size ≤ 140737488355328) := Lib.hid (by rw [hzs]; omega)
  have HZL := Lib.hid hzl
  clear h hBw hz hzl hzs hl hn
  go_enter Try.func15, Try.ntmps15
  go_region_with (first
    | (go_at_call 31; (with_reducible refine (HREP.out _).mono ?_); rintro e w1 ⟨rfl, hb1⟩)
    | (go_at_call 18; refine (wstr_any bldT_fwriter B b _ z _ (bld_below HB.out (below_of_drew hb1)) HLEN.out (Nat.le_trans HBW.out hb1.size)).mono ?_; rintro e w2 ⟨rfl, k1, k2, k3⟩))
  go_wp2
  go_end0
  exact ⟨rfl, by rw [← HZL.out]; exact k1, ((below_of_drew hb1).mono HBW.out).trans k2, (others_below (below_of_drew hb1)).trans k3⟩
end Go.Proofs.Ytbaelhaajplbnaa
