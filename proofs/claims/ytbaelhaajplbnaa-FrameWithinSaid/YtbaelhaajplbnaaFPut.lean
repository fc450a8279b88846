/-
  The package swap: a number's bytes.
-/
import Derived.Test.YtbaelhaajplbnaaFSwap
import Derived.Test.YtbaelhaajplbnaaFBld
namespace Go.Proofs.Ytbaelhaajplbnaa
open Go Go.RowKit Go.Shelf
attribute [local go_sem] Oper.semAt_some
set_option linter.unusedVariables false
set_option linter.unusedSimpArgs false

/-- A number's lowest n bytes, the lowest first. -/
def leL : Nat → Nat → List UInt8
  | 0, _ => []
  | n + 1, v => UInt8.ofNat (v % 256) :: leL n (v / 256)
theorem leL_length : ∀ (n v : Nat), (leL n v).length = n
  | 0, _ => rfl
  | n + 1, v => by simp [leL, leL_length n]
theorem leL_snoc : ∀ (k v : Nat), leL (k + 1) v = leL k v ++ [UInt8.ofNat (v / 256 ^ k % 256)]
  | 0, v => by simp [leL]
  | k + 1, v => by
    rw [leL, leL_snoc k (v / 256), leL, List.cons_append, Nat.div_div_eq_div_mul, Nat.pow_succ, Nat.mul_comm]
theorem toNat_ofNat8 (v : Nat) (h : v < 256) : (UInt8.ofNat v).toNat = v := by simp; omega

def putLeF (v : Nat) (n : Int) : ByteArray := if 0 ≤ n ∧ n ≤ 8 then ⟨(leL n.toNat v).toArray⟩ else ⟨#[]⟩
def putBeF (v : Nat) (n : Int) : ByteArray := if 0 ≤ n ∧ n ≤ 8 then ⟨(leL n.toNat v).reverse.toArray⟩ else ⟨#[]⟩

set_option maxHeartbeats 2000000 in
theorem putLe_any (v : Nat) (hv : v < 18446744073709551616) (n : Int) (w : World) :
    Calls Try.prog 53 #[.int .u64 v, .int .i64 n] w fun e w' => e = .returned (.string (putLeF v n)) ∧ Below w.heap.size w w' := by
  by_cases hn : 0 ≤ n ∧ n ≤ 8
  · rw [putLeF, if_pos hn]
    obtain ⟨n1, n2⟩ := hn
    obtain ⟨m, rfl⟩ : ∃ m : Nat, n = m := ⟨n.toNat, by omega⟩
    rw [Int.toNat_natCast]
    go_enter Try.func53, Try.ntmps53
    go_wp2
    have hb0 : IsBld 58 w.heap.size w.heap.size [] (w.alloc (.cells #[.pointer none, .slice none 0 0] 58)) := bld_new w
    have HB0 := Lib.hid hb0; clear hb0
    have HV := Lib.hid hv; clear hv
    go_loopw [0, 13] (fun x i wr => ∃ k : Nat, k ≤ m ∧ i = .int .i64 k ∧ x = .int .u64 (v / 256 ^ k : Nat) ∧ Hid (IsBld 58 w.heap.size w.heap.size (leL k v) wr) ∧ Hid (Below w.heap.size w wr)) (fun _ i _ => m - (intOf i).toNat)
    case atStart => exact ⟨0, by omega, rfl, by simp, HB0, Lib.hid ((Below.refl _ _).alloc (Nat.le_refl _) _)⟩
    case round =>
      obtain ⟨k, hk, rfl, rfl, HB, HW⟩ := hrel
      by_cases hlt : k < m
      · obtain ⟨q, hq⟩ : ∃ q, q = v / 256 ^ k := ⟨_, rfl⟩
        rw [← hq]
        have hq64 : (q : Int) ≤ 18446744073709551615 := by have := Nat.lt_of_le_of_lt (Nat.div_le_self v (256 ^ k)) HV.out; rw [← hq] at this; omega
        obtain ⟨c, hc⟩ : ∃ c, c = UInt8.ofNat (q % 256) := ⟨_, rfl⟩
        have hm : ((q : Int) % 256) = (c.toNat : Int) := by rw [hc, toNat_ofNat8 _ (by omega)]; omega
        have hs : Hid (leL (k + 1) v = leL k v ++ [c]) := Lib.hid (by rw [leL_snoc, hc, hq])
        have hx : Hid ((q : Int) / 256 = ((v / 256 ^ (k + 1) : Nat) : Int)) := Lib.hid (by rw [hq, Nat.pow_succ, ← Nat.div_div_eq_div_mul]; omega)
        clear hc hq
        have hl : (leL k v).length + 1 ≤ 140737488355328 := by rw [leL_length]; omega
        have HL := Lib.hid hl; clear hl
        go_wp2_with (go_at_call 54; refine (wbyte_any bldT_builder _ _ _ c _ HB.out HL.out HW.out.size).mono ?_; rintro e w' ⟨rfl, hb1, hb2, _⟩)
        have HB1 := Lib.hid hb1
        have HB2 := Lib.hid hb2
        clear hb1 hb2
        go_wp2
        go_roundw
        case rel => exact ⟨k + 1, by omega, by go_num, by rw [← hx.out], Lib.hid (by rw [hs.out]; exact HB1.out), Lib.hid (HW.out.trans HB2.out)⟩
        case measure => simp [intOf]; omega
      · obtain rfl : k = m := by omega
        go_wp2_with (go_at_call 21; refine (bstr_any _ _ _ _ HB.out HW.out.size).mono ?_; rintro e w' ⟨rfl, _, hb, _⟩)
        go_ret
        exact ⟨rfl, HW.out.trans hb⟩
  · rw [putLeF, if_neg hn]
    go_enter Try.func53, Try.ntmps53
    by_cases h0 : n < 0
    · go_wp2
      go_ret
      exact ⟨rfl, Below.refl _ _⟩
    · have h1 : 8 < n := by omega
      go_wp2
      go_ret
      exact ⟨rfl, Below.refl _ _⟩

/-- The text whose bytes come in the other order. -/
theorem bytes_put (v : Nat) (n : Int) : (⟨(bytesL (putLeF v n) true).toArray⟩ : ByteArray) = putBeF v n := by
  unfold putLeF putBeF bytesL
  by_cases h : 0 ≤ n ∧ n ≤ 8 <;> simp [h]

theorem putLe_size (v : Nat) (n : Int) : (putLeF v n).size ≤ 8 := by
  unfold putLeF
  split
  · show (leL n.toNat v).toArray.size ≤ 8
    rw [List.size_toArray, leL_length]; omega
  · exact Nat.zero_le _

set_option maxHeartbeats 4000000 in
set_option maxRecDepth 100000 in
theorem putBe_in (v : Nat) (hv : v < 18446744073709551616) (n : Int) (w : World) :
    CallsIn Fence.wide 5 Try.prog 42 #[.int .u64 v, .int .i64 n] w fun e w' => e = .returned (.string (putBeF v n)) ∧ Below w.heap.size w w' := by
  have HV := Lib.hid hv; clear hv
  have h1 : 1 ≤ 5 := by omega
  have hro : Fence.wide.round = none := rfl
  obtain ⟨t, ht⟩ : ∃ t, t = putLeF v n := ⟨_, rfl⟩
  have ht8 : t.size ≤ 8 := by rw [ht]; exact putLe_size v n
  have hres : (⟨(bytesL t true).toArray⟩ : ByteArray) = putBeF v n := by rw [ht]; exact bytes_put v n
  have HT := Lib.hid ht; have HT8 := Lib.hid ht8; have HR := Lib.hid hres
  clear ht ht8 hres
  refine callsIn_of_wp_marks Try.func42 rfl trivial ?_ hro
  simp only [Try.ntmps42, List.size_toArray, List.length_cons, List.length_nil, Nat.reduceAdd, Nat.reduceSub, Array.replicate_succ, Array.replicate_zero, List.push_toArray, List.append_toArray, List.nil_append, List.cons_append]
  gi_wp2_with (first
    | (refine ⟨trivial, ?_⟩; gi_at_call 53; refine (callsIn_wide.2 (putLe_any v HV.out n _)).mono ?_; rintro e w1 ⟨rfl, hb⟩; rw [← HT.out])
    | (refine ⟨trivial, ?_⟩; gi_at_call 52; refine (bytes_any Fence.wide _ trivial hro _ _ _).mono ?_; rintro e w' ⟨rfl, rfl⟩))
  obtain ⟨W0, hW0⟩ : ∃ W0, W0 = (w1.alloc (.cells #[.string t] 9)).alloc (.cells #[.bool true] 4) := ⟨_, rfl⟩
  have hz1 : w.heap.size + 1 ≤ w1.heap.size := by have := hb.size; rwa [heap_len] at this
  have hc1 : W0.heap[w1.heap.size]? = some (.cells #[.string t] 9) := by rw [hW0]; exact (heap_old _ _ _ (by simp only [heap_len]; omega)).trans (heap_new _ _ _ rfl)
  have hc2 : W0.heap[w1.heap.size + 1]? = some (.cells #[.bool true] 4) := by rw [hW0]; exact heap_new _ _ _ (by simp only [heap_len])
  have hz : W0.heap.size = w1.heap.size + 2 := by rw [hW0]; simp only [heap_len]
  have hbw : IsBld 58 w.heap.size w.heap.size [] W0 := by
    rw [hW0]
    exact bld_alloc (bld_alloc (bld_below (bld_new w) hb) _) _
  have hB0 : Below w.heap.size w W0 := by
    rw [hW0]
    exact ((((Below.refl _ w).alloc (Nat.le_refl _) _).trans (hb.mono (by rw [heap_len]; omega))).alloc (by omega) _).alloc (by rw [heap_len]; omega) _
  rw [← hW0]
  clear hW0
  refine wpIn_rangeFunc_ownF hro h1 (gf := 62) (lb := #[.pointer (some ⟨w1.heap.size, 0, none⟩), .pointer (some ⟨w1.heap.size + 1, 0, none⟩)]) rfl trivial (enters_of Try.func62 (by kernel_rfl) rfl)
    (bytes_stops Fence.wide (5 - 1) trivial hro (by omega) w1.heap.size (w1.heap.size + 1) t (by have := HT8.out; omega) true W0 (by omega) (by omega) (cell_at hc1 rfl) (cell_at hc2 rfl)) keepC_t keepC_b (Below.refl _ _) (fun _ => rfl)
    (fun pre W => (IsBld 58 w.heap.size w.heap.size pre W ∧ W.heap[w1.heap.size]? = some (.cells #[.string t] 9) ∧ W.heap[w1.heap.size + 1]? = some (.cells #[.bool true] 4)) ∧ Below w.heap.size w W)
    (fun _ _ _ => False)
    (OwnFrom.and (Own.from (fun s A B row hs hg hr => ⟨bld_kept hs.1 hg hr, cells_grown hg hr hs.2.1, cells_grown hg hr hs.2.2⟩) _) (ownFrom_below (Nat.le_refl _) (by omega)))
    (fun _ _ _ _ _ hs _ _ => hs)
    ⟨⟨hbw, hc1, hc2⟩, hB0⟩
    (fun x => { tmps := #[.int .u64 v, .int .i64 n, undef, undef, .string ⟨#[]⟩, .pointer (some ⟨w.heap.size, 0, none⟩), .int .u8 x.toNat, .int .u64 v, .int .i64 n, .string t, .func (.func 62) #[] #[.pointer (some ⟨w1.heap.size, 0, none⟩), .pointer (some ⟨w1.heap.size + 1, 0, none⟩)], .int .u8 x.toNat, undef, undef, undef], defers := [] }) ?assign ?body ?done ?stop
  case assign =>
    intro l x W K hK
    gi_wp2
    exact hK
  case body =>
    rintro l pre x W ⟨⟨hbd, hd1, hd2⟩, hB⟩ hlen
    have hl : pre.length + 1 ≤ 140737488355328 := by have := HT8.out; omega
    have HBD := Lib.hid hbd; have HD1 := Lib.hid hd1; have HD2 := Lib.hid hd2; have HBB := Lib.hid hB; have HL := Lib.hid hl
    clear hbd hd1 hd2 hB hl hlen hbw hB0 hc1 hc2
    gi_wp2_with (refine ⟨trivial, ?_⟩; gi_at_call 54; refine (CallsIn.inRound l (callsIn_wide.2 (wbyte_any bldT_builder _ _ _ x _ HBD.out HL.out HBB.out.size))).mono ?_; rintro e w' ⟨rfl, k1, k2, k3⟩)
    have e1 := k3 _ _ HD1.out (by simp; omega) (fun c fz e => by cases e)
    have e2 := k3 _ _ HD2.out (by simp; omega) (fun c fz e => by cases e)
    refine ⟨keepsOthers_of HBD.out k2.size k3, ⟨fun u hu => ?_, fun u hu => ?_⟩, ⟨k1, e1, e2⟩, HBB.out.trans k2⟩
    · rw [cell_of_row _ _ _ _ _ _ HD1.out] at hu; rw [cell_of_row _ _ _ _ _ _ e1]; exact hu
    · rw [cell_of_row _ _ _ _ _ _ HD2.out] at hu; rw [cell_of_row _ _ _ _ _ _ e2]; exact hu
  case done =>
    rintro D ys W hD rfl ⟨⟨hbd, _⟩, hB⟩ hK
    have HBD := Lib.hid hbd; have HK := Lib.hid hK; have HBB := Lib.hid hB
    clear hbd hK hB hbw hB0 hc1 hc2 hb
    gi_wp2_with (refine ⟨trivial, ?_⟩; gi_at_call 21; refine (callsIn_wide.2 (bstr_any _ _ _ _ HBD.out HBB.out.size)).mono ?_; rintro e w' ⟨rfl, _, k2, k3⟩)
    rw [HR.out]
    have hK' := k3 D _ HK.out (fun e => by cases e; obtain ⟨c, hc⟩ := bld_heap HBD.out; rw [HK.out] at hc; cases hc) (fun c fz e => by cases e)
    have HK' := Lib.hid hK'
    have HB2 := Lib.hid (HBB.out.trans k2)
    clear hK' k2 k3
    gi_wp2
    refine ⟨by simp, .inl ⟨_, _, rfl, run_takeDeferred HK'.out, ?_⟩⟩
    exact ⟨_, results_tmp rfl _ _ _, rfl, HB2.out.trans (belowK_b (w := w) (Nat.le_refl _) _ D _ _ (by omega) HK'.out rfl rfl)⟩
  case stop =>
    rintro D c pre W _ _ h _
    exact h.elim

theorem putBe_any (v : Nat) (hv : v < 18446744073709551616) (n : Int) (w : World) :
    Calls Try.prog 42 #[.int .u64 v, .int .i64 n] w fun e w' => e = .returned (.string (putBeF v n)) ∧ Below w.heap.size w w' :=
  callsIn_wide.1 (putBe_in v hv n w)
end Go.Proofs.Ytbaelhaajplbnaa
