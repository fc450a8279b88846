/-
  The package swap: numbers out of at most 8 bytes, at every string.
-/
import Derived.RangeFuncNested
import Derived.RangeFuncBound
import Derived.RangeFuncCalls
import Derived.RangeFuncLeaves
import Derived.Shelf.Abstract
import Derived.Shelf.RegionOpen
import Derived.WalkKit
import Derived.OwnWalkIn
import Derived.TacticsInMore
import Derived.LoopNIn
import Derived.LoopIn
import Derived.Test.YtbaelhaajplbnaaProg
import Derived.Test.YtbaelhaajplbnaaFB
import Derived.Laws.BitsAllLaws
namespace Go.Proofs.Ytbaelhaajplbnaa
open Go Go.RowKit Go.Shelf
attribute [local go_sem] Oper.semAt_some
set_option linter.unusedVariables false
set_option linter.unusedSimpArgs false

/-- A text's bytes, from its beginning or from its end. -/
def bytesL (s : ByteArray) (back : Bool) : List UInt8 := if back then s.data.toList.reverse else s.data.toList

theorem bytesL_length (s : ByteArray) (back : Bool) : (bytesL s back).length = s.size := by
  unfold bytesL; split
  · rw [List.length_reverse]; exact Array.length_toList
  · exact Array.length_toList

theorem take_next {l : List UInt8} {k : Nat} (h : k < l.length) : l.take k ++ [l[k]] = l.take (k + 1) := by
  rw [List.take_add_one]; simp [h]

theorem byte_fwd (s : ByteArray) (k : Nat) (h : k < s.size) (h' : k < (bytesL s false).length) : (bytesL s false)[k] = s[k] := rfl
theorem byte_back (s : ByteArray) (k : Nat) (h : k < s.size) (h' : k < (bytesL s true).length) (h2 : s.size - 1 - k < s.size) : (bytesL s true)[k] = s[s.size - 1 - k] := by
  simp only [bytesL, if_true, List.getElem_reverse]
  rfl

/-- What a round keeps for the iterator: its two captured variables. -/
def KeepC (b1 b2 : Nat) (W W' : World) : Prop :=
  (∀ v, W.cell? ⟨b1, 0, none⟩ = some v → W'.cell? ⟨b1, 0, none⟩ = some v) ∧ (∀ v, W.cell? ⟨b2, 0, none⟩ = some v → W'.cell? ⟨b2, 0, none⟩ = some v)
theorem keepC_t {b1 b2 : Nat} {A B C : World} (h : KeepC b1 b2 A B) (k : KeepC b1 b2 B C) : KeepC b1 b2 A C :=
  ⟨fun v e => k.1 v (h.1 v e), fun v e => k.2 v (h.2 v e)⟩
theorem cell_putObj {W : World} {l b : Nat} {o o' : Obj} {v : Value} (h : W.heap[l]? = some o) (hc : o.isCells = false) (hv : W.cell? ⟨b, 0, none⟩ = some v) : (W.putObj l o').cell? ⟨b, 0, none⟩ = some v := by
  have hne : b ≠ l := fun e => by
    subst e
    unfold World.cell? at hv
    rw [h] at hv
    cases o <;> simp_all [Obj.isCells]
  unfold World.cell? at hv ⊢
  rwa [World.putObj_heap_other hne]
theorem keepC_b {b1 b2 : Nat} {w : World} (W : World) (l : Nat) (o o' : Obj) (hl : w.heap.size ≤ l) (h : W.heap[l]? = some o) (hc : o.isCells = false) (_ : o.isWalk = false) : KeepC b1 b2 W (W.putObj l o') :=
  ⟨fun v hv => cell_putObj h hc hv, fun v hv => cell_putObj h hc hv⟩
theorem keepC_set {b1 b2 b : Nat} (W : World) (o : Nat) (v : Value) (h1 : b1 ≠ b) (h2 : b2 ≠ b) : KeepC b1 b2 W (W.setCell ⟨b, o, none⟩ v) :=
  ⟨fun u hu => by unfold World.cell? at hu ⊢; rwa [heap_set_ne _ _ _ _ _ h1], fun u hu => by unfold World.cell? at hu ⊢; rwa [heap_set_ne _ _ _ _ _ h2]⟩

set_option maxHeartbeats 1000000 in
theorem bytes_in (F : Fence) (n : Nat) (hf : F.fn 62) (hro : F.round = none) (hn : 1 ≤ n) (l b1 b2 : Nat) (s : ByteArray) (hs : s.size ≤ 9223372036854775807) (back : Bool) (J Jx : List UInt8 → World → Prop)
    (hY : ∀ pre x W, J pre W → pre.length < s.size → YieldAt F (n - 1) Try.prog l #[.int .u8 x.toNat] W fun e W' =>
      (e = .returned (.bool true) ∧ J (pre ++ [x]) W' ∧ KeepC b1 b2 W W') ∨ (e = .returned (.bool false) ∧ Jx (pre ++ [x]) W'))
    (W : World) (hc1 : W.cell? ⟨b1, 0, none⟩ = some (.string s)) (hc2 : W.cell? ⟨b2, 0, none⟩ = some (.bool back)) (h0 : J [] W) :
    CallsIn F n Try.prog 62 #[.func (.yield l) #[] #[], .pointer (some ⟨b1, 0, none⟩), .pointer (some ⟨b2, 0, none⟩)] W fun e W' => (∃ v, e = .returned v) ∧
      ((∃ ys, ys = bytesL s back ∧ J ys W') ∨ (∃ pre, pre <+: bytesL s back ∧ Jx pre W')) := by
  refine callsIn_of_wp Try.func62 rfl hf ?_ hro
  simp only [Try.ntmps62, List.size_toArray, List.length_cons, List.length_nil, Nat.reduceAdd, Nat.reduceSub, Array.replicate_succ, Array.replicate_zero, List.push_toArray, List.append_toArray, List.nil_append, List.cons_append]
  gi_wp2
  gi_loopw [7] (fun p wr => ∃ k : Nat, k ≤ s.size ∧ p = .int .i64 k ∧ wr.cell? ⟨b1, 0, none⟩ = some (.string s) ∧ wr.cell? ⟨b2, 0, none⟩ = some (.bool back) ∧ J ((bytesL s back).take k) wr)
    (fun p wr => s.size - (intOf p).toNat)
  case atStart => exact ⟨0, by omega, rfl, hc1, hc2, h0⟩
  case round =>
    obtain ⟨k, hk, rfl, hc1, hc2, hJ⟩ := hrel
    by_cases hlt : k < s.size
    · have hl : k < (bytesL s back).length := by rw [bytesL_length]; exact hlt
      obtain ⟨x, hx⟩ : ∃ x, x = (bytesL s back)[k] := ⟨_, rfl⟩
      have hnext : (bytesL s back).take k ++ [x] = (bytesL s back).take (k + 1) := by rw [hx]; exact take_next hl
      have HN := Lib.hid hnext; clear hnext
      obtain ⟨fn, tmps, assign, body, hy, hR⟩ := hY _ x wr hJ (by rw [List.length_take]; omega)
      cases back
      · have hb : s[k]'hlt = x := by rw [hx]; exact (byte_fwd s k hlt hl).symm
        clear hx hY
        rw [← hb] at hy
        clear hb
        gi_wp2
        refine hR.mono ?_
        rintro e W3 (⟨rfl, hJ3, hk3⟩ | ⟨rfl, hJx3⟩)
        · have g1 := hk3.1 _ hc1
          have g2 := hk3.2 _ hc2
          rw [HN.out] at hJ3
          clear hc1 hc2 hJ hy hR
          gi_wp2
          go_roundw
          case rel => exact ⟨k + 1, by omega, by go_num, g1, g2, hJ3⟩
          case measure => simp [intOf]; omega
        · rw [HN.out] at hJx3
          gi_wp2
          refine bodyPost_ret (results_none rfl _ _ _) rfl ?_
          exact ⟨⟨_, rfl⟩, .inr ⟨_, List.take_prefix _ _, hJx3⟩⟩
      · have h2 : s.size - 1 - k < s.size := by omega
        have hb : s[s.size - 1 - k]'h2 = x := by rw [hx]; exact (byte_back s k hlt hl h2).symm
        clear hx hY
        gi_wp2
        refine hR.mono ?_
        rintro e W3 (⟨rfl, hJ3, hk3⟩ | ⟨rfl, hJx3⟩)
        · have g1 := hk3.1 _ hc1
          have g2 := hk3.2 _ hc2
          rw [HN.out] at hJ3
          clear hc1 hc2 hJ hy hR
          gi_wp2
          go_roundw
          case rel => exact ⟨k + 1, by omega, by go_num, g1, g2, hJ3⟩
          case measure => simp [intOf]; omega
        · rw [HN.out] at hJx3
          gi_wp2
          refine bodyPost_ret (results_none rfl _ _ _) rfl ?_
          exact ⟨⟨_, rfl⟩, .inr ⟨_, List.take_prefix _ _, hJx3⟩⟩
    · obtain rfl : k = s.size := by omega
      rw [List.take_of_length_le (by rw [bytesL_length]; exact Nat.le_refl _)] at hJ
      clear hlt hY
      gi_wp2
      go_end0
      exact ⟨⟨_, rfl⟩, .inl ⟨_, rfl, hJ⟩⟩

theorem bytes_stops (F : Fence) (n : Nat) (hf : F.fn 62) (hro : F.round = none) (hn : 1 ≤ n) (b1 b2 : Nat) (s : ByteArray) (hs : s.size ≤ 9223372036854775807) (back : Bool) (w : World)
    (hb1 : b1 < w.heap.size) (hb2 : b2 < w.heap.size) (hc1 : w.cell? ⟨b1, 0, none⟩ = some (.string s)) (hc2 : w.cell? ⟨b2, 0, none⟩ = some (.bool back)) :
    SeqStopsK F n Try.prog 62 #[.pointer (some ⟨b1, 0, none⟩), .pointer (some ⟨b2, 0, none⟩)] (fun x : UInt8 => #[.int .u8 x.toNat]) (KeepC b1 b2)
      (fun xs => xs = bytesL s back) (fun pre => pre <+: bytesL s back) s.size w := fun l J Jx W hW hJ hJx hY h0 => by
  exact bytes_in F n hf hro hn l b1 b2 s hs back J Jx hY W ((hW.cell (p := ⟨b1, 0, none⟩) hb1).trans hc1) ((hW.cell (p := ⟨b2, 0, none⟩) hb2).trans hc2) h0

theorem bytes_any (F : Fence) (n : Nat) (hf : F.fn 52) (hro : F.round = none) (s : ByteArray) (back : Bool) (w : World) :
    CallsIn F n Try.prog 52 #[.string s, .bool back] w fun e w' => e = .returned (.func (.func 62) #[] #[.pointer (some ⟨w.heap.size, 0, none⟩), .pointer (some ⟨w.heap.size + 1, 0, none⟩)]) ∧
      w' = (w.alloc (.cells #[.string s] 9)).alloc (.cells #[.bool back] 4) := by
  have hmf : ∀ (fn : Fn) (first cap : Array Value) (w : World), (Instr.makeFunc fn first cap).run Try.prog w = .ok (.func fn first cap) w := fun _ _ _ _ => rfl
  refine callsIn_of_wp Try.func52 rfl hf ?_ hro
  simp only [Try.ntmps52, List.size_toArray, List.length_cons, List.length_nil, Nat.reduceAdd, Nat.reduceSub, Array.replicate_succ, Array.replicate_zero, List.push_toArray, List.append_toArray, List.nil_append, List.cons_append]
  gi_wp2
  go_ret
  exact ⟨rfl, rfl⟩

/-- The number of bytes, the first one the highest. -/
def beN (l : List UInt8) : Nat := l.foldl (fun n b => n * 256 + b.toNat) 0
theorem beN_snoc (l : List UInt8) (b : UInt8) : beN (l ++ [b]) = beN l * 256 + b.toNat := by simp [beN]
theorem beN_lt_aux : ∀ (l : List UInt8) (a : Nat), l.foldl (fun n b => n * 256 + b.toNat) a < (a + 1) * 256 ^ l.length
  | [], a => by simp
  | b :: l, a => by
    have h := beN_lt_aux l (a * 256 + b.toNat)
    have hb := b.toNat_lt
    rw [List.foldl_cons, List.length_cons, Nat.pow_succ]
    refine Nat.lt_of_lt_of_le h ?_
    rw [show (a + 1) * (256 ^ l.length * 256) = ((a + 1) * 256) * 256 ^ l.length by rw [Nat.mul_comm (256 ^ l.length) 256, Nat.mul_assoc]]
    exact Nat.mul_le_mul_right _ (by omega)
theorem beN_lt (l : List UInt8) : beN l < 256 ^ l.length := by
  have := beN_lt_aux l 0
  simpa [beN] using this
theorem beN_lt8 {l : List UInt8} (h : l.length ≤ 8) : beN l < 18446744073709551616 :=
  Nat.lt_of_lt_of_le (beN_lt l) (by
    have : 256 ^ l.length ≤ 256 ^ 8 := Nat.pow_le_pow_right (by omega) h
    simpa using this)
theorem or_add {a b : Nat} (h : b < 256) : a * 256 ||| b = a * 256 + b := by
  have := Nat.shiftLeft_add_eq_or_of_lt (b := b) (i := 8) (by simpa using h) a
  rw [Nat.shiftLeft_eq] at this
  simpa using this.symm

/-- swap's number of a text: 0 if it is too long. -/
def numF (s : ByteArray) (back : Bool) : Int := if s.size ≤ 8 then beN (bytesL s back) else 0

set_option maxHeartbeats 2000000 in
set_option maxRecDepth 100000 in
theorem number_in (F : Fence) (n : Nat) (hf : F.fn 60) (hf2 : F.fn 52) (hf3 : F.fn 62) (hro : F.round = none) (hn : 3 ≤ n) (s : ByteArray) (back : Bool) (h8 : s.size ≤ 8) (w : World) :
    CallsIn F n Try.prog 60 #[.string s, .bool back] w fun e w' => e = .returned (.int .u64 (beN (bytesL s back))) ∧ Below w.heap.size w w' := by
  have h1 : 1 ≤ n := by omega
  refine callsIn_of_wp_marks Try.func60 rfl hf ?_ hro
  simp only [Try.ntmps60, List.size_toArray, List.length_cons, List.length_nil, Nat.reduceAdd, Nat.reduceSub, Array.replicate_succ, Array.replicate_zero, List.push_toArray, List.append_toArray, List.nil_append, List.cons_append]
  gi_wp2_with (gi_at_call 52; refine (bytes_any F (n - 1) hf2 hro _ _ _).mono ?_; rintro e w' ⟨rfl, rfl⟩)
  obtain ⟨W0, hW0⟩ : ∃ W0, W0 = ((w.alloc (.cells #[.int .u64 0] 30)).alloc (.cells #[.string s] 9)).alloc (.cells #[.bool back] 4) := ⟨_, rfl⟩
  have hc0 : W0.heap[w.heap.size]? = some (.cells #[.int .u64 0] 30) := by rw [hW0]; exact (heap_old _ _ _ (by simp only [heap_len]; omega)).trans ((heap_old _ _ _ (by simp only [heap_len]; omega)).trans (heap_new _ _ _ rfl))
  have hc1 : W0.heap[w.heap.size + 1]? = some (.cells #[.string s] 9) := by rw [hW0]; exact (heap_old _ _ _ (by simp only [heap_len]; omega)).trans (heap_new _ _ _ (by simp only [heap_len]))
  have hc2 : W0.heap[w.heap.size + 1 + 1]? = some (.cells #[.bool back] 4) := by rw [hW0]; exact heap_new _ _ _ (by simp only [heap_len])
  have hz : W0.heap.size = w.heap.size + 3 := by rw [hW0]; simp only [heap_len]
  have hB0 : Below w.heap.size w W0 := by rw [hW0]; exact (((Below.refl _ w).alloc (Nat.le_refl _) _).alloc (by simp) _).alloc (by simp; omega) _
  rw [← hW0]
  clear hW0
  refine wpIn_rangeFunc_ownF hro h1 (gf := 62) (lb := #[.pointer (some ⟨w.heap.size + 1, 0, none⟩), .pointer (some ⟨w.heap.size + 1 + 1, 0, none⟩)]) rfl hf3 (enters_of Try.func62 (by kernel_rfl) rfl)
    (bytes_stops F (n - 1) hf3 hro (by omega) (w.heap.size + 1) (w.heap.size + 1 + 1) s (by omega) back W0 (by omega) (by omega) (cell_at hc1 rfl) (cell_at hc2 rfl)) keepC_t keepC_b (Below.refl _ _) (fun _ => rfl)
    (fun pre W => (W.cell? ⟨w.heap.size, 0, none⟩ = some (.int .u64 (beN pre)) ∧ W.frozen? ⟨w.heap.size, 0, none⟩ = false) ∧ Below w.heap.size w W)
    (fun _ _ _ => False)
    (OwnFrom.and (Own.from (fun s A B row hs hg hr => ⟨cell_kept hs.1 hg hr, (frozen_kept hs.1 hg hr).trans hs.2⟩) _) (ownFrom_below (Nat.le_refl _) (by omega)))
    (fun _ _ _ _ _ hs _ _ => hs)
    ⟨⟨cell_at hc0 rfl, free_at hc0⟩, hB0⟩
    (fun x => { tmps := #[.string s, .bool back, undef, undef, .int .u64 0, .pointer (some ⟨w.heap.size, 0, none⟩), .int .u8 x.toNat, .string s, .int .i64 s.size, .bool (decide (8 < (s.size : Int))), .string s, .bool back, .func (.func 62) #[] #[.pointer (some ⟨w.heap.size + 1, 0, none⟩), .pointer (some ⟨w.heap.size + 1 + 1, 0, none⟩)], .int .u8 x.toNat, undef, undef, undef, undef, undef, undef], defers := [] }) ?assign ?body ?done ?stop
  case assign =>
    intro l x W K hK
    gi_wp2
    exact hK
  case body =>
    rintro l pre x W ⟨⟨hc, hf⟩, hB⟩ hlen
    have hp := beN_lt8 (l := pre) (by omega)
    have hx := x.toNat_lt
    have hp7 : beN pre * 256 < 18446744073709551616 := by
      have h1 := beN_lt pre
      have h2 : 256 ^ pre.length ≤ 256 ^ 7 := Nat.pow_le_pow_right (by omega) (by omega)
      simp at h2
      omega
    have ho : bits BinOp.or IntKind.u64 ((beN pre : Int) * 256) x.toNat = (beN (pre ++ [x]) : Nat) := by
      rw [show (beN pre : Int) * 256 = ((beN pre * 256 : Nat) : Int) by simp, u64_or_nat _ _ hp7 (by omega), or_add (by omega), beN_snoc]
    have HO := Lib.hid ho
    clear ho
    gi_wp2
    refine ⟨KeepsOthers.setCell _ _ _, keepC_set _ _ _ (by omega) (by omega), ⟨?_, by rw [World.frozen?_setCell]; exact hf⟩, hB.setCell (p := ⟨w.heap.size, 0, none⟩) (Nat.le_refl _) _⟩
    rw [HO.out]
    exact World.cell?_setCell_same' _ _ _ (by rw [hc]; rfl)
  case done =>
    rintro D ys W hD rfl ⟨⟨hc, _⟩, hB⟩ hK
    gi_wp2
    refine ⟨by simp, .inl ⟨_, _, rfl, run_takeDeferred hK, ?_⟩⟩
    exact ⟨_, results_tmp rfl _ _ _, rfl, hB.trans (belowK_b (w := w) (Nat.le_refl _) W D _ _ (by omega) hK rfl rfl)⟩
  case stop =>
    rintro D c pre W _ _ h _
    exact h.elim

theorem number_any (s : ByteArray) (back : Bool) (w : World) (hs : s.size ≤ 9223372036854775807) :
    Calls Try.prog 60 #[.string s, .bool back] w fun e w' => e = .returned (.int .u64 (numF s back)) ∧ Below w.heap.size w w' := by
  by_cases h8 : s.size ≤ 8
  · have := (callsIn_wide (n := 3)).1 (number_in _ 3 trivial trivial trivial rfl (by omega) s back h8 w)
    rw [numF, if_pos h8]
    exact this
  · rw [numF, if_neg h8]
    go_enter Try.func60, Try.ntmps60
    go_wp2
    go_ret
    exact ⟨rfl, Below.refl _ _⟩

theorem le_any (s : ByteArray) (w : World) (hs : s.size ≤ 9223372036854775807) :
    Calls Try.prog 47 #[.string s] w fun e w' => e = .returned (.int .u64 (numF s true)) ∧ Below w.heap.size w w' := by
  go_enter Try.func47, Try.ntmps47
  go_wp2_with (go_at_call 60; refine (number_any _ _ _ hs).mono ?_; rintro e w' ⟨rfl, hb⟩)
  go_ret
  exact ⟨rfl, hb⟩
end Go.Proofs.Ytbaelhaajplbnaa
