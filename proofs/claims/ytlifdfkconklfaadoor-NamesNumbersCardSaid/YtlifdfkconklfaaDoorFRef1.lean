/-
  The reference's layer 1: a number's bytes, by a row of bytes of the call's own.
-/
import Derived.Test.YtlifdfkconklfaaDoorFPut
import Derived.OwnWalk
import Derived.Laws.OwnMore
import Derived.Laws.IdiomStrings
namespace Go.Proofs.YtlifdfkconklfaaDoor
open Go Go.RowKit
set_option linter.unusedVariables false
set_option linter.unusedSimpArgs false

def byteVs (l : List UInt8) : List Value := l.map fun b => .int .u8 b.toNat
theorem byteVs_length (l : List UInt8) : (byteVs l).length = l.length := by simp [byteVs]
theorem byteVs_get (l : List UInt8) (j : Nat) (h : j < l.length) : (byteVs l)[j]? = some (.int .u8 (l[j].toNat : Int)) := by simp [byteVs, h]
theorem own_byte {w : World} {B g n cap : Nat} {l : List UInt8} (h : w.ownsRow B 5 1 (.slice (some ⟨g, 0, none⟩) n cap) n (byteVs l)) (j : Nat) (hj : j < l.length) : w.cell? ((⟨g, 0, none⟩ : Addr).add j) = some (.int .u8 (l[j].toNat : Int)) := by
  have hn : n = l.length := by have := h.1; rw [byteVs_length] at this; omega
  have hadd : (⟨g, 0, none⟩ : Addr).add j = ⟨g, j, none⟩ := by unfold Addr.add; split <;> simp_all
  rw [hadd, h.cellAt j (by omega), byteVs_get l j hj]
theorem zeros_row (n : Nat) : (madeCells (Value.int .u8 0).cells (n * 1)).toList = byteVs (List.replicate n 0) := by
  apply List.ext_getElem?
  intro i
  by_cases h : i < n
  · simp [madeCells, Value.cells, byteVs, List.getElem?_replicate, h, Nat.mod_one]
  · simp [madeCells, Value.cells, byteVs, List.getElem?_replicate, h]

set_option maxRecDepth 100000 in
set_option maxHeartbeats 2000000 in
theorem rputBe_any (v : Nat) (hv : v < 18446744073709551616) (n : Int) (w : World) :
    Calls Tryd.prog 69 #[.int .u64 v, .int .i64 n] w fun e w' => e = .returned (.string (putBeF v n)) ∧ Below w.heap.size w w' := by
  by_cases hn : 0 ≤ n ∧ n ≤ 8
  · rw [putBeF, if_pos hn]
    obtain ⟨n1, n2⟩ := hn
    obtain ⟨m, rfl⟩ : ∃ m : Nat, n = m := ⟨n.toNat, by omega⟩
    rw [Int.toNat_natCast]
    obtain ⟨i0, hi, hz0, hz1, hz2⟩ := info_parts u8_info
    have HV := Lib.hid hv; clear hv
    go_enter Tryd.func69, Tryd.ntmps69
    go_wp2_with (at_make; refine wpList_make_full _ rfl _ _ 46 rfl w.heap.size 5 i0 (.int .u8 0) 1 Tryd.underlying46 hi hz0 hz1 .i64 .i64 m m m rfl rfl rfl rfl (by rw [hz2]; omega) (by unfold maxLen; omega) (Nat.le_refl _) ?_; intro w1 hown1 hgrow1)
    rw [zeros_row] at hown1
    have HO := Lib.hid hown1; have HG := Lib.hid ((Below.refl w.heap.size w).grown hgrow1 (Nat.le_refl _) (fun _ e => by cases e))
    clear hown1 hgrow1
    go_loopw [0, 6] (fun x i wr => ∃ k : Nat, k ≤ m ∧ i = .int .i64 ((m : Int) - 1 - k) ∧ x = .int .u64 (v / 256 ^ k : Nat) ∧ Hid (wr.ownsRow w.heap.size 5 1 (.slice (some ⟨w.heap.size, 0, none⟩) m m) m (byteVs (List.replicate (m - k) 0 ++ (leL k v).reverse))) ∧ Hid (Below w.heap.size w wr)) (fun _ i _ => (intOf i + 1).toNat)
    case atStart => exact ⟨0, by omega, by simp, by simp, by simpa [leL] using HO, HG⟩
    case round =>
      obtain ⟨k, hk, rfl, rfl, HB, HW⟩ := hrel
      by_cases hlt : k < m
      · obtain ⟨q, hq⟩ : ∃ q, q = v / 256 ^ k := ⟨_, rfl⟩
        rw [← hq]
        have hq64 : (q : Int) ≤ 18446744073709551615 := by have := Nat.lt_of_le_of_lt (Nat.div_le_self v (256 ^ k)) HV.out; rw [← hq] at this; omega
        obtain ⟨c, hc⟩ : ∃ c, c = UInt8.ofNat (q % 256) := ⟨_, rfl⟩
        have hm : ((q : Int) % 256) = (c.toNat : Int) := by rw [hc, toNat_ofNat8 _ (by omega)]; omega
        have hs : Hid (leL (k + 1) v = leL k v ++ [c]) := Lib.hid (by rw [leL_snoc, hc, hq])
        have hx : Hid ((q : Int) / 256 = ((v / 256 ^ (k + 1) : Nat) : Int)) := Lib.hid (by rw [hq, Nat.pow_succ, ← Nat.div_div_eq_div_mul]; omega)
        have hlen : (List.replicate (m - k) (0 : UInt8) ++ (leL k v).reverse).length = m := by simp [leL_length]; omega
        obtain ⟨u, hcell⟩ : ∃ u, wr.cell? ⟨w.heap.size, m - 1 - k, none⟩ = some u := ⟨_, (HB.out.cellAt (m - 1 - k) (by omega)).trans (byteVs_get _ (m - 1 - k) (by omega))⟩
        have hfree := HB.out.frozenAt (m - 1 - k)
        have hst := HB.out.stored (m - 1 - k) (.int .u8 c.toNat)
        have hcb := c.toNat_lt
        have hset : Hid ((byteVs (List.replicate (m - k) 0 ++ (leL k v).reverse)).set (m - 1 - k) (.int .u8 c.toNat) = byteVs (List.replicate (m - (k + 1)) 0 ++ (leL (k + 1) v).reverse)) := Lib.hid (by
          rw [hs.out, show m - k = (m - (k + 1)) + 1 by omega, List.replicate_succ', List.append_assoc, byteVs, List.map_append, List.set_append_right _ _ (by simp; omega), List.length_map, List.length_replicate, show m - 1 - k - (m - (k + 1)) = 0 by omega, List.singleton_append, List.map_cons, List.set_cons_zero]
          simp [byteVs])
        have HST := Lib.hid hst
        clear hc hq hlen hst
        go_wp2
        go_roundw
        case rel => exact ⟨k + 1, by omega, by go_num, by rw [← hx.out], Lib.hid (by rw [← hset.out]; exact HST.out.1), Lib.hid (HW.out.setCell (p := ⟨w.heap.size, m - 1 - k, none⟩) (Nat.le_refl _) _)⟩
        case measure => simp [intOf]; omega
      · obtain rfl : k = m := by omega
        have hrow := HB.out
        rw [Nat.sub_self, List.replicate_zero, List.nil_append] at hrow
        have hconv := run_convert_bytes_back (P := Tryd.prog) wr 46 9 5 ⟨w.heap.size, 0, none⟩ k (leL k v).reverse Tryd.underlying46 Tryd.underlying5 Tryd.underlying9 (fun j hj => own_byte hrow j hj)
        rw [List.length_reverse, leL_length] at hconv
        clear hrow
        go_wp2
        go_ret
        exact ⟨rfl, HW.out⟩
  · rw [putBeF, if_neg hn]
    go_enter Tryd.func69, Tryd.ntmps69
    by_cases h0 : n < 0
    · go_wp2
      go_ret
      exact ⟨rfl, Below.refl _ _⟩
    · have h1 : 8 < n := by omega
      go_wp2
      go_ret
      exact ⟨rfl, Below.refl _ _⟩
end Go.Proofs.YtlifdfkconklfaaDoor
