/-
  Names: a name's number, by the program and by the document.
-/
import Derived.Test.YtlifdfkconklfaaDoorFTrimN
import Derived.Laws.BitsAllLaws
import Derived.Laws.IdiomStrings
namespace Go.Proofs.YtlifdfkconklfaaDoor
open Go Go.RowKit
set_option linter.unusedVariables false
set_option linter.unusedSimpArgs false

/-- One byte more of a name. -/
def stepH (h : Nat) (c : UInt8) : Nat := (((h * 16 + c.toNat) % 4294967296) ^^^ ((h * 16 + c.toNat) % 4294967296 / 268435456 * 16)) &&& 268435455
def hashL (l : List UInt8) : Nat := l.foldl stepH 0
theorem stepH_lt (h : Nat) (c : UInt8) : stepH h c < 268435456 := by
  unfold stepH
  rw [show 268435455 = 2 ^ 28 - 1 from rfl, Nat.and_two_pow_sub_one_eq_mod]
  exact Nat.mod_lt _ (by decide)
theorem hashL_snoc (l : List UInt8) (c : UInt8) : hashL (l ++ [c]) = stepH (hashL l) c := by simp [hashL]
theorem hashL_lt (l : List UInt8) : hashL l < 268435456 := by
  unfold hashL
  have : ∀ (l : List UInt8) (h : Nat), h < 268435456 → l.foldl stepH h < 268435456 := by
    intro l
    induction l with
    | nil => intro h hh; exact hh
    | cons c l ih => intro h hh; exact ih _ (stepH_lt _ _)
  exact this l 0 (by omega)

theorem bytes_row_cell (l : List UInt8) (w : World) (cap : Nat) (T : TypeId) (fr : Nat × Nat) (i : Nat) (hi : i < l.length) :
    (w.alloc (.cells (bytesRow (mkB l) cap) T fr)).cell? ⟨w.heap.size, i, none⟩ = some (.int .u8 (l[i].toNat : Int)) :=
  cell_at (heap_new _ _ _ rfl) (bytesRow_at (mkB l) cap i (by simpa [mkB] using hi))
theorem take_next' {l : List UInt8} {k : Nat} (h : k < l.length) : l.take (k + 1) = l.take k ++ [l[k]] := (take_next h).symm

theorem step_bits (x : Nat) (c : UInt8) : bits BinOp.and IntKind.u32 (bits BinOp.xor IntKind.u32 (((x : Int) * 16 + (c.toNat : Nat)) % 4294967296) (((x : Int) * 16 + (c.toNat : Nat)) % 4294967296 / 268435456 * 16)) 268435455 = ((stepH x c : Nat) : Int) := by
  obtain ⟨y, hy⟩ : ∃ y, y = (x * 16 + c.toNat) % 4294967296 := ⟨_, rfl⟩
  have e1 : (((x : Int) * 16 + (c.toNat : Nat)) % 4294967296) = (y : Nat) := by rw [hy]; omega
  have e2 : ((y : Nat) : Int) / 268435456 * 16 = ((y / 268435456 * 16 : Nat) : Int) := by omega
  have hy1 : y < 4294967296 := by rw [hy]; exact Nat.mod_lt _ (by omega)
  have hxl : y ^^^ (y / 268435456 * 16) < 2 ^ 32 := Nat.xor_lt_two_pow (by simpa using hy1) (by have : y / 268435456 * 16 < 4294967296 := by omega
                                                                                                simpa using this)
  rw [e1, e2, u32_xor_nat _ _ hy1 (by omega)]
  have h3 := u32_and_nat (y ^^^ (y / 268435456 * 16)) 268435455 (by simpa using hxl) (by omega)
  rw [show ((268435455 : Nat) : Int) = 268435455 from rfl] at h3
  rw [h3, hy]
  rfl
theorem mkB_at (l : List UInt8) (k : Nat) (h : k < l.length) (h' : k < (mkB l).size) : (mkB l)[k] = l[k] := rfl
theorem top_nibble (y : Nat) (hy : y < 4294967296) : y &&& 4026531840 = y / 268435456 * 268435456 := by
  have p : (2 : Nat) ^ 28 = 268435456 := rfl
  have d : (y &&& 4026531840) / 2 ^ 28 = y / 2 ^ 28 &&& 15 := by rw [Nat.and_div_two_pow]
  have m : (y &&& 4026531840) % 2 ^ 28 = 0 := by rw [Nat.and_mod_two_pow, show 4026531840 % 2 ^ 28 = 0 by decide, Nat.and_zero]
  rw [p] at d m
  have ht : y / 268435456 &&& 15 = y / 268435456 := by
    rw [show 15 = 2 ^ 4 - 1 from rfl, Nat.and_two_pow_sub_one_eq_mod]
    exact Nat.mod_eq_of_lt (by omega)
  rw [ht] at d
  have := Nat.div_add_mod (y &&& 4026531840) 268435456
  rw [d, m] at this
  omega
theorem clear_top (z t : Nat) (hz : z < 4294967296) (ht : z / 268435456 = t) : z &&& (4294967295 - t * 268435456) = z &&& 268435455 := by
  have p : (2 : Nat) ^ 28 = 268435456 := rfl
  have ht16 : t < 16 := by omega
  have w1 : (4294967295 - t * 268435456) / 268435456 = 15 - t := by omega
  have w2 : (4294967295 - t * 268435456) % 268435456 = 268435455 := by omega
  have d : (z &&& (4294967295 - t * 268435456)) / 2 ^ 28 = t &&& (15 - t) := by rw [Nat.and_div_two_pow, p, ht, w1]
  have m : (z &&& (4294967295 - t * 268435456)) % 2 ^ 28 = z % 2 ^ 28 := by
    rw [Nat.and_mod_two_pow, p, w2, show 268435455 = 2 ^ 28 - 1 from rfl, Nat.and_two_pow_sub_one_eq_mod, p, Nat.mod_mod]
  have h0 : t &&& (15 - t) = 0 := by
    have : ∀ t : Fin 16, (t : Nat) &&& (15 - t) = 0 := by decide
    exact this ⟨t, ht16⟩
  rw [p, h0] at d
  rw [p] at m
  rw [show 268435455 = 2 ^ 28 - 1 from rfl, Nat.and_two_pow_sub_one_eq_mod, p]
  have := Nat.div_add_mod (z &&& (4294967295 - t * 268435456)) 268435456
  rw [d, m] at this
  omega
theorem rstep_bits (x : Nat) (c : UInt8) : bits BinOp.andNot IntKind.u32 (bits BinOp.xor IntKind.u32 (((x : Int) * 16 + (c.toNat : Nat)) % 4294967296) (bits BinOp.and IntKind.u32 (((x : Int) * 16 + (c.toNat : Nat)) % 4294967296) 4026531840 / 16777216))
    (bits BinOp.and IntKind.u32 (((x : Int) * 16 + (c.toNat : Nat)) % 4294967296) 4026531840) = ((stepH x c : Nat) : Int) := by
  obtain ⟨y, hy⟩ : ∃ y, y = (x * 16 + c.toNat) % 4294967296 := ⟨_, rfl⟩
  have e1 : (((x : Int) * 16 + (c.toNat : Nat)) % 4294967296) = (y : Nat) := by rw [hy]; omega
  have hy1 : y < 4294967296 := by rw [hy]; exact Nat.mod_lt _ (by omega)
  obtain ⟨t, ht⟩ : ∃ t, t = y / 268435456 := ⟨_, rfl⟩
  have ht16 : t < 16 := by omega
  have h1 := u32_and_nat y 4026531840 hy1 (by omega)
  rw [show ((4026531840 : Nat) : Int) = 4026531840 from rfl, top_nibble y hy1, ← ht] at h1
  have e2 : ((t * 268435456 : Nat) : Int) / 16777216 = ((t * 16 : Nat) : Int) := by omega
  have hxl : y ^^^ (t * 16) < 2 ^ 32 := Nat.xor_lt_two_pow (by simpa using hy1) (by have : t * 16 < 4294967296 := by omega
                                                                                    simpa using this)
  rw [show (2 : Nat) ^ 32 = 4294967296 from rfl] at hxl
  have hz : (y ^^^ (t * 16)) / 268435456 = t := by
    have := Nat.xor_div_two_pow (a := y) (b := t * 16) (n := 28)
    rw [show (2 : Nat) ^ 28 = 268435456 from rfl, ← ht, Nat.div_eq_of_lt (show t * 16 < 268435456 by omega), Nat.xor_zero] at this
    exact this
  rw [e1, h1, e2, u32_xor_nat _ _ hy1 (by omega), u32_andNot_nat _ _ hxl (by omega), clear_top _ t hxl hz]
  unfold stepH
  rw [← hy, ← ht]
theorem ret_int {k : IntKind} {a b : Int} (h : a = b) : Ending.returned (.int k a) = .returned (.int k b) := by rw [h]

set_option maxHeartbeats 1000000 in
theorem hash_any (l : List UInt8) (hl : l.length ≤ 140737488351232) (w : World) :
    Calls Tryd.prog 14 #[.string (mkB l)] w fun e w' => e = .returned (.int .u32 (hashL l : Nat)) ∧ Below w.heap.size w w' := by
  have hsz := mkB_size l
  have hconv := run_bytes_of_string (P := Tryd.prog) w 9 46 5 (mkB l) Tryd.underlying9 Tryd.underlying46 Tryd.underlying5
  rw [hsz] at hconv
  obtain ⟨W, hW⟩ : ∃ W, W = w.drew.alloc (.cells (bytesRow (mkB l) (grownCap w l.length 0 5)) 5 ((bytesRow (mkB l) (grownCap w l.length 0 5)).size, (bytesRow (mkB l) (grownCap w l.length 0 5)).size + 1)) := ⟨_, rfl⟩
  have hB : Hid (Below w.heap.size w W) := Lib.hid (by rw [hW]; exact (Below.refl _ _).drew.alloc (Nat.le_refl _) _)
  have hC : Hid (∀ i (hi : i < l.length), W.cell? ⟨w.heap.size, i, none⟩ = some (.int .u8 (l[i].toNat : Int))) := Lib.hid (fun i hi => by rw [hW]; exact bytes_row_cell l w.drew _ _ _ i hi)
  rw [← hW] at hconv
  clear hW
  generalize grownCap w l.length 0 5 = cap at *
  go_enter Tryd.func14, Tryd.ntmps14
  go_wp2
  clear hconv
  go_loop [3, 10] (fun h i => ∃ k : Nat, k ≤ l.length ∧ i = .int .i64 k ∧ ∃ x : Nat, h = .int .u32 x ∧ Hid (x = hashL (l.take k))) (fun _ i => l.length - (intOf i).toNat)
  case atStart => exact ⟨0, Nat.zero_le _, rfl, 0, rfl, Lib.hid rfl⟩
  case round =>
    obtain ⟨k, hk, rfl, x, rfl, HX⟩ := hrel
    by_cases hlt : k < l.length
    · have hcell := hC.out k hlt
      have hx : (x : Int) ≤ 268435455 := by have := hashL_lt (l.take k); rw [← HX.out] at this; omega
      obtain ⟨c, hc⟩ : ∃ c, c = l[k] := ⟨_, rfl⟩
      have hc8 : c.toNat ≤ 255 := by have := c.toNat_lt; omega
      rw [← hc] at hcell
      have HC := Lib.hid hc; clear hc
      go_wp2
      go_round
      case rel =>
        refine ⟨k + 1, by omega, by go_num, ?_⟩
        exact ⟨_, by rw [step_bits x c], Lib.hid (by rw [take_next' hlt, hashL_snoc, ← HX.out, ← HC.out])⟩
      case measure => simp [intOf]; omega
    · obtain rfl : k = l.length := by omega
      rw [List.take_length] at HX
      go_wp2
      go_ret
      exact ⟨ret_int (by rw [HX.out]), hB.out⟩
set_option maxHeartbeats 1000000 in
theorem rhash_any (l : List UInt8) (hl : l.length ≤ 140737488351232) (w : World) :
    Calls Tryd.prog 15 #[.string (mkB l)] w fun e w' => e = .returned (.int .u32 (hashL l : Nat)) ∧ w = w' := by
  have hsz := mkB_size l
  have hG : Hid (∀ i (hi : i < l.length), (mkB l).data.toList[i]? = some l[i]) := Lib.hid (fun i hi => by rw [mkB_list]; simp [hi])
  go_enter Tryd.func15, Tryd.ntmps15
  go_wp2
  go_loop [3, 4] (fun h i => ∃ k : Nat, k ≤ l.length ∧ i = .int .i64 k ∧ ∃ x : Nat, h = .int .u32 x ∧ Hid (x = hashL (l.take k))) (fun _ i => l.length - (intOf i).toNat)
  case atStart => exact ⟨0, Nat.zero_le _, rfl, 0, rfl, Lib.hid rfl⟩
  case round =>
    obtain ⟨k, hk, rfl, x, rfl, HX⟩ := hrel
    by_cases hlt : k < l.length
    · have hx : (x : Int) ≤ 268435455 := by have := hashL_lt (l.take k); rw [← HX.out] at this; omega
      obtain ⟨c, hc⟩ : ∃ c, c = l[k] := ⟨_, rfl⟩
      have hc8 : c.toNat ≤ 255 := by have := c.toNat_lt; omega
      have HC := Lib.hid hc; clear hc
      go_wp2
      go_round
      case rel =>
        refine ⟨k + 1, by omega, by go_num, ?_⟩
        have hck : ∀ h', (mkB l)[k]'h' = c := fun _ => HC.out.symm
        have hst := rstep_bits x c
        refine ⟨_, ?_, Lib.hid (by rw [take_next' hlt, hashL_snoc, ← HX.out, ← HC.out])⟩
        rw [hck, hst]
      case measure => simp [intOf]; omega
    · obtain rfl : k = l.length := by omega
      rw [List.take_length] at HX
      go_wp2
      go_ret
      exact ⟨ret_int (by rw [HX.out]), rfl⟩
end Go.Proofs.YtlifdfkconklfaaDoor
