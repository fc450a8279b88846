/-
  Names: the program's Read.
-/
import Derived.Test.YtlifdfkconklfaaDoorFNmJ
namespace Go.Proofs.YtlifdfkconklfaaDoor
open Go Go.RowKit
set_option linter.unusedVariables false
set_option linter.unusedSimpArgs false

theorem wordAt_take (r : List UInt8) (k : Nat) (h : k + 4 ≤ 16) : wordAt (r.take 16) k = wordAt r k := by
  unfold wordAt
  rw [List.drop_take, List.take_take, Nat.min_eq_left (by omega)]
theorem byteAt_take (r : List UInt8) (k : Nat) (h : k < 16) : byteAt (r.take 16) k = byteAt r k := by
  unfold byteAt
  rw [List.getD_eq_getElem?_getD, List.getD_eq_getElem?_getD, List.getElem?_take, if_pos h]
theorem byteAt_is (r : List UInt8) (k : Nat) (h : k < r.length) (h' : k < (mkB r).size) : ((mkB r)[k]'h').toNat = byteAt r k := by
  unfold byteAt
  rw [List.getD_eq_getElem?_getD, List.getElem?_eq_getElem h]; rfl
theorem chunk_is (strs r : List UInt8) : chunkSym strs (r.take 16) = ⟨txtV strs (wordAt r 0), wordAt r 4, wordAt r 8, (byteAt r 12 / 16 : Nat), (byteAt r 15 : Nat)⟩ := by
  unfold chunkSym
  rw [wordAt_take _ _ (by omega), wordAt_take _ _ (by omega), wordAt_take _ _ (by omega), byteAt_take _ _ (by omega), byteAt_take _ _ (by omega)]
theorem and15 (n : Nat) (h : n ≤ 140737488351232) : bits BinOp.and IntKind.i64 (n : Int) 15 = ((n % 16 : Nat) : Int) := by
  have h1 : bits BinOp.and IntKind.i64 (n : Int) 15 = ((n &&& 15 : Nat) : Int) := i64_and_nat n 15 (by omega) (by omega)
  rw [h1, show (15 : Nat) = 2 ^ 4 - 1 from rfl, Nat.and_two_pow_sub_one_eq_mod]
def strLen : Value → Nat
  | .string s => s.size
  | _ => 0
set_option maxHeartbeats 4000000 in
set_option maxRecDepth 100000 in
theorem read_bad (syms strs hash : List UInt8) (hl : syms.length ≤ 1000000) (hr : readOk syms = false) (w : World) :
    Calls Tryd.prog 9 #[.agg (tabV syms strs hash)] w (ReadPost (readF syms strs) w) := by
  have hsz := mkB_size syms
  have hF : Hid (readF syms strs = none) := Lib.hid (by rw [readF, hr]; rfl)
  have hli : (syms.length : Int) ≤ 1000000 := by omega
  have h15 := and15 syms.length (by omega)
  unfold tabV
  have fin : ∀ w', Below w.heap.size w w' → ReadPost (readF syms strs) w (.returned (.tuple #[.slice none 0 0, .int .i64 103])) w' := fun w' hb => ⟨_, by rw [hF.out]; rfl, .inl ⟨rfl, by rw [hF.out]; rfl⟩, hb⟩
  have FIN := Lib.hid fin
  clear fin
  by_cases c1 : syms.length % 16 = 0
  · rw [c1] at h15
    obtain ⟨n, hn⟩ : ∃ n : Nat, (syms.length : Int) / 16 = n := ⟨syms.length / 16, by omega⟩
    by_cases c2 : 1 ≤ syms.length / 16
    · have c2i : (1 : Int) ≤ n := by omega
      by_cases c3 : syms.length / 16 ≤ 201
      · have c3i : (n : Int) ≤ 201 := by omega
        have hx : (mkB syms).extract 0 16 = mkB (syms.take 16) := mkB_take syms 16
        have hL : Hid ((syms.take 16).length ≤ 140737488351232 ∧ syms.take 16 ≠ []) := Lib.hid ⟨by rw [List.length_take]; omega, fun e => by have h0 := congrArg List.length e; rw [List.length_take, List.length_nil] at h0; omega⟩
        have h16 : (16 : Int) ≤ (syms.length : Int) := by omega
        have hne : Hid (trimL (trimR (syms.take 16)) ≠ []) := Lib.hid (fun e => by
          have h0 := (trim_nil (syms.take 16)).1 e
          rw [readOk, decide_eq_true c1, decide_eq_true c2, decide_eq_true c3] at hr
          have : (syms.take 16).all (· == 0) = true := by rw [List.all_eq_true]; intro c hc; simp [h0 c hc]
          rw [this] at hr
          simp at hr)
        obtain ⟨T, hT⟩ : ∃ T, T = trimL (trimR (syms.take 16)) := ⟨_, rfl⟩
        have HT := Lib.hid hT
        rw [← hT] at hne
        have e1 : (mkB T).toList.isEmpty = false := by
          have h := hne.out
          rw [bytes_toList]
          cases T with
          | nil => exact absurd rfl h
          | cons a b => rfl
        have e2 : ((mkB T).toList == []) = false := by
          have h := hne.out
          rw [bytes_toList]
          cases T with
          | nil => exact absurd rfl h
          | cons a b => rfl
        clear c1 c2 c3 hT hr hl hne
        go_enter Tryd.func9, Tryd.ntmps9
        go_wp2_with (go_at_call 20; refine (sTrim (syms.take 16) hL.out.1 hL.out.2 _).mono ?_; rintro e w1 ⟨rfl, hb⟩; rw [← HT.out]; have HB := Lib.hid hb; clear hb)
        go_ret2
        exact FIN.out _ (((Below.refl _ _).alloc (Nat.le_refl _) _).trans (HB.out.mono (by simp only [heap_len]; omega)))
      · have c3i : (201 : Int) < n := by omega
        clear c1 c2 c3 hr hl
        go_enter Tryd.func9, Tryd.ntmps9
        go_wp2
        go_ret2
        exact FIN.out _ ((Below.refl _ _).alloc (Nat.le_refl _) _)
    · have c2i : (n : Int) < 1 := by omega
      clear c1 c2 hr hl
      go_enter Tryd.func9, Tryd.ntmps9
      go_wp2
      go_ret2
      exact FIN.out _ ((Below.refl _ _).alloc (Nat.le_refl _) _)
  · obtain ⟨m, hm⟩ : ∃ m, m = syms.length % 16 := ⟨_, rfl⟩
    rw [← hm] at h15
    have h15' : ((m : Int) != 0) = true := by rw [bne_iff_ne]; omega
    clear c1 hm hr hl
    go_enter Tryd.func9, Tryd.ntmps9
    go_wp2
    go_ret2
    exact FIN.out _ ((Below.refl _ _).alloc (Nat.le_refl _) _)
end Go.Proofs.YtlifdfkconklfaaDoor
