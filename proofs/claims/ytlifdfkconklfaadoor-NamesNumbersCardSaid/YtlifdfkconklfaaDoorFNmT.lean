/-
  Names: what was written is read (plain).
-/
import Derived.Test.YtlifdfkconklfaaDoorFNmS
namespace Go.Proofs.YtlifdfkconklfaaDoor
open Go Go.RowKit
set_option linter.unusedVariables false
set_option linter.unusedSimpArgs false

theorem symB_word0 (s : SymD) (n : Nat) (hn : n < 4294967296) : wordAt (symB s n) 0 = n := by
  rw [wordAt, symB, List.drop_zero, List.take_append_of_le_length (by rw [be4_len]; omega), List.take_of_length_le (by rw [be4_len]; omega), beN_be4 n hn]
theorem drop_be4 (n k : Nat) (l : List UInt8) : (be4 n ++ l).drop (4 + k) = l.drop k := by
  rw [List.drop_append, be4_len, List.drop_of_length_le (by rw [be4_len]; omega), List.nil_append, Nat.add_sub_cancel_left]
theorem symB_word4 (s : SymD) (n : Nat) (h : s.value < 4294967296) : wordAt (symB s n) 4 = s.value := by
  rw [wordAt, symB, show 4 = 4 + 0 from rfl, drop_be4, List.drop_zero, List.take_append_of_le_length (by rw [be4_len]; omega), List.take_of_length_le (by rw [be4_len]; omega), beN_be4 _ h]
theorem symB_word8 (s : SymD) (n : Nat) (h : s.size < 4294967296) : wordAt (symB s n) 8 = s.size := by
  rw [wordAt, symB, show 8 = 4 + (4 + 0) from rfl, drop_be4, drop_be4, List.drop_zero, List.take_append_of_le_length (by rw [be4_len]; omega), List.take_of_length_le (by rw [be4_len]; omega), beN_be4 _ h]
theorem be4_is (n : Nat) : be4 n = [UInt8.ofNat (n / 16777216 % 256), UInt8.ofNat (n / 65536 % 256), UInt8.ofNat (n / 256 % 256), UInt8.ofNat (n % 256)] := by
  rw [be4_rev]
  simp only [leL, List.reverse_cons, List.reverse_nil, List.nil_append, List.singleton_append, List.cons_append, Nat.div_div_eq_div_mul]
theorem byteAt_drop (l : List UInt8) (j k : Nat) : byteAt (l.drop j) k = byteAt l (j + k) := by
  unfold byteAt
  rw [List.getD_eq_getElem?_getD, List.getD_eq_getElem?_getD, List.getElem?_drop]
theorem symB_tail (s : SymD) (n : Nat) : (symB s n).drop 12 = be4 (s.bind.toNat * 268435456 + s.part.toNat) := by
  rw [symB, show 12 = 4 + (4 + (4 + 0)) from rfl, drop_be4, drop_be4, drop_be4, List.drop_zero]
theorem symB_b12 (s : SymD) (n : Nat) (b0 : 0 ≤ s.bind) (b2 : s.bind ≤ 2) (p0 : 0 ≤ s.part) (p2 : s.part ≤ 2) : ((byteAt (symB s n) 12 / 16 : Nat) : Int) = s.bind := by
  rw [show 12 = 12 + 0 from rfl, ← byteAt_drop, symB_tail, be4_is]
  have : (UInt8.ofNat ((s.bind.toNat * 268435456 + s.part.toNat) / 16777216 % 256)).toNat = s.bind.toNat * 16 := by
    simp; omega
  show (((UInt8.ofNat ((s.bind.toNat * 268435456 + s.part.toNat) / 16777216 % 256)).toNat / 16 : Nat) : Int) = s.bind
  rw [this]; omega
theorem symB_b15 (s : SymD) (n : Nat) (b0 : 0 ≤ s.bind) (b2 : s.bind ≤ 2) (p0 : 0 ≤ s.part) (p2 : s.part ≤ 2) : ((byteAt (symB s n) 15 : Nat) : Int) = s.part := by
  rw [show 15 = 12 + 3 from rfl, ← byteAt_drop, symB_tail, be4_is]
  show ((UInt8.ofNat ((s.bind.toNat * 268435456 + s.part.toNat) % 256)).toNat : Int) = s.part
  have : (UInt8.ofNat ((s.bind.toNat * 268435456 + s.part.toNat) % 256)).toNat = s.part.toNat := by
    simp; omega
  rw [this]; omega
theorem upto0_name (a b : List UInt8) (h : a.contains 0 = false) : upto0 (a ++ 0 :: b) = a := by
  have h1 : ∀ x ∈ a, (x != 0) = true := by
    intro x hx
    rw [bne_iff_ne]
    intro e0
    rw [e0] at hx
    rw [List.contains_eq_mem, decide_eq_false_iff_not] at h
    exact h hx
  unfold upto0
  rw [List.takeWhile_append_of_pos h1, List.takeWhile_cons, if_neg (by simp), List.append_nil]
/-- A symbol's bytes, its name standing in the strings at its place, are read. -/
theorem chunk_write (s : SymD) (hs : s.Ok) (hf : fitS s = true) (A B : List UInt8) (hA : A.length < 4294967296) :
    chunkSym (A ++ (s.name ++ 0 :: B)) (symB s A.length) = s ∧ chunkOk (A ++ (s.name ++ 0 :: B)) (symB s A.length) = true := by
  obtain ⟨f1, f2, f3, b0, b2, p0, p2⟩ := fitS_is hf
  have hd : (A ++ (s.name ++ 0 :: B)).drop A.length = s.name ++ 0 :: B := by simp
  have hz : hasZ (s.name ++ 0 :: B) = true := by unfold hasZ; rw [List.contains_eq_mem]; simp
  have hok : txtOk (A ++ (s.name ++ 0 :: B)) A.length = true := by
    rw [txtOk, hd, hz, decide_eq_true (by simp only [List.length_append, List.length_cons]; omega)]; rfl
  have hv : txtV (A ++ (s.name ++ 0 :: B)) A.length = s.name := by
    rw [txtV, hok, if_pos rfl, hd, upto0_name _ _ f3]
  have hc : chunkSym (A ++ (s.name ++ 0 :: B)) (symB s A.length) = s := by
    unfold chunkSym
    rw [symB_word0 s _ hA, symB_word4 s _ hs.value, symB_word8 s _ hs.size, symB_b12 s _ b0 b2 p0 p2, symB_b15 s _ b0 b2 p0 p2, hv]
  refine ⟨hc, ?_⟩
  rw [chunkOk, chunkFit, hc, symB_word0 s _ hA, hok, hf, decide_eq_true rfl]; rfl
/-- The strings behind these, and the symbols' bytes. -/
def strsW : List UInt8 → List SymD → List UInt8
  | A, [] => A
  | A, s :: l => strsW (A ++ (s.name ++ [0])) l
def symsW : List UInt8 → List SymD → List UInt8
  | _, [] => []
  | A, s :: l => symB s A.length ++ symsW (A ++ (s.name ++ [0])) l
theorem strsW_ext : ∀ (A : List UInt8) (l : List SymD), ∃ B, strsW A l = A ++ B
  | A, [] => ⟨[], by simp [strsW]⟩
  | A, s :: l => by
    obtain ⟨B, hB⟩ := strsW_ext (A ++ (s.name ++ [0])) l
    exact ⟨s.name ++ [0] ++ B, by rw [strsW, hB]; simp⟩
theorem symsW_len : ∀ (A : List UInt8) (l : List SymD), (symsW A l).length = 16 * l.length
  | A, [] => rfl
  | A, s :: l => by rw [symsW, List.length_append, symB_len, symsW_len]; simp; omega
theorem readG_write : ∀ (A : List UInt8) (l : List SymD), AllOk l → l.all fitS = true → (strsW A l).length < 4294967296 → readG (strsW A l) l.length (symsW A l) = some l
  | A, [], _, _, _ => rfl
  | A, s :: l, hok, hf, hlen => by
    rw [List.all_cons, Bool.and_eq_true] at hf
    obtain ⟨B, hB⟩ := strsW_ext (A ++ (s.name ++ [0])) l
    have hst : strsW A (s :: l) = A ++ (s.name ++ 0 :: B) := by rw [strsW, hB]; simp
    have hA : A.length < 4294967296 := by rw [hst, List.length_append] at hlen; omega
    obtain ⟨h1, h2⟩ := chunk_write s (hok s (List.mem_cons_self ..)) hf.1 A B hA
    have ht : (symsW A (s :: l)).take 16 = symB s A.length := by rw [symsW, List.take_append_of_le_length (by rw [symB_len]; omega), List.take_of_length_le (by rw [symB_len]; omega)]
    have hd : (symsW A (s :: l)).drop 16 = symsW (A ++ (s.name ++ [0])) l := by rw [symsW, List.drop_append, symB_len, List.drop_of_length_le (by rw [symB_len]; omega), List.nil_append, Nat.sub_self, List.drop_zero]
    have ih := readG_write (A ++ (s.name ++ [0])) l (fun x hx => hok x (List.mem_cons_of_mem _ hx)) hf.2 (by rw [strsW] at hlen; exact hlen)
    rw [List.length_cons, readG, ht, hd, hst, h2, if_pos rfl, h1]
    rw [← hst, strsW, ih]; rfl
theorem readF_write (l : List SymD) (hok : AllOk l) (hf : l.all fitS = true) (hl : l.length ≤ 200) (hlen : (strsW [0] l).length < 4294967296) : readF (zer16 ++ symsW [0] l) (strsW [0] l) = some l := by
  have hz : zer16.length = 16 := rfl
  have h1 : (zer16 ++ symsW [0] l).length = 16 * (l.length + 1) := by rw [List.length_append, symsW_len, hz]; omega
  have hro : readOk (zer16 ++ symsW [0] l) = true := by
    rw [readOk, h1, List.take_append_of_le_length (by decide), decide_eq_true (show 16 * (l.length + 1) % 16 = 0 by omega), decide_eq_true (show 1 ≤ 16 * (l.length + 1) / 16 by omega), decide_eq_true (show 16 * (l.length + 1) / 16 ≤ 201 by omega)]; rfl
  rw [readF, hro, if_pos rfl, h1, show 16 * (l.length + 1) / 16 - 1 = l.length by omega, List.drop_append, hz, Nat.sub_self, List.drop_zero, List.drop_of_length_le (by decide), List.nil_append]
  exact readG_write [0] l hok hf hlen
end Go.Proofs.YtlifdfkconklfaaDoor
