/-
  Rows of nodes; a path's directory and name; where a node is.
-/
import Derived.Test.YtlpgandflkabcaaGreatDoorFTrE
import Derived.Test.YtlpgandflkabcaaGreatDoorFTrO
import Derived.Deep.MidRow
import Derived.Laws.Cover1
namespace Go.Proofs.YtlpgandflkabcaaGreatDoor
open Go Go.RowKit Go.Shelf
set_option linter.unusedVariables false
set_option linter.unusedSimpArgs false

abbrev nodeV (x : NodeD) : Array Value := #[.string (mkB x.path), .bool x.dir, .string (mkB x.data), .int .i64 x.id]
structure RowN (w : World) (b off : Nat) (l : List NodeD) : Prop where
  lt : b < w.heap.size
  c0 : ∀ i (h : i < l.length), w.cell? ⟨b, off + i * 4, none⟩ = some (.string (mkB l[i].path))
  c1 : ∀ i (h : i < l.length), w.cell? ⟨b, off + i * 4 + 1, none⟩ = some (.bool l[i].dir)
  c2 : ∀ i (h : i < l.length), w.cell? ⟨b, off + i * 4 + 2, none⟩ = some (.string (mkB l[i].data))
  c3 : ∀ i (h : i < l.length), w.cell? ⟨b, off + i * 4 + 3, none⟩ = some (.int .i64 l[i].id)
theorem RowN.below {w w' : World} {b off : Nat} {l : List NodeD} (h : RowN w b off l) (hb : Below w.heap.size w w') : RowN w' b off l :=
  ⟨Nat.lt_of_lt_of_le h.lt hb.size, fun i hi => (hb.cell (p := ⟨b, off + i * 4, none⟩) h.lt).trans (h.c0 i hi), fun i hi => (hb.cell (p := ⟨b, off + i * 4 + 1, none⟩) h.lt).trans (h.c1 i hi), fun i hi => (hb.cell (p := ⟨b, off + i * 4 + 2, none⟩) h.lt).trans (h.c2 i hi), fun i hi => (hb.cell (p := ⟨b, off + i * 4 + 3, none⟩) h.lt).trans (h.c3 i hi)⟩
theorem RowN.range {w : World} {b off : Nat} {l : List NodeD} (h : RowN w b off l) (i : Nat) (hi : i < l.length) : w.rangeAt b (off + i * 4) (nodeV l[i]).toList := by
  intro j v hv
  match j, hv with
  | 0, hv => cases hv; exact h.c0 i hi
  | 1, hv => cases hv; exact h.c1 i hi
  | 2, hv => cases hv; exact h.c2 i hi
  | 3, hv => cases hv; exact h.c3 i hi
  | j + 4, hv => simp at hv
def NodesV (w : World) (v : Value) (l : List NodeD) : Prop := ∃ p c, v = .slice p l.length c ∧ (l ≠ [] → ∃ b off, p = some ⟨b, off, none⟩ ∧ RowN w b off l)
theorem NodesV.below {w w' : World} {v : Value} {l : List NodeD} (h : NodesV w v l) (hb : Below w.heap.size w w') : NodesV w' v l := by
  obtain ⟨p, c, rfl, h⟩ := h
  refine ⟨p, c, rfl, fun hn => ?_⟩
  obtain ⟨b, off, hp, h1⟩ := h hn
  exact ⟨b, off, hp, h1.below hb⟩
theorem nonil {α : Type} {l : List α} {k : Nat} (h : k < l.length) : l ≠ [] := fun e => by simp [e] at h

/-! ### Comparing -/
theorem bytes_less : ∀ (x y : List UInt8), Op.bytesLess x y = decide (x < y)
  | [], [] => rfl
  | _ :: _, [] => by rw [decide_eq_false (by simp)]; rfl
  | [], _ :: _ => by rw [decide_eq_true (by simp)]; rfl
  | a :: x, b :: y => by
    rw [Op.bytesLess, bytes_less x y, Bool.eq_iff_iff]
    simp only [Bool.or_eq_true, Bool.and_eq_true, decide_eq_true_eq, beq_iff_eq, List.cons_lt_cons_iff]
theorem less_any (a b : List UInt8) : Op.bytesLess (mkB a).toList (mkB b).toList = decide (a < b) := by rw [bytes_less, mkB_toList, mkB_toList]
theorem isNaN_any (a : ByteArray) (w : World) : Calls Tryz.prog 86 #[.string a] w fun e w' => e = .returned (.bool false) ∧ w' = w := by
  go_enter Tryz.func86, Tryz.ntmps86
  go_wp2
  go_ret
  exact ⟨by simp, rfl⟩
theorem compare_any (a b : List UInt8) (w : World) : Calls Tryz.prog 68 #[.string (mkB a), .string (mkB b)] w fun e w' => e = .returned (.int .i64 (cmpS a b)) ∧ w' = w := by
  have hl := less_any a b
  have hab : ((mkB a).toList == (mkB b).toList) = (a == b) := by rw [mkB_toList, mkB_toList]
  by_cases h1 : a < b
  · have HR : Hid (cmpS a b = -1) := Lib.hid (by rw [cmpS, if_pos h1])
    rw [decide_eq_true h1] at hl
    clear h1 hab
    go_enter Tryz.func68, Tryz.ntmps68
    go_wp2_with (go_at_call 86; refine (isNaN_any _ _).mono ?_; rintro e w' ⟨rfl, rfl⟩)
    go_ret
    exact ⟨by rw [HR.out]; rfl, rfl⟩
  · rw [decide_eq_false h1] at hl
    by_cases h2 : a = b
    · have HR : Hid (cmpS a b = 0) := Lib.hid (by subst h2; rw [cmpS, if_neg h1, if_neg h1])
      rw [beq_iff_eq.2 h2] at hab
      clear h1 h2
      go_enter Tryz.func68, Tryz.ntmps68
      go_wp2_with (go_at_call 86; refine (isNaN_any _ _).mono ?_; rintro e w' ⟨rfl, rfl⟩)
      go_ret
      exact ⟨by rw [HR.out]; rfl, rfl⟩
    · have HR : Hid (cmpS a b = 1) := Lib.hid (by
        rw [cmpS, if_neg h1, if_pos]
        rcases ltS_tri a b with h | h | h
        · exact absurd h h1
        · exact absurd h h2
        · exact h)
      rw [beq_eq_false_iff_ne.2 h2] at hab
      clear h1 h2
      go_enter Tryz.func68, Tryz.ntmps68
      go_wp2_with (go_at_call 86; refine (isNaN_any _ _).mono ?_; rintro e w' ⟨rfl, rfl⟩)
      go_ret
      exact ⟨by rw [HR.out]; rfl, rfl⟩
theorem order_any (x : NodeD) (p : List UInt8) (w : World) : Calls Tryz.prog 57 #[.agg (nodeV x), .string (mkB p)] w fun e w' => e = .returned (.int .i64 (cmpS x.path p)) ∧ Below w.heap.size w w' := by
  go_enter Tryz.func57, Tryz.ntmps57
  go_wp2_with (go_at_call 68; refine (compare_any x.path p _).mono ?_; rintro e w' ⟨rfl, rfl⟩)
  go_ret
  exact ⟨rfl, (Below.refl _ _).alloc (Nat.le_refl _) _⟩

/-! ### A path's directory, its name there -/
def dirP (p : List UInt8) : List UInt8 := rootL (partsB p).dropLast
def nameP (p : List UInt8) : List UInt8 := (partsB p).getLastD []
structure SplitAt (p : List UInt8) (k m : Nat) : Prop where
  last : Lib.lastIndexByte (mkB p) 47 = k
  max : m = max k 1
  le : m ≤ p.length
  lt : k < p.length
  dir : p.take m = dirP p
  name : p.drop (k + 1) = nameP p
theorem split_path {p : List UInt8} (h : pathB p = true) : ∃ k m, SplitAt p k m := by
  obtain ⟨L, hL, rfl, hlen⟩ := path_parts h
  have hp : partsB (rootL L) = L := parts_rootL hL
  by_cases h0 : L = []
  · subst h0
    refine ⟨0, 1, last_at (a := []) (n := []) (c := 47) (by simp), rfl, Nat.le_refl _, by decide, ?_, ?_⟩
    · rfl
    · rfl
  · obtain ⟨M, n, rfl⟩ : ∃ M n, L = M ++ [n] := ⟨L.dropLast, L.getLast h0, (List.dropLast_concat_getLast h0).symm⟩
    have hn := hL n (by simp)
    have e : rootL (M ++ [n]) = joinL M ++ 47 :: n := rootL_snoc M n
    have hd : dirP (rootL (M ++ [n])) = rootL M := by rw [dirP, hp, List.dropLast_concat]
    have hnm : nameP (rootL (M ++ [n])) = n := by rw [nameP, hp]; simp
    refine ⟨(joinL M).length, max (joinL M).length 1, ?_, rfl, ?_, ?_, ?_, ?_⟩
    · rw [e]; exact last_at hn.slash
    · rw [e]; simp only [List.length_append, List.length_cons]
      exact Nat.max_le.2 ⟨by omega, by omega⟩
    · rw [e]; simp
    · rw [hd, e]
      by_cases hM : M = []
      · subst hM; rfl
      · have hj : 1 ≤ (joinL M).length := by
          match M, hM with
          | q :: M, _ => rw [joinL_cons]; simp
        rw [show max (joinL M).length 1 = (joinL M).length from Nat.max_eq_left hj, List.take_left, rootL_of hM]
    · rw [hnm, e, List.drop_append, List.drop_of_length_le (by omega)]
      simp
set_option maxHeartbeats 2000000 in
theorem splitp_any (p : List UInt8) (hp : pathB p = true) (w : World) (hl : p.length ≤ 1000000) :
    Calls Tryz.prog 51 #[.string (mkB p)] w fun e w' => e = .returned (.tuple #[.string (mkB (dirP p)), .string (mkB (nameP p))]) ∧ Below w.heap.size w w' := by
  obtain ⟨k, m, S⟩ := split_path hp
  have hz := mkB_size p
  have hx1 : (mkB p).extract 0 m = mkB (dirP p) := by rw [mkB_take, S.dir]
  have hx2 : (mkB p).extract (k + 1) p.length = mkB (nameP p) := by have := mkB_drop p (k + 1); rw [hz] at this; rw [this, S.name]
  have hmx : max (k : Int) 1 = (m : Int) := by rw [S.max]; omega
  have HLI : Hid (Calls Tryz.prog 75 #[.string (mkB p), .int .u8 47] w fun e w' => e = .returned (.int .i64 (k : Nat)) ∧ w' = w) := Lib.hid ((Tryz.strings_LastIndexByte (mkB p) 47 (by rw [hz]; omega) w).mono fun e w' h => ⟨by rw [h.1, S.last], h.2⟩)
  have i1 : (m : Int) ≤ p.length := by have := S.le; omega
  have i2 : (k : Int) < p.length := by have := S.lt; omega
  have i3 : (p.length : Int) ≤ 1000000 := by omega
  clear S hp hl
  go_enter Tryz.func51, Tryz.ntmps51
  go_upto_region 2 with (go_at_call 75; refine HLI.out.mono ?_; rintro e w' ⟨rfl, rfl⟩)
  (refine wp_region_grown (by kernel_rfl) (by kernel_rfl) ?_; (repeat (go_big_quiet_step (fail))); refine wpQuiet_nil ?_; intro _ hw'; obtain ⟨sG, hw''⟩ := hw'; subst hw'')
  go_wp2
  go_ret2
  exact ⟨rfl, sG.below⟩
set_option maxHeartbeats 2000000 in
theorem bsN_any (l : List NodeD) (hr : RiseS l) (hlen : l.length ≤ 1000000) (x : List UInt8) (v : Value) (w : World) (h : NodesV w v l)
    (hc : ∀ (p : NodeD) (W : World), Below w.heap.size w W → Calls Tryz.prog 57 #[.agg (nodeV p), .string (mkB x)] W fun e w' => e = .returned (.int .i64 (cmpS p.path x)) ∧ Below W.heap.size W w') :
    Calls Tryz.prog 56 #[v, .string (mkB x), .func (.func 57) #[] #[]] w fun e w' => e = .returned (.tuple #[.int .i64 (lowS l x : Nat), .bool (hasS l x)]) ∧ Below w.heap.size w w' := by
  obtain ⟨p, c, rfl, h⟩ := h
  have H := Lib.hid h; have HC := Lib.hid hc; have HR := Lib.hid hr
  have hli : (l.length : Int) ≤ 1000000 := by omega
  clear h hc hr hlen
  go_enter Tryz.func56, Tryz.ntmps56
  go_wp2
  go_loopw [9, 10] (fun iv jv wr => ∃ i j : Nat, i ≤ j ∧ j ≤ l.length ∧ iv = .int .i64 i ∧ jv = .int .i64 j ∧ Hid (Below w.heap.size w wr) ∧ Hid (∀ k (h : k < l.length), k < i → l[k].path < x) ∧ Hid (∀ k (h : k < l.length), j ≤ k → ¬ l[k].path < x)) (fun iv jv _ => (intOf jv).toNat - (intOf iv).toNat)
  case atStart => exact ⟨0, l.length, Nat.zero_le _, Nat.le_refl _, rfl, rfl, Lib.hid (Below.refl _ _), Lib.hid (fun k _ h => absurd h (Nat.not_lt_zero _)), Lib.hid (fun k h1 h2 => absurd h1 (by omega))⟩
  case round =>
    obtain ⟨i, j, hij, hjl, rfl, rfl, HB, HI, HJ⟩ := hrel
    by_cases hlt : i < j
    · obtain ⟨m, hm⟩ : ∃ m : Nat, m = (i + j) / 2 := ⟨_, rfl⟩
      obtain ⟨s, hs⟩ : ∃ s : Nat, s = i + j := ⟨_, rfl⟩
      have hml : m < l.length := by omega
      have him : i ≤ m := by omega
      have hmj : m < j := by omega
      have f1 : (i : Int) + (j : Int) = (s : Int) := by omega
      have f2 : (s : Int) / 2 = (m : Int) := by omega
      have f3 : (s : Int) ≤ 2000000 := by omega
      have f4 : (m : Int) < (l.length : Int) := by omega
      obtain ⟨b, off, rfl, hrw⟩ := H.out (nonil hml)
      have c0 := (hrw.below HB.out).c0 m hml
      have c1 := (hrw.below HB.out).c1 m hml
      have c2 := (hrw.below HB.out).c2 m hml
      have c3 := (hrw.below HB.out).c3 m hml
      have HCM := Lib.hid (HC.out l[m] wr HB.out)
      clear hrw hm hs
      by_cases hcm : l[m].path < x
      · have b1 : decide (cmpS l[m].path x < 0) = true := by rw [cmpS_lt]; exact decide_eq_true hcm
        have HCX := Lib.hid hcm
        clear hcm
        go_wp2_with (go_at_call 57; (with_reducible refine HCM.out.mono ?_); rintro e w2 ⟨rfl, hb2⟩; have HB2 : Hid (Below w.heap.size w w2) := Lib.hid (HB.out.trans (hb2.mono HB.out.size)); clear hb2)
        go_roundw
        case rel => exact ⟨m + 1, j, by omega, hjl, by go_num, rfl, HB2, Lib.hid (fun k h hk => by
          rcases Nat.lt_or_eq_of_le (Nat.le_of_lt_succ hk) with h1 | rfl
          · exact ltS_trans (HR.out.at hml h1) HCX.out
          · exact HCX.out), HJ⟩
        case measure => simp [intOf]; omega
      · have b1 : decide (cmpS l[m].path x < 0) = false := by rw [cmpS_lt]; exact decide_eq_false hcm
        have HCX := Lib.hid hcm
        clear hcm
        go_wp2_with (go_at_call 57; (with_reducible refine HCM.out.mono ?_); rintro e w2 ⟨rfl, hb2⟩; have HB2 : Hid (Below w.heap.size w w2) := Lib.hid (HB.out.trans (hb2.mono HB.out.size)); clear hb2)
        go_roundw
        case rel => exact ⟨i, m, him, by omega, rfl, rfl, HB2, HI, Lib.hid (fun k h hk => by
          have h0 := HCX.out
          rcases Nat.lt_or_eq_of_le hk with h1 | rfl
          · exact fun h2 => h0 (ltS_trans (HR.out.at h h1) h2)
          · exact h0)⟩
        case measure => simp [intOf]; omega
    · obtain rfl : i = j := by omega
      have hlow : Hid (lowS l x = i) := Lib.hid (lowS_of hjl HI.out HJ.out)
      by_cases hil : i < l.length
      · obtain ⟨b, off, rfl, hrw⟩ := H.out (nonil hil)
        have c0 := (hrw.below HB.out).c0 i hil
        have c1 := (hrw.below HB.out).c1 i hil
        have c2 := (hrw.below HB.out).c2 i hil
        have c3 := (hrw.below HB.out).c3 i hil
        have HCM := Lib.hid (HC.out l[i] wr HB.out)
        have b1 : ((cmpS l[i].path x == 0) : Bool) = hasS l x := by
          rw [cmpS_eq, Bool.eq_iff_iff, hasS_at HR.out, beq_iff_eq]
          constructor
          · intro h; exact ⟨by rw [hlow.out]; exact hil, by simp only [hlow.out]; exact h⟩
          · rintro ⟨h1, h2⟩; simp only [hlow.out] at h2; exact h2
        have f4 : (i : Int) < (l.length : Int) := by omega
        clear hrw
        go_wp2_with (go_at_call 57; (with_reducible refine HCM.out.mono ?_); rintro e w2 ⟨rfl, hb2⟩; have HB2 : Hid (Below w.heap.size w w2) := Lib.hid (HB.out.trans (hb2.mono HB.out.size)); clear hb2)
        go_ret2
        exact ⟨by rw [hlow.out]; rfl, HB2.out⟩
      · have hb : Hid (hasS l x = false) := Lib.hid (by
          rw [Bool.eq_false_iff]
          intro h
          obtain ⟨h1, _⟩ := (hasS_at HR.out).1 h
          rw [hlow.out] at h1
          exact hil h1)
        have f4 : ¬ (i : Int) < (l.length : Int) := by omega
        go_wp2
        go_ret2
        exact ⟨by rw [hlow.out, hb.out]; rfl, HB.out⟩
end Go.Proofs.YtlpgandflkabcaaGreatDoor
