/-
  strings.Trim of noughts.
-/
import Derived.Test.YtlifdfkconklfaaDoorFRowN
namespace Go.Proofs.YtlifdfkconklfaaDoor
open Go Go.RowKit
set_option linter.unusedVariables false
set_option linter.unusedSimpArgs false

def tLen : Value → Nat
  | .string s => s.size
  | _ => 0
def trimL (l : List UInt8) : List UInt8 := l.dropWhile (· == 0)
def trimR (l : List UInt8) : List UInt8 := (l.reverse.dropWhile (· == 0)).reverse
theorem trimL_nil : trimL [] = [] := rfl
theorem trimL_zero (t : List UInt8) : trimL (0 :: t) = trimL t := rfl
theorem trimL_stop {c : UInt8} (t : List UInt8) (h : c ≠ 0) : trimL (c :: t) = c :: t := by
  have hb : (c == 0) = false := by simpa using h
  simp [trimL, List.dropWhile, hb]
theorem trimR_zero (t : List UInt8) : trimR (t ++ [0]) = trimR t := by simp [trimR]
theorem trimR_stop {c : UInt8} (t : List UInt8) (h : c ≠ 0) : trimR (t ++ [c]) = t ++ [c] := by simp [trimR, h]
theorem trimR_len (l : List UInt8) : (trimR l).length ≤ l.length := by
  rw [trimR, List.length_reverse]
  have := (List.dropWhile_sublist (fun x : UInt8 => x == 0) (l := l.reverse)).length_le
  simpa using this

set_option maxHeartbeats 1000000 in
theorem sTrimLeft (l : List UInt8) (hl : l.length ≤ 140737488351232) (w : World) :
    Calls Tryd.prog 40 #[.string (mkB l), .int .u8 0] w fun e w' => e = .returned (.string (mkB (trimL l))) ∧ w' = w := by
  have HL := Lib.hid hl
  clear hl
  go_enter Tryd.func40, Tryd.ntmps40
  go_wp2
  go_loopw [0] (fun s wr => ∃ r : List UInt8, s = .string (mkB r) ∧ Hid (trimL r = trimL l) ∧ Hid (r.length ≤ 140737488351232) ∧ wr = w) (fun s _ => tLen s)
  case atStart => exact ⟨l, rfl, Lib.hid rfl, HL, rfl⟩
  case round =>
    obtain ⟨r, rfl, H1, H2, rfl⟩ := hrel
    have hsz := mkB_size r
    cases r with
    | nil =>
      go_wp2
      go_ret
      exact ⟨by rw [← H1.out]; rfl, by trivial⟩
    | cons c t =>
      have h0 : 0 < (mkB (c :: t)).size := by rw [mkB_size]; simp
      have hc : (mkB (c :: t))[0]'h0 = c := rfl
      have hd : (mkB (c :: t)).extract 1 (t.length + 1) = mkB t := by have := mkB_drop (c :: t) 1; rw [mkB_size] at this; exact this
      cases cz : ((c.toNat : Int) == 0)
      · have hne : c ≠ 0 := by intro e; rw [e] at cz; simp at cz
        have HS : Hid (trimL l = c :: t) := Lib.hid (by rw [← H1.out, trimL_stop t hne])
        clear hne
        go_wp2
        go_ret
        exact ⟨by rw [HS.out]; rfl, by trivial⟩
      · have he : c = 0 := by
          have h1 : (c.toNat : Int) = 0 := by simpa using cz
          exact UInt8.toNat_inj.1 (by simpa using Int.ofNat_inj.1 h1)
        have HS : Hid (trimL t = trimL l) := Lib.hid (by rw [← H1.out, he, trimL_zero])
        have HT2 : Hid (t.length ≤ 140737488351232) := Lib.hid (by have := H2.out; simp at this; omega)
        clear he
        go_wp2
        go_roundw
        case rel => exact ⟨t, rfl, HS, HT2, by trivial⟩
        case measure => simp [tLen, mkB_size]

theorem snoc_cases (r : List UInt8) (h : r ≠ []) : ∃ t c, r = t ++ [c] := ⟨r.dropLast, r.getLast h, (List.dropLast_concat_getLast h).symm⟩

set_option maxHeartbeats 1000000 in
theorem sTrimRight (l : List UInt8) (hl : l.length ≤ 140737488351232) (w : World) :
    Calls Tryd.prog 41 #[.string (mkB l), .int .u8 0] w fun e w' => e = .returned (.string (mkB (trimR l))) ∧ w' = w := by
  have HL := Lib.hid hl
  clear hl
  go_enter Tryd.func41, Tryd.ntmps41
  go_wp2
  go_loopw [0] (fun s wr => ∃ r : List UInt8, s = .string (mkB r) ∧ Hid (trimR r = trimR l) ∧ Hid (r.length ≤ 140737488351232) ∧ wr = w) (fun s _ => tLen s)
  case atStart => exact ⟨l, rfl, Lib.hid rfl, HL, rfl⟩
  case round =>
    obtain ⟨r, rfl, H1, H2, rfl⟩ := hrel
    have hsz := mkB_size r
    by_cases hr : r = []
    · subst hr
      go_wp2
      go_ret
      exact ⟨by rw [← H1.out]; rfl, by trivial⟩
    · obtain ⟨t, c, htc⟩ := snoc_cases r hr
      have hlen : r.length = t.length + 1 := by rw [htc]; simp
      have hlast : t.length < (mkB r).size := by rw [mkB_size, hlen]; omega
      have hc : (mkB r)[t.length]'hlast = c := by
        show r.toArray[t.length]'_ = c
        simp [htc]
      have hx : (mkB r).extract 0 t.length = mkB t := by rw [mkB_take, htc]; simp
      have hs2 : (mkB r).size = t.length + 1 := by rw [mkB_size, hlen]
      have HTC := Lib.hid htc
      clear hr htc hsz hlen
      have ht64 : (t.length : Int) ≤ 140737488351232 := by have := H2.out; rw [HTC.out] at this; simp at this; omega
      cases cz : ((c.toNat : Int) == 0)
      · have hne : c ≠ 0 := by intro e; rw [e] at cz; simp at cz
        have HS : Hid (trimR l = r) := Lib.hid (by rw [← H1.out, HTC.out, trimR_stop t hne])
        clear hne
        go_wp2
        go_ret
        exact ⟨by rw [HS.out]; rfl, by trivial⟩
      · have he : c = 0 := by
          have h1 : (c.toNat : Int) = 0 := by simpa using cz
          exact UInt8.toNat_inj.1 (by simpa using Int.ofNat_inj.1 h1)
        have HS : Hid (trimR t = trimR l) := Lib.hid (by rw [← H1.out, HTC.out, he, trimR_zero])
        have HT2 : Hid (t.length ≤ 140737488351232) := Lib.hid (by omega)
        clear he
        go_wp2
        go_roundw
        case rel => exact ⟨t, rfl, HS, HT2, by trivial⟩
        case measure => simp [tLen, mkB_size, hs2]

theorem bytes_toList (l : List UInt8) : (mkB l).toList = l := by
  rw [ByteArray.toList_eq]; exact mkB_list l
set_option maxRecDepth 100000 in
set_option maxHeartbeats 1000000 in
theorem sTrim (l : List UInt8) (hl : l.length ≤ 140737488351232) (h0 : l ≠ []) (w : World) :
    Calls Tryd.prog 20 #[.string (mkB l), .string ⟨#[0]⟩] w fun e w' => e = .returned (.string (mkB (trimL (trimR l)))) ∧ Below w.heap.size w w' := by
  have he1 : (mkB l).toList.isEmpty = false := by rw [bytes_toList]; cases l <;> simp_all
  have he2 : ((mkB l).toList == []) = false := by rw [bytes_toList]; cases l <;> simp_all
  have hlr : (trimR l).length ≤ 140737488351232 := Nat.le_trans (trimR_len l) hl
  have HL := Lib.hid hl; have HLR := Lib.hid hlr
  clear hl hlr h0
  go_enter Tryd.func20, Tryd.ntmps20
  go_upto_region 4 with fail
  (refine wp_region_grown (by kernel_rfl) (by kernel_rfl) ?_; (repeat (go_big_quiet_step (first | (go_at_call 41; exact Calls.grown_same (sTrimRight l HL.out _)) | (go_at_call 40; exact Calls.grown_same (sTrimLeft (trimR l) HLR.out _))))); refine wpQuiet_nil ?_; intro _ hw'; obtain ⟨sG, hw''⟩ := hw'; subst hw'')
  go_wp2
  go_ret
  exact ⟨rfl, sG.below⟩

/-- Nothing is left just of noughts. -/
theorem dropWhile_nil : ∀ (l : List UInt8), l.dropWhile (· == 0) = [] ↔ ∀ c ∈ l, c = 0
  | [] => by simp
  | c :: t => by
    by_cases h : c = 0
    · subst h
      have := dropWhile_nil t
      simp only [List.dropWhile, beq_self_eq_true, List.mem_cons, forall_eq_or_imp, true_and]
      exact this
    · have hb : (c == 0) = false := by simpa using h
      simp [List.dropWhile, hb, h]
theorem trim_nil (l : List UInt8) : trimL (trimR l) = [] ↔ ∀ c ∈ l, c = 0 := by
  constructor
  · intro h c hc
    have h1 := (dropWhile_nil _).1 h
    by_cases e : (l.reverse.dropWhile (· == 0)) = []
    · exact (dropWhile_nil _).1 e c (by simpa using hc)
    · exfalso
      have h2 : (l.reverse.dropWhile (· == 0)).head e ≠ 0 := by
        have := List.head_dropWhile_not (p := fun x : UInt8 => x == 0) (l := l.reverse) e
        simpa using this
      exact h2 (h1 _ (by rw [trimR]; simp [List.mem_reverse]))
  · intro h
    have e : (l.reverse.dropWhile (· == 0)) = [] := (dropWhile_nil _).2 (fun c hc => h c (by simpa using hc))
    rw [trimR, e]; rfl
end Go.Proofs.YtlifdfkconklfaaDoor
