/-
  Names: the document's Same.
-/
import Derived.Test.YtlifdfkconklfaaDoorFNmO
namespace Go.Proofs.YtlifdfkconklfaaDoor
open Go Go.RowKit
set_option linter.unusedVariables false
set_option linter.unusedSimpArgs false

set_option maxHeartbeats 2000000 in
set_option maxRecDepth 100000 in
theorem same_main (l m : List SymD) (hok : AllOk l) (hok2 : AllOk m) (hlen : l.length ≤ 1000000) (he : l.length = m.length) (b off cap b2 off2 cap2 : Nat) (w : World) (h : SymsAt w b off l) (h2 : SymsAt w b2 off2 m) :
    Calls Tryd.prog 13 #[.slice (some ⟨b, off, none⟩) l.length cap, .slice (some ⟨b2, off2, none⟩) l.length cap2] w fun e w' => e = .returned (.bool (decide (l = m))) ∧ Below w.heap.size w w' := by
  have H := Lib.hid h; have H2 := Lib.hid h2; have OK := Lib.hid hok; have OK2 := Lib.hid hok2; have HE := Lib.hid he
  have hgt : Tryd.prog.eqGuardType Tryd.prog.depth 39 = false := by kernel_rfl
  clear h h2 hok hok2 he
  go_enter Tryd.func13, Tryd.ntmps13
  go_wp2
  go_loopw [5] (fun i wr => ∃ k : Nat, k ≤ l.length ∧ i = .int .i64 k ∧ Hid (Below w.heap.size w wr) ∧ Hid (l.take k = m.take k)) (fun i _ => l.length - (intOf i).toNat)
  case atStart => exact ⟨0, Nat.zero_le _, rfl, Lib.hid (Below.refl _ _), Lib.hid rfl⟩
  case round =>
    obtain ⟨k, hk, rfl, HB, HA⟩ := hrel
    by_cases hlt : k < l.length
    · have hlt2 : k < m.length := by have := HE.out; omega
      obtain ⟨s, hs⟩ : ∃ s, s = l[k] := ⟨_, rfl⟩
      obtain ⟨t, ht⟩ : ∃ t, t = m[k] := ⟨_, rfl⟩
      have HR : Hid (wr.rangeAt b (off + k * 5) (symV s).toList) := Lib.hid (by rw [hs]; exact (H.out.below HB.out).at_ k hlt)
      have HR2 : Hid (wr.rangeAt b2 (off2 + k * 5) (symV t).toList) := Lib.hid (by rw [ht]; exact (H2.out.below HB.out).at_ k hlt2)
      have HLT : Hid (b < wr.heap.size ∧ b2 < wr.heap.size) := Lib.hid ⟨(H.out.below HB.out).lt, (H2.out.below HB.out).lt⟩
      have HQ : Hid (∀ sg : Grown wr, sg.w.rangeAt b (off + k * 5) (symV s).toList) := Lib.hid (fun sg j v hv => (sg.below.cell (p := ⟨b, off + k * 5 + j, none⟩) HLT.out.1).trans (HR.out j v hv))
      have HQ2 : Hid (∀ sg : Grown wr, sg.w.rangeAt b2 (off2 + k * 5) (symV t).toList) := Lib.hid (fun sg j v hv => (sg.below.cell (p := ⟨b2, off2 + k * 5 + j, none⟩) HLT.out.2).trans (HR2.out j v hv))
      have q0 : ∀ W, (Op.equalIn 10000 39 (.agg (symV s)) (.agg (symV t))).run Tryd.prog W = .ok (decide (s = t)) W := fun W => sym_eq s t (by rw [hs]; exact OK.out _ (List.getElem_mem _)) (by rw [ht]; exact OK2.out _ (List.getElem_mem _)) W
      have HS := Lib.hid hs; have HT := Lib.hid ht
      clear hs ht HR HR2
      go_upto_region 6 with fail
      by_cases hst : s = t
      · rw [decide_eq_true hst] at q0
        have HST := Lib.hid hst
        clear hst
        refine wp_region_grown (by kernel_rfl) (by kernel_rfl) ?_
        (repeat (first
          | go_big_quiet_step (fail)
          | (go_big_quiet_want; first
            | (refine quiet_load_mid 39 _ (symV s) rfl rfl HQ.out Tryd.underlying39 rfl (sym_size s) ?_; go_big_quiet_on; (try simp only [Act.put, List.getElem_toArray, List.getElem_cons_succ, List.getElem_cons_zero, List.setIfInBounds_toArray, List.set_cons_zero, List.set_cons_succ]))
            | (refine quiet_load_mid 39 _ (symV t) rfl rfl HQ2.out Tryd.underlying39 rfl (sym_size t) ?_; go_big_quiet_on; (try simp only [Act.put, List.getElem_toArray, List.getElem_cons_succ, List.getElem_cons_zero, List.setIfInBounds_toArray, List.set_cons_zero, List.set_cons_succ])))))
        refine wpQuiet_nil ?_
        intro _ hw'
        obtain ⟨sG, hw''⟩ := hw'
        subst hw''
        go_wp2
        go_roundw
        case rel => exact ⟨k + 1, by omega, by go_num, Lib.hid (below_then HB.out sG.below), Lib.hid (by
          rw [List.take_succ_eq_append_getElem hlt, List.take_succ_eq_append_getElem hlt2, HA.out, ← HS.out, ← HT.out, HST.out])⟩
        case measure => simp [intOf]; omega
      · have hres : Hid (decide (l = m) = false) := Lib.hid (decide_eq_false (fun e => hst (by rw [HS.out, HT.out]; subst e; rfl)))
        rw [decide_eq_false hst] at q0
        clear hst
        refine wp_region_grown (by kernel_rfl) (by kernel_rfl) ?_
        (repeat (first
          | go_big_quiet_step (fail)
          | (go_big_quiet_want; first
            | (refine quiet_load_mid 39 _ (symV s) rfl rfl HQ.out Tryd.underlying39 rfl (sym_size s) ?_; go_big_quiet_on; (try simp only [Act.put, List.getElem_toArray, List.getElem_cons_succ, List.getElem_cons_zero, List.setIfInBounds_toArray, List.set_cons_zero, List.set_cons_succ]))
            | (refine quiet_load_mid 39 _ (symV t) rfl rfl HQ2.out Tryd.underlying39 rfl (sym_size t) ?_; go_big_quiet_on; (try simp only [Act.put, List.getElem_toArray, List.getElem_cons_succ, List.getElem_cons_zero, List.setIfInBounds_toArray, List.set_cons_zero, List.set_cons_succ])))))
        refine wpQuiet_nil ?_
        intro _ hw'
        obtain ⟨sG, hw''⟩ := hw'
        subst hw''
        go_wp2
        go_ret
        exact ⟨by rw [hres.out]; rfl, below_then HB.out sG.below⟩
    · obtain rfl : k = l.length := by omega
      have hres : Hid (decide (l = m) = true) := Lib.hid (decide_eq_true (by
        have h := HA.out
        rw [List.take_length, HE.out, List.take_length] at h
        exact h))
      go_wp2
      go_ret
      exact ⟨by rw [hres.out]; rfl, HB.out⟩
theorem same_far (v u : Value) (l m : List SymD) (hlen : l.length ≤ 1000000) (hlen2 : m.length ≤ 1000000) (he : l.length ≠ m.length) (w : World) (h : SymsV w v l) (h2 : SymsV w u m) :
    Calls Tryd.prog 13 #[v, u] w fun e w' => e = .returned (.bool (decide (l = m))) ∧ Below w.heap.size w w' := by
  have hres : Hid (decide (l = m) = false) := Lib.hid (decide_eq_false (fun e => he (by rw [e])))
  have hi1 : (l.length : Int) ≠ (m.length : Int) := by omega
  rcases h with ⟨rfl, rfl⟩ | ⟨b, off, cap, rfl, h⟩
  · have hi2 : (0 : Int) ≠ (m.length : Int) := by simpa using hi1
    rcases h2 with ⟨rfl, rfl⟩ | ⟨b2, off2, cap2, rfl, h2⟩
    · exact absurd rfl he
    · clear h2 he hi1
      go_enter Tryd.func13, Tryd.ntmps13
      go_wp2
      go_ret
      exact ⟨by rw [hres.out]; rfl, Below.refl _ _⟩
  · rcases h2 with ⟨rfl, rfl⟩ | ⟨b2, off2, cap2, rfl, h2⟩
    · have hi2 : (l.length : Int) ≠ 0 := by simpa using hi1
      clear h he hi1
      go_enter Tryd.func13, Tryd.ntmps13
      go_wp2
      go_ret
      exact ⟨by rw [hres.out]; rfl, Below.refl _ _⟩
    · clear h h2 he
      go_enter Tryd.func13, Tryd.ntmps13
      go_wp2
      go_ret
      exact ⟨by rw [hres.out]; rfl, Below.refl _ _⟩
theorem same_none (off off2 cap cap2 : Nat) (b b2 : Option Nat) (w : World) :
    Calls Tryd.prog 13 #[.slice (b.map fun b => ⟨b, off, none⟩) 0 cap, .slice (b2.map fun b => ⟨b, off2, none⟩) 0 cap2] w fun e w' => e = .returned (.bool true) ∧ Below w.heap.size w w' := by
  go_enter Tryd.func13, Tryd.ntmps13
  go_wp2
  refine wp_loop_rounds 1 ?_
  rw [rounds_succ]
  go_wp2
  go_ret
  exact ⟨rfl, Below.refl _ _⟩
theorem same_any (v u : Value) (l m : List SymD) (hok : AllOk l) (hok2 : AllOk m) (hlen : l.length ≤ 1000000) (hlen2 : m.length ≤ 1000000) (w : World) (h : SymsV w v l) (h2 : SymsV w u m) :
    Calls Tryd.prog 13 #[v, u] w fun e w' => e = .returned (.bool (decide (l = m))) ∧ Below w.heap.size w w' := by
  by_cases he : l.length = m.length
  · rcases h with ⟨rfl, rfl⟩ | ⟨b, off, cap, rfl, h⟩
    · have hm : m = [] := List.length_eq_zero_iff.1 he.symm
      subst hm
      rcases h2 with ⟨rfl, _⟩ | ⟨b2, off2, cap2, rfl, h2⟩
      · exact same_none 0 0 0 0 none none w
      · exact same_none 0 off2 0 cap2 none (some b2) w
    · rcases h2 with ⟨rfl, rfl⟩ | ⟨b2, off2, cap2, rfl, h2⟩
      · have hm : l = [] := List.length_eq_zero_iff.1 he
        subst hm
        exact same_none off 0 cap 0 (some b) none w
      · rw [← he]
        exact same_main l m hok hok2 hlen he b off cap b2 off2 cap2 w h h2
  · exact same_far v u l m hlen hlen2 he w h h2
end Go.Proofs.YtlifdfkconklfaaDoor
