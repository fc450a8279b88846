/-
  Names: the walk of NamesWrites.
-/
import Derived.Test.YtlifdfkconklfaaDoorFNnG
namespace Go.Proofs.YtlifdfkconklfaaDoor
open Go Go.RowKit
set_option linter.unusedVariables false
set_option linter.unusedSimpArgs false

def tabK : List CK := [.s, .s, .s]
theorem tab_flat : flat Tryd.prog 5 23 = some tabK := by kernel_rfl
theorem tab_eq (a b c : List UInt8) (ha : a.length ≤ 140737488351232) (hb : b.length ≤ 140737488351232) (hc : c.length ≤ 140737488351232) (w : World) : (Op.equalIn 10000 23 (.agg (tabV a b c)) (.agg (tabV a b c))).run Tryd.prog w = .ok true w := by
  have hf : Fits tabK (tabV a b c).toList := ⟨⟨_, rfl, by rw [mkB_size]; unfold maxLen; omega⟩, ⟨_, rfl, by rw [mkB_size]; unfold maxLen; omega⟩, ⟨_, rfl, by rw [mkB_size]; unfold maxLen; omega⟩, trivial⟩
  rw [eq_flat' tab_flat (by kernel_rfl) (by omega) hf hf w]
  congr 1
  exact (cellsEq_iff hf hf).2 rfl
theorem tabW_small (l : List SymD) (ways : Int) : (symsT l ways).length ≤ 10000 ∧ (strsT l ways).length ≤ 10000 ∧ (hashT l ways).length ≤ 10000 := by
  cases h : okW l ways
  · simp [symsT, strsT, hashT, h]
  · have hw : 1 ≤ ways := by unfold okW at h; simp only [Bool.and_eq_true, decide_eq_true_eq] at h; exact h.2.1
    obtain ⟨n, rfl⟩ : ∃ n : Nat, ways = (n : Int) := ⟨ways.toNat, by omega⟩
    obtain ⟨h1, h2, h3, h4⟩ := okW_is h
    have := symsT_len h; have := strsT_len h; have := hashT_len h
    omega
theorem tabW_eq (l : List SymD) (ways : Int) (w : World) : (Op.equalIn 10000 23 (.agg (tabW l ways)) (.agg (tabW l ways))).run Tryd.prog w = .ok true w := by
  obtain ⟨h1, h2, h3⟩ := tabW_small l ways
  exact tab_eq _ _ _ (by omega) (by omega) (by omega) w

set_option maxHeartbeats 4000000 in
set_option maxRecDepth 100000 in
theorem namesWrites_walk (l : List SymD) (hok : AllOk l) (hlen : l.length ≤ 140737488351232) (ways : Int) (hw1 : -9223372036854775808 ≤ ways) (hw2 : ways ≤ 9223372036854775807) (vp : Option Addr) (cap : Nat) (w : World) (h : SymsV w (.slice vp l.length cap) l) :
    Calls Tryd.prog 4 #[.slice vp l.length cap, .int .i64 ways] w fun e w' => e = .returned (.bool true) ∧ Below w.heap.size w w' := by
  have HAW : Hid (∀ w, Calls Tryd.prog 8 #[] w fun e w' => e = .returned (.bool true) ∧ Below w.heap.size w w') := Lib.hid awake15_any
  have HS := Lib.hid h; have OK := Lib.hid hok
  have hli : (l.length : Int) ≤ 140737488351232 := by omega
  by_cases h230 : l.length ≤ 230
  · have h230i : (l.length : Int) ≤ 230 := by omega
    have HF1 : Hid (∀ v, Below w.heap.size w v → Calls Tryd.prog 16 #[.slice vp l.length cap] v fun e w' => e = .returned (.bool (fitL l)) ∧ Below v.heap.size v w') := Lib.hid (fun v hb => fit_any l OK.out (by omega) _ v (HS.out.below hb))
    have HF2 : Hid (∀ v, Below w.heap.size w v → Calls Tryd.prog 17 #[.slice vp l.length cap] v fun e w' => e = .returned (.bool (fitL l)) ∧ Below v.heap.size v w') := Lib.hid (fun v hb => rfit_any l OK.out (by omega) _ v (HS.out.below hb))
    have HW1 : Hid (∀ v, Below w.heap.size w v → Calls Tryd.prog 18 #[.slice vp l.length cap, .int .i64 ways] v fun e w' => e = .returned (.agg (tabW l ways)) ∧ Below v.heap.size v w') := Lib.hid (fun v hb => write_any l OK.out (by omega) ways hw1 hw2 vp cap v (HS.out.below hb))
    have HW2 : Hid (∀ v, Below w.heap.size w v → Calls Tryd.prog 19 #[.slice vp l.length cap, .int .i64 ways] v fun e w' => e = .returned (.agg (tabW l ways)) ∧ Below v.heap.size v w') := Lib.hid (fun v hb => rwrite_any l OK.out (by omega) ways hw1 hw2 vp cap v (HS.out.below hb))
    obtain ⟨F, hF⟩ : ∃ F, F = fitL l := ⟨_, rfl⟩
    rw [← hF] at HF1 HF2
    have heq : ∀ W, (Op.equalIn 10000 23 (.agg (tabW l ways)) (.agg (tabW l ways))).run Tryd.prog W = .ok true W := tabW_eq l ways
    clear h hok hlen h230 hw1 hw2 hF
    go_enter Tryd.func4, Tryd.ntmps4
    go_wp2
    go_loopw [13] (fun i wr => ∃ k : Nat, k ≤ l.length ∧ i = .int .i64 (k : Int) ∧ Hid (Below w.heap.size w wr)) (fun i _ => l.length - (intOf i).toNat)
    case atStart => exact ⟨0, Nat.zero_le _, rfl, Lib.hid (Below.refl _ _)⟩
    case round =>
      obtain ⟨k, hk, rfl, HB⟩ := hrel
      by_cases hlt : k < l.length
      · have hki : (k : Int) < (l.length : Int) := by omega
        obtain ⟨b, off, hvp, hat⟩ : ∃ b off, vp = some ⟨b, off, none⟩ ∧ SymsAt w b off l := by
          rcases HS.out with ⟨hv, hl0⟩ | ⟨b, off, cap, hv, hat⟩
          · have h2 := congrArg List.length hl0; rw [List.length_nil] at h2; omega
          · cases hv; exact ⟨b, off, rfl, hat⟩
        subst hvp
        have HR : Hid (wr.rangeAt b (off + k * 5) (symV l[k]).toList) := Lib.hid ((hat.below HB.out).at_ k hlt)
        have hnl : l[k].name.length ≤ 140737488351232 := (OK.out _ (List.getElem_mem hlt)).name
        obtain ⟨s, hs⟩ : ∃ s, s = l[k] := ⟨_, rfl⟩
        rw [← hs] at HR hnl
        clear hs hat
        obtain ⟨nm, sv, sz, sb, sp⟩ := s
        have d0 : wr.cell? ⟨b, off + k * 5, none⟩ = some (.string (mkB nm)) := HR.out 0 _ rfl
        have d1 : wr.cell? ⟨b, off + k * 5 + 1, none⟩ = some (.int .u32 sv) := HR.out 1 _ rfl
        have d2 : wr.cell? ⟨b, off + k * 5 + 2, none⟩ = some (.int .u32 sz) := HR.out 2 _ rfl
        have d3 : wr.cell? ⟨b, off + k * 5 + 3, none⟩ = some (.int .i64 sb) := HR.out 3 _ rfl
        have d4 : wr.cell? ⟨b, off + k * 5 + 4, none⟩ = some (.int .i64 sp) := HR.out 4 _ rfl
        have hms := mkB_size nm
        clear HR
        by_cases h100 : nm.length ≤ 100
        · have h100i : (nm.length : Int) ≤ 100 := by omega
          clear h100 hnl
          go_wp2
          go_roundw
          case rel => exact ⟨k + 1, by omega, by go_num, Lib.hid (HB.out.alloc HB.out.size _)⟩
          case measure => simp [intOf]; omega
        · have h100i : (100 : Int) < (nm.length : Int) := by omega
          clear h100 hnl
          go_wp2_with (go_at_call 8; refine (HAW.out _).mono ?_; rintro e w2 ⟨rfl, hb⟩; have HB2 := hidB (Lib.hid (HB.out.alloc HB.out.size _)) hb; clear hb)
          go_ret
          exact ⟨rfl, HB2.out⟩
      · obtain rfl : k = l.length := by omega
        clear hlt hk
        go_wp2_with (first
          | (go_at_call 16; refine (HF1.out _ HB.out).mono ?_; rintro e w1 ⟨rfl, hb⟩; have HB1 := hidB HB hb; clear hb)
          | (go_at_call 17; refine (HF2.out _ HB1.out).mono ?_; rintro e w2 ⟨rfl, hb⟩; have HB2 := hidB HB1 hb; clear hb)
          | (go_at_call 18; refine (HW1.out _ HB2.out).mono ?_; rintro e w3 ⟨rfl, hb⟩; have HB3 := hidB HB2 hb; clear hb)
          | (go_at_call 19; refine (HW2.out _ HB3.out).mono ?_; rintro e w4 ⟨rfl, hb⟩; have HB4 := hidB HB3 hb; clear hb)
          | (go_at_call 8; refine (HAW.out _).mono ?_; rintro e w5 ⟨rfl, hb⟩; have HB5 := hidB HB4 hb; clear hb))
        go_ret
        exact ⟨rfl, HB5.out⟩
  · have h230i : (230 : Int) < (l.length : Int) := by omega
    clear h hok hlen h230 hw1 hw2
    go_enter Tryd.func4, Tryd.ntmps4
    go_wp2_with (go_at_call 8; refine (HAW.out _).mono ?_; rintro e w2 ⟨rfl, hb⟩)
    go_ret
    exact ⟨rfl, hb⟩
end Go.Proofs.YtlifdfkconklfaaDoor
