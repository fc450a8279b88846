/-
  Names: the walk of NamesNumbers.
-/
import Derived.Test.YtlifdfkconklfaaDoorFNnH
namespace Go.Proofs.YtlifdfkconklfaaDoor
open Go Go.RowKit
set_option linter.unusedVariables false
set_option linter.unusedSimpArgs false

def lt28 (m : Nat) : Bool := decide (m < 268435456)
theorem lt28_is (m : Nat) : decide ((m : Int) < 268435456) = lt28 m := decide_eq_decide.2 (by omega)
theorem conv_one (c : UInt8) (g : Nat) (w' : World) (c0 : w'.cell? ⟨g, 0, none⟩ = some (.int .u8 (c.toNat : Nat))) :
    (convert 46 9 (.slice (some ⟨g, 0, none⟩) 1 1)).run Tryd.prog w' = .ok (.string (mkB [c])) w' := by
  refine run_convert_bytes_back _ 46 9 5 ⟨g, 0, none⟩ 1 [c] Tryd.underlying46 Tryd.underlying5 Tryd.underlying9 (fun j hj => ?_)
  match j, hj with
  | 0, _ => exact c0

set_option maxHeartbeats 4000000 in
set_option maxRecDepth 100000 in
theorem namesNumbers_walk (s : List UInt8) (hs : s.length ≤ 140737488351232) (c : UInt8) (l : List SymD) (hok : AllOk l) (hlen : l.length ≤ 140737488351232) (m : Nat) (hm : m < 256) (vp : Option Addr) (cap : Nat) (w : World) (h : SymsV w (.slice vp l.length cap) l) :
    Calls Tryd.prog 6 #[.string (mkB s), .int .u8 (c.toNat : Nat), .slice vp l.length cap, .int .u8 m] w fun e w' => e = .returned (.bool true) ∧ Below w.heap.size w w' := by
  have HAW : Hid (∀ w, Calls Tryd.prog 8 #[] w fun e w' => e = .returned (.bool true) ∧ Below w.heap.size w w') := Lib.hid awake15_any
  have HS := Lib.hid h; have OK := Lib.hid hok
  have hli : (l.length : Int) ≤ 140737488351232 := by omega
  have hsi : (s.length : Int) ≤ 140737488351232 := by omega
  have hmi : (m : Int) ≤ 255 := by omega
  have hss := mkB_size s
  by_cases h1000 : s.length ≤ 1000
  · have h1000i : (s.length : Int) ≤ 1000 := by omega
    by_cases h60 : l.length ≤ 60
    · have h60i : (l.length : Int) ≤ 60 := by omega
      have HF2 : Hid (∀ v, Below w.heap.size w v → Calls Tryd.prog 17 #[.slice vp l.length cap] v fun e w' => e = .returned (.bool (fitL l)) ∧ Below v.heap.size v w') := Lib.hid (fun v hb => rfit_any l OK.out (by omega) _ v (HS.out.below hb))
      cases hfl : fitL l
      · rw [hfl] at HF2
        clear h hok hlen h1000 h60 hs hm hfl
        go_enter Tryd.func6, Tryd.ntmps6
        go_wp2_with (first
          | (go_at_call 17; refine (HF2.out _ (Below.refl _ _)).mono ?_; rintro e w1 ⟨rfl, hb⟩; have HB1 := Lib.hid hb; clear hb)
          | (go_at_call 8; refine (HAW.out _).mono ?_; rintro e w2 ⟨rfl, hb⟩; have HB2 := hidB HB1 hb; clear hb))
        go_ret
        exact ⟨rfl, HB2.out⟩
      · rw [hfl] at HF2
        obtain ⟨q, hq⟩ : ∃ q : Nat, (m : Int) % 64 = (q : Int) := ⟨m % 64, by omega⟩
        obtain ⟨n, hn⟩ : ∃ n : Nat, (q : Int) + 1 = (n : Int) := ⟨q + 1, rfl⟩
        have hok2 : okW l n = true := by rw [okW, hfl, decide_eq_true (show 1 ≤ (n : Int) by omega), decide_eq_true (show (n : Int) ≤ 64 by omega)]; rfl
        have l1 := symsT_len hok2; have l3 := hashT_len hok2
        have HW1 : Hid (∀ v, Below w.heap.size w v → Calls Tryd.prog 18 #[.slice vp l.length cap, .int .i64 n] v fun e w' => e = .returned (.agg #[.string (mkB (symsT l n)), .string (mkB (strsT l n)), .string (mkB (hashT l n))]) ∧ Below v.heap.size v w') := Lib.hid (fun v hb => write_any l OK.out (by omega) n (by omega) (by omega) vp cap v (HS.out.below hb))
        obtain ⟨S1, hS1⟩ : ∃ S, S = symsT l n := ⟨_, rfl⟩
        obtain ⟨S2, hS2⟩ : ∃ S, S = strsT l n := ⟨_, rfl⟩
        obtain ⟨S3, hS3⟩ : ∃ S, S = hashT l n := ⟨_, rfl⟩
        rw [← hS1] at l1
        rw [← hS3] at l3
        rw [← hS1, ← hS2, ← hS3] at HW1
        have k1 : (S1.length : Int) = 16 * ((l.length : Int) + 1) := by omega
        have k3 : (S3.length : Int) = 4 * (2 + (q : Int) + 1 + (l.length : Int) + 1) := by omega
        have z1 := mkB_size S1
        have z3 := mkB_size S3
        have zc := mkB_size [c]
        have HH1 : Hid (∀ w, Calls Tryd.prog 14 #[.string (mkB s)] w fun e w' => e = .returned (.int .u32 (hashL s : Nat)) ∧ Below w.heap.size w w') := Lib.hid (fun w => hash_any s (by omega) w)
        have HH2 : Hid (∀ w, Calls Tryd.prog 14 #[.string (mkB (s ++ [c]))] w fun e w' => e = .returned (.int .u32 (stepH (hashL s) c : Nat)) ∧ Below w.heap.size w w') := Lib.hid (fun w => by rw [← hashL_snoc]; exact hash_any (s ++ [c]) (by rw [List.length_append]; simp; omega) w)
        obtain ⟨x, hx⟩ : ∃ x, x = hashL s := ⟨_, rfl⟩
        have hxl : (x : Int) ≤ 268435455 := by have := hashL_lt s; omega
        have H28 : Hid (lt28 x = true) := Lib.hid (decide_eq_true (by rw [hx]; exact hashL_lt s))
        rw [← hx] at HH1 HH2
        have hc8 : (c.toNat : Int) ≤ 255 := by have := c.toNat_lt; omega
        have HST := Lib.hid (step_bits x c)
        have happ := mkB_append
        have hcv := conv_one c
        clear h hok hlen h1000 h60 hs hm hfl hS1 hS2 hS3 l1 l3 hok2 hx
        go_enter Tryd.func6, Tryd.ntmps6
        go_upto_region 7 with (first
          | (go_at_call 17; refine (HF2.out _ (Below.refl _ _)).mono ?_; rintro e w1 ⟨rfl, hb⟩; have HB1 := Lib.hid hb; clear hb)
          | (go_at_call 14; refine (HH1.out _).mono ?_; rintro e w2 ⟨rfl, hb⟩; have HB2 := hidB HB1 hb; clear hb))
        have hlt := lt28_is
        have hx28 : lt28 x = true := H28.out
        rw [HST.out]
        obtain ⟨y, hy⟩ : ∃ y, y = stepH x c := ⟨_, rfl⟩
        rw [← hy] at HH2 ⊢
        clear hy
        go_wp2_with (first
          | (go_at_call 18; refine (HW1.out _ HB2.out).mono ?_; rintro e w3 ⟨rfl, hb⟩; have HB3 := hidB HB2 hb; clear hb)
          | (go_at_call 14; refine (HH2.out _).mono ?_; rintro e w4 ⟨rfl, hb⟩; have HB4 : Hid (Below w.heap.size w w4) := Lib.hid (((HB3.out.alloc HB3.out.size _).alloc (by simp only [heap_len]; have := HB3.out.size; omega) _).trans (hb.mono (by simp only [heap_len]; have := HB3.out.size; omega))); have g4 : w4.heap[w3.heap.size]? = some (.cells #[.string (mkB S1), .string (mkB S2), .string (mkB S3)] 23) := (hb.block _ (by simp only [heap_len]; omega)).trans ((heap_old _ _ _ (by simp only [heap_len]; omega)).trans (heap_new _ _ _ rfl)); have t0 := cell_at (o := 0) g4 rfl; have t2 := cell_at (o := 2) g4 rfl; clear g4 hb)
          | (go_at_call 8; refine (HAW.out _).mono ?_; rintro e w5 ⟨rfl, hb⟩; have HB5 := hidB HB4 hb; clear hb))
        go_ret
        exact ⟨rfl, HB5.out⟩
    · have h60i : (60 : Int) < (l.length : Int) := by omega
      clear h hok hlen h1000 h60 hs hm
      go_enter Tryd.func6, Tryd.ntmps6
      go_wp2_with (go_at_call 8; refine (HAW.out _).mono ?_; rintro e w2 ⟨rfl, hb⟩)
      go_ret
      exact ⟨rfl, hb⟩
  · have h1000i : (1000 : Int) < (s.length : Int) := by omega
    clear h hok hlen h1000 hs hm
    go_enter Tryd.func6, Tryd.ntmps6
    go_wp2_with (go_at_call 8; refine (HAW.out _).mono ?_; rintro e w2 ⟨rfl, hb⟩)
    go_ret
    exact ⟨rfl, hb⟩
end Go.Proofs.YtlifdfkconklfaaDoor
