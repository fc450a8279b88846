/-
  ferryref25.Vecs.
-/
import Derived.Test.YtofeamajoahjmaaFRef25
import Derived.Test.YtofeamajoahjmaaFVecs
namespace Go.Proofs.Ytofeamajoahjmaa
open Go Go.RowKit
set_option linter.unusedVariables false
set_option linter.unusedSimpArgs false

/-- All the pieces of so many bytes. -/
def vecsP : Nat → List UInt8 → List (Nat × Nat)
  | 0, _ => []
  | k + 1, l => (wordN l, wordN (l.drop 4)) :: vecsP k (l.drop 8)
def sumP (l : List (Nat × Nat)) : Nat := (l.map (·.2)).sum
theorem vecsG_is : ∀ (k : Nat) (l : List UInt8) (left : Nat), vecsG k l left = if sumP (vecsP k l) ≤ left then some (vecsP k l) else none
  | 0, l, left => by simp [vecsG, vecsP, sumP]
  | k + 1, l, left => by
    rw [vecsG, vecsG_is k]
    simp only [vecsP, sumP, List.map_cons, List.sum_cons]
    by_cases h : wordN (l.drop 4) > left
    · rw [if_pos h, if_neg (by omega)]
    · rw [if_neg h]
      by_cases h2 : ((vecsP k (l.drop 8)).map (·.2)).sum ≤ left - wordN (l.drop 4)
      · have h3 : wordN (l.drop 4) + ((vecsP k (l.drop 8)).map (·.2)).sum ≤ left := by omega
        simp [h2, h3]
      · have h3 : ¬ wordN (l.drop 4) + ((vecsP k (l.drop 8)).map (·.2)).sum ≤ left := by omega
        simp [h2, h3]
theorem vecsP_length : ∀ (k : Nat) (l : List UInt8), (vecsP k l).length = k
  | 0, _ => rfl
  | k + 1, l => by rw [vecsP, List.length_cons, vecsP_length k]
theorem vecsP_snoc : ∀ (k : Nat) (l : List UInt8), vecsP (k + 1) l = vecsP k l ++ [(wordN (l.drop (8 * k)), wordN (l.drop (8 * k + 4)))]
  | 0, l => by simp [vecsP]
  | k + 1, l => by
    rw [vecsP, vecsP_snoc k (l.drop 8), vecsP, List.cons_append, List.drop_drop, List.drop_drop]
    have e1 : 8 + 8 * k = 8 * (k + 1) := by omega
    have e2 : 8 + (8 * k + 4) = 8 * (k + 1) + 4 := by omega
    rw [e1, e2]
theorem sumP_snoc (l : List (Nat × Nat)) (a b : Nat) : sumP (l ++ [(a, b)]) = sumP l + b := by simp [sumP]
theorem sumP_le : ∀ (k : Nat) (l : List UInt8), sumP (vecsP k l) ≤ k * 4294967296
  | 0, _ => by simp [vecsP, sumP]
  | k + 1, l => by
    have h1 := sumP_le k (l.drop 8)
    have h2 := wordN_lt (l.drop 4)
    simp only [vecsP, sumP, List.map_cons, List.sum_cons] at h1 ⊢
    omega

set_option maxHeartbeats 2000000 in
set_option maxRecDepth 100000 in
theorem rvecs_any (l : List UInt8) (hl : l.length ≤ 140737488351232) (w : World) :
    Calls Try.prog 21 #[.string (mkB l)] w (VecsPost l w) := by
  have hsz := mkB_size l
  have hl2 : (l.length : Int) ≤ 140737488351232 := by omega
  obtain ⟨m, em⟩ : ∃ m, m = l.length % 8 := ⟨_, rfl⟩
  have h8 : (l.length : Int) % 8 = (m : Nat) := by omega
  have h8t : Int.tmod (l.length : Int) 8 = (m : Nat) := by rw [Int.tmod_eq_emod_of_nonneg (by omega)]; exact h8
  by_cases c1 : m = 0
  · have hm0 : ((m : Int) != 0) = false := by rw [c1]; rfl
    by_cases c2 : l.length ≤ 128
    · have hF : Hid (vecsF l = if sumP (vecsP (l.length / 8) l) ≤ 65536 then some (vecsP (l.length / 8) l) else none) := Lib.hid (by
        rw [vecsF, vecsOk, decide_eq_true (show l.length % 8 = 0 by omega), decide_eq_true c2]; exact vecsG_is _ _ _)
      have h128 : ¬ (128 : Int) < (l.length : Int) := by omega
      obtain ⟨i0, hi, hz0, hz1, hz2⟩ := info_parts vec_info
      have C1 : Hid (l.length % 8 = 0) := Lib.hid (by omega); have C2 := Lib.hid c2
      clear c1 c2 em
      go_enter Try.func21, Try.ntmps21
      go_wp2
      clear h8 h8t hm0 h128 hl2
      go_loopw [4, 5, 6, 7] (fun v s i p wr => ∃ (k : Nat), 8 * k ≤ l.length ∧ i = .int .i64 (8 * (k : Int)) ∧ s = .int .u64 (sumP (vecsP k l) : Nat) ∧ Hid (wr.ownsRow w.heap.size 47 2 v k (vecV (vecsP k l))) ∧ Hid (Below w.heap.size w wr)) (fun _ _ i _ _ => l.length - (intOf i).toNat)
      case atStart => exact ⟨0, by omega, rfl, rfl, Lib.hid (World.ownsRow_nil _ _ _ _), Lib.hid (Below.refl _ _)⟩
      case round =>
        obtain ⟨k, hk, rfl, rfl, H1, H2⟩ := hrel
        by_cases hlt : 8 * k < l.length
        · have hk8 : 8 * k + 8 ≤ l.length := by have := C1.out; omega
          obtain ⟨p0, q0⟩ : ∃ p : Nat, (8 : Int) * (k : Int) = (p : Int) := ⟨8 * k, by omega⟩
          obtain ⟨p4, q4⟩ : ∃ p : Nat, (p0 : Int) + 4 = (p : Int) := ⟨p0 + 4, by omega⟩
          obtain ⟨p8, q8⟩ : ∃ p : Nat, (p0 : Int) + 8 = (p : Int) := ⟨p0 + 8, by omega⟩
          obtain ⟨x, hx⟩ : ∃ x, x = wordN (l.drop (8 * k)) := ⟨_, rfl⟩
          obtain ⟨y, hy⟩ : ∃ y, y = wordN (l.drop (8 * k + 4)) := ⟨_, rfl⟩
          have hxb : (x : Int) ≤ 4294967295 := by have := wordN_lt (l.drop (8 * k)); omega
          have hyb : (y : Int) ≤ 4294967295 := by have := wordN_lt (l.drop (8 * k + 4)); omega
          obtain ⟨S1, eS1⟩ : ∃ S, S = (l.drop (8 * k)).take 4 := ⟨_, rfl⟩
          obtain ⟨S2, eS2⟩ : ∃ S, S = (l.drop (8 * k + 4)).take 4 := ⟨_, rfl⟩
          have hx1 : (mkB l).extract p0 p4 = mkB S1 := by
            rw [eS1, mkB_extract, show p0 = 8 * k by omega, show p4 - 8 * k = 4 by omega]
          have hy1 : (mkB l).extract p4 p8 = mkB S2 := by
            rw [eS2, mkB_extract, show p4 = 8 * k + 4 by omega, show p8 - (8 * k + 4) = 4 by omega]
          have HX : Hid (beN S1 = x) := Lib.hid (by rw [eS1]; exact hx.symm)
          have HY : Hid (beN S2 = y) := Lib.hid (by rw [eS2]; exact hy.symm)
          have HS : Hid (vecsP (k + 1) l = vecsP k l ++ [(x, y)]) := Lib.hid (by rw [vecsP_snoc, hx, hy])
          have W1 : Hid (S1.length ≤ 8) := Lib.hid (by rw [eS1, List.length_take]; omega)
          have W2 : Hid (S2.length ≤ 8) := Lib.hid (by rw [eS2, List.length_take]; omega)
          have b0 : (p0 : Int) < (l.length : Int) := by omega
          have b04 : (p0 : Int) ≤ (p4 : Int) := by omega
          have b48 : (p4 : Int) ≤ (p8 : Int) := by omega
          have b4 : (p4 : Int) ≤ (l.length : Int) := by omega
          have b8 : (p8 : Int) ≤ (l.length : Int) := by omega
          have bl : (l.length : Int) ≤ 128 := by have := C2.out; omega
          have wp4 : IntKind.i64.wrap (p4 : Int) = (p4 : Int) := IntWalk.i64_in _ (by omega)
          have wp8 : IntKind.i64.wrap (p8 : Int) = (p8 : Int) := IntWalk.i64_in _ (by omega)
          have wx : IntKind.u32.wrap (x : Int) = (x : Int) := by simp [IntKind.wrap, IntKind.signed, IntKind.bits]; omega
          have wy : IntKind.u32.wrap (y : Int) = (y : Int) := by simp [IntKind.wrap, IntKind.signed, IntKind.bits]; omega
          have HK := Lib.hid q0
          rw [q0]
          clear hx hy q0 eS1 eS2
          go_upto_region 8 with fail
          go_cut [7] (fun s7 wx => ∃ g : Nat, s7 = .pointer (some ⟨g, 0, none⟩) ∧ w.heap.size ≤ g ∧ wx.heap[g]? = some (.cells #[.int .u32 x, .int .u32 y] 47) ∧ Below wr.heap.size wr wx)
          case first =>
            go_region_held3 (fun w' => Below wr.heap.size wr w') ((first | assumption | exact Below.trans (by assumption) (Below.mono (by assumption) (Below.size (by assumption))) | (refine below_realloc ?_ ?_ ?_; assumption; omega; omega) | ((repeat' (first | assumption | exact Below.refl _ _ | refine Below.drew ?_ | refine Below.setCell ?_ ?_ _ | refine Below.alloc ?_ ?_ _)); all_goals (first | assumption | omega | (simp only [heap_len]; done) | (simp only [heap_len]; omega) | (simp <;> omega))))) (first
              | (go_at_call_of 36 (Value.string (mkB S1)); refine (rbe_any _ W1.out _).mono ?_; rintro e w1 ⟨rfl, rfl⟩; rw [HX.out])
              | (go_at_call_of 36 (Value.string (mkB S2)); refine (rbe_any _ W2.out _).mono ?_; rintro e w2 ⟨rfl, rfl⟩; rw [HY.out]))
            all_goals (go_wp2; go_meet)
            all_goals (refine ⟨_, rfl, H2.out.size, ?_, by (first | assumption | exact Below.trans (by assumption) (Below.mono (by assumption) (Below.size (by assumption))) | (refine below_realloc ?_ ?_ ?_; assumption; omega; omega) | ((repeat' (first | assumption | exact Below.refl _ _ | refine Below.drew ?_ | refine Below.setCell ?_ ?_ _ | refine Below.alloc ?_ ?_ _)); all_goals (first | assumption | omega | (simp only [heap_len]; done) | (simp only [heap_len]; omega) | (simp <;> omega))))⟩)
            all_goals (first
              | exact heap_new _ _ _ rfl
              | (refine two_set (u := .int .u32 0) (v := .int .u32 0) ?_; exact heap_new _ _ _ rfl))
          case rest =>
            obtain ⟨g, rfl, hg1, hg2, hb⟩ := hcut
            have HB : Hid (Below w.heap.size w wc) := Lib.hid (H2.out.trans (hb.mono (H2.out.size)))
            have HO : Hid (wc.ownsRow w.heap.size 47 2 u4 k (vecV (vecsP k l))) := Lib.hid (own_below H1.out hb)
            have g0 : wc.cell? ⟨g, 0, none⟩ = some (.int .u32 x) := cell_at hg2 rfl
            have g1 : wc.cell? ⟨g, 1, none⟩ = some (.int .u32 y) := cell_at hg2 rfl
            have gf : wc.frozen? ⟨g, 0, none⟩ = false := free_at hg2
            have gl : g < wc.heap.size := heap_lt hg2
            obtain ⟨S, eS⟩ : ∃ S, S = sumP (vecsP k l) := ⟨_, rfl⟩
            have hSb : S ≤ 16 * 4294967296 := by
              have := sumP_le k l
              have hk16 : k ≤ 16 := by have := C2.out; omega
              have : k * 4294967296 ≤ 16 * 4294967296 := Nat.mul_le_mul_right _ hk16
              omega
            have u64y : IntKind.u64.wrap (y : Int) = (y : Int) := by simp [IntKind.wrap, IntKind.signed, IntKind.bits]; omega
            have u64s : IntKind.u64.wrap ((S : Int) + (y : Int)) = ((S + y : Nat) : Int) := by simp [IntKind.wrap, IntKind.signed, IntKind.bits]; omega
            have HSS : Hid (S + y = sumP (vecsP (k + 1) l)) := Lib.hid (by rw [HS.out, sumP_snoc, eS])
            rw [← eS]
            have hk16 : k ≤ 16 := by have := C2.out; omega
            clear hg2 hb eS hSb
            go_upto_region 10 with fail
            go_wp2_with (at_builtin; refine wpList_append_own _ rfl _ _ 43 rfl w.heap.size 47 i0 _ 2 8 Try.underlying43 hi hz0 hz1 hz2 rfl (by decide) _ _ _ rfl (HO.out.alloc _) ⟨wc.heap.size, 0, none⟩ 1 1 [.int .u32 (x : Nat), .int .u32 (y : Nat)] rfl rfl ?c1 ?c2 ?c3 ?c4 ?c5 ?_)
            case c1 =>
              intro j u hj
              match j, hj with
              | 0, hj => simp at hj; subst hj; simp [Addr.add]
              | 1, hj => simp at hj; subst hj; simp [Addr.add]
            case c2 => intro u hu; simp at hu; rcases hu with rfl | rfl <;> rfl
            case c3 => unfold maxLen; omega
            case c4 => omega
            case c5 => have := HB.out.size; simp; omega
            intro v' w2 hown' hgrow _
            have K1 : Hid (w2.ownsRow w.heap.size 47 2 v' (k + 1) (vecV (vecsP (k + 1) l))) := Lib.hid (by
              have h1 : vecV (vecsP (k + 1) l) = vecV (vecsP k l) ++ [.int .u32 (x : Nat), .int .u32 (y : Nat)] := by rw [HS.out]; simp [vecV]
              rw [h1]; exact hown')
            have K2 : Hid (Below w.heap.size w w2) := Lib.hid ((HB.out.alloc (by have := HB.out.size; omega) _).grown hgrow (by have := HB.out.size; simp; omega) (fun k hk => (HO.out.lt k hk).1))
            clear hown' hgrow
            have wq8 : IntKind.i64.wrap ((p0 : Int) + 8) = (p8 : Int) := by rw [q8]; exact wp8
            go_wp2
            go_roundw
            case rel => exact ⟨k + 1, by omega, by have := HK.out; congr 1; omega, by rw [← HSS.out, Int.natCast_add], K1, K2⟩
            case measure => have := HK.out; simp [intOf]; omega
        · have hk0 : 8 * k = l.length := by omega
          have hkd : l.length / 8 = k := by omega
          have hkl : ¬ (8 : Int) * (k : Int) < (l.length : Int) := by omega
          obtain ⟨S, eS⟩ : ∃ S, S = sumP (vecsP k l) := ⟨_, rfl⟩
          have HF : Hid (vecsF l = if S ≤ 65536 then some (vecsP k l) else none) := Lib.hid (by rw [hF.out, hkd, eS])
          rw [← eS]
          clear eS
          obtain ⟨c, hc⟩ : ∃ c, c = decide (65536 < S) := ⟨_, rfl⟩
          have HC := Lib.hid hc
          have q : decide ((65536 : Int) < (S : Int)) = c := by rw [hc]; exact decide_eq_decide.2 (by omega)
          clear hc
          cases hcc : c
          · have hres : Hid (vecsF l = some (vecsP k l)) := Lib.hid (by rw [HF.out, if_pos (by have := HC.out; rw [hcc] at this; have := of_decide_eq_false this.symm; omega)])
            have hlen : (vecsP k l).length = k := vecsP_length k l
            subst hcc
            go_wp2
            go_ret2
            exact ⟨⟨_, by rw [hres.out]; rfl, .inl ⟨_, hres.out, by rw [hlen]; exact H1.out⟩⟩, H2.out⟩
          · have hres : Hid (vecsF l = none) := Lib.hid (by rw [HF.out, if_neg (by have := HC.out; rw [hcc] at this; have := of_decide_eq_true this.symm; omega)])
            subst hcc
            go_wp2
            go_ret2
            exact ⟨⟨_, by rw [hres.out]; rfl, .inr ⟨hres.out, rfl⟩⟩, H2.out⟩
    · have hF : Hid (vecsF l = none) := Lib.hid (by rw [vecsF, vecsOk, decide_eq_false c2, Bool.and_false]; rfl)
      have h128' : (128 : Int) < (l.length : Int) := by omega
      clear c1 c2 em
      go_enter Try.func21, Try.ntmps21
      go_wp2
      go_ret2
      exact ⟨⟨_, by rw [hF.out]; rfl, .inr ⟨hF.out, rfl⟩⟩, Below.refl _ _⟩
  · have hF : Hid (vecsF l = none) := Lib.hid (by rw [vecsF, vecsOk, decide_eq_false (show ¬ l.length % 8 = 0 by omega), Bool.false_and]; rfl)
    have hm0 : ((m : Int) != 0) = true := by rw [bne_iff_ne]; omega
    clear c1 em
    go_enter Try.func21, Try.ntmps21
    go_wp2
    go_ret2
    exact ⟨⟨_, by rw [hF.out]; rfl, .inr ⟨hF.out, rfl⟩⟩, Below.refl _ _⟩
end Go.Proofs.Ytofeamajoahjmaa
