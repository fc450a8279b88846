/-
  structs.Vecs, PutMask: pieces of memory out of bytes; signals as bytes.
-/
import Derived.Test.YtofeamajoahjmaaFTime
import Derived.Laws.BitsAllLaws
import Derived.Deep.RegionHeld3
import Derived.Deep.DeepCutAuto
namespace Go.Proofs.Ytofeamajoahjmaa
open Go Go.RowKit
set_option linter.unusedVariables false
set_option linter.unusedSimpArgs false

theorem two_set {w : World} {g : Nat} {u v x y : Value} {T : TypeId} {fr : Nat × Nat} (h : w.heap[g]? = some (.cells #[u, v] T fr)) :
    ((w.setCell ⟨g, 0, none⟩ x).setCell ⟨g, 1, none⟩ y).heap[g]? = some (.cells #[x, y] T fr) := by
  rw [heap_set (heap_set h)]; rfl

theorem beN_lt4 {l : List UInt8} (h : l.length ≤ 4) : beN l < 4294967296 :=
  Nat.lt_of_lt_of_le (beN_lt l) (by
    have : 256 ^ l.length ≤ 256 ^ 4 := Nat.pow_le_pow_right (by omega) h
    simpa using this)

/-- The number of the first four bytes. -/
def wordN (l : List UInt8) : Nat := beN (l.take 4)
theorem wordN_lt (l : List UInt8) : wordN l < 4294967296 := beN_lt4 (by rw [List.length_take]; omega)

set_option maxHeartbeats 1000000 in
theorem word_any (l : List UInt8) (hl : 4 ≤ l.length) (hl2 : l.length ≤ 140737488351232) (w : World) :
    Calls Try.prog 30 #[.string (mkB l)] w fun e w' => e = .returned (.int .u32 (wordN l)) ∧ Below w.heap.size w w' := by
  have hsz := mkB_size l
  have hx : (mkB l).extract 0 4 = mkB (l.take 4) := mkB_take l 4
  have hnum : Hid (numF (mkB (l.take 4)) false = (wordN l : Nat)) := Lib.hid (numF_be _ (by rw [List.length_take]; omega))
  have hxs : Hid ((mkB (l.take 4)).size ≤ 9223372036854775807) := Lib.hid (by rw [mkB_size, List.length_take]; omega)
  have hb : (wordN l : Int) ≤ 4294967295 := by have := wordN_lt l; omega
  go_enter Try.func30, Try.ntmps30
  go_wp2_with (go_at_call 40; refine (be_any _ _ hxs.out).mono ?_; rintro e w1 ⟨rfl, hb1⟩; rw [hnum.out])
  go_ret
  exact ⟨rfl, hb1⟩

def maskB (m : Nat) : List UInt8 := wordsB 4 [m, m / 4294967296, 0, 0]

set_option maxHeartbeats 1000000 in
set_option maxRecDepth 100000 in
theorem putMask_any (m : Nat) (hm : m < 18446744073709551616) (w : World) :
    Calls Try.prog 31 #[.int .u64 m] w fun e w' => e = .returned (.string (mkB (maskB m))) ∧ Below w.heap.size w w' := by
  have HAB : Hid (AllU [m, m / 4294967296, 0, 0]) := Lib.hid (fun v hv => by
    simp only [List.mem_cons, List.not_mem_nil, or_false] at hv
    rcases hv with rfl | rfl | rfl | rfl
    · exact hm
    · exact Nat.lt_of_le_of_lt (Nat.div_le_self _ _) hm
    · exact Nat.zero_lt_succ _
    · exact Nat.zero_lt_succ _)
  have HM := Lib.hid hm
  clear hm
  go_enter Try.func31, Try.ntmps31
  go_upto_region 3 with (go_at_call 28; refine (put_any w.heap.size w.heap.size (w.heap.size + 1) 4 [m, m / 4294967296, 0, 0] HAB.out [] (by simp) _ _ (rowU_of (heap_new _ _ _ (by rw [heap_len])) (by simp)) (by omega) (bld_alloc (bld_new w) _) (by simp only [heap_len]; omega)).mono ?_; rintro e w2 ⟨rfl, k1, k2, k3⟩)
  have K1 := Lib.hid k1
  have HZ : Hid (w.heap.size ≤ w2.heap.size) := Lib.hid (by have := k2.size; simp only [heap_len] at this; omega)
  have K2 : Hid (Below w.heap.size w w2) := Lib.hid ((((Below.refl _ w).alloc (Nat.le_refl _) _).alloc (by rw [heap_len]; omega) _).trans k2)
  clear k1 k2 k3
  go_wp2_with (go_at_call 29; refine (bstr_any _ _ _ _ K1.out HZ.out).mono ?_; rintro e w3 ⟨rfl, _, hb3, _⟩)
  go_ret
  exact ⟨by rfl, K2.out.trans hb3⟩

theorem bytes_toList (l : List UInt8) : (mkB l).toList = l := by
  rw [ByteArray.toList_eq]; exact mkB_list l

theorem and7 (n : Nat) (h : n ≤ 140737488351232) : bits BinOp.and IntKind.i64 (n : Int) 7 = ((n % 8 : Nat) : Int) := by
  have h1 : bits BinOp.and IntKind.i64 (n : Int) 7 = ((n &&& 7 : Nat) : Int) := i64_and_nat n 7 (by omega) (by omega)
  rw [h1, show (7 : Nat) = 2 ^ 3 - 1 from rfl, Nat.and_two_pow_sub_one_eq_mod]

/-! ### Vecs -/
/-- The pieces of so many bytes, as long as enough is left. -/
def vecsG : Nat → List UInt8 → Nat → Option (List (Nat × Nat))
  | 0, _, _ => some []
  | k + 1, l, left => if wordN (l.drop 4) > left then none else (vecsG k (l.drop 8) (left - wordN (l.drop 4))).map ((wordN l, wordN (l.drop 4)) :: ·)
def vecsOk (l : List UInt8) : Bool := decide (l.length % 8 = 0) && decide (l.length ≤ 128)
def vecsF (l : List UInt8) : Option (List (Nat × Nat)) := if vecsOk l then vecsG (l.length / 8) l 65536 else none
def vecV (l : List (Nat × Nat)) : List Value := l.flatMap fun p => [.int .u32 (p.1 : Nat), .int .u32 (p.2 : Nat)]
theorem vecV_length : ∀ (l : List (Nat × Nat)), (vecV l).length = l.length * 2
  | [] => rfl
  | p :: l => by
    have := vecV_length l
    simp only [vecV, List.flatMap_cons, List.length_append, List.length_cons, List.length_nil] at this ⊢
    omega
theorem vec_info : (Try.prog.info? 47).map (fun i => (i.zero, i.size, i.bytes)) = some (some (.agg #[.int .u32 0, .int .u32 0]), 2, 8) := by kernel_rfl

def strLen : Value → Nat
  | .string s => s.size
  | _ => 0

theorem vecsG_step {r : List UInt8} (h : 8 ≤ r.length) (left : Nat) : vecsG (r.length / 8) r left = if wordN (r.drop 4) > left then none else (vecsG ((r.drop 8).length / 8) (r.drop 8) (left - wordN (r.drop 4))).map ((wordN r, wordN (r.drop 4)) :: ·) := by
  have : r.length / 8 = (r.drop 8).length / 8 + 1 := by rw [List.length_drop]; omega
  rw [this, vecsG]

def VecsPost (l : List UInt8) (w : World) (e : Ending) (w' : World) : Prop :=
  (∃ v, e = .returned (.tuple #[v, .bool (vecsF l).isSome]) ∧ ((∃ ps, vecsF l = some ps ∧ w'.ownsRow w.heap.size 47 2 v ps.length (vecV ps)) ∨ (vecsF l = none ∧ v = .slice none 0 0))) ∧ Below w.heap.size w w'

set_option maxHeartbeats 4000000 in
set_option maxRecDepth 100000 in
theorem vecs_any (l : List UInt8) (hl : l.length ≤ 140737488351232) (w : World) :
    Calls Try.prog 14 #[.string (mkB l)] w (VecsPost l w) := by
  have hsz := mkB_size l
  have hl2 : (l.length : Int) ≤ 140737488351232 := by omega
  have h7 : bits BinOp.and IntKind.i64 (l.length : Int) 7 = ((l.length % 8 : Nat) : Int) := and7 _ hl
  by_cases c1 : l.length % 8 = 0
  · by_cases c2 : l.length ≤ 128
    · have hF : Hid (vecsF l = vecsG (l.length / 8) l 65536) := Lib.hid (by rw [vecsF, vecsOk, decide_eq_true c1, decide_eq_true c2]; rfl)
      have h128 : decide (128 < l.length) = false := decide_eq_false (by omega)
      have h128' : decide (128 < (l.length : Int)) = false := decide_eq_false (by omega)
      have h7' : (((l.length % 8 : Nat) : Int) != 0) = false := by rw [c1]; rfl
      have h7'' : bits BinOp.and IntKind.i64 (l.length : Int) 7 = 0 := by rw [h7, c1]; rfl
      obtain ⟨i0, hi, hz0, hz1, hz2⟩ := info_parts vec_info
      have C1 := Lib.hid c1; have C2 := Lib.hid c2
      clear h7 c1 c2 h7' hl
      go_enter Try.func14, Try.ntmps14
      go_wp2
      clear h7'' h128 h128' hl2 hsz
      go_loopw [4, 5, 6] (fun v lf x wr => ∃ (done : List (Nat × Nat)) (r : List UInt8) (left : Nat), x = .string (mkB r) ∧ lf = .int .u32 (left : Nat) ∧ Hid (wr.ownsRow w.heap.size 47 2 v done.length (vecV done)) ∧ Hid (Below w.heap.size w wr) ∧
        Hid (vecsG (l.length / 8) l 65536 = (vecsG (r.length / 8) r left).map (done ++ ·) ∧ r.length % 8 = 0 ∧ left ≤ 65536 ∧ r.length + 8 * done.length ≤ 128)) (fun _ _ x _ => strLen x)
      case atStart => exact ⟨[], l, 65536, rfl, rfl, Lib.hid (World.ownsRow_nil _ _ _ _), Lib.hid (Below.refl _ _), Lib.hid ⟨by simp, C1.out, Nat.le_refl _, by have := C2.out; simpa using this⟩⟩
      case round =>
        obtain ⟨done, r, left, rfl, rfl, H1, H2, H3⟩ := hrel
        have hsz := mkB_size r
        cases hr0 : r with
        | nil =>
          subst hr0
          have he : (mkB []).toList = [] := bytes_toList []
          have hres : Hid (vecsF l = some done) := Lib.hid (by rw [hF.out, H3.out.1]; simp [vecsG])
          go_wp2
          go_ret2
          exact ⟨⟨_, by rw [hres.out]; rfl, .inl ⟨done, hres.out, H1.out⟩⟩, H2.out⟩
        | cons b0 r0 =>
          have hne : Hid (r ≠ []) := Lib.hid (by rw [hr0]; simp)
          rw [← hr0]
          clear hr0
          have hlen8 : 8 ≤ r.length := by
            have h1 := H3.out.2.1
            have h2 : r.length ≠ 0 := fun h => hne.out (List.length_eq_zero_iff.1 h)
            omega
          have hi8 : (8 : Int) ≤ (r.length : Int) := by omega
          have hi4 : (4 : Int) ≤ (r.length : Int) := by omega
          have hlenb : r.length ≤ 128 := by have := H3.out.2.2.2; omega
          have hdl : done.length ≤ 16 := by have := H3.out.2.2.2; omega
          have hleft : left ≤ 65536 := H3.out.2.2.1
          have he1 : (mkB r).toList.isEmpty = false := by rw [bytes_toList]; cases r <;> simp_all
          have he2 : ((mkB r).toList == []) = false := by rw [bytes_toList]; cases r <;> simp_all
          have hx4 : (mkB r).extract 4 r.length = mkB (r.drop 4) := by have := mkB_drop r 4; rwa [mkB_size] at this
          have hx8 : (mkB r).extract 8 r.length = mkB (r.drop 8) := by have := mkB_drop r 8; rwa [mkB_size] at this
          obtain ⟨x, hx⟩ : ∃ x, x = wordN r := ⟨_, rfl⟩
          obtain ⟨y, hy⟩ : ∃ y, y = wordN (r.drop 4) := ⟨_, rfl⟩
          have hxb : (x : Int) ≤ 4294967295 := by have := wordN_lt r; omega
          have hyb : (y : Int) ≤ 4294967295 := by have := wordN_lt (r.drop 4); omega
          have HX := Lib.hid hx; have HY := Lib.hid hy
          have W1 : Hid (4 ≤ r.length ∧ r.length ≤ 140737488351232) := Lib.hid (by omega)
          have W2 : Hid (4 ≤ (r.drop 4).length ∧ (r.drop 4).length ≤ 140737488351232) := Lib.hid (by rw [List.length_drop]; omega)
          have hstep : Hid (vecsG (r.length / 8) r left = if y > left then none else (vecsG ((r.drop 8).length / 8) (r.drop 8) (left - y)).map ((x, y) :: ·)) := Lib.hid (by rw [vecsG_step hlen8, hx, hy])
          clear hx hy
          go_upto_region 8 with fail
          go_cut [7] (fun s7 wx => ∃ g : Nat, s7 = .pointer (some ⟨g, 0, none⟩) ∧ w.heap.size ≤ g ∧ wx.heap[g]? = some (.cells #[.int .u32 x, .int .u32 y] 47) ∧ Below wr.heap.size wr wx)
          case first =>
            go_region_held3 (fun w' => Below wr.heap.size wr w') ((first | assumption | exact Below.trans (by assumption) (Below.mono (by assumption) (Below.size (by assumption))) | (refine below_realloc ?_ ?_ ?_; assumption; omega; omega) | ((repeat' (first | assumption | exact Below.refl _ _ | refine Below.drew ?_ | refine Below.setCell ?_ ?_ _ | refine Below.alloc ?_ ?_ _)); all_goals (first | assumption | omega | (simp only [heap_len]; done) | (simp only [heap_len]; omega) | (simp <;> omega)))))
              (first
                | (go_at_call_of 30 (Value.string (mkB r)); refine (word_any r W1.out.1 W1.out.2 _).mono ?_; rintro e w1 ⟨rfl, hb1⟩; rw [← HX.out]; have s1 : Below wr.heap.size wr w1 := below_then (by assumption) hb1; have z1 := s1.size; have q1 := (bcell hb1).1; have f1 := (bcell hb1).2; have y1 := hb1.size; (try simp at y1); (try have u1 : wr.heap.size < w1.heap.size := by omega))
                | (go_at_call_of 30 (Value.string (mkB (r.drop 4))); refine (word_any (r.drop 4) W2.out.1 W2.out.2 _).mono ?_; rintro e w2 ⟨rfl, hb2⟩; rw [← HY.out]; have s2 : Below wr.heap.size wr w2 := below_then (by assumption) hb2; have z2 := s2.size; have q2 := (bcell hb2).1; have f2 := (bcell hb2).2; have y2 := hb2.size; (try simp at y2); (try have u2 : wr.heap.size < w2.heap.size := by omega)))
            all_goals (go_wp2; go_meet)
            all_goals (refine ⟨_, rfl, by have := H2.out.size; omega, ?_, by (first | assumption | exact Below.trans (by assumption) (Below.mono (by assumption) (Below.size (by assumption))) | (refine below_realloc ?_ ?_ ?_; assumption; omega; omega) | ((repeat' (first | assumption | exact Below.refl _ _ | refine Below.drew ?_ | refine Below.setCell ?_ ?_ _ | refine Below.alloc ?_ ?_ _)); all_goals (first | assumption | omega | (simp only [heap_len]; done) | (simp only [heap_len]; omega) | (simp <;> omega))))⟩)
            all_goals (try refine two_set (u := .int .u32 0) (v := .int .u32 0) ?_)
            all_goals (first
              | exact heap_new _ _ _ rfl
              | (rw [hb2.block _ (by (first | omega | (simp only [heap_len]; omega) | exact Nat.lt_of_lt_of_eq (Nat.lt_succ_self _) (heap_len _ _).symm))]; exact heap_new _ _ _ rfl)
              | (rw [hb1.block _ (by (first | omega | (simp only [heap_len]; omega) | exact Nat.lt_of_lt_of_eq (Nat.lt_succ_self _) (heap_len _ _).symm))]; exact heap_new _ _ _ rfl)
              | (rw [hb2.block _ (by (first | omega | (simp only [heap_len]; omega) | exact Nat.lt_of_lt_of_eq (Nat.lt_succ_self _) (heap_len _ _).symm)), hb1.block _ (by (first | omega | (simp only [heap_len]; omega) | exact Nat.lt_of_lt_of_eq (Nat.lt_succ_self _) (heap_len _ _).symm))]; exact heap_new _ _ _ rfl)
              | (rw [hb1.block _ (by (first | omega | (simp only [heap_len]; omega) | exact Nat.lt_of_lt_of_eq (Nat.lt_succ_self _) (heap_len _ _).symm)), hb2.block _ (by (first | omega | (simp only [heap_len]; omega) | exact Nat.lt_of_lt_of_eq (Nat.lt_succ_self _) (heap_len _ _).symm))]; exact heap_new _ _ _ rfl))
          case rest =>
            obtain ⟨g, rfl, hg1, hg2, hb⟩ := hcut
            have HB : Hid (Below w.heap.size w wc) := Lib.hid (H2.out.trans (hb.mono (H2.out.size)))
            have HO : Hid (wc.ownsRow w.heap.size 47 2 u4 done.length (vecV done)) := Lib.hid (own_below H1.out hb)
            have g0 : wc.cell? ⟨g, 0, none⟩ = some (.int .u32 x) := cell_at hg2 rfl
            have g1 : wc.cell? ⟨g, 1, none⟩ = some (.int .u32 y) := cell_at hg2 rfl
            have gf : wc.frozen? ⟨g, 0, none⟩ = false := free_at hg2
            have gl : g < wc.heap.size := heap_lt hg2
            clear hg2 hb
            by_cases hgt : left < y
            · have hres : Hid (vecsF l = none) := Lib.hid (by rw [hF.out, H3.out.1, hstep.out, if_pos hgt]; rfl)
              go_wp2
              go_ret2
              exact ⟨⟨_, by rw [hres.out]; rfl, .inr ⟨hres.out, rfl⟩⟩, HB.out⟩
            · have hres : Hid (vecsG (l.length / 8) l 65536 = (vecsG ((r.drop 8).length / 8) (r.drop 8) (left - y)).map ((done ++ [(x, y)]) ++ ·)) := Lib.hid (by
                rw [H3.out.1, hstep.out, if_neg hgt, Option.map_map]
                congr 1
                funext t
                simp)
              go_wp2_with (at_builtin; refine wpList_append_own _ rfl _ _ 43 rfl w.heap.size 47 i0 _ 2 8 Try.underlying43 hi hz0 hz1 hz2 rfl (by decide) _ _ _ rfl (HO.out.alloc _) ⟨wc.heap.size, 0, none⟩ 1 1 [.int .u32 (x : Nat), .int .u32 (y : Nat)] rfl rfl ?c1 ?c2 ?c3 ?c4 ?c5 ?_)
              case c1 =>
                intro j u hj
                match j, hj with
                | 0, hj => simp at hj; subst hj; simp [Addr.add]
                | 1, hj => simp at hj; subst hj; simp [Addr.add]
              case c2 => intro u hu; simp at hu; rcases hu with rfl | rfl <;> rfl
              case c3 => unfold maxLen; omega
              case c4 => omega
              case c5 => have := HB.out.size; simp; omega
              intro v' w2 hown' hgrow _
              have K1 : Hid (w2.ownsRow w.heap.size 47 2 v' (done ++ [(x, y)]).length (vecV (done ++ [(x, y)]))) := Lib.hid (by
                have h1 : vecV (done ++ [(x, y)]) = vecV done ++ [.int .u32 (x : Nat), .int .u32 (y : Nat)] := by simp [vecV]
                rw [h1, List.length_append]; exact hown')
              have K2 : Hid (Below w.heap.size w w2) := Lib.hid ((HB.out.alloc (by have := HB.out.size; omega) _).grown hgrow (by have := HB.out.size; simp; omega) (fun k hk => (HO.out.lt k hk).1))
              clear hown' hgrow
              have hle : y ≤ left := by omega
              go_wp2
              go_roundw
              case rel => exact ⟨done ++ [(x, y)], r.drop 8, left - y, rfl, by go_num, K1, K2, Lib.hid ⟨hres.out, by have := H3.out.2.1; rw [List.length_drop]; omega, by omega, by have := H3.out.2.2.2; rw [List.length_drop, List.length_append]; simp; omega⟩⟩
              case measure => simp [strLen, mkB_size]; omega
    · have hF : Hid (vecsF l = none) := Lib.hid (by rw [vecsF, vecsOk, decide_eq_false c2, Bool.and_false]; rfl)
      have h128 : 128 < l.length := by omega
      have h128' : (128 : Int) < (l.length : Int) := by omega
      have h7'' : bits BinOp.and IntKind.i64 (l.length : Int) 7 = 0 := by rw [h7, c1]; rfl
      clear h7 c1 c2
      go_enter Try.func14, Try.ntmps14
      go_wp2
      go_ret2
      exact ⟨⟨_, by rw [hF.out]; rfl, .inr ⟨hF.out, rfl⟩⟩, Below.refl _ _⟩
  · have hF : Hid (vecsF l = none) := Lib.hid (by rw [vecsF, vecsOk, decide_eq_false c1, Bool.false_and]; rfl)
    obtain ⟨m, hm⟩ : ∃ m, m = l.length % 8 := ⟨_, rfl⟩
    rw [← hm] at h7
    have h7' : ((m : Int) != 0) = true := by
      rw [bne_iff_ne]; omega
    clear c1 hm
    go_enter Try.func14, Try.ntmps14
    go_wp2
    go_ret2
    exact ⟨⟨_, by rw [hF.out]; rfl, .inr ⟨hF.out, rfl⟩⟩, Below.refl _ _⟩
end Go.Proofs.Ytofeamajoahjmaa
