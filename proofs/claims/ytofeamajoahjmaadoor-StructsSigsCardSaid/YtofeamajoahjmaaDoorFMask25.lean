/-
  structs.Mask, Action, PutAction: signals and actions as bytes.
-/
import Derived.Test.YtofeamajoahjmaaDoorFTrim
import Derived.Test.YtofeamajoahjmaaDoorFAwake25
namespace Go.Proofs.YtofeamajoahjmaaDoor
open Go Go.RowKit
set_option linter.unusedVariables false
set_option linter.unusedSimpArgs false

def maskOk (l : List UInt8) : Bool := decide (l.length = 16) && (trimL (trimR (l.drop 8))).isEmpty
def maskV (l : List UInt8) : Nat := if maskOk l then wordN (l.drop 4) * 4294967296 + wordN l else 0

set_option maxHeartbeats 2000000 in
set_option maxRecDepth 100000 in
theorem sMask (l : List UInt8) (hl : l.length ≤ 140737488351232) (w : World) :
    Calls Tryd.prog 16 #[.string (mkB l)] w fun e w' => e = .returned (.tuple #[.int .u64 (maskV l : Nat), .bool (maskOk l)]) ∧ Below w.heap.size w w' := by
  have hsz := mkB_size l
  by_cases c1 : l.length = 16
  · have hx : (mkB l).extract 8 16 = mkB (l.drop 8) := by have := mkB_drop l 8; rwa [mkB_size, c1] at this
    have hy : (mkB l).extract 4 16 = mkB (l.drop 4) := by have := mkB_drop l 4; rwa [mkB_size, c1] at this
    have hdl : (l.drop 8).length = 8 := by rw [List.length_drop]; omega
    have HD : Hid ((l.drop 8).length ≤ 140737488351232 ∧ l.drop 8 ≠ []) := Lib.hid ⟨by omega, by intro e; rw [e] at hdl; simp at hdl⟩
    have HL := Lib.hid hl
    have HC := Lib.hid c1
    have HOK : Hid (maskOk l = (trimL (trimR (l.drop 8))).isEmpty) := Lib.hid (by rw [maskOk, decide_eq_true c1]; rfl)
    have hsz16 : (mkB l).size = 16 := by rw [hsz, c1]
    obtain ⟨T, hT⟩ : ∃ T, T = trimL (trimR (l.drop 8)) := ⟨_, rfl⟩
    have HT := Lib.hid hT
    clear hT hdl hl hsz c1
    cases hTe : T with
    | nil =>
      have he : (mkB []).toList = [] := bytes_toList []
      have HOK2 : Hid (maskOk l = true) := Lib.hid (by rw [HOK.out, ← HT.out, hTe]; rfl)
      have hw1 := wordN_lt l
      have hw2 := wordN_lt (l.drop 4)
      have HV : Hid (maskV l = wordN (l.drop 4) * 4294967296 + wordN l) := Lib.hid (by rw [maskV, if_pos HOK2.out])
      obtain ⟨a, ha⟩ : ∃ a, a = wordN (l.drop 4) := ⟨_, rfl⟩
      obtain ⟨b, hb⟩ : ∃ b, b = wordN l := ⟨_, rfl⟩
      rw [← ha] at hw2 HV
      rw [← hb] at hw1 HV
      have hor : bits BinOp.or .u64 ((a : Int) * 4294967296) (b : Int) = ((a * 4294967296 + b : Nat) : Int) := by
        have h1 : ((a : Int) * 4294967296) = ((a * 4294967296 : Nat) : Int) := by simp
        rw [h1, u64_or_nat _ _ (by omega) (by omega)]
        have := Nat.shiftLeft_add_eq_or_of_lt (b := b) (i := 32) (by simpa using hw1) a
        rw [Nat.shiftLeft_eq] at this
        rw [show (4294967296 : Nat) = 2 ^ 32 from rfl, this]
      have hwr : IntKind.u64.wrap ((a : Int) * 4294967296) = (a : Int) * 4294967296 := by rw [IntKind.wrap_u64]; omega
      have HA := Lib.hid ha; have HB := Lib.hid hb
      clear ha hb
      have ha2 : (a : Int) ≤ 4294967295 := by omega
      have hb2 : (b : Int) ≤ 4294967295 := by omega
      clear hw1 hw2
      go_enter Tryd.func16, Tryd.ntmps16
      go_wp2_with (first
        | (go_at_call 30; refine (sTrim _ HD.out.1 HD.out.2 _).mono ?_; rintro e w1 ⟨rfl, hb1⟩; rw [← HT.out, hTe])
        | (go_at_call_of 31 (Value.string (mkB (l.drop 4))); refine (word_any (l.drop 4) (by have := HC.out; rw [List.length_drop]; omega) (by have := HC.out; rw [List.length_drop]; omega) _).mono ?_; rintro e w2 ⟨rfl, hb2'⟩; rw [← HA.out])
        | (go_at_call_of 31 (Value.string (mkB l)); refine (word_any l (by have := HC.out; omega) (by have := HC.out; omega) _).mono ?_; rintro e w3 ⟨rfl, hb3⟩; rw [← HB.out]))
      go_ret2
      exact ⟨by rw [HOK2.out, HV.out]; rfl, below_then (below_then hb1 hb2') hb3⟩
    | cons c t =>
      have HOK2 : Hid (maskOk l = false) := Lib.hid (by rw [HOK.out, ← HT.out, hTe]; rfl)
      have HV : Hid (maskV l = 0) := Lib.hid (by rw [maskV, HOK2.out]; rfl)
      have he1 : (mkB (c :: t)).toList.isEmpty = false := by rw [bytes_toList]; rfl
      have he2 : ((mkB (c :: t)).toList == []) = false := by rw [bytes_toList]; rfl
      go_enter Tryd.func16, Tryd.ntmps16
      go_wp2_with (go_at_call 30; refine (sTrim _ HD.out.1 HD.out.2 _).mono ?_; rintro e w1 ⟨rfl, hb1⟩; rw [← HT.out, hTe])
      go_ret2
      exact ⟨by rw [HOK2.out, HV.out]; rfl, hb1⟩
  · have HOK : Hid (maskOk l = false) := Lib.hid (by rw [maskOk, decide_eq_false c1]; rfl)
    have HV : Hid (maskV l = 0) := Lib.hid (by rw [maskV, HOK.out]; rfl)
    have hne : ((l.length : Int) != 16) = true := by simp; omega
    clear c1
    go_enter Tryd.func16, Tryd.ntmps16
    go_wp2
    go_ret2
    exact ⟨by rw [HOK.out, HV.out]; rfl, Below.refl _ _⟩

def actOk (l : List UInt8) : Bool := decide (l.length = 24) && maskOk (l.drop 8)
def actC (x y v : Int) : Array Value := #[.int .u32 x, .int .u32 y, .int .u64 v]
def actA (l : List UInt8) : Array Value := if actOk l then actC (wordN l) (wordN (l.drop 4)) (maskV (l.drop 8)) else actC 0 0 0
theorem act_row {W : World} {b : Nat} {T : TypeId} {fr : Nat × Nat} {x y v : Int} (h : W.heap[b]? = some (.cells (actC 0 0 0) T fr)) :
    (((W.setCell ⟨b, 0, none⟩ (.int .u32 x)).setCell ⟨b, 1, none⟩ (.int .u32 y)).setCell ⟨b, 2, none⟩ (.int .u64 v)).heap[b]? = some (.cells (actC x y v) T fr) := by
  rw [heap_set (heap_set (heap_set h))]; rfl
theorem act_agg : isAggB Tryd.prog 25 = true := by kernel_rfl
theorem act_size : (Tryd.prog.info? 25).map (·.size) = some 3 := by kernel_rfl

set_option maxHeartbeats 800000 in
set_option maxRecDepth 100000 in
theorem sAction (l : List UInt8) (hl : l.length ≤ 140737488351232) (w : World) :
    Calls Tryd.prog 18 #[.string (mkB l)] w fun e w' => e = .returned (.tuple #[.agg (actA l), .bool (actOk l)]) ∧ Below w.heap.size w w' := by
  have hsz := mkB_size l
  by_cases c1 : l.length = 24
  · have hx : (mkB l).extract 8 24 = mkB (l.drop 8) := by have := mkB_drop l 8; rwa [mkB_size, c1] at this
    have hy : (mkB l).extract 4 24 = mkB (l.drop 4) := by have := mkB_drop l 4; rwa [mkB_size, c1] at this
    have hsz24 : (mkB l).size = 24 := by rw [hsz, c1]
    have HC := Lib.hid c1
    have HOK : Hid (actOk l = maskOk (l.drop 8)) := Lib.hid (by rw [actOk, decide_eq_true c1]; rfl)
    clear hl hsz c1
    obtain ⟨v, hv⟩ : ∃ v, v = maskV (l.drop 8) := ⟨_, rfl⟩
    obtain ⟨ok, hok⟩ : ∃ ok, ok = maskOk (l.drop 8) := ⟨_, rfl⟩
    have HV := Lib.hid hv; have HO := Lib.hid hok
    clear hv hok
    cases okc : ok
    · have HOK2 : Hid (actOk l = false) := Lib.hid (by rw [HOK.out, ← HO.out, okc])
      have HA : Hid (actA l = actC 0 0 0) := Lib.hid (by rw [actA, HOK2.out]; rfl)
      go_enter Tryd.func18, Tryd.ntmps18
      go_upto_region 4 with (go_at_call 16; refine (sMask (l.drop 8) (by have := HC.out; rw [List.length_drop]; omega) _).mono ?_; rintro e w1 ⟨rfl, hb1⟩; rw [← HV.out, ← HO.out, okc])
      have g1 : Hid (w1.heap[w.heap.size]? = some (.cells (actC 0 0 0) 25)) := Lib.hid ((hb1.block _ (by simp only [heap_len]; omega)).trans (heap_new _ _ _ rfl))
      have HB1 : Hid (Below w.heap.size w w1) := Lib.hid (((Below.refl _ _).alloc (Nat.le_refl _) _).trans (hb1.mono (by simp only [heap_len]; omega)))
      have k0 := cell_at (o := 0) (v := .int .u32 0) g1.out rfl
      have k1 := cell_at (o := 1) (v := .int .u32 0) g1.out rfl
      have k2 := cell_at (o := 2) (v := .int .u64 0) g1.out rfl
      have f0 := free_at (o := 0) g1.out
      have f1 := free_at (o := 1) g1.out
      have f2 := free_at (o := 2) g1.out
      clear hb1
      go_wp2
      refine bodyPost_ret (res_cell_tmp rfl (cs := actC 0 0 0) rfl (heap_set (heap_set (heap_set g1.out))) act_agg act_size) rfl ?_
      exact ⟨by rw [HOK2.out, HA.out]; rfl, ((HB1.out.setCell (Nat.le_refl _) _).setCell (Nat.le_refl _) _).setCell (Nat.le_refl _) _⟩
    · have HOK2 : Hid (actOk l = true) := Lib.hid (by rw [HOK.out, ← HO.out, okc])
      obtain ⟨x, hxx⟩ : ∃ x, x = wordN l := ⟨_, rfl⟩
      obtain ⟨y, hyy⟩ : ∃ y, y = wordN (l.drop 4) := ⟨_, rfl⟩
      have HA : Hid (actA l = actC x y v) := Lib.hid (by rw [actA, HOK2.out, hxx, hyy, HV.out]; rfl)
      have HX := Lib.hid hxx; have HY := Lib.hid hyy
      clear hxx hyy
      go_enter Tryd.func18, Tryd.ntmps18
      go_upto_region 6 with (go_at_call 16; refine (sMask (l.drop 8) (by have := HC.out; rw [List.length_drop]; omega) _).mono ?_; rintro e w1 ⟨rfl, hb1⟩; rw [← HV.out, ← HO.out, okc])
      have g1 : Hid (w1.heap[w.heap.size]? = some (.cells (actC 0 0 0) 25)) := Lib.hid ((hb1.block _ (by simp only [heap_len]; omega)).trans (heap_new _ _ _ rfl))
      have HB1 : Hid (Below w.heap.size w w1) := Lib.hid (((Below.refl _ _).alloc (Nat.le_refl _) _).trans (hb1.mono (by simp only [heap_len]; omega)))
      clear hb1
      obtain ⟨b, hb⟩ : ∃ b, b = w.heap.size := ⟨_, rfl⟩
      rw [← hb] at g1 ⊢
      have HBB := Lib.hid hb
      clear hb
      have facts : ∀ (W W' : World), W.heap[b]? = some (.cells (actC 0 0 0) 25) → Below W.heap.size W W' → W'.heap[b]? = some (.cells (actC 0 0 0) 25) ∧ W'.cell? ⟨b, 0, none⟩ = some (.int .u32 0) ∧ W'.cell? ⟨b, 1, none⟩ = some (.int .u32 0) ∧ W'.cell? ⟨b, 2, none⟩ = some (.int .u64 0) ∧ W'.frozen? ⟨b, 0, none⟩ = false ∧ W'.frozen? ⟨b, 1, none⟩ = false ∧ W'.frozen? ⟨b, 2, none⟩ = false := fun W W' h hb => by
        have h' := (hb.block _ (heap_lt h)).trans h
        exact ⟨h', cell_at h' rfl, cell_at h' rfl, cell_at h' rfl, free_at h', free_at h', free_at h'⟩
      have FA := Lib.hid facts
      clear facts
      have g0 : Hid (w1.drew.heap[b]? = some (.cells (actC 0 0 0) 25)) := Lib.hid g1.out
      have B0 : Hid (Below w.heap.size w w1.drew) := Lib.hid HB1.out.drew
      go_region_with (first
        | (go_at_call_of 31 (Value.string (mkB l)); refine (word_any l (by have := HC.out; omega) (by have := HC.out; omega) _).mono ?_; rintro e w3 ⟨rfl, hb3⟩; rw [← HX.out]; first
            | (obtain ⟨z3, za, zb, zc, zd, ze, zf⟩ := FA.out _ _ g0.out hb3; have Z3 := Lib.hid z3; have B3 : Hid (Below w.heap.size w w3) := Lib.hid (B0.out.trans (hb3.mono B0.out.size)))
            | (obtain ⟨z3, za, zb, zc, zd, ze, zf⟩ := FA.out _ _ Z4.out hb3; have Z3 := Lib.hid z3; have B3 : Hid (Below w.heap.size w w3) := Lib.hid (B4.out.trans (hb3.mono B4.out.size))))
        | (go_at_call_of 31 (Value.string (mkB (l.drop 4))); refine (word_any (l.drop 4) (by have := HC.out; rw [List.length_drop]; omega) (by have := HC.out; rw [List.length_drop]; omega) _).mono ?_; rintro e w4 ⟨rfl, hb4⟩; rw [← HY.out]; first
            | (obtain ⟨z4, ya, yb, yc, yd, ye, yf⟩ := FA.out _ _ g0.out hb4; have Z4 := Lib.hid z4; have B4 : Hid (Below w.heap.size w w4) := Lib.hid (B0.out.trans (hb4.mono B0.out.size)))
            | (obtain ⟨z4, ya, yb, yc, yd, ye, yf⟩ := FA.out _ _ Z3.out hb4; have Z4 := Lib.hid z4; have B4 : Hid (Below w.heap.size w w4) := Lib.hid (B3.out.trans (hb4.mono B3.out.size)))))
      go_wp2
      refine bodyPost_ret (res_cell_tmp rfl (cs := actC x y v) rfl (act_row Z4.out) act_agg act_size) rfl ?_
      exact ⟨by rw [HOK2.out, HA.out]; rfl, ((B4.out.setCell (p := ⟨b, 0, none⟩) (Nat.le_of_eq HBB.out.symm) _).setCell (p := ⟨b, 1, none⟩) (Nat.le_of_eq HBB.out.symm) _).setCell (p := ⟨b, 2, none⟩) (Nat.le_of_eq HBB.out.symm) _⟩
  · have HOK : Hid (actOk l = false) := Lib.hid (by rw [actOk, decide_eq_false c1]; rfl)
    have HA : Hid (actA l = actC 0 0 0) := Lib.hid (by rw [actA, HOK.out]; rfl)
    have hne : ((l.length : Int) != 24) = true := by simp; omega
    clear c1
    go_enter Tryd.func18, Tryd.ntmps18
    go_wp2
    refine bodyPost_ret (res_cell_tmp rfl (cs := actC 0 0 0) rfl (heap_new _ _ _ rfl) act_agg act_size) rfl ?_
    exact ⟨by rw [HOK.out, HA.out]; rfl, (Below.refl _ _).alloc (Nat.le_refl _) _⟩

theorem bld_new1 {T : TypeId} (w : World) (o : Obj) : IsBld T (w.heap.size + 1) (w.heap.size + 1) [] ((w.alloc o).alloc (.cells #[.pointer none, .slice none 0 0] T)) := by
  have := bld_new (T := T) (w.alloc o)
  rwa [heap_len] at this
/-- An action as bytes. -/
def actB (x y v : Nat) : List UInt8 := wordsB 4 [x, y] ++ maskB v

set_option maxHeartbeats 1000000 in
set_option maxRecDepth 100000 in
theorem sPutAction (x y v : Nat) (hx : x < 4294967296) (hy : y < 4294967296) (hv : v < 18446744073709551616) (w : World) :
    Calls Tryd.prog 22 #[.agg (actC x y v)] w fun e w' => e = .returned (.string (mkB (actB x y v))) ∧ Below w.heap.size w w' := by
  have HAB : Hid (AllU [x, y]) := Lib.hid (fun z hz => by
    simp only [List.mem_cons, List.not_mem_nil, or_false] at hz
    rcases hz with rfl | rfl
    · omega
    · omega)
  have hx2 : (x : Int) ≤ 4294967295 := by omega
  have hy2 : (y : Int) ≤ 4294967295 := by omega
  have HV := Lib.hid hv
  clear hx hy hv
  have a0 : (actC x y v)[0]? = some (.int .u32 x) := rfl
  have a1 : (actC x y v)[1]? = some (.int .u32 y) := rfl
  have a2 : (actC x y v)[2]? = some (.int .u64 v) := rfl
  go_enter Tryd.func22, Tryd.ntmps22
  go_upto_region 3 with (go_at_call 33; refine (put_any (w.heap.size + 1) (w.heap.size + 1) (w.heap.size + 1 + 1) 4 [x, y] HAB.out [] (by simp) _ _ (rowU_of (heap_new _ _ _ (by simp only [heap_len])) (by simp)) (by omega) (bld_alloc (bld_new1 w _) _) (by simp only [heap_len]; omega)).mono ?_; rintro e w2 ⟨rfl, k1, k2, k3⟩)
  have K1 := Lib.hid k1
  have hz2 : w.heap.size + 1 ≤ w2.heap.size := by have := k2.size; simp only [heap_len] at this; omega
  have HZ := Lib.hid hz2
  have G2 : Hid (w2.heap[w.heap.size]? = some (.cells (actC x y v) 25)) := Lib.hid ((k2.block _ (by omega)).trans ((heap_old _ _ _ (by simp only [heap_len]; omega)).trans ((heap_old _ _ _ (by simp only [heap_len]; omega)).trans (heap_new _ _ _ rfl))))
  have K2 : Hid (Below w.heap.size w w2) := Lib.hid (((((Below.refl _ w).alloc (Nat.le_refl _) _).alloc (by rw [heap_len]; omega) _).alloc (by simp only [heap_len]; omega) _).trans ⟨k2.os, k2.tape, k2.output, k2.size, fun k hk => k2.block k (by omega)⟩)
  have c2 : w2.cell? ⟨w.heap.size, 2, none⟩ = some (.int .u64 v) := cell_at G2.out a2
  clear k1 k2 k3 hz2 a0 a1
  have hA := mkB_append
  have T1 : Hid (Calls Tryd.prog 34 #[.pointer (some ⟨w.heap.size + 1, 0, none⟩)] w2.drew fun e w3 => e = .returned (.string (mkB (wordsB 4 [x, y]))) ∧ w3.cell? ⟨w.heap.size, 2, none⟩ = some (.int .u64 v) ∧ Hid (Below w.heap.size w w3)) := Lib.hid (by
    refine (bstr_any _ _ _ w2.drew (bld_blocks K1.out fun _ _ _ _ e => e) HZ.out).mono ?_
    rintro e w3 ⟨rfl, _, hb3, _⟩
    exact ⟨rfl, cell_at ((hb3.block _ (Nat.lt_succ_self _)).trans G2.out) a2, Lib.hid (K2.out.drew.trans ⟨hb3.os, hb3.tape, hb3.output, hb3.size, fun k hk => hb3.block k (by omega)⟩)⟩)
  clear a2
  have hZ := mkB_size
  have hg1 : ¬ 9223372036854775807 < (wordsB 4 [x, y]).length + (maskB v).length := by
    have h1 := wordsB_length 4 [x, y]
    have h2 := wordsB_length 4 [v, v / 4294967296, 0, 0]
    rw [maskB]
    simp only [List.length_cons, List.length_nil] at h1 h2
    omega
  go_region_with (first
    | (go_at_call 34; refine T1.out.mono ?_; rintro e w3 ⟨rfl, c3, B3⟩)
    | (go_at_call 20; refine (putMask_any v HV.out _).mono ?_; rintro e w4 ⟨rfl, hb4⟩))
  all_goals
    go_wp2
    go_ret
    exact ⟨by rw [actB]; rfl, B3.out.trans (hb4.mono B3.out.size)⟩
end Go.Proofs.YtofeamajoahjmaaDoor
