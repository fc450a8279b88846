/-
  The frame's writer: what stands of a signal, and of a processor.
-/
import Derived.Test.YtbaelhaajplbnaaFFrA
namespace Go.Proofs.Ytbaelhaajplbnaa
open Go Go.RowKit
set_option linter.unusedVariables false
set_option linter.unusedSimpArgs false

def infoB (n x altAt altSize : Nat) (on : Bool) : List UInt8 := wordsB 4 [n, 0, 0, x] ++ List.replicate 112 0 ++ wordsB 4 [0, 0, altAt, altSize, if on then 0 else 2, 0]
theorem infoB_length (n x a z : Nat) (on : Bool) : (infoB n x a z on).length = 152 := by simp [infoB, wordsB4_length]

theorem words_new (B b : Nat) (W : World) (vs : List Nat) (m : List UInt8) (hvs : All32 vs) (hm : m.length ≤ 2000000) (hv : vs.length ≤ 100) (hbd : IsBld 60 B b m W) (hB : B ≤ W.heap.size) (hb : b < W.heap.size) :
    Calls Try.prog 32 #[.pointer (some ⟨b, 0, none⟩), .slice (some ⟨W.heap.size, 0, none⟩) vs.length vs.length] (W.alloc (.cells (vs.map fun n => Value.int .u32 (n : Nat)).toArray 22)) fun e w' => e = .returned (.tuple #[]) ∧
      (IsBld 60 B b (m ++ wordsB 4 vs) w' ∧ Below B W w' ∧ Lib.OthersKept 5 (some b) W w') := by
  refine (words_any B b W.heap.size 0 vs hvs m (by omega) _ vs.length (row32_of (heap_new _ _ _ rfl) (by decide) rfl) (by omega) (bld_alloc hbd _) (by rw [heap_len]; omega)).mono ?_
  rintro e w' ⟨rfl, k1, k2, k3⟩
  exact ⟨rfl, k1, ((Below.refl _ W).alloc hB _).trans k2, ((Lib.OthersKept.refl _ _ W).alloc _).trans k3⟩
theorem doubles_new (B b : Nat) (W : World) (vs : List Nat) (m : List UInt8) (hvs : All32 vs) (hm : m.length ≤ 2000000) (hv : vs.length ≤ 100) (hbd : IsBld 60 B b m W) (hB : B ≤ W.heap.size) (hb : b < W.heap.size) :
    Calls Try.prog 33 #[.pointer (some ⟨b, 0, none⟩), .slice (some ⟨W.heap.size, 0, none⟩) vs.length vs.length] (W.alloc (.cells (vs.map fun n => Value.int .u32 (n : Nat)).toArray 22)) fun e w' => e = .returned (.tuple #[]) ∧
      (IsBld 60 B b (m ++ wordsB 4 (dblL vs)) w' ∧ Below B W w' ∧ Lib.OthersKept 5 (some b) W w') := by
  refine (doubles_any B b W.heap.size 0 vs hvs m (by omega) _ vs.length (row32_of (heap_new _ _ _ rfl) (by decide) rfl) (by omega) (bld_alloc hbd _) (by rw [heap_len]; omega)).mono ?_
  rintro e w' ⟨rfl, k1, k2, k3⟩
  exact ⟨rfl, k1, ((Below.refl _ W).alloc hB _).trans k2, ((Lib.OthersKept.refl _ _ W).alloc _).trans k3⟩
/-- What goes with a writer through a walk. -/
structure Wr (B b : Nat) (w0 w : World) (l : List UInt8) : Prop where
  bld : IsBld 60 B b l w
  below : Below B w0 w
  kept : Lib.OthersKept 5 (some b) w0 w
  size : B ≤ w.heap.size
  lt : b < w.heap.size
theorem Wr.next {B b : Nat} {w0 w w' : World} {l m : List UInt8} (h : Wr B b w0 w l) (k : IsBld 60 B b m w' ∧ Below B w w' ∧ Lib.OthersKept 5 (some b) w w') : Wr B b w0 w' m :=
  ⟨k.1, h.below.trans k.2.1, h.kept.trans k.2.2, Nat.le_trans h.size k.2.1.size, Nat.lt_of_lt_of_le h.lt k.2.1.size⟩
theorem Wr.row {B b : Nat} {w0 w : World} {l : List UInt8} (h : Wr B b w0 w l) {k : Nat} {c : Array Value} {t : TypeId} {fr : Nat × Nat} (hk : w0.heap[k]? = some (.cells c t fr)) (hne : k ≠ b) (ht : t ≠ 5) : w.heap[k]? = some (.cells c t fr) :=
  h.kept _ _ hk (fun e => by cases e; exact hne rfl) (fun c fz e => by cases e; exact ht rfl)

set_option maxHeartbeats 4000000 in
set_option maxRecDepth 100000 in
theorem info_any (B b : Nat) (s : Array Value) (hs : Fits sigK s.toList) (n x a z : Nat) (hn : n < 4294967296) (hx : x < 4294967296) (ha : iat s 194 = a) (hz : iat s 195 = z) (l : List UInt8) (hl : l.length ≤ 1000000) (w : World) (h : IsBld 60 B b l w) (hBw : B ≤ w.heap.size) :
    Calls Try.prog 16 #[.pointer (some ⟨b, 0, none⟩), .agg s, .int .i64 (n : Nat), .int .u32 (x : Nat)] w fun e w' => e = .returned (.tuple #[]) ∧
      (IsBld 60 B b (l ++ infoB n x a z (bat s 196)) w' ∧ Below B w w' ∧ Lib.OthersKept 5 (some b) w w') := by
  have s194 := hs.iat (i := 194) rfl
  have s195 := hs.iat (i := 195) rfl
  have s196 := hs.bat (i := 196) rfl
  rw [wf_u32] at s194 s195
  obtain ⟨s194, s194a, s194b⟩ := s194
  obtain ⟨s195, s195a, s195b⟩ := s195
  rw [ha] at s194 s194b
  rw [hz] at s195 s195b
  have HB := Lib.hid h; have HBW := Lib.hid hBw; have HL := Lib.hid hl
  have HB32 : Hid (b < w.heap.size) := Lib.hid (by obtain ⟨c, hc⟩ := bld_heap h; exact heap_lt hc)
  have HN := Lib.hid hn; have HX := Lib.hid hx
  have HA : Hid (a < 4294967296) := Lib.hid (by omega)
  have HZ : Hid (z < 4294967296) := Lib.hid (by omega)
  have fn : IntKind.u32.wrap (n : Int) = (n : Int) := by rw [IntKind.wrap_u32']; omega
  obtain ⟨off, hoff⟩ : ∃ off : Nat, off = if bat s 196 then 0 else 2 := ⟨_, rfl⟩
  have HOFF := Lib.hid hoff
  have HW : Hid (∀ (W : World) (vs : List Nat) (m : List UInt8), All32 vs → m.length ≤ 2000000 → vs.length ≤ 100 → IsBld 60 B b m W → B ≤ W.heap.size → b < W.heap.size → Calls Try.prog 32 #[.pointer (some ⟨b, 0, none⟩), .slice (some ⟨W.heap.size, 0, none⟩) vs.length vs.length] (W.alloc (.cells (vs.map fun n => Value.int .u32 (n : Nat)).toArray 22)) fun e w' => e = .returned (.tuple #[]) ∧
      (IsBld 60 B b (m ++ wordsB 4 vs) w' ∧ Below B W w' ∧ Lib.OthersKept 5 (some b) W w')) := Lib.hid (fun W vs m hvs hm hv hbd hB hb => by
    refine (words_any B b W.heap.size 0 vs hvs m (by omega) _ vs.length (row32_of (heap_new _ _ _ rfl) (by decide) rfl) (by omega) (bld_alloc hbd _) (by rw [heap_len]; omega)).mono ?_
    rintro e w' ⟨rfl, k1, k2, k3⟩
    exact ⟨rfl, k1, ((Below.refl _ W).alloc hB _).trans k2, ((Lib.OthersKept.refl _ _ W).alloc _).trans k3⟩)
  clear h hBw hl hs ha hz hn hx hoff
  go_enter Try.func16, Try.ntmps16
  go_upto_region 1 with fail
  obtain ⟨W0, hW⟩ : ∃ W0, W0 = w.alloc (.cells s 40) := ⟨_, rfl⟩
  have H0 : Hid (W0.heap[w.heap.size]? = some (.cells s 40)) := Lib.hid (by rw [hW]; exact heap_new _ _ _ rfl)
  have HB0 : Hid (IsBld 60 B b l W0 ∧ Below B w W0 ∧ Lib.OthersKept 5 (some b) w W0 ∧ B ≤ W0.heap.size ∧ b < W0.heap.size) := Lib.hid (by rw [hW]; exact ⟨bld_alloc HB.out _, (Below.refl _ _).alloc HBW.out _, (Lib.OthersKept.refl _ _ w).alloc _, by rw [heap_len]; have := HBW.out; omega, by rw [heap_len]; have := HB32.out; omega⟩)
  rw [← hW]
  clear hW
  have HC1 := Lib.hid (HW.out W0 [n, 0, 0, x] l (fun y hy => by simp at hy; have := HN.out; have := HX.out; rcases hy with rfl | rfl | rfl <;> omega) (by have := HL.out; omega) (by simp) HB0.out.1 HB0.out.2.2.2.1 HB0.out.2.2.2.2)
  simp only [List.map_cons, List.map_nil, List.length_cons, List.length_nil] at HC1
  go_upto_region 2 with (go_at_call 32; refine HC1.out.mono ?_; rintro e w1 ⟨rfl, k1, k2, k3⟩)
  have G0 : Hid (w1.heap[w.heap.size]? = some (.cells s 40)) := Lib.hid (k3 _ _ H0.out (fun e => by have := HB32.out; cases e; omega) (fun c fz e => by cases e))
  have K1 : Hid (IsBld 60 B b (l ++ wordsB 4 [n, 0, 0, x]) w1 ∧ Below B w w1 ∧ Lib.OthersKept 5 (some b) w w1 ∧ B ≤ w1.heap.size ∧ b < w1.heap.size) := Lib.hid ⟨k1, HB0.out.2.1.trans k2, HB0.out.2.2.1.trans k3, Nat.le_trans HB0.out.2.2.2.1 k2.size, Nat.lt_of_lt_of_le HB0.out.2.2.2.2 k2.size⟩
  have HZ1 := Lib.hid (zeros_any B b 112 (by omega) (l ++ wordsB 4 [n, 0, 0, x]) (by rw [List.length_append, wordsB4_length]; have := HL.out; simp; omega) w1 K1.out.1 K1.out.2.2.2.1)
  clear k1 k2 k3 HC1 H0 HB0
  go_upto_region 3 with (go_at_call 15; refine HZ1.out.mono ?_; rintro e w2 ⟨rfl, k1, k2, k3⟩)
  have G2 : Hid (w2.heap[w.heap.size]? = some (.cells s 40)) := Lib.hid (k3 _ _ G0.out (fun e => by have := HB32.out; cases e; omega) (fun c fz e => by cases e))
  have K2 : Hid (IsBld 60 B b (l ++ wordsB 4 [n, 0, 0, x] ++ List.replicate 112 0) w2 ∧ Below B w w2 ∧ Lib.OthersKept 5 (some b) w w2 ∧ B ≤ w2.heap.size ∧ b < w2.heap.size) := Lib.hid ⟨k1, K1.out.2.1.trans k2, K1.out.2.2.1.trans k3, Nat.le_trans K1.out.2.2.2.1 k2.size, Nat.lt_of_lt_of_le K1.out.2.2.2.2 k2.size⟩
  have HC2 := Lib.hid (HW.out w2 [0, 0, a, z, off, 0] (l ++ wordsB 4 [n, 0, 0, x] ++ List.replicate 112 0) (fun y hy => by simp at hy; have := HA.out; have := HZ.out; have := HOFF.out; rcases hy with rfl | rfl | rfl | rfl | rfl <;> first | omega | (rw [this]; split <;> omega)) (by rw [List.length_append, List.length_append, wordsB4_length, List.length_replicate]; have := HL.out; simp; omega) (by simp) K2.out.1 K2.out.2.2.2.1 K2.out.2.2.2.2)
  simp only [List.map_cons, List.map_nil, List.length_cons, List.length_nil] at HC2
  clear k1 k2 k3 G0 K1 HZ1 HW
  have l0 := cell_at (o := 194) G2.out s194
  have l1 := cell_at (o := 195) G2.out s195
  have l2 := cell_at (o := 196) G2.out s196
  clear s194 s195 s196
  cases hon : bat s 196
  · rw [hon] at l2 HOFF
    have hof : off = 2 := by have := HOFF.out; simpa using this
    subst hof
    go_wp2_with (go_at_call 32; refine HC2.out.mono ?_; rintro e w3 ⟨rfl, k1, k2, k3⟩)
    go_end0
    exact ⟨rfl, by rw [infoB, hon, ← List.append_assoc, ← List.append_assoc]; exact k1, K2.out.2.1.trans k2, K2.out.2.2.1.trans k3⟩
  · rw [hon] at l2 HOFF
    have hof : off = 0 := by have := HOFF.out; simpa using this
    subst hof
    go_wp2_with (go_at_call 32; refine HC2.out.mono ?_; rintro e w3 ⟨rfl, k1, k2, k3⟩)
    go_end0
    exact ⟨rfl, by rw [infoB, hon, ← List.append_assoc, ← List.append_assoc]; exact k1, K2.out.2.1.trans k2, K2.out.2.2.1.trans k3⟩

def ctxB (slot pc next hi lo : Nat) (regs : List Nat) : List UInt8 := wordsB 4 [0, slot] ++ wordsB 4 (dblL [pc]) ++ wordsB 4 (dblL regs) ++ List.replicate 256 0 ++ wordsB 4 [next, 0, 0, 0, 0, 0] ++ wordsB 4 (dblL [hi, lo, 0, 0, 0])
theorem ctxB_length (slot pc next hi lo : Nat) (regs : List Nat) (h : regs.length = 32) : (ctxB slot pc next hi lo regs).length = 592 := by simp only [ctxB, List.length_append, wordsB4_length, dblL_length, List.length_replicate, h, List.length_cons, List.length_nil]
def regsL (c : Array Value) : List Nat := (List.range 32).map fun i => (iat c i).toNat

set_option maxHeartbeats 4000000 in
set_option maxRecDepth 100000 in
theorem context_any (B b : Nat) (c : Array Value) (hc : Fits cpuK c.toList) (l : List UInt8) (hl : l.length ≤ 1000000) (w : World) (h : IsBld 60 B b l w) (hBw : B ≤ w.heap.size) :
    Calls Try.prog 17 #[.pointer (some ⟨b, 0, none⟩), .agg c] w fun e w' => e = .returned (.tuple #[]) ∧
      (IsBld 60 B b (l ++ ctxB (if bat c 36 then 1 else 0) (iat c 34).toNat (iat c 35).toNat (iat c 32).toNat (iat c 33).toNat (regsL c)) w' ∧ Below B w w' ∧ Lib.OthersKept 5 (some b) w w') := by
  have c32 := hc.iat (i := 32) rfl
  have c33 := hc.iat (i := 33) rfl
  have c34 := hc.iat (i := 34) rfl
  have c35 := hc.iat (i := 35) rfl
  have c36 := hc.bat (i := 36) rfl
  rw [wf_u32] at c32 c33 c34 c35
  obtain ⟨c32, c32a, c32b⟩ := c32
  obtain ⟨c33, c33a, c33b⟩ := c33
  obtain ⟨c34, c34a, c34b⟩ := c34
  obtain ⟨c35, c35a, c35b⟩ := c35
  obtain ⟨hi, hhi⟩ : ∃ hi : Nat, hi = (iat c 32).toNat := ⟨_, rfl⟩
  obtain ⟨lo, hlo⟩ : ∃ lo : Nat, lo = (iat c 33).toNat := ⟨_, rfl⟩
  obtain ⟨pc, hpc⟩ : ∃ pc : Nat, pc = (iat c 34).toNat := ⟨_, rfl⟩
  obtain ⟨nx, hnx⟩ : ∃ nx : Nat, nx = (iat c 35).toNat := ⟨_, rfl⟩
  rw [show iat c 32 = (hi : Int) by omega] at c32
  rw [show iat c 33 = (lo : Int) by omega] at c33
  rw [show iat c 34 = (pc : Int) by omega] at c34
  rw [show iat c 35 = (nx : Int) by omega] at c35
  rw [← hhi, ← hlo, ← hpc, ← hnx]
  have HHI : Hid (hi < 4294967296) := Lib.hid (by omega)
  have HLO : Hid (lo < 4294967296) := Lib.hid (by omega)
  have HPC : Hid (pc < 4294967296) := Lib.hid (by omega)
  have HNX : Hid (nx < 4294967296) := Lib.hid (by omega)
  have HREG : Hid ((∀ i, i < 32 → ∃ v : Nat, v = (iat c i).toNat ∧ c[i]? = some (.int .u32 v) ∧ v < 4294967296)) := Lib.hid (fun i hi => by
    have hci := hc.iat (i := i) (k := .u32) (by
      have : ∀ j, j < 32 → cpuK[j]? = some (.i .u32) := by decide
      exact this i hi)
    rw [wf_u32] at hci
    exact ⟨(iat c i).toNat, rfl, by rw [hci.1]; congr 2; omega, by omega⟩)
  obtain ⟨slot, hslot⟩ : ∃ slot : Nat, slot = if bat c 36 then 1 else 0 := ⟨_, rfl⟩
  rw [← hslot]
  have HSL := Lib.hid hslot
  have HB := Lib.hid h; have HBW := Lib.hid hBw; have HL := Lib.hid hl
  have HB32 : Hid (b < w.heap.size) := Lib.hid (by obtain ⟨c, hc⟩ := bld_heap h; exact heap_lt hc)
  clear h hBw hl hc hhi hlo hpc hnx c32a c32b c33a c33b c34a c34b c35a c35b hslot
  cases hon : bat c 36
  all_goals
    rw [hon] at c36 HSL
    go_enter Try.func17, Try.ntmps17
    go_upto_region 1 with fail
    obtain ⟨W0, hW⟩ : ∃ W0, W0 = w.alloc (.cells c 25) := ⟨_, rfl⟩
    have H0 : Hid (W0.heap[w.heap.size]? = some (.cells c 25)) := Lib.hid (by rw [hW]; exact heap_new _ _ _ rfl)
    have K0 : Hid (Wr B b w W0 l) := Lib.hid (by rw [hW]; exact ⟨bld_alloc HB.out _, (Below.refl _ _).alloc HBW.out _, (Lib.OthersKept.refl _ _ w).alloc _, by rw [heap_len]; have := HBW.out; omega, by rw [heap_len]; have := HB32.out; omega⟩)
    have S0 : Hid (Wr B b W0 W0 l) := Lib.hid ⟨K0.out.bld, Below.refl _ _, Lib.OthersKept.refl _ _ _, K0.out.size, K0.out.lt⟩
    rw [← hW]
    clear hW
    have l36 := cell_at (o := 36) H0.out c36
    have HC1 := Lib.hid (words_new B b W0 [0, slot] l (fun y hy => by simp at hy; have := HSL.out; rcases hy with rfl | rfl <;> first | omega | (rw [this]; simp)) (by have := HL.out; omega) (by simp) S0.out.bld S0.out.size S0.out.lt)
    simp only [List.map_cons, List.map_nil, List.length_cons, List.length_nil] at HC1
    first
      | (have hof : slot = 0 := by have := HSL.out; simpa using this
         subst hof)
      | (have hof : slot = 1 := by have := HSL.out; simpa using this
         subst hof)
    go_upto_region 5 with (go_at_call 32; refine HC1.out.mono ?_; rintro e w1 ⟨rfl, k1⟩)
    have S1 := Lib.hid (S0.out.next k1)
    clear k1 HC1 l36 S0
    have G2 : Hid (w1.heap[w.heap.size]? = some (.cells c 25)) := Lib.hid (S1.out.row H0.out (by have := HB32.out; omega) (by decide))
    have q34 := cell_at (o := 34) G2.out c34
    have HC2 := Lib.hid (doubles_new B b w1 [pc] _ (fun y hy => by simp at hy; have := HPC.out; omega) (by simp only [List.length_append, wordsB4_length, dblL_length, List.length_replicate, List.length_cons, List.length_nil, List.length_map, List.length_range]; have := HL.out; omega) (by simp) S1.out.bld S1.out.size S1.out.lt)
    simp only [List.map_cons, List.map_nil, List.length_cons, List.length_nil] at HC2
    go_upto_region 6 with (go_at_call 33; refine HC2.out.mono ?_; rintro e w2 ⟨rfl, k1⟩)
    have S2 := Lib.hid (S1.out.next k1)
    clear k1 HC2 S1
    have G3 : Hid (w2.heap[w.heap.size]? = some (.cells c 25)) := Lib.hid (S2.out.row H0.out (by have := HB32.out; omega) (by decide))
    have HRL : Hid ((regsL c).length = 32 ∧ All32 (regsL c) ∧ Row32 w2 w.heap.size 0 (regsL c)) := Lib.hid ⟨by simp [regsL], fun y hy => by
      simp only [regsL, List.mem_map, List.mem_range] at hy
      obtain ⟨i, hi, rfl⟩ := hy
      obtain ⟨v, hv, _, h3⟩ := HREG.out i hi
      omega, c, _, _, by decide, G3.out, fun i hi => by
      have hi' : i < 32 := by simpa [regsL] using hi
      obtain ⟨v, hv, h2, h3⟩ := HREG.out i hi'
      rw [Nat.zero_add, h2]; simp [regsL, hv]⟩
    have HC3 := Lib.hid (doubles_any B b w.heap.size 0 (regsL c) HRL.out.2.1 _ (by simp only [List.length_append, wordsB4_length, dblL_length, List.length_cons, List.length_nil, HRL.out.1]; have := HL.out; omega) w2 32 HRL.out.2.2 (by have := HB32.out; omega) S2.out.bld S2.out.size)
    rw [HRL.out.1] at HC3
    go_upto_region 7 with (go_at_call 33; refine HC3.out.mono ?_; rintro e w3 ⟨rfl, k1⟩)
    have S3 := Lib.hid (S2.out.next k1)
    clear k1 HC3 S2
    have HC4 := Lib.hid (zeros_any B b 256 (by omega) _ (by simp only [List.length_append, wordsB4_length, dblL_length, List.length_cons, List.length_nil, HRL.out.1]; have := HL.out; omega) w3 S3.out.bld S3.out.size)
    go_upto_region 8 with (go_at_call 15; refine HC4.out.mono ?_; rintro e w4 ⟨rfl, k1⟩)
    have S4 := Lib.hid (S3.out.next k1)
    clear k1 HC4 S3
    have G5 : Hid (w4.heap[w.heap.size]? = some (.cells c 25)) := Lib.hid (S4.out.row H0.out (by have := HB32.out; omega) (by decide))
    have q35 := cell_at (o := 35) G5.out c35
    have HC5 := Lib.hid (words_new B b w4 [nx, 0, 0, 0, 0, 0] _ (fun y hy => by simp at hy; have := HNX.out; rcases hy with rfl | rfl <;> omega) (by simp only [List.length_append, wordsB4_length, dblL_length, List.length_replicate, List.length_cons, List.length_nil, HRL.out.1]; have := HL.out; omega) (by simp) S4.out.bld S4.out.size S4.out.lt)
    simp only [List.map_cons, List.map_nil, List.length_cons, List.length_nil] at HC5
    go_upto_region 9 with (go_at_call 32; refine HC5.out.mono ?_; rintro e w5 ⟨rfl, k1⟩)
    have S5 := Lib.hid (S4.out.next k1)
    clear k1 HC5 S4
    have G6 : Hid (w5.heap[w.heap.size]? = some (.cells c 25)) := Lib.hid (S5.out.row H0.out (by have := HB32.out; omega) (by decide))
    have q32 := cell_at (o := 32) G6.out c32
    have q33 := cell_at (o := 33) G6.out c33
    have HC6 := Lib.hid (doubles_new B b w5 [hi, lo, 0, 0, 0] _ (fun y hy => by simp at hy; have := HHI.out; have := HLO.out; rcases hy with rfl | rfl | rfl <;> omega) (by simp only [List.length_append, wordsB4_length, dblL_length, List.length_replicate, List.length_cons, List.length_nil, HRL.out.1]; have := HL.out; omega) (by simp) S5.out.bld S5.out.size S5.out.lt)
    simp only [List.map_cons, List.map_nil, List.length_cons, List.length_nil] at HC6
    go_wp2_with (go_at_call 33; refine HC6.out.mono ?_; rintro e w6 ⟨rfl, k1⟩)
    go_end0
    have S6 := S5.out.next k1
    exact ⟨rfl, by rw [ctxB]; simp only [← List.append_assoc]; exact S6.bld, K0.out.below.trans S6.below, K0.out.kept.trans S6.kept⟩
end Go.Proofs.Ytbaelhaajplbnaa
