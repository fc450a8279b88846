/-
  The guest's bytes: bytes are put.
-/
import Derived.Test.YtbaelhaajplbnaaFGmB
import Derived.Test.YtbaelhaajplbnaaFGmP
import Derived.Test.YtbaelhaajplbnaaFHoT
namespace Go.Proofs.Ytbaelhaajplbnaa
open Go Go.RowKit Go.Shelf
set_option linter.unusedVariables false
set_option linter.unusedSimpArgs false

/-- What a fit guest's pages say of the host's bytes. -/
theorem open_of {base : Nat} {ms : List MapD} {cs : List CellD} {ps : List PageD} (hf : GuestOk base ms cs ps) {need : Int} {x : Nat} (hk : kindL ps need x = 0) : x < 4294967296 ∧ openAt ms (base + x) := by
  have hx : x < 4294967296 := by
    refine Classical.byContradiction fun h => ?_
    rw [kindL, if_neg h] at hk
    cases hk
  rw [kindL, if_pos hx] at hk
  have hp : ¬ protL ps (x / 4096) < 0 := fun h => by rw [if_pos h] at hk; cases hk
  refine ⟨hx, ?_⟩
  obtain ⟨j, hj, he⟩ : ∃ j, ∃ hj : j < ps.length, ps[j].num = x / 4096 := Classical.byContradiction fun hn => hp (by
    rw [protL_none (fun j hj _ he => hn ⟨j, hj, he⟩)]; decide)
  obtain ⟨k1, k2, k3, k4, k5⟩ := hf.page j hj
  have hpg : hostP base ps[j].num = (base + x) / 16384 := by
    have := hf.round
    rw [hostP, he]; omega
  rw [hpg] at k5
  have hlow := hf.low
  refine ⟨by omega, k5, fun h => ?_⟩
  obtain ⟨h1, h2⟩ := (hasB_at hf.host.mrise).1 k5
  refine (hf.map _ (List.getElem_mem h1) ?_).1
  rw [h2, inR]
  have := hf.round
  simp only [Bool.and_eq_true, decide_eq_true_eq]
  omega

def badB (ps : List PageD) (need : Int) (a n : Nat) : Bool := (List.range n).any fun i => kindL ps need (a + i) != 0
def putFault (ps : List PageD) (need : Int) (a n : Nat) : Array Value := if 65536 < n then #[.int .i64 1, .int .u64 0] else faultL ps need a n
def putDone (base : Nat) (cs : List CellD) (ps : List PageD) (need : Int) (a : Nat) (s : List UInt8) : List CellD := if 65536 < s.length then cs else if badB ps need a s.length = true then cs else putAll cs (base + a) s
theorem bad_no {ps : List PageD} {need : Int} {a n : Nat} (h : badB ps need a n = false) : faultL ps need a n = fault0 ∧ ∀ i, i < n → kindL ps need (a + i) = 0 := by
  have hk : ∀ i, i < n → kindL ps need (a + i) = 0 := fun i hi => by
    rw [badB, List.any_eq_false] at h
    have := h i (List.mem_range.2 hi)
    simpa using this
  refine ⟨?_, hk⟩
  have : (List.range n).find? (fun i => kindL ps need (a + i) != 0) = none := by
    rw [List.find?_eq_none]
    intro i hi
    rw [hk i (List.mem_range.1 hi)]; simp
  rw [faultL, this]
  rfl
theorem bad_yes {ps : List PageD} {need : Int} {a n : Nat} (h : badB ps need a n = true) : ∃ (K : Int) (i : Nat), K ≠ 0 ∧ faultL ps need a n = #[.int .i64 K, .int .u64 (a + i : Nat)] := by
  rw [badB, List.any_eq_true] at h
  obtain ⟨i, hi, hk⟩ := h
  cases hf : (List.range n).find? (fun i => kindL ps need (a + i) != 0) with
  | none =>
    rw [List.find?_eq_none] at hf
    exact absurd hk (hf i hi)
  | some k =>
    have hk2 := List.find?_some hf
    refine ⟨kindL ps need (a + k), k, by simpa using hk2, ?_⟩
    rw [faultL, hf]

theorem place_any (base a : Nat) (hb : base + a < 18446744073709551616) (vm vc vp : Value) (w : World) :
    Calls Try.prog 45 #[.agg (guestV vm vc base vp), .int .u32 a] w fun e w' => e = .returned (.int .u64 (base + a : Nat)) ∧ Below w.heap.size w w' := by
  have f1 : IntKind.u64.wrap ((base : Int) + (a : Int)) = ((base + a : Nat) : Int) := by rw [IntKind.wrap_u64]; omega
  have f0 : IntKind.u64.wrap (a : Int) = (a : Int) := IntWalk.u64_in _ (by omega)
  clear hb
  go_enter Try.func45, Try.ntmps45
  go_upto_region 1 with fail
  have c2 : (w.alloc (.cells (guestV vm vc base vp) 33)).cell? ⟨w.heap.size, 2, none⟩ = some (.int .u64 (base : Nat)) := cell_at (heap_new _ _ _ rfl) rfl
  go_wp2
  go_ret
  exact ⟨by first | rfl | simp, (Below.refl _ _).alloc (Nat.le_refl _) _⟩

theorem row_apart {w : World} {h : Nat} {p1 p2 p3 : Option Addr} {a1 a2 b1 b2 d1 d2 : Nat} {n : Int} {T : TypeId} {fr : Nat × Nat} (hh : w.heap[h]? = some (.cells #[.slice p1 a1 a2, .slice p2 b1 b2, .int .u64 n, .slice p3 d1 d2] T fr)) {b off : Nat} {l : List CellD}
    (hr : Row2 (fun c : CellD => .int .u64 (c.pos : Nat)) (fun c => .int .u64 (c.word : Nat)) w b off l) (hl : l ≠ []) : b ≠ h := by
  rintro rfl
  have hpos := List.length_pos_iff.2 hl
  have h0 := hr.fst 0 hpos
  have h1 := hr.snd 0 hpos
  rw [cell_of_row w b _ _ _ _ hh] at h0 h1
  match off, h0, h1 with
  | 0, h0, _ => cases h0
  | 1, h0, _ => cases h0
  | 2, _, h1 => cases h1
  | 3, h0, _ => cases h0
  | k + 4, h0, _ => cases h0
theorem cells_setCell {w : World} {h o : Nat} {p1 p2 p3 : Option Addr} {a1 a2 b1 b2 d1 d2 : Nat} {n : Int} {T : TypeId} {fr : Nat × Nat} (hh : w.heap[h]? = some (.cells #[.slice p1 a1 a2, .slice p2 b1 b2, .int .u64 n, .slice p3 d1 d2] T fr)) {v u : Value} {l : List CellD}
    (hc : CellsV w v l) : CellsV (w.setCell ⟨h, o, none⟩ u) v l := by
  obtain ⟨p, c, rfl, hr0⟩ := hc
  refine ⟨p, c, rfl, fun hl => ?_⟩
  obtain ⟨b, off, rfl, hr⟩ := hr0 hl
  have hne := row_apart hh hr hl
  exact ⟨b, off, rfl, by rw [heap_set_len]; exact hr.lt, fun i hi => (World.cell?_setCell_other _ _ _ _ (by simp [hne])).trans (hr.fst i hi), fun i hi => (World.cell?_setCell_other _ _ _ _ (by simp [hne])).trans (hr.snd i hi)⟩
theorem row_apart2 {w : World} {h : Nat} {m n : Int} {T : TypeId} {fr : Nat × Nat} (hh : w.heap[h]? = some (.cells #[.int .i64 m, .int .u64 n] T fr)) {b off : Nat} {l : List CellD}
    (hr : Row2 (fun c : CellD => .int .u64 (c.pos : Nat)) (fun c => .int .u64 (c.word : Nat)) w b off l) (hl : l ≠ []) : b ≠ h := by
  rintro rfl
  have hpos := List.length_pos_iff.2 hl
  have h0 := hr.fst 0 hpos
  have h1 := hr.snd 0 hpos
  rw [cell_of_row w b _ _ _ _ hh] at h0 h1
  match off, h0, h1 with
  | 0, h0, _ => cases h0
  | 1, _, h1 => cases h1
  | k + 2, h0, _ => cases h0
theorem cells_six {w : World} {h : Nat} {p1 p2 p3 : Option Addr} {a1 a2 b1 b2 d1 d2 : Nat} {n m1 m2 : Int} {T T2 : TypeId} {fr fr2 : Nat × Nat} (hh : w.heap[h + 1]? = some (.cells #[.slice p1 a1 a2, .slice p2 b1 b2, .int .u64 n, .slice p3 d1 d2] T fr))
    (h2 : w.heap[h + 1 + 1]? = some (.cells #[.int .i64 m1, .int .u64 m2] T2 fr2)) {v a b c d e f : Value} {l : List CellD} (hc : CellsV w v l) :
    CellsV ((((((w.setCell ⟨h + 1, 0, none⟩ a).setCell ⟨h + 1, 1, none⟩ b).setCell ⟨h + 1, 2, none⟩ c).setCell ⟨h + 1, 3, none⟩ d).setCell ⟨h + 1 + 1, 0, none⟩ e).setCell ⟨h + 1 + 1, 1, none⟩ f) v l := by
  obtain ⟨p, k, rfl, hr0⟩ := hc
  refine ⟨p, k, rfl, fun hl => ?_⟩
  obtain ⟨q, off, rfl, hr⟩ := hr0 hl
  have hn1 := row_apart hh hr hl
  have hn2 := row_apart2 h2 hr hl
  have key : ∀ o, ((((((w.setCell ⟨h + 1, 0, none⟩ a).setCell ⟨h + 1, 1, none⟩ b).setCell ⟨h + 1, 2, none⟩ c).setCell ⟨h + 1, 3, none⟩ d).setCell ⟨h + 1 + 1, 0, none⟩ e).setCell ⟨h + 1 + 1, 1, none⟩ f).cell? ⟨q, o, none⟩ = w.cell? ⟨q, o, none⟩ := fun o => by
    rw [World.cell?_setCell_other _ _ _ _ (by simp [hn2]), World.cell?_setCell_other _ _ _ _ (by simp [hn2]), World.cell?_setCell_other _ _ _ _ (by simp [hn1]), World.cell?_setCell_other _ _ _ _ (by simp [hn1]), World.cell?_setCell_other _ _ _ _ (by simp [hn1]), World.cell?_setCell_other _ _ _ _ (by simp [hn1])]
  exact ⟨q, off, rfl, by simp only [heap_set_len]; exact hr.lt, fun i hi => (key _).trans (hr.fst i hi), fun i hi => (key _).trans (hr.snd i hi)⟩
theorem cells_drew {w : World} {v : Value} {l : List CellD} (hc : CellsV w v l) : CellsV w.drew v l := by
  obtain ⟨p, c, rfl, hr0⟩ := hc
  refine ⟨p, c, rfl, fun hl => ?_⟩
  obtain ⟨b, off, rfl, hr⟩ := hr0 hl
  exact ⟨b, off, rfl, hr.lt, hr.fst, hr.snd⟩
theorem drew_row {w : World} {k : Nat} {o : Obj} (h : w.heap[k]? = some o) : w.drew.heap[k]? = some o := h
theorem four_two {w : World} {h : Nat} {a b c d e f x0 x1 x2 x3 y0 y1 : Value} {T1 T2 : TypeId} (h1 : w.heap[h + 1]? = some (.cells #[x0, x1, x2, x3] T1 (0, 0))) (h2 : w.heap[h + 1 + 1]? = some (.cells #[y0, y1] T2 (0, 0))) :
    ((((((w.setCell ⟨h + 1, 0, none⟩ a).setCell ⟨h + 1, 1, none⟩ b).setCell ⟨h + 1, 2, none⟩ c).setCell ⟨h + 1, 3, none⟩ d).setCell ⟨h + 1 + 1, 0, none⟩ e).setCell ⟨h + 1 + 1, 1, none⟩ f).heap[h + 1]? = some (.cells #[a, b, c, d] T1 (0, 0)) ∧
    ((((((w.setCell ⟨h + 1, 0, none⟩ a).setCell ⟨h + 1, 1, none⟩ b).setCell ⟨h + 1, 2, none⟩ c).setCell ⟨h + 1, 3, none⟩ d).setCell ⟨h + 1 + 1, 0, none⟩ e).setCell ⟨h + 1 + 1, 1, none⟩ f).heap[h + 1 + 1]? = some (.cells #[e, f] T2 (0, 0)) := by
  constructor
  · rw [heap_set_ne _ _ _ _ _ (by omega), heap_set_ne _ _ _ _ _ (by omega), heap_set (heap_set (heap_set (heap_set h1)))]
    rfl
  · refine two_set (u := y0) (v := y1) ?_
    rw [heap_set_ne _ _ _ _ _ (by omega), heap_set_ne _ _ _ _ _ (by omega), heap_set_ne _ _ _ _ _ (by omega), heap_set_ne _ _ _ _ _ (by omega)]
    exact h2

set_option maxHeartbeats 4000000 in
set_option maxRecDepth 100000 in
theorem put_bad (ps : List PageD) (hr : Rise PageD.num ps) (hlen : ps.length ≤ 1000000) (a base : Nat) (need : Int) (ha : a < 4294967296) (s : List UInt8) (hs : s.length ≤ 65536) (hbad : badB ps need a s.length = true) (m1 : Option Addr) (m2 m3 : Nat) (c1 : Option Addr) (c2 c3 : Nat) (p1 : Option Addr) (p2 : Nat) (w : World) (hp : PagesV w (.slice p1 ps.length p2) ps) :
    Calls Try.prog 36 #[.agg (guestV (.slice m1 m2 m3) (.slice c1 c2 c3) base (.slice p1 ps.length p2)), .int .u32 a, .string (mkB s), .int .i64 need] w fun e w' => e = .returned (.tuple #[.agg (guestV (.slice m1 m2 m3) (.slice c1 c2 c3) base (.slice p1 ps.length p2)), .agg (faultL ps need a s.length)]) ∧ Below w.heap.size w w' := by
  obtain ⟨K, q, hK, hF⟩ := bad_yes hbad
  have HFI := Lib.hid (fun W (hW : Below w.heap.size w W) => first_any ps hr hlen a s.length base need ha (by omega) (.slice m1 m2 m3) (.slice c1 c2 c3) (.slice p1 ps.length p2) W (hp.below hW))
  rw [hF] at HFI ⊢
  have hne : (K != 0) = true := by simpa using hK
  have hsz := mkB_size s
  have hsl : (s.length : Int) ≤ 65536 := by omega
  clear hp hF hbad hs hK ha hr hlen
  unfold guestV at HFI ⊢
  go_enter Try.func36, Try.ntmps36
  go_upto_region 1 with fail
  obtain ⟨W0, hW⟩ : ∃ W0, W0 = ((w.alloc (.cells #[.slice m1 m2 m3, .slice c1 c2 c3, .int .u64 base, .slice p1 ps.length p2] 33)).alloc (.cells #[.slice none 0 0, .slice none 0 0, .int .u64 0, .slice none 0 0] 33)).alloc (.cells #[.int .i64 0, .int .u64 0] 70) := ⟨_, rfl⟩
  have H0 : Hid (W0.heap[w.heap.size]? = some (.cells #[.slice m1 m2 m3, .slice c1 c2 c3, .int .u64 base, .slice p1 ps.length p2] 33)) := Lib.hid (by rw [hW]; exact (heap_old _ _ _ (by simp only [heap_len]; omega)).trans ((heap_old _ _ _ (by simp only [heap_len]; omega)).trans (heap_new _ _ _ rfl)))
  have H1 : Hid (W0.heap[w.heap.size + 1]? = some (.cells #[.slice none 0 0, .slice none 0 0, .int .u64 0, .slice none 0 0] 33)) := Lib.hid (by rw [hW]; exact (heap_old _ _ _ (by simp only [heap_len]; omega)).trans (heap_new _ _ _ (by simp only [heap_len])))
  have H2 : Hid (W0.heap[w.heap.size + 1 + 1]? = some (.cells #[.int .i64 0, .int .u64 0] 70)) := Lib.hid (by rw [hW]; exact heap_new _ _ _ (by simp only [heap_len]))
  have HB0 : Hid (Below w.heap.size w W0) := Lib.hid (by rw [hW]; exact (((Below.refl _ _).alloc (Nat.le_refl _) _).alloc (by simp only [heap_len]; omega) _).alloc (by simp only [heap_len]; omega) _)
  rw [← hW]
  clear hW
  have l0 := cell_at (o := 0) H0.out rfl
  have l1 := cell_at (o := 1) H0.out rfl
  have l2 := cell_at (o := 2) H0.out rfl
  have l3 := cell_at (o := 3) H0.out rfl
  go_upto_region 4 with (go_at_call 44; (with_reducible refine (HFI.out _ HB0.out).mono ?_); rintro e w1 ⟨rfl, hb1⟩)
  obtain ⟨W1, hW⟩ : ∃ W1, W1 = w1.alloc (.cells #[.int .i64 K, .int .u64 ((a : Int) + (q : Int))] 70) := ⟨_, rfl⟩
  have HBW : Hid (Below w.heap.size w W1) := Lib.hid (by rw [hW]; exact (HB0.out.trans (hb1.mono HB0.out.size)).alloc (Nat.le_trans HB0.out.size hb1.size) _)
  have G0 : Hid (W1.heap[w.heap.size]? = some (.cells #[.slice m1 m2 m3, .slice c1 c2 c3, .int .u64 base, .slice p1 ps.length p2] 33)) := Lib.hid (by rw [hW]; exact (heap_old _ _ _ (Nat.lt_of_lt_of_le (heap_lt H0.out) hb1.size)).trans ((hb1.block _ (heap_lt H0.out)).trans H0.out))
  have G1 : Hid (W1.heap[w.heap.size + 1]? = some (.cells #[.slice none 0 0, .slice none 0 0, .int .u64 0, .slice none 0 0] 33)) := Lib.hid (by rw [hW]; exact (heap_old _ _ _ (Nat.lt_of_lt_of_le (heap_lt H1.out) hb1.size)).trans ((hb1.block _ (heap_lt H1.out)).trans H1.out))
  have G2 : Hid (W1.heap[w.heap.size + 1 + 1]? = some (.cells #[.int .i64 0, .int .u64 0] 70)) := Lib.hid (by rw [hW]; exact (heap_old _ _ _ (Nat.lt_of_lt_of_le (heap_lt H2.out) hb1.size)).trans ((hb1.block _ (heap_lt H2.out)).trans H2.out))
  have G3 : Hid (W1.heap[w1.heap.size]? = some (.cells #[.int .i64 K, .int .u64 ((a : Int) + (q : Int))] 70)) := Lib.hid (by rw [hW]; exact heap_new _ _ _ rfl)
  rw [← hW]
  clear hW l0 l1 l2 l3
  have l0 := cell_at (o := 0) G0.out rfl
  have l1 := cell_at (o := 1) G0.out rfl
  have l2 := cell_at (o := 2) G0.out rfl
  have l3 := cell_at (o := 3) G0.out rfl
  have m0 := cell_at (o := 0) G1.out rfl
  have m1' := cell_at (o := 1) G1.out rfl
  have m2' := cell_at (o := 2) G1.out rfl
  have m3' := cell_at (o := 3) G1.out rfl
  have mf0 := free_at (o := 0) G1.out
  have mf1 := free_at (o := 1) G1.out
  have mf2 := free_at (o := 2) G1.out
  have mf3 := free_at (o := 3) G1.out
  have r0 := cell_at (o := 0) G2.out rfl
  have r1 := cell_at (o := 1) G2.out rfl
  have rf0 := free_at (o := 0) G2.out
  have rf1 := free_at (o := 1) G2.out
  have s0 := cell_at (o := 0) G3.out rfl
  have s1 := cell_at (o := 1) G3.out rfl
  have hne1 : w1.heap.size ≠ w.heap.size + 1 := by have h1 := heap_lt H1.out; have h2 := hb1.size; omega
  have hne2 : w1.heap.size ≠ w.heap.size + 1 + 1 := by have h1 := heap_lt H2.out; have h2 := hb1.size; omega
  go_wp2
  go_region
  go_wp2
  refine bodyPost_ret (res_cell_cell rfl rfl (drew_row (four_two G1.out G2.out).1) (by kernel_rfl) (by show _ = some 4; kernel_rfl) rfl (run_var_row _ _ _ _ _ _ (drew_row (four_two G1.out G2.out).2) (by kernel_rfl) (by show _ = some 2; kernel_rfl))) rfl ?_
  refine ⟨by first | rfl | simp, ?_⟩
  exact (((((((HBW.out.setCell (by simp) _).setCell (by simp) _).setCell (by simp) _).setCell (by simp) _).setCell (by simp; omega) _).setCell (by simp; omega) _)).drew

set_option maxHeartbeats 4000000 in
set_option maxRecDepth 100000 in
theorem put_good (base : Nat) (ms : List MapD) (cs : List CellD) (ps : List PageD) (hfit : GuestOk base ms cs ps) (hcs : CellsOk cs) (a : Nat) (need : Int) (ha : a < 4294967296) (s : List UInt8) (hs : s.length ≤ 65536) (hbad : badB ps need a s.length = false)
    (hlc : cs.length ≤ 400000) (m1 : Option Addr) (m2 : Nat) (c1 : Option Addr) (c2 c3 : Nat) (p1 : Option Addr) (p2 : Nat) (w : World) (hm : MapsV w (.slice m1 ms.length m2) ms) (hc : CellsV w (.slice c1 c2 c3) cs) (hp : PagesV w (.slice p1 ps.length p2) ps) :
    Calls Try.prog 36 #[.agg (guestV (.slice m1 ms.length m2) (.slice c1 c2 c3) base (.slice p1 ps.length p2)), .int .u32 a, .string (mkB s), .int .i64 need] w fun e w' =>
      ∃ d1 d2 d3, e = .returned (.tuple #[.agg (guestV (.slice m1 ms.length m2) (.slice d1 d2 d3) base (.slice p1 ps.length p2)), .agg fault0]) ∧ CellsV w' (.slice d1 d2 d3) (putAll cs (base + a) s) ∧ Below w.heap.size w w' := by
  obtain ⟨hF, hK⟩ := bad_no hbad
  have hpr : Rise PageD.num ps := rise_of (fun j hj h0 => (hfit.page j hj).2.2.2.1 h0)
  have hlm : ms.length ≤ 1000000 := Nat.le_trans hfit.host.nm (by omega)
  have hlp : ps.length ≤ 1000000 := Nat.le_trans hfit.few (by omega)
  have hx64 : base + a < 18446744073709551616 := by have := hfit.low; omega
  have hOK : Hid (∀ i, i < s.length → a + i < 4294967296 ∧ openAt ms (base + (a + i))) := Lib.hid (fun i hi => open_of hfit (hK i hi))
  have HFI := Lib.hid (fun W (hW : Below w.heap.size w W) => first_any ps hpr hlp a s.length base need ha (by omega) (.slice m1 ms.length m2) (.slice c1 c2 c3) (.slice p1 ps.length p2) W (hp.below hW))
  rw [hF] at HFI
  have HPL := Lib.hid (fun W => place_any base a hx64 (.slice m1 ms.length m2) (.slice c1 c2 c3) (.slice p1 ps.length p2) W)
  have HST : Hid (∀ (cs' : List CellD) (hc' : CellsOk cs') (hl : cs'.length ≤ 800000) (x n v : Nat) (hn : 1 ≤ n) (hn8 : n ≤ 8) (hv : v < 18446744073709551616) (hok : ∀ i, i < n → openAt ms (x + i)) (vc : Value) (W : World) (hW : Below w.heap.size w W) (hcv : CellsV W vc cs'),
      Calls Try.prog 46 #[.agg #[.slice m1 ms.length m2, vc], .int .u64 (x : Nat), .int .i64 (n : Nat), .int .u64 (v : Nat)] W fun e w' => ∃ vc', e = .returned (.tuple #[.agg #[.slice m1 ms.length m2, vc'], .agg fault0]) ∧ CellsV w' vc' (storeL cs' x n v) ∧ Below W.heap.size W w') :=
    Lib.hid (fun cs' hc' hl x n v hn hn8 hv hok vc W hW hcv => store_any ms cs' hfit.host.mrise hlm hc' hl x n v hn hn8 hv hok (.slice m1 ms.length m2) vc W (hm.below hW) hcv)
  have HC := Lib.hid hc; have HCS := Lib.hid hcs; have HLC := Lib.hid hlc
  have hsz := mkB_size s
  have hsl : (s.length : Int) ≤ 65536 := by omega
  have HX64 := Lib.hid hx64
  have HLOW := Lib.hid hfit.low
  clear hp hm hc hcs hfit hF hbad hs hK ha hpr hlm hlp hlc hx64
  unfold guestV at HFI HPL ⊢
  go_enter Try.func36, Try.ntmps36
  go_upto_region 1 with fail
  obtain ⟨W0, hW⟩ : ∃ W0, W0 = ((w.alloc (.cells #[.slice m1 ms.length m2, .slice c1 c2 c3, .int .u64 base, .slice p1 ps.length p2] 33)).alloc (.cells #[.slice none 0 0, .slice none 0 0, .int .u64 0, .slice none 0 0] 33)).alloc (.cells #[.int .i64 0, .int .u64 0] 70) := ⟨_, rfl⟩
  have H0 : Hid (W0.heap[w.heap.size]? = some (.cells #[.slice m1 ms.length m2, .slice c1 c2 c3, .int .u64 base, .slice p1 ps.length p2] 33)) := Lib.hid (by rw [hW]; exact (heap_old _ _ _ (by simp only [heap_len]; omega)).trans ((heap_old _ _ _ (by simp only [heap_len]; omega)).trans (heap_new _ _ _ rfl)))
  have H1 : Hid (W0.heap[w.heap.size + 1]? = some (.cells #[.slice none 0 0, .slice none 0 0, .int .u64 0, .slice none 0 0] 33)) := Lib.hid (by rw [hW]; exact (heap_old _ _ _ (by simp only [heap_len]; omega)).trans (heap_new _ _ _ (by simp only [heap_len])))
  have H2 : Hid (W0.heap[w.heap.size + 1 + 1]? = some (.cells #[.int .i64 0, .int .u64 0] 70)) := Lib.hid (by rw [hW]; exact heap_new _ _ _ (by simp only [heap_len]))
  have HB0 : Hid (Below w.heap.size w W0) := Lib.hid (by rw [hW]; exact (((Below.refl _ _).alloc (Nat.le_refl _) _).alloc (by simp only [heap_len]; omega) _).alloc (by simp only [heap_len]; omega) _)
  rw [← hW]
  clear hW
  have l0 := cell_at (o := 0) H0.out rfl
  have l1 := cell_at (o := 1) H0.out rfl
  have l2 := cell_at (o := 2) H0.out rfl
  have l3 := cell_at (o := 3) H0.out rfl
  go_upto_region 6 with (go_at_call 44; (with_reducible refine (HFI.out _ HB0.out).mono ?_); rintro e w1 ⟨rfl, hb1⟩; unfold fault0)
  obtain ⟨W1, hW⟩ : ∃ W1, W1 = w1.alloc (.cells #[.int .i64 0, .int .u64 0] 70) := ⟨_, rfl⟩
  have HBW : Hid (Below w.heap.size w W1) := Lib.hid (by rw [hW]; exact (HB0.out.trans (hb1.mono HB0.out.size)).alloc (Nat.le_trans HB0.out.size hb1.size) _)
  have G0 : Hid (W1.heap[w.heap.size]? = some (.cells #[.slice m1 ms.length m2, .slice c1 c2 c3, .int .u64 base, .slice p1 ps.length p2] 33)) := Lib.hid (by rw [hW]; exact (heap_old _ _ _ (Nat.lt_of_lt_of_le (heap_lt H0.out) hb1.size)).trans ((hb1.block _ (heap_lt H0.out)).trans H0.out))
  have G1 : Hid (W1.heap[w.heap.size + 1]? = some (.cells #[.slice none 0 0, .slice none 0 0, .int .u64 0, .slice none 0 0] 33)) := Lib.hid (by rw [hW]; exact (heap_old _ _ _ (Nat.lt_of_lt_of_le (heap_lt H1.out) hb1.size)).trans ((hb1.block _ (heap_lt H1.out)).trans H1.out))
  have G2 : Hid (W1.heap[w.heap.size + 1 + 1]? = some (.cells #[.int .i64 0, .int .u64 0] 70)) := Lib.hid (by rw [hW]; exact (heap_old _ _ _ (Nat.lt_of_lt_of_le (heap_lt H2.out) hb1.size)).trans ((hb1.block _ (heap_lt H2.out)).trans H2.out))
  rw [← hW]
  clear hW l0 l1 l2 l3 H0 H1 H2 HB0 HFI hb1
  have l0 := cell_at (o := 0) G0.out rfl
  have l1 := cell_at (o := 1) G0.out rfl
  have l2 := cell_at (o := 2) G0.out rfl
  have l3 := cell_at (o := 3) G0.out rfl
  obtain ⟨X, hX⟩ : ∃ X : Nat, X = base + a := ⟨_, rfl⟩
  rw [← hX] at HPL
  have HX := Lib.hid hX
  clear hX
  go_wp2_with (go_at_call 45; (with_reducible refine (HPL.out _).mono ?_); rintro e w2 ⟨rfl, hb2⟩)
  have HB2 : Hid (Below w.heap.size w w2) := Lib.hid (HBW.out.trans (hb2.mono HBW.out.size))
  have K0 : Hid (w2.heap[w.heap.size]? = some (.cells #[.slice m1 ms.length m2, .slice c1 c2 c3, .int .u64 base, .slice p1 ps.length p2] 33)) := Lib.hid ((hb2.block _ (heap_lt G0.out)).trans G0.out)
  have K1 : Hid (w2.heap[w.heap.size + 1]? = some (.cells #[.slice none 0 0, .slice none 0 0, .int .u64 0, .slice none 0 0] 33)) := Lib.hid ((hb2.block _ (heap_lt G1.out)).trans G1.out)
  have K2 : Hid (w2.heap[w.heap.size + 1 + 1]? = some (.cells #[.int .i64 0, .int .u64 0] 70)) := Lib.hid ((hb2.block _ (heap_lt G2.out)).trans G2.out)
  have HC2 : Hid (CellsV w2 (.slice c1 c2 c3) cs) := Lib.hid (HC.out.below HB2.out)
  clear l0 l1 l2 l3 G0 G1 G2 HC hb2 HBW HPL
  go_loopw [2, 11] (fun sv xv wr => ∃ (r : List UInt8) (cs' : List CellD) (x : Nat) (e1 : Option Addr) (e2 e3 : Nat), sv = .string (mkB r) ∧ xv = .int .u64 (x : Nat) ∧ r.length ≤ 65536 ∧ Hid (x + r.length = X + s.length) ∧ Hid (r.length ≤ s.length) ∧ Hid (CellsOk cs') ∧ Hid (cs'.length + 2 * r.length ≤ 400000 + 2 * s.length) ∧ Hid (putAll cs' x r = putAll cs X s) ∧
    Hid (Below w.heap.size w wr) ∧ Hid (CellsV wr (.slice e1 e2 e3) cs') ∧ Hid (wr.heap[w.heap.size]? = some (.cells #[.slice m1 ms.length m2, .slice e1 e2 e3, .int .u64 base, .slice p1 ps.length p2] 33)) ∧ Hid (wr.heap[w.heap.size + 1]? = some (.cells #[.slice none 0 0, .slice none 0 0, .int .u64 0, .slice none 0 0] 33)) ∧
    Hid (wr.heap[w.heap.size + 1 + 1]? = some (.cells #[.int .i64 0, .int .u64 0] 70))) (fun sv _ _ => (match sv with | .string b => b.size | _ => 0))
  case atStart => exact ⟨s, cs, X, c1, c2, c3, rfl, rfl, by omega, Lib.hid rfl, Lib.hid (Nat.le_refl _), HCS, Lib.hid (by have := HLC.out; omega), Lib.hid rfl, HB2, HC2, K0, K1, K2⟩
  case round =>
    obtain ⟨r, cs', x, e1, e2, e3, rfl, rfl, hr6, HXR, HRS, HCO, HLN, HPA, HBR, HCV, J0, J1, J2⟩ := hrel
    clear K0 K1 K2 HC2 HB2
    have hrz := mkB_size r
    have hri : (r.length : Int) ≤ 65536 := by omega
    by_cases h0 : r = []
    · subst h0
      have HPA2 : Hid (cs' = putAll cs X s) := Lib.hid (by have := HPA.out; rwa [putAll_nil] at this)
      clear HPA HXR HRS HLN HCO HST hOK
      have l0 := cell_at (o := 0) J0.out rfl
      have l1 := cell_at (o := 1) J0.out rfl
      have l2 := cell_at (o := 2) J0.out rfl
      have l3 := cell_at (o := 3) J0.out rfl
      have q0 := cell_at (o := 0) J1.out rfl
      have q1' := cell_at (o := 1) J1.out rfl
      have q2' := cell_at (o := 2) J1.out rfl
      have q3' := cell_at (o := 3) J1.out rfl
      have mf0 := free_at (o := 0) J1.out
      have mf1 := free_at (o := 1) J1.out
      have mf2 := free_at (o := 2) J1.out
      have mf3 := free_at (o := 3) J1.out
      have r0 := cell_at (o := 0) J2.out rfl
      have r1 := cell_at (o := 1) J2.out rfl
      have rf0 := free_at (o := 0) J2.out
      have rf1 := free_at (o := 1) J2.out
      go_wp2
      refine bodyPost_ret (res_cell_cell rfl rfl (four_two J1.out J2.out).1 (by kernel_rfl) (by show _ = some 4; kernel_rfl) rfl (run_var_row _ _ _ _ _ _ (four_two J1.out J2.out).2 (by kernel_rfl) (by show _ = some 2; kernel_rfl))) rfl ?_
      refine ⟨e1, e2, e3, rfl, ?_, ?_⟩
      · rw [← HX.out, ← HPA2.out]
        exact cells_six J1.out J2.out HCV.out
      · exact ((((((HBR.out.setCell (by simp) _).setCell (by simp) _).setCell (by simp) _).setCell (by simp) _).setCell (by simp; omega) _).setCell (by simp; omega) _)
    · have hpos := List.length_pos_iff.2 h0
      obtain ⟨n, hn⟩ : ∃ n, n = min r.length 8 := ⟨_, rfl⟩
      have hmin : min (r.length : Int) 8 = (n : Int) := by omega
      have hni : (n : Int) ≤ 8 := by omega
      have hnr : (n : Int) ≤ (r.length : Int) := by omega
      have hx : (mkB r).extract 0 n = mkB (r.take n) := mkB_take r n
      have hy : (mkB r).extract n r.length = mkB (r.drop n) := by rw [← hrz]; exact (mkB_drop r n)
      have HLE : Hid (∀ W, Calls Try.prog 47 #[.string (mkB (r.take n))] W fun e w' => e = .returned (.int .u64 (leN (r.take n) : Nat)) ∧ Below W.heap.size W w') := Lib.hid (fun W => by
        have h := le_any (mkB (r.take n)) W (by rw [mkB_size, List.length_take]; omega)
        rw [numF_le _ (by rw [List.length_take]; omega)] at h
        exact h)
      have HS : Hid (∀ W, Below w.heap.size w W → CellsV W (.slice e1 e2 e3) cs' → Calls Try.prog 46 #[.agg #[.slice m1 ms.length m2, .slice e1 e2 e3], .int .u64 (x : Nat), .int .i64 (n : Nat), .int .u64 (leN (r.take n) : Nat)] W fun e w' => ∃ vc', e = .returned (.tuple #[.agg #[.slice m1 ms.length m2, vc'], .agg fault0]) ∧ CellsV w' vc' (storeL cs' x n (leN (r.take n))) ∧ Below W.heap.size W w') := Lib.hid (fun W hW hV =>
        HST.out cs' HCO.out (by have := HLN.out; omega) x n _ (by omega) (by omega) (leN_lt (by rw [List.length_take]; omega)) (fun i hi => by
          have h1 := HXR.out; have h2 := HRS.out; have h3 := HX.out
          have h4 := (hOK.out (x - X + i) (by omega)).2
          rw [show base + (a + (x - X + i)) = x + i by omega] at h4
          exact h4) _ W hW hV)
      have HNX : Hid (putAll (storeL cs' x n (leN (r.take n))) (x + n) (r.drop n) = putAll cs X s ∧ x + n + (r.drop n).length = X + s.length ∧ (r.drop n).length + n = r.length ∧ 1 ≤ n ∧ n ≤ 8) := Lib.hid (by
        refine ⟨?_, by rw [List.length_drop]; have := HXR.out; omega, by rw [List.length_drop]; omega, by omega, by omega⟩
        have hstep := putAll_step (cs := cs') (x := x) h0
        rw [← hn, show r.take 8 = r.take n by rw [hn]; by_cases h8 : r.length ≤ 8; rw [Nat.min_eq_left h8, List.take_of_length_le h8, List.take_length]; rw [Nat.min_eq_right (by omega)],
          show r.drop 8 = r.drop n by rw [hn]; by_cases h8 : r.length ≤ 8; rw [Nat.min_eq_left h8, List.drop_length, List.drop_of_length_le h8]; rw [Nat.min_eq_right (by omega)]] at hstep
        rw [← hstep]; exact HPA.out)
      have fxn : IntKind.u64.wrap ((x : Int) + (n : Int)) = ((x + n : Nat) : Int) := by
        have h1 := HXR.out; have h2 := HX.out; have h5 := hOK.out (s.length - 1) (by have := HRS.out; omega)
        have h3 := HLOW.out; have h6 := h5.1
        rw [IntKind.wrap_u64]; omega
      have fn0 : IntKind.u64.wrap (n : Int) = (n : Int) := IntWalk.u64_in _ (by omega)
      clear hn h0
      have l0 := cell_at (o := 0) J0.out rfl
      have l1 := cell_at (o := 1) J0.out rfl
      go_upto_region 9 with fail
      go_region_with (first
        | (go_at_call 47; (with_reducible refine (HLE.out _).mono ?_); rintro e w3 ⟨rfl, hb3⟩; have l2 := cell_at (o := 0) (((below_of_drew hb3).block _ (heap_lt J0.out)).trans J0.out) rfl; have l3 := cell_at (o := 1) (((below_of_drew hb3).block _ (heap_lt J0.out)).trans J0.out) rfl)
        | (go_at_call 46; have hcall := HS.out w3 (HBR.out.trans ((below_of_drew hb3).mono HBR.out.size)) (HCV.out.below (below_of_drew hb3)); (with_reducible refine hcall.mono ?_); clear hcall; rintro e w4 ⟨vc4, rfl, hc4, hb4⟩; obtain ⟨q1, q3, rfl, hq⟩ := hc4; have L0 := cell_at (o := 0) ((hb4.block _ (Nat.lt_of_lt_of_le (heap_lt J0.out) (below_of_drew hb3).size)).trans (((below_of_drew hb3).block _ (heap_lt J0.out)).trans J0.out)) rfl; have L1 := cell_at (o := 1) ((hb4.block _ (Nat.lt_of_lt_of_le (heap_lt J0.out) (below_of_drew hb3).size)).trans (((below_of_drew hb3).block _ (heap_lt J0.out)).trans J0.out)) rfl; have L2 := free_at (o := 0) ((hb4.block _ (Nat.lt_of_lt_of_le (heap_lt J0.out) (below_of_drew hb3).size)).trans (((below_of_drew hb3).block _ (heap_lt J0.out)).trans J0.out)); have L3 := free_at (o := 1) ((hb4.block _ (Nat.lt_of_lt_of_le (heap_lt J0.out) (below_of_drew hb3).size)).trans (((below_of_drew hb3).block _ (heap_lt J0.out)).trans J0.out))))
      all_goals (
        have hb43 := (below_of_drew hb3).trans (hb4.mono (below_of_drew hb3).size)
        have HB4 : Hid (Below w.heap.size w w4) := Lib.hid (HBR.out.trans (hb43.mono HBR.out.size))
        have M0 : Hid (w4.heap[w.heap.size]? = some (.cells #[.slice m1 ms.length m2, .slice e1 e2 e3, .int .u64 base, .slice p1 ps.length p2] 33)) := Lib.hid ((hb43.block _ (heap_lt J0.out)).trans J0.out)
        have M1 : Hid (w4.heap[w.heap.size + 1]? = some (.cells #[.slice none 0 0, .slice none 0 0, .int .u64 0, .slice none 0 0] 33)) := Lib.hid ((hb43.block _ (heap_lt J1.out)).trans J1.out)
        have M2 : Hid (w4.heap[w.heap.size + 1 + 1]? = some (.cells #[.int .i64 0, .int .u64 0] 70)) := Lib.hid ((hb43.block _ (heap_lt J2.out)).trans J2.out)
        obtain ⟨L, hL⟩ : ∃ L, L = storeL cs' x n (leN (r.take n)) := ⟨_, rfl⟩
        have HCV4 : Hid (CellsV w4 (.slice q1 L.length q3) L) := Lib.hid (by rw [hL]; exact ⟨q1, q3, rfl, hq⟩)
        have HL5 : Hid (CellsOk L ∧ L.length + 2 * (r.drop n).length ≤ 400000 + 2 * s.length ∧ putAll L (x + n) (r.drop n) = putAll cs X s) := Lib.hid (by
          obtain ⟨g1, g2, g3, g4, g5⟩ := HNX.out
          have h1 := HXR.out; have h2 := HRS.out; have h3 := HX.out; have h4 := HLOW.out
          have h5 := (hOK.out (s.length - 1) (by omega)).1
          have h6 := storeL_len cs' x n (leN (r.take n))
          have h7 := HLN.out
          rw [← hL] at g1 h6
          exact ⟨by rw [hL]; exact HCO.out.store g4 g5 (by omega), by omega, g1⟩)
        obtain ⟨W5, hW5⟩ : ∃ W5, W5 = (w4.setCell ⟨w.heap.size, 0, none⟩ (.slice m1 ms.length m2)).setCell ⟨w.heap.size, 1, none⟩ (.slice q1 L.length q3) := ⟨_, rfl⟩
        have N0 : Hid (W5.heap[w.heap.size]? = some (.cells #[.slice m1 ms.length m2, .slice q1 L.length q3, .int .u64 base, .slice p1 ps.length p2] 33)) := Lib.hid (by rw [hW5, heap_set (heap_set M0.out)]; rfl)
        have N1 : Hid (W5.heap[w.heap.size + 1]? = some (.cells #[.slice none 0 0, .slice none 0 0, .int .u64 0, .slice none 0 0] 33)) := Lib.hid (by rw [hW5, heap_set_ne _ _ _ _ _ (by omega), heap_set_ne _ _ _ _ _ (by omega)]; exact M1.out)
        have N2 : Hid (W5.heap[w.heap.size + 1 + 1]? = some (.cells #[.int .i64 0, .int .u64 0] 70)) := Lib.hid (by rw [hW5, heap_set_ne _ _ _ _ _ (by omega), heap_set_ne _ _ _ _ _ (by omega)]; exact M2.out)
        have HB5 : Hid (Below w.heap.size w W5) := Lib.hid (by rw [hW5]; exact (HB4.out.setCell (by show w.heap.size ≤ w.heap.size; omega) _).setCell (by show w.heap.size ≤ w.heap.size; omega) _)
        have HCV5 : Hid (CellsV W5 (.slice q1 L.length q3) L) := Lib.hid (by rw [hW5]; exact cells_setCell (heap_set M0.out) (cells_setCell M0.out HCV4.out))
        have HNX2 : Hid (x + n + (r.drop n).length = X + s.length ∧ (r.drop n).length + n = r.length ∧ 1 ≤ n) := Lib.hid ⟨HNX.out.2.1, HNX.out.2.2.1, HNX.out.2.2.2.1⟩
        rw [← hL, ← hW5]
        clear hW5 hL hb43 hb3 hb4 hq M0 M1 M2 HB4 HCV4 HNX L0 L1 L2 L3 J0 J1 J2 HBR HCV HCO HLN HPA HS HLE
        go_wp2
        go_region
        all_goals (
          (try go_wp2)
          go_roundw
          case rel => exact ⟨r.drop n, L, x + n, q1, _, q3, rfl, rfl, by have := HNX2.out.2.1; omega, Lib.hid HNX2.out.1, Lib.hid (by have := HNX2.out.2.1; have := HRS.out; omega), Lib.hid HL5.out.1, Lib.hid HL5.out.2.1, Lib.hid HL5.out.2.2, Lib.hid HB5.out.drew, Lib.hid (cells_drew HCV5.out), N0, N1, N2⟩
          case measure => have := HNX2.out; have h2 := mkB_size (r.drop n); simp; omega))
end Go.Proofs.Ytbaelhaajplbnaa
