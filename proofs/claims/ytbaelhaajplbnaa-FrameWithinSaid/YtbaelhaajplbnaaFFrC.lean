/-
  gmem.Put, and what a frame's bytes are.
-/
import Derived.Test.YtbaelhaajplbnaaFFrB
import Derived.Test.YtbaelhaajplbnaaFGmC
namespace Go.Proofs.Ytbaelhaajplbnaa
open Go Go.RowKit Go.Shelf
set_option linter.unusedVariables false
set_option linter.unusedSimpArgs false

/-- What gmem.Put tells: the fault, and the memory. -/
def PutPost (base : Nat) (cs : List CellD) (ps : List PageD) (need : Int) (a : Nat) (s : List UInt8) (m1 : Option Addr) (m2 m3 : Nat) (c1 : Option Addr) (c2 c3 : Nat) (p1 : Option Addr) (p2 p3 : Nat) (w : World) (e : Ending) (w' : World) : Prop :=
  Below w.heap.size w w' ∧
  ((badB ps need a s.length = true ∧ ∃ K X : Int, K ≠ 0 ∧ e = .returned (.tuple #[.agg #[.slice m1 m2 m3, .slice c1 c2 c3, .int .u64 base, .slice p1 p2 p3], .agg #[.int .i64 K, .int .u64 X]])) ∨
   (badB ps need a s.length = false ∧ ∃ d1 d2 d3, e = .returned (.tuple #[.agg #[.slice m1 m2 m3, .slice d1 d2 d3, .int .u64 base, .slice p1 p2 p3], .agg #[.int .i64 0, .int .u64 0]]) ∧ CellsV w' (.slice d1 d2 d3) (putAll cs (base + a) s)))

theorem mput_any (base : Nat) (ms : List MapD) (cs : List CellD) (ps : List PageD) (hfit : GuestOk base ms cs ps) (hcs : CellsOk cs) (a : Nat) (need : Int) (ha : a < 4294967296) (s : List UInt8) (hs : s.length ≤ 65536)
    (hlc : cs.length ≤ 400000) (m1 : Option Addr) (m2 : Nat) (c1 : Option Addr) (c2 c3 : Nat) (p1 : Option Addr) (p2 : Nat) (w : World) (hm : MapsV w (.slice m1 ms.length m2) ms) (hc : CellsV w (.slice c1 c2 c3) cs) (hp : PagesV w (.slice p1 ps.length p2) ps) :
    Calls Try.prog 36 #[.agg #[.slice m1 ms.length m2, .slice c1 c2 c3, .int .u64 base, .slice p1 ps.length p2], .int .u32 a, .string (mkB s), .int .i64 need] w (PutPost base cs ps need a s m1 ms.length m2 c1 c2 c3 p1 ps.length p2 w) := by
  cases hbad : badB ps need a s.length with
  | true =>
    obtain ⟨K, i, hK, hF⟩ := bad_yes hbad
    refine (put_bad ps (rise_of (fun j hj h0 => (hfit.page j hj).2.2.2.1 h0)) (Nat.le_trans hfit.few (by omega)) a base need ha s hs hbad m1 ms.length m2 c1 c2 c3 p1 p2 w hp).mono ?_
    rintro e w' ⟨rfl, hb⟩
    refine ⟨hb, .inl ⟨hbad, K, ((a + i : Nat) : Int), hK, ?_⟩⟩
    rw [hF]; rfl
  | false =>
    refine (put_good base ms cs ps hfit hcs a need ha s hs hbad hlc m1 m2 c1 c2 c3 p1 p2 w hm hc hp).mono ?_
    rintro e w' ⟨d1, d2, d3, rfl, hv, hb⟩
    exact ⟨hb, .inr ⟨hbad, d1, d2, d3, rfl, hv⟩⟩

set_option maxHeartbeats 4000000 in
set_option maxRecDepth 100000 in
theorem gput_any (base : Nat) (ms : List MapD) (cs : List CellD) (ps : List PageD) (hfit : GuestOk base ms cs ps) (hcs : CellsOk cs) (a : Nat) (ha : a < 4294967296) (s : List UInt8) (hs : s.length ≤ 65536)
    (hlc : cs.length ≤ 400000) (m1 : Option Addr) (m2 : Nat) (c1 : Option Addr) (c2 c3 : Nat) (p1 : Option Addr) (p2 : Nat) (w : World) (hm : MapsV w (.slice m1 ms.length m2) ms) (hc : CellsV w (.slice c1 c2 c3) cs) (hp : PagesV w (.slice p1 ps.length p2) ps) :
    Calls Try.prog 20 #[.agg #[.slice m1 ms.length m2, .slice c1 c2 c3, .int .u64 base, .slice p1 ps.length p2], .int .u32 a, .string (mkB s)] w (PutPost base cs ps 2 a s m1 ms.length m2 c1 c2 c3 p1 ps.length p2 w) := by
  have HPUT := Lib.hid (fun W (hW : Below w.heap.size w W) => mput_any base ms cs ps hfit hcs a 2 ha s hs hlc m1 m2 c1 c2 c3 p1 p2 W (hm.below hW) (hc.below hW) (hp.below hW))
  clear hfit hcs ha hs hlc hm hc hp
  go_enter Try.func20, Try.ntmps20
  go_upto_region 1 with fail
  obtain ⟨W0, hW⟩ : ∃ W0, W0 = ((w.alloc (.cells #[.slice m1 ms.length m2, .slice c1 c2 c3, .int .u64 base, .slice p1 ps.length p2] 33)).alloc (.cells #[.slice none 0 0, .slice none 0 0, .int .u64 0, .slice none 0 0] 33)).alloc (.cells #[.int .i64 0, .int .u64 0] 70) := ⟨_, rfl⟩
  have H0 : Hid (W0.heap[w.heap.size]? = some (.cells #[.slice m1 ms.length m2, .slice c1 c2 c3, .int .u64 base, .slice p1 ps.length p2] 33)) := Lib.hid (by rw [hW]; exact (heap_old _ _ _ (by simp only [heap_len]; omega)).trans ((heap_old _ _ _ (by simp only [heap_len]; omega)).trans (heap_new _ _ _ rfl)))
  have H1 : Hid (W0.heap[w.heap.size + 1]? = some (.cells #[.slice none 0 0, .slice none 0 0, .int .u64 0, .slice none 0 0] 33)) := Lib.hid (by rw [hW]; exact (heap_old _ _ _ (by simp only [heap_len]; omega)).trans (heap_new _ _ _ (by simp only [heap_len])))
  have H2 : Hid (W0.heap[w.heap.size + 1 + 1]? = some (.cells #[.int .i64 0, .int .u64 0] 70)) := Lib.hid (by rw [hW]; exact heap_new _ _ _ (by simp only [heap_len]))
  have HB0 : Hid (Below w.heap.size w W0) := Lib.hid (by rw [hW]; exact (((Below.refl _ _).alloc (Nat.le_refl _) _).alloc (by simp only [heap_len]; omega) _).alloc (by simp only [heap_len]; omega) _)
  rw [← hW]
  clear hW
  have l0 := cell_at (o := 0) H0.out rfl
  have l1 := cell_at (o := 1) H0.out rfl
  have l2 := cell_at (o := 2) H0.out rfl
  have l3 := cell_at (o := 3) H0.out rfl
  have FIN : Hid (∀ (w1 : World) (hb1 : Below W0.heap.size W0 w1), w1.heap[w.heap.size + 1]? = some (.cells #[.slice none 0 0, .slice none 0 0, .int .u64 0, .slice none 0 0] 33) ∧ w1.heap[w.heap.size + 1 + 1]? = some (.cells #[.int .i64 0, .int .u64 0] 70) ∧ Below w.heap.size w w1) :=
    Lib.hid (fun w1 hb1 => ⟨(hb1.block _ (heap_lt H1.out)).trans H1.out, (hb1.block _ (heap_lt H2.out)).trans H2.out, HB0.out.trans (hb1.mono HB0.out.size)⟩)
  go_wp2_with (go_at_call 36; (with_reducible refine (HPUT.out _ HB0.out).mono ?_); rintro e w1 ⟨hb1, (⟨hbad, K, X, hK, rfl⟩ | ⟨hbad, d1, d2, d3, rfl, hcv⟩)⟩; all_goals (obtain ⟨g1, g2, g3⟩ := FIN.out w1 hb1; have G1 := Lib.hid g1; have G2 := Lib.hid g2; have G3 := Lib.hid g3; have m0' := cell_at (o := 0) g1 rfl; have m1' := cell_at (o := 1) g1 rfl; have m2' := cell_at (o := 2) g1 rfl; have m3' := cell_at (o := 3) g1 rfl; have mf0 := free_at (o := 0) g1; have mf1 := free_at (o := 1) g1; have mf2 := free_at (o := 2) g1; have mf3 := free_at (o := 3) g1; have r0 := cell_at (o := 0) g2 rfl; have r1 := cell_at (o := 1) g2 rfl; have rf0 := free_at (o := 0) g2; have rf1 := free_at (o := 1) g2; clear g1 g2 g3; try have HCV := Lib.hid hcv))
  · refine bodyPost_ret (res_cell_cell rfl rfl (four_two G1.out G2.out).1 (by kernel_rfl) (by show _ = some 4; kernel_rfl) rfl (run_var_row _ _ _ _ _ _ (four_two G1.out G2.out).2 (by kernel_rfl) (by show _ = some 2; kernel_rfl))) rfl ?_
    refine ⟨((((((G3.out.setCell (by simp) _).setCell (by simp) _).setCell (by simp) _).setCell (by simp) _).setCell (by simp; omega) _).setCell (by simp; omega) _), .inl ⟨hbad, K, X, hK, rfl⟩⟩
  · refine bodyPost_ret (res_cell_cell rfl rfl (four_two G1.out G2.out).1 (by kernel_rfl) (by show _ = some 4; kernel_rfl) rfl (run_var_row _ _ _ _ _ _ (four_two G1.out G2.out).2 (by kernel_rfl) (by show _ = some 2; kernel_rfl))) rfl ?_
    refine ⟨((((((G3.out.setCell (by simp) _).setCell (by simp) _).setCell (by simp) _).setCell (by simp) _).setCell (by simp; omega) _).setCell (by simp; omega) _), .inr ⟨hbad, d1, d2, d3, rfl, cells_six G1.out G2.out HCV.out⟩⟩
end Go.Proofs.Ytbaelhaajplbnaa
