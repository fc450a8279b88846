/-
  Numbers with a point: how two compare.
-/
import Derived.Test.YtckdbgejpagkpaaFRealM
namespace Go.Proofs.Ytckdbgejpagkpaa
open Go Go.RowKit
set_option linter.unusedVariables false
set_option linter.unusedSimpArgs false

theorem old_cell {W : World} {o : Obj} {p : Addr} (h : p.block < W.heap.size) : (W.alloc o).cell? p = W.cell? p := ((Below.refl W.heap.size W).alloc (Nat.le_refl _) o).cell h
theorem old_frozen {W : World} {o : Obj} {p : Addr} (h : p.block < W.heap.size) : (W.alloc o).frozen? p = W.frozen? p := ((Below.refl W.heap.size W).alloc (Nat.le_refl _) o).frozen h
theorem below_drw {B : Nat} {a w : World} (h : Below B a w) (n : Nat) : Below B a (w.drewN n) := ⟨h.os, h.tape, h.output, h.size, h.block⟩
/-- What asked leaves of a place that it may have written, and of all else. -/
def Left (W : World) (r : Addr) (v : Value) (x : Bool) (e : Ending) (w' : World) : Prop :=
  e = .returned (.bool x) ∧ w'.cell? r = some v ∧ ∀ B, B ≤ r.block → B ≤ W.heap.size → Below B W w'
theorem asked_order_ok (a b : Nat) (p q r : Addr) (ha : nanB a = false) (hb : nanB b = false) (W : World) (hp : W.cell? p = some (.int .u64 a)) (hq : W.cell? q = some (.int .u64 b)) (hr : W.cell? r = some (.int .i64 2)) (hz : W.frozen? r = false)
    (lp : p.block < W.heap.size) (lq : q.block < W.heap.size) (lr : r.block < W.heap.size) :
    Calls Try.prog 40 #[.func (.func 41) #[] #[.pointer (some p), .pointer (some q), .pointer (some r)]] W (Left W r (.int .i64 (cmpR a b)) true) := by
  have h := order1_ok a b p q r ha hb (W.alloc (.cells #[.bool false] 4)) ((old_cell lp).trans hp) ((old_cell lq).trans hq) ((old_cell lr).trans hr) ((old_frozen lr).trans hz)
  have hne : r ≠ ⟨W.heap.size, 0, none⟩ := fun e => by rw [e] at lr; exact Nat.lt_irrefl _ lr
  have hnew : (W.alloc (.cells #[.bool false] 4)).cell? ⟨W.heap.size, 0, none⟩ = some (.bool false) := by simp [go_sem]
  have hnz : (W.alloc (.cells #[.bool false] 4)).frozen? ⟨W.heap.size, 0, none⟩ = false := by simp [go_sem]
  refine (asked_ok 41 _ (fun w' => ∃ n, w' = ((W.alloc (.cells #[.bool false] 4)).drewN n).setCell r (.int .i64 (cmpR a b))) W (fun _ => by kernel_rfl) h ?_).mono ?_
  · rintro w' ⟨n, rfl⟩
    refine ⟨(World.cell?_setCell_other _ _ _ _ hne).trans hnew, ?_⟩
    rw [World.frozen?_setCell]; exact hnz
  · rintro e w' ⟨rfl, w2, ⟨n, rfl⟩, h2⟩
    rcases h2 with ⟨_, rfl⟩ | ⟨h, _⟩
    · refine ⟨rfl, ?_, fun B h1 h2 => ?_⟩
      · rw [World.cell?_setCell_other _ _ _ _ (Ne.symm hne)]
        exact World.cell?_setCell_same _ _ _ ((old_cell lr).trans hr)
      · exact ((below_drw ((Below.refl B W).alloc h2 _) n).setCell h1 _).setCell h2 _
    · cases h
theorem asked_order_nan (a b : Nat) (p q r : Addr) (hn : nanB a = true ∨ nanB b = true) (W : World) (hp : W.cell? p = some (.int .u64 a)) (hq : W.cell? q = some (.int .u64 b)) (hr : W.cell? r = some (.int .i64 2))
    (lp : p.block < W.heap.size) (lq : q.block < W.heap.size) (lr : r.block < W.heap.size) :
    Calls Try.prog 40 #[.func (.func 41) #[] #[.pointer (some p), .pointer (some q), .pointer (some r)]] W (Left W r (.int .i64 2) false) := by
  have h := order1_nan a b p q r hn (W.alloc (.cells #[.bool false] 4)) ((old_cell lp).trans hp) ((old_cell lq).trans hq)
  have hne : r ≠ ⟨W.heap.size, 0, none⟩ := fun e => by rw [e] at lr; exact Nat.lt_irrefl _ lr
  have hnew : (W.alloc (.cells #[.bool false] 4)).cell? ⟨W.heap.size, 0, none⟩ = some (.bool false) := by simp [go_sem]
  have hnz : (W.alloc (.cells #[.bool false] 4)).frozen? ⟨W.heap.size, 0, none⟩ = false := by simp [go_sem]
  have lnew : W.heap.size < (W.alloc (.cells #[.bool false] 4)).heap.size := by simp only [heap_len]; omega
  refine (asked_no 41 _ (fun w' => ∃ n, w' = (W.alloc (.cells #[.bool false] 4)).drewN n) W (fun _ => by kernel_rfl) h ?_).mono ?_
  · rintro w' ⟨n, rfl⟩
    exact ⟨(old_cell (W := (W.alloc (.cells #[.bool false] 4)).drewN n) lnew).trans hnew, (old_frozen (W := (W.alloc (.cells #[.bool false] 4)).drewN n) lnew).trans hnz⟩
  · rintro e w' ⟨rfl, w2, ⟨n, rfl⟩, h2⟩
    rcases h2 with ⟨h, _⟩ | ⟨_, rfl⟩
    · cases h
    · have lr2 : r.block < ((W.alloc (.cells #[.bool false] 4)).drewN n).heap.size := Nat.lt_trans lr lnew
      refine ⟨rfl, ?_, fun B h1 h2 => ?_⟩
      · rw [World.cell?_setCell_other _ _ _ _ (Ne.symm hne)]
        exact (old_cell lr2).trans ((old_cell lr).trans hr)
      · exact ((below_drw ((Below.refl B W).alloc h2 _) n).alloc (Nat.le_trans h2 (Nat.le_of_lt lnew)) _).setCell h2 _
set_option maxRecDepth 10000 in
theorem order_in (a b : Nat) (w : World) :
    Calls Try.prog 20 #[.int .u64 a, .int .u64 b] w fun e w' => e = .returned (.int .i64 (cmpR a b)) ∧ Below w.heap.size w w' := by
  have hmf : ∀ (fn : Fn) (first cap : Array Value) (w : World), (Instr.makeFunc fn first cap).run Try.prog w = .ok (.func fn first cap) w := fun _ _ _ _ => rfl
  cases hn : (nanB a || nanB b)
  · have ha : nanB a = false := by cases h : nanB a <;> simp_all
    have hb : nanB b = false := by cases h : nanB b <;> simp_all
    clear hn
    go_enter Try.func20, Try.ntmps20
    go_wp2_with fail
    refine (asked_order_ok a b ⟨w.heap.size, 0, none⟩ ⟨w.heap.size + 1, 0, none⟩ ⟨w.heap.size + 1 + 1, 0, none⟩ ha hb _ (by simp [go_sem]) (by simp [go_sem]) (by simp [go_sem]) (by simp [go_sem]) (by simp only [heap_len]; omega) (by simp only [heap_len]; omega) (by simp only [heap_len]; omega)).mono ?_
    rintro e w' ⟨rfl, hc, hb⟩
    have hB : Hid (Below w.heap.size w w') := Lib.hid (((((Below.refl _ w).alloc (Nat.le_refl _) _).alloc (by simp only [heap_len]; omega) _).alloc (by simp only [heap_len]; omega) _).trans (hb _ (by show w.heap.size ≤ w.heap.size + 1 + 1; omega) (by simp only [heap_len]; omega)))
    clear hb
    go_wp2_with fail
    go_ret
    exact ⟨rfl, hB.out⟩
  · have hc2 : cmpR a b = 2 := by unfold cmpR; rw [hn]; rfl
    have HC2 := Lib.hid hc2; clear hc2
    have hn2 : nanB a = true ∨ nanB b = true := by simpa using hn
    have HN2 := Lib.hid hn2
    clear hn hn2
    go_enter Try.func20, Try.ntmps20
    go_wp2_with fail
    refine (asked_order_nan a b ⟨w.heap.size, 0, none⟩ ⟨w.heap.size + 1, 0, none⟩ ⟨w.heap.size + 1 + 1, 0, none⟩ HN2.out _ (by simp [go_sem]) (by simp [go_sem]) (by simp [go_sem]) (by simp only [heap_len]; omega) (by simp only [heap_len]; omega) (by simp only [heap_len]; omega)).mono ?_
    rintro e w' ⟨rfl, hc, hb⟩
    have hB : Hid (Below w.heap.size w w') := Lib.hid (((((Below.refl _ w).alloc (Nat.le_refl _) _).alloc (by simp only [heap_len]; omega) _).alloc (by simp only [heap_len]; omega) _).trans (hb _ (by show w.heap.size ≤ w.heap.size + 1 + 1; omega) (by simp only [heap_len]; omega)))
    clear hb
    go_wp2_with fail
    go_ret
    exact ⟨ret_int HC2.out.symm, hB.out⟩
end Go.Proofs.Ytckdbgejpagkpaa
