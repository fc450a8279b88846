/-
  Numbers with a point: asked: what is thrown is caught.
-/
import Derived.Test.YtckdbgejpagkpaaFRealL
import Derived.Laws.Pointers
namespace Go.Proofs.Ytckdbgejpagkpaa
open Go Go.RowKit
set_option linter.unusedVariables false
set_option linter.unusedSimpArgs false

theorem none_size : (Try.prog.info? 48).map (fun i => (i.zero, i.size, i.bytes)) = some (some (.agg #[]), 0, 0) := by kernel_rfl
theorem catch_idle (p : Addr) (w : World) :
    CallsD Try.prog 58 #[.pointer (some p)] .returning w fun e u' w' => e = .returned (.tuple #[]) ∧ u' = .returning ∧ w' = w := by
  refine callsD_of_wpS Try.func58 rfl fun c₀ cs hu => ?_
  apply wpS_seq
  apply wpS_region
  simp [wpOpsS, go_sem, recoverD, hu, Try.ntmps58, Exit.thenS]
  apply wpS_seq
  apply wpS_region
  simp [wpOpsS, go_sem, recoverD, hu, Try.ntmps58, Exit.thenS]
  refine wpS_cond (t := false) (by simp [Act.eval, Array.replicate]) ?_
  simp only [Bool.false_eq_true, if_false]
  refine wpS_of_wp (wp_skip ?_)
  cases c₀
  simp_all [bodyPostS, results, Try.results58]
theorem catch_thrown (p : Addr) (x : Value) (w : World) (hc : (w.alloc (.cells #[] 48)).cell? p = some x) (hz : (w.alloc (.cells #[] 48)).frozen? p = false) :
    CallsD Try.prog 58 #[.pointer (some p)] (.panicking thrown) w fun e u' w' =>
      e = .returned (.tuple #[]) ∧ u' = .panicking [{ v := .iface 48 (.agg #[]), recovered := true }] ∧ w' = (w.alloc (.cells #[] 48)).setCell p (.bool false) := by
  refine callsD_of_wpS Try.func58 rfl fun c₀ cs hu => ?_
  unfold thrown at hu
  have hrep : Array.replicate 14 undef = #[undef, undef, undef, undef, undef, undef, undef, undef, undef, undef, undef, undef, undef, undef] := rfl
  apply wpS_seq
  apply wpS_region
  simp [wpOpsS, go_sem, recoverD, hu, Try.ntmps58, Exit.thenS, hrep]
  apply wpS_seq
  apply wpS_region
  simp [wpOpsS, go_sem, recoverD, hu, Try.ntmps58, Exit.thenS, hrep]
  refine wpS_cond (t := true) (by simp [Act.eval, Array.replicate]) ?_
  simp only [if_true]
  have hta : ∀ w, (Instr.typeAssert (.iface 48 (.agg #[])) 20 48 true).run Try.prog w = .ok (.tuple #[.agg #[], .bool true]) w := fun _ => by kernel_rfl
  clear hrep
  refine wpS_of_wp ?_
  go_wp2
  exact ⟨rfl, _, rfl, .tuple #[], by simp [results, Try.results58], rfl, rfl, rfl⟩
/-- What is left when asked is done. -/
def Asked (R : World → Prop) (w : World) (x : Bool) (e : Ending) (w' : World) : Prop :=
  e = .returned (.bool x) ∧ ∃ w2, R w2 ∧ ((x = true ∧ w' = w2.setCell ⟨w.heap.size, 0, none⟩ (.bool true)) ∨ (x = false ∧ w' = (w2.alloc (.cells #[] 48)).setCell ⟨w.heap.size, 0, none⟩ (.bool false)))
theorem asked_ok (k : FuncId) (caps : Array Value) (R : World → Prop) (w : World) (hk : ∀ w, (callFunc k caps).run Try.prog w = .ok (.enter k caps) w)
    (h : Calls Try.prog k caps (w.alloc (.cells #[.bool false] 4)) fun e w' => e = .returned (.tuple #[]) ∧ R w')
    (hR : ∀ w', R w' → w'.cell? ⟨w.heap.size, 0, none⟩ = some (.bool false) ∧ w'.frozen? ⟨w.heap.size, 0, none⟩ = false) :
    Calls Try.prog 40 #[.func (.func k) #[] caps] w (Asked R w true) := by
  have hmf : ∀ (fn : Fn) (first cap : Array Value) (w : World), (Instr.makeFunc fn first cap).run Try.prog w = .ok (.func fn first cap) w := fun _ _ _ _ => rfl
  go_enter_defers Try.func40, Try.ntmps40
  go_wp2_with fail
  refine h.mono ?_
  rintro e w2 ⟨rfl, hr⟩
  obtain ⟨hc, hz⟩ := hR _ hr
  go_wp2_with fail
  refine leaves_cons (f := 58) (args := #[.pointer (some ⟨w.heap.size, 0, none⟩)]) (by simp) (by simp [go_sem]) ?_
  refine (catch_idle ⟨w.heap.size, 0, none⟩ _).mono ?_
  rintro e u' w'' ⟨rfl, rfl, rfl⟩
  simp [Leaves, settle, results, Try.results40, go_sem]
  exact ⟨_, by rw [World.cell?_setCell_same _ _ _ hc], rfl, _, hr, .inl ⟨rfl, rfl⟩⟩
theorem asked_no (k : FuncId) (caps : Array Value) (R : World → Prop) (w : World) (hk : ∀ w, (callFunc k caps).run Try.prog w = .ok (.enter k caps) w)
    (h : Calls Try.prog k caps (w.alloc (.cells #[.bool false] 4)) fun e w' => e = .panicked thrown ∧ R w')
    (hR : ∀ w', R w' → (w'.alloc (.cells #[] 48)).cell? ⟨w.heap.size, 0, none⟩ = some (.bool false) ∧ (w'.alloc (.cells #[] 48)).frozen? ⟨w.heap.size, 0, none⟩ = false) :
    Calls Try.prog 40 #[.func (.func k) #[] caps] w (Asked R w false) := by
  have hmf : ∀ (fn : Fn) (first cap : Array Value) (w : World), (Instr.makeFunc fn first cap).run Try.prog w = .ok (.func fn first cap) w := fun _ _ _ _ => rfl
  go_enter_defers Try.func40, Try.ntmps40
  go_wp2_with fail
  refine h.mono ?_
  rintro e w2 ⟨rfl, hr⟩
  obtain ⟨hc, hz⟩ := hR _ hr
  go_wp2_with fail
  refine leaves_cons (f := 58) (args := #[.pointer (some ⟨w.heap.size, 0, none⟩)]) (by simp) (by simp [go_sem]) ?_
  refine (catch_thrown ⟨w.heap.size, 0, none⟩ _ _ hc hz).mono ?_
  rintro e u' w'' ⟨rfl, rfl, rfl⟩
  simp [Leaves, settle, results, Try.results40, go_sem]
  exact ⟨_, by rw [World.cell?_setCell_same _ _ _ hc], rfl, _, hr, .inr ⟨rfl, rfl⟩⟩
end Go.Proofs.Ytckdbgejpagkpaa
