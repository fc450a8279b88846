/-
  Names: Read by the document at every table; the document's Same.
-/
import Derived.Test.YtlifdfkconklfaaDoorFNmN
namespace Go.Proofs.YtlifdfkconklfaaDoor
open Go Go.RowKit
set_option linter.unusedVariables false
set_option linter.unusedSimpArgs false

theorem rread_any (syms strs hash : List UInt8) (hl : syms.length ≤ 1000000) (hst : strs.length ≤ 1000000) (w : World) :
    Calls Tryd.prog 10 #[.agg (tabV syms strs hash)] w (ReadPost (readF syms strs) w) := by
  cases h : rOk syms
  · exact rread_bad syms strs hash hl h w
  · exact rread_good syms strs hash hl hst h w
def symK : List CK := [.s, .i .u32, .i .u32, .i .i64, .i .i64]
theorem sym_flat : flat Tryd.prog 5 39 = some symK := by kernel_rfl
theorem sym_fits (s : SymD) (h : s.Ok) : Fits symK (symV s).toList := by
  obtain ⟨h1, h2, h3, h4, h5, h6, h7⟩ := h
  exact ⟨⟨_, rfl, by rw [mkB_size]; unfold maxLen; omega⟩, ⟨_, rfl, wf_u32.2 (by omega)⟩, ⟨_, rfl, wf_u32.2 (by omega)⟩, ⟨_, rfl, wf_i64.2 (by omega)⟩, ⟨_, rfl, wf_i64.2 (by omega)⟩, trivial⟩
theorem symV_inj {s t : SymD} (h : symV s = symV t) : s = t := by
  obtain ⟨a, b, c, d, e⟩ := s
  obtain ⟨a', b', c', d', e'⟩ := t
  simp only [symV, Array.mk.injEq, List.cons.injEq, Value.string.injEq, Value.int.injEq, true_and, and_true, mkB_inj, Int.ofNat_inj] at h
  obtain ⟨rfl, rfl, rfl, rfl, rfl⟩ := h
  rfl
theorem sym_eq (s t : SymD) (hs : s.Ok) (ht : t.Ok) (w : World) : (Op.equalIn 10000 39 (.agg (symV s)) (.agg (symV t))).run Tryd.prog w = .ok (decide (s = t)) w := by
  rw [eq_flat' sym_flat (by kernel_rfl) (by omega) (sym_fits s hs) (sym_fits t ht) w]
  congr 1
  rw [Bool.eq_iff_iff, cellsEq_iff (sym_fits s hs) (sym_fits t ht), decide_eq_true_iff]
  exact ⟨fun h => symV_inj (Array.toList_inj.1 h), fun h => by rw [h]⟩
theorem quiet_load_mid {P : Program} {W : World} {o : Oper} {a : Act} {K : Act → Prop} (T : TypeId) (x : Operand) (cs : Array Value) {b off : Nat} {d : TypeDesc} (ho : o.op = .load T x) (hx : a.eval x = .pointer (some ⟨b, off, none⟩))
    (hc : ∀ s : Grown W, s.w.rangeAt b off cs.toList) (hu : P.underlying T = some d) (hd : d.isRow = true) (hi : (P.info? T).map (·.size) = some cs.size) (hk : K (a.put o.dst (.agg cs))) : o.quiet P a (fun w' => ∃ s : Grown W, w' = s.w) K := by
  refine ⟨.agg cs, fun w' hw => ?_, hk⟩
  obtain ⟨s, rfl⟩ := hw
  have hrun : (execOp a.eval o).run P s.w = .ok (.value (.agg cs)) s.w := by
    unfold execOp
    simp only [ho, hx]
    have := run_loadAt_mid (P := P) s.w b off T cs.toList d (hc s) hu hd (by rw [hi]; simp)
    simp only [Sem.run_bind, this, Result.andThen_ok, Sem.run_pure]
  unfold Oper.quietAt
  rw [hrun]
  exact ⟨rfl, rfl⟩
end Go.Proofs.YtlifdfkconklfaaDoor
