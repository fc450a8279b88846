/-
  A whole struct into its block; results that lie in blocks of the call's own.
-/
import Derived.Test.YtlpgandflkabcaaGreatDoorFB
import Derived.Test.YtlpgandflkabcaaGreatDoorProg
import Derived.Deep.RegionWith
import Derived.Shelf.RegionOpen
import Derived.RangeFuncNested
import Derived.Laws.Rows
import Derived.Laws.Tables
import Derived.OwnWalk
import Derived.Deep.Quiet
import Derived.BigQuiet
namespace Go.Proofs.YtlpgandflkabcaaGreatDoor
open Go Go.RowKit
set_option linter.unusedVariables false
set_option linter.unusedSimpArgs false

theorem CK.one {k : CK} {v : Value} (h : k.ok v) : v.oneCell' = true := by
  cases k
  · obtain ⟨b, rfl⟩ := h; rfl
  · obtain ⟨n, rfl, _⟩ := h; rfl
  · obtain ⟨s, rfl, _⟩ := h; rfl
theorem Fits.one : ∀ {ks : List CK} {vs : List Value}, Fits ks vs → ∀ v ∈ vs, v.oneCell' = true
  | [], [], _, v, hv => by cases hv
  | k :: ks, v0 :: vs, h, v, hv => by
    rcases List.mem_cons.1 hv with rfl | hv
    · exact CK.one h.1
    · exact Fits.one h.2 v hv
theorem Fits.all_one {ks : List CK} {cs : Array Value} (h : Fits ks cs.toList) : cs.all (·.oneCell') = true := by
  rw [Array.all_eq_true_iff_forall_mem]
  exact fun v hv => h.one v (by simpa using hv)

theorem row_same {w : World} {g : Nat} {old cs : Array Value} {t : TypeId} {fr : Nat × Nat} (h : w.heap[g]? = some (.cells old t fr)) : (w.setRow g cs).heap[g]? = some (.cells cs t fr) := setRow_heap w g old cs t fr h
theorem row_ne (w : World) (g k : Nat) (cs : Array Value) (h : k ≠ g) : (w.setRow g cs).heap[k]? = w.heap[k]? := by
  show (w.heap.modify g _)[k]? = _
  rw [Array.getElem?_modify, if_neg (fun e => h e.symm)]
theorem row_len (w : World) (g : Nat) (cs : Array Value) : (w.setRow g cs).heap.size = w.heap.size := by simp [World.setRow]
theorem below_row {B : Nat} {a w : World} (h : Below B a w) (g : Nat) (cs : Array Value) (hg : B ≤ g) : Below B a (w.setRow g cs) :=
  ⟨h.os, h.tape, h.output, by rw [row_len]; exact h.size, fun k hk => by rw [row_ne _ _ _ _ (by omega)]; exact h.block k hk⟩

section
variable {P : Program} {ops : Array Oper} {rest : List Oper} {Q : Exit → Act → World → Prop} {a : Act} {w : World}
/-- What 'store T x y' of a whole block asks, behind a name. -/
def StoreGoal (P : Program) (ops : Array Oper) (Q : Exit → Act → World → Prop) (rest : List Oper) (o : Oper) (T : TypeId) (x y : Operand) (a : Act) (w : World) : Prop := o.op = .store T x y → o.guard = none → wpList P ops Q (o :: rest) a w
theorem wpl_store (T : TypeId) {x y : Operand} {d : Option Tmp} {ty : TypeId} {pos : String} {af : Array Edge} (h : StoreGoal P ops Q rest ⟨d, .store T x y, ty, pos, af, none⟩ T x y a w) :
    wpList P ops Q (⟨d, .store T x y, ty, pos, af, none⟩ :: rest) a w := h rfl rfl
theorem StoreGoal.of {o : Oper} {T : TypeId} {x y : Operand} (cs old : Array Value) {g : Nat} {t : TypeId} {ks : List CK} (hx : a.eval x = .pointer (some ⟨g, 0, none⟩)) (hy : a.eval y = .agg cs) (hg : w.heap[g]? = some (.cells old t (0, 0)))
    (hf : Fits ks cs.toList) (ho : Fits ks old.toList) (hi : (P.info? T).map (·.size) = some ks.length)
    (h : wpList P ops Q rest (a.put o.dst undef) (w.setRow g cs)) : StoreGoal P ops Q rest o T x y a w := by
  intro e he
  exact wpList_store_row he T x y e g cs hx hy t old hg (by rw [hf.arr_size]; exact hi) (by rw [hf.arr_size, ho.arr_size]) hf.all_one h
end

/-- The same at an operation by itself (a region that draws its order). -/
def OLoadGoal (P : Program) (Q : Exit → Act → World → Prop) (o : Oper) (T : TypeId) (x : Operand) (a : Act) (w : World) (K : Act → World → Prop) : Prop := o.op = .load T x → o.wp P a w K Q
theorem op_load (T : TypeId) {P : Program} {Q : Exit → Act → World → Prop} {a : Act} {w : World} {K : Act → World → Prop} {x : Operand} {d : Option Tmp} {ty : TypeId} {pos : String} {af : Array Edge} {g : Option (Nat × Bool)}
    (h : OLoadGoal P Q ⟨d, .load T x, ty, pos, af, g⟩ T x a w K) : Oper.wp P ⟨d, .load T x, ty, pos, af, g⟩ a w K Q := h rfl
theorem OLoadGoal.of {P : Program} {Q : Exit → Act → World → Prop} {a : Act} {w : World} {K : Act → World → Prop} {o : Oper} {T : TypeId} {x : Operand} (cs : Array Value) {g : Nat} {t : TypeId} {fr : Nat × Nat} (hx : a.eval x = .pointer (some ⟨g, 0, none⟩)) (hg : w.heap[g]? = some (.cells cs t fr))
    (ha : isAggB P T = true) (hi : (P.info? T).map (·.size) = some cs.size) (h : K (a.put o.dst (.agg cs)) w) : OLoadGoal P Q o T x a w K := by
  intro ho
  have hd : ∃ d, P.underlying T = some d ∧ (match d with | .struct _ | .array _ _ => true | _ => false) = true := by
    unfold isAggB at ha
    split at ha
    · rename_i hu; exact ⟨_, hu, rfl⟩
    · rename_i hu; exact ⟨_, hu, rfl⟩
    · cases ha
  obtain ⟨d, hu, hd⟩ := hd
  cases d <;> first | exact wp_load_row T x ho g hx t cs fr _ hg hu rfl hi h | cases hd

/-- A whole block's cells, as a region that draws its order asks them. -/
theorem cells_row {P : Program} {w : World} {g n : Nat} {t : TypeId} {c : Array Value} {fr : Nat × Nat} (h : w.heap[g]? = some (.cells c t fr)) (hn : c.size = n) : (loadCellsFrom ⟨g, 0, none⟩ 0 n #[]).run P w = .ok c w := by
  subst hn
  have := run_loadCells_list (P := P) w ⟨g, 0, none⟩ c.toList (fun j v hv => by
    have hadd : (⟨g, 0, none⟩ : Addr).add j = ⟨g, j, none⟩ := by unfold Addr.add; split <;> simp_all
    rw [hadd, cell_of_row _ _ j c t fr h]
    simpa using hv)
  simpa [loadCells] using this

theorem isAgg_desc {P : Program} {T : TypeId} (ha : isAggB P T = true) : ∃ d, P.underlying T = some d ∧ (match d with | .struct _ | .array _ _ => true | _ => false) = true := by
  unfold isAggB at ha
  split at ha
  · rename_i hu; exact ⟨_, hu, rfl⟩
  · rename_i hu; exact ⟨_, hu, rfl⟩
  · cases ha
theorem run_var_row {P : Program} (w : World) (g : Nat) (t ty : TypeId) (cs : Array Value) (fr : Nat × Nat) (hg : w.heap[g]? = some (.cells cs t fr)) (ha : isAggB P ty = true) (hi : (P.info? ty).map (·.size) = some cs.size) :
    (loadVar ty ⟨g, 0, none⟩).run P w = .ok (.agg cs) w := by
  obtain ⟨d, hu, hd⟩ := isAgg_desc ha
  cases d <;> first | exact run_loadVar_row w g t ty cs fr _ hg hu rfl hi | cases hd

section
variable {P : Program} {fn : Func} {w : World} {tmps : Array Value}
/-- One struct that lies in a block. -/
theorem res_cell {p : Tmp} {ty : TypeId} (h : fn.results = #[.cell p ty]) {g : Nat} {t : TypeId} {cs : Array Value} {fr : Nat × Nat}
    (hp : tmps.getD p undef = .pointer (some ⟨g, 0, none⟩)) (hg : w.heap[g]? = some (.cells cs t fr)) (ha : isAggB P ty = true) (hi : (P.info? ty).map (·.size) = some cs.size) :
    (results fn tmps).run P w = .ok (.agg cs) w := by
  have hp' : tmps[p]?.getD undef = .pointer (some ⟨g, 0, none⟩) := by simpa using hp
  simp [results, h, hp', asAddr, run_var_row w g t ty cs fr hg ha hi]
theorem res_cell_tmp {p q : Tmp} {ty : TypeId} (h : fn.results = #[.cell p ty, .tmp q]) {g : Nat} {t : TypeId} {cs : Array Value} {fr : Nat × Nat}
    (hp : tmps.getD p undef = .pointer (some ⟨g, 0, none⟩)) (hg : w.heap[g]? = some (.cells cs t fr)) (ha : isAggB P ty = true) (hi : (P.info? ty).map (·.size) = some cs.size) :
    (results fn tmps).run P w = .ok (.tuple #[.agg cs, tmps.getD q undef]) w := by
  have hp' : tmps[p]?.getD undef = .pointer (some ⟨g, 0, none⟩) := by simpa using hp
  simp [results, h, hp', asAddr, run_var_row w g t ty cs fr hg ha hi]
theorem res_cell_tmp2 {p q r : Tmp} {ty : TypeId} (h : fn.results = #[.cell p ty, .tmp q, .tmp r]) {g : Nat} {t : TypeId} {cs : Array Value} {fr : Nat × Nat}
    (hp : tmps.getD p undef = .pointer (some ⟨g, 0, none⟩)) (hg : w.heap[g]? = some (.cells cs t fr)) (ha : isAggB P ty = true) (hi : (P.info? ty).map (·.size) = some cs.size) :
    (results fn tmps).run P w = .ok (.tuple #[.agg cs, tmps.getD q undef, tmps.getD r undef]) w := by
  have hp' : tmps[p]?.getD undef = .pointer (some ⟨g, 0, none⟩) := by simpa using hp
  simp [results, h, hp', asAddr, run_var_row w g t ty cs fr hg ha hi]
theorem res_cell_cell {p q : Tmp} {ty tz : TypeId} (h : fn.results = #[.cell p ty, .cell q tz]) {g : Nat} {t : TypeId} {cs : Array Value} {fr : Nat × Nat} {b : Nat} {v : Value}
    (hp : tmps.getD p undef = .pointer (some ⟨g, 0, none⟩)) (hg : w.heap[g]? = some (.cells cs t fr)) (ha : isAggB P ty = true) (hi : (P.info? ty).map (·.size) = some cs.size)
    (hq : tmps.getD q undef = .pointer (some ⟨b, 0, none⟩)) (hb : (loadVar tz ⟨b, 0, none⟩).run P w = .ok v w) :
    (results fn tmps).run P w = .ok (.tuple #[.agg cs, v]) w := by
  have hp' : tmps[p]?.getD undef = .pointer (some ⟨g, 0, none⟩) := by simpa using hp
  have hq' : tmps[q]?.getD undef = .pointer (some ⟨b, 0, none⟩) := by simpa using hq
  simp [results, h, hp', hq', asAddr, run_var_row w g t ty cs fr hg ha hi, hb]
end

/-! ### A region that draws its order, reads, and calls what only makes memory of its own: one walk, in the order of the text -/
/-- A world that has grown out of W: what lay in W lies as it lay. -/
structure Grown (W : World) where
  w : World
  below : Below W.heap.size W w
instance (W : World) : Nonempty (Grown W) := ⟨⟨W, Below.refl _ _⟩⟩
theorem Grown.cell {W : World} {b o : Nat} {cs : Array Value} {t : TypeId} {fr : Nat × Nat} {v : Value} (h : W.heap[b]? = some (.cells cs t fr)) (hv : cs[o]? = some v) (s : Grown W) : s.w.cell? ⟨b, o, none⟩ = some v :=
  cell_at ((s.below.block _ (heap_lt h)).trans h) hv
theorem Grown.row {W : World} {b : Nat} {ob : Obj} (h : W.heap[b]? = some ob) (s : Grown W) : s.w.heap[b]? = some ob := (s.below.block _ (heap_lt h)).trans h
theorem wp_region_grown {P : Program} {id : Nat} {Q : Exit → Act → World → Prop} {a : Act} {w : World} {l : List Oper} (hm : P.follows .mixedOrders = true) (hB : Region.lexB .any l.toArray = true)
    (h : wpQuiet P l.toArray (fun w' => ∃ s : Grown w, w' = s.w) (fun a' => ∀ w', (∃ s : Grown w, w' = s.w) → Q .normal a' w') l a) : (Code.region id l.toArray true).wp P Q a w :=
  wp_region_quiet (C := fun w' => ∃ s : Grown w, w' = s.w) hm hB ⟨⟨{ w with drawn := w.drawn + 1 }, ⟨rfl, rfl, rfl, Nat.le_refl _, fun _ _ => rfl⟩⟩, rfl⟩ (by simpa using h)
theorem Calls.grown {P : Program} {f : FuncId} {args : Array Value} {W : World} {s : Grown W} {v : Value}
    (h : Calls P f args s.w fun e w' => e = .returned v ∧ Below s.w.heap.size s.w w') : Calls P f args s.w fun e w'' => e = .returned v ∧ ∃ t : Grown W, w'' = t.w :=
  h.mono fun _ w'' ⟨he, hb⟩ => ⟨he, ⟨w'', s.below.trans (hb.mono s.below.size)⟩, rfl⟩
theorem Calls.grown_same {P : Program} {f : FuncId} {args : Array Value} {W : World} {s : Grown W} {v : Value}
    (h : Calls P f args s.w fun e w' => e = .returned v ∧ w' = s.w) : Calls P f args s.w fun e w'' => e = .returned v ∧ ∃ t : Grown W, w'' = t.w :=
  h.mono fun _ w'' ⟨he, hb⟩ => ⟨he, s, hb⟩
theorem quiet_load_row {P : Program} {W : World} {o : Oper} {a : Act} {K : Act → Prop} (T : TypeId) (x : Operand) (cs : Array Value) {g : Nat} {t : TypeId} {fr : Nat × Nat} (ho : o.op = .load T x) (hx : a.eval x = .pointer (some ⟨g, 0, none⟩))
    (hg : W.heap[g]? = some (.cells cs t fr)) (ha : isAggB P T = true) (hi : (P.info? T).map (·.size) = some cs.size) (hk : K (a.put o.dst (.agg cs))) : o.quiet P a (fun w' => ∃ s : Grown W, w' = s.w) K := by
  refine ⟨.agg cs, fun w' hw => ?_, hk⟩
  obtain ⟨s, rfl⟩ := hw
  have hrun : (execOp a.eval o).run P s.w = .ok (.value (.agg cs)) s.w := by
    unfold execOp
    simp only [ho, hx, Instr.loadAt, Instr.sureAddr, Sem.run_bind, Sem.run_pure, Result.andThen_ok, run_var_row s.w g t T cs fr (s.row hg) ha hi]
  unfold Oper.quietAt
  rw [hrun]
  exact ⟨rfl, rfl⟩
end Go.Proofs.YtlpgandflkabcaaGreatDoor
