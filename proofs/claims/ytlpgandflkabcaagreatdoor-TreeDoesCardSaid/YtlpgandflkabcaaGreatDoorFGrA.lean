/-
  A region that draws its order, whose operations read, call what makes memory of its own, or make a new block: one walk, in the order of the text, serves every order.
-/
import Derived.Test.YtlpgandflkabcaaGreatDoorFGrT
namespace Go.Proofs.YtlpgandflkabcaaGreatDoor
open Go Go.RowKit
set_option linter.unusedVariables false
set_option linter.unusedSimpArgs false

/-- What a call hands back is one value, whatever its contracts say. -/
theorem calls_unique {P : Program} {f : FuncId} {args : Array Value} {w : World} {v v' : Value} {C C' : World → Prop}
    (h : Calls P f args w fun e w' => e = .returned v ∧ C w') (h' : Calls P f args w fun e w' => e = .returned v' ∧ C' w') : v = v' := by
  obtain ⟨c, hc⟩ : ∃ c : Frame, c = { fn := P.funcs.size, tmps := #[], todo := [], defers := [], mode := .returning, kind := .report, roundOf := none } := ⟨_, rfl⟩
  have hfin : ∀ (u : Value) (x : World), ∃ s y, step P (lone (c.finish u) [] x) = .ended s y := by
    intro u x
    have hcu : c.finish u = c := by subst hc; rfl
    rw [hcu]
    exact ⟨.stuck "report: Error or String returned no string" "", x, step_lone_ended (by subst hc; simp [stepG, unwind, doReturn])⟩
  have key : ∀ {u u' : Value} {m : Machine} {fr fr' : Frame} {x x' : World} {n k : Nat}, runN P n m = .next (lone fr [c] x) → fr.leaving P x (.returned u) → runN P (n + k) m = .next (lone fr' [c] x') → fr'.leaving P x' (.returned u') → u = u' := by
    intro u u' m fr fr' x x' n k h1 l1 h2 l2
    rw [runN_add, h1] at h2
    dsimp only at h2
    match k, h2 with
    | 0, h2 =>
      have e : lone fr [c] x = lone fr' [c] x' := Stepped.next.inj h2
      simp only [lone, Machine.mk.injEq, Array.mk.injEq, List.cons.injEq, Goroutine.mk.injEq, and_true] at e
      obtain ⟨rfl, e2⟩ := e
      subst e2
      obtain ⟨_, _, _, fn, hf, hr⟩ := l1
      obtain ⟨_, _, _, fn', hf', hr'⟩ := l2
      rw [hf] at hf'
      cases hf'
      rw [hr] at hr'
      cases hr'
      rfl
    | 1, h2 =>
      have hs := step_leave_returned (c := c) (cs := []) l1
      simp only [runN, hs] at h2
      have e : lone (c.finish u) [] x = lone fr' [c] x' := Stepped.next.inj h2
      simp [lone] at e
    | k + 2, h2 =>
      have hs := step_leave_returned (c := c) (cs := []) l1
      obtain ⟨s, y, hy⟩ := hfin u x
      simp only [runN, hs, hy] at h2
      cases h2
  obtain ⟨e, w1, fr, ⟨rfl, _⟩, ⟨n, hn⟩, _, hl⟩ := h [c]
  obtain ⟨e, w2, fr', ⟨rfl, _⟩, ⟨n', hn'⟩, _, hl'⟩ := h' [c]
  rcases Nat.le_total n n' with hle | hle
  · obtain ⟨k, rfl⟩ := Nat.exists_eq_add_of_le hle
    exact key hn hl hn' hl'
  · obtain ⟨k, rfl⟩ := Nat.exists_eq_add_of_le hle
    exact (key hn' hl' hn hl).symm

section
variable {P : Program} {ops : Array Oper} {md : Region.Mode} {W : World}

/-- A new block, its value by its number. -/
def FreshX (P : Program) (o : Oper) (a : Act) (mk : Nat → Value) (z : Obj) : Prop := ∀ w, (execOp a.eval o).run P w = .ok (.value (mk w.heap.size)) (w.alloc z)
/-- One value in every world that has grown out of W and of which A holds; what the operation leaves has grown out of what it met. -/
def QuietR (P : Program) (W : World) (A : World → Prop) (o : Oper) (a : Act) (v : Value) : Prop := ∀ w, Below W.heap.size W w → A w → o.quietAt P a (fun w' => Below w.heap.size w w') w v

theorem quietAt_unique {o : Oper} {a : Act} {C C' : World → Prop} {w : World} {v v' : Value} (h : o.quietAt P a C w v) (h' : o.quietAt P a C' w v') : v = v' := by
  unfold Oper.quietAt at h h'
  generalize (execOp a.eval o).run P w = r at h h'
  cases r with
  | ok n w' =>
    cases n <;> simp only [Oper.quietUpon] at h h'
    case value u => exact h.2.symm.trans h'.2
    case skip => exact h.2.trans h'.2.symm
    case enter f args => exact calls_unique h.2 h'.2
  | halt x w' => simp only [Oper.quietUpon] at h
theorem quietAt_same {o : Oper} {a a' : Act} {C : World → Prop} {w : World} {v : Value} (he : execOp a'.eval o = execOp a.eval o) (h : o.quietAt P a C w v) : o.quietAt P a' C w v := by
  unfold Oper.quietAt at h ⊢
  rwa [he]
theorem QuietR.of_same {A A' : World → Prop} {o : Oper} {a a' : Act} {v : Value} (he : execOp a'.eval o = execOp a.eval o) (hA : ∀ w, A' w → A w) (h : QuietR P W A o a v) : QuietR P W A' o a' v := fun w hw hA' => quietAt_same he (h w hw (hA w hA'))
theorem QuietR.unique {A A' : World → Prop} {o : Oper} {a a' : Act} {v v' : Value} {w : World} (hw : Below W.heap.size W w) (hA : A w) (hA' : A' w) (he : execOp a'.eval o = execOp a.eval o) (h : QuietR P W A o a v) (h' : QuietR P W A' o a' v') : v = v' :=
  quietAt_unique (h w hw hA) (quietAt_same he.symm (h' w hw hA'))
theorem FreshX.of_same {o : Oper} {a a' : Act} {mk : Nat → Value} {z : Obj} (he : execOp a'.eval o = execOp a.eval o) (h : FreshX P o a mk z) : FreshX P o a' mk z := fun w => by rw [he]; exact h w
theorem alloc_inj {w : World} {z z' : Obj} (h : w.alloc z = w.alloc z') : z = z' := by
  have h1 := World.alloc_heap_new w z
  rw [h, World.alloc_heap_new w z'] at h1
  exact (Option.some.inj h1).symm
theorem FreshX.unique (W : World) {o : Oper} {a a' : Act} {mk mk' : Nat → Value} {z z' : Obj} (he : execOp a'.eval o = execOp a.eval o) (h : FreshX P o a mk z) (h' : FreshX P o a' mk' z') : mk = mk' ∧ z = z' := by
  have hh := FreshX.of_same he.symm h'
  refine ⟨funext fun n => ?_, ?_⟩
  · have e := (h { W with heap := Array.replicate n z }).symm.trans (hh { W with heap := Array.replicate n z })
    simp only [Result.ok.injEq, Next.value.injEq, Array.size_replicate] at e
    exact e.1
  · have e := (h W).symm.trans (hh W)
    simp only [Result.ok.injEq] at e
    exact alloc_inj e.2
theorem FreshX.not_quiet {A : World → Prop} {o : Oper} {a a' : Act} {mk : Nat → Value} {z : Obj} {v : Value} {w : World} (hw : Below W.heap.size W w) (hA : A w) (he : execOp a'.eval o = execOp a.eval o) (h : FreshX P o a mk z) (h' : QuietR P W A o a' v) : False := by
  have h2 := h' w hw hA
  unfold Oper.quietAt at h2
  rw [he, h w] at h2
  have := congrArg (fun w : World => w.heap.size) h2.1
  simp at this

/-- What is known of a world by the operations that have made a block; which blocks they are. -/
structure Facts where
  fact : Nat → World → Prop
  used : Nat → Prop
abbrev blk (g : Nat) (z : Obj) : World → Prop := fun w => w.heap[g]? = some z
def Facts.and (F : Facts) (i g : Nat) (z : Obj) : Facts := ⟨fun t w => F.fact t w ∧ (t = i → blk g z w), fun x => F.used x ∨ x = g⟩
theorem Facts.and_comm (F : Facts) (i j g g' : Nat) (z z' : Obj) : (F.and i g z).and j g' z' = (F.and j g' z').and i g z := by
  unfold Facts.and
  congr 1
  · exact funext fun t => funext fun w => propext ⟨fun ⟨⟨a, b⟩, c⟩ => ⟨⟨a, c⟩, b⟩, fun ⟨⟨a, b⟩, c⟩ => ⟨⟨a, c⟩, b⟩⟩
  · exact funext fun x => propext ⟨fun h => by rcases h with (h | h) | h <;> simp [h], fun h => by rcases h with (h | h) | h <;> simp [h]⟩
/-- It holds of a world. -/
def Facts.Of (F : Facts) (w : World) : Prop := (∀ t, F.fact t w) ∧ ∀ x, F.used x → x < w.heap.size
/-- What holds of a world holds of all that grow out of it. -/
def Facts.Up (F : Facts) : Prop := ∀ t w w', F.fact t w → Below w.heap.size w w' → F.fact t w'
theorem Facts.Up.of {F : Facts} (h : F.Up) {w w' : World} (hw : F.Of w) (hb : Below w.heap.size w w') : F.Of w' := ⟨fun t => h t w w' (hw.1 t) hb, fun x hx => Nat.lt_of_lt_of_le (hw.2 x hx) hb.size⟩
def Facts.Sat (W : World) (F : Facts) : Prop := ∃ w, Below W.heap.size W w ∧ F.Of w
theorem Facts.Up.and {F : Facts} (h : F.Up) (i g : Nat) (z : Obj) : (F.and i g z).Up := fun t w w' hw hb => ⟨h t w w' hw.1 hb, fun e => (hb.block g (heap_lt (hw.2 e))).trans (hw.2 e)⟩
theorem Facts.Sat.drop {F : Facts} {i g : Nat} {z : Obj} (h : (F.and i g z).Sat W) : F.Sat W := h.imp fun w hw => ⟨hw.1, fun t => (hw.2.1 t).1, fun x hx => hw.2.2 x (.inl hx)⟩
theorem Facts.Up.alloc {F : Facts} (h : F.Up) {w : World} (hw : Below W.heap.size W w) (hf : F.Of w) (i : Nat) (z : Obj) : Below W.heap.size W (w.alloc z) ∧ (F.and i w.heap.size z).Of (w.alloc z) := by
  have hb : Below w.heap.size w (w.alloc z) := (Below.refl _ _).alloc (Nat.le_refl _) _
  refine ⟨hw.trans (hb.mono hw.size), fun t => ⟨h t _ _ (hf.1 t) hb, fun _ => World.alloc_heap_new w z⟩, fun x hx => ?_⟩
  rw [World.size_alloc]
  rcases hx with hx | rfl
  · have := hf.2 x hx; omega
  · omega
theorem Facts.Of.new {F : Facts} {w : World} (hf : F.Of w) : ¬F.used w.heap.size := fun h => Nat.lt_irrefl _ (hf.2 _ h)

/-- What operation number i waits for. -/
def needs (md : Region.Mode) (ops : Array Oper) (F : Facts) (i : Nat) : World → Prop := fun w => ∀ t, Region.waitsFor md ops i t = true → F.fact t w
/-- Operation number i comes up. -/
def opF (P : Program) (md : Region.Mode) (ops : Array Oper) (W : World) (i : Nat) (K : Act → Facts → Prop) (a : Act) (F : Facts) : Prop :=
  match ops[i]? with
  | none => K a F
  | some o => if Region.wanted o (yielded ops a.tmps) then
      (∃ mk z, FreshX P o a mk z ∧ ∀ g, W.heap.size ≤ g → ¬F.used g → (F.and i g z).Sat W → K (a.put o.dst (mk g)) (F.and i g z)) ∨ (∃ v, QuietR P W (needs md ops F i) o a v ∧ K (a.put o.dst v) F)
    else K (a.put o.dst undef) F
theorem opF_mono {i : Nat} {K K' : Act → Facts → Prop} {a : Act} {F : Facts} (hu : F.Up) (hs : F.Sat W) (h : ∀ a F, F.Up → F.Sat W → K a F → K' a F) (hh : opF P md ops W i K a F) : opF P md ops W i K' a F := by
  unfold opF at hh ⊢
  split
  · rename_i ho; simp only [ho] at hh; exact h _ _ hu hs hh
  · rename_i o ho
    simp only [ho] at hh
    split
    · rename_i hw
      rw [if_pos hw] at hh
      rcases hh with ⟨mk, z, h1, h2⟩ | ⟨v, h1, h2⟩
      · exact .inl ⟨mk, z, h1, fun g hg hng hsg => h _ _ (hu.and _ _ _) hsg (h2 g hg hng hsg)⟩
      · exact .inr ⟨v, h1, h _ _ hu hs h2⟩
    · rename_i hw
      rw [if_neg hw] at hh
      exact h _ _ hu hs hh
def headF (P : Program) (md : Region.Mode) (ops : Array Oper) (W : World) (n : Nat) (L : Array Bool → Act → Facts → Prop) : Nat → Array Bool → Act → Facts → Prop
  | 0, done, a, F => L done a F
  | f + 1, done, a, F => Region.ready md ops done ≠ [] ∧ ∀ i ∈ Region.ready md ops done, i < n ∧ opF P md ops W i (headF P md ops W n L f (done.setIfInBounds i true)) a F

theorem wp_of_opF {i : Nat} {K : Act → Facts → Prop} {K' : Act → World → Prop} {Q' : Exit → Act → World → Prop} {a : Act} {w : World} {F : Facts} (hF : F.Up) (hw : Below W.heap.size W w) (hf : F.Of w)
    (h : ∀ a F w, Facts.Up F → Below W.heap.size W w → F.Of w → K a F → K' a w) (hh : opF P md ops W i K a F) : wpOp P ops Q' i K' a w := by
  unfold opF at hh
  unfold wpOp
  split
  · rename_i ho; simp only [ho] at hh; exact h _ _ _ hF hw hf hh
  · rename_i o ho
    simp only [ho] at hh
    split
    · rename_i hwt
      rw [if_pos hwt] at hh
      refine .inl ?_
      rcases hh with ⟨mk, z, h1, h2⟩ | ⟨v, h1, h2⟩
      · unfold Oper.wp
        rw [h1 w]
        obtain ⟨hb, hf'⟩ := hF.alloc hw hf i z
        exact h _ _ _ (hF.and _ _ _) hb hf' (h2 w.heap.size hw.size hf.new ⟨_, hb, hf'⟩)
      · have h3 := h1 w hw (fun t _ => hf.1 t)
        unfold Oper.quietAt at h3
        unfold Oper.wp
        generalize (execOp a.eval o).run P w = r at h3 ⊢
        cases r with
        | ok n w' =>
          cases n <;> simp only [Oper.quietUpon] at h3 <;> simp only [Oper.upon]
          case value u => rw [h3.1, h3.2]; exact h _ _ _ hF hw hf h2
          case skip => rw [h3.1, ← h3.2]; exact h _ _ _ hF hw hf h2
          case enter f args =>
            rw [h3.1]
            exact h3.2.mono fun e w'' ⟨he, hb⟩ => by subst he; exact h _ _ _ hF (hw.trans (hb.mono hw.size)) (hF.of hf hb) h2
        | halt x w' => simp only [Oper.quietUpon] at h3
    · rename_i hwt
      rw [if_neg hwt] at hh
      exact h _ _ _ hF hw hf hh
theorem any_of_headF {n g : Nat} {L : Array Bool → Act → Facts → Prop} {Q' : Exit → Act → World → Prop} (hL : ∀ done a F w, Below W.heap.size W w → F.Of w → L done a F → wpAny P md ops Q' g done a w) :
    ∀ (f : Nat) (done : Array Bool) (a : Act) (F : Facts) (w : World), F.Up → Below W.heap.size W w → F.Of w → headF P md ops W n L f done a F → wpAny P md ops Q' (f + g) done a w
  | 0, done, a, F, w, _, hw, hf, h => by rw [Nat.zero_add]; exact hL _ _ _ _ hw hf h
  | f + 1, done, a, F, w, hF, hw, hf, h => by
    rw [Nat.add_right_comm]
    refine ⟨fun h0 => absurd h0 h.1, fun i hi => ?_⟩
    exact wp_of_opF hF hw hf (fun a' F' w' hF' hw' hf' h' => any_of_headF hL f _ a' F' w' hF' hw' hf' h') (h.2 i hi).2

/-- An operation oj, apart from oi, behind oi's value: the same ahead of it. -/
theorem opF_put {j : Nat} {oi oj : Oper} {v : Value} (hj : ops[j]? = some oj) (hap : oi.apart ops oj = true) (hsi : ∀ cs b, oi.op ≠ .select cs b) (hsj : ∀ cs b, oj.op ≠ .select cs b)
    {K : Act → Facts → Prop} {a : Act} {F : Facts} (h : opF P md ops W j K (a.put oi.dst v) F) :
    opF P md ops W j (fun a' F' => (execOp a'.eval oi = execOp a.eval oi ∧ Region.wanted oi (yielded ops a'.tmps) = Region.wanted oi (yielded ops a.tmps)) ∧ (∀ t w, F'.fact t w → F.fact t w) ∧ K (a'.put oi.dst v) F') a F := by
  obtain ⟨h1, h2, h3⟩ := Oper.apart_spec hap
  have he := execOp_put oj hsj a oi.dst v h1
  have keep : ∀ u, execOp (a.put oj.dst u).eval oi = execOp a.eval oi ∧ Region.wanted oi (yielded ops (a.put oj.dst u).tmps) = Region.wanted oi (yielded ops a.tmps) := fun u => ⟨execOp_put oi hsi a oj.dst u h3, wanted_put oi a oj.dst u h3⟩
  unfold opF at h ⊢
  simp only [hj] at h ⊢
  rw [wanted_put oj a oi.dst v h1] at h
  split
  · rename_i hw
    rw [if_pos hw] at h
    rcases h with ⟨mk, z, f1, f2⟩ | ⟨u, f1, f2⟩
    · exact .inl ⟨mk, z, f1.of_same he.symm, fun g hg hng hsg => ⟨keep _, fun t w hw => hw.1, by rw [← Act.put_comm a v (mk g) h2]; exact f2 g hg hng hsg⟩⟩
    · exact .inr ⟨u, f1.of_same he.symm (fun _ h => h), keep _, fun t w hw => hw, by rw [← Act.put_comm a v u h2]; exact f2⟩
  · rename_i hw
    rw [if_neg hw] at h
    exact ⟨keep _, fun t w hw => hw, by rw [← Act.put_comm a v undef h2]; exact h⟩
/-- The same behind a new block of whatever number. -/
theorem opF_all {i j : Nat} {oi oj : Oper} {mk : Nat → Value} {z : Obj} (hj : ops[j]? = some oj) (hap : oi.apart ops oj = true) (hno : Region.waitsFor md ops j i = false) (hsi : ∀ cs b, oi.op ≠ .select cs b) (hsj : ∀ cs b, oj.op ≠ .select cs b)
    {K : Act → Facts → Prop} {a : Act} {F : Facts} (hu : F.Up) (hs : F.Sat W) (h : ∀ g, W.heap.size ≤ g → ¬F.used g → (F.and i g z).Sat W → opF P md ops W j K (a.put oi.dst (mk g)) (F.and i g z)) :
    opF P md ops W j (fun a' F' => (execOp a'.eval oi = execOp a.eval oi ∧ Region.wanted oi (yielded ops a'.tmps) = Region.wanted oi (yielded ops a.tmps)) ∧ (∀ t w, F'.fact t w → F.fact t w) ∧ ∀ g, W.heap.size ≤ g → ¬F'.used g → (F'.and i g z).Sat W → K (a'.put oi.dst (mk g)) (F'.and i g z)) a F := by
  obtain ⟨h1, h2, h3⟩ := Oper.apart_spec hap
  have he : ∀ v, execOp (a.put oi.dst v).eval oj = execOp a.eval oj := fun v => execOp_put oj hsj a oi.dst v h1
  have keep : ∀ u, execOp (a.put oj.dst u).eval oi = execOp a.eval oi ∧ Region.wanted oi (yielded ops (a.put oj.dst u).tmps) = Region.wanted oi (yielded ops a.tmps) := fun u => ⟨execOp_put oi hsi a oj.dst u h3, wanted_put oi a oj.dst u h3⟩
  obtain ⟨w0, hw0, hf0⟩ := hs
  obtain ⟨hb0, hf0'⟩ := hu.alloc hw0 hf0 i z
  have hs0 : (F.and i w0.heap.size z).Sat W := ⟨_, hb0, hf0'⟩
  have lose : ∀ g w, needs md ops F j w → needs md ops (F.and i g z) j w := fun g w hw t ht => ⟨hw t ht, fun e => by subst e; rw [hno] at ht; cases ht⟩
  unfold opF at h ⊢
  simp only [hj] at h ⊢
  simp only [wanted_put oj a oi.dst _ h1] at h
  split
  · rename_i hw
    simp only [hw, if_true] at h
    rcases h w0.heap.size hw0.size hf0.new hs0 with ⟨mj, zj, f1, f2⟩ | ⟨u, f1, f2⟩
    · refine .inl ⟨mj, zj, f1.of_same (he _).symm, fun gj hgj hnj hsj => ⟨keep _, fun t w hw => hw.1, fun g hg hng hsg => ?_⟩⟩
      have hcm := Facts.and_comm F j i gj g zj z
      have hne : gj ≠ g := fun e => hng (.inr e.symm)
      have hng' : ¬F.used g := fun e => hng (.inl e)
      rw [hcm] at hsg ⊢
      rcases h g hg hng' hsg.drop with ⟨mj', zj', e1, e2⟩ | ⟨u', e1, _⟩
      · obtain ⟨rfl, rfl⟩ := FreshX.unique W ((he (mk g)).trans (he (mk w0.heap.size)).symm) f1 e1
        have := e2 gj hgj (fun e => e.elim hnj hne) hsg
        rwa [Act.put_comm a (mk g) (mj gj) h2] at this
      · exact (FreshX.not_quiet hw0 (lose g w0 (fun t _ => hf0.1 t)) ((he (mk g)).trans (he (mk w0.heap.size)).symm) f1 e1).elim
    · refine .inr ⟨u, f1.of_same (he _).symm (lose _), keep _, fun t w hw => hw, fun g hg hng hsg => ?_⟩
      rcases h g hg hng hsg with ⟨mj', zj', e1, _⟩ | ⟨u', e1, e2⟩
      · exact (FreshX.not_quiet hw0 (lose _ w0 (fun t _ => hf0.1 t)) ((he (mk w0.heap.size)).trans (he (mk g)).symm) e1 f1).elim
      · obtain rfl := QuietR.unique hw0 (lose _ w0 (fun t _ => hf0.1 t)) (lose _ w0 (fun t _ => hf0.1 t)) ((he (mk g)).trans (he (mk w0.heap.size)).symm) f1 e1
        rw [← Act.put_comm a (mk g) u h2]
        exact e2
  · rename_i hw
    simp only [hw, if_false] at h
    exact ⟨keep _, fun t w hw => hw, fun g hg hng hsg => by rw [← Act.put_comm a (mk g) undef h2]; exact h g hg hng hsg⟩

theorem headF_take {n i : Nat} {oi : Oper} {L : Array Bool → Act → Facts → Prop} (hi : ops[i]? = some oi) (hsel : ∀ (j : Nat) (o : Oper) cs b, ops[j]? = some o → o.op ≠ .select cs b)
    (low : ∀ (done : Array Bool), HeadInv md ops n done → i ∈ Region.ready md ops done → ∀ j ∈ Region.ready md ops done, j < n) (hend : ∀ done a F, L done a F → ∀ j ∈ Region.ready md ops done, n ≤ j)
    (f : Nat) : ∀ (done : Array Bool) (a : Act) (F : Facts), F.Up → F.Sat W → HeadInv md ops n done →
      (∀ j oj, ops[j]? = some oj → j ≠ i → done.getD j true = false → (∀ e ∈ oj.after, Region.binds md e = true → e.on ≠ i) → oi.apart ops oj = true) →
      i ∈ Region.ready md ops done → opF P md ops W i (headF P md ops W n L f (done.setIfInBounds i true)) a F → headF P md ops W n L (f + 1) done a F := by
  have some_ : ∀ (done : Array Bool), i ∈ Region.ready md ops done → Region.ready md ops done ≠ [] := fun done hr h => by rw [h] at hr; cases hr
  -- what opF leaves behind it, whichever way
  have out : ∀ {K : Act → Facts → Prop} {a : Act} {F : Facts}, F.Up → F.Sat W → opF P md ops W i K a F → ∃ a' F', K a' F' := by
    intro K a F hu hs h
    unfold opF at h
    rw [hi] at h
    dsimp only at h
    split at h
    · rcases h with ⟨mk, z, _, h2⟩ | ⟨v, _, h2⟩
      · obtain ⟨w0, hw0, hf0⟩ := hs
        obtain ⟨hb0, hf0'⟩ := hu.alloc hw0 hf0 i z
        exact ⟨_, _, h2 _ hw0.size hf0.new ⟨_, hb0, hf0'⟩⟩
      · exact ⟨_, _, h2⟩
    · exact ⟨_, _, h⟩
  induction f with
  | zero =>
    intro done a F hu hs inv _ hr H
    refine ⟨some_ done hr, fun j hj => ⟨low done inv hr j hj, ?_⟩⟩
    by_cases hji : j = i
    · subst hji; exact H
    · obtain ⟨a', F', hL⟩ := out hu hs H
      exact absurd (hend _ _ _ hL j (ready_mono hj hji)) (Nat.not_le_of_lt (low done inv hr j hj))
  | succ f ih =>
    intro done a F hu hs inv hfree hr H
    refine ⟨some_ done hr, fun j hj => ⟨low done inv hr j hj, ?_⟩⟩
    by_cases hji : j = i
    · subst hji; exact H
    · have hun := (mem_ready.1 hr).1
      obtain ⟨hjun, oj, hoj, hall⟩ := mem_ready.1 hj
      have hnot : ∀ e ∈ oj.after, Region.binds md e = true → e.on ≠ i := fun e he hb heq => by
        have h1 := hall e he hb
        rw [heq, getD_both hun] at h1
        cases h1
      have hno : Region.waitsFor md ops j i = false := by
        cases hwt : Region.waitsFor md ops j i with
        | false => rfl
        | true =>
          obtain ⟨o', ho', e, he, hb, hon⟩ := Region.waitsFor_spec hwt
          rw [hoj] at ho'
          cases ho'
          exact absurd hon (hnot e he hb)
      have hap := hfree j oj hoj hji hjun hnot
      have hsi : ∀ cs b, oi.op ≠ .select cs b := fun cs b => hsel i oi cs b hi
      have hsj : ∀ cs b, oj.op ≠ .select cs b := fun cs b => hsel j oj cs b hoj
      have go : ∀ (a' : Act) (F' : Facts), F'.Up → F'.Sat W → opF P md ops W i (headF P md ops W n L f ((done.setIfInBounds j true).setIfInBounds i true)) a' F' → headF P md ops W n L (f + 1) (done.setIfInBounds j true) a' F' := fun a' F' hu' hs' h3 =>
        ih (done.setIfInBounds j true) a' F' hu' hs' (inv.set hj (low done inv hr j hj)) (fun k ok hk hki hkun hno => hfree k ok hk hki (by
          by_cases hjk : j = k
          · rw [← hjk]; exact hjun
          · rw [getD_set_ne true hjk] at hkun; exact hkun) hno) (ready_mono hr (Ne.symm hji)) h3
      have hcom : (done.setIfInBounds i true).setIfInBounds j true = (done.setIfInBounds j true).setIfInBounds i true := Array.setIfInBounds_comm _ _ (Ne.symm hji)
      unfold opF at H
      rw [hi] at H
      dsimp only at H
      by_cases hw : Region.wanted oi (yielded ops a.tmps) = true
      · rw [if_pos hw] at H
        rcases H with ⟨mk, z, f1, f2⟩ | ⟨v, f1, f2⟩
        · have h2 := opF_all hoj hap hno hsi hsj hu hs (fun g hg hng hsg => ((f2 g hg hng hsg).2 j (ready_mono hj hji)).2)
          refine opF_mono hu hs (fun a' F' hu' hs' h3 => go a' F' hu' hs' ?_) h2
          unfold opF
          rw [hi]
          dsimp only
          rw [if_pos (h3.1.2.trans hw)]
          exact .inl ⟨mk, z, f1.of_same h3.1.1, fun g hg hng hsg => by rw [← hcom]; exact h3.2.2 g hg hng hsg⟩
        · have h2 := opF_put hoj hap hsi hsj (f2.2 j (ready_mono hj hji)).2
          refine opF_mono hu hs (fun a' F' hu' hs' h3 => go a' F' hu' hs' ?_) h2
          unfold opF
          rw [hi]
          dsimp only
          rw [if_pos (h3.1.2.trans hw)]
          exact .inr ⟨v, f1.of_same h3.1.1 (fun w hn t ht => h3.2.1 t w (hn t ht)), by rw [← hcom]; exact h3.2.2⟩
      · rw [if_neg hw] at H
        have h2 := opF_put hoj hap hsi hsj (H.2 j (ready_mono hj hji)).2
        refine opF_mono hu hs (fun a' F' hu' hs' h3 => go a' F' hu' hs' ?_) h2
        unfold opF
        rw [hi]
        dsimp only
        rw [if_neg (by rw [h3.1.2]; exact hw), ← hcom]
        exact h3.2.2

/-- The walk in the order of the text, from operation number k on. -/
def lexF (P : Program) (ops : Array Oper) (W : World) (K : Act → Facts → Prop) : Nat → List Oper → Act → Facts → Prop
  | _, [], a, F => K a F
  | k, o :: rest, a, F => if Region.wanted o (yielded ops a.tmps) then
      (∃ mk z, FreshX P o a mk z ∧ ∀ g, W.heap.size ≤ g → ¬F.used g → (F.and k g z).Sat W → lexF P ops W K (k + 1) rest (a.put o.dst (mk g)) (F.and k g z)) ∨ (∃ v, QuietR P W (needs .any ops F k) o a v ∧ lexF P ops W K (k + 1) rest (a.put o.dst v) F)
    else lexF P ops W K (k + 1) rest (a.put o.dst undef) F

theorem headF_lex {n : Nat} {K : Act → Facts → Prop} {E : Array Bool → Prop} {B : Nat → Nat → Array Bool → Bool} (hsel : Region.noSelect ops = true)
    (low : ∀ (done : Array Bool) (i : Nat), i < n → HeadInv .any ops n done → i ∈ Region.ready .any ops done → ∀ j ∈ Region.ready .any ops done, j < n) (hend : ∀ done, E done → ∀ j ∈ Region.ready .any ops done, n ≤ j)
    (hB0 : ∀ done, B 0 n done = true → E done) (hB1 : ∀ f k done, B (f + 1) k done = true → k ∈ Region.ready .any ops done ∧ Region.free .any ops done k = true ∧ B f (k + 1) (done.setIfInBounds k true) = true) :
    ∀ (l : List Oper) (k : Nat) (done : Array Bool) (a : Act) (F : Facts), F.Up → F.Sat W → (∀ j, j < l.length → l[j]? = ops[k + j]?) → k + l.length = n → HeadInv .any ops n done →
      B l.length k done = true → lexF P ops W K k l a F → headF P .any ops W n (fun done' a' F' => E done' ∧ K a' F') l.length done a F := by
  intro l
  induction l with
  | nil =>
    intro k done a F _ _ _ hk _ hB h
    obtain rfl : k = n := hk
    exact ⟨hB0 _ hB, h⟩
  | cons o l ih =>
    intro k done a F hu hs hl hk inv hB h
    rw [List.length_cons] at hk
    have h0 : ops[k]? = some o := by have := hl 0 (Nat.succ_pos _); rw [Nat.add_zero] at this; exact this.symm.trans rfl
    rw [List.length_cons] at hB
    obtain ⟨hr, hf, hB'⟩ := hB1 _ _ _ hB
    have next : ∀ (a' : Act) (F' : Facts), F'.Up → F'.Sat W → lexF P ops W K (k + 1) l a' F' → headF P .any ops W n (fun done' a' F' => E done' ∧ K a' F') l.length (done.setIfInBounds k true) a' F' := fun a' F' hu' hs' h' =>
      ih (k + 1) _ _ _ hu' hs' (fun j hj => by
        have := hl (j + 1) (by rw [List.length_cons]; omega)
        rw [List.getElem?_cons_succ] at this
        rw [this, show k + 1 + j = k + (j + 1) by omega]) (by omega) (inv.set hr (by omega)) hB' h'
    refine headF_take h0 (Region.noSelect_spec hsel) (fun d hd hr' => low d k (by omega) hd hr') (fun d a' F' hL => hend d hL.1) l.length done a F hu hs inv (Region.free_spec h0 hf) hr ?_
    unfold opF
    rw [h0]
    dsimp only
    rw [lexF] at h
    split
    · rename_i hw
      rw [if_pos hw] at h
      rcases h with ⟨mk, z, f1, f2⟩ | ⟨v, f1, f2⟩
      · exact .inl ⟨mk, z, f1, fun g hg hng hsg => next _ _ (hu.and _ _ _) hsg (f2 g hg hng hsg)⟩
      · exact .inr ⟨v, f1, next _ _ hu hs f2⟩
    · rename_i hw
      rw [if_neg hw] at h
      exact next _ _ hu hs h

theorem quietAt_mono {o : Oper} {a : Act} {C C' : World → Prop} {w : World} {v : Value} (h : ∀ w, C w → C' w) (hq : o.quietAt P a C w v) : o.quietAt P a C' w v := by
  unfold Oper.quietAt at hq ⊢
  generalize (execOp a.eval o).run P w = r at hq ⊢
  cases r with
  | ok n w' =>
    cases n <;> simp only [Oper.quietUpon] at hq ⊢
    case value u => exact hq
    case skip => exact hq
    case enter f args => exact ⟨hq.1, hq.2.mono fun e w'' h' => ⟨h'.1, h _ h'.2⟩⟩
  | halt x w' => simp only [Oper.quietUpon] at hq
theorem grown_self (w : World) : ∃ s : Grown w, w = s.w := ⟨⟨w, Below.refl _ _⟩, rfl⟩
/-- So many operations that only read and call, as a quiet walk in whatever world that has grown out of W. -/
theorem lexF_app {K : Act → Facts → Prop} {F : Facts} {rest : List Oper} : ∀ (seg : List Oper) (k : Nat) (a : Act),
    (∀ w1, Below W.heap.size W w1 → wpQuiet P ops (fun w' => ∃ s : Grown w1, w' = s.w) (fun a' => lexF P ops W K (k + seg.length) rest a' F) seg a) → lexF P ops W K k (seg ++ rest) a F
  | [], k, a, h => h W (Below.refl _ _)
  | o :: seg, k, a, h => by
    rw [List.cons_append, lexF]
    rw [List.length_cons, show k + (seg.length + 1) = k + 1 + seg.length by omega] at h
    have h' : ∀ w1, Below W.heap.size W w1 → if Region.wanted o (yielded ops a.tmps) then o.quiet P a (fun w' => ∃ s : Grown w1, w' = s.w) (wpQuiet P ops (fun w' => ∃ s : Grown w1, w' = s.w) (fun a' => lexF P ops W K (k + 1 + seg.length) rest a' F) seg) else wpQuiet P ops (fun w' => ∃ s : Grown w1, w' = s.w) (fun a' => lexF P ops W K (k + 1 + seg.length) rest a' F) seg (a.put o.dst undef) := h
    split
    · rename_i hw
      simp only [hw, if_true] at h'
      obtain ⟨v, h1, _⟩ := h' W (Below.refl _ _)
      have hv : ∀ w1, Below W.heap.size W w1 → (∀ w', (∃ s : Grown w1, w' = s.w) → o.quietAt P a (fun w' => ∃ s : Grown w1, w' = s.w) w' v) ∧ wpQuiet P ops (fun w' => ∃ s : Grown w1, w' = s.w) (fun a' => lexF P ops W K (k + 1 + seg.length) rest a' F) seg (a.put o.dst v) := fun w1 hb => by
        obtain ⟨v', e1, e2⟩ := h' w1 hb
        obtain rfl : v = v' := quietAt_unique (h1 w1 ⟨⟨w1, hb⟩, rfl⟩) (e1 w1 (grown_self w1))
        exact ⟨e1, e2⟩
      refine .inr ⟨v, fun w1 hb _ => quietAt_mono (fun w' hw' => ?_) ((hv w1 hb).1 w1 (grown_self w1)), lexF_app seg (k + 1) _ (fun w1 hb => (hv w1 hb).2)⟩
      obtain ⟨s, rfl⟩ := hw'
      exact s.below
    · rename_i hw
      simp only [hw, if_false] at h'
      exact lexF_app seg (k + 1) _ h'
theorem lexF_seg {K : Act → Facts → Prop} {F : Facts} {l : List Oper} {k : Nat} {a : Act} (m : Nat) (hm : m ≤ l.length)
    (h : ∀ w1, Below W.heap.size W w1 → wpQuiet P ops (fun w' => ∃ s : Grown w1, w' = s.w) (fun a' => lexF P ops W K (k + m) (l.drop m) a' F) (l.take m) a) : lexF P ops W K k l a F := by
  have := lexF_app (P := P) (ops := ops) (W := W) (K := K) (F := F) (rest := l.drop m) (l.take m) k a (by rw [List.length_take, Nat.min_eq_left hm]; exact h)
  rwa [List.take_append_drop] at this
/-- One operation that may know what those that it waits for have made. -/
theorem lexF_one {K : Act → Facts → Prop} {F : Facts} {o : Oper} {rest : List Oper} {k : Nat} {a : Act} (v : Value)
    (h : ∀ w1, Below W.heap.size W w1 → (∀ t, Region.waitsFor .any ops k t = true → F.fact t w1) → o.quietAt P a (fun w' => ∃ s : Grown w1, w' = s.w) w1 v) (hw : Region.wanted o (yielded ops a.tmps) = true)
    (hr : lexF P ops W K (k + 1) rest (a.put o.dst v) F) : lexF P ops W K k (o :: rest) a F := by
  rw [lexF, if_pos hw]
  refine .inr ⟨v, fun w1 hb hn => quietAt_mono (fun w' hw' => ?_) (h w1 hb hn), hr⟩
  obtain ⟨s, rfl⟩ := hw'
  exact s.below
theorem lexF_fresh {K : Act → Facts → Prop} {F : Facts} {o : Oper} {rest : List Oper} {k : Nat} {a : Act} (mk : Nat → Value) (z : Obj) (hw : Region.wanted o (yielded ops a.tmps) = true) (hx : FreshX P o a mk z)
    (h : ∀ g, W.heap.size ≤ g → ¬F.used g → lexF P ops W K (k + 1) rest (a.put o.dst (mk g)) (F.and k g z)) : lexF P ops W K k (o :: rest) a F := by
  rw [lexF, if_pos hw]
  exact .inl ⟨mk, z, hx, fun g hg hng _ => h g hg hng⟩
theorem lexF_nil {K : Act → Facts → Prop} {F : Facts} {k : Nat} {a : Act} (h : K a F) : lexF P ops W K k [] a F := h

theorem inv_start {n : Nat} (l : List Oper) : HeadInv .any l.toArray n (Array.replicate l.toArray.size false) := by
  have hall : ∀ t b, (Array.replicate l.toArray.size false).getD t b = true → b = true := fun t b h => by
    rw [Array.getD_eq_getD_getElem?] at h
    by_cases ht : t < l.toArray.size
    · rw [Array.getElem?_replicate, if_pos ht] at h; cases h
    · rw [Array.getElem?_replicate, if_neg ht] at h; exact h
  exact ⟨by simp, fun j oj _ hl => (by have := hall _ _ hl; cases this), fun t _ ht => by
    rw [Array.getD_eq_getD_getElem?, Array.getElem?_replicate, if_pos ht]; rfl⟩
theorem below_drawn (w : World) : Below w.heap.size w { w with drawn := w.drawn + 1 } := ⟨rfl, rfl, rfl, Nat.le_refl _, fun _ _ => rfl⟩
def F0 : Facts := ⟨fun _ _ => True, fun _ => False⟩
theorem F0_up : F0.Up := fun _ _ _ _ _ => trivial
theorem F0_sat (W : World) : F0.Sat W := ⟨W, Below.refl _ _, fun _ => trivial, fun _ h => h.elim⟩

/-- All operations. -/
theorem wp_region_fresh {id : Nat} {Q : Exit → Act → World → Prop} {a : Act} {w : World} {l : List Oper} (hm : P.follows .mixedOrders = true) (hB : Region.lexB .any l.toArray = true)
    (h : lexF P l.toArray w (fun a' F => ∀ w', Below w.heap.size w w' → F.Of w' → Q .normal a' w') 0 l a F0) : (Code.region id l.toArray true).wp P Q a w := by
  simp only [Region.lexB, Bool.and_eq_true] at hB
  obtain ⟨hsel, hlex⟩ := hB
  have rlt : ∀ (done : Array Bool), ∀ j ∈ Region.ready .any l.toArray done, j < l.length := fun done j hj => by
    obtain ⟨_, oj, hoj, _⟩ := mem_ready.1 hj
    have := (Array.getElem?_eq_some_iff.1 hoj).1
    simpa using this
  have H := headF_lex (P := P) (W := w) (n := l.length) (E := fun done => Region.ready .any l.toArray done = []) (B := fun f k done => Region.lexFrom .any l.toArray f k done) hsel
    (fun done i _ _ _ j hj => rlt done j hj) (fun done hE j hj => by rw [hE] at hj; cases hj) (fun done hE => by simpa [Region.lexFrom] using hE)
    (fun f k done hE => by
      simp only [Region.lexFrom, Bool.and_eq_true] at hE
      exact ⟨List.contains_iff_mem.1 hE.1.1, hE.1.2, hE.2⟩)
    l 0 _ a _ F0_up (F0_sat w) (fun j _ => by simp) (Nat.zero_add _) (inv_start l) (by simpa using hlex) h
  refine wp_region_any hm ?_
  have H2 := any_of_headF (Q' := Q) (g := 0) (fun done a' F w' hw' hf hL => ⟨hL.1, hL.2 w' hw' hf⟩) _ _ _ _ _ F0_up (below_drawn w) ⟨fun _ => trivial, fun _ h => h.elim⟩ H
  simpa using H2
/-- All but a forced tail. -/
theorem wp_region_fresh_tail {id : Nat} {Q : Exit → Act → World → Prop} {a : Act} {w : World} {l : List Oper} (n : Nat) (hm : P.follows .mixedOrders = true) (hB : Region.lexTailB .any l.toArray n = true)
    (h : lexF P l.toArray w (fun a' F => ∀ w', Below w.heap.size w w' → F.Of w' → wpList P l.toArray Q (l.drop n) a' w') 0 (l.take n) a F0) : (Code.region id l.toArray true).wp P Q a w := by
  simp only [Region.lexTailB, Bool.and_eq_true, decide_eq_true_eq] at hB
  obtain ⟨⟨⟨⟨hsel, hn⟩, hs⟩, hc⟩, hlex⟩ := hB
  have hln : n < l.length := by simpa using hn
  have htk : (l.take n).length = n := by rw [List.length_take]; omega
  have hdr : (l.drop n).length = l.toArray.size - n := by rw [List.length_drop]; rfl
  have H := headF_lex (P := P) (W := w) (n := n) (E := fun done => Region.seqB .any l.toArray (l.toArray.size - n) n done = true) (B := fun f k done => Region.lexHead .any l.toArray (l.toArray.size - n) f k done) hsel
    (fun done i hi inv hr j hj => Nat.lt_of_not_le fun hle => tail_waits hs hc hn inv _ i rfl hi (mem_ready.1 hr).1 j hle hj) (fun done hE => seqB_ready hE)
    (fun done hE => by simpa [Region.lexHead] using hE)
    (fun f k done hE => by
      simp only [Region.lexHead, Bool.and_eq_true] at hE
      exact ⟨List.contains_iff_mem.1 hE.1.1, hE.1.2, hE.2⟩)
    (l.take n) 0 _ a _ F0_up (F0_sat w) (fun j hj => by
      rw [htk] at hj
      rw [Nat.zero_add, List.getElem?_take, if_pos hj]; simp) (by rw [htk, Nat.zero_add]) (inv_start l) (by rw [htk]; exact hlex) h
  refine wp_region_any hm ?_
  have H2 := any_of_headF (Q' := Q) (g := l.toArray.size - n) (fun done a' F w' hw' hf hL => by
    have := wpAny_of_seq (md := .any) (Q' := Q) (l.drop n) n done a' w' (fun j => by simp [List.getElem?_drop]) (by rw [hdr]; exact hL.1) (hL.2 w' hw' hf)
    rwa [hdr] at this) _ _ _ _ _ F0_up (below_drawn w) ⟨fun _ => trivial, fun _ h => h.elim⟩ H
  rwa [htk, show n + (l.toArray.size - n) = l.toArray.size by omega] at H2
end
end Go.Proofs.YtlpgandflkabcaaGreatDoor
