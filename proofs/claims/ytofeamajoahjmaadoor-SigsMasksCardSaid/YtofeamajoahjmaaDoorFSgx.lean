/-
  sigs.Next: which signal is taken: what the iterator hands out, and what is left of it.
-/
import Derived.Test.YtofeamajoahjmaaDoorFSgn
import Derived.Test.YtofeamajoahjmaaDoorFSwap
import Derived.Test.YtofeamajoahjmaaDoorFBld
import Derived.Stop.RegionWithIn
import Derived.Great.BuildSlice
namespace Go.Proofs.YtofeamajoahjmaaDoor
open Go Go.RowKit
set_option linter.unusedVariables false
set_option linter.unusedSimpArgs false
attribute [local go_sem] Oper.semAt_some

/-- A guarded call that is not wanted. -/
theorem wplIn_skip_call {n : Nat} {P : Program} {ops : Array Oper} {Q : Exit → Act → World → Prop} {rest : List Oper} {a : Act} {w : World} {d : Option Tmp} {c : Call} {ty : TypeId} {pos : String} {af : Array Edge} {g : Nat × Bool}
    (hw : Region.wanted ⟨d, .call c, ty, pos, af, some g⟩ (yielded ops a.tmps) = false) (h : wpListIn Fence.wide n P ops Q rest (a.put d undef) w) : wpListIn Fence.wide n P ops Q (⟨d, .call c, ty, pos, af, some g⟩ :: rest) a w := by
  unfold wpListIn
  rw [if_neg (by rw [hw]; exact Bool.false_ne_true)]
  exact ⟨fun _ _ => trivial, h⟩

section
variable {F : Fence} {n : Nat} {P : Program} {ops : Array Oper} {rest : List Oper} {Q : Exit → Act → World → Prop} {a : Act} {w : World}
def LoadGoalIn (F : Fence) (n : Nat) (P : Program) (ops : Array Oper) (Q : Exit → Act → World → Prop) (rest : List Oper) (o : Oper) (T : TypeId) (x : Operand) (a : Act) (w : World) : Prop := o.op = .load T x → wpListIn F n P ops Q (o :: rest) a w
theorem wplIn_load (T : TypeId) {x : Operand} {d : Option Tmp} {ty : TypeId} {pos : String} {af : Array Edge} {g : Option (Nat × Bool)} (h : LoadGoalIn F n P ops Q rest ⟨d, .load T x, ty, pos, af, g⟩ T x a w) :
    wpListIn F n P ops Q (⟨d, .load T x, ty, pos, af, g⟩ :: rest) a w := h rfl
theorem LoadGoalIn.of {o : Oper} {T : TypeId} {x : Operand} (cs : Array Value) {g : Nat} {t : TypeId} {fr : Nat × Nat} (hx : a.eval x = .pointer (some ⟨g, 0, none⟩)) (hg : w.heap[g]? = some (.cells cs t fr))
    (ha : isAggB P T = true) (hi : (P.info? T).map (·.size) = some cs.size) (hw : Region.wanted o (yielded ops a.tmps) = true)
    (h : wpListIn F n P ops Q rest (a.put o.dst (.agg cs)) w) : LoadGoalIn F n P ops Q rest o T x a w := by
  intro ho
  unfold wpListIn
  rw [if_pos hw]
  refine ⟨fun f hf => by simp [Oper.about, ho] at hf, ?_⟩
  rw [Oper.semAt_eq _ _ _ (fun c e => by rw [ho] at e; cases e)]
  have hrun : (execOp a.eval o).run P w = .ok (.value (.agg cs)) w := by
    unfold execOp
    simp only [ho, hx, Instr.loadAt, Instr.sureAddr, Sem.run_bind, Sem.run_pure, Result.andThen_ok, run_var_row w g t T cs fr hg ha hi]
  rw [hrun]
  exact h
def StoreGoalIn (F : Fence) (n : Nat) (P : Program) (ops : Array Oper) (Q : Exit → Act → World → Prop) (rest : List Oper) (o : Oper) (T : TypeId) (x y : Operand) (a : Act) (w : World) : Prop := o.op = .store T x y → o.guard = none → wpListIn F n P ops Q (o :: rest) a w
theorem wplIn_store (T : TypeId) {x y : Operand} {d : Option Tmp} {ty : TypeId} {pos : String} {af : Array Edge} (h : StoreGoalIn F n P ops Q rest ⟨d, .store T x y, ty, pos, af, none⟩ T x y a w) :
    wpListIn F n P ops Q (⟨d, .store T x y, ty, pos, af, none⟩ :: rest) a w := h rfl rfl
theorem StoreGoalIn.of {o : Oper} {T : TypeId} {x y : Operand} (cs old : Array Value) {g : Nat} {t : TypeId} {ks : List CK} (hx : a.eval x = .pointer (some ⟨g, 0, none⟩)) (hy : a.eval y = .agg cs) (hg : w.heap[g]? = some (.cells old t (0, 0)))
    (hf : Fits ks cs.toList) (hd : Fits ks old.toList) (hi : (P.info? T).map (·.size) = some ks.length) (hw : Region.wanted o (yielded ops a.tmps) = true)
    (h : wpListIn F n P ops Q rest (a.put o.dst undef) (w.setRow g cs)) : StoreGoalIn F n P ops Q rest o T x y a w := by
  intro ho he
  unfold wpListIn
  rw [if_pos hw]
  refine ⟨fun f hf => by simp [Oper.about, ho] at hf, ?_⟩
  rw [Oper.semAt_eq _ _ _ (fun c e => by rw [ho] at e; cases e)]
  unfold execOp
  simp only [ho, hx, hy, Instr.storeAt, Instr.sureAddr, Sem.run_bind, Sem.run_pure, Result.andThen_ok, run_storeVar_row w g t T old cs hg (by rw [hf.arr_size]; exact hi) (by rw [hf.arr_size, hd.arr_size]) hf.all_one]
  exact h
end

/-- A value of one cell into its block. -/
theorem StoreGoalIn.one {F : Fence} {n : Nat} {P : Program} {ops : Array Oper} {rest : List Oper} {Q : Exit → Act → World → Prop} {a : Act} {w : World} {o : Oper} {T : TypeId} {x y : Operand} (v old : Value) {g : Nat} {t : TypeId}
    (hx : a.eval x = .pointer (some ⟨g, 0, none⟩)) (hy : a.eval y = v) (hg : w.heap[g]? = some (.cells #[old] t (0, 0))) (h1 : v.oneCell' = true) (hi : (P.info? T).map (·.size) = some 1) (hw : Region.wanted o (yielded ops a.tmps) = true)
    (h : wpListIn F n P ops Q rest (a.put o.dst undef) (w.setRow g #[v])) : StoreGoalIn F n P ops Q rest o T x y a w := by
  intro ho he
  unfold wpListIn
  rw [if_pos hw]
  refine ⟨fun f hf => by simp [Oper.about, ho] at hf, ?_⟩
  rw [Oper.semAt_eq _ _ _ (fun c e => by rw [ho] at e; cases e)]
  unfold execOp
  simp only [ho, hx, hy, Instr.storeAt, Instr.sureAddr, Sem.run_bind, Sem.run_pure, Result.andThen_ok, run_storeVar_one w g t T old v hg hi h1]
  exact h
theorem keeps_row (w : World) (g : Nat) (cs : Array Value) : KeepsOthers w (w.setRow g cs) :=
  ⟨by rw [row_len]; exact Nat.le_refl _, fun k o h hc => by
    show (w.heap.modify g _)[k]? = _
    rw [Array.getElem?_modify, h]
    split
    · cases o <;> first | rfl | cases hc
    · rfl⟩

theorem var_one {w : World} {g : Nat} {t T : TypeId} {k : IntKind} {n : Int} {fr : Nat × Nat} (h : w.heap[g]? = some (.cells #[.int k n] t fr)) (hu : Tryd.prog.underlying T = some (.int k)) :
    (loadVar T ⟨g, 0, none⟩).run Tryd.prog w = .ok (.int k n) w := by
  have hc := cell_at (o := 0) h rfl
  have hc' : w.cell? ⟨g, 0, none⟩ = some (.int k n) := hc
  simp [loadVar, isAgg, underlying, hu, run_load, hc']

/-! ### The list -/
def clr9 (x : Nat) : Nat := x &&& (18446744073709551615 - 256)
def lowF (x : Nat) : List Nat := if h : x = 0 then [] else Lib.ctz 64 x :: lowF (x &&& (x - 1))
  termination_by x
  decreasing_by (have := Nat.and_le_right (n := x) (m := x - 1); omega)
theorem lowF_zero : lowF 0 = [] := by rw [lowF]; rfl
theorem lowF_step {x : Nat} (h : x ≠ 0) : lowF x = Lib.ctz 64 x :: lowF (x &&& (x - 1)) := by rw [lowF, dif_neg h]
/-- The signals that can be taken, less one, the first one first. -/
def readyL (x : Nat) : List Nat := (if x &&& 256 = 0 then [] else [8]) ++ lowF (clr9 x)
def canN (cs : Array Value) : Nat := (iat cs 1).toNat &&& (18446744073709551615 - (iat cs 0).toNat)
theorem canN_lt (cs : Array Value) : canN cs < 18446744073709551616 := by
  have : canN cs ≤ 18446744073709551615 - (iat cs 0).toNat := Nat.and_le_right
  omega
theorem canN_is {cs : Array Value} (h : Fits sigK cs.toList) : bits BinOp.andNot .u64 (iat cs 1) (iat cs 0) = (canN cs : Nat) := by
  have h0 := (h.iat (i := 0) rfl).2
  have h1 := (h.iat (i := 1) rfl).2
  rw [wf_u64] at h0 h1
  rw [u64_andNot _ _ (by omega) (by omega) (by omega) (by omega)]; rfl
theorem bit9 : bitN 9 = 256 := by decide
theorem clr9_lt (x : Nat) : clr9 x < 18446744073709551616 := by
  have : clr9 x ≤ 18446744073709551615 - 256 := Nat.and_le_right
  omega

/-! ### The iterator -/
def KeepT (W W' : World) : Prop := TabAt W → TabAt W'
theorem keepT_t {A B C : World} (h : KeepT A B) (k : KeepT B C) : KeepT A C := fun t => k (h t)
theorem keepT_of {W W' : World} (h : W'.heap[0]? = W.heap[0]?) : KeepT W W' := fun t j hj => by
  have := t j hj
  unfold World.cell? at this ⊢
  rwa [h]
theorem keepT_b {w : World} (W : World) (l : Nat) (o o' : Obj) (hl : w.heap.size ≤ l) (h : W.heap[l]? = some o) (hc : o.isCells = false) (_ : o.isWalk = false) : KeepT W (W.putObj l o') := fun t => by
  have hne : 0 ≠ l := fun e => by
    subst e
    have := t 0 (by omega)
    unfold World.cell? at this
    rw [h] at this
    cases o <;> simp_all [Obj.isCells]
  exact keepT_of (World.putObj_heap_other hne) t

def takeE (x : Nat) : Int := ((x % 64 : Nat) : Int) + 1

set_option maxHeartbeats 2000000 in
set_option maxRecDepth 10000 in
theorem ready_in (n : Nat) (hn : 1 ≤ n) (l b : Nat) (mk wt : Int) (can : Nat) (hcan : bits BinOp.andNot .u64 wt mk = (can : Nat)) (hlt : can < 18446744073709551616) (J Jx : List Nat → World → Prop)
    (hY : ∀ pre x W, J pre W → pre.length < (readyL can).length → YieldAt Fence.wide (n - 1) Tryd.prog l #[.int .i64 (takeE x)] W fun e W' =>
      (e = .returned (.bool true) ∧ J (pre ++ [x]) W' ∧ KeepT W W') ∨ (e = .returned (.bool false) ∧ Jx (pre ++ [x]) W'))
    (W : World) (hc0 : W.cell? ⟨b, 0, none⟩ = some (.int .u64 mk)) (hc1 : W.cell? ⟨b, 1, none⟩ = some (.int .u64 wt)) (hT : TabAt W) (h0 : J [] W) :
    CallsIn Fence.wide n Tryd.prog 37 #[.func (.yield l) #[] #[], .pointer (some ⟨b, 0, none⟩)] W fun e W' => (∃ v, e = .returned v) ∧
      ((∃ ys, ys = readyL can ∧ J ys W') ∨ (∃ pre, pre <+: readyL can ∧ Jx pre W')) := by
  have hb9 := bit9
  have HT := Lib.hid hT
  have HL := Lib.hid hlt
  have H0 := Lib.hid h0
  have HY := Lib.hid hY
  have h256 : bits BinOp.and .u64 (can : Int) 256 = ((can &&& 256 : Nat) : Int) := u64_and_nat can 256 hlt (by decide)
  have hclr : bits BinOp.andNot .u64 (can : Int) 256 = ((clr9 can : Nat) : Int) := u64_andNot_nat can 256 hlt (by decide)
  clear hT hlt hY h0
  have hw1 : Fence.wide.fn 26 := trivial
  have hw2 : Fence.wide.fn 38 := trivial
  refine callsIn_of_wp Tryd.func37 rfl trivial ?_ rfl
  simp only [Tryd.ntmps37, List.size_toArray, List.length_cons, List.length_nil, Nat.reduceAdd, Nat.reduceSub, Array.replicate_succ, Array.replicate_zero, List.push_toArray, List.append_toArray, List.nil_append, List.cons_append]
  by_cases c9 : can &&& 256 = 0
  · have hq : (((can &&& 256 : Nat) : Int) != 0) = false := by rw [c9]; rfl
    have HR : Hid (readyL can = [] ++ lowF (clr9 can)) := Lib.hid (by rw [readyL, if_pos c9])
    clear c9
    gi_wp2_with (first | (gi_at_call 26; refine (callsIn_wide.2 (sgBit 9 (by omega) (by omega) _)).mono ?_; rintro e w1 ⟨rfl, hw⟩; rw [hw, hb9]; clear hw) | (refine wplIn_skip_call (by rfl) ?_))
    gi_loopw [3] (fun x wr => ∃ (pre : List Nat) (r : Nat), x = .int .u64 r ∧ Hid (r < 18446744073709551616) ∧ Hid (readyL can = pre ++ lowF r) ∧ Hid (TabAt wr) ∧ Hid (J pre wr)) (fun x _ => (intOf x).toNat)
    case atStart => exact ⟨[], clr9 can, rfl, Lib.hid (clr9_lt can), HR, HT, H0⟩
    case round =>
      obtain ⟨pre, r, rfl, h1, h2, h3, h4⟩ := hrel
      by_cases hr : r = 0
      · subst hr
        gi_wp2
        go_end0
        exact ⟨⟨_, rfl⟩, .inl ⟨pre, by rw [h2.out, lowF_zero, List.append_nil], h4.out⟩⟩
      · have hne : ((r : Int) != 0) = true := by simp; exact hr
        obtain ⟨hlow, hk⟩ := Lib.lowest_bit 64 r hr h1.out
        obtain ⟨z, hz⟩ : ∃ z, z = Lib.ctz 64 r := ⟨_, rfl⟩
        have hk2 : (z : Int) + 1 ≤ 64 := by rw [hz]; omega
        have hte : takeE z = (z : Int) + 1 := by rw [takeE, Nat.mod_eq_of_lt (by omega)]
        have HS : Hid (lowF r = z :: lowF (r &&& (r - 1))) := Lib.hid (by rw [lowF_step hr, hz])
        have hw64 : IntKind.u64.wrap ((r : Int) - 1) = ((r - 1 : Nat) : Int) := by have := h1.out; rw [IntKind.wrap_u64]; omega
        have hand : bits BinOp.and .u64 (r : Int) ((r - 1 : Nat) : Int) = ((r &&& (r - 1) : Nat) : Int) := u64_and_nat _ _ h1.out (by have := h1.out; omega)
        have hdec : r &&& (r - 1) < r := by have := Nat.and_le_right (n := r) (m := r - 1); omega
        obtain ⟨fn, tmps, assign, body, hy, hR⟩ := HY.out pre z wr h4.out (by rw [h2.out, HS.out]; simp)
        rw [hte] at hy
        have HTZ : Hid (∀ W, TabAt W → Calls Tryd.prog 38 #[.int .u64 r] W fun e w' => e = .returned (.int .i64 (z : Nat)) ∧ w' = W) := Lib.hid (fun W t => by rw [hz]; exact sgTz r h1.out hr W t)
        clear hlow hk hte hr hz
        gi_wp2_with (gi_at_call 38; refine (callsIn_wide.2 (HTZ.out _ h3.out)).mono ?_; rintro e w1 ⟨rfl, hw⟩; rw [hw]; clear hw)
        refine hR.mono ?_
        rintro e W5 (⟨rfl, hJ5, hk5⟩ | ⟨rfl, hJx5⟩)
        · have H5 := Lib.hid hJ5
          have HT5 : Hid (TabAt W5) := Lib.hid (hk5 h3.out)
          clear hJ5 hk5 hy hR
          gi_wp2
          go_roundw
          case rel => exact ⟨pre ++ [z], r &&& (r - 1), rfl, Lib.hid (Nat.lt_trans hdec h1.out), Lib.hid (by rw [h2.out, HS.out, List.append_assoc]; rfl), HT5, H5⟩
          case measure => simp [intOf]; omega
        · have HX := Lib.hid hJx5
          clear hJx5
          gi_wp2
          refine bodyPost_ret (results_none rfl _ _ _) rfl ?_
          exact ⟨⟨_, rfl⟩, .inr ⟨pre ++ [z], by rw [h2.out, HS.out]; exact ⟨lowF (r &&& (r - 1)), by simp⟩, HX.out⟩⟩
  · have hq : (((can &&& 256 : Nat) : Int) != 0) = true := by simp; exact c9
    have HR : Hid (readyL can = [8] ++ lowF (clr9 can)) := Lib.hid (by rw [readyL, if_neg c9])
    clear c9
    obtain ⟨fn, tmps, assign, body, hy, hR⟩ := HY.out [] 8 W H0.out (by rw [HR.out]; simp)
    have ht8 : takeE 8 = 9 := rfl
    rw [ht8] at hy
    gi_wp2_with (gi_at_call 26; refine (callsIn_wide.2 (sgBit 9 (by omega) (by omega) _)).mono ?_; rintro e w1 ⟨rfl, hw⟩; rw [hw, hb9]; clear hw)
    refine hR.mono ?_
    rintro e W3 (⟨rfl, hJ3, hk3⟩ | ⟨rfl, hJx3⟩)
    · have H3 := Lib.hid hJ3
      have HT3 : Hid (TabAt W3) := Lib.hid (hk3 HT.out)
      clear hJ3 hk3 hy hR hc0 hc1
      gi_wp2_with (gi_at_call 26; refine (callsIn_wide.2 (sgBit 9 (by omega) (by omega) _)).mono ?_; rintro e w1 ⟨rfl, hw⟩; rw [hw, hb9]; clear hw)
      gi_loopw [3] (fun x wr => ∃ (pre : List Nat) (r : Nat), x = .int .u64 r ∧ Hid (r < 18446744073709551616) ∧ Hid (readyL can = pre ++ lowF r) ∧ Hid (TabAt wr) ∧ Hid (J pre wr)) (fun x _ => (intOf x).toNat)
      case atStart => exact ⟨[8], clr9 can, rfl, Lib.hid (clr9_lt can), HR, HT3, H3⟩
      case round =>
        obtain ⟨pre, r, rfl, h1, h2, h3, h4⟩ := hrel
        by_cases hr : r = 0
        · subst hr
          gi_wp2
          go_end0
          exact ⟨⟨_, rfl⟩, .inl ⟨pre, by rw [h2.out, lowF_zero, List.append_nil], h4.out⟩⟩
        · have hne : ((r : Int) != 0) = true := by simp; exact hr
          obtain ⟨hlow, hk⟩ := Lib.lowest_bit 64 r hr h1.out
          obtain ⟨z, hz⟩ : ∃ z, z = Lib.ctz 64 r := ⟨_, rfl⟩
          have hk2 : (z : Int) + 1 ≤ 64 := by rw [hz]; omega
          have hte : takeE z = (z : Int) + 1 := by rw [takeE, Nat.mod_eq_of_lt (by omega)]
          have HS : Hid (lowF r = z :: lowF (r &&& (r - 1))) := Lib.hid (by rw [lowF_step hr, hz])
          have hw64 : IntKind.u64.wrap ((r : Int) - 1) = ((r - 1 : Nat) : Int) := by have := h1.out; rw [IntKind.wrap_u64]; omega
          have hand : bits BinOp.and .u64 (r : Int) ((r - 1 : Nat) : Int) = ((r &&& (r - 1) : Nat) : Int) := u64_and_nat _ _ h1.out (by have := h1.out; omega)
          have hdec : r &&& (r - 1) < r := by have := Nat.and_le_right (n := r) (m := r - 1); omega
          obtain ⟨fn, tmps, assign, body, hy, hR⟩ := HY.out pre z wr h4.out (by rw [h2.out, HS.out]; simp)
          rw [hte] at hy
          have HTZ : Hid (∀ W, TabAt W → Calls Tryd.prog 38 #[.int .u64 r] W fun e w' => e = .returned (.int .i64 (z : Nat)) ∧ w' = W) := Lib.hid (fun W t => by rw [hz]; exact sgTz r h1.out hr W t)
          clear hlow hk hte hr hz
          gi_wp2_with (gi_at_call 38; refine (callsIn_wide.2 (HTZ.out _ h3.out)).mono ?_; rintro e w1 ⟨rfl, hw⟩; rw [hw]; clear hw)
          refine hR.mono ?_
          rintro e W5 (⟨rfl, hJ5, hk5⟩ | ⟨rfl, hJx5⟩)
          · have H5 := Lib.hid hJ5
            have HT5 : Hid (TabAt W5) := Lib.hid (hk5 h3.out)
            clear hJ5 hk5 hy hR
            gi_wp2
            go_roundw
            case rel => exact ⟨pre ++ [z], r &&& (r - 1), rfl, Lib.hid (Nat.lt_trans hdec h1.out), Lib.hid (by rw [h2.out, HS.out, List.append_assoc]; rfl), HT5, H5⟩
            case measure => simp [intOf]; omega
          · have HX := Lib.hid hJx5
            clear hJx5
            gi_wp2
            refine bodyPost_ret (results_none rfl _ _ _) rfl ?_
            exact ⟨⟨_, rfl⟩, .inr ⟨pre ++ [z], by rw [h2.out, HS.out]; exact ⟨lowF (r &&& (r - 1)), by simp⟩, HX.out⟩⟩
    · have HX := Lib.hid hJx3
      clear hJx3
      gi_wp2
      refine bodyPost_ret (results_none rfl _ _ _) rfl ?_
      exact ⟨⟨_, rfl⟩, .inr ⟨[] ++ [8], by rw [HR.out]; exact List.prefix_append _ _, HX.out⟩⟩

theorem ready_stops (n : Nat) (hn : 1 ≤ n) (b : Nat) (cs : Array Value) (hf : Fits sigK cs.toList) (w : World) (hg : w.heap[b]? = some (.cells cs 30)) (hT : TabAt w) :
    SeqStopsK Fence.wide n Tryd.prog 37 #[.pointer (some ⟨b, 0, none⟩)] (fun x : Nat => #[.int .i64 (takeE x)]) KeepT
      (fun xs => xs = readyL (canN cs)) (fun pre => pre <+: readyL (canN cs)) (readyL (canN cs)).length w := fun l J Jx W hW hJ hJx hY h0 => by
  have hgt : 0 < w.heap.size := block_lt_of_cell (hT 0 (by omega))
  exact ready_in n hn l b (iat cs 0) (iat cs 1) (canN cs) (canN_is hf) (canN_lt cs) J Jx hY W
    (cell_at ((hW.block _ (heap_lt hg)).trans hg) (hf.iat (i := 0) rfl).1) (cell_at ((hW.block _ (heap_lt hg)).trans hg) (hf.iat (i := 1) rfl).1) (keepT_of (hW.block _ hgt) hT) h0

theorem sgReady (cs : Array Value) (w : World) :
    Calls Tryd.prog 25 #[.agg cs] w fun e w' => e = .returned (.func (.func 37) #[] #[.pointer (some ⟨w.heap.size, 0, none⟩)]) ∧ w' = w.alloc (.cells cs 30) := by
  have hmf : ∀ (fn : Fn) (first cap : Array Value) (w : World), (Instr.makeFunc fn first cap).run Tryd.prog w = .ok (.func fn first cap) w := fun _ _ _ _ => rfl
  go_enter Tryd.func25, Tryd.ntmps25
  go_wp2
  go_ret
  exact ⟨rfl, rfl⟩

/-- What Next answers: its first one, and what is left. -/
def nextI (cs : Array Value) : Int := match readyL (canN cs) with | [] => 0 | x :: _ => takeE x
def takeA (cs : Array Value) (n : Int) : Array Value := cs.setIfInBounds 1 (.int .u64 (bits .andNot .u64 (iat cs 1) (bitN n)))
def nextA (cs : Array Value) : Array Value := match readyL (canN cs) with | [] => cs | x :: _ => takeA cs (takeE x)
theorem take_fits {cs : Array Value} (h : Fits sigK cs.toList) (n : Int) : Fits sigK (takeA cs n).toList := sig_set_w h (bits64_in _ _ _)
theorem next_fits {cs : Array Value} (h : Fits sigK cs.toList) : Fits sigK (nextA cs).toList := by
  unfold nextA
  split
  · exact h
  · exact take_fits h _
theorem takeE_in (x : Nat) : 1 ≤ takeE x ∧ takeE x ≤ 64 := by unfold takeE; omega

set_option maxHeartbeats 2000000 in
set_option maxRecDepth 10000 in
theorem next_in (n : Nat) (hn : 3 ≤ n) (cs : Array Value) (h : Fits sigK cs.toList) (w : World) (hT : TabAt w) :
    CallsIn Fence.wide n Tryd.prog 10 #[.agg cs] w fun e w' => e = .returned (.tuple #[.agg (nextA cs), .int .i64 (nextI cs)]) ∧ Below w.heap.size w w' := by
  have h1 : 1 ≤ n := by omega
  have z1 := (zero_of_info sig_zero).1
  have H := Lib.hid h
  have HT := Lib.hid hT
  clear h hT
  refine callsIn_of_wp_marks Tryd.func10 rfl trivial ?_ rfl
  simp only [Tryd.ntmps10, List.size_toArray, List.length_cons, List.length_nil, Nat.reduceAdd, Nat.reduceSub, Array.replicate_succ, Array.replicate_zero, List.push_toArray, List.append_toArray, List.nil_append, List.cons_append]
  have hw1 : Fence.wide.fn 25 := trivial
  gi_wp2_with (first
    | (refine wplIn_load 30 ?_; refine LoadGoalIn.of cs (t := 30) (fr := (0, 0)) rfl ((heap_old _ _ _ (by simp only [heap_len]; omega)).trans ((heap_old _ _ _ (by simp only [heap_len]; omega)).trans (heap_new _ _ _ rfl))) (by kernel_rfl) (sig_sz H.out) rfl ?_)
    | (gi_at_call 25; refine (callsIn_wide.2 (sgReady cs _)).mono ?_; rintro e w' ⟨rfl, rfl⟩))
  obtain ⟨W0, hW0⟩ : ∃ W0, W0 = (((w.alloc (.cells cs 30)).alloc (.cells sigZ 30)).alloc (.cells #[.int .i64 0] 3)).alloc (.cells cs 30) := ⟨_, rfl⟩
  have hz0 : W0.heap.size = w.heap.size + 4 := by rw [hW0]; simp only [heap_len]
  have HB0 : Hid (Below w.heap.size w W0) := Lib.hid (by rw [hW0]; exact ((((Below.refl _ _).alloc (Nat.le_refl _) _).alloc (by rw [heap_len]; omega) _).alloc (by simp only [heap_len]; omega) _).alloc (by simp only [heap_len]; omega) _)
  have g0 : W0.heap[w.heap.size]? = some (.cells cs 30) := by rw [hW0]; exact (heap_old _ _ _ (by simp only [heap_len]; omega)).trans ((heap_old _ _ _ (by simp only [heap_len]; omega)).trans ((heap_old _ _ _ (by simp only [heap_len]; omega)).trans (heap_new _ _ _ rfl)))
  have g1 : W0.heap[w.heap.size + 1]? = some (.cells sigZ 30) := by rw [hW0]; exact (heap_old _ _ _ (by simp only [heap_len]; omega)).trans ((heap_old _ _ _ (by simp only [heap_len]; omega)).trans (heap_new _ _ _ (by simp only [heap_len])))
  have g2 : W0.heap[w.heap.size + 1 + 1]? = some (.cells #[.int .i64 0] 3) := by rw [hW0]; exact (heap_old _ _ _ (by simp only [heap_len]; omega)).trans (heap_new _ _ _ (by simp only [heap_len]))
  have g3 : W0.heap[w.heap.size + 1 + 1 + 1]? = some (.cells cs 30) := by rw [hW0]; exact heap_new _ _ _ (by simp only [heap_len])
  have hgt : 0 < w.heap.size := block_lt_of_cell (HT.out 0 (by omega))
  have hT0 : TabAt W0 := keepT_of (HB0.out.block _ hgt) HT.out
  rw [← hW0]
  clear hW0
  have HST := Lib.hid (ready_stops (n - 1) (by omega) (w.heap.size + 1 + 1 + 1) cs H.out W0 g3 hT0)
  refine wpIn_rangeFunc_ownF rfl h1 (gf := 37) (lb := #[.pointer (some ⟨w.heap.size + 1 + 1 + 1, 0, none⟩)]) rfl trivial (enters_of Tryd.func37 (by kernel_rfl) rfl)
    HST.out keepT_t keepT_b (Below.refl _ _) (fun _ => rfl)
    (fun pre W => pre = [] ∧ W.heap[w.heap.size]? = some (.cells cs 30) ∧ W.heap[w.heap.size + 1]? = some (.cells sigZ 30) ∧ W.heap[w.heap.size + 1 + 1]? = some (.cells #[.int .i64 0] 3) ∧ Below w.heap.size w W)
    (fun c pre W => c = .ret ∧ ∃ x, pre = [x] ∧ W.heap[w.heap.size + 1]? = some (.cells (takeA cs (takeE x)) 30) ∧ W.heap[w.heap.size + 1 + 1]? = some (.cells #[.int .i64 (takeE x)] 3) ∧ Below w.heap.size w W)
    (fun s A B row hs hg hr => ⟨hs.1, cells_grown hg (fun r e => (hr r e).2) hs.2.1, cells_grown hg (fun r e => (hr r e).2) hs.2.2.1, cells_grown hg (fun r e => (hr r e).2) hs.2.2.2.1, ownFrom_below (β := Unit) (B := W0.heap.size) (Nat.le_refl _) (by omega) () A B row hs.2.2.2.2 hg hr⟩)
    (fun c s A B row hs hg hr => ⟨hs.1, by obtain ⟨_, x, hx, a1, a2, a3⟩ := hs; exact ⟨x, hx, cells_grown hg (fun r e => (hr r e).2) a1, cells_grown hg (fun r e => (hr r e).2) a2, ownFrom_below (β := Unit) (B := W0.heap.size) (Nat.le_refl _) (by omega) () A B row a3 hg hr⟩⟩)
    ⟨rfl, g0, g1, g2, HB0.out⟩
    (fun x => { tmps := #[.agg cs, .pointer (some ⟨w.heap.size, 0, none⟩), .pointer (some ⟨w.heap.size + 1, 0, none⟩), .pointer (some ⟨w.heap.size + 1 + 1, 0, none⟩), .int .i64 (takeE x), .agg cs, .func (.func 37) #[] #[.pointer (some ⟨w.heap.size + 1 + 1 + 1, 0, none⟩)], .int .i64 (takeE x), undef, undef, undef, undef, undef, undef, undef, undef, undef], defers := [] }) ?assign ?body ?done ?stop
  case assign =>
    intro l x W K hK
    gi_wp2
    exact hK
  case body =>
    rintro l pre x W ⟨rfl, b0, b1, b2, hB⟩ hlen
    obtain ⟨hx1, hx2⟩ := takeE_in x
    obtain ⟨y, hy⟩ : ∃ y, y = takeE x := ⟨_, rfl⟩
    have HY := Lib.hid hy
    rw [← hy] at hx1 hx2
    rw [← hy]
    clear hy
    have B0 := Lib.hid b0; have B1 := Lib.hid b1; have B2 := Lib.hid b2; have HB := Lib.hid hB
    have l1 := cell_at b0 (H.out.iat (i := 1) rfl).1
    have l2 := free_at (o := 1) b0
    clear b0 b1 b2 hB g0 g1 g2 g3 hT0
    have hw3 : Fence.wide.fn 26 := trivial
    have hw4 : 1 ≤ n - 1 - 1 := by omega
    gi_wp2
    gi_region_with (gi_at_call 26; refine (CallsIn.inRound l (callsIn_wide.2 (sgBit _ hx1 hx2 _))).mono ?_; rintro e w1 ⟨rfl, hw⟩; rw [hw]; clear hw)
    all_goals
      gi_wp2_with (first
        | (refine wplIn_load 30 ?_; refine LoadGoalIn.of (takeA cs y) (t := 30) (fr := (0, 0)) rfl (heap_set B0.out) (by kernel_rfl) (sig_sz (take_fits H.out y)) rfl ?_)
        | (refine wplIn_store 30 ?_; refine StoreGoalIn.of (takeA cs y) sigZ rfl rfl ((heap_set_ne _ _ _ _ _ (by omega)).trans B1.out) (take_fits H.out y) sigZ_fits sig_size rfl ?_)
        | (refine wplIn_store 3 ?_; refine StoreGoalIn.one (.int .i64 y) (.int .i64 0) rfl rfl ((row_ne _ _ _ _ (by omega)).trans ((heap_set_ne _ _ _ _ _ (by omega)).trans B2.out)) rfl (by kernel_rfl) rfl ?_))
      refine ⟨(((KeepsOthers.setCell _ _ _).trans (KeepsOthers.drew _)).trans (keeps_row _ _ _)).trans (keeps_row _ _ _), rfl, x, rfl, ?_, ?_, ?_⟩
      · rw [← HY.out]; exact (row_ne _ _ _ _ (by omega)).trans (row_same ((heap_set_ne _ _ _ _ _ (by omega)).trans B1.out))
      · rw [← HY.out]; exact row_same ((row_ne _ _ _ _ (by omega)).trans ((heap_set_ne _ _ _ _ _ (by omega)).trans B2.out))
      · exact below_row (below_row ((HB.out.setCell (Nat.le_refl _) _).drew) _ _ (by omega)) _ _ (by omega)
  case done =>
    rintro D ys W hD hys ⟨rfl, b0, b1, b2, hB⟩ hK
    have HN : Hid (nextA cs = cs ∧ nextI cs = 0) := Lib.hid (by rw [nextA, nextI, ← hys]; exact ⟨rfl, rfl⟩)
    have B0 := Lib.hid b0; have B1 := Lib.hid b1; have B2 := Lib.hid b2; have HB := Lib.hid hB; have HD := Lib.hid hD
    clear b0 b1 b2 hB hys g0 g1 g2 g3 hT0
    gi_wp2_with (first
      | (refine wplIn_load 30 ?_; refine LoadGoalIn.of cs (t := 30) (fr := (0, 0)) rfl B0.out (by kernel_rfl) (sig_sz H.out) rfl ?_)
      | (refine wplIn_store 30 ?_; refine StoreGoalIn.of cs sigZ rfl rfl B1.out H.out sigZ_fits sig_size rfl ?_)
      | (refine wplIn_store 3 ?_; refine StoreGoalIn.one (.int .i64 0) (.int .i64 0) rfl rfl ((row_ne _ _ _ _ (by omega)).trans B2.out) rfl (by kernel_rfl) rfl ?_))
    have hK2 := (row_ne (W.setRow (w.heap.size + 1) cs) (w.heap.size + 1 + 1) D #[.int .i64 0] (by omega)).trans ((row_ne W (w.heap.size + 1) D cs (by omega)).trans hK)
    refine ⟨by simp, .inl ⟨_, _, rfl, run_takeDeferred hK2, ?_⟩⟩
    refine ⟨_, res_cell_cell rfl (cs := cs) rfl ((World.putObj_heap_other (by omega)).trans ((row_ne _ _ _ _ (by omega)).trans (row_same B1.out))) (by kernel_rfl) (sig_sz H.out) rfl (var_one ((World.putObj_heap_other (by omega)).trans (row_same ((row_ne _ _ _ _ (by omega)).trans B2.out))) Tryd.underlying3), ?_, ?_⟩
    · rw [HN.out.1, HN.out.2]
    · exact (below_row (below_row HB.out _ _ (by omega)) _ _ (by omega)).trans (belowK_b (w := w) (Nat.le_refl _) _ D _ _ (by omega) hK2 rfl rfl)
  case stop =>
    rintro D c pre W hD hp ⟨rfl, x, rfl, b1, b2, hB⟩ hK
    have HN : Hid (nextA cs = takeA cs (takeE x) ∧ nextI cs = takeE x) := Lib.hid (by
      obtain ⟨t, ht⟩ := hp
      rw [nextA, nextI, ← ht]; exact ⟨rfl, rfl⟩)
    have B1 := Lib.hid b1; have B2 := Lib.hid b2; have HB := Lib.hid hB; have HD := Lib.hid hD
    clear b1 b2 hB hp g0 g1 g2 g3 hT0
    gi_wp2
    refine ⟨by simp, .inl ⟨_, _, rfl, run_takeDeferred hK, ?_⟩⟩
    refine ⟨_, res_cell_cell rfl (cs := takeA cs (takeE x)) rfl ((World.putObj_heap_other (by omega)).trans B1.out) (by kernel_rfl) (sig_sz (take_fits H.out _)) rfl (var_one ((World.putObj_heap_other (by omega)).trans B2.out) Tryd.underlying3), ?_, ?_⟩
    · rw [HN.out.1, HN.out.2]
    · exact HB.out.trans (belowK_b (w := w) (Nat.le_refl _) _ D _ _ (by omega) hK rfl rfl)

theorem sgNext (cs : Array Value) (h : Fits sigK cs.toList) (w : World) (hT : TabAt w) :
    Calls Tryd.prog 10 #[.agg cs] w fun e w' => e = .returned (.tuple #[.agg (nextA cs), .int .i64 (nextI cs)]) ∧ Below w.heap.size w w' :=
  (callsIn_wide (n := 3)).1 (next_in 3 (by omega) cs h w hT)
end Go.Proofs.YtofeamajoahjmaaDoor
