/-
  Flat types (structs and arrays of numbers, bools and strings, at whatever depth): how a value of such a type reads, and what '==' says of two.
-/
import Derived.WalkKit
import Derived.ProofKit
import Derived.Laws.StructEq
import Derived.KernelRfl
import Derived.OpenShut
import Derived.ShutString
import Derived.ChangeOld
import Derived.Below
import Derived.SizedLaws
import Derived.Laws.Rows
import Derived.Deep.WholeRow
import Derived.Lib.Hide
import Derived.Deep.Quiet
import Derived.Deep.CutBlock
import Derived.Deep.QuietTactic
import Derived.BigQuiet
import Derived.Outline
import Derived.IntWalk
namespace Go.Proofs.YtlpgandflkabcaaGreatDoor
open Go Go.RowKit Go.ChangeShapes Go.WideShapes Go.ChangeAt
set_option linter.unusedVariables false
set_option linter.unusedSimpArgs false

/-- The kind of one cell. -/
inductive CK where
  | b
  | i (k : IntKind)
  | s
  deriving DecidableEq

def CK.ok : CK → Value → Prop
  | .b, v => ∃ x, v = .bool x
  | .i k, v => ∃ n, v = .int k n ∧ (Lit.int k n).wf = true
  | .s, v => ∃ t, v = .string t ∧ t.size ≤ maxLen

def Fits : List CK → List Value → Prop
  | [], [] => True
  | k :: ks, v :: vs => k.ok v ∧ Fits ks vs
  | _, _ => False

theorem Fits.length : ∀ {ks : List CK} {vs : List Value}, Fits ks vs → vs.length = ks.length
  | [], [], _ => rfl
  | _ :: _, _ :: _, h => by simp [Fits.length h.2]
  | [], _ :: _, h => h.elim
  | _ :: _, [], h => h.elim

theorem Fits.append_inv : ∀ {k1 k2 : List CK} {vs : List Value}, Fits (k1 ++ k2) vs → Fits k1 (vs.take k1.length) ∧ Fits k2 (vs.drop k1.length)
  | [], _, _, h => ⟨by simp [Fits], by simpa using h⟩
  | _ :: k1, _, v :: vs, h => by
    obtain ⟨h1, h2⟩ := h
    obtain ⟨h3, h4⟩ := Fits.append_inv (k1 := k1) h2
    exact ⟨by simpa [Fits] using ⟨h1, h3⟩, by simpa using h4⟩
  | _ :: _, _, [], h => h.elim

theorem Fits.append : ∀ {k1 k2 : List CK} {v1 v2 : List Value}, Fits k1 v1 → Fits k2 v2 → Fits (k1 ++ k2) (v1 ++ v2)
  | [], _, [], _, _, h => by simpa using h
  | _ :: _, _, _ :: _, _, h1, h => ⟨h1.1, Fits.append h1.2 h⟩
  | [], _, _ :: _, _, h1, _ => h1.elim
  | _ :: _, _, [], _, h1, _ => h1.elim

theorem Fits.at : ∀ {ks : List CK} {vs : List Value} {j : Nat} {k : CK}, Fits ks vs → ks[j]? = some k → ∃ v, vs[j]? = some v ∧ k.ok v
  | [], [], _, _, _, h => by simp at h
  | _ :: _, v :: _, 0, _, h, hk => ⟨v, rfl, by simp at hk; exact hk ▸ h.1⟩
  | _ :: ks, _ :: vs, j + 1, _, h, hk => by
    obtain ⟨v, h1, h2⟩ := Fits.at (j := j) h.2 (by simpa using hk)
    exact ⟨v, by simpa using h1, h2⟩
  | [], _ :: _, _, _, h, _ => h.elim
  | _ :: _, [], _, _, h, _ => h.elim

theorem Fits.set : ∀ {ks : List CK} {vs : List Value} {j : Nat} {v : Value}, Fits ks vs → (∀ k, ks[j]? = some k → k.ok v) → Fits ks (vs.set j v)
  | [], [], _, _, _, _ => by simp [Fits]
  | _ :: _, _ :: _, 0, _, h, hk => ⟨hk _ rfl, h.2⟩
  | _ :: ks, _ :: vs, j + 1, _, h, hk => ⟨h.1, Fits.set h.2 (fun k e => hk k (by simpa using e))⟩
  | [], _ :: _, _, _, h, _ => h.elim
  | _ :: _, [], _, _, h, _ => h.elim

def CK.okB : CK → Value → Bool
  | .b, .bool _ => true
  | .i k, .int k' n => k == k' && (Lit.int k n).wf
  | .s, .string t => decide (t.size ≤ maxLen)
  | _, _ => false

def fitsB : List CK → List Value → Bool
  | [], [] => true
  | k :: ks, v :: vs => k.okB v && fitsB ks vs
  | _, _ => false

theorem CK.ok_of {k : CK} {v : Value} (h : k.okB v = true) : k.ok v := by
  cases k with
  | b => cases v <;> simp [CK.okB] at h; exact ⟨_, rfl⟩
  | s => cases v <;> simp [CK.okB] at h; exact ⟨_, rfl, h⟩
  | i k =>
    cases v <;> simp [CK.okB] at h
    obtain ⟨rfl, h⟩ := h
    exact ⟨_, rfl, h⟩

theorem fits_of : ∀ {ks : List CK} {vs : List Value}, fitsB ks vs = true → Fits ks vs
  | [], [], _ => trivial
  | k :: ks, v :: vs, h => by
    simp only [fitsB, Bool.and_eq_true] at h
    exact ⟨CK.ok_of h.1, fits_of h.2⟩
  | [], _ :: _, h => by cases h
  | _ :: _, [], h => by cases h

def flatParts (g : TypeId → Option (List CK)) : List (TypeId × Nat) → Nat → Option (List CK)
  | [], _ => some []
  | p :: l, n => if p.2 = n then (g p.1).bind fun ks => (flatParts g l (n + ks.length)).map (ks ++ ·) else none

def isAggB (P : Program) (t : TypeId) : Bool :=
  match P.underlying t with
  | some (.struct _) => true
  | some (.array _ _) => true
  | _ => false

def flat0 (P : Program) (g : TypeId → Option (List CK)) (t : TypeId) : Option (List CK) :=
  match P.underlying t with
  | some .bool => some [.b]
  | some (.int k) => some [.i k]
  | some .string => some [.s]
  | some (.struct fs) => if P.stoodInHeld t || fs.any (fun f => f.name == "_") then none else flatParts g (fs.toList.map fun f => (f.type, f.offset)) 0
  | some (.array n e) => if n = 0 then none else flatParts g ((List.range n).map fun i => (e, i * P.cellsOf e)) 0
  | _ => none

def flat (P : Program) : Nat → TypeId → Option (List CK)
  | 0, _ => none
  | d + 1, t => (flat0 P (flat P d) t).bind fun ks => if (P.info? t).map (·.size) = some ks.length then some ks else none

theorem flat_succ {P : Program} {d : Nat} {t : TypeId} {ks : List CK} (h : flat P (d + 1) t = some ks) :
    flat0 P (flat P d) t = some ks ∧ (P.info? t).map (·.size) = some ks.length := by
  simp only [flat, Option.bind_eq_some_iff] at h
  obtain ⟨k, h1, h2⟩ := h
  split at h2
  · rename_i hs; cases h2; exact ⟨h1, hs⟩
  · cases h2

theorem cellsOf_of_size {P : Program} {t : TypeId} {n : Nat} (h : (P.info? t).map (·.size) = some n) : P.cellsOf t = n := by
  simp [Program.cellsOf, h]

/-- What '==' says of two rows of cells. -/
def cellEq : Value → Value → Bool
  | .bool a, .bool b => a == b
  | .int _ a, .int _ b => a == b
  | .string a, .string b => a == b
  | _, _ => false

def cellsEq : List Value → List Value → Bool
  | [], [] => true
  | a :: l, b :: m => cellEq a b && cellsEq l m
  | _, _ => false

theorem cellEq_iff {k : CK} {a b : Value} (ha : k.ok a) (hb : k.ok b) : cellEq a b = true ↔ a = b := by
  cases k <;> simp only [CK.ok] at ha hb
  · obtain ⟨x, rfl⟩ := ha; obtain ⟨y, rfl⟩ := hb; simp [cellEq]
  · obtain ⟨x, rfl, _⟩ := ha; obtain ⟨y, rfl, _⟩ := hb; simp [cellEq]
  · obtain ⟨x, rfl, _⟩ := ha; obtain ⟨y, rfl, _⟩ := hb
    obtain ⟨⟨x⟩⟩ := x
    obtain ⟨⟨y⟩⟩ := y
    simp only [cellEq, Value.string.injEq, ByteArray.mk.injEq, Array.mk.injEq]
    show ((⟨x⟩ : Array UInt8) == ⟨y⟩) = true ↔ x = y
    simp

theorem cellsEq_iff : ∀ {ks : List CK} {a b : List Value}, Fits ks a → Fits ks b → (cellsEq a b = true ↔ a = b)
  | [], [], [], _, _ => by simp [cellsEq]
  | k :: ks, x :: a, y :: b, ha, hb => by
    simp only [cellsEq, Bool.and_eq_true, cellEq_iff ha.1 hb.1, cellsEq_iff ha.2 hb.2, List.cons.injEq]
  | [], _ :: _, _, h, _ => h.elim
  | [], [], _ :: _, _, h => h.elim
  | _ :: _, [], _, h, _ => h.elim
  | _ :: _, _ :: _, [], _, h => h.elim

theorem cellsEq_append : ∀ {a b : List Value} {c d : List Value}, a.length = b.length → cellsEq (a ++ c) (b ++ d) = (cellsEq a b && cellsEq c d)
  | [], [], _, _, _ => by simp [cellsEq]
  | x :: a, y :: b, c, d, h => by
    simp only [List.cons_append, cellsEq, cellsEq_append (a := a) (b := b) (by simpa using h), Bool.and_assoc]
  | [], _ :: _, _, _, h => by simp at h
  | _ :: _, [], _, _, h => by simp at h

/-! ### '==' -/
def eqParts (d : Nat) (xs ys : Array Value) : List (TypeId × Nat) → Sem Bool
  | [] => pure true
  | p :: l => do
      let a ← part p.1 xs p.2
      let b ← part p.1 ys p.2
      let r ← Op.equalIn d p.1 a b
      if (!r) = true then pure false else eqParts d xs ys l

section
variable {P : Program}

theorem eqFields_parts (d : Nat) (xs ys : Array Value) : ∀ (fs : List Field), (∀ f ∈ fs, f.name ≠ "_") → Op.eqFields d xs ys fs = eqParts d xs ys (fs.map fun f => (f.type, f.offset))
  | [], _ => rfl
  | f :: fs, h => by
    simp only [Op.eqFields, eqParts, List.map_cons, if_pos (h f (List.mem_cons_self ..)), eqFields_parts d xs ys fs (fun g hg => h g (List.mem_cons_of_mem _ hg))]

theorem run_equalIn_arr (w : World) (d n : Nat) (t e : TypeId) (sz : Nat) (xs ys : Array Value) (ht : P.underlying t = some (.array n e)) (hs : (P.info? e).map (·.size) = some sz) :
    (Op.equalIn (d + 1) t (.agg xs) (.agg ys)).run P w = (eqParts d xs ys ((List.range n).map fun i => (e, i * sz))).run P w := by
  have hsz : ∀ w, (sizeOf e).run P w = .ok sz w := fun w => by
    cases hq : P.info? e with
    | none => simp [hq] at hs
    | some i => simp [hq] at hs; simp [sizeOf, typeInfo, hq, hs]
  rw [Op.equalIn]
  simp only [Sem.run_bind, run_underlying ht, Result.andThen_ok, hsz]
  simp only [Std.Legacy.Range.forIn_eq_forIn_range', Std.Legacy.Range.size, Nat.sub_zero, Nat.add_sub_cancel, Nat.div_one]
  rw [← List.range_eq_range']
  generalize List.range n = l
  induction l generalizing w with
  | nil => simp [eqParts]
  | cons i l ih =>
    simp only [List.forIn_cons, List.map_cons, eqParts, Sem.run_bind]
    generalize (part e xs (i * sz)).run P w = r1
    cases r1 with
    | ok a w1 =>
      simp only [Result.andThen_ok]
      generalize (part e ys (i * sz)).run P w1 = r2
      cases r2 with
      | ok b w2 =>
        simp only [Result.andThen_ok]
        generalize (Op.equalIn d e a b).run P w2 = r3
        cases r3 with
        | ok r w3 =>
          cases r
          · simp
          · simp only [Result.andThen_ok, Bool.not_true, Bool.false_eq_true, if_false, Sem.run_pure]
            exact ih w3
        | halt x w3 => simp [Result.andThen]
      | halt x w2 => simp [Result.andThen]
    | halt x w1 => simp [Result.andThen]

theorem run_part_agg (w : World) {t : TypeId} {n : Nat} (ha : isAggB P t = true) (hs : (P.info? t).map (·.size) = some n) (xs : Array Value) (o : Nat) :
    (part t xs o).run P w = .ok (.agg (xs.extract o (o + n))) w := by
  have h1 : (isAgg t).run P w = .ok true w := by
    unfold isAggB at ha
    split at ha
    · rename_i fs hu; simp [isAgg, run_underlying hu]
    · rename_i n e hu; simp [isAgg, run_underlying hu]
    · cases ha
  have h2 : ∀ w, (sizeOf t).run P w = .ok n w := fun w => by
    cases hq : P.info? t with
    | none => simp [hq] at hs
    | some i => simp [hq] at hs; simp [sizeOf, typeInfo, hq, hs]
  simp [part, h1, h2]

theorem run_part_cell (w : World) {t : TypeId} {d : TypeDesc} (hu : P.underlying t = some d) (ha : isAggB P t = false) {xs : Array Value} {o : Nat} {v : Value} (hv : xs[o]? = some v) :
    (part t xs o).run P w = .ok v w := by
  have h1 : (isAgg t).run P w = .ok false w := by
    unfold isAggB at ha
    rw [hu] at ha
    cases d <;> simp_all [isAgg, run_underlying hu]
  simp [part, h1, hv]

/-- A value of a flat type, out of its cells. -/
def mkV (P : Program) (t : TypeId) (cs : List Value) : Value := if isAggB P t then .agg cs.toArray else cs.headD undef

theorem run_part {d : Nat} {t : TypeId} {ks : List CK} (h : flat P d t = some ks) (w : World) (xs : Array Value) (o : Nat) (hf : Fits ks ((xs.toList.drop o).take ks.length)) :
    (part t xs o).run P w = .ok (mkV P t ((xs.toList.drop o).take ks.length)) w := by
  cases d with
  | zero => cases h
  | succ d =>
    obtain ⟨h0, hs⟩ := flat_succ h
    by_cases ha : isAggB P t = true
    · rw [run_part_agg w ha hs]
      simp only [mkV, ha, if_true]
      congr 2
      apply Array.toList_inj.1
      simp only [Array.toList_extract, List.extract, Nat.add_sub_cancel_left]
    · have ha' : isAggB P t = false := by simpa using ha
      have one : ∃ k, ks = [k] := by
        unfold flat0 at h0
        unfold isAggB at ha'
        split at h0 <;> simp_all
        all_goals exact ⟨_, h0.symm⟩
      obtain ⟨k, rfl⟩ := one
      have hu : ∃ dd, P.underlying t = some dd := by
        unfold flat0 at h0
        cases hq : P.underlying t with
        | none => rw [hq] at h0; cases h0
        | some dd => exact ⟨dd, rfl⟩
      obtain ⟨dd, hu⟩ := hu
      obtain ⟨v, hv, _⟩ := Fits.at (j := 0) hf rfl
      have hv' : xs[o]? = some v := by
        simp at hv
        simpa using hv
      rw [run_part_cell w hu ha' hv']
      simp only [mkV, ha', Bool.false_eq_true, if_false]
      congr 1
      cases hq : (xs.toList.drop o).take [k].length with
      | nil => rw [hq] at hv; simp at hv
      | cons a l => rw [hq] at hv; simp at hv; simp [hv]

theorem run_equalIn_flat : ∀ (d : Nat) {t : TypeId} {ks : List CK}, flat P d t = some ks → ∀ (D : Nat), d ≤ D → ∀ (w : World) (xs ys : List Value), Fits ks xs → Fits ks ys →
    (Op.equalIn D t (mkV P t xs) (mkV P t ys)).run P w = .ok (cellsEq xs ys) w
  | 0, _, _, h, _, _, _, _, _, _, _ => by cases h
  | d + 1, t, ks, h, D, hD, w, xs, ys, hx, hy => by
    obtain ⟨D, rfl⟩ : ∃ m, D = m + 1 := ⟨D - 1, by omega⟩
    obtain ⟨h0, hs⟩ := flat_succ h
    have parts : ∀ (l : List (TypeId × Nat)) (n : Nat) (kr : List CK) (w : World) (X Y : List Value), flatParts (flat P d) l n = some kr → Fits kr (X.drop n) → Fits kr (Y.drop n) →
        (eqParts D X.toArray Y.toArray l).run P w = .ok (cellsEq (X.drop n) (Y.drop n)) w := by
      intro l
      induction l with
      | nil =>
        intro n kr w X Y hp h1 h2
        simp only [flatParts, Option.some.injEq] at hp
        subst hp
        have e1 := Fits.length h1
        have e2 := Fits.length h2
        rw [List.length_eq_zero_iff.1 e1, List.length_eq_zero_iff.1 e2]
        simp [eqParts, cellsEq]
      | cons p l ih =>
        intro n kr w X Y hp h1 h2
        obtain ⟨pt, po⟩ := p
        simp only [flatParts] at hp
        split at hp
        · rename_i hn
          subst hn
          simp only [Option.bind_eq_some_iff, Option.map_eq_some_iff] at hp
          obtain ⟨k1, hk1, k2, hk2, rfl⟩ := hp
          obtain ⟨a1, a2⟩ := h1.append_inv
          obtain ⟨b1, b2⟩ := h2.append_inv
          rw [List.drop_drop] at a2 b2
          have l1 := Fits.length a1
          have l2 := Fits.length b1
          simp only [eqParts, Sem.run_bind]
          rw [run_part hk1 w X.toArray po (by simpa using a1)]
          simp only [Result.andThen_ok]
          rw [run_part hk1 w Y.toArray po (by simpa using b1)]
          simp only [Result.andThen_ok]
          rw [run_equalIn_flat d hk1 D (by omega) w _ _ a1 b1]
          simp only [Result.andThen_ok]
          have e : cellsEq (X.drop po) (Y.drop po) = (cellsEq ((X.drop po).take k1.length) ((Y.drop po).take k1.length) && cellsEq (X.drop (po + k1.length)) (Y.drop (po + k1.length))) := by
            rw [← cellsEq_append (by rw [l1, l2]), ← List.drop_drop, ← List.drop_drop, List.take_append_drop, List.take_append_drop]
          rw [e]
          cases cellsEq ((X.drop po).take k1.length) ((Y.drop po).take k1.length)
          · simp
          · simp only [Bool.not_true, Bool.false_eq_true, if_false, Bool.true_and]
            exact ih _ _ _ _ _ hk2 a2 b2
        · cases hp
    unfold flat0 at h0
    cases hu : P.underlying t with
    | none => rw [hu] at h0; cases h0
    | some dd =>
      rw [hu] at h0
      cases dd <;> simp only [Option.some.injEq, reduceCtorEq] at h0
      case bool =>
        subst h0
        obtain ⟨x, rfl⟩ : ∃ x, xs = [x] := List.length_eq_one_iff.1 (Fits.length hx)
        obtain ⟨y, rfl⟩ : ∃ x, ys = [x] := List.length_eq_one_iff.1 (Fits.length hy)
        obtain ⟨⟨a, rfl⟩, _⟩ := hx
        obtain ⟨⟨b, rfl⟩, _⟩ := hy
        simp [mkV, isAggB, hu, cellsEq, cellEq, Op.equalIn, run_underlying hu]
      case int k =>
        subst h0
        obtain ⟨x, rfl⟩ : ∃ x, xs = [x] := List.length_eq_one_iff.1 (Fits.length hx)
        obtain ⟨y, rfl⟩ : ∃ x, ys = [x] := List.length_eq_one_iff.1 (Fits.length hy)
        obtain ⟨⟨a, rfl, _⟩, _⟩ := hx
        obtain ⟨⟨b, rfl, _⟩, _⟩ := hy
        simp [mkV, isAggB, hu, cellsEq, cellEq, Op.equalIn, run_underlying hu]
      case string =>
        subst h0
        obtain ⟨x, rfl⟩ : ∃ x, xs = [x] := List.length_eq_one_iff.1 (Fits.length hx)
        obtain ⟨y, rfl⟩ : ∃ x, ys = [x] := List.length_eq_one_iff.1 (Fits.length hy)
        obtain ⟨⟨a, rfl, _⟩, _⟩ := hx
        obtain ⟨⟨b, rfl, _⟩, _⟩ := hy
        simp [mkV, isAggB, hu, cellsEq, cellEq, Op.equalIn, run_underlying hu]
      case struct fs =>
        split at h0
        · cases h0
        · rename_i hc
          simp only [Bool.or_eq_true, not_or, Bool.not_eq_true] at hc
          have hmk : ∀ c, mkV P t c = .agg c.toArray := fun c => by simp [mkV, isAggB, hu]
          have hf : P.fieldsOf t = fs := by simp [Program.fieldsOf, hu]
          rw [hmk, hmk, run_equalIn_struct w D t _ _ (by rw [hf]; exact hu) hc.1, hf, eqFields_parts _ _ _ _ (fun f hf => ?_)]
          · exact (parts _ 0 _ w xs ys h0 (by simpa using hx) (by simpa using hy)).trans (by simp)
          · have := hc.2
            rw [Array.any_eq_false'] at this
            simpa using this f (by simpa using hf)
      case array n e =>
        have hmk : ∀ c, mkV P t c = .agg c.toArray := fun c => by simp [mkV, isAggB, hu]
        cases n with
        | zero => rw [if_pos rfl] at h0; cases h0
        | succ n =>
          rw [if_neg (by omega)] at h0
          have hsz : (P.info? e).map (·.size) = some (P.cellsOf e) := by
            have h1 := h0
            rw [List.range_succ_eq_map] at h1
            simp only [List.map_cons, flatParts] at h1
            split at h1
            · simp only [Option.bind_eq_some_iff] at h1
              obtain ⟨k1, hk1, _⟩ := h1
              cases d with
              | zero => cases hk1
              | succ d => rw [(flat_succ hk1).2, cellsOf_of_size (flat_succ hk1).2]
            · cases h1
          rw [hmk, hmk, run_equalIn_arr w D _ t e _ _ _ hu hsz]
          exact (parts _ 0 _ w xs ys h0 (by simpa using hx) (by simpa using hy)).trans (by simp)

theorem mkV_agg {t : TypeId} (h : isAggB P t = true) (cs : List Value) : mkV P t cs = .agg cs.toArray := by simp [mkV, h]

/-- '==' of two values of a flat struct or array: one Bool. -/
theorem eq_flat {d : Nat} {t : TypeId} {ks : List CK} (h : flat P d t = some ks) (ha : isAggB P t = true) (hd : d ≤ 10000) {xs ys : List Value} (hx : Fits ks xs) (hy : Fits ks ys) (w : World) :
    (Op.equalIn 10000 t (.agg xs.toArray) (.agg ys.toArray)).run P w = .ok (cellsEq xs ys) w := by
  have := run_equalIn_flat d h 10000 hd w xs ys hx hy
  rwa [mkV_agg ha, mkV_agg ha] at this

theorem eq_flat' {d : Nat} {t : TypeId} {ks : List CK} (h : flat P d t = some ks) (ha : isAggB P t = true) (hd : d ≤ 10000) {xs ys : Array Value} (hx : Fits ks xs.toList) (hy : Fits ks ys.toList) (w : World) :
    (Op.equalIn 10000 t (.agg xs) (.agg ys)).run P w = .ok (cellsEq xs.toList ys.toList) w := by
  have := eq_flat (P := P) h ha hd hx hy w
  simpa using this

/-! ### Reading -/
variable {H : Type} {enc : TypeId × Value → H} {W : World} {base : Nat} {spare : Nat → Bool} {held : Bool}

theorem mapM_parts {g : TypeId → List Value → Option (DataW H × List MemPlace)} {gk : TypeId → Option (List CK)}
    (hg : ∀ t ks cs x, gk t = some ks → cs.length = ks.length → g t cs = some x → Fits ks cs ∧ x.2 = []) :
    ∀ (l : List (TypeId × Nat)) (n : Nat) (kr : List CK) (cs : List Value) (xs : List (DataW H × List MemPlace)), flatParts gk l n = some kr →
      (∀ p ∈ l, ∀ ks, gk p.1 = some ks → P.cellsOf p.1 = ks.length) → n + kr.length = cs.length →
      l.mapM (fun p => g p.1 ((cs.drop p.2).take (P.cellsOf p.1))) = some xs → Fits kr (cs.drop n) ∧ xs.flatMap (·.2) = []
  | [], n, kr, cs, xs, h1, _, h3, h4 => by
    simp only [flatParts, Option.some.injEq] at h1
    subst h1
    simp only [List.mapM_nil, Option.pure_def, Option.some.injEq] at h4
    subst h4
    have : cs.drop n = [] := by apply List.drop_eq_nil_of_le; simp at h3; omega
    simp [this, Fits]
  | (t, o) :: l, n, kr, cs, xs, h1, h2, h3, h4 => by
    simp only [flatParts] at h1
    split at h1
    · rename_i hn
      subst hn
      simp only [Option.bind_eq_some_iff, Option.map_eq_some_iff] at h1
      obtain ⟨k1, hk1, k2, hk2, rfl⟩ := h1
      have hc := h2 (t, o) (List.mem_cons_self ..) _ hk1
      simp only at hc
      simp only [List.mapM_cons, Option.bind_eq_bind, Option.bind_eq_some_iff, Option.pure_def, Option.some.injEq] at h4
      obtain ⟨x, hx, ys, hys, rfl⟩ := h4
      rw [hc] at hx
      simp only [List.length_append] at h3
      obtain ⟨f1, f2⟩ := hg t k1 _ x hk1 (by simp; omega) hx
      obtain ⟨f3, f4⟩ := mapM_parts hg l (o + k1.length) k2 cs ys hk2 (fun p hp => h2 p (List.mem_cons_of_mem _ hp)) (by omega) hys
      refine ⟨?_, by simp [f2, f4]⟩
      have := Fits.append f1 f3
      rwa [← List.drop_drop, List.take_append_drop] at this
    · cases h1

theorem trod_flat : ∀ (d : Nat) (t : TypeId) (ks : List CK) (fuel : Nat) (cs : List Value) (x : DataW H × List MemPlace), flat P d t = some ks → cs.length = ks.length →
    DataW.trod enc P W base spare held fuel t cs = some x → Fits ks cs ∧ x.2 = []
  | 0, _, _, _, _, _, h, _, _ => by cases h
  | d + 1, t, ks, 0, _, _, _, _, h => by simp [DataW.trod] at h
  | d + 1, t, ks, fuel + 1, cs, x, h, hl, hx => by
    obtain ⟨h0, hs⟩ := flat_succ h
    have hc := cellsOf_of_size hs
    have hsz : ∀ (l : List (TypeId × Nat)), ∀ p ∈ l, ∀ ks, flat P d p.1 = some ks → P.cellsOf p.1 = ks.length := fun l p _ ks hk => by
      cases d with
      | zero => cases hk
      | succ d => exact cellsOf_of_size (flat_succ hk).2
    unfold flat0 at h0
    cases hu : P.underlying t with
    | none => rw [hu] at h0; cases h0
    | some dd =>
      rw [hu] at h0
      cases dd <;> simp only [Option.some.injEq, reduceCtorEq] at h0
      case bool =>
        subst h0
        obtain ⟨v, rfl⟩ : ∃ v, cs = [v] := List.length_eq_one_iff.1 hl
        unfold DataW.trod at hx
        rw [hu] at hx
        cases v <;> simp only [Option.some.injEq, reduceCtorEq] at hx
        subst hx
        exact ⟨⟨⟨_, rfl⟩, trivial⟩, rfl⟩
      case int k =>
        subst h0
        obtain ⟨v, rfl⟩ : ∃ v, cs = [v] := List.length_eq_one_iff.1 hl
        unfold DataW.trod at hx
        rw [hu] at hx
        cases v <;> simp only [Option.some.injEq, reduceCtorEq] at hx
        split at hx
        · rename_i hk
          cases hx
          obtain ⟨rfl, hw⟩ := hk
          exact ⟨⟨⟨_, rfl, hw⟩, trivial⟩, rfl⟩
        · cases hx
      case string =>
        subst h0
        obtain ⟨v, rfl⟩ : ∃ v, cs = [v] := List.length_eq_one_iff.1 hl
        unfold DataW.trod at hx
        rw [hu] at hx
        cases v <;> simp only [Option.some.injEq, reduceCtorEq] at hx
        split at hx
        · rename_i hk
          cases hx
          exact ⟨⟨⟨_, rfl, hk⟩, trivial⟩, rfl⟩
        · cases hx
      case struct fs =>
        split at h0
        · cases h0
        · rw [DataW.trod.eq_10 _ _ _ _ _ _ _ _ _ _ hu] at hx
          split at hx
          · simp only [Option.map_eq_some_iff] at hx
            obtain ⟨xs, hxs, rfl⟩ := hx
            have hm : (fs.toList.map fun f => (f.type, f.offset)).mapM (fun p : TypeId × Nat => DataW.trod enc P W base spare held fuel p.1 ((cs.drop p.2).take (P.cellsOf p.1))) = some xs := by
              rw [List.mapM_map]; exact hxs
            have := mapM_parts (P := P) (fun t ks cs x h1 h2 h3 => trod_flat d t ks fuel cs x h1 h2 h3) _ 0 ks cs xs h0 (hsz _) (by omega) hm
            simpa using this
          · cases hx
      case array n e =>
        split at h0
        · cases h0
        · rw [DataW.trod.eq_11 _ _ _ _ _ _ _ _ _ _ _ hu] at hx
          split at hx
          · simp only [Option.map_eq_some_iff] at hx
            obtain ⟨xs, hxs, rfl⟩ := hx
            have hm : ((List.range n).map fun i => (e, i * P.cellsOf e)).mapM (fun p : TypeId × Nat => DataW.trod enc P W base spare held fuel p.1 ((cs.drop p.2).take (P.cellsOf p.1))) = some xs := by
              rw [List.mapM_map]; exact hxs
            have := mapM_parts (P := P) (fun t ks cs x h1 h2 h3 => trod_flat d t ks fuel cs x h1 h2 h3) _ 0 ks cs xs h0 (hsz _) (by omega) hm
            simpa using this
          · cases hx

theorem open_flat {d : Nat} {t : TypeId} {ks : List CK} {v : Value} {r : Reach} {b0 : Nat} {dd : DataW H} {ps : List MemPlace} (h : flat P d t = some ks) (ha : isAggB P t = true)
    (hok : Value.okWide P W r b0 t v) (ht : DataW.Trod enc P W base spare held t v dd ps) : ∃ cs : Array Value, v = .agg cs ∧ Fits ks cs.toList ∧ ps = [] := by
  have hv : ∃ cs, v = .agg cs ∧ cs.size = P.cellsOf t := by
    unfold isAggB at ha
    split at ha
    · rename_i fs hu; exact okWide_struct hu hok
    · rename_i n e hu
      simp only [Value.okWide, hu] at hok
      obtain ⟨cs, h1, h2, _⟩ := hok
      exact ⟨cs, h1, h2⟩
    · cases ha
  obtain ⟨cs, rfl, hs⟩ := hv
  obtain ⟨fuel, hf⟩ := ht
  cases d with
  | zero => cases h
  | succ d =>
    have hc := cellsOf_of_size (flat_succ h).2
    obtain ⟨h1, h2⟩ := trod_flat (d + 1) t ks fuel cs.toList _ h (by simp; omega) (by simpa [Value.cells] using hf)
    exact ⟨cs, rfl, h1, h2⟩

/-! ### The row's end: the law answered true, and nothing that was there has turned -/
theorem trodAll_below (hl : laidOutB P = true) {W W' : World} (hb : Below W.heap.size W W') : ∀ (ts : List TypeId) (vs : List Value) (ds : List (DataW H)) (ps : List MemPlace),
    (∀ t ∈ ts, P.readableRec t = true ∧ t < P.types.size) → (∀ x ∈ ps, x.block < W.heap.size) → DataW.TrodAll enc P W 0 (fun _ => true) true ts vs ds ps →
    DataW.TrodAll enc P W' 0 (fun b => decide (b < W.heap.size)) true ts vs ds ps
  | [], vs, ds, ps, _, _, h => by
    cases vs <;> cases ds <;> simp [DataW.TrodAll] at h ⊢
    exact h
  | t :: ts, vs, ds, ps, hr, hlt, h => by
    obtain ⟨v, vs', d, ds', p, q, rfl, rfl, rfl, h1, h2⟩ := trodAll_cons h
    have ht := hr t (List.mem_cons_self ..)
    refine trodAll_cons_mk (Below.trod hl ht.1 ht.2 h1 hb (fun x hx => hlt x (List.mem_append_left _ hx))) ?_
    exact trodAll_below hl hb ts vs' ds' q (fun t ht => hr t (List.mem_cons_of_mem _ ht)) (fun x hx => hlt x (List.mem_append_right _ hx)) h2

theorem post_true {fn : Func} {s : ChangeSpec} {W W' : World} {args : Array Value} {ds gs : List (DataW H)} {before : List MemPlace} {tb : TypeId} (hl : laidOutB P = true)
    (hrt : fn.resultTypes = #[tb]) (htb : P.underlying tb = some .bool) (hpar : (fn.params.toList.all fun t => P.readableRec t && decide (t < P.types.size)) = true) (hvars : s.vars = [])
    (hs : (s.fn H (ds ++ gs)).results = [.lit (.bool true)] ∧ (s.fn H (ds ++ gs)).args = ds ∧ (s.fn H (ds ++ gs)).vars = [])
    (hW : DataW.Whole enc P fn.params.toList s.vars false W args.toList ds gs before) (hb : Below W.heap.size W W') :
    s.post enc P fn false true false false W args (.bool true) W' := by
  have hW' := hW
  obtain ⟨p, q, hA, hV, rfl, _, _⟩ := hW
  rw [hvars] at hV
  obtain ⟨rfl, rfl⟩ := trodVars_none hV
  refine ⟨ds, [], _, [], p, [], hW', ?_, ?_, ?_, hb.frame _, fun h => by cases h⟩
  · rw [hrt, hs.1]
    exact trodAll_mk1 (shut_bool htb _)
  · rw [hs.2.1]
    exact trodAll_below hl hb _ _ _ _ (fun t ht => by have := List.all_eq_true.1 hpar t ht; simpa using this) (fun x hx => by simpa using hW'.lt x (by simpa using hx)) hA
  · rw [hs.2.2, hvars]
    rfl

end

/-! ### Cells of a flat value by their places -/
def iat (cs : Array Value) (i : Nat) : Int := match cs[i]? with | some (.int _ n) => n | _ => 0
def bat (cs : Array Value) (i : Nat) : Bool := match cs[i]? with | some (.bool x) => x | _ => false

theorem Fits.iat {ks : List CK} {cs : Array Value} (h : Fits ks cs.toList) {i : Nat} {k : IntKind} (hk : ks[i]? = some (.i k)) : cs[i]? = some (.int k (iat cs i)) ∧ (Lit.int k (iat cs i)).wf = true := by
  obtain ⟨v, h1, n, rfl, h2⟩ := h.at hk
  have h3 : cs[i]? = some (.int k n) := by simpa using h1
  have h4 : _root_.Go.Proofs.YtlpgandflkabcaaGreatDoor.iat cs i = n := by simp [Go.Proofs.YtlpgandflkabcaaGreatDoor.iat, h3]
  rw [h4]
  exact ⟨h3, h2⟩

theorem Fits.bat {ks : List CK} {cs : Array Value} (h : Fits ks cs.toList) {i : Nat} (hk : ks[i]? = some .b) : cs[i]? = some (.bool (bat cs i)) := by
  obtain ⟨v, h1, n, rfl⟩ := h.at hk
  have h3 : cs[i]? = some (.bool n) := by simpa using h1
  have h4 : _root_.Go.Proofs.YtlpgandflkabcaaGreatDoor.bat cs i = n := by simp [Go.Proofs.YtlpgandflkabcaaGreatDoor.bat, h3]
  rw [h4]
  exact h3

theorem Fits.arr_size {ks : List CK} {cs : Array Value} (h : Fits ks cs.toList) : cs.size = ks.length := by
  simpa using h.length

theorem Fits.arr_set {ks : List CK} {cs : Array Value} {j : Nat} {v : Value} (h : Fits ks cs.toList) (hk : ∀ k, ks[j]? = some k → k.ok v) : Fits ks (cs.setIfInBounds j v).toList := by
  simpa using h.set hk

theorem wf_u8 {n : Int} : (Lit.int .u8 n).wf = true ↔ 0 ≤ n ∧ n ≤ 255 := by simp [Lit.wf, IntKind.min, IntKind.max, IntKind.signed, IntKind.bits]
theorem wf_u16 {n : Int} : (Lit.int .u16 n).wf = true ↔ 0 ≤ n ∧ n ≤ 65535 := by simp [Lit.wf, IntKind.min, IntKind.max, IntKind.signed, IntKind.bits]
theorem wf_u32 {n : Int} : (Lit.int .u32 n).wf = true ↔ 0 ≤ n ∧ n ≤ 4294967295 := by simp [Lit.wf, IntKind.min, IntKind.max, IntKind.signed, IntKind.bits]
theorem wf_i32 {n : Int} : (Lit.int .i32 n).wf = true ↔ -2147483648 ≤ n ∧ n ≤ 2147483647 := by simp [Lit.wf, IntKind.min, IntKind.max, IntKind.signed, IntKind.bits]
theorem wf_u64 {n : Int} : (Lit.int .u64 n).wf = true ↔ 0 ≤ n ∧ n ≤ 18446744073709551615 := by simp [Lit.wf, IntKind.min, IntKind.max, IntKind.signed, IntKind.bits]
theorem wf_i64 {n : Int} : (Lit.int .i64 n).wf = true ↔ -9223372036854775808 ≤ n ∧ n ≤ 9223372036854775807 := by simp [Lit.wf, IntKind.min, IntKind.max, IntKind.signed, IntKind.bits]

/-! ### Worlds written out -/
theorem heap_get (w : World) (o : Obj) (k : Nat) : (w.alloc o).heap[k]? = if k = w.heap.size then some o else w.heap[k]? := by
  show (w.heap.push o)[k]? = _
  rw [Array.getElem?_push]

theorem heap_old (w : World) (o : Obj) (k : Nat) (h : k < w.heap.size) : (w.alloc o).heap[k]? = w.heap[k]? := by
  rw [heap_get, if_neg (by omega)]

theorem heap_new (w : World) (o : Obj) (k : Nat) (h : k = w.heap.size) : (w.alloc o).heap[k]? = some o := by
  rw [heap_get, if_pos h]

theorem heap_len (w : World) (o : Obj) : (w.alloc o).heap.size = w.heap.size + 1 := by
  show (w.heap.push o).size = _
  simp

theorem heap_set {w : World} {b o : Nat} {cs : Array Value} {t : TypeId} {fr : Nat × Nat} {v : Value} (h : w.heap[b]? = some (.cells cs t fr)) : (w.setCell ⟨b, o, none⟩ v).heap[b]? = some (.cells (cs.setIfInBounds o v) t fr) := by
  simp [World.setCell, Array.getElem?_modify, h]

theorem heap_set_ne (w : World) (b o k : Nat) (v : Value) (h : k ≠ b) : (w.setCell ⟨b, o, none⟩ v).heap[k]? = w.heap[k]? := by
  simp only [World.setCell, Array.getElem?_modify]
  rw [if_neg (fun e => h e.symm)]

theorem heap_set_len (w : World) (a : Addr) (v : Value) : (w.setCell a v).heap.size = w.heap.size := by
  simp [World.setCell]

theorem cell_at {w : World} {b o : Nat} {cs : Array Value} {t : TypeId} {fr : Nat × Nat} {v : Value} (h : w.heap[b]? = some (.cells cs t fr)) (hv : cs[o]? = some v) : w.cell? ⟨b, o, none⟩ = some v := by
  rw [cell_of_row w b o cs t fr h, hv]

theorem free_at {w : World} {b o : Nat} {cs : Array Value} {t : TypeId} (h : w.heap[b]? = some (.cells cs t (0, 0))) : w.frozen? ⟨b, o, none⟩ = false := by
  simp [World.frozen?, h]

theorem heap_lt {w : World} {b : Nat} {o : Obj} (h : w.heap[b]? = some o) : b < w.heap.size := (Array.getElem?_eq_some_iff.1 h).1

/-! ### A whole struct out of its block, at whatever guard -/
section
variable {P : Program} {ops : Array Oper} {rest : List Oper} {Q : Exit → Act → World → Prop} {a : Act} {w : World}

/-- What 'load T x' of a whole block asks, behind a name: so that an arm of the walk fails fast elsewhere. -/
def LoadGoal (P : Program) (ops : Array Oper) (Q : Exit → Act → World → Prop) (rest : List Oper) (o : Oper) (T : TypeId) (x : Operand) (a : Act) (w : World) : Prop := o.op = .load T x → wpList P ops Q (o :: rest) a w

theorem wpl_load (T : TypeId) {x : Operand} {d : Option Tmp} {ty : TypeId} {pos : String} {af : Array Edge} {g : Option (Nat × Bool)} (h : LoadGoal P ops Q rest ⟨d, .load T x, ty, pos, af, g⟩ T x a w) :
    wpList P ops Q (⟨d, .load T x, ty, pos, af, g⟩ :: rest) a w := h rfl

theorem LoadGoal.of {o : Oper} {T : TypeId} {x : Operand} (cs : Array Value) {g : Nat} {t : TypeId} {fr : Nat × Nat} (hx : a.eval x = .pointer (some ⟨g, 0, none⟩)) (hg : w.heap[g]? = some (.cells cs t fr))
    (ha : isAggB P T = true) (hi : (P.info? T).map (·.size) = some cs.size) (hw : Region.wanted o (yielded ops a.tmps) = true)
    (h : wpList P ops Q rest (a.put o.dst (.agg cs)) w) : LoadGoal P ops Q rest o T x a w := by
  intro ho
  have hd : ∃ d, P.underlying T = some d ∧ (match d with | .struct _ | .array _ _ => true | _ => false) = true := by
    unfold isAggB at ha
    split at ha
    · rename_i hu; exact ⟨_, hu, rfl⟩
    · rename_i hu; exact ⟨_, hu, rfl⟩
    · cases ha
  obtain ⟨d, hu, hd⟩ := hd
  refine wpList_step fun K hK => ?_
  rw [if_pos hw]
  cases d <;> first | exact wp_load_row T x ho g hx t cs fr _ hg hu rfl hi (hK _ _ h) | cases hd

theorem LoadGoal.skip {o : Oper} {T : TypeId} {x : Operand} (hw : Region.wanted o (yielded ops a.tmps) = false) (h : wpList P ops Q rest (a.put o.dst undef) w) : LoadGoal P ops Q rest o T x a w := by
  intro ho
  unfold wpList
  rw [if_neg (by rw [hw]; exact Bool.false_ne_true)]
  exact h
end

theorem below_drewN {B : Nat} {a w : World} (h : Below B a w) (n : Nat) : Below B a (w.drewN n) := ⟨h.os, h.tape, h.output, h.size, h.block⟩
theorem below_of_drew {w w1 : World} (h : Below w.drew.heap.size w.drew w1) : Below w.heap.size w w1 := ⟨h.os, h.tape, h.output, h.size, h.block⟩
theorem heap_drewN (w : World) (n : Nat) : (w.drewN n).heap = w.heap := rfl

theorem below_realloc {B : Nat} {a w : World} {o o' : Obj} (h : Below B a (w.alloc o)) (hB : B ≤ w.heap.size) (hs : a.heap.size ≤ w.heap.size) : Below B a (w.alloc o') :=
  ⟨h.os, h.tape, h.output, by rw [heap_len]; omega, fun k hk => by rw [← h.block k hk, heap_old _ _ _ (by omega), heap_old _ _ _ (by omega)]⟩

theorem below_then {a w w' : World} (h : Below a.heap.size a w) (hb : Below w.heap.size w w') : Below a.heap.size a w' := h.trans (hb.mono h.size)

theorem bcell {W w1 : World} (hb : Below W.heap.size W w1) : (∀ b o, b < W.heap.size → w1.cell? ⟨b, o, none⟩ = W.cell? ⟨b, o, none⟩) ∧ (∀ b o, b < W.heap.size → w1.frozen? ⟨b, o, none⟩ = W.frozen? ⟨b, o, none⟩) :=
  ⟨fun b o h => hb.cell (p := ⟨b, o, none⟩) h, fun b o h => hb.frozen (p := ⟨b, o, none⟩) h⟩

theorem i64_and_nat (a b : Nat) (ha : a < 9223372036854775808) (hb : b < 9223372036854775808) : bits .and .i64 (a : Int) (b : Int) = ((a &&& b : Nat) : Int) := by
  have h1 : (BitVec.ofInt 64 (a : Int)).toNat = a := by simp; omega
  have h2 : (BitVec.ofInt 64 (b : Int)).toNat = b := by simp; omega
  have h3 : a &&& b < 9223372036854775808 := Nat.lt_of_le_of_lt Nat.and_le_left ha
  have h4 : (BitVec.ofInt 64 (a : Int) &&& BitVec.ofInt 64 (b : Int)).toNat = a &&& b := by rw [BitVec.toNat_and, h1, h2]
  show IntKind.wrap .i64 (((BitVec.ofInt 64 (a : Int) &&& BitVec.ofInt 64 (b : Int)).toNat : Nat) : Int) = _
  rw [h4]
  generalize a &&& b = c at *
  exact IntWalk.i64_in _ (by omega)

/-! ### Texts as lists of bytes -/
def mkB (l : List UInt8) : ByteArray := ⟨l.toArray⟩
theorem mkB_data (s : ByteArray) : mkB s.data.toList = s := by cases s; simp [mkB]
theorem mkB_list (l : List UInt8) : (mkB l).data.toList = l := by simp [mkB]
theorem mkB_size (l : List UInt8) : (mkB l).size = l.length := by simp [mkB, ByteArray.size]
theorem mkB_extract (l : List UInt8) (a b : Nat) : (mkB l).extract a b = mkB ((l.drop a).take (b - a)) := by
  apply ByteArray.ext
  apply Array.toList_inj.1
  rw [ByteArray.data_extract, Array.toList_extract, mkB_list, mkB_list]
theorem mkB_take (l : List UInt8) (n : Nat) : (mkB l).extract 0 n = mkB (l.take n) := by rw [mkB_extract]; simp
theorem mkB_drop (l : List UInt8) (n : Nat) : (mkB l).extract n (mkB l).size = mkB (l.drop n) := by
  rw [mkB_extract, mkB_size, List.take_of_length_le (by simp)]
theorem mkB_append (a b : List UInt8) : mkB a ++ mkB b = mkB (a ++ b) := by
  apply ByteArray.ext
  apply Array.toList_inj.1
  simp [mkB]
theorem mkB_inj {a b : List UInt8} : mkB a = mkB b ↔ a = b := ⟨fun h => by have := congrArg (fun s : ByteArray => s.data.toList) h; simpa [mkB] using this, fun h => by rw [h]⟩

end Go.Proofs.YtlpgandflkabcaaGreatDoor
