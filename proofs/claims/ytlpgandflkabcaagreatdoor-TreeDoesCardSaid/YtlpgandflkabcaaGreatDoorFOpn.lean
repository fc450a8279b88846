/-
  Reading the arguments: the texts inside a struct of plain cells are weighed; a slice of such structs.
-/
import Derived.Test.YtlpgandflkabcaaGreatDoorFRowN
import Derived.Deep.Slices
import Derived.Deep.MidRow
import Derived.Stop.Joined
namespace Go.Proofs.YtlpgandflkabcaaGreatDoor
open Go Go.ChangeShapes Go.WideShapes Go.RowKit
set_option linter.unusedVariables false
set_option linter.unusedSimpArgs false

section
variable {P : Program} {H : Type} {enc : TypeId × Value → H} {W : World} {base : Nat} {spare : Nat → Bool} {held : Bool}

theorem parts_weigh {g : TypeId → List Value → Option (DataW H × List MemPlace)} {gk : TypeId → Option (List CK)}
    (hg : ∀ t ks cs x, gk t = some ks → cs.length = ks.length → g t cs = some x → ∀ s, Value.string s ∈ cs → s.size ∈ x.1.weights P t) :
    ∀ (l : List (TypeId × Nat)) (n : Nat) (kr : List CK) (cs : List Value) (xs : List (DataW H × List MemPlace)), flatParts gk l n = some kr →
      (∀ p ∈ l, ∀ ks, gk p.1 = some ks → P.cellsOf p.1 = ks.length) → n + kr.length = cs.length →
      l.mapM (fun p => g p.1 ((cs.drop p.2).take (P.cellsOf p.1))) = some xs → ∀ s, Value.string s ∈ cs.drop n → s.size ∈ DataW.weightsEach P (l.map (·.1)) (xs.map (·.1))
  | [], n, kr, cs, xs, h1, _, h3, h4 => by
    simp only [flatParts, Option.some.injEq] at h1
    subst h1
    intro s hs
    have : cs.drop n = [] := by apply List.drop_eq_nil_of_le; simp at h3; omega
    rw [this] at hs; cases hs
  | (t, o) :: l, n, kr, cs, xs, h1, h2, h3, h4 => by
    simp only [flatParts] at h1
    split at h1
    · rename_i hn
      subst hn
      simp only [Option.bind_eq_some_iff, Option.map_eq_some_iff] at h1
      obtain ⟨k1, hk1, k2, hk2, rfl⟩ := h1
      have hc := h2 (t, o) (List.mem_cons_self ..) _ hk1
      simp only at hc
      simp only [List.mapM_cons, Option.bind_eq_bind, Option.bind_eq_some_iff, Option.pure_def, Option.some.injEq] at h4
      obtain ⟨x, hx, ys, hys, rfl⟩ := h4
      rw [hc] at hx
      simp only [List.length_append] at h3
      have f1 := hg t k1 _ x hk1 (by simp; omega) hx
      have f3 := parts_weigh hg l (o + k1.length) k2 cs ys hk2 (fun p hp => h2 p (List.mem_cons_of_mem _ hp)) (by omega) hys
      intro s hs
      rw [← List.take_append_drop k1.length (cs.drop o), List.drop_drop] at hs
      simp only [List.map_cons, DataW.weightsEach, List.mem_append]
      rcases List.mem_append.1 hs with hs | hs
      · exact .inl (f1 s hs)
      · exact .inr (f3 s hs)
    · cases h1
theorem weightsAll_each (e : TypeId) : ∀ (ds : List (DataW H)) (ts : List TypeId), (∀ t ∈ ts, t = e) → ∀ n ∈ DataW.weightsEach P ts ds, n ∈ DataW.weightsAll P e ds
  | [], ts, _, n, h => by cases ts <;> simp [DataW.weightsEach] at h
  | d :: ds, [], _, n, h => by simp [DataW.weightsEach] at h
  | d :: ds, t :: ts, ht, n, h => by
    simp only [DataW.weightsEach, List.mem_append] at h
    simp only [DataW.weightsAll, List.mem_append]
    rcases h with h | h
    · rw [ht t (List.mem_cons_self ..)] at h; exact .inl h
    · exact .inr (weightsAll_each e ds ts (fun u hu => ht u (List.mem_cons_of_mem _ hu)) n h)
theorem trod_weigh : ∀ (d : Nat) (t : TypeId) (ks : List CK) (fuel : Nat) (cs : List Value) (x : DataW H × List MemPlace), flat P d t = some ks → cs.length = ks.length →
    DataW.trod enc P W base spare held fuel t cs = some x → ∀ s, Value.string s ∈ cs → s.size ∈ x.1.weights P t
  | 0, _, _, _, _, _, h, _, _ => by cases h
  | d + 1, t, ks, 0, _, _, _, _, h => by simp [DataW.trod] at h
  | d + 1, t, ks, fuel + 1, cs, x, h, hl, hx => by
    obtain ⟨h0, hs⟩ := flat_succ h
    have hsz : ∀ (l : List (TypeId × Nat)), ∀ p ∈ l, ∀ ks, flat P d p.1 = some ks → P.cellsOf p.1 = ks.length := fun l p _ ks hk => by
      cases d with
      | zero => cases hk
      | succ d => exact cellsOf_of_size (flat_succ hk).2
    unfold flat0 at h0
    cases hu : P.underlying t with
    | none => rw [hu] at h0; cases h0
    | some dd =>
      rw [hu] at h0
      cases dd <;> simp only [Option.some.injEq, reduceCtorEq] at h0
      case bool =>
        subst h0
        obtain ⟨v, rfl⟩ : ∃ v, cs = [v] := List.length_eq_one_iff.1 hl
        unfold DataW.trod at hx
        rw [hu] at hx
        cases v <;> simp only [Option.some.injEq, reduceCtorEq] at hx
        intro s hs; simp at hs
      case int k =>
        subst h0
        obtain ⟨v, rfl⟩ : ∃ v, cs = [v] := List.length_eq_one_iff.1 hl
        unfold DataW.trod at hx
        rw [hu] at hx
        cases v <;> simp only [Option.some.injEq, reduceCtorEq] at hx
        intro s hs; simp at hs
      case string =>
        subst h0
        obtain ⟨v, rfl⟩ : ∃ v, cs = [v] := List.length_eq_one_iff.1 hl
        unfold DataW.trod at hx
        rw [hu] at hx
        cases v <;> simp only [Option.some.injEq, reduceCtorEq] at hx
        split at hx
        · rename_i hk
          cases hx
          intro s hs
          simp only [List.mem_singleton, Value.string.injEq] at hs
          subst hs
          simp only [DataW.weights, List.mem_singleton]
          exact Array.length_toList.symm
        · cases hx
      case struct fs =>
        split at h0
        · cases h0
        · rw [DataW.trod.eq_10 _ _ _ _ _ _ _ _ _ _ hu] at hx
          split at hx
          · simp only [Option.map_eq_some_iff] at hx
            obtain ⟨xs, hxs, rfl⟩ := hx
            have hm : (fs.toList.map fun f => (f.type, f.offset)).mapM (fun p : TypeId × Nat => DataW.trod enc P W base spare held fuel p.1 ((cs.drop p.2).take (P.cellsOf p.1))) = some xs := by
              rw [List.mapM_map]; exact hxs
            have := parts_weigh (P := P) (fun t ks cs x h1 h2 h3 => trod_weigh d t ks fuel cs x h1 h2 h3) _ 0 ks cs xs h0 (hsz _) (by omega) hm
            intro s hs
            have h2 := this s (by simpa using hs)
            simp only [DataW.weights, hu]
            rw [List.map_map] at h2
            exact h2
          · cases hx
      case array n e =>
        split at h0
        · cases h0
        · rw [DataW.trod.eq_11 _ _ _ _ _ _ _ _ _ _ _ hu] at hx
          split at hx
          · simp only [Option.map_eq_some_iff] at hx
            obtain ⟨xs, hxs, rfl⟩ := hx
            have hm : ((List.range n).map fun i => (e, i * P.cellsOf e)).mapM (fun p : TypeId × Nat => DataW.trod enc P W base spare held fuel p.1 ((cs.drop p.2).take (P.cellsOf p.1))) = some xs := by
              rw [List.mapM_map]; exact hxs
            have := parts_weigh (P := P) (fun t ks cs x h1 h2 h3 => trod_weigh d t ks fuel cs x h1 h2 h3) _ 0 ks cs xs h0 (hsz _) (by omega) hm
            intro s hs
            have h2 := this s (by simpa using hs)
            simp only [DataW.weights, hu]
            refine weightsAll_each e _ _ (fun u hu => ?_) _ h2
            simp only [List.map_map, List.mem_map] at hu
            obtain ⟨i, _, rfl⟩ := hu
            rfl
          · cases hx

/-- A struct of plain cells, its texts weighed. -/
theorem open_flatW {d : Nat} {t : TypeId} {ks : List CK} {v : Value} {r : Reach} {b0 : Nat} {dd : DataW H} {ps : List MemPlace} (h : flat P d t = some ks) (ha : isAggB P t = true)
    (hok : Value.okWide P W r b0 t v) (ht : DataW.Trod enc P W base spare held t v dd ps) : ∃ cs : Array Value, v = .agg cs ∧ Fits ks cs.toList ∧ ps = [] ∧ ∀ s, Value.string s ∈ cs.toList → s.size ∈ dd.weights P t := by
  obtain ⟨cs, rfl, hf, rfl⟩ := open_flat h ha hok ht
  obtain ⟨fuel, hx⟩ := ht
  refine ⟨cs, rfl, hf, rfl, ?_⟩
  have := trod_weigh d t ks fuel cs.toList _ h (by
    have := hf.arr_size
    rwa [← Array.length_toList] at this) (by simpa [Value.cells] using hx)
  exact this

theorem cells_spot {a : Addr} (h : a.spot = none) (i : Nat) : a.add i = ⟨a.block, a.off + i, none⟩ := by
  obtain ⟨b, o, s⟩ := a
  subst h
  unfold Addr.add
  split
  · rename_i h; subst h; rfl
  · rfl
/-- A slice of structs of plain cells. -/
theorem open_rows {d : Nat} {t e : TypeId} {ks : List CK} {v : Value} {r : Reach} {b0 : Nat} {dd : DataW H} {ps : List MemPlace} (hu : P.underlying t = some (.slice e)) (h : flat P (d + 1) e = some ks)
    (hok : Value.okWide P W r b0 t v) (ht : DataW.Trod enc P W base spare held t v dd ps) :
    v = .slice none 0 0 ∨ ∃ (b off len cap m : Nat) (C : Nat → List Value), v = .slice (some ⟨b, off, none⟩) len cap ∧ b < W.heap.size ∧ len ≤ m ∧ m * P.bytesOf e ∈ dd.weights P t ∧
      ∀ i, i < len → W.rangeAt b (off + i * ks.length) (C i) ∧ Fits ks (C i) ∧ ∀ s, Value.string s ∈ C i → s.size ∈ dd.weights P t := by
  obtain ⟨fuel, hx⟩ := ht
  have hce : P.cellsOf e = ks.length := cellsOf_of_size (flat_succ h).2
  have hv1 : v.cells.toList = [v] ∨ ∃ cs, v = .agg cs := by cases v <;> first | exact .inl rfl | exact .inr ⟨_, rfl⟩
  have hok1 : Cell.ok P W r b0 t v := by
    unfold Value.okWide at hok
    rw [hu] at hok
    dsimp only at hok
    unfold Cell.okWide at hok
    rw [hu] at hok
    exact hok
  have hv : v.cells.toList = [v] := by
    rcases hv1 with h1 | ⟨cs, rfl⟩
    · exact h1
    · unfold Cell.ok at hok1; rw [hu] at hok1; exact hok1.elim
  rw [hv] at hx
  rcases Go.Deep.open_slice hu hx with ⟨h1, _⟩ | ⟨a, len, cap, m, n, D, Pl, h1, hb, hl, hm, hmm, hD, hel⟩
  · left; simpa using h1
  right
  obtain rfl : v = .slice (some a) len cap := by simpa using h1
  unfold Cell.ok at hok1
  rw [hu] at hok1
  obtain ⟨_, _, _, hspot, row, cells, hsh, _⟩ := hok1
  have hlt : a.block < W.heap.size := by
    unfold World.shape? at hsh
    split at hsh
    · rename_i o _ _ ho
      exact (Array.getElem?_eq_some_iff.1 ho).1
    · cases hsh
  have hlm : len ≤ m := by rw [hmm]; split <;> omega
  have each : ∀ i, i < m → ∃ cs', W.rangeAt a.block (a.off + i * ks.length) cs' ∧ Fits ks cs' ∧ ∀ s, Value.string s ∈ cs' → s.size ∈ (D i).weights P e := fun i hi => by
    obtain ⟨cs', e1, e2⟩ := hel i hi
    rw [hce] at e1
    obtain ⟨_, hlen, hcell⟩ := World.cells?_some e1
    obtain ⟨f1, _⟩ := trod_flat (d + 1) e ks n cs' _ h hlen e2
    refine ⟨cs', fun j u hj => ?_, f1, trod_weigh (d + 1) e ks n cs' _ h hlen e2⟩
    have hjl : j < ks.length := by rw [← hlen]; exact (List.getElem?_eq_some_iff.1 hj).1
    have := hcell j hjl
    rw [hj] at this
    rw [cells_spot hspot (i * ks.length), cells_spot rfl j] at this
    exact this
  have wt : ∀ i, i < m → ∀ n ∈ (D i).weights P e, n ∈ dd.weights P t := fun i hi n hn => by
    have hdd : dd = DataW.slice ((List.range len).map D) ((List.range (m - len)).map fun j => D (len + j)) := (congrArg Prod.fst hD)
    rw [hdd]
    simp only [DataW.weights, hu, List.mem_cons, List.mem_append]
    have all : ∀ (l : List (DataW H)) (x : DataW H), x ∈ l → ∀ n ∈ x.weights P e, n ∈ DataW.weightsAll P e l := by
      intro l
      induction l with
      | nil => intro x hx; cases hx
      | cons y l ih =>
        intro x hx n hn
        simp only [DataW.weightsAll, List.mem_append]
        rcases List.mem_cons.1 hx with rfl | hx
        · exact .inl hn
        · exact .inr (ih x hx n hn)
    by_cases hil : i < len
    · exact .inr (.inl (all _ (D i) (List.mem_map.2 ⟨i, List.mem_range.2 hil, rfl⟩) n hn))
    · exact .inr (.inr (all _ (D i) (List.mem_map.2 ⟨i - len, List.mem_range.2 (by omega), by rw [show len + (i - len) = i by omega]⟩) n hn))
  refine ⟨a.block, a.off, len, cap, m, fun i => if hi : i < m then Classical.choose (each i hi) else [], ?_, hlt, hlm, ?_, fun i hi => ?_⟩
  · obtain ⟨b, o, s⟩ := a
    simp only at hspot
    subst hspot
    rfl
  · have hdd : dd = DataW.slice ((List.range len).map D) ((List.range (m - len)).map fun j => D (len + j)) := (congrArg Prod.fst hD)
    rw [hdd]
    simp only [DataW.weights, hu, List.length_map, List.length_range, List.mem_cons]
    exact .inl (by rw [show len + (m - len) = m by omega])
  · have hi' : i < m := by omega
    dsimp only
    rw [dif_pos hi']
    obtain ⟨f1, f2, f3⟩ := Classical.choose_spec (each i hi')
    exact ⟨f1, f2, fun s hs => wt i hi' _ (f3 s hs)⟩
end
end Go.Proofs.YtlpgandflkabcaaGreatDoor
