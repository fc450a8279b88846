/-
  A path from the root on, by the program.
-/
import Derived.Test.YtlpgandflkabcaaGreatDoorFTrG
namespace Go.Proofs.YtlpgandflkabcaaGreatDoor
open Go Go.RowKit Go.Shelf
set_option linter.unusedVariables false
set_option linter.unusedSimpArgs false
attribute [local go_sem] Oper.semAt_some

theorem foldN_snoc : ∀ (ps l : List (List UInt8)) (p : List UInt8), foldN l (ps ++ [p]) = match foldN l ps with | .bad e => .bad e | .ok l' => stepN l' p
  | [], l, p => by
    show (match stepN l p with | .bad e => NormR.bad e | .ok l' => foldN l' []) = stepN l p
    cases stepN l p <;> rfl
  | q :: ps, l, p => by
    show (match stepN l q with | .bad e => NormR.bad e | .ok l' => foldN l' (ps ++ [p])) = match (match stepN l q with | .bad e => NormR.bad e | .ok l' => foldN l' ps) with | .bad e => .bad e | .ok l' => stepN l' p
    cases stepN l q with
    | bad e => rfl
    | ok l' => exact foldN_snoc ps l' p
theorem foldN_more {e : Int} : ∀ {qs ps l : List (List UInt8)}, foldN l ps = .bad e → foldN l (ps ++ qs) = .bad e
  | [], ps, l, h => by rw [List.append_nil]; exact h
  | q :: qs, ps, l, h => by
    rw [show ps ++ q :: qs = (ps ++ [q]) ++ qs by simp]
    exact foldN_more (by rw [foldN_snoc, h])
def okL (st ps : List (List UInt8)) : List (List UInt8) := match foldN st ps with | .ok l => l | .bad _ => []
def erL (st ps : List (List UInt8)) : Int := match foldN st ps with | .ok _ => 0 | .bad e => e
def isOk (st ps : List (List UInt8)) : Prop := foldN st ps = .ok (okL st ps)
def isBad (st ps : List (List UInt8)) : Prop := foldN st ps = .bad (erL st ps)
theorem okL_of {st ps l : List (List UInt8)} (h : foldN st ps = .ok l) : okL st ps = l ∧ isOk st ps := by
  have : okL st ps = l := by unfold okL; rw [h]
  exact ⟨this, by unfold isOk; rw [h, this]⟩
theorem erL_of {st ps : List (List UInt8)} {e : Int} (h : foldN st ps = .bad e) : erL st ps = e ∧ isBad st ps := by
  have : erL st ps = e := by unfold erL; rw [h]
  exact ⟨this, by unfold isBad; rw [h, this]⟩

theorem KeepsP.set {W : World} {c : Nat} {t : TypeId} {v v' : Value} (hv : Boxed W c t v) (hfr : ∀ g, v'.ownBlock = some g → v.ownBlock = some g) : KeepsP c t W (W.setCell ⟨c, 0, none⟩ v') := by
  rintro k ⟨⟨r, e, fr, hr⟩, hb, hown⟩
  have e1 : (W.setCell ⟨c, 0, none⟩ v').heap[k]? = W.heap[k]? := heap_set_ne _ _ _ _ _ hb
  exact ⟨e1, ⟨r, e, fr, e1.trans hr⟩, hb, fun u hu e' => by rw [Boxed.one hu (hv.set v')] at e'; exact hown v hv (hfr k e')⟩
theorem KeepsP.below {W W' : World} {c : Nat} {t : TypeId} (h : Below W.heap.size W W') (hc : c < W.heap.size) : KeepsP c t W W' := by
  rintro k ⟨⟨r, e, fr, hr⟩, hb, hown⟩
  have e1 : W'.heap[k]? = W.heap[k]? := h.block k (heap_lt hr)
  exact ⟨e1, ⟨r, e, fr, e1.trans hr⟩, hb, fun u hu e' => hown u ((h.block c hc).symm.trans hu) e'⟩
theorem run_var_int {P : Program} {T : TypeId} {k : IntKind} {w : World} {b : Nat} {v : Value} (hu : P.underlying T = some (.int k)) (hc : w.cell? ⟨b, 0, none⟩ = some v) : (loadVar T ⟨b, 0, none⟩).run P w = .ok v w := by
  simp [loadVar, isAgg, underlying, hu, run_load, hc]
theorem run_var_str {P : Program} {T : TypeId} {w : World} {b : Nat} {v : Value} (hu : P.underlying T = some .string) (hc : w.cell? ⟨b, 0, none⟩ = some v) : (loadVar T ⟨b, 0, none⟩).run P w = .ok v w := by
  simp [loadVar, isAgg, underlying, hu, run_load, hc]
theorem res_two {P : Program} {fn : Func} {w : World} {tmps : Array Value} {p q : Tmp} {ty tz : TypeId} (h : fn.results = #[.cell p ty, .cell q tz]) {b d : Nat} {v u : Value}
    (hp : tmps.getD p undef = .pointer (some ⟨b, 0, none⟩)) (hv : (loadVar ty ⟨b, 0, none⟩).run P w = .ok v w) (hq : tmps.getD q undef = .pointer (some ⟨d, 0, none⟩)) (hu : (loadVar tz ⟨d, 0, none⟩).run P w = .ok u w) :
    (results fn tmps).run P w = .ok (.tuple #[v, u]) w := by
  have hp' : tmps[p]?.getD undef = .pointer (some ⟨b, 0, none⟩) := by simpa using hp
  have hq' : tmps[q]?.getD undef = .pointer (some ⟨d, 0, none⟩) := by simpa using hq
  simp [results, h, hp', hq', asAddr, hv, hu]
set_option maxHeartbeats 2000000 in
set_option maxRecDepth 100000 in
theorem norm_short (cwd path : List UInt8) (w : World) (h : path = [] ∨ 255 < path.length) (hs : path.length ≤ 1000000) :
    Calls Tryz.prog 22 #[.string (mkB cwd), .string (mkB path)] w fun e w' => e = .returned (.tuple #[.string (mkB (normN cwd path).2), .int .i64 (normN cwd path).1]) ∧ Below w.heap.size w w' := by
  have hsz := mkB_size path
  have HL : Hid ((mkB path).toList = path) := Lib.hid (mkB_toList path)
  have hlen : (path.length : Int) ≤ 1000000 := by omega
  have b0 := Boxed.new w 9 (.string ⟨#[]⟩)
  by_cases h0 : (mkB path).toList = []
  · have HR : Hid (normN cwd path = (2, [])) := Lib.hid (by rw [HL.out] at h0; subst h0; rfl)
    have e0 : (mkB path).toList.isEmpty = true := by simpa using h0
    clear hs h
    go_enter Tryz.func22, Tryz.ntmps22
    go_wp2
    refine bodyPost_ret (res_two rfl rfl (run_var_str Tryz.underlying9 (cell_at ((heap_old _ _ _ (by simp only [heap_len]; omega)).trans (heap_new _ _ _ rfl)) rfl)) rfl (run_var_int Tryz.underlying29 (cell_at (heap_new _ _ _ (by simp only [heap_len])) rfl))) rfl ?_
    exact ⟨by rw [HR.out]; rfl, ((Below.refl _ _).alloc (Nat.le_refl _) _).alloc (by simp only [heap_len]; omega) _⟩
  · have e0 : (mkB path).toList.isEmpty = false := by simpa using h0
    have h2 : 255 < path.length := by
      rcases h with h | h
      · exact absurd (by rw [HL.out]; exact h) h0
      · exact h
    have i2 : (255 : Int) < path.length := by omega
    have HR : Hid (normN cwd path = (36, [])) := Lib.hid (by rw [HL.out] at h0; rw [normN, if_neg h0, if_pos h2])
    clear hs h h2
    go_enter Tryz.func22, Tryz.ntmps22
    go_wp2
    refine bodyPost_ret (res_two rfl rfl (run_var_str Tryz.underlying9 (cell_at ((heap_old _ _ _ (by simp only [heap_len]; omega)).trans (heap_new _ _ _ rfl)) rfl)) rfl (run_var_int Tryz.underlying29 (cell_at (heap_new _ _ _ (by simp only [heap_len])) rfl))) rfl ?_
    exact ⟨by rw [HR.out]; rfl, ((Below.refl _ _).alloc (Nat.le_refl _) _).alloc (by simp only [heap_len]; omega) _⟩

/-! ### Joined -/
theorem lib_join : ∀ (l : List (List UInt8)), 47 :: Lib.join l [47] = rootL l
  | [] => rfl
  | [p] => by rw [Lib.join_one, rootL_of (by simp)]; simp [joinL]
  | p :: q :: l => by
    have ih := lib_join (q :: l)
    rw [rootL_of (by simp)] at ih ⊢
    rw [joinL_cons, ← ih]
    rfl
theorem join_any (B : Nat) (l : List (List UInt8)) (v : Value) (W : World) (hown : W.ownsRow B 9 1 v l.length (strVs l)) (hlen : (rootL l).length ≤ 1000000000) (hl : l.length ≤ 1000000000) :
    Calls Tryz.prog 50 #[v, .string ⟨#[47]⟩] W fun e w' => e = .returned (.string (mkB (Lib.join l [47]))) ∧ Below W.heap.size W w' := by
  rcases hown.2 with ⟨rfl, h0⟩ | ⟨g, cap, cur, rfl, hB, hg, hnc, hcm, hsz, ht⟩
  · obtain rfl : l = [] := List.length_eq_zero_iff.1 h0
    exact (Any.strings_Join_none (P := Tryz.prog) (ρ := Tryz.lays156_ren) Tryz.lays156 Tryz.Builder_Extra_156 none 0 ⟨#[47]⟩ W).mono fun e w' h => ⟨h.1, h.2 ▸ Below.refl _ _⟩
  · have hj : (Lib.join l [47]).length + 1 = (rootL l).length := by rw [← lib_join]; rfl
    have hm : (l.map mkB).map (·.data.toList) = l := by
      rw [List.map_map]
      exact List.map_id'' (fun p => rfl) l
    have := Tryz.strings_Join g 0 cap (l.map mkB) ⟨#[47]⟩ W (fun j x hx => by
      rw [Nat.zero_add]
      refine cell_at hg ?_
      rw [List.getElem?_map, Option.map_eq_some_iff] at hx
      obtain ⟨p, hp, rfl⟩ := hx
      have h1 : (strVs l)[j]? = some (.string (mkB p)) := by simp [strVs, hp]
      have hjl : j < l.length := (List.getElem?_eq_some_iff.1 hp).1
      rw [← ht, List.getElem?_take, if_pos (by omega)] at h1
      simpa using h1) (heap_lt hg) (by rw [List.length_map]; omega) (by rw [List.length_map]; exact hnc) (by rw [hm]; show (Lib.join l [47]).length ≤ _; omega)
    rw [List.length_map, hm] at this
    exact this
end Go.Proofs.YtlpgandflkabcaaGreatDoor
