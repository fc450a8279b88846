/-
  Nodes that the call owns: a copy, one more.
-/
import Derived.Test.YtlpgandflkabcaaGreatDoorFTrL
import Derived.Test.YtlpgandflkabcaaGreatDoorFSlInsN
import Derived.Laws.AppendOwn
import Derived.Lib.SliceRun
namespace Go.Proofs.YtlpgandflkabcaaGreatDoor
open Go Go.RowKit Go.Shelf
set_option linter.unusedVariables false
set_option linter.unusedSimpArgs false

def nodeVs (l : List NodeD) : List Value := l.flatMap fun x => (nodeV x).toList
theorem nodeVs_cons (x : NodeD) (l : List NodeD) : nodeVs (x :: l) = .string (mkB x.path) :: .bool x.dir :: .string (mkB x.data) :: .int .i64 x.id :: nodeVs l := rfl
theorem nodeVs_len : ∀ l : List NodeD, (nodeVs l).length = l.length * 4
  | [] => rfl
  | c :: l => by
    have := nodeVs_len l
    rw [nodeVs_cons]
    simp only [List.length_cons]
    omega
theorem nodeVs_at : ∀ (l : List NodeD) (i : Nat) (hi : i < l.length), (nodeVs l)[i * 4]? = some (.string (mkB l[i].path)) ∧ (nodeVs l)[i * 4 + 1]? = some (.bool l[i].dir) ∧ (nodeVs l)[i * 4 + 2]? = some (.string (mkB l[i].data)) ∧ (nodeVs l)[i * 4 + 3]? = some (.int .i64 l[i].id)
  | c :: l, 0, _ => ⟨rfl, rfl, rfl, rfl⟩
  | c :: l, i + 1, hi => by
    have ih := nodeVs_at l i (by simpa using hi)
    have e : ∀ k, (nodeVs (c :: l))[k + 4]? = (nodeVs l)[k]? := fun k => rfl
    rw [show (i + 1) * 4 = i * 4 + 4 by omega, e, show i * 4 + 4 + 1 = i * 4 + 1 + 4 by omega, e, show i * 4 + 4 + 2 = i * 4 + 2 + 4 by omega, e, show i * 4 + 4 + 3 = i * 4 + 3 + 4 by omega, e]
    exact ih
theorem nodeVs_one (l : List NodeD) : ∀ u ∈ nodeVs l, u.oneCell' = true := by
  intro u hu
  simp only [nodeVs, List.mem_flatMap] at hu
  obtain ⟨c, _, hu⟩ := hu
  simp only [List.mem_cons, List.not_mem_nil, or_false] at hu
  rcases hu with rfl | rfl | rfl | rfl <;> rfl
theorem nodeVs_row {w : World} {b off : Nat} {l : List NodeD} (h : RowN w b off l) : ∀ j u, (nodeVs l)[j]? = some u → w.cell? ⟨b, off + j, none⟩ = some u := by
  intro j u hj
  have hl : j < l.length * 4 := by rw [← nodeVs_len]; exact (List.getElem?_eq_some_iff.1 hj).1
  obtain ⟨i, hi⟩ : ∃ i, i = j / 4 := ⟨_, rfl⟩
  have hil : i < l.length := by omega
  have A := nodeVs_at l i hil
  rcases (show j = i * 4 ∨ j = i * 4 + 1 ∨ j = i * 4 + 2 ∨ j = i * 4 + 3 by omega) with rfl | rfl | rfl | rfl
  · rw [A.1] at hj; rw [← hj]; exact h.c0 i hil
  · rw [A.2.1] at hj; rw [← hj]; exact h.c1 i hil
  · rw [A.2.2.1] at hj; rw [← hj]; exact h.c2 i hil
  · rw [A.2.2.2] at hj; rw [← hj]; exact h.c3 i hil
theorem nodeVs_take (l : List NodeD) : ∀ k, nodeVs (l.take k) = (nodeVs l).take (k * 4) := by
  induction l with
  | nil => intro k; simp [nodeVs]
  | cons x l ih =>
    intro k
    cases k with
    | zero => rfl
    | succ k => rw [List.take_succ_cons, nodeVs_cons, nodeVs_cons, ih, show (k + 1) * 4 = k * 4 + 1 + 1 + 1 + 1 by omega]; rfl
theorem nodeVs_drop (l : List NodeD) : ∀ k, nodeVs (l.drop k) = (nodeVs l).drop (k * 4) := by
  induction l with
  | nil => intro k; simp [nodeVs]
  | cons x l ih =>
    intro k
    cases k with
    | zero => rfl
    | succ k => rw [List.drop_succ_cons, nodeVs_cons, ih, show (k + 1) * 4 = k * 4 + 1 + 1 + 1 + 1 by omega]; rfl
theorem nodesV_of_own {w : World} {B : Nat} {v : Value} {l : List NodeD} (h : w.ownsRow B 28 4 v l.length (nodeVs l)) : NodesV w v l := by
  obtain ⟨h1, h2⟩ := h
  rcases h2 with ⟨rfl, h3⟩ | ⟨g, cap, cur, rfl, hg, hc, hn, hcap, hsz, ht⟩
  · exact ⟨none, 0, by rw [h3], fun hn => absurd (List.length_eq_zero_iff.1 h3) hn⟩
  · have key : ∀ j u, (nodeVs l)[j]? = some u → w.cell? ⟨g, j, none⟩ = some u := fun j u hj => by
      refine cell_at hc ?_
      rw [← ht, List.getElem?_take] at hj
      split at hj
      · simpa using hj
      · cases hj
    refine ⟨some ⟨g, 0, none⟩, cap, rfl, fun _ => ⟨g, 0, rfl, heap_lt hc, fun i hi => ?_, fun i hi => ?_, fun i hi => ?_, fun i hi => ?_⟩⟩
    · rw [Nat.zero_add]; exact key _ _ (nodeVs_at l i hi).1
    · rw [Nat.zero_add]; exact key _ _ (nodeVs_at l i hi).2.1
    · rw [Nat.zero_add]; exact key _ _ (nodeVs_at l i hi).2.2.1
    · rw [Nat.zero_add]; exact key _ _ (nodeVs_at l i hi).2.2.2
set_option maxHeartbeats 2000000 in
set_option maxRecDepth 100000 in
theorem cloneN_any (ns : List NodeD) (hlen : ns.length ≤ 1000000) (v : Value) (w : World) (h : NodesV w v ns) :
    Calls Tryz.prog 45 #[v] w fun e w' => ∃ v', e = .returned v' ∧ w'.ownsRow w.heap.size 28 4 v' ns.length (nodeVs ns) ∧ Below w.heap.size w w' := by
  obtain ⟨p, c, rfl, h⟩ := h
  have q22 : ∀ (w : World) (a : Option Addr) (n c n' c' : Nat), (binOp .eql 22 (.slice a n c) (.slice none n' c')).run Tryz.prog w = .ok (.bool a.isNone) w := fun w a n c n' c' => Lib.run_eql_slice_nil w _ _ a n c n' c' Tryz.underlying22
  obtain ⟨i0, hi, hz0, hz1, hz2⟩ := info_parts infoN
  cases p with
  | none =>
    have h0 : ns = [] := Classical.byContradiction fun hn => by
      obtain ⟨b, off, hp, _⟩ := h hn
      cases hp
    subst h0
    clear h hi hz0 hz1 hz2
    go_enter Tryz.func45, Tryz.ntmps45
    go_wp2
    go_ret
    exact ⟨_, rfl, World.ownsRow_nil _ _ _ _, Below.refl _ _⟩
  | some a =>
    obtain ⟨b, off, hsp⟩ : ∃ b off, ns ≠ [] → a = ⟨b, off, none⟩ ∧ RowN w b off ns := by
      by_cases hn : ns = []
      · exact ⟨0, 0, fun h => absurd hn h⟩
      · obtain ⟨b, off, hp, hr⟩ := h hn
        cases hp
        exact ⟨b, off, fun _ => ⟨rfl, hr⟩⟩
    have A : Hid (∀ W, Below w.heap.size w W → ∀ j u, (nodeVs ns)[j]? = some u → W.cell? (a.add j) = some u) := Lib.hid (fun W hW j u hj => by
      have hn : ns ≠ [] := fun e => by subst e; simp [nodeVs] at hj
      obtain ⟨rfl, hr⟩ := hsp hn
      rw [Addr.add_lit]
      exact nodeVs_row (hr.below hW) j u hj)
    have HL := Lib.hid hlen
    clear h hsp
    go_enter Tryz.func45, Tryz.ntmps45
    go_wp2_with (at_builtin; refine wpList_append_own _ rfl _ _ 22 rfl w.heap.size 28 i0 _ 4 48 Tryz.underlying22 hi hz0 hz1 hz2 rfl (by omega) _ _ _ rfl (World.ownsRow_made w #[] 0 (Nat.le_refl _) (Nat.zero_le _) (by simp)) a ns.length c (nodeVs ns) rfl ?qc1 ?qc2 ?qc3 ?qc4 ?qc5 ?qc6 ?_)
    case qc1 => exact nodeVs_len ns
    case qc2 => exact A.out _ ((Below.refl _ _).alloc (Nat.le_refl _) _)
    case qc3 => exact nodeVs_one ns
    case qc4 => rw [Nat.zero_add]; exact Nat.le_trans HL.out (by unfold maxLen; omega)
    case qc5 => rw [Nat.zero_add]; have := HL.out; omega
    case qc6 => simp
    intro v' w1 hown hgrow hnil
    go_wp2
    go_ret
    refine ⟨v', rfl, by simpa using hown, ?_⟩
    exact ((Below.refl _ w).alloc (Nat.le_refl _) _).grown hgrow (by simp) (by intro k hk; simp [Value.ownBlock] at hk; omega)

/-- One node more, where it belongs. -/
def withN (ns : List NodeD) (x : NodeD) : List NodeD := ns.take (lowS ns x.path) ++ x :: ns.drop (lowS ns x.path)
theorem withN_len (ns : List NodeD) (x : NodeD) : (withN ns x).length = ns.length + 1 := by
  have := lowS_le (l := ns) (x := x.path)
  simp only [withN, List.length_append, List.length_take, List.length_cons, List.length_drop]
  omega
theorem withN_vs (ns : List NodeD) (x : NodeD) : nodeVs (withN ns x) = (nodeVs ns).take (lowS ns x.path * 4) ++ (nodeV x).toList ++ (nodeVs ns).drop (lowS ns x.path * 4) := by
  rw [← nodeVs_take, ← nodeVs_drop]
  simp [nodeVs, withN]
end Go.Proofs.YtlpgandflkabcaaGreatDoor
