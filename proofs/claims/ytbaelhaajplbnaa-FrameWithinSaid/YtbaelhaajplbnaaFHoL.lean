/-
  slices.Clone of cells.
-/
import Derived.Test.YtbaelhaajplbnaaFHoK
import Derived.Laws.AppendOwn
import Derived.Lib.SliceRun
namespace Go.Proofs.Ytbaelhaajplbnaa
open Go Go.RowKit
set_option linter.unusedVariables false
set_option linter.unusedSimpArgs false

/-- Cells as they lie. -/
def cellVs (l : List CellD) : List Value := l.flatMap fun c => [.int .u64 (c.pos : Nat), .int .u64 (c.word : Nat)]
theorem cellVs_len : ∀ l : List CellD, (cellVs l).length = l.length * 2
  | [] => rfl
  | c :: l => by
    have := cellVs_len l
    simp only [cellVs, List.flatMap_cons, List.length_append, List.length_cons, List.length_nil] at this ⊢
    omega
theorem cellVs_at : ∀ (l : List CellD) (i : Nat) (hi : i < l.length), (cellVs l)[i * 2]? = some (.int .u64 (l[i].pos : Nat)) ∧ (cellVs l)[i * 2 + 1]? = some (.int .u64 (l[i].word : Nat))
  | c :: l, 0, _ => ⟨rfl, rfl⟩
  | c :: l, i + 1, hi => by
    have ih := cellVs_at l i (by simpa using hi)
    have e : ∀ k, (cellVs (c :: l))[k + 2]? = (cellVs l)[k]? := fun k => rfl
    rw [show (i + 1) * 2 = i * 2 + 2 by omega, e, show i * 2 + 2 + 1 = i * 2 + 1 + 2 by omega, e]
    exact ih
theorem cellVs_one (l : List CellD) : ∀ u ∈ cellVs l, u.oneCell' = true := by
  intro u hu
  simp only [cellVs, List.mem_flatMap] at hu
  obtain ⟨c, _, hu⟩ := hu
  rcases List.mem_cons.1 hu with rfl | hu
  · rfl
  · rcases List.mem_cons.1 hu with rfl | hu
    · rfl
    · cases hu
theorem cellVs_row {w : World} {b off : Nat} {l : List CellD} (h : Row2 (fun c : CellD => .int .u64 (c.pos : Nat)) (fun c => .int .u64 (c.word : Nat)) w b off l) : ∀ j u, (cellVs l)[j]? = some u → w.cell? ⟨b, off + j, none⟩ = some u := by
  intro j u hj
  have hl : j < l.length * 2 := by rw [← cellVs_len]; exact (List.getElem?_eq_some_iff.1 hj).1
  obtain ⟨i, hi⟩ : ∃ i, i = j / 2 := ⟨_, rfl⟩
  have hil : i < l.length := by omega
  rcases Nat.mod_two_eq_zero_or_one j with h0 | h0
  · obtain rfl : j = i * 2 := by omega
    rw [(cellVs_at l i hil).1] at hj
    rw [← hj]; exact h.fst i hil
  · obtain rfl : j = i * 2 + 1 := by omega
    rw [(cellVs_at l i hil).2] at hj
    rw [← hj]; exact h.snd i hil
theorem cell_info : (Try.prog.info? 85).map (fun i => (i.zero, i.size, i.bytes)) = some (some (.agg #[.int .u64 0, .int .u64 0]), 2, 16) := by kernel_rfl
set_option maxHeartbeats 2000000 in
set_option maxRecDepth 100000 in
theorem clone_any (cs : List CellD) (hlen : cs.length ≤ 1000000) (v : Value) (w : World) (h : CellsV w v cs) :
    Calls Try.prog 58 #[v] w fun e w' => ∃ v', e = .returned v' ∧ w'.ownsRow w.heap.size 85 2 v' cs.length (cellVs cs) ∧ Below w.heap.size w w' := by
  obtain ⟨p, c, rfl, h⟩ := h
  have q22 : ∀ (w : World) (a : Option Addr) (n c n' c' : Nat), (binOp .eql 27 (.slice a n c) (.slice none n' c')).run Try.prog w = .ok (.bool a.isNone) w := fun w a n c n' c' => Lib.run_eql_slice_nil w _ _ a n c n' c' Try.underlying27
  obtain ⟨i0, hi, hz0, hz1, hz2⟩ := info_parts cell_info
  cases p with
  | none =>
    have h0 : cs = [] := Classical.byContradiction fun hn => by
      obtain ⟨b, off, hp, _⟩ := h hn
      cases hp
    subst h0
    clear h hi hz0 hz1 hz2
    go_enter Try.func58, Try.ntmps58
    go_wp2
    go_ret
    exact ⟨_, rfl, World.ownsRow_nil _ _ _ _, Below.refl _ _⟩
  | some a =>
    obtain ⟨b, off, hsp⟩ : ∃ b off, cs ≠ [] → a = ⟨b, off, none⟩ ∧ Row2 (fun c : CellD => .int .u64 (c.pos : Nat)) (fun c => .int .u64 (c.word : Nat)) w b off cs := by
      by_cases hn : cs = []
      · exact ⟨0, 0, fun h => absurd hn h⟩
      · obtain ⟨b, off, hp, hr⟩ := h hn
        cases hp
        exact ⟨b, off, fun _ => ⟨rfl, hr⟩⟩
    have A : Hid (∀ W, Below w.heap.size w W → ∀ j u, (cellVs cs)[j]? = some u → W.cell? (a.add j) = some u) := Lib.hid (fun W hW j u hj => by
      have hn : cs ≠ [] := fun e => by subst e; simp [cellVs] at hj
      obtain ⟨rfl, hr⟩ := hsp hn
      rw [Addr.add_lit]
      exact cellVs_row (hr.below hW) j u hj)
    have HL := Lib.hid hlen
    clear h hsp
    go_enter Try.func58, Try.ntmps58
    go_wp2_with (at_builtin; refine wpList_append_own _ rfl _ _ 27 rfl w.heap.size 85 i0 _ 2 16 Try.underlying27 hi hz0 hz1 hz2 rfl (by omega) _ _ _ rfl (World.ownsRow_made w #[] 0 (Nat.le_refl _) (Nat.zero_le _) (by simp)) a cs.length c (cellVs cs) rfl ?qc1 ?qc2 ?qc3 ?qc4 ?qc5 ?qc6 ?_)
    case qc1 => exact cellVs_len cs
    case qc2 => exact A.out _ ((Below.refl _ _).alloc (Nat.le_refl _) _)
    case qc3 => exact cellVs_one cs
    case qc4 => rw [Nat.zero_add]; exact Nat.le_trans HL.out (by unfold maxLen; omega)
    case qc5 => rw [Nat.zero_add]; have := HL.out; omega
    case qc6 => simp
    intro v' w1 hown hgrow hnil
    go_wp2
    go_ret
    refine ⟨v', rfl, by simpa using hown, ?_⟩
    exact ((Below.refl _ w).alloc (Nat.le_refl _) _).grown hgrow (by simp) (by intro k hk; simp [Value.ownBlock] at hk; omega)
end Go.Proofs.Ytbaelhaajplbnaa
