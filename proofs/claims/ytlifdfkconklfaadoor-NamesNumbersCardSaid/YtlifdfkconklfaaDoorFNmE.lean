/-
  Names: which symbols can be, by the program and by the document.
-/
import Derived.Test.YtlifdfkconklfaaDoorFNmD
import Derived.Deep.MidRow
namespace Go.Proofs.YtlifdfkconklfaaDoor
open Go Go.RowKit
set_option linter.unusedVariables false
set_option linter.unusedSimpArgs false

theorem hidB {w0 w w' : World} (h : Hid (Below w0.heap.size w0 w)) (k : Below w.heap.size w w') : Hid (Below w0.heap.size w0 w') := Lib.hid (h.out.trans (k.mono h.out.size))
/-- A slice that reads as these symbols. -/
structure SymsAt (w : World) (b off : Nat) (l : List SymD) : Prop where
  lt : b < w.heap.size
  at_ : ∀ i (h : i < l.length), w.rangeAt b (off + i * 5) (symV l[i]).toList
def AllOk (l : List SymD) : Prop := ∀ s ∈ l, s.Ok
theorem SymsAt.below {w w' : World} {b off : Nat} {l : List SymD} (h : SymsAt w b off l) (hb : Below w.heap.size w w') : SymsAt w' b off l :=
  ⟨Nat.lt_of_lt_of_le h.lt hb.size, fun i hi j v hv => (hb.cell (p := ⟨b, off + i * 5 + j, none⟩) h.lt).trans (h.at_ i hi j v hv)⟩
section
variable {P : Program} {ops : Array Oper} {rest : List Oper} {Q : Exit → Act → World → Prop} {a : Act} {w : World}
/-- A struct out of the middle of a block. -/
theorem LoadGoal.mid {o : Oper} {T : TypeId} {x : Operand} (cs : Array Value) {b off : Nat} (hx : a.eval x = .pointer (some ⟨b, off, none⟩)) (hc : w.rangeAt b off cs.toList) {d : TypeDesc} (hu : P.underlying T = some d) (hd : d.isRow = true)
    (hi : (P.info? T).map (·.size) = some cs.size) (hg : o.guard = none) (h : wpList P ops Q rest (a.put o.dst (.agg cs)) w) : LoadGoal P ops Q rest o T x a w :=
  fun ho => wpList_load_mid hg T x ho b off hx cs.toList d hc hu hd (by rw [hi]; simp) (by simpa using h)
end
theorem sym_size (s : SymD) : (Tryd.prog.info? 39).map (·.size) = some (symV s).size := by
  show _ = some 5
  kernel_rfl
theorem fit1_any (s : SymD) (h : s.Ok) (w : World) :
    Calls Tryd.prog 32 #[.agg (symV s)] w fun e w' => e = .returned (.bool (!fitS s)) ∧ Below w.heap.size w w' := by
  have H := Lib.hid h; clear h
  go_enter Tryd.func32, Tryd.ntmps32
  go_upto_region 1 with fail
  obtain ⟨W, hW⟩ : ∃ W, W = w.alloc (.cells (symV s) 39) := ⟨_, rfl⟩
  have hB : Hid (Below w.heap.size w W) := Lib.hid (by rw [hW]; exact (Below.refl _ _).alloc (Nat.le_refl _) _)
  have hrow : Hid (W.heap[w.heap.size]? = some (.cells (symV s) 39)) := Lib.hid (by rw [hW]; exact heap_new _ _ _ rfl)
  rw [← hW]
  clear hW
  go_wp2_with (first
    | (refine wpl_load 39 ?_; refine LoadGoal.of (symV s) rfl hrow.out (by kernel_rfl) (sym_size s) rfl ?_)
    | (go_at_call 23; refine (fits_any s H.out _).mono ?_; rintro e w' ⟨rfl, hb⟩; replace hB := hidB hB hb; clear hb))
  go_ret
  exact ⟨rfl, hB.out⟩
/-- The place of the first that can't be; -1: all can. -/
def badAt : List SymD → Int
  | [] => -1
  | s :: l => if fitS s then (if badAt l = -1 then -1 else badAt l + 1) else 0
theorem badAt_cons (s : SymD) (l : List SymD) : badAt (s :: l) = if fitS s then (if badAt l = -1 then -1 else badAt l + 1) else 0 := rfl
theorem badAt_ge : ∀ m : List SymD, -1 ≤ badAt m
  | [] => by simp [badAt]
  | x :: m => by
    have := badAt_ge m
    rw [badAt_cons]
    split <;> first | omega | (split <;> omega)
theorem badAt_take (l : List SymD) : ∀ k, k ≤ l.length → (∀ j (h : j < k) (h' : j < l.length), fitS l[j] = true) → badAt l = if badAt (l.drop k) = -1 then -1 else badAt (l.drop k) + k := by
  induction l with
  | nil =>
    intro k hk _
    have h0 : k = 0 := by simpa using hk
    rw [h0]; simp [badAt]
  | cons s l ih =>
    intro k hk hf
    cases k with
    | zero => simp only [List.drop_zero]; split <;> simp_all
    | succ k =>
      have h0 := hf 0 (by omega) (by simp)
      have h1 := ih k (by simpa using hk) (fun j h h' => by have := hf (j + 1) (by omega) (by simp; omega); simpa using this)
      simp only [List.drop_succ_cons]
      simp only [List.getElem_cons_zero] at h0
      rw [badAt_cons, h0, if_pos rfl, h1]
      have := badAt_ge (l.drop k)
      generalize badAt (l.drop k) = x at *
      by_cases c : x = -1
      · simp [c]
      · rw [if_neg c, if_neg (by omega)]; omega
theorem badAt_all (l : List SymD) : (badAt l = -1 ↔ l.all fitS = true) ∧ -1 ≤ badAt l := by
  induction l with
  | nil => simp [badAt]
  | cons s l ih =>
    unfold badAt
    cases h : fitS s
    · simp [h]
    · simp only [if_true, List.all_cons, h, Bool.true_and]
      have := ih.1
      have := ih.2
      split
      · simp_all
      · constructor
        · constructor
          · intro; omega
          · intro hh; have := ih.1.2 hh; omega
        · omega
set_option maxHeartbeats 1000000 in
theorem index_any (l : List SymD) (hok : AllOk l) (b off cap : Nat) (hlen : l.length ≤ 1000000) (w : World) (h : SymsAt w b off l) :
    Calls Tryd.prog 56 #[.slice (some ⟨b, off, none⟩) l.length cap, .func (.func 32) #[] #[]] w fun e w' => e = .returned (.int .i64 (badAt l)) ∧ Below w.heap.size w w' := by
  have H := Lib.hid h; have OK := Lib.hid hok
  clear h hok
  go_enter Tryd.func56, Tryd.ntmps56
  go_wp2
  go_loopw [8] (fun i wr => ∃ k : Nat, k ≤ l.length ∧ i = .int .i64 k ∧ Hid (Below w.heap.size w wr) ∧ Hid (∀ j (h : j < k) (h' : j < l.length), fitS l[j] = true)) (fun i _ => l.length - (intOf i).toNat)
  case atStart => exact ⟨0, Nat.zero_le _, rfl, Lib.hid (Below.refl _ _), Lib.hid (fun j h => absurd h (by omega))⟩
  case round =>
    obtain ⟨k, hk, rfl, HB, HA⟩ := hrel
    by_cases hlt : k < l.length
    · obtain ⟨s, hs⟩ : ∃ s, s = l[k] := ⟨_, rfl⟩
      have HS : Hid (s.Ok) := Lib.hid (by rw [hs]; exact OK.out _ (List.getElem_mem _))
      have HR : Hid (wr.rangeAt b (off + k * 5) (symV s).toList) := Lib.hid (by rw [hs]; exact (H.out.below HB.out).at_ k hlt)
      have HE := Lib.hid hs; clear hs
      cases hf : fitS s
      · have hres : Hid (badAt l = k) := Lib.hid (by
          rw [badAt_take l k hk HA.out, List.drop_eq_getElem_cons hlt, ← HE.out]
          unfold badAt
          rw [hf]; simp)
        go_wp2_with (first
          | (refine wpl_load 39 ?_; refine LoadGoal.mid (symV s) rfl HR.out Tryd.underlying39 rfl (sym_size s) rfl ?_)
          | (go_at_call 32; refine (fit1_any s HS.out _).mono ?_; rintro e w' ⟨rfl, hb⟩; rw [hf]; replace HB := hidB HB hb; clear hb))
        go_ret
        exact ⟨ret_int hres.out.symm, HB.out⟩
      · go_wp2_with (first
          | (refine wpl_load 39 ?_; refine LoadGoal.mid (symV s) rfl HR.out Tryd.underlying39 rfl (sym_size s) rfl ?_)
          | (go_at_call 32; refine (fit1_any s HS.out _).mono ?_; rintro e w' ⟨rfl, hb⟩; rw [hf]; replace HB := hidB HB hb; clear hb))
        go_roundw
        case rel => exact ⟨k + 1, by omega, by go_num, HB, Lib.hid (fun j h h' => by
          by_cases c : j = k
          · subst c; rw [← HE.out]; exact hf
          · exact HA.out j (by omega) h')⟩
        case measure => simp [intOf]; omega
    · obtain rfl : k = l.length := by omega
      have hres : Hid (badAt l = -1) := Lib.hid (by
        rw [badAt_take l l.length (Nat.le_refl _) HA.out, List.drop_length]; simp [badAt])
      go_wp2
      go_ret
      exact ⟨ret_int hres.out.symm, HB.out⟩
end Go.Proofs.YtlifdfkconklfaaDoor
