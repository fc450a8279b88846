/-
  The package structs: words written, numbers taken.
-/
import Derived.Test.YtbaelhaajplbnaaFRef1
import Derived.Deep.RegionWith
namespace Go.Proofs.Ytbaelhaajplbnaa
open Go Go.RowKit
set_option linter.unusedVariables false
set_option linter.unusedSimpArgs false

theorem others_below {e : TypeId} {b : Option Nat} {w w' : World} (h : Below w.heap.size w w') : Lib.OthersKept e b w w' :=
  fun k o hk _ _ => (h.block k (heap_lt hk)).trans hk

/-- A row of u64 in a block. -/
def RowU (w : World) (g : Nat) (vs : List Nat) : Prop := ∃ c fr, w.heap[g]? = some (.cells c 30 fr) ∧ ∀ i (h : i < vs.length), c[i]? = some (.int .u64 (vs[i] : Nat))
theorem RowU.cell {w : World} {g : Nat} {vs : List Nat} (h : RowU w g vs) (i : Nat) (hi : i < vs.length) : w.cell? ⟨g, i, none⟩ = some (.int .u64 (vs[i] : Nat)) := by
  obtain ⟨c, fr, h1, h2⟩ := h
  rw [cell_of_row w g i c _ fr h1, h2 i hi]
theorem RowU.kept {w w' : World} {g b : Nat} {vs : List Nat} (h : RowU w g vs) (hk : Lib.OthersKept 5 (some b) w w') (hne : g ≠ b) : RowU w' g vs := by
  obtain ⟨c, fr, h1, h2⟩ := h
  exact ⟨c, fr, hk g _ h1 (fun e => hne (Option.some.inj e)) (fun c fz e => by cases e), h2⟩
theorem RowU.below {w w' : World} {g : Nat} {vs : List Nat} (h : RowU w g vs) (hk : Below w.heap.size w w') : RowU w' g vs := by
  obtain ⟨c, fr, h1, h2⟩ := h
  exact ⟨c, fr, (hk.block g (heap_lt h1)).trans h1, h2⟩

def beB (v : Nat) (n : Int) : List UInt8 := (putBeF v n).data.toList
def wordsB (n : Int) (vs : List Nat) : List UInt8 := vs.flatMap fun v => beB v n
theorem beB_length (v : Nat) (n : Int) : (beB v n).length ≤ 8 := by
  unfold beB putBeF
  split
  · simp [leL_length]; omega
  · simp
theorem putBe_size (v : Nat) (n : Int) : (putBeF v n).size = (beB v n).length := Array.length_toList.symm
theorem wordsB_length (n : Int) : ∀ (vs : List Nat), (wordsB n vs).length ≤ 8 * vs.length
  | [] => by simp [wordsB]
  | v :: vs => by
    have h1 := wordsB_length n vs
    have h2 := beB_length v n
    simp only [wordsB, List.flatMap_cons, List.length_append, List.length_cons] at h1 ⊢
    omega
theorem wordsB_take (n : Int) (vs : List Nat) (k : Nat) (h : k < vs.length) : wordsB n (vs.take (k + 1)) = wordsB n (vs.take k) ++ beB vs[k] n := by
  have : vs.take (k + 1) = vs.take k ++ [vs[k]] := by rw [List.take_succ_eq_append_getElem h]
  rw [this]
  simp only [wordsB, List.flatMap_append, List.flatMap_cons, List.flatMap_nil, List.append_nil]


/-- Each is a number of 64 bits. -/
def AllU (vs : List Nat) : Prop := ∀ v ∈ vs, v < 18446744073709551616

theorem bldT_writer : BldT 94 := ⟨by decide, by kernel_rfl⟩

set_option maxHeartbeats 2000000 in
set_option maxRecDepth 100000 in
theorem put_any (B b g : Nat) (n : Int) (vs : List Nat) (hvs : AllU vs) (l : List UInt8) (hl : l.length + 8 * vs.length ≤ 140737488355328) (w : World) (cap : Nat) (hg : RowU w g vs) (hgb : g ≠ b)
    (h : IsBld 94 B b l w) (hBw : B ≤ w.heap.size) :
    Calls Try.prog 35 #[.pointer (some ⟨b, 0, none⟩), .int .i64 n, .slice (some ⟨g, 0, none⟩) vs.length cap] w fun e w' => e = .returned (.tuple #[]) ∧
      (IsBld 94 B b (l ++ wordsB n vs) w' ∧ Below B w w' ∧ Lib.OthersKept 5 (some b) w w') := by
  have HVS := Lib.hid hvs; have HL := Lib.hid hl; have HG := Lib.hid hg; have HGB := Lib.hid hgb; have HB := Lib.hid h; have HBW := Lib.hid hBw
  have hlen : vs.length ≤ 140737488355328 := by omega
  clear hvs hl hg hgb h hBw
  go_enter Try.func35, Try.ntmps35
  go_wp2
  go_loopw [10] (fun i wr => ∃ k : Nat, k ≤ vs.length ∧ i = .int .i64 k ∧ Hid (IsBld 94 B b (l ++ wordsB n (vs.take k)) wr) ∧ Hid (Below B w wr) ∧ Hid (Lib.OthersKept 5 (some b) w wr)) (fun i _ => vs.length - (intOf i).toNat)
  case atStart => exact ⟨0, by omega, rfl, Lib.hid (by simpa [wordsB] using HB.out), Lib.hid (Below.refl _ _), Lib.hid (Lib.OthersKept.refl _ _ _)⟩
  case round =>
    obtain ⟨k, hk, rfl, H1, H2, H3⟩ := hrel
    by_cases hlt : k < vs.length
    · have hc := (HG.out.kept H3.out HGB.out).cell k hlt
      obtain ⟨v, hv⟩ : ∃ v, v = vs[k] := ⟨_, rfl⟩
      rw [← hv] at hc
      have HV : Hid (v < 18446744073709551616) := Lib.hid (by rw [hv]; exact HVS.out _ (List.getElem_mem ..))
      have HS : Hid (wordsB n (vs.take (k + 1)) = wordsB n (vs.take k) ++ beB v n) := Lib.hid (by rw [hv]; exact wordsB_take n vs k hlt)
      have HLEN : Hid ((l ++ wordsB n (vs.take k)).length + (putBeF v n).size ≤ 140737488355328) := Lib.hid (by
        have h1 := wordsB_length n (vs.take k)
        have h2 := beB_length v n
        have h3 := HL.out
        rw [List.length_append, putBe_size]
        rw [List.length_take] at h1
        omega)
      clear hv
      go_upto_region 3 with fail
      go_region_with (first
        | (go_at_call 42; refine (putBe_any v HV.out n _).mono ?_; rintro e w1 ⟨rfl, hb1⟩)
        | (go_at_call 18; refine (wstr_any bldT_writer B b _ (putBeF v n) _ (bld_below H1.out (below_of_drew hb1)) HLEN.out (Nat.le_trans (Nat.le_trans HBW.out H2.out.size) hb1.size)).mono ?_; rintro e w2 ⟨rfl, k1, k2, k3⟩))
      have hB1 := (below_of_drew hb1).mono (Nat.le_trans HBW.out H2.out.size)
      have K1 := Lib.hid k1
      have K2 := Lib.hid (H2.out.trans (hB1.trans k2))
      have K3 := Lib.hid (H3.out.trans ((others_below (below_of_drew hb1)).trans k3))
      clear k1 k2 k3 hb1 hB1 hc
      go_wp2
      go_roundw
      case rel => exact ⟨k + 1, by omega, by go_num, Lib.hid (by rw [HS.out, ← List.append_assoc]; exact K1.out), K2, K3⟩
      case measure => simp [intOf]; omega
    · obtain rfl : k = vs.length := by omega
      rw [List.take_length] at H1
      go_wp2
      go_end0
      exact ⟨rfl, H1.out, H2.out, H3.out⟩

theorem own_below {w w' : World} {B : Nat} {e : TypeId} {size n : Nat} {v : Value} {xs : List Value} (h : w.ownsRow B e size v n xs) (hb : Below w.heap.size w w') : w'.ownsRow B e size v n xs :=
  h.kept (row := none) ⟨hb.os, hb.tape, hb.output, hb.size, fun k hk _ => hb.block k hk⟩ (by cases v.ownBlock <;> simp)

theorem own_some {W : World} {base : Nat} {e : TypeId} {size : Nat} {v : Value} {n : Nat} {xs : List Value} (h : W.ownsRow base e size v n xs) (hn : n ≠ 0) : ∃ g cap, v = .slice (some ⟨g, 0, none⟩) n cap := by
  rcases h.2 with ⟨_, h0⟩ | ⟨g, cap, _, rfl, _⟩
  · exact absurd h0 hn
  · exact ⟨g, cap, rfl⟩

/-! ### taken -/

/-- The number of bytes, the lowest first. -/
def leN (l : List UInt8) : Nat := beN l.reverse
theorem numF_le (l : List UInt8) (h : l.length ≤ 8) : numF (mkB l) true = (leN l : Nat) := by
  rw [numF, mkB_size, if_pos h]
  simp [bytesL, mkB_list, leN]
theorem numF_be (l : List UInt8) (h : l.length ≤ 8) : numF (mkB l) false = (beN l : Nat) := by
  rw [numF, mkB_size, if_pos h]
  simp [bytesL, mkB_list]
theorem leN_lt {l : List UInt8} (h : l.length ≤ 8) : leN l < 18446744073709551616 := beN_lt8 (by simpa using h)

def takenL (l : List UInt8) : List Nat → List Nat
  | [] => []
  | n :: ws => leN (l.take n) :: takenL (l.drop n) ws
theorem takenL_length : ∀ (ws : List Nat) (l : List UInt8), (takenL l ws).length = ws.length
  | [], _ => rfl
  | n :: ws, l => by simp [takenL, takenL_length ws]
theorem takenL_snoc : ∀ (ws : List Nat) (l : List UInt8) (n : Nat), takenL l (ws ++ [n]) = takenL l ws ++ [leN ((l.drop ws.sum).take n)]
  | [], l, n => by simp [takenL]
  | m :: ws, l, n => by
    simp only [List.cons_append, takenL, takenL_snoc ws, List.drop_drop, List.sum_cons]
theorem sum_take_succ (ws : List Nat) (k : Nat) (h : k < ws.length) : (ws.take (k + 1)).sum = (ws.take k).sum + ws[k] := by
  rw [List.take_succ_eq_append_getElem h, List.sum_append, List.sum_singleton]
theorem sum_take_le (ws : List Nat) (k : Nat) : (ws.take k).sum ≤ ws.sum := by
  have h := List.sum_append (l₁ := ws.take k) (l₂ := ws.drop k)
  rw [List.take_append_drop] at h
  omega

theorem u64_info : (Try.prog.info? 30).map (fun i => (i.zero, i.size, i.bytes)) = some (some (.int .u64 0), 1, 8) := by kernel_rfl
def u64V (l : List Nat) : List Value := l.map fun v => .int .u64 (v : Nat)
theorem u64V_length (l : List Nat) : (u64V l).length = l.length := by simp [u64V]

/-- A row of int in a block. -/
def RowN (w : World) (g : Nat) (ws : List Nat) : Prop := ∃ c t fr, w.heap[g]? = some (.cells c t fr) ∧ ∀ i (h : i < ws.length), c[i]? = some (.int .i64 (ws[i] : Nat))
theorem RowN.cell {w : World} {g : Nat} {ws : List Nat} (h : RowN w g ws) (i : Nat) (hi : i < ws.length) : w.cell? ⟨g, i, none⟩ = some (.int .i64 (ws[i] : Nat)) := by
  obtain ⟨c, t, fr, h1, h2⟩ := h
  rw [cell_of_row w g i c _ fr h1, h2 i hi]
theorem RowN.below {w w' : World} {g : Nat} {ws : List Nat} (h : RowN w g ws) (hk : Below w.heap.size w w') : RowN w' g ws := by
  obtain ⟨c, t, fr, h1, h2⟩ := h
  exact ⟨c, t, fr, (hk.block g (heap_lt h1)).trans h1, h2⟩

theorem rowN_of {w : World} {g : Nat} {ws : List Nat} {c : Array Value} {t : TypeId} {fr : Nat × Nat} (h : w.heap[g]? = some (.cells c t fr)) (hc : c = (ws.map fun n => Value.int .i64 (n : Nat)).toArray) : RowN w g ws :=
  ⟨c, _, fr, h, fun i hi => by subst hc; simp [hi]⟩
theorem rowU_of {w : World} {g : Nat} {ws : List Nat} {c : Array Value} {fr : Nat × Nat} (h : w.heap[g]? = some (.cells c 30 fr)) (hc : c = (ws.map fun n => Value.int .u64 (n : Nat)).toArray) : RowU w g ws :=
  ⟨c, fr, h, fun i hi => by subst hc; simp [hi]⟩

end Go.Proofs.Ytbaelhaajplbnaa
