/-
  The host's memory by the document: a page's place, a cell's word, a byte.
-/
import Derived.Test.YtbaelhaajplbnaaFRowN
import Derived.Test.YtbaelhaajplbnaaFHoP
import Derived.Deep.MidRow
namespace Go.Proofs.Ytbaelhaajplbnaa
open Go Go.RowKit
set_option linter.unusedVariables false
set_option linter.unusedSimpArgs false

/-- A slice that reads as these structs of two cells each. -/
structure Row2 {α : Type} (c0 c1 : α → Value) (w : World) (b off : Nat) (l : List α) : Prop where
  lt : b < w.heap.size
  fst : ∀ i (h : i < l.length), w.cell? ⟨b, off + i * 2, none⟩ = some (c0 l[i])
  snd : ∀ i (h : i < l.length), w.cell? ⟨b, off + i * 2 + 1, none⟩ = some (c1 l[i])
theorem Row2.below {α : Type} {c0 c1 : α → Value} {w w' : World} {b off : Nat} {l : List α} (h : Row2 c0 c1 w b off l) (hb : Below w.heap.size w w') : Row2 c0 c1 w' b off l :=
  ⟨Nat.lt_of_lt_of_le h.lt hb.size, fun i hi => (hb.cell (p := ⟨b, off + i * 2, none⟩) h.lt).trans (h.fst i hi), fun i hi => (hb.cell (p := ⟨b, off + i * 2 + 1, none⟩) h.lt).trans (h.snd i hi)⟩
theorem Row2.range {α : Type} {c0 c1 : α → Value} {w : World} {b off : Nat} {l : List α} (h : Row2 c0 c1 w b off l) (i : Nat) (hi : i < l.length) : w.rangeAt b (off + i * 2) [c0 l[i], c1 l[i]] := by
  intro j v hv
  match j, hv with
  | 0, hv => cases hv; exact h.fst i hi
  | 1, hv => cases hv; exact h.snd i hi
  | j + 2, hv => cases hv
/-- A value that reads as these structs. -/
def Sl2 {α : Type} (c0 c1 : α → Value) (w : World) (v : Value) (l : List α) : Prop := ∃ p c, v = .slice p l.length c ∧ (l ≠ [] → ∃ b off, p = some ⟨b, off, none⟩ ∧ Row2 c0 c1 w b off l)
theorem Sl2.below {α : Type} {c0 c1 : α → Value} {w w' : World} {v : Value} {l : List α} (h : Sl2 c0 c1 w v l) (hb : Below w.heap.size w w') : Sl2 c0 c1 w' v l := by
  obtain ⟨p, c, rfl, h⟩ := h
  refine ⟨p, c, rfl, fun hn => ?_⟩
  obtain ⟨b, off, hp, h1⟩ := h hn
  exact ⟨b, off, hp, h1.below hb⟩
abbrev MapsV (w : World) (v : Value) (l : List MapD) : Prop := Sl2 (fun m : MapD => .int .u64 (m.page : Nat)) (fun m => .int .i64 m.prot) w v l
abbrev CellsV (w : World) (v : Value) (l : List CellD) : Prop := Sl2 (fun c : CellD => .int .u64 (c.pos : Nat)) (fun c => .int .u64 (c.word : Nat)) w v l
abbrev PagesV (w : World) (v : Value) (l : List PageD) : Prop := Sl2 (fun p : PageD => .int .u32 (p.num : Nat)) (fun p => .int .i64 p.prot) w v l

theorem ne_nil {α : Type} {l : List α} {k : Nat} (h : k < l.length) : l ≠ [] := fun e => by simp [e] at h

/-! ### A page's place -/
def placeI (ms : List MapD) (x : Nat) : Int := if hasB MapD.page ms x = true then ((ms.findIdx fun m => m.page == x : Nat) : Int) else -1
theorem placeI_at {ms : List MapD} {x k : Nat} (hk : k < ms.length) (h : ∀ j (h : j < ms.length), j < k → ms[j].page ≠ x) (he : ms[k].page = x) : placeI ms x = k := by
  have h1 : hasB MapD.page ms x = true := by
    simp only [hasB, List.any_eq_true, beq_iff_eq]; exact ⟨_, List.getElem_mem hk, he⟩
  rw [placeI, if_pos h1, (List.findIdx_eq hk).2 ⟨by simpa using he, fun j hj => by simpa using h j (by omega) hj⟩]
theorem placeI_none {ms : List MapD} {x : Nat} (h : ∀ j (h : j < ms.length), j < ms.length → ms[j].page ≠ x) : placeI ms x = -1 := by
  have h1 : hasB MapD.page ms x = false := by
    rw [Bool.eq_false_iff]
    intro hh
    simp only [hasB, List.any_eq_true, beq_iff_eq] at hh
    obtain ⟨a, ha, hx⟩ := hh
    obtain ⟨k, hk, rfl⟩ := List.getElem_of_mem ha
    exact h k hk hk hx
  rw [placeI, h1, if_neg (by simp)]
theorem ne_snoc {α : Type} {l : List α} {key : α → Nat} {x k : Nat} (hk : k < l.length) (h : ∀ j (h : j < l.length), j < k → key l[j] ≠ x) (hn : key l[k] ≠ x) : ∀ j (h : j < l.length), j < k + 1 → key l[j] ≠ x := by
  intro j hj hjk
  rcases Nat.lt_or_eq_of_le (Nat.le_of_lt_succ hjk) with h1 | rfl
  · exact h j hj h1
  · exact hn
theorem beq_nat (a b : Nat) : (((a : Int) == (b : Int)) : Bool) = (a == b) := by
  by_cases h : a = b
  · subst h; simp
  · rw [beq_eq_false_iff_ne.2 h, beq_eq_false_iff_ne]; omega

set_option maxHeartbeats 1000000 in
theorem rplace3_any (ms : List MapD) (hlen : ms.length ≤ 1000000) (x : Nat) (vm vc : Value) (w : World) (h : MapsV w vm ms) :
    Calls Try.prog 24 #[.agg #[vm, vc], .int .u64 (x : Nat)] w fun e w' => e = .returned (.int .i64 (placeI ms x)) ∧ Below w.heap.size w w' := by
  obtain ⟨p, c, rfl, h⟩ := h
  have H := Lib.hid h; clear h
  have hli : (ms.length : Int) ≤ 1000000 := by omega
  go_enter Try.func24, Try.ntmps24
  go_wp2
  go_loop [5] (fun i => ∃ k : Nat, k ≤ ms.length ∧ i = .int .i64 k ∧ Hid (∀ j (h : j < ms.length), j < k → ms[j].page ≠ x)) (fun i => ms.length - (intOf i).toNat)
  case atStart => exact ⟨0, Nat.zero_le _, rfl, Lib.hid (fun j _ h => absurd h (Nat.not_lt_zero _))⟩
  case round =>
    obtain ⟨k, hk, rfl, HK⟩ := hrel
    by_cases hlt : k < ms.length
    · obtain ⟨b, off, rfl, hr⟩ := H.out (ne_nil hlt)
      have hb : b ≠ w.heap.size := Nat.ne_of_lt hr.lt
      have hb2 := hr.lt
      have c0 := hr.fst k hlt
      clear hr
      cases he : (((ms[k].page : Int) == (x : Int)) : Bool)
      · have hn : ms[k].page ≠ x := fun e => by rw [e] at he; simp at he
        have HN := Lib.hid hn; clear hn
        go_wp2
        go_round
        case rel => exact ⟨k + 1, by omega, by go_num, Lib.hid (ne_snoc hlt HK.out HN.out)⟩
        case measure => simp [intOf]; omega
      · have hn : ms[k].page = x := by rw [beq_iff_eq] at he; omega
        have HN := Lib.hid hn; clear hn
        go_wp2
        go_ret
        exact ⟨by rw [placeI_at hlt HK.out HN.out]; rfl, (Below.refl _ _).alloc (Nat.le_refl _) _⟩
    · obtain rfl : k = ms.length := by omega
      go_wp2
      go_ret
      exact ⟨by rw [placeI_none HK.out]; rfl, (Below.refl _ _).alloc (Nat.le_refl _) _⟩

/-! ### A cell's word -/
theorem wordL_find {cs : List CellD} {x k : Nat} (hk : k < cs.length) (h : ∀ j (h : j < cs.length), j < k → cs[j].pos ≠ x) (he : cs[k].pos = x) : wordL cs x = cs[k].word := by
  induction cs generalizing k with
  | nil => simp at hk
  | cons c cs ih =>
    cases k with
    | zero => simp only [List.getElem_cons_zero] at he ⊢; simp [wordL, he]
    | succ k =>
      have h0 := h 0 (by simp) (by omega)
      simp only [List.getElem_cons_zero] at h0
      simp only [List.length_cons] at hk
      simp only [List.getElem_cons_succ] at he ⊢
      rw [wordL, if_neg h0]
      exact ih (by omega) (fun j hj hjk => by have := h (j + 1) (by simp; omega) (by omega); simpa using this) he
theorem wordL_none {cs : List CellD} {x : Nat} (h : ∀ j (h : j < cs.length), j < cs.length → cs[j].pos ≠ x) : wordL cs x = 0 :=
  wordL_not fun c hc => by
    obtain ⟨k, hk, rfl⟩ := List.getElem_of_mem hc
    exact h k hk hk

set_option maxHeartbeats 1000000 in
theorem rword3_any (cs : List CellD) (hlen : cs.length ≤ 1000000) (x : Nat) (vm vc : Value) (w : World) (h : CellsV w vc cs) :
    Calls Try.prog 22 #[.agg #[vm, vc], .int .u64 (x : Nat)] w fun e w' => e = .returned (.int .u64 (wordL cs x : Nat)) ∧ Below w.heap.size w w' := by
  obtain ⟨p, c, rfl, h⟩ := h
  have H := Lib.hid h; clear h
  have hli : (cs.length : Int) ≤ 1000000 := by omega
  go_enter Try.func22, Try.ntmps22
  go_wp2
  go_loop [5] (fun i => ∃ k : Nat, k ≤ cs.length ∧ i = .int .i64 k ∧ Hid (∀ j (h : j < cs.length), j < k → cs[j].pos ≠ x)) (fun i => cs.length - (intOf i).toNat)
  case atStart => exact ⟨0, Nat.zero_le _, rfl, Lib.hid (fun j _ h => absurd h (Nat.not_lt_zero _))⟩
  case round =>
    obtain ⟨k, hk, rfl, HK⟩ := hrel
    by_cases hlt : k < cs.length
    · obtain ⟨b, off, rfl, hr⟩ := H.out (ne_nil hlt)
      have hb : b ≠ w.heap.size := Nat.ne_of_lt hr.lt
      have hb2 := hr.lt
      have c0 := hr.fst k hlt
      have c1 := hr.snd k hlt
      clear hr
      cases he : (((cs[k].pos : Int) == (x : Int)) : Bool)
      · have hn : cs[k].pos ≠ x := fun e => by rw [e] at he; simp at he
        have HN := Lib.hid hn; clear hn
        go_wp2
        go_round
        case rel => exact ⟨k + 1, by omega, by go_num, Lib.hid (ne_snoc hlt HK.out HN.out)⟩
        case measure => simp [intOf]; omega
      · have hn : cs[k].pos = x := by rw [beq_iff_eq] at he; omega
        have HN := Lib.hid hn; clear hn
        go_wp2
        go_ret
        exact ⟨by rw [wordL_find hlt HK.out HN.out]; rfl, (Below.refl _ _).alloc (Nat.le_refl _) _⟩
    · obtain rfl : k = cs.length := by omega
      go_wp2
      go_ret
      exact ⟨by rw [wordL_none HK.out]; rfl, (Below.refl _ _).alloc (Nat.le_refl _) _⟩

theorem host_size (vm vc : Value) : (Try.prog.info? 29).map (·.size) = some #[vm, vc].size := by
  show _ = some 2
  kernel_rfl
theorem wordL_lt {cs : List CellD} (h : ∀ c ∈ cs, c.word < 18446744073709551616) (x : Nat) : wordL cs x < 18446744073709551616 := by
  induction cs with
  | nil => exact Nat.zero_lt_succ _
  | cons c cs ih =>
    rw [wordL]
    split
    · exact h c (List.mem_cons_self ..)
    · exact ih fun d hd => h d (List.mem_cons_of_mem _ hd)

set_option maxHeartbeats 1000000 in
theorem rpeek3_any (cs : List CellD) (hlen : cs.length ≤ 1000000) (hw : ∀ c ∈ cs, c.word < 18446744073709551616) (x : Nat) (hx : x < 18446744073709551616) (vm vc : Value) (w : World) (h : CellsV w vc cs) :
    Calls Try.prog 8 #[.agg #[vm, vc], .int .u64 (x : Nat)] w fun e w' => e = .returned (.int .u8 (peekL cs x : Nat)) ∧ Below w.heap.size w w' := by
  have H := Lib.hid h; clear h
  obtain ⟨r, hr⟩ : ∃ r : Nat, r = x % 8 := ⟨_, rfl⟩
  obtain ⟨q, hq⟩ : ∃ q : Nat, q = x - r := ⟨_, rfl⟩
  have hm : (x : Int) % 8 = (r : Int) := by omega
  have hs : (x : Int) - (r : Int) = (q : Int) := by omega
  have hr8 : (r : Int) ≤ 7 := by omega
  have hq2 : (q : Int) ≤ 18446744073709551615 := by omega
  have hx2 : (x : Int) ≤ 18446744073709551615 := by omega
  obtain ⟨y, hy⟩ : ∃ y : Nat, y = wordL cs q := ⟨_, rfl⟩
  have hy2 : (y : Int) ≤ 18446744073709551615 := by have := wordL_lt hw q; omega
  have hsh : (y : Int) / 2 ^ min (8 * (r : Int)).toNat IntKind.u64.bits = ((y / 2 ^ (8 * r) : Nat) : Int) := by
    rw [show min (8 * (r : Int)).toNat IntKind.u64.bits = 8 * r by show min _ 64 = _; omega]
    simp
  obtain ⟨z, hz⟩ : ∃ z : Nat, z = y / 2 ^ (8 * r) := ⟨_, rfl⟩
  have hz2 : (z : Int) ≤ 18446744073709551615 := by have := Nat.div_le_self y (2 ^ (8 * r)); omega
  rw [← hz] at hsh
  have hres : Hid (peekL cs x = z % 256) := Lib.hid (by rw [peekL, ← hr, ← hq, ← hy, ← hz])
  have HY := Lib.hid hy
  have HZ := Lib.hid hz
  clear hw hr hq hy hz hx
  have HROW : Hid ((w.alloc (.cells #[vm, vc] 29)).heap[w.heap.size]? = some (.cells #[vm, vc] 29)) := Lib.hid (heap_new _ _ _ rfl)
  go_enter Try.func8, Try.ntmps8
  go_wp2_with (first
    | (refine wpl_load 29 ?_; refine LoadGoal.of #[vm, vc] rfl HROW.out (by kernel_rfl) (host_size vm vc) rfl ?_)
    | (go_at_call 22; refine (rword3_any cs hlen q vm vc _ (H.out.below ((Below.refl _ _).alloc (Nat.le_refl _) _))).mono ?_; rintro e w' ⟨rfl, hb⟩; rw [← HY.out]))
  go_ret
  exact ⟨by rw [hres.out, HZ.out]; simp, (((Below.refl _ _).alloc (Nat.le_refl _) _)).trans (hb.mono (by simp only [heap_len]; omega))⟩
end Go.Proofs.Ytbaelhaajplbnaa
