/-
  The guest's pages by the document: what may be done with a page, the guest's page of an address, whether a host's page is used.
-/
import Derived.Test.YtbaelhaajplbnaaFHoB
namespace Go.Proofs.Ytbaelhaajplbnaa
open Go Go.RowKit
set_option linter.unusedVariables false
set_option linter.unusedSimpArgs false

def guestV (vm vc : Value) (base : Nat) (vp : Value) : Array Value := #[vm, vc, .int .u64 (base : Nat), vp]
def protL (ps : List PageD) (n : Nat) : Int := match ps with
  | [] => -1
  | p :: ps => if p.num = n then p.prot else protL ps n
theorem protL_find {ps : List PageD} {x k : Nat} (hk : k < ps.length) (h : ∀ j (h : j < ps.length), j < k → ps[j].num ≠ x) (he : ps[k].num = x) : protL ps x = ps[k].prot := by
  induction ps generalizing k with
  | nil => simp at hk
  | cons c ps ih =>
    cases k with
    | zero => simp only [List.getElem_cons_zero] at he ⊢; simp [protL, he]
    | succ k =>
      have h0 := h 0 (by simp) (by omega)
      simp only [List.getElem_cons_zero] at h0
      simp only [List.length_cons] at hk
      simp only [List.getElem_cons_succ] at he ⊢
      rw [protL, if_neg h0]
      exact ih (by omega) (fun j hj hjk => by have := h (j + 1) (by simp; omega) (by omega); simpa using this) he
theorem protL_none {ps : List PageD} {x : Nat} (h : ∀ j (h : j < ps.length), j < ps.length → ps[j].num ≠ x) : protL ps x = -1 := by
  induction ps with
  | nil => rfl
  | cons p ps ih =>
    have h0 := h 0 (by simp) (by simp)
    simp only [List.getElem_cons_zero] at h0
    rw [protL, if_neg h0]
    exact ih fun j hj _ => by have := h (j + 1) (by simp; omega) (by simp; omega); simpa using this

set_option maxHeartbeats 1000000 in
theorem rprot4_any (ps : List PageD) (hlen : ps.length ≤ 1000000) (x base : Nat) (vm vc vp : Value) (w : World) (h : PagesV w vp ps) :
    Calls Try.prog 27 #[.agg (guestV vm vc base vp), .int .u32 (x : Nat)] w fun e w' => e = .returned (.int .i64 (protL ps x)) ∧ Below w.heap.size w w' := by
  obtain ⟨p, c, rfl, h⟩ := h
  have H := Lib.hid h; clear h
  have hli : (ps.length : Int) ≤ 1000000 := by omega
  rw [guestV]
  go_enter Try.func27, Try.ntmps27
  go_wp2
  go_loop [5] (fun i => ∃ k : Nat, k ≤ ps.length ∧ i = .int .i64 k ∧ Hid (∀ j (h : j < ps.length), j < k → ps[j].num ≠ x)) (fun i => ps.length - (intOf i).toNat)
  case atStart => exact ⟨0, Nat.zero_le _, rfl, Lib.hid (fun j _ h => absurd h (Nat.not_lt_zero _))⟩
  case round =>
    obtain ⟨k, hk, rfl, HK⟩ := hrel
    by_cases hlt : k < ps.length
    · obtain ⟨b, off, rfl, hr⟩ := H.out (ne_nil hlt)
      have hb : b ≠ w.heap.size := Nat.ne_of_lt hr.lt
      have hb2 := hr.lt
      have c0 := hr.fst k hlt
      have c1 := hr.snd k hlt
      clear hr
      cases he : (((ps[k].num : Int) == (x : Int)) : Bool)
      · have hn : ps[k].num ≠ x := fun e => by rw [e] at he; simp at he
        have HN := Lib.hid hn; clear hn
        go_wp2
        go_round
        case rel => exact ⟨k + 1, by omega, by go_num, Lib.hid (ne_snoc hlt HK.out HN.out)⟩
        case measure => simp [intOf]; omega
      · have hn : ps[k].num = x := by rw [beq_iff_eq] at he; omega
        have HN := Lib.hid hn; clear hn
        go_wp2
        go_ret
        exact ⟨by rw [protL_find hlt HK.out HN.out]; rfl, (Below.refl _ _).alloc (Nat.le_refl _) _⟩
    · obtain rfl : k = ps.length := by omega
      go_wp2
      go_ret
      exact ⟨by rw [protL_none HK.out]; rfl, (Below.refl _ _).alloc (Nat.le_refl _) _⟩

/-- Is an address of the host within the guest's reach? -/
def inR (base at_ : Nat) : Bool := decide (base ≤ at_) && decide (at_ - base < 4294967296)
def ownN (base at_ : Nat) : Nat := if inR base at_ = true then (at_ - base) / 4096 else 0
theorem ownN_lt {base at_ : Nat} : ownN base at_ < 1048576 := by
  rw [ownN]
  split
  · rename_i h
    simp only [inR, Bool.and_eq_true, decide_eq_true_eq] at h
    omega
  · omega
def big32 (m : Nat) : Bool := decide ((4294967296 : Int) ≤ (m : Int))
theorem big32_eq (m : Nat) : decide ((4294967296 : Int) ≤ (m : Int)) = big32 m := rfl
set_option maxHeartbeats 1000000 in
set_option maxRecDepth 100000 in
theorem rown4_any (base at_ : Nat) (hb : base < 18446744073709551616) (ha : at_ < 18446744073709551616) (vm vc vp : Value) (w : World) :
    Calls Try.prog 25 #[.agg (guestV vm vc base vp), .int .u64 (at_ : Nat)] w fun e w' => e = .returned (.tuple #[.int .u32 (ownN base at_ : Nat), .bool (inR base at_)]) ∧ Below w.heap.size w w' := by
  rw [guestV]
  by_cases h1 : base ≤ at_
  · obtain ⟨d, hd⟩ : ∃ d : Nat, d = at_ - base := ⟨_, rfl⟩
    have hdi : (at_ : Int) - (base : Int) = (d : Int) := by omega
    have hdw : IntKind.u64.wrap ((at_ : Int) - (base : Int)) = (d : Int) := by rw [hdi]; exact IntWalk.u64_in _ (by omega)
    have hdb : IntKind.u64.wrap (d : Int) = (d : Int) := IntWalk.u64_in _ (by omega)
    have b1 : decide (at_ < base) = false := decide_eq_false (by omega)
    have b2 : ¬ at_ < base := by omega
    have hge := big32_eq
    cases h2 : big32 d
    · have h3 : d < 4294967296 := by simp only [big32, decide_eq_false_iff_not] at h2; omega
      obtain ⟨q, hq⟩ : ∃ q : Nat, q = d / 4096 := ⟨_, rfl⟩
      have hqi : (d : Int) / 4096 = (q : Int) := by omega
      have hqw : IntKind.u64.wrap (q : Int) = (q : Int) := IntWalk.u64_in _ (by omega)
      have hqv : IntKind.u32.wrap (q : Int) = (q : Int) := IntWalk.u32_in _ (by omega)
      have hr : Hid (inR base at_ = true ∧ ownN base at_ = q) := Lib.hid (by
        have : inR base at_ = true := by rw [inR, ← hd, decide_eq_true h1, decide_eq_true h3]; rfl
        exact ⟨this, by rw [ownN, if_pos this, ← hd, hq]⟩)
      clear h3 hq h1 hd hb ha
      go_enter Try.func25, Try.ntmps25
      go_wp2
      go_ret2
      exact ⟨by rw [hr.out.1, hr.out.2]; rfl, (Below.refl _ _).alloc (Nat.le_refl _) _⟩
    · have hr : Hid (inR base at_ = false) := Lib.hid (by
        have h3 : ¬ d < 4294967296 := by simp only [big32, decide_eq_true_eq] at h2; omega
        rw [inR, ← hd, decide_eq_false h3]; simp)
      clear h1 hd hb ha
      go_enter Try.func25, Try.ntmps25
      go_wp2
      go_ret2
      exact ⟨by rw [ownN, hr.out]; rfl, (Below.refl _ _).alloc (Nat.le_refl _) _⟩
  · have b1 : decide (at_ < base) = true := decide_eq_true (by omega)
    have b2 : at_ < base := by omega
    have hr : Hid (inR base at_ = false) := Lib.hid (by rw [inR, decide_eq_false h1]; rfl)
    clear h1 hb ha
    go_enter Try.func25, Try.ntmps25
    go_wp2
    go_ret2
    exact ⟨by rw [ownN, hr.out]; rfl, (Below.refl _ _).alloc (Nat.le_refl _) _⟩

/-- The host's page of a guest's page. -/
def hostP (base n : Nat) : Nat := (base + n * 4096) / 16384
def usedB (base : Nat) (ps : List PageD) (x : Nat) : Bool := ps.any fun p => hostP base p.num == x
theorem usedB_at {base : Nat} {ps : List PageD} {x k : Nat} (hk : k < ps.length) (h : hostP base ps[k].num = x) : usedB base ps x = true := by
  simp only [usedB, List.any_eq_true, beq_iff_eq]; exact ⟨_, List.getElem_mem hk, h⟩
theorem usedB_none {base : Nat} {ps : List PageD} {x : Nat} (h : ∀ j (h : j < ps.length), j < ps.length → hostP base ps[j].num ≠ x) : usedB base ps x = false := by
  rw [Bool.eq_false_iff]
  intro hh
  simp only [usedB, List.any_eq_true, beq_iff_eq] at hh
  obtain ⟨a, ha, hx⟩ := hh
  obtain ⟨k, hk, rfl⟩ := List.getElem_of_mem ha
  exact h k hk hk hx
set_option maxHeartbeats 1000000 in
set_option maxRecDepth 100000 in
theorem rused4_any (ps : List PageD) (hlen : ps.length ≤ 1000000) (hn : ∀ p ∈ ps, p.num < 4294967296) (base x : Nat) (hb : base ≤ 4611686018427387904) (hx : x < 18446744073709551616) (vm vc vp : Value) (w : World) (h : PagesV w vp ps) :
    Calls Try.prog 26 #[.agg (guestV vm vc base vp), .int .u64 (x : Nat)] w fun e w' => e = .returned (.bool (usedB base ps x)) ∧ Below w.heap.size w w' := by
  obtain ⟨p, c, rfl, h⟩ := h
  have H := Lib.hid h; have HN0 := Lib.hid hn; have HBS := Lib.hid hb; clear h hn hb hx
  have hli : (ps.length : Int) ≤ 1000000 := by omega
  clear hlen
  rw [guestV]
  obtain ⟨W0, hW⟩ : ∃ W0, W0 = w.alloc (.cells #[vm, vc, .int .u64 (base : Nat), .slice p ps.length c] 33) := ⟨_, rfl⟩
  have HROW : Hid (W0.heap[w.heap.size]? = some (.cells #[vm, vc, .int .u64 (base : Nat), .slice p ps.length c] 33)) := Lib.hid (by rw [hW]; exact heap_new _ _ _ rfl)
  have HB0 : Hid (Below w.heap.size w W0) := Lib.hid (by rw [hW]; exact (Below.refl _ _).alloc (Nat.le_refl _) _)
  have HLT : Hid (w.heap.size < W0.heap.size) := Lib.hid (by rw [hW, heap_len]; omega)
  go_enter Try.func26, Try.ntmps26
  go_upto_region 1 with fail
  rw [← hW]
  clear hW
  go_wp2
  go_loopw [5] (fun i wr => ∃ k : Nat, k ≤ ps.length ∧ i = .int .i64 k ∧ Hid (Below W0.heap.size W0 wr) ∧ Hid (∀ j (h : j < ps.length), j < k → hostP base ps[j].num ≠ x)) (fun i _ => ps.length - (intOf i).toNat)
  case atStart => exact ⟨0, Nat.zero_le _, rfl, Lib.hid (Below.refl _ _), Lib.hid (fun j _ h => absurd h (Nat.not_lt_zero _))⟩
  case round =>
    obtain ⟨k, hk, rfl, HB, HK⟩ := hrel
    have l3 : wr.cell? ⟨w.heap.size, 3, none⟩ = some (.slice p ps.length c) := cell_at (o := 3) ((HB.out.block _ HLT.out).trans HROW.out) rfl
    by_cases hlt : k < ps.length
    · obtain ⟨b, off, rfl, hr⟩ := H.out (ne_nil hlt)
      have HR := Lib.hid (hr.below HB0.out); clear hr
      have e2 : ∀ s : Grown wr, s.w.cell? ⟨w.heap.size, 2, none⟩ = some (.int .u64 (base : Nat)) := fun s => cell_at (o := 2) ((s.below.block _ (Nat.lt_of_lt_of_le HLT.out HB.out.size)).trans ((HB.out.block _ HLT.out).trans HROW.out)) rfl
      have e3 : ∀ s : Grown wr, s.w.cell? ⟨w.heap.size, 3, none⟩ = some (.slice (some ⟨b, off, none⟩) ps.length c) := fun s => cell_at (o := 3) ((s.below.block _ (Nat.lt_of_lt_of_le HLT.out HB.out.size)).trans ((HB.out.block _ HLT.out).trans HROW.out)) rfl
      have e0 : ∀ s : Grown wr, s.w.cell? ⟨b, off + k * 2, none⟩ = some (.int .u32 (ps[k].num : Nat)) := fun s => ((HR.out.below HB.out).below s.below).fst k hlt
      obtain ⟨n, hnn⟩ : ∃ n : Nat, n = ps[k].num := ⟨_, rfl⟩
      have hn32 : n < 4294967296 := by rw [hnn]; exact HN0.out _ (List.getElem_mem hlt)
      have hbs := HBS.out
      obtain ⟨a, ha⟩ : ∃ a : Nat, a = n * 4096 := ⟨_, rfl⟩
      obtain ⟨d, hd⟩ : ∃ d : Nat, d = base + a := ⟨_, rfl⟩
      obtain ⟨q, hq⟩ : ∃ q : Nat, q = d / 16384 := ⟨_, rfl⟩
      have f0 : IntKind.u64.wrap (n : Int) = (n : Int) := IntWalk.u64_in _ (by omega)
      have f1 : (n : Int) * 4096 = (a : Int) := by omega
      have f2 : IntKind.u64.wrap (a : Int) = (a : Int) := IntWalk.u64_in _ (by omega)
      have f3 : (base : Int) + (a : Int) = (d : Int) := by omega
      have f4 : IntKind.u64.wrap (d : Int) = (d : Int) := IntWalk.u64_in _ (by omega)
      have f5 : (d : Int) / 16384 = (q : Int) := by omega
      have f6 : IntKind.u64.wrap (q : Int) = (q : Int) := IntWalk.u64_in _ (by omega)
      have hhq : Hid (hostP base ps[k].num = q) := Lib.hid (by rw [hostP, ← hnn, ← ha, ← hd, hq])
      rw [← hnn] at e0
      clear hnn hn32 hbs ha hd hq
      cases he : (((q : Int) == (x : Int)) : Bool)
      · have hn : Hid (hostP base ps[k].num ≠ x) := Lib.hid (fun e => by rw [hhq.out] at e; rw [e] at he; simp at he)
        go_wp2
        (refine wp_region_grown (by kernel_rfl) (by kernel_rfl) ?_; (repeat (go_big_quiet_step (fail))); refine wpQuiet_nil ?_; intro _ hw'; obtain ⟨sG, hw''⟩ := hw'; subst hw'')
        clear e0 e2 e3 f0 f1 f2 f3 f4 f5 f6
        go_wp2
        go_roundw
        case rel => exact ⟨k + 1, by omega, by go_num, Lib.hid (HB.out.trans (sG.below.mono HB.out.size)), Lib.hid (snoc_all hlt HK.out hn.out)⟩
        case measure => simp [intOf]; omega
      · have hn : Hid (hostP base ps[k].num = x) := Lib.hid (by rw [beq_iff_eq] at he; rw [hhq.out]; omega)
        go_wp2
        (refine wp_region_grown (by kernel_rfl) (by kernel_rfl) ?_; (repeat (go_big_quiet_step (fail))); refine wpQuiet_nil ?_; intro _ hw'; obtain ⟨sG, hw''⟩ := hw'; subst hw'')
        clear e0 e2 e3 f0 f1 f2 f3 f4 f5 f6
        go_wp2
        go_ret
        exact ⟨by rw [usedB_at hlt hn.out]; rfl, HB0.out.trans ((HB.out.trans (sG.below.mono HB.out.size)).mono HB0.out.size)⟩
    · obtain rfl : k = ps.length := by omega
      go_wp2
      go_ret
      exact ⟨by rw [usedB_none HK.out]; rfl, HB0.out.trans (HB.out.mono HB0.out.size)⟩
end Go.Proofs.Ytbaelhaajplbnaa
