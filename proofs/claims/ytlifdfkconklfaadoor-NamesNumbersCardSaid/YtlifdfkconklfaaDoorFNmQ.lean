/-
  Names: the document's Find.
-/
import Derived.Test.YtlifdfkconklfaaDoorFNmP
namespace Go.Proofs.YtlifdfkconklfaaDoor
open Go Go.RowKit
set_option linter.unusedVariables false
set_option linter.unusedSimpArgs false

/-- Is it this name's, and there for others? -/
def good (name : List UInt8) (s : SymD) : Bool := decide (s.name = name) && (decide (s.part ≠ 0) && decide (s.bind ≠ 0))
/-- Along a way, from a place (one more than it) on. -/
def seekG (hb : List UInt8) (ways : Nat) (l : List SymD) (name : List UInt8) : Nat → Option Nat → Option Nat
  | 0, _ => none
  | _ + 1, none => none
  | f + 1, some k => if h : 1 ≤ k ∧ k ≤ l.length then (if good name (l[k - 1]'(by omega)) then some (k - 1) else seekG hb ways l name f (numAt hb (2 + ways + k))) else none
def findL (hb : List UInt8) (l : List SymD) (name : List UInt8) : Option Nat :=
  match numAt hb 0 with
  | none => none
  | some ways => if ways = 0 then none else seekG hb ways l name (l.length + 1) (numAt hb (2 + hashL name % ways))
def findF (syms strs hb name : List UInt8) : Option Nat := (readF syms strs).bind fun l => findL hb l name
theorem seekG_nil (hb : List UInt8) (ways : Nat) (name : List UInt8) (f : Nat) (c : Option Nat) : seekG hb ways [] name f c = none := by
  cases f with
  | zero => rfl
  | succ f =>
    cases c with
    | none => rfl
    | some k => rw [seekG, dif_neg (by simp; omega)]
def FindPost (o : Option Nat) (w : World) (e : Ending) (w' : World) : Prop := e = .returned (.tuple #[.int .i64 (numV o : Nat), .bool o.isSome]) ∧ Below w.heap.size w w'
theorem numAt_lt {hb : List UInt8} {k n : Nat} (h : numAt hb k = some n) : n < 4294967296 := by
  unfold numAt at h
  split at h
  · cases h; exact wordAt_lt _ _
  · cases h
theorem readF_ok {syms strs : List UInt8} {l : List SymD} (h : readF syms strs = some l) (hs : strs.length ≤ 140737488351232) : AllOk l ∧ l.length ≤ 201 := by
  have hg : ∀ (k : Nat) (r : List UInt8) (l : List SymD), readG strs k r = some l → AllOk l ∧ l.length = k := by
    intro k
    induction k with
    | zero => intro r l h; cases h; exact ⟨fun s hs => (by cases hs), rfl⟩
    | succ k ih =>
      intro r l h
      rw [readG] at h
      split at h
      · cases hg : readG strs k (r.drop 16) with
        | none => rw [hg] at h; cases h
        | some m =>
          rw [hg] at h
          cases h
          obtain ⟨h1, h2⟩ := ih _ _ hg
          refine ⟨fun s hs' => ?_, by simp [h2]⟩
          rcases List.mem_cons.1 hs' with rfl | h3
          · exact chunkSym_ok _ _ hs
          · exact h1 s h3
      · cases h
  unfold readF at h
  split at h
  · rename_i hr
    have h3 : syms.length / 16 ≤ 201 := by
      simp only [readOk, Bool.and_eq_true, decide_eq_true_eq] at hr
      exact hr.2.2.1
    obtain ⟨h1, h2⟩ := hg _ _ _ h
    exact ⟨h1, by omega⟩
  · cases h
set_option maxHeartbeats 4000000 in
set_option maxRecDepth 100000 in
theorem rfind_any (syms strs hb name : List UInt8) (hl : syms.length ≤ 1000000) (hst : strs.length ≤ 1000000) (hhb : hb.length ≤ 1000000) (hnm : name.length ≤ 1000000) (w : World) :
    Calls Tryd.prog 12 #[.agg (tabV syms strs hb), .string (mkB name)] w (FindPost (findF syms strs hb name) w) := by
  have HRD : Hid (∀ w, Calls Tryd.prog 10 #[.agg (tabV syms strs hb)] w (ReadPost (readF syms strs) w)) := Lib.hid (fun w => rread_any syms strs hb hl hst w)
  have HN0 : Hid (∀ w, Calls Tryd.prog 30 #[.string (mkB hb), .int .u64 0] w fun e w' => e = .returned (.tuple #[.int .u32 (numV (numAt hb 0) : Nat), .bool (numAt hb 0).isSome]) ∧ w = w') := Lib.hid (fun w => num_any hb 0 hhb (by omega) w)
  have HHB := Lib.hid hhb
  have HNM : Hid (name.length ≤ 140737488351232) := Lib.hid (by omega)
  have HSTR : Hid (strs.length ≤ 140737488351232) := Lib.hid (by omega)
  have HTS := Lib.hid (tab_size syms strs hb)
  obtain ⟨R, hR⟩ : ∃ R, R = readF syms strs := ⟨_, rfl⟩
  obtain ⟨N0, hN0⟩ : ∃ N0, N0 = numAt hb 0 := ⟨_, rfl⟩
  have HR := Lib.hid hR; have HN := Lib.hid hN0
  rw [← hR] at HRD
  rw [← hN0] at HN0
  clear hR hN0 hl hst hhb hnm
  go_enter Tryd.func12, Tryd.ntmps12
  go_upto_region 1 with fail
  obtain ⟨W, hW⟩ : ∃ W, W = w.alloc (.cells (tabV syms strs hb) 23) := ⟨_, rfl⟩
  have HROW : Hid (W.heap[w.heap.size]? = some (.cells (tabV syms strs hb) 23)) := Lib.hid (by rw [hW]; exact heap_new _ _ _ rfl)
  have HWB : Hid (Below w.heap.size w W ∧ w.heap.size < W.heap.size) := Lib.hid ⟨by rw [hW]; exact (Below.refl _ _).alloc (Nat.le_refl _) _, by rw [hW]; simp only [heap_len]; omega⟩
  rw [← hW]
  clear hW
  go_upto_region 2 with (first
    | (refine wpl_load 23 ?_; refine LoadGoal.of (tabV syms strs hb) rfl HROW.out (by kernel_rfl) HTS.out rfl ?_)
    | (go_at_call 10; refine (HRD.out _).mono ?_; rintro e w1 ⟨v, rfl, hsv, hb1⟩; have HSV := Lib.hid hsv; have HB1 : Hid (Below W.heap.size W w1) := Lib.hid hb1; clear hsv hb1))
  have h2 : w1.cell? ⟨w.heap.size, 2, none⟩ = some (.string (mkB hb)) := (HB1.out.cell (p := ⟨w.heap.size, 2, none⟩) HWB.out.2).trans (cell_at HROW.out rfl)
  have HBB : Hid (Below w.heap.size w w1) := Lib.hid (HWB.out.1.trans (HB1.out.mono (Nat.le_of_lt HWB.out.2)))
  have HLW : Hid (w.heap.size < w1.heap.size) := Lib.hid (Nat.lt_of_lt_of_le HWB.out.2 HB1.out.size)
  have H2 := Lib.hid h2
  cases R with
  | none =>
    have hres : Hid (findF syms strs hb name = none) := Lib.hid (by rw [findF, ← HR.out]; rfl)
    go_wp2_with (go_at_call 30; refine (HN0.out _).mono ?_; rintro e w2 ⟨rfl, rfl⟩)
    go_ret2
    exact ⟨by rw [hres.out]; rfl, HBB.out⟩
  | some l =>
    obtain ⟨hall, hlen⟩ := readF_ok HR.out.symm HSTR.out
    have HALL := Lib.hid hall
    clear hall
    have hres0 : Hid (findF syms strs hb name = findL hb l name) := Lib.hid (by rw [findF, ← HR.out]; rfl)
    cases N0 with
    | none =>
      have hres : Hid (findF syms strs hb name = none) := Lib.hid (by rw [hres0.out, findL, ← HN.out])
      go_wp2_with (go_at_call 30; refine (HN0.out _).mono ?_; rintro e w2 ⟨rfl, rfl⟩)
      go_ret2
      exact ⟨by rw [hres.out]; rfl, HBB.out⟩
    | some ways =>
      by_cases hw0 : ways = 0
      · subst hw0
        have hres : Hid (findF syms strs hb name = none) := Lib.hid (by rw [hres0.out, findL, ← HN.out]; rfl)
        go_wp2_with (go_at_call 30; refine (HN0.out _).mono ?_; rintro e w2 ⟨rfl, rfl⟩)
        go_ret2
        exact ⟨by rw [hres.out]; rfl, HBB.out⟩
      · have hwl : ways < 4294967296 := numAt_lt HN.out.symm
        have hwi : (ways : Int) ≤ 4294967295 := by omega
        have hwp : (0 : Int) < (ways : Int) := by omega
        have hwz : ((ways : Int) == 0) = false := by rw [beq_eq_false_iff_ne]; omega
        have hres1 : Hid (findF syms strs hb name = seekG hb ways l name (l.length + 1) (numAt hb (2 + hashL name % ways))) := Lib.hid (by rw [hres0.out, findL, ← HN.out]; exact if_neg hw0)
        obtain ⟨h0, hh0⟩ : ∃ h0, h0 = hashL name := ⟨_, rfl⟩
        obtain ⟨m0, hm0⟩ : ∃ m0 : Nat, (h0 : Int) % (ways : Int) = (m0 : Int) := ⟨h0 % ways, by omega⟩
        have hmw : m0 < ways := by have := Int.emod_lt_of_pos (h0 : Int) hwp; omega
        have hm1 : (m0 : Int) ≤ 4294967295 := by omega
        obtain ⟨q0, hq0⟩ : ∃ q0 : Nat, (2 : Int) + (m0 : Int) = (q0 : Int) := ⟨2 + m0, by omega⟩
        have HHS : Hid (∀ w, Calls Tryd.prog 15 #[.string (mkB name)] w fun e w' => e = .returned (.int .u32 (h0 : Nat)) ∧ w = w') := Lib.hid (fun w => by rw [hh0]; exact rhash_any name HNM.out w)
        have HN1 : Hid (∀ w, Calls Tryd.prog 30 #[.string (mkB hb), .int .u64 q0] w fun e w' => e = .returned (.tuple #[.int .u32 (numV (numAt hb q0) : Nat), .bool (numAt hb q0).isSome]) ∧ w = w') := Lib.hid (fun w => num_any hb q0 HHB.out (by omega) w)
        have hres2 : Hid (findF syms strs hb name = seekG hb ways l name (l.length + 1) (numAt hb q0)) := Lib.hid (by rw [hres1.out, ← hh0, show 2 + h0 % ways = q0 by have : ((h0 % ways : Nat) : Int) = m0 := hm0; omega])
        have g2 := Grown.cell (o := 2) (v := .string (mkB hb)) ((HB1.out.block _ HWB.out.2).trans HROW.out) rfl
        have hwne : (ways : Int) ≠ 0 := by omega
        have HN0b : Hid (∀ w, Calls Tryd.prog 30 #[.string (mkB hb), .int .u64 0] w fun e w' => e = .returned (.tuple #[.int .u32 (ways : Nat), .bool true]) ∧ w = w') := Lib.hid HN0.out
        clear hh0 hw0
        go_upto_region 5 with (go_at_call 30; refine (HN0b.out _).mono ?_; rintro e w2 ⟨rfl, rfl⟩)
        (refine wp_region_grown (by kernel_rfl) (by kernel_rfl) ?_; (repeat (go_big_quiet_step (first | (go_at_call 15; exact Calls.grown_same ((HHS.out _).mono fun _ _ h => ⟨h.1, h.2.symm⟩)) | (go_at_call 30; exact Calls.grown_same ((HN1.out _).mono fun _ _ h => ⟨h.1, h.2.symm⟩))))); refine wpQuiet_nil ?_; intro _ hw'; obtain ⟨sG, hw''⟩ := hw'; subst hw'')
        obtain ⟨W3, hW3⟩ : ∃ W3, W3 = sG.w := ⟨_, rfl⟩
        have HB3 : Hid (Below w1.heap.size w1 W3) := Lib.hid (by rw [hW3]; exact sG.below)
        rw [← hW3]
        clear hW3 g2 h2 sG hm0 hq0
        obtain ⟨c0, hc0⟩ : ∃ c0, c0 = numAt hb q0 := ⟨_, rfl⟩
        have hclt : ∀ k, c0 = some k → k < 4294967296 := fun k e => numAt_lt (hc0.symm.trans e)
        rw [← hc0] at hres2
        rw [← hc0]
        clear hc0
        rcases (show SymsV w1 v l from HSV.out) with ⟨rfl, rfl⟩ | ⟨b, off, cap, rfl, hsy⟩
        · have hres : Hid (findF syms strs hb name = none) := Lib.hid (by rw [hres2.out, seekG_nil])
          have HBE : Hid (Below w.heap.size w W3) := Lib.hid (HBB.out.trans (HB3.out.mono (Nat.le_of_lt HLW.out)))
          cases c0 with
          | none =>
            go_wp2
            refine wp_loop_rounds 1 ?_
            rw [rounds_succ]
            go_wp2
            go_ret2
            exact ⟨by rw [hres.out]; rfl, HBE.out⟩
          | some k =>
            have hk1 := hclt k rfl
            have hki : (k : Int) ≤ 4294967295 := by omega
            have hnv : (numV (some k) : Int) = (k : Int) := rfl
            rw [hnv]
            by_cases hk0 : k = 0
            · subst hk0
              clear hclt hnv
              go_wp2
              refine wp_loop_rounds 1 ?_
              rw [rounds_succ]
              go_wp2
              go_ret2
              exact ⟨by rw [hres.out]; rfl, HBE.out⟩
            · have hkp : (0 : Int) < (k : Int) := by omega
              have hkz : ((k : Int) == 0) = false := by rw [beq_eq_false_iff_ne]; omega
              clear hk0 hclt hnv
              go_wp2
              refine wp_loop_rounds 1 ?_
              rw [rounds_succ]
              go_wp2
              go_ret2
              exact ⟨by rw [hres.out]; rfl, HBE.out⟩
        · have HSY := Lib.hid hsy
          have hli : (l.length : Int) ≤ 201 := by omega
          clear hsy HSV
          go_wp2
          go_loopw [9, 10, 11] (fun okv kv iv wr => ∃ (c : Option Nat) (i : Nat), okv = .bool c.isSome ∧ kv = .int .u32 (numV c : Nat) ∧ iv = .int .i64 (i : Int) ∧ i ≤ l.length + 1 ∧ (∀ k, c = some k → k < 4294967296) ∧ Hid (Below w1.heap.size w1 wr) ∧
            Hid (findF syms strs hb name = seekG hb ways l name (l.length + 1 - i) c)) (fun _ _ x _ => l.length + 1 - (intOf x).toNat)
          case atStart => exact ⟨c0, 0, rfl, rfl, rfl, by omega, hclt, HB3, hres2⟩
          case round =>
            obtain ⟨c, i, rfl, rfl, rfl, hil, hcl, HB, HF⟩ := hrel
            have h2 : wr.cell? ⟨w.heap.size, 2, none⟩ = some (.string (mkB hb)) := (HB.out.cell (p := ⟨w.heap.size, 2, none⟩) HLW.out).trans H2.out
            have fin : ∀ (o : Option Nat) w', findF syms strs hb name = o → Below w1.heap.size w1 w' → FindPost (findF syms strs hb name) w (.returned (.tuple #[.int .i64 (numV o : Nat), .bool o.isSome])) w' := fun o w' e hb => ⟨by rw [e], HBB.out.trans (hb.mono (Nat.le_of_lt HLW.out))⟩
            have FIN := Lib.hid fin
            clear fin hclt
            by_cases hi1 : i ≤ l.length
            · have hii : (i : Int) ≤ (l.length : Int) := by omega
              cases c with
              | none =>
                have hres : Hid (findF syms strs hb name = none) := Lib.hid (by rw [HF.out, show l.length + 1 - i = (l.length - i) + 1 by omega]; rfl)
                go_wp2
                go_ret2
                exact FIN.out none _ hres.out HB.out
              | some k =>
                have hk1 := hcl k rfl
                have hki : (k : Int) ≤ 4294967295 := by omega
                have hnv : (numV (some k) : Int) = (k : Int) := rfl
                rw [hnv]
                clear hnv hcl
                by_cases hk : 1 ≤ k ∧ k ≤ l.length
                · obtain ⟨j, hj⟩ : ∃ j : Nat, (k : Int) - 1 = (j : Int) := ⟨k - 1, by omega⟩
                  have hjk : k - 1 = j := by omega
                  have hjl : j < l.length := by omega
                  have hkz : ((k : Int) == 0) = false := by rw [beq_eq_false_iff_ne]; omega
                  have hkl : (k : Int) ≤ (l.length : Int) := by omega
                  have hkp : (1 : Int) ≤ (k : Int) := by omega
                  have hji : (j : Int) < (l.length : Int) := by omega
                  obtain ⟨a1, ha1⟩ : ∃ a1 : Nat, (2 : Int) + (ways : Int) = (a1 : Int) := ⟨2 + ways, by omega⟩
                  obtain ⟨q1, hq1⟩ : ∃ q1 : Nat, (a1 : Int) + (k : Int) = (q1 : Int) := ⟨a1 + k, by omega⟩
                  have hab : (a1 : Int) ≤ 4294967299 := by omega
                  have HN2 : Hid (∀ w, Calls Tryd.prog 30 #[.string (mkB hb), .int .u64 q1] w fun e w' => e = .returned (.tuple #[.int .u32 (numV (numAt hb q1) : Nat), .bool (numAt hb q1).isSome]) ∧ w = w') := Lib.hid (fun w => num_any hb q1 HHB.out (by omega) w)
                  obtain ⟨S, hS⟩ : ∃ S, S = l[j] := ⟨_, rfl⟩
                  have HR : Hid (wr.rangeAt b (off + j * 5) (symV S).toList) := Lib.hid (by rw [hS]; exact ((HSY.out.below HB.out)).at_ j hjl)
                  have hst0 : Hid (findF syms strs hb name = if good name S then some j else seekG hb ways l name (l.length + 1 - (i + 1)) (numAt hb q1)) := Lib.hid (by
                    rw [HF.out, show l.length + 1 - i = (l.length + 1 - (i + 1)) + 1 by omega, seekG, dif_pos hk, show 2 + ways + k = q1 by omega]
                    subst hjk
                    rw [← hS])
                  have hst1 : Hid (good name S = false → findF syms strs hb name = seekG hb ways l name (l.length + 1 - (i + 1)) (numAt hb q1)) := Lib.hid (fun e => by rw [hst0.out, e]; rfl)
                  clear hS hk hjk
                  obtain ⟨nm, sv, sz, sb, sp⟩ := S
                  have d0 : wr.cell? ⟨b, off + j * 5, none⟩ = some (.string (mkB nm)) := HR.out 0 _ rfl
                  have d1 : wr.cell? ⟨b, off + j * 5 + 1, none⟩ = some (.int .u32 sv) := HR.out 1 _ rfl
                  have d2 : wr.cell? ⟨b, off + j * 5 + 2, none⟩ = some (.int .u32 sz) := HR.out 2 _ rfl
                  have d3 : wr.cell? ⟨b, off + j * 5 + 3, none⟩ = some (.int .i64 sb) := HR.out 3 _ rfl
                  have d4 : wr.cell? ⟨b, off + j * 5 + 4, none⟩ = some (.int .i64 sp) := HR.out 4 _ rfl
                  clear HR
                  have hlw : w.heap.size < wr.heap.size := Nat.lt_of_lt_of_le HLW.out HB.out.size
                  by_cases e1 : nm = name
                  · subst e1
                    by_cases e2 : sp = 0
                    · have hbad : good nm ⟨nm, sv, sz, sb, sp⟩ = false := by rw [good, e2]; simp
                      subst e2
                      have hst2 : Hid (findF syms strs hb nm = seekG hb ways l nm (l.length + 1 - (i + 1)) (numAt hb q1)) := Lib.hid (hst1.out hbad)
                      go_wp2_with (go_at_call 30; refine (HN2.out _).mono ?_; rintro e w2 ⟨rfl, rfl⟩)
                      go_roundw
                      case rel => exact ⟨numAt hb q1, i + 1, rfl, rfl, by go_num, by omega, fun k e => numAt_lt e, Lib.hid (HB.out.alloc HB.out.size _), hst2⟩
                      case measure => simp [intOf]; omega
                    · by_cases e3 : sb = 0
                      · have hbad : good nm ⟨nm, sv, sz, sb, sp⟩ = false := by rw [good, e3]; simp
                        subst e3
                        have e2' : (sp != 0) = true := by rw [bne_iff_ne]; exact e2
                        have hst2 : Hid (findF syms strs hb nm = seekG hb ways l nm (l.length + 1 - (i + 1)) (numAt hb q1)) := Lib.hid (hst1.out hbad)
                        go_wp2_with (go_at_call 30; refine (HN2.out _).mono ?_; rintro e w2 ⟨rfl, rfl⟩)
                        go_roundw
                        case rel => exact ⟨numAt hb q1, i + 1, rfl, rfl, by go_num, by omega, fun k e => numAt_lt e, Lib.hid (HB.out.alloc HB.out.size _), hst2⟩
                        case measure => simp [intOf]; omega
                      · have hgd : good nm ⟨nm, sv, sz, sb, sp⟩ = true := by simp [good, e2, e3]
                        have hres : Hid (findF syms strs hb nm = some j) := Lib.hid (by rw [hst0.out, hgd]; rfl)
                        have e2' : (sp != 0) = true := by rw [bne_iff_ne]; exact e2
                        have e3' : (sb != 0) = true := by rw [bne_iff_ne]; exact e3
                        go_wp2
                        go_ret2
                        exact FIN.out (some j) _ hres.out (HB.out.alloc HB.out.size _)
                  · have hne2 : ((mkB nm).toList == (mkB name).toList) = false := by rw [bytes_toList, bytes_toList]; exact beq_eq_false_iff_ne.2 e1
                    have hne1 : mkB nm ≠ mkB name := fun e => e1 (mkB_inj.1 e)
                    have hbad : good name ⟨nm, sv, sz, sb, sp⟩ = false := by simp [good, e1]
                    clear e1
                    have hst2 : Hid (findF syms strs hb name = seekG hb ways l name (l.length + 1 - (i + 1)) (numAt hb q1)) := Lib.hid (hst1.out hbad)
                    go_wp2_with (go_at_call 30; refine (HN2.out _).mono ?_; rintro e w2 ⟨rfl, rfl⟩)
                    go_roundw
                    case rel => exact ⟨numAt hb q1, i + 1, rfl, rfl, by go_num, by omega, fun k e => numAt_lt e, Lib.hid (HB.out.alloc HB.out.size _), hst2⟩
                    case measure => simp [intOf]; omega
                · have hres : Hid (findF syms strs hb name = none) := Lib.hid (by rw [HF.out, show l.length + 1 - i = (l.length - i) + 1 by omega, seekG, dif_neg hk])
                  by_cases hk0 : k = 0
                  · subst hk0
                    clear hk
                    go_wp2
                    go_ret2
                    exact FIN.out none _ hres.out HB.out
                  · have hkz : ((k : Int) == 0) = false := by rw [beq_eq_false_iff_ne]; omega
                    have hkg : (l.length : Int) < (k : Int) := by omega
                    clear hk hk0
                    go_wp2
                    go_ret2
                    exact FIN.out none _ hres.out HB.out
            · have hie : i = l.length + 1 := by omega
              subst hie
              have hres : Hid (findF syms strs hb name = none) := Lib.hid (by rw [HF.out, Nat.sub_self]; rfl)
              clear hi1 hil
              go_wp2
              go_ret2
              exact FIN.out none _ hres.out HB.out
end Go.Proofs.YtlifdfkconklfaaDoor
