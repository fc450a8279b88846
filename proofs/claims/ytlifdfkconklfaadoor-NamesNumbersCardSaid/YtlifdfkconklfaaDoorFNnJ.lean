/-
  Names: the walk of NamesBack.
-/
import Derived.Test.YtlifdfkconklfaaDoorFNnI
namespace Go.Proofs.YtlifdfkconklfaaDoor
open Go Go.RowKit
set_option linter.unusedVariables false
set_option linter.unusedSimpArgs false

/-- None of the first k is the name's. -/
def noneTo (l : List SymD) (name : List UInt8) (k : Nat) : Prop := ∀ j, j < k → goodAt l name j = false
theorem noneTo_end {l : List SymD} {name : List UInt8} (h : noneTo l name l.length) : (List.range l.length).find? (goodAt l name) = none := by
  rw [List.find?_eq_none]
  intro x hx
  rw [h x (List.mem_range.1 hx)]; simp
theorem noneTo_some {l : List SymD} {name : List UInt8} {k : Nat} (hk : k < l.length) (h : noneTo l name k) (hg : goodAt l name k = true) : (List.range l.length).find? (goodAt l name) = some k := by
  rw [List.find?_range_eq_some]
  exact ⟨hg, List.mem_range.2 hk, fun j hj => by rw [h j hj]; rfl⟩

set_option maxHeartbeats 4000000 in
set_option maxRecDepth 100000 in
theorem namesBack_walk (l : List SymD) (hok : AllOk l) (hlen : l.length ≤ 140737488351232) (m : Nat) (hm : m < 256) (name : List UInt8) (hnm : name.length ≤ 140737488351232) (vp : Option Addr) (cap : Nat) (w : World) (h : SymsV w (.slice vp l.length cap) l) :
    Calls Tryd.prog 5 #[.slice vp l.length cap, .int .u8 m, .string (mkB name)] w fun e w' => e = .returned (.bool true) ∧ Below w.heap.size w w' := by
  have HAW : Hid (∀ w, Calls Tryd.prog 8 #[] w fun e w' => e = .returned (.bool true) ∧ Below w.heap.size w w') := Lib.hid awake15_any
  have HS := Lib.hid h; have OK := Lib.hid hok
  have hli : (l.length : Int) ≤ 140737488351232 := by omega
  have hni : (name.length : Int) ≤ 140737488351232 := by omega
  have hmi : (m : Int) ≤ 255 := by omega
  have hns := mkB_size name
  by_cases h60 : l.length ≤ 60
  · have h60i : (l.length : Int) ≤ 60 := by omega
    by_cases h100 : name.length ≤ 100
    · have h100i : (name.length : Int) ≤ 100 := by omega
      have HF2 : Hid (∀ v, Below w.heap.size w v → Calls Tryd.prog 17 #[.slice vp l.length cap] v fun e w' => e = .returned (.bool (fitL l)) ∧ Below v.heap.size v w') := Lib.hid (fun v hb => rfit_any l OK.out (by omega) _ v (HS.out.below hb))
      cases hfl : fitL l
      · rw [hfl] at HF2
        clear h hok hlen h60 h100 hnm hm hfl
        go_enter Tryd.func5, Tryd.ntmps5
        go_wp2_with (first
          | (go_at_call 17; refine (HF2.out _ (Below.refl _ _)).mono ?_; rintro e w1 ⟨rfl, hb⟩; have HB1 := Lib.hid hb; clear hb)
          | (go_at_call 8; refine (HAW.out _).mono ?_; rintro e w2 ⟨rfl, hb⟩; have HB2 := hidB HB1 hb; clear hb))
        go_ret
        exact ⟨rfl, HB2.out⟩
      · rw [hfl] at HF2
        obtain ⟨q, hq⟩ : ∃ q : Nat, (m : Int) % 64 = (q : Int) := ⟨m % 64, by omega⟩
        obtain ⟨n, hn⟩ : ∃ n : Nat, (q : Int) + 1 = (n : Int) := ⟨q + 1, rfl⟩
        have hok2 : okW l n = true := by rw [okW, hfl, decide_eq_true (show 1 ≤ (n : Int) by omega), decide_eq_true (show (n : Int) ≤ 64 by omega)]; rfl
        have l1 := symsT_len hok2; have l2 := strsT_len hok2; have l3 := hashT_len hok2
        have HW1 : Hid (∀ v, Below w.heap.size w v → Calls Tryd.prog 18 #[.slice vp l.length cap, .int .i64 n] v fun e w' => e = .returned (.agg #[.string (mkB (symsT l n)), .string (mkB (strsT l n)), .string (mkB (hashT l n))]) ∧ Below v.heap.size v w') := Lib.hid (fun v hb => write_any l OK.out (by omega) n (by omega) (by omega) vp cap v (HS.out.below hb))
        have HRD : Hid (∀ v, Calls Tryd.prog 9 #[.agg #[.string (mkB (symsT l n)), .string (mkB (strsT l n)), .string (mkB (hashT l n))]] v fun e w' => ∃ u, e = .returned (.tuple #[u, .int .i64 0]) ∧ SymsV w' u l ∧ Below v.heap.size v w') := Lib.hid (fun v => by
          refine (read_any (symsT l n) (strsT l n) (hashT l n) (by omega) (by omega) v).mono ?_
          rintro e w' ⟨u, rfl, hs, hb⟩
          rw [read_written OK.out hok2] at hs ⊢
          exact ⟨u, rfl, hs, hb⟩)
        obtain ⟨O, hO⟩ : ∃ O, O = (List.range l.length).find? (goodAt l name) := ⟨_, rfl⟩
        have HFD : Hid (∀ v, Calls Tryd.prog 11 #[.agg #[.string (mkB (symsT l n)), .string (mkB (strsT l n)), .string (mkB (hashT l n))], .string (mkB name)] v (FindPost O v)) := Lib.hid (fun v => by
          have := find_any (symsT l n) (strsT l n) (hashT l n) name (by omega) (by omega) (by omega) (by omega) v
          rw [find_written OK.out hok2, ← hO] at this
          exact this)
        obtain ⟨S1, hS1⟩ : ∃ S, S = symsT l n := ⟨_, rfl⟩
        obtain ⟨S2, hS2⟩ : ∃ S, S = strsT l n := ⟨_, rfl⟩
        obtain ⟨S3, hS3⟩ : ∃ S, S = hashT l n := ⟨_, rfl⟩
        rw [← hS1, ← hS2, ← hS3] at HW1 HRD HFD
        have HO := Lib.hid hO
        have HN := Lib.hid hn
        have HSM : Hid (∀ v u, SymsV v (.slice vp l.length cap) l → SymsV v u l → Calls Tryd.prog 13 #[.slice vp l.length cap, u] v fun e w' => e = .returned (.bool true) ∧ Below v.heap.size v w') := Lib.hid (fun v u h1 h2 => by
          have := same_any (.slice vp l.length cap) u l l OK.out OK.out (by omega) (by omega) v h1 h2
          rwa [decide_eq_true rfl] at this)
        clear h hok hlen h60 h100 hnm hm hfl hS1 hS2 hS3 l1 l2 l3 hok2 hO
        go_enter Tryd.func5, Tryd.ntmps5
        go_upto_region 4 with (first
          | (go_at_call 17; refine (HF2.out _ (Below.refl _ _)).mono ?_; rintro e w1 ⟨rfl, hb⟩; have HB1 := Lib.hid hb; clear hb)
          | (go_at_call 18; refine (HW1.out _ HB1.out).mono ?_; rintro e w2 ⟨rfl, hb⟩; have HB2 := hidB HB1 hb; clear hb))
        obtain ⟨W, hW⟩ : ∃ W, W = w2.alloc (.cells #[.string (mkB S1), .string (mkB S2), .string (mkB S3)] 23) := ⟨_, rfl⟩
        have HT : Hid (∀ v, Below W.heap.size W v → v.heap[w2.heap.size]? = some (.cells #[.string (mkB S1), .string (mkB S2), .string (mkB S3)] 23)) := Lib.hid (fun v hv => by rw [hv.block _ (by rw [hW]; simp only [heap_len]; omega), hW]; exact heap_new _ _ _ rfl)
        have HWB : Hid (Below w.heap.size w W) := Lib.hid (by rw [hW]; exact HB2.out.alloc HB2.out.size _)
        have HB0 : Hid (Below W.heap.size W W) := Lib.hid (Below.refl _ _)
        have HTS : Hid ((Tryd.prog.info? 23).map (·.size) = some (#[Value.string (mkB S1), .string (mkB S2), .string (mkB S3)]).size) := Lib.hid (tab_size S1 S2 S3)
        rw [← hW]
        clear hW
        go_upto_region 8 with (first
          | (refine wpl_load 23 ?_; refine LoadGoal.of #[.string (mkB S1), .string (mkB S2), .string (mkB S3)] rfl (HT.out _ (by first | exact HB4.out | exact HB0.out)) (by kernel_rfl) HTS.out rfl ?_)
          | (go_at_call 9; refine (HRD.out _).mono ?_; rintro e w3 ⟨u, rfl, hs, hb⟩; have HS3 := Lib.hid hs; have HB3 := hidB HB0 hb; clear hb hs)
          | (go_at_call 13; refine (HSM.out _ u (HS.out.below (HWB.out.trans (HB3.out.mono HWB.out.size))) HS3.out).mono ?_; rintro e w4 ⟨rfl, hb⟩; have HB4 := hidB HB3 hb; clear hb)
          | (go_at_call 11; refine (HFD.out _).mono ?_; rintro e w5 ⟨rfl, hb⟩; have HB5 := hidB HB4 hb; clear hb))
        go_wp2
        go_loopw [55] (fun i wr => ∃ k : Nat, k ≤ l.length ∧ i = .int .i64 (k : Int) ∧ Hid (noneTo l name k) ∧ Hid (Below W.heap.size W wr)) (fun i _ => l.length - (intOf i).toNat)
        case atStart => exact ⟨0, Nat.zero_le _, rfl, Lib.hid (fun j hj => absurd hj (Nat.not_lt_zero j)), HB5⟩
        case round =>
          obtain ⟨k, hk, rfl, HNT, HB⟩ := hrel
          by_cases hlt : k < l.length
          · have hki : (k : Int) < (l.length : Int) := by omega
            obtain ⟨b, off, hvp, hat⟩ : ∃ b off, vp = some ⟨b, off, none⟩ ∧ SymsAt w b off l := by
              rcases HS.out with ⟨hv, hl0⟩ | ⟨b, off, cap, hv, hat⟩
              · have h2 := congrArg List.length hl0; rw [List.length_nil] at h2; omega
              · cases hv; exact ⟨b, off, rfl, hat⟩
            subst hvp
            have HR : Hid (wr.rangeAt b (off + k * 5) (symV l[k]).toList) := Lib.hid ((hat.below (HWB.out.trans (HB.out.mono HWB.out.size))).at_ k hlt)
            obtain ⟨s, hs⟩ : ∃ s, s = l[k] := ⟨_, rfl⟩
            have hga : Hid (goodAt l name k = good name s) := Lib.hid (by rw [goodAt_is hlt, hs])
            rw [← hs] at HR
            clear hs hat
            obtain ⟨nm, sv, sz, sb, sp⟩ := s
            have d0 : wr.cell? ⟨b, off + k * 5, none⟩ = some (.string (mkB nm)) := HR.out 0 _ rfl
            have d1 : wr.cell? ⟨b, off + k * 5 + 1, none⟩ = some (.int .u32 sv) := HR.out 1 _ rfl
            have d2 : wr.cell? ⟨b, off + k * 5 + 2, none⟩ = some (.int .u32 sz) := HR.out 2 _ rfl
            have d3 : wr.cell? ⟨b, off + k * 5 + 3, none⟩ = some (.int .i64 sb) := HR.out 3 _ rfl
            have d4 : wr.cell? ⟨b, off + k * 5 + 4, none⟩ = some (.int .i64 sp) := HR.out 4 _ rfl
            have next : good name ⟨nm, sv, sz, sb, sp⟩ = false → Hid (noneTo l name (k + 1)) := fun e => Lib.hid (fun j hj => by
              by_cases hjk : j = k
              · rw [hjk, hga.out]; exact e
              · exact HNT.out j (by omega))
            have NX := Lib.hid next
            clear HR next
            by_cases e1 : nm = name
            · subst e1
              by_cases e2 : sp = 0
              · have HK := NX.out (by rw [good, e2]; simp)
                subst e2
                clear NX
                go_wp2
                go_roundw
                case rel => exact ⟨k + 1, by omega, by go_num, HK, Lib.hid (HB.out.alloc HB.out.size _)⟩
                case measure => simp [intOf]; omega
              · have e2' : (sp != 0) = true := by rw [bne_iff_ne]; exact e2
                by_cases e3 : sb = 0
                · have HK := NX.out (by rw [good, e3]; simp)
                  subst e3
                  clear NX
                  go_wp2
                  go_roundw
                  case rel => exact ⟨k + 1, by omega, by go_num, HK, Lib.hid (HB.out.alloc HB.out.size _)⟩
                  case measure => simp [intOf]; omega
                · have e3' : (sb != 0) = true := by rw [bne_iff_ne]; exact e3
                  have hgd : good nm ⟨nm, sv, sz, sb, sp⟩ = true := by simp [good, e2, e3]
                  have hOk : O = some k := by rw [HO.out]; exact noneTo_some hlt HNT.out (hga.out.trans hgd)
                  have hv : (numV O : Int) = (k : Int) := by rw [hOk]; rfl
                  have hi : O.isSome = true := by rw [hOk]; rfl
                  clear NX hgd hOk hga HO
                  go_wp2_with (go_at_call 8; refine (HAW.out _).mono ?_; rintro e w6 ⟨rfl, hb⟩; have HB6 := hidB (Lib.hid (HB.out.alloc HB.out.size _)) hb; clear hb)
                  go_ret
                  exact ⟨rfl, HWB.out.trans (HB6.out.mono HWB.out.size)⟩
            · have hne2 : ((mkB nm).toList == (mkB name).toList) = false := by rw [bytes_toList, bytes_toList]; exact beq_eq_false_iff_ne.2 e1
              have hne1 : mkB nm ≠ mkB name := fun e => e1 (mkB_inj.1 e)
              have HK := NX.out (by simp [good, e1])
              clear NX e1
              go_wp2
              go_roundw
              case rel => exact ⟨k + 1, by omega, by go_num, HK, Lib.hid (HB.out.alloc HB.out.size _)⟩
              case measure => simp [intOf]; omega
          · obtain rfl : k = l.length := by omega
            have hOn : O = none := by rw [HO.out]; exact noneTo_end HNT.out
            have hv : (numV O : Int) = 0 := by rw [hOn]; rfl
            have hi : O.isSome = false := by rw [hOn]; rfl
            clear hOn HO hlt hk
            go_wp2_with (go_at_call 8; refine (HAW.out _).mono ?_; rintro e w6 ⟨rfl, hb⟩; have HB6 := hidB HB hb; clear hb)
            go_ret
            exact ⟨rfl, HWB.out.trans (HB6.out.mono HWB.out.size)⟩
    · have h100i : (100 : Int) < (name.length : Int) := by omega
      clear h hok hlen h60 h100 hnm hm
      go_enter Tryd.func5, Tryd.ntmps5
      go_wp2_with (go_at_call 8; refine (HAW.out _).mono ?_; rintro e w2 ⟨rfl, hb⟩)
      go_ret
      exact ⟨rfl, hb⟩
  · have h60i : (60 : Int) < (l.length : Int) := by omega
    clear h hok hlen h60 hnm hm
    go_enter Tryd.func5, Tryd.ntmps5
    go_wp2_with (go_at_call 8; refine (HAW.out _).mono ?_; rintro e w2 ⟨rfl, hb⟩)
    go_ret
    exact ⟨rfl, hb⟩
end Go.Proofs.YtlifdfkconklfaaDoor
