/-
  A tree's keeper: what is found, whatever the path; the error of a path's directory.
-/
import Derived.Test.YtlpgandflkabcaaGreatDoorFTsB
namespace Go.Proofs.YtlpgandflkabcaaGreatDoor
open Go Go.RowKit Go.Shelf
set_option linter.unusedVariables false
set_option linter.unusedSimpArgs false

def foundN (ns : List NodeD) (p : List UInt8) : NodeD := if findE ns p = 0 then (ns[lowS ns p]?).getD noneN else noneN
theorem findE_zero {ns : List NodeD} (hr : RiseS ns) {p : List UInt8} (h : findE ns p = 0) : pathB p = true ∧ ∃ k, ∃ hk : k < ns.length, ns[k].path = p ∧ lowS ns p = k := by
  unfold findE at h
  cases hp : pathB p
  · rw [hp] at h; simp at h
  · cases hh : hasS ns p
    · rw [hp, hh] at h
      simp only [if_pos, Bool.false_eq_true, if_false] at h
      rcases missE_ne ns p with e | e <;> rw [e] at h <;> simp at h
    · obtain ⟨hk, hkp⟩ := (hasS_at hr).1 hh
      exact ⟨rfl, _, hk, hkp, rfl⟩
theorem findE_hit {ns : List NodeD} {p : List UInt8} (hp : pathB p = true) (h : hasS ns p = true) : findE ns p = 0 := by
  rw [findE, if_pos hp, if_pos h]
theorem foundN_at {ns : List NodeD} (hr : RiseS ns) {p : List UInt8} (h : findE ns p = 0) {k : Nat} (hk : k < ns.length) (hkp : ns[k].path = p) : foundN ns p = ns[k] := by
  obtain ⟨hp, j, hj, hjp, hl⟩ := findE_zero hr h
  obtain rfl := hr.inj hj hk (hjp.trans hkp.symm)
  rw [foundN, if_pos h, hl, List.getElem?_eq_getElem hj]; rfl
theorem findE_is (ns : List NodeD) (p : List UInt8) : findE ns p = 0 ∨ findE ns p = 2 ∨ findE ns p = 20 ∨ findE ns p = 22 := by
  unfold findE
  split
  · split
    · simp
    · rcases missE_ne ns p with e | e <;> simp [e]
  · simp
theorem find_any (ns : List NodeD) (hr : RiseS ns) (hlen : ns.length ≤ 1000000) (p : List UInt8) (hpl : p.length ≤ 1000000) (kb : Nat) (t : TypeId) (v : Value) (nx : Int) (W : World) (hk : W.heap[kb]? = some (.cells (keepV v nx) t)) (hN : NodesV W v ns) :
    Calls Tryz.prog 25 #[.pointer (some ⟨kb, 0, none⟩), .string (mkB p)] W fun e w' => e = .returned (.tuple #[.agg (nodeV (foundN ns p)), .int .i64 (findE ns p)]) ∧ Below W.heap.size W w' := by
  by_cases h : findE ns p = 0
  · obtain ⟨hp, k, hk2, hkp, hl⟩ := findE_zero hr h
    rw [foundN_at hr h hk2 hkp, h]
    exact find_hit ns hr hlen p hp hpl k hk2 hkp kb t v nx W hk hN
  · rw [show foundN ns p = noneN by rw [foundN, if_neg h]]
    exact find_fail ns hr hlen p hpl h kb t v nx W hk hN
theorem findT_any (ns : List NodeD) (hr : RiseS ns) (hlen : ns.length ≤ 1000000) (p : List UInt8) (hpl : p.length ≤ 1000000) (v : Value) (nx : Int) (W : World) (hN : NodesV W v ns) :
    Calls Tryz.prog 9 #[.agg (keepV v nx), .string (mkB p)] W fun e w' => e = .returned (.tuple #[.agg (nodeV (foundN ns p)), .int .i64 (findE ns p)]) ∧ Below W.heap.size W w' := by
  by_cases h : findE ns p = 0
  · obtain ⟨hp, k, hk2, hkp, hl⟩ := findE_zero hr h
    rw [foundN_at hr h hk2 hkp, h]
    exact findT_hit ns hr hlen p hp hpl k hk2 hkp v nx W hN
  · rw [show foundN ns p = noneN by rw [foundN, if_neg h]]
    exact findT_fail ns hr hlen p hpl h v nx W hN

/-- The error of a path's directory. -/
def parentE (ns : List NodeD) (p : List UInt8) : Int := if findE ns (dirP p) = 0 then (if (foundN ns (dirP p)).dir = true then 0 else 20) else findE ns (dirP p)
set_option maxRecDepth 100000 in
theorem parent_any (ns : List NodeD) (hr : RiseS ns) (hlen : ns.length ≤ 1000000) (p : List UInt8) (hp : pathB p = true) (kb : Nat) (t : TypeId) (v : Value) (nx : Int) (W : World) (hk : W.heap[kb]? = some (.cells (keepV v nx) t)) (hN : NodesV W v ns) :
    Calls Tryz.prog 28 #[.pointer (some ⟨kb, 0, none⟩), .string (mkB p)] W fun e w' => e = .returned (.int .i64 (parentE ns p)) ∧ Below W.heap.size W w' := by
  have hd := dirP_path hp
  have hl := path_len hp
  have HSP : Hid (∀ w : World, Calls Tryz.prog 51 #[.string (mkB p)] w fun e w' => e = .returned (.tuple #[.string (mkB (dirP p)), .string (mkB (nameP p))]) ∧ Below w.heap.size w w') := Lib.hid (fun w => splitp_any p hp w (by omega))
  have HFI : Hid (∀ W' : World, Below W.heap.size W W' → Calls Tryz.prog 25 #[.pointer (some ⟨kb, 0, none⟩), .string (mkB (dirP p))] W' fun e w' => e = .returned (.tuple #[.agg (nodeV (foundN ns (dirP p))), .int .i64 (findE ns (dirP p))]) ∧ Below W'.heap.size W' w') := Lib.hid (fun W' hb => find_any ns hr hlen _ (by omega) kb t v nx W' ((hb.block _ (heap_lt hk)).trans hk) (hN.below hb))
  have HE : Hid (parentE ns p = if findE ns (dirP p) = 0 then (if (foundN ns (dirP p)).dir = true then 0 else 20) else findE ns (dirP p)) := Lib.hid rfl
  clear hk hN hr hlen hp hd hl
  generalize parentE ns p = pe at HE ⊢
  generalize foundN ns (dirP p) = x at HFI HE
  generalize findE ns (dirP p) = fe at HFI HE
  by_cases hfe : fe = 0
  · subst hfe
    cases hxd : x.dir
    · have HE2 : Hid (pe = 20) := Lib.hid (by rw [HE.out, if_pos rfl, hxd]; rfl)
      clear HE
      go_enter Tryz.func28, Tryz.ntmps28
      go_wp2_with (first
        | (go_at_call 51; refine (HSP.out _).mono ?_; rintro e w1 ⟨rfl, hb1⟩; have HB1 := Lib.hid hb1; clear hb1)
        | (go_at_call 25; refine (HFI.out _ HB1.out).mono ?_; rintro e w2 ⟨rfl, hb2⟩; rw [show nodeV x = #[.string (mkB x.path), .bool false, .string (mkB x.data), .int .i64 x.id] by rw [nodeV, hxd]]; have HB2 := Lib.hid (HB1.out.trans (hb2.mono HB1.out.size)); clear hb2))
      go_ret
      exact ⟨by rw [HE2.out]; rfl, HB2.out.alloc HB2.out.size _⟩
    · have HE2 : Hid (pe = 0) := Lib.hid (by rw [HE.out, if_pos rfl, hxd]; rfl)
      clear HE
      go_enter Tryz.func28, Tryz.ntmps28
      go_wp2_with (first
        | (go_at_call 51; refine (HSP.out _).mono ?_; rintro e w1 ⟨rfl, hb1⟩; have HB1 := Lib.hid hb1; clear hb1)
        | (go_at_call 25; refine (HFI.out _ HB1.out).mono ?_; rintro e w2 ⟨rfl, hb2⟩; rw [show nodeV x = #[.string (mkB x.path), .bool true, .string (mkB x.data), .int .i64 x.id] by rw [nodeV, hxd]]; have HB2 := Lib.hid (HB1.out.trans (hb2.mono HB1.out.size)); clear hb2))
      go_ret
      exact ⟨by rw [HE2.out]; rfl, HB2.out.alloc HB2.out.size _⟩
  · have HE2 : Hid (pe = fe) := Lib.hid (by rw [HE.out, if_neg hfe])
    clear HE
    go_enter Tryz.func28, Tryz.ntmps28
    go_wp2_with (first
      | (go_at_call 51; refine (HSP.out _).mono ?_; rintro e w1 ⟨rfl, hb1⟩; have HB1 := Lib.hid hb1; clear hb1)
      | (go_at_call 25; refine (HFI.out _ HB1.out).mono ?_; rintro e w2 ⟨rfl, hb2⟩; have HB2 := Lib.hid (HB1.out.trans (hb2.mono HB1.out.size)); clear hb2))
    go_ret
    exact ⟨by rw [HE2.out]; rfl, HB2.out.alloc HB2.out.size _⟩
end Go.Proofs.YtlpgandflkabcaaGreatDoor
