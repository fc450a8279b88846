/-
  By the document: a path's directory, where a node is; a tree of few nodes.
-/
import Derived.Test.YtlpgandflkabcaaGreatDoorFTrU
namespace Go.Proofs.YtlpgandflkabcaaGreatDoor
open Go Go.RowKit Go.Shelf
set_option linter.unusedVariables false
set_option linter.unusedSimpArgs false

structure CutP (p a n : List UInt8) : Prop where
  eq : p = a ++ 47 :: n
  slash : (47 : UInt8) ∉ n
  dir : dirP p = if a = [] then [47] else a
  name : nameP p = n
theorem path_cut {p : List UInt8} (h : pathB p = true) : ∃ a n, CutP p a n := by
  obtain ⟨L, hL, rfl, hlen⟩ := path_parts h
  have hp : partsB (rootL L) = L := parts_rootL hL
  by_cases h0 : L = []
  · subst h0
    exact ⟨[], [], rfl, by simp, by decide, by decide⟩
  · obtain ⟨M, n, rfl⟩ : ∃ M n, L = M ++ [n] := ⟨L.dropLast, L.getLast h0, (List.dropLast_concat_getLast h0).symm⟩
    have hn := hL n (by simp)
    refine ⟨joinL M, n, rootL_snoc M n, hn.slash, ?_, by rw [nameP, hp]; simp⟩
    rw [dirP, hp, List.dropLast_concat]
    by_cases hM : M = []
    · subst hM; rfl
    · have hj : joinL M ≠ [] := by
        match M, hM with
        | q :: M, _ => rw [joinL_cons]; simp
      rw [if_neg hj, rootL_of hM]
set_option maxHeartbeats 2000000 in
theorem dirOf_any (p : List UInt8) (hp : pathB p = true) (w : World) :
    Calls Tryz.prog 21 #[.string (mkB p)] w fun e w' => e = .returned (.string (mkB (dirP p))) ∧ w' = w := by
  have hl := path_len hp
  obtain ⟨a, n, C⟩ := path_cut hp
  have hz := mkB_size p
  have hlen : (p.length : Int) ≤ 255 := by omega
  obtain ⟨k, hk⟩ : ∃ k, k = a.length := ⟨_, rfl⟩
  have hkl : k < p.length := by rw [C.eq, hk]; simp
  have hki : (k : Int) < p.length := by omega
  have HAT : Hid ((p[k]'hkl) = 47) := Lib.hid (by
    have h2 : p[k]? = some 47 := by rw [C.eq, hk, List.getElem?_append_right (Nat.le_refl _), Nat.sub_self]; rfl
    exact (List.getElem?_eq_some_iff.1 h2).2)
  have HNO : Hid (∀ j (h : j < p.length), k < j → p[j] ≠ 47) := Lib.hid (fun j h hkj e => by
    have h2 : p[j]? = some 47 := by rw [← e]; exact List.getElem?_eq_getElem h
    rw [C.eq, List.getElem?_append_right (by omega), show j - a.length = (j - k - 1) + 1 by omega, List.getElem?_cons_succ] at h2
    exact C.slash (List.mem_of_getElem? h2))
  have HX : Hid (k ≠ 0 → (mkB p).extract 0 k = mkB (dirP p)) := Lib.hid (fun h => by
    rw [mkB_take, C.dir, if_neg (fun e => h (by rw [hk, e]; rfl))]
    congr 1
    rw [C.eq, hk, List.take_left])
  have HX0 : Hid (k = 0 → dirP p = [47]) := Lib.hid (fun h => by
    rw [C.dir, if_pos (List.length_eq_zero_iff.1 (by omega))])
  clear hp C hk hl
  go_enter Tryz.func21, Tryz.ntmps21
  go_wp2
  go_loop [3] (fun i => ∃ j : Nat, k ≤ j ∧ j < p.length ∧ i = .int .i64 j) (fun i => (intOf i).toNat)
  case atStart => exact ⟨p.length - 1, by omega, by omega, by go_num⟩
  case round =>
    obtain ⟨j, hkj, hjl, rfl⟩ := hrel
    have hlt2 : j < (mkB p).size := by rw [hz]; exact hjl
    obtain ⟨v, hv⟩ : ∃ v : Nat, ((mkB p)[j]'hlt2).toNat = v := ⟨_, rfl⟩
    have HV : Hid ((p[j]'hjl).toNat = v) := Lib.hid hv
    have hji : (j : Int) < p.length := by omega
    by_cases hjk : j = k
    · subst hjk
      have hv47 : v = 47 := HV.out.symm.trans (congrArg UInt8.toNat HAT.out)
      subst hv47
      by_cases h0 : j = 0
      · subst h0
        have HD : Hid (dirP p = [47]) := Lib.hid (HX0.out rfl)
        clear HX0
        go_wp2
        go_ret
        exact ⟨congrArg (fun q => Ending.returned (Value.string (mkB q))) HD.out.symm, rfl⟩
      · have hpos : (0 : Int) < j := by omega
        have hne : ((j : Int) == 0) = false := beq_eq_false_iff_ne.2 (by omega)
        have hx := HX.out h0
        go_wp2
        go_ret
        exact ⟨rfl, rfl⟩
    · have hpos : (0 : Int) < j := by omega
      have c1 : ((v : Int) == 47) = false := beq_eq_false_iff_ne.2 (fun e => HNO.out j hjl (by omega) (UInt8.toNat_inj.1 (HV.out.trans (Int.ofNat.inj e))))
      go_wp2
      go_round
      case rel => exact ⟨j - 1, by omega, by omega, by go_num⟩
      case measure => simp [intOf]; omega
set_option maxHeartbeats 2000000 in
theorem place_any (ns : List NodeD) (hlen : ns.length ≤ 1000) (p : List UInt8) (v : Value) (nx : Int) (W : World) (hN : NodesV W v ns) :
    Calls Tryz.prog 20 #[.agg (keepV v nx), .string (mkB p)] W fun e w' => e = .returned (.int .i64 (placeS ns p)) ∧ Below W.heap.size W w' := by
  obtain ⟨q, c, rfl, hN0⟩ := hN
  have HN := Lib.hid hN0
  have hli : (ns.length : Int) ≤ 1000 := by omega
  clear hN0
  go_enter Tryz.func20, Tryz.ntmps20
  go_wp2
  go_loop [5] (fun i => ∃ k : Nat, k ≤ ns.length ∧ i = .int .i64 k ∧ Hid (∀ j (hj : j < ns.length), j < k → ns[j].path ≠ p)) (fun i => ns.length - (intOf i).toNat)
  case atStart => exact ⟨0, Nat.zero_le _, rfl, Lib.hid (fun j _ h => absurd h (Nat.not_lt_zero _))⟩
  case round =>
    obtain ⟨k, hk, rfl, HK⟩ := hrel
    by_cases hlt : k < ns.length
    · obtain ⟨b, off, rfl, hrow⟩ := HN.out (nonil hlt)
      have c0 := (hrow.below ((Below.refl W.heap.size W).alloc (Nat.le_refl _) (.cells (keepV (.slice (some ⟨b, off, none⟩) ns.length c) nx) 24))).c0 k hlt
      have h1 : ((mkB ns[k].path).toList == (mkB p).toList) = (ns[k].path == p) := by rw [mkB_toList, mkB_toList]
      clear hrow
      cases e1 : (ns[k].path == p)
      · have HE : Hid (ns[k].path ≠ p) := Lib.hid (beq_eq_false_iff_ne.1 e1)
        rw [e1] at h1
        clear e1
        go_wp2
        go_round
        case rel => exact ⟨k + 1, by omega, by go_num, Lib.hid (fun j hj hjk => by
          rcases Nat.lt_or_eq_of_le (Nat.le_of_lt_succ hjk) with h | rfl
          · exact HK.out j hj h
          · exact HE.out)⟩
        case measure => simp [intOf]; omega
      · have HE : Hid (placeS ns p = k) := Lib.hid (placeS_at hlt HK.out (beq_iff_eq.1 e1))
        rw [e1] at h1
        clear e1
        go_wp2
        go_ret
        exact ⟨by rw [HE.out]; rfl, (Below.refl _ _).alloc (Nat.le_refl _) _⟩
    · obtain rfl : k = ns.length := by omega
      have HE : Hid (placeS ns p = -1) := Lib.hid (placeS_none (by
        rw [Bool.eq_false_iff]
        intro h
        obtain ⟨x, hx, he⟩ := hasS_iff.1 h
        obtain ⟨j, hj, rfl⟩ := List.getElem_of_mem hx
        exact HK.out j hj hj he))
      go_wp2
      go_ret
      exact ⟨by rw [HE.out]; rfl, (Below.refl _ _).alloc (Nat.le_refl _) _⟩

/-- Few nodes, short paths. -/
def fewT (ns : List NodeD) : Bool := decide (ns.length ≤ 45) && ns.all fun x => decide (x.path.length ≤ 400)
set_option maxHeartbeats 2000000 in
theorem few_any (ns : List NodeD) (v : Value) (nx : Int) (W : World) (hN : NodesV W v ns) :
    Calls Tryz.prog 6 #[.agg (keepV v nx)] W fun e w' => e = .returned (.bool (fewT ns)) ∧ Below W.heap.size W w' := by
  obtain ⟨q, c, rfl, hN0⟩ := hN
  by_cases hlen : ns.length ≤ 45
  · have HN := Lib.hid hN0
    have hli : (ns.length : Int) ≤ 45 := by omega
    have HR : Hid (fewT ns = ns.all fun x => decide (x.path.length ≤ 400)) := Lib.hid (by rw [fewT, decide_eq_true hlen]; rfl)
    clear hN0
    go_enter Tryz.func6, Tryz.ntmps6
    go_wp2
    go_loopw [12] (fun i wr => ∃ k : Nat, k ≤ ns.length ∧ i = .int .i64 k ∧ Hid (Below W.heap.size W wr) ∧ Hid (∀ j (hj : j < ns.length), j < k → ns[j].path.length ≤ 400)) (fun i wr => ns.length - (intOf i).toNat)
    case atStart => exact ⟨0, Nat.zero_le _, rfl, Lib.hid ((Below.refl _ _).alloc (Nat.le_refl _) _), Lib.hid (fun j _ h => absurd h (Nat.not_lt_zero _))⟩
    case round =>
      obtain ⟨k, hk, rfl, HB, HK⟩ := hrel
      by_cases hlt : k < ns.length
      · obtain ⟨b, off, rfl, hrow⟩ := HN.out (nonil hlt)
        have hrow2 := hrow.below HB.out
        have c0 := hrow2.c0 k hlt
        have c1 := hrow2.c1 k hlt
        have c2 := hrow2.c2 k hlt
        have c3 := hrow2.c3 k hlt
        have hz := mkB_size ns[k].path
        clear hrow hrow2
        by_cases hp : ns[k].path.length ≤ 400
        · have HE := Lib.hid hp
          have hpi : (ns[k].path.length : Int) ≤ 400 := by omega
          go_wp2
          go_roundw
          case rel => exact ⟨k + 1, by omega, by go_num, Lib.hid (HB.out.alloc HB.out.size _), Lib.hid (fun j hj hjk => by
            rcases Nat.lt_or_eq_of_le (Nat.le_of_lt_succ hjk) with h | rfl
            · exact HK.out j hj h
            · exact HE.out)⟩
          case measure => simp [intOf]; omega
        · have HE : Hid ((ns.all fun x => decide (x.path.length ≤ 400)) = false) := Lib.hid (by
            rw [Bool.eq_false_iff]
            intro h
            have := List.all_eq_true.1 h _ (List.getElem_mem hlt)
            exact hp (of_decide_eq_true this))
          have hpi : ¬ (ns[k].path.length : Int) ≤ 400 := by omega
          go_wp2
          go_ret
          exact ⟨by rw [HR.out, HE.out]; rfl, HB.out.alloc HB.out.size _⟩
      · obtain rfl : k = ns.length := by omega
        have HE : Hid ((ns.all fun x => decide (x.path.length ≤ 400)) = true) := Lib.hid (List.all_eq_true.2 (fun x hx => by
          obtain ⟨j, hj, rfl⟩ := List.getElem_of_mem hx
          exact decide_eq_true (HK.out j hj hj)))
        go_wp2
        go_ret
        exact ⟨by rw [HR.out, HE.out]; rfl, HB.out⟩
  · have hli : ¬ (ns.length : Int) ≤ 45 := by omega
    have HR : Hid (fewT ns = false) := Lib.hid (by rw [fewT, decide_eq_false hlen]; rfl)
    clear hN0
    go_enter Tryz.func6, Tryz.ntmps6
    go_wp2
    go_ret
    exact ⟨by rw [HR.out]; rfl, (Below.refl _ _).alloc (Nat.le_refl _) _⟩
end Go.Proofs.YtlpgandflkabcaaGreatDoor
