/-
  Fit trees, plainly: there and back.
-/
import Derived.Test.YtlpgandflkabcaaGreatDoorFTtI
namespace Go.Proofs.YtlpgandflkabcaaGreatDoor
open Go Go.RowKit Go.Shelf
set_option linter.unusedVariables false
set_option linter.unusedSimpArgs false

theorem rise_perm : ∀ {a b : List NodeD}, RiseS a → RiseS b → a.Perm b → a = b
  | [], b, _, _, h => (List.nil_perm.1 h).symm
  | x :: a, [], _, _, h => absurd (List.perm_nil.1 h) (by simp)
  | x :: a, y :: b, ha, hb, h => by
    obtain ⟨ha1, ha2⟩ := List.pairwise_cons.1 ha
    obtain ⟨hb1, hb2⟩ := List.pairwise_cons.1 hb
    by_cases hxy : x = y
    · subst hxy
      rw [rise_perm ha2 hb2 h.cons_inv]
    · have h1 : x ∈ b := (List.mem_cons.1 (h.mem_iff.1 (List.mem_cons_self ..))).resolve_left hxy
      have h2 : y ∈ a := (List.mem_cons.1 (h.mem_iff.2 (List.mem_cons_self ..))).resolve_left (fun e => hxy e.symm)
      exact absurd (ha1 y h2) (ltS_asymm (hb1 x h1))
theorem dropN_off {ns : List NodeD} {p : List UInt8} (h : hasS ns p = false) : dropN ns p = ns :=
  dropN_none (fun j hj => beq_eq_false_iff_ne.2 (hasS_not.1 h _ (List.getElem_mem hj)))
theorem mvN_back {ns : List NodeD} {nx : Int} {F T : List (List UInt8)} (h : RenOk ns nx F T) (hno : hasS ns (rootL T) = false) {x : NodeD} (hx : x ∈ ns) : mvN (rootL T) (rootL F) (mvN (rootL F) (rootL T) x) = x := by
  obtain ⟨M, hM, hxp, hc⟩ := ren_node h hx
  rcases hc with ⟨R, rfl, hR, e1⟩ | ⟨hn, e1⟩
  · rw [e1]
    have := mvN_go (F := T) (T := F) (R := R) h.T0 h.F0 hR (x := { x with path := rootL (T ++ R) }) rfl
    rw [this]
    obtain ⟨xp, xd, xq, xi⟩ := x
    simp only at hxp ⊢
    rw [hxp]
  · rw [e1]
    refine mvN_no h.namesT hM hxp (fun hp => ?_)
    have := h.free x hx M hM hxp hp
    exact hasS_not.1 hno x hx (by rw [hxp, this])
/-- Moved to where nothing was, and back. -/
theorem ren_back {ns : List NodeD} {nx : Int} (hfit : FitT ns nx) {fr tw : List UInt8} (hno : findE ns tw ≠ 0) {l : List NodeD} (h : RenAns ns fr tw 0 l) : RiseS l ∧ l.length = ns.length ∧ (∀ k (h : k < l.length), l[k].path.length ≤ 1000) ∧ ∀ E l2, RenAns l tw fr E l2 → E = 0 ∧ l2 = ns := by
  have hr := fit_riseS hfit
  have hpre : preE ns fr tw = 0 := by
    rcases h with ⟨h1, h2, _⟩ | ⟨h, _⟩ | ⟨h, _⟩ | ⟨h, _⟩
    · exact absurd h2.symm h1
    · exact h
    · exact h
    · exact h
  have hfr : findE ns fr = 0 := by
    unfold preE at hpre
    split at hpre
    · split at hpre
      · assumption
      · rename_i h2; exact absurd hpre h2
    · cases hpre
  have hne : fr ≠ tw := fun e => hno (by rw [← e]; exact hfr)
  obtain ⟨F, T, rfl, rfl, hR⟩ := ren_ok hfit hpre hne
  have hTp := ren_path hR.namesT hR.lenT
  have hnoT : hasS ns (rootL T) = false := by
    cases hh : hasS ns (rootL T)
    · rfl
    · exact absurd (findE_hit hTp hh) hno
  obtain ⟨k, hk, hkp⟩ := hR.there
  have hFp : pathB (rootL F) = true := by rw [← hkp]; exact (hfit.all k hk).path
  rcases h with ⟨h1, h2, _⟩ | ⟨_, h, _⟩ | ⟨_, _, _, h, _⟩ | ⟨_, _, hlong, _, hp, hs⟩
  · exact absurd h2.symm h1
  · exact absurd h hne
  · cases h
  have hrl := ren_rise hR hp hs
  have hgone := ren_gone hR hp
  obtain ⟨hft, _⟩ := ren_found hR hp hs hk hkp
  have hlen : l.length = ns.length := by rw [hp.length_eq, List.length_map, dropN_off hnoT]
  have hpl : ∀ y ∈ l, y.path.length ≤ 1000 := fun y hy => by
    rw [hp.mem_iff, List.mem_map] at hy
    obtain ⟨x, hx, rfl⟩ := hy
    obtain ⟨j, hj, rfl⟩ := List.getElem_of_mem hx
    apply Classical.byContradiction
    intro hc
    exact hlong ⟨j, hj, by omega⟩
  refine ⟨hrl, hlen, fun k h => hpl _ (List.getElem_mem h), ?_⟩
  have hpre2 : preE l (rootL T) (rootL F) = 0 := by
    have h47 : ∀ {L : List (List UInt8)}, Names L → L ≠ [] → rootL L ≠ [47] := fun hL h0 e => h0 ((rootL_slash hL).1 e)
    have hTF : ¬ T <+: F := fun hp2 => by
      have := hR.free _ (List.getElem_mem hk) F hR.namesF hkp hp2
      exact hR.apart (by rw [this]; exact List.prefix_refl _)
    have hpar : parentE l (rootL F) = 0 := by
      obtain ⟨j, hj, hjp, hjd⟩ := fit_home hfit hk hR.namesF hkp
      have hFd : Names F.dropLast := names_pre (List.dropLast_prefix F) hR.namesF
      have hm : mvN (rootL F) (rootL T) ns[j] = ns[j] := mvN_no hR.namesF hFd hjp (fun hp2 => by
        have := hp2.length_le
        rw [List.length_dropLast] at this
        have : 0 < F.length := List.length_pos_iff.2 hR.F0
        omega)
      have hmem : ns[j] ∈ l := (ren_mem hp).2 ⟨ns[j], ⟨List.getElem_mem hj, fun e => hasS_not.1 hnoT _ (List.getElem_mem hj) e⟩, hm⟩
      obtain ⟨f1, f2⟩ := found_mem hrl hmem (hfit.all j hj).path
      have hdp : dirP (rootL F) = ns[j].path := by rw [dirP, parts_rootL hR.namesF, hjp]
      rw [parentE, hdp, if_pos f1, f2, if_pos hjd]
    unfold preE
    rw [if_pos ⟨hTp, hFp⟩, if_pos hft, if_neg, if_pos hpar, if_neg (fun e => hne e.symm), freeE, hgone]
    · rfl
    · rintro (e | e | e)
      · exact h47 hR.namesT hR.T0 e
      · exact h47 hR.namesF hR.F0 e
      · exact hTF ((below_parts hR.namesT hR.namesF).1 e).1
  have hback : l.Perm (ns.map (mvN (rootL F) (rootL T))) := by rw [dropN_off hnoT] at hp; exact hp
  intro E l2 h2
  rcases h2 with ⟨g1, _⟩ | ⟨_, g, _⟩ | ⟨_, _, ⟨j, hj, g⟩, _⟩ | ⟨_, _, _, g1, g2, g3⟩
  · exact absurd hpre2 g1
  · exact absurd g.symm hne
  · exfalso
    have hm := (dropN_mem.1 (List.getElem_mem hj)).1
    rw [hback.mem_iff, List.mem_map] at hm
    obtain ⟨x, hx, hxe⟩ := hm
    rw [← hxe, mvN_back hR hnoT hx] at g
    obtain ⟨i, hi, rfl⟩ := List.getElem_of_mem hx
    have := path_len (hfit.all i hi).path
    omega
  · refine ⟨g1, ?_⟩
    rw [dropN_off hgone] at g2
    have g4 : (l.map (mvN (rootL T) (rootL F))).Perm ns := by
      have := hback.map (mvN (rootL T) (rootL F))
      rw [List.map_map] at this
      have h9 : ns.map (mvN (rootL T) (rootL F) ∘ mvN (rootL F) (rootL T)) = ns := by
        conv => rhs; rw [← List.map_id ns]
        exact List.map_congr_left (fun x hx => mvN_back hR hnoT hx)
      rw [h9] at this
      exact this
    have g5 := g2.trans g4
    exact rise_perm (rise_of g5 g3 (List.Pairwise.imp (fun h e => by rw [e] at h; exact ltS_irrefl _ h) hr)) hr g5
/-- Made and removed. -/
theorem make_back {ns : List NodeD} {nx : Int} (hfit : FitT ns nx) {p : List UInt8} {dir : Bool} (h : makeE ns nx p = 0) : nx < 1048576 ∧ RiseS (makeL ns nx p dir) ∧ (makeL ns nx p dir).length ≤ 1000 ∧ 0 < (makeL ns nx p dir).length ∧ removeE (makeL ns nx p dir) p dir = 0 ∧ removeL (makeL ns nx p dir) p dir = ns := by
  have hr := fit_riseS hfit
  have h40 := hfit.forty
  have hpb : pathB p = true ∧ hasS ns p = false ∧ nx < 1048576 := by
    unfold makeE at h
    split at h
    · rename_i hp
      split at h
      · cases h
      · rename_i hh
        split at h
        · split at h
          · cases h
          · rename_i hc
            exact ⟨hp, by simpa using hh, by omega⟩
        · rename_i hpe; exact absurd h hpe
    · cases h
  obtain ⟨hp, hno, hlt⟩ := hpb
  have hw := withN_rise hr (⟨p, dir, [], nx⟩ : NodeD) hno
  obtain ⟨f1, f2⟩ := found_mem hw (withN_mem ns (⟨p, dir, [], nx⟩ : NodeD)) hp
  have hmL : makeL ns nx p dir = withN ns ⟨p, dir, [], nx⟩ := by rw [makeL, if_pos h]
  have hre : removeE (withN ns ⟨p, dir, [], nx⟩) p dir = 0 := by
    have hfl : filledN (withN ns ⟨p, dir, [], nx⟩) p = false := by
      rw [filledN, Bool.eq_false_iff]
      intro e
      obtain ⟨x, hx, hxe⟩ := List.any_eq_true.1 e
      rcases withN_sub.1 hx with rfl | hx
      · simp [belowQ] at hxe
      · obtain ⟨P, hP, hpe, _⟩ := path_parts hp
        obtain ⟨M, hM, hxp, _⟩ := node_parts hfit hx
        rw [hpe, hxp] at hxe
        obtain ⟨h1, h2⟩ := (below_parts hP hM).1 hxe
        obtain ⟨i, hi, rfl⟩ := List.getElem_of_mem hx
        obtain ⟨j, hj, hjp, _⟩ := fit_anc hfit M.length M (Nat.le_refl _) hM i hi hxp h1 h2
        exact hasS_not.1 hno _ (List.getElem_mem hj) (by rw [hjp, hpe])
    have h47 : p ≠ [47] := fun e => hasS_not.1 hno _ (List.getElem_mem hfit.one) (by rw [e]; exact hfit.root)
    unfold removeE
    rw [if_pos f1, f2, if_neg (by simp), if_neg (by simp), if_neg h47, hfl]
    rfl
  refine ⟨hlt, by rw [hmL]; exact hw, by rw [hmL, withN_len]; omega, by rw [hmL, withN_len]; omega, by rw [hmL]; exact hre, ?_⟩
  rw [hmL, removeL, if_pos hre, withN]
  have h0 := hasS_not.1 hno
  rw [dropN, List.filter_append, List.filter_cons_of_neg (by simp)]
  have ht : (ns.take (lowS ns p)).filter (fun x => !(x.path == p)) = ns.take (lowS ns p) := List.filter_eq_self.2 (fun x hx => by rw [beq_eq_false_iff_ne.2 (h0 x (List.mem_of_mem_take hx))]; rfl)
  have hd : (ns.drop (lowS ns p)).filter (fun x => !(x.path == p)) = ns.drop (lowS ns p) := List.filter_eq_self.2 (fun x hx => by rw [beq_eq_false_iff_ne.2 (h0 x (List.mem_of_mem_drop hx))]; rfl)
  rw [ht, hd, List.take_append_drop]
end Go.Proofs.YtlpgandflkabcaaGreatDoor
