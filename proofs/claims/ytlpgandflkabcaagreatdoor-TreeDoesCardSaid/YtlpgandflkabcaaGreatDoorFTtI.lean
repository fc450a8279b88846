/-
  Fit trees, plainly: what is above is there; what is made, removed, moved.
-/
import Derived.Test.YtlpgandflkabcaaGreatDoorFTtG
import Derived.Test.YtlpgandflkabcaaGreatDoorFTsD
import Derived.Test.YtlpgandflkabcaaGreatDoorFTsC
namespace Go.Proofs.YtlpgandflkabcaaGreatDoor
open Go Go.RowKit Go.Shelf
set_option linter.unusedVariables false
set_option linter.unusedSimpArgs false

abbrev Names (L : List (List UInt8)) : Prop := ∀ p ∈ L, NameOk p
theorem below_parts {L M : List (List UInt8)} (hL : Names L) (hM : Names M) : belowQ (rootL M) (rootL L) = true ↔ (L <+: M ∧ L ≠ M) := by
  rw [belowQ, parts_rootL hL, Bool.and_eq_true, Bool.not_eq_true', beq_eq_false_iff_ne, List.isPrefixOf_iff_prefix]
  exact below_iff hL hM
theorem fit_riseS {ns : List NodeD} {nx : Int} (h : FitT ns nx) : RiseS ns := by
  have key : ∀ (j i : Nat) (hj : j < ns.length) (hij : i < j), (ns[i]'(by omega)).path < ns[j].path := by
    intro j
    induction j with
    | zero => intro i hj hij; omega
    | succ j ih =>
      intro i hj hij
      have h1 := (h.all (j + 1) hj).rise j rfl
      rcases Nat.lt_or_eq_of_le (Nat.le_of_lt_succ hij) with h2 | h2
      · exact ltS_trans (ih i (by omega) h2) h1
      · subst h2; exact h1
  exact List.pairwise_iff_getElem.2 (fun i j hi hj hij => key j i hj hij)
theorem fit_home {ns : List NodeD} {nx : Int} (h : FitT ns nx) {i : Nat} (hi : i < ns.length) {M : List (List UInt8)} (hM : Names M) (he : ns[i].path = rootL M) : ∃ j, ∃ hj : j < ns.length, ns[j].path = rootL M.dropLast ∧ ns[j].dir = true := by
  obtain ⟨j, hj, hp, hd⟩ := (h.all i hi).home
  have hdp : dirP ns[i].path = rootL M.dropLast := by rw [dirP, he, parts_rootL hM]
  have hh : hasS ns (dirP ns[i].path) = true := by
    cases hq : hasS ns (dirP ns[i].path)
    · rw [placeS_none hq] at hp
      omega
    · rfl
  obtain ⟨k, hk, hpk, hkp⟩ := placeS_some hh
  obtain rfl : k = j := by omega
  exact ⟨k, hk, by rw [hkp, hdp], hd⟩
theorem pre_dropLast {L M : List (List UInt8)} (h : L <+: M) (hne : L ≠ M) : L <+: M.dropLast := by
  obtain ⟨R, rfl⟩ := h
  have hR : R ≠ [] := fun e => hne (by rw [e, List.append_nil])
  rw [List.dropLast_append_of_ne_nil hR]
  exact ⟨_, rfl⟩
theorem names_pre {L M : List (List UInt8)} (h : L <+: M) (hM : Names M) : Names L := fun p hp => hM p (h.subset hp)
theorem fit_anc {ns : List NodeD} {nx : Int} (h : FitT ns nx) {L : List (List UInt8)} : ∀ (n : Nat) (M : List (List UInt8)), M.length ≤ n → Names M → ∀ (i : Nat) (hi : i < ns.length), ns[i].path = rootL M → L <+: M → L ≠ M → ∃ j, ∃ hj : j < ns.length, ns[j].path = rootL L ∧ ns[j].dir = true := by
  intro n
  induction n with
  | zero =>
    intro M hn hM i hi he hp hne
    obtain rfl : M = [] := List.length_eq_zero_iff.1 (by omega)
    exact absurd (List.prefix_nil.1 hp) hne
  | succ n ih =>
    intro M hn hM i hi he hp hne
    obtain ⟨j, hj, hjp, hjd⟩ := fit_home h hi hM he
    have hp2 := pre_dropLast hp hne
    by_cases h2 : L = M.dropLast
    · exact ⟨j, hj, by rw [h2]; exact hjp, hjd⟩
    · exact ih M.dropLast (by rw [List.length_dropLast]; omega) (names_pre (List.dropLast_prefix M) hM) j hj hjp hp2 h2
theorem node_parts {ns : List NodeD} {nx : Int} (h : FitT ns nx) {x : NodeD} (hx : x ∈ ns) : ∃ M, Names M ∧ x.path = rootL M ∧ x.path.length ≤ 255 := by
  obtain ⟨i, hi, rfl⟩ := List.getElem_of_mem hx
  exact path_parts (h.all i hi).path

/-! ### What is there, is found -/
theorem found_mem {l : List NodeD} (hr : RiseS l) {x : NodeD} (hx : x ∈ l) (hp : pathB x.path = true) : findE l x.path = 0 ∧ foundN l x.path = x := by
  have h1 : hasS l x.path = true := hasS_iff.2 ⟨x, hx, rfl⟩
  have h2 := findE_hit hp h1
  obtain ⟨k, hk, rfl⟩ := List.getElem_of_mem hx
  exact ⟨h2, foundN_at hr h2 hk rfl⟩
theorem find_none {l : List NodeD} {p : List UInt8} (h : hasS l p = false) : findE l p ≠ 0 := by
  unfold findE
  split
  · rw [h, if_neg (by decide)]
    rcases missE_ne l p with e | e <;> rw [e] <;> decide
  · decide
theorem found_zero {l : List NodeD} (hr : RiseS l) {p : List UInt8} (h : findE l p = 0) : foundN l p ∈ l ∧ (foundN l p).path = p := by
  obtain ⟨hp, k, hk, hkp, _⟩ := findE_zero hr h
  rw [foundN_at hr h hk hkp]
  exact ⟨List.getElem_mem hk, hkp⟩

/-! ### One more -/
theorem withN_rise {ns : List NodeD} (hr : RiseS ns) (y : NodeD) (hno : hasS ns y.path = false) : RiseS (withN ns y) := by
  unfold RiseS withN
  have h0 := hasS_not.1 hno
  have ht : ∀ a ∈ ns.take (lowS ns y.path), a.path < y.path := fun a ha => by
    obtain ⟨i, hi, rfl⟩ := List.getElem_of_mem ha
    rw [List.length_take] at hi
    rw [List.getElem_take]
    exact lowS_lt (by omega) (by omega)
  have hd : ∀ b ∈ ns.drop (lowS ns y.path), y.path < b.path := fun b hb => by
    obtain ⟨i, hi, rfl⟩ := List.getElem_of_mem hb
    rw [List.length_drop] at hi
    rw [List.getElem_drop]
    have hl : lowS ns y.path < ns.length := by omega
    have h1 := lowS_ge hl
    have h2 : ¬ (ns[lowS ns y.path + i]'(by omega)).path < y.path := by
      rcases Nat.eq_zero_or_pos i with rfl | hp
      · exact h1
      · exact fun e => h1 (ltS_trans (hr.at (i := lowS ns y.path) (j := lowS ns y.path + i) (by omega) (by omega)) e)
    rcases ltS_tri (ns[lowS ns y.path + i]'(by omega)).path y.path with k | k | k
    · exact absurd k h2
    · exact absurd k (h0 _ (List.getElem_mem _))
    · exact k
  rw [List.pairwise_append]
  refine ⟨List.Pairwise.sublist (List.take_sublist _ _) hr, List.pairwise_cons.2 ⟨hd, List.Pairwise.sublist (List.drop_sublist _ _) hr⟩, fun a ha b hb => ?_⟩
  rcases List.mem_cons.1 hb with rfl | hb
  · exact ht a ha
  · exact ltS_trans (ht a ha) (hd b hb)
theorem withN_mem (ns : List NodeD) (y : NodeD) : y ∈ withN ns y := by simp [withN]
theorem withN_sub {ns : List NodeD} {y x : NodeD} : x ∈ withN ns y ↔ x = y ∨ x ∈ ns := by
  rw [withN, List.mem_append, List.mem_cons]
  constructor
  · rintro (h | h | h)
    · exact .inr (List.mem_of_mem_take h)
    · exact .inl h
    · exact .inr (List.mem_of_mem_drop h)
  · rintro (h | h)
    · exact .inr (.inl h)
    · rw [← List.take_append_drop (lowS ns y.path) ns, List.mem_append] at h
      exact h.elim .inl (fun h => .inr (.inr h))

/-! ### One less -/
theorem dropN_rise {ns : List NodeD} (hr : RiseS ns) (p : List UInt8) : RiseS (dropN ns p) := List.Pairwise.filter _ hr
theorem dropN_mem {ns : List NodeD} {p : List UInt8} {x : NodeD} : x ∈ dropN ns p ↔ x ∈ ns ∧ x.path ≠ p := by
  rw [dropN, List.mem_filter, Bool.not_eq_true', beq_eq_false_iff_ne]
theorem dropN_not (ns : List NodeD) (p : List UInt8) : hasS (dropN ns p) p = false := hasS_not.2 fun x hx => (dropN_mem.1 hx).2
theorem dropN_len {ns : List NodeD} (hr : RiseS ns) {p : List UInt8} {k : Nat} (hk : k < ns.length) (hkp : ns[k].path = p) : (dropN ns p).length + 1 = ns.length := by
  have h1 : dropN ns p = dropN (ns.take k) p ++ dropN (ns.drop (k + 1)) p := by
    conv => lhs; rw [← List.take_append_drop k ns, List.drop_eq_getElem_cons hk]
    rw [dropN, List.filter_append, List.filter_cons_of_neg (by rw [hkp]; simp)]
    rfl
  have h2 : dropN (ns.take k) p = ns.take k := dropN_none (fun j hj => by
    rw [List.length_take] at hj
    rw [List.getElem_take]
    exact beq_eq_false_iff_ne.2 (fun e => by have := hr.inj (by omega) hk (e.trans hkp.symm); omega))
  have h3 : dropN (ns.drop (k + 1)) p = ns.drop (k + 1) := dropN_none (fun j hj => by
    rw [List.length_drop] at hj
    rw [List.getElem_drop]
    exact beq_eq_false_iff_ne.2 (fun e => by have := hr.inj (by omega) hk (e.trans hkp.symm); omega))
  rw [h1, h2, h3, List.length_append, List.length_take, List.length_drop]
  omega

/-! ### Moved -/
theorem mvN_go {F T R : List (List UInt8)} (hF0 : F ≠ []) (hT0 : T ≠ []) (hFR : Names (F ++ R)) {x : NodeD} (hx : x.path = rootL (F ++ R)) : mvN (rootL F) (rootL T) x = { x with path := rootL (T ++ R) } := by
  have hF : Names F := names_pre ⟨R, rfl⟩ hFR
  have e1 : rootL (F ++ R) = joinL F ++ joinL R := by rw [rootL_of (by simp [hF0]), joinL_app]
  have e2 : rootL (T ++ R) = rootL T ++ joinL R := by rw [rootL_of (by simp [hT0]), joinL_app, rootL_of hT0]
  have hc : (x.path == rootL F) = true ∨ belowQ x.path (rootL F) = true := by
    by_cases hR : R = []
    · left; rw [hx, hR, List.append_nil]; exact beq_self_eq_true _
    · right
      rw [hx]
      exact (below_parts hF hFR).2 ⟨⟨R, rfl⟩, fun e => hR (List.append_cancel_left (by rw [List.append_nil]; exact e.symm))⟩
  rw [mvN, if_pos hc, e2]
  congr 1
  congr 1
  rw [hx, e1, rootL_of hF0, Lib.trimPrefix, Lib.hasPrefix, if_pos (List.isPrefixOf_iff_prefix.2 ⟨_, rfl⟩), List.drop_left]
theorem mvN_no {F M : List (List UInt8)} (hF : Names F) (hM : Names M) {tw : List UInt8} {x : NodeD} (hx : x.path = rootL M) (h : ¬ F <+: M) : mvN (rootL F) tw x = x := by
  rw [mvN, if_neg]
  rintro (e | e)
  · rw [hx, beq_iff_eq] at e
    exact h (by rw [rootL_inj hM hF e]; exact List.prefix_refl _)
  · rw [hx] at e
    exact h ((below_parts hF hM).1 e).1
/-- What Rename has seen, when it begins to move. -/
structure RenOk (ns : List NodeD) (nx : Int) (F T : List (List UInt8)) : Prop where
  fit : FitT ns nx
  F0 : F ≠ []
  T0 : T ≠ []
  namesF : Names F
  namesT : Names T
  apart : ¬ F <+: T
  there : ∃ k, ∃ hk : k < ns.length, ns[k].path = rootL F
  home : ∃ j, ∃ hj : j < ns.length, ns[j].path = rootL T.dropLast ∧ ns[j].dir = true
  free : ∀ x ∈ ns, ∀ M, Names M → x.path = rootL M → T <+: M → M = T
  lenT : (rootL T).length ≤ 255
  kind : ∀ x ∈ ns, ∀ y ∈ ns, x.path = rootL F → y.path = rootL T → x.dir = y.dir
theorem ren_ok {ns : List NodeD} {nx : Int} (h : FitT ns nx) {fr tw : List UInt8} (hpre : preE ns fr tw = 0) (hne : fr ≠ tw) : ∃ F T, fr = rootL F ∧ tw = rootL T ∧ RenOk ns nx F T := by
  have hr := fit_riseS h
  unfold preE at hpre
  split at hpre
  · rename_i hpp
    obtain ⟨F, hF, rfl, hFl⟩ := path_parts hpp.1
    obtain ⟨T, hT, rfl, hTl⟩ := path_parts hpp.2
    split at hpre
    · rename_i hfe
      split at hpre
      · cases hpre
      · rename_i hno
        simp only [not_or] at hno
        obtain ⟨h1, h2, h3⟩ := hno
        split at hpre
        · rename_i hpe
          obtain ⟨_, k, hk, hkp, _⟩ := findE_zero hr hfe
          obtain ⟨j, hj, hjp, hjd⟩ := parentE_zero hr hpe
          rw [dirP, parts_rootL hT] at hjp
          have hx := foundN_at hr hfe hk hkp
          rw [hx] at hpre
          have hFT : F ≠ T := fun e => hne (by rw [e])
          refine ⟨F, T, rfl, rfl, h, fun e => h1 (by rw [e]; rfl), fun e => h2 (by rw [e]; rfl), hF, hT, fun hp => h3 ((below_parts hF hT).2 ⟨hp, hFT⟩), ⟨k, hk, hkp⟩, ⟨j, hj, hjp, hjd⟩, ?_, hTl, ?_⟩
          · intro x hxm M hM hxp hTM
            apply Classical.byContradiction
            intro hMT
            obtain ⟨i, hi, rfl⟩ := List.getElem_of_mem hxm
            obtain ⟨a, ha, hap, _⟩ := fit_anc h M.length M (Nat.le_refl _) hM i hi hxp hTM (fun e => hMT e.symm)
            have hh : hasS ns (rootL T) = true := hasS_iff.2 ⟨_, List.getElem_mem ha, hap⟩
            unfold freeE at hpre
            rw [if_pos hh] at hpre
            split at hpre
            · cases hpre
            · split at hpre
              · cases hpre
              · split at hpre
                · cases hpre
                · rename_i hfl
                  apply hfl
                  exact List.any_eq_true.2 ⟨_, List.getElem_mem hi, by rw [hxp]; exact (below_parts hT hM).2 ⟨hTM, fun e => hMT e.symm⟩⟩
          · intro x hxm y hym hxp hyp
            have hh : hasS ns (rootL T) = true := hasS_iff.2 ⟨_, hym, hyp⟩
            obtain ⟨i, hi, rfl⟩ := List.getElem_of_mem hxm
            obtain rfl := hr.inj hi hk (hxp.trans hkp.symm)
            have hy := (found_mem hr hym (by rw [hyp]; exact hpp.2)).2
            rw [hyp] at hy
            unfold freeE at hpre
            rw [if_pos hh, hy] at hpre
            split at hpre
            · cases hpre
            · rename_i h4
              split at hpre
              · cases hpre
              · rename_i h5
                cases hd : ns[i].dir <;> cases hd2 : y.dir
                · rfl
                · exact absurd ⟨hd2, hd⟩ h4
                · exact absurd ⟨hd2, hd⟩ h5
                · rfl
        · rename_i hpe; exact absurd hpre hpe
    · rename_i hfe; exact absurd hpre hfe
  · cases hpre
/-- Which place a node gets. -/
theorem ren_node {ns : List NodeD} {nx : Int} {F T : List (List UInt8)} (h : RenOk ns nx F T) {x : NodeD} (hx : x ∈ ns) : ∃ M, Names M ∧ x.path = rootL M ∧ ((∃ R, M = F ++ R ∧ Names (T ++ R) ∧ mvN (rootL F) (rootL T) x = { x with path := rootL (T ++ R) }) ∨ (¬ F <+: M ∧ mvN (rootL F) (rootL T) x = x)) := by
  obtain ⟨M, hM, hxp, _⟩ := node_parts h.fit hx
  refine ⟨M, hM, hxp, ?_⟩
  by_cases hp : F <+: M
  · obtain ⟨R, rfl⟩ := hp
    refine .inl ⟨R, rfl, fun p hp => ?_, mvN_go h.F0 h.T0 hM hxp⟩
    rcases List.mem_append.1 hp with h1 | h1
    · exact h.namesT p h1
    · exact hM p (List.mem_append.2 (.inr h1))
  · exact .inr ⟨hp, mvN_no h.namesF hM hxp hp⟩
theorem ren_apart {ns : List NodeD} {nx : Int} {F T : List (List UInt8)} (h : RenOk ns nx F T) {a b : NodeD} (ha : a ∈ dropN ns (rootL T)) (hb : b ∈ dropN ns (rootL T)) (hab : a.path ≠ b.path) : (mvN (rootL F) (rootL T) a).path ≠ (mvN (rootL F) (rootL T) b).path := by
  obtain ⟨ha1, ha2⟩ := dropN_mem.1 ha
  obtain ⟨hb1, hb2⟩ := dropN_mem.1 hb
  obtain ⟨A, hA, hap, hA2⟩ := ren_node h ha1
  obtain ⟨B, hB, hbp, hB2⟩ := ren_node h hb1
  intro e
  rcases hA2 with ⟨R, rfl, hR, e1⟩ | ⟨hnA, e1⟩
  · rcases hB2 with ⟨S, rfl, hS, e2⟩ | ⟨hnB, e2⟩
    · rw [e1, e2] at e
      have := List.append_cancel_left (rootL_inj hR hS e)
      subst this
      exact hab (hap.trans hbp.symm)
    · rw [e1, e2, hbp] at e
      have e3 := rootL_inj hR hB e
      exact hb2 (by rw [hbp, h.free b hb1 B hB hbp ⟨R, e3⟩])
  · rcases hB2 with ⟨S, rfl, hS, e2⟩ | ⟨hnB, e2⟩
    · rw [e1, e2, hap] at e
      have e3 := rootL_inj hA hS e
      exact ha2 (by rw [hap, h.free a ha1 A hA hap ⟨S, e3.symm⟩])
    · rw [e1, e2] at e
      exact hab e
theorem rise_of {l m : List NodeD} (hp : l.Perm m) (h1 : l.Pairwise fun a b => ¬ b.path < a.path) (h2 : m.Pairwise fun a b => a.path ≠ b.path) : RiseS l := by
  have h3 : l.Pairwise fun a b => a.path ≠ b.path := (hp.pairwise_iff (fun h => h.symm)).2 h2
  refine (h1.and h3).imp ?_
  rintro a b ⟨h4, h5⟩
  rcases ltS_tri a.path b.path with k | k | k
  · exact k
  · exact absurd k h5
  · exact absurd k h4
theorem ren_rise {ns : List NodeD} {nx : Int} {F T : List (List UInt8)} (h : RenOk ns nx F T) {l : List NodeD} (hp : l.Perm ((dropN ns (rootL T)).map (mvN (rootL F) (rootL T)))) (h1 : l.Pairwise fun a b => ¬ b.path < a.path) : RiseS l := by
  refine rise_of hp h1 ?_
  rw [List.pairwise_map]
  have h2 := dropN_rise (fit_riseS h.fit) (rootL T)
  refine List.Pairwise.imp_of_mem ?_ h2
  intro a b ha hb hab
  exact ren_apart h ha hb (fun e => by rw [e] at hab; exact ltS_irrefl _ hab)
theorem ren_mem {ns : List NodeD} {F T : List (List UInt8)} {l : List NodeD} (hp : l.Perm ((dropN ns (rootL T)).map (mvN (rootL F) (rootL T)))) {y : NodeD} : y ∈ l ↔ ∃ x, (x ∈ ns ∧ x.path ≠ rootL T) ∧ mvN (rootL F) (rootL T) x = y := by
  rw [hp.mem_iff, List.mem_map]
  exact ⟨fun ⟨x, h1, h2⟩ => ⟨x, dropN_mem.1 h1, h2⟩, fun ⟨x, h1, h2⟩ => ⟨x, dropN_mem.2 h1, h2⟩⟩
theorem ren_path {T : List (List UInt8)} (hT : Names T) (hl : (rootL T).length ≤ 255) : pathB (rootL T) = true := path_rootL hT hl
theorem ren_found {ns : List NodeD} {nx : Int} {F T : List (List UInt8)} (h : RenOk ns nx F T) {l : List NodeD} (hp : l.Perm ((dropN ns (rootL T)).map (mvN (rootL F) (rootL T)))) (h1 : l.Pairwise fun a b => ¬ b.path < a.path) {k : Nat} (hk : k < ns.length) (hkp : ns[k].path = rootL F) :
    findE l (rootL T) = 0 ∧ foundN l (rootL T) = { ns[k] with path := rootL T } := by
  have hr := ren_rise h hp h1
  have hFT : F ≠ T := fun e => h.apart (by rw [e]; exact List.prefix_refl _)
  have hm := mvN_go (T := T) (R := []) h.F0 h.T0 (x := ns[k]) (by rw [List.append_nil]; exact h.namesF) (by rw [List.append_nil]; exact hkp)
  rw [List.append_nil] at hm
  have hy : ({ ns[k] with path := rootL T } : NodeD) ∈ l := (ren_mem hp).2 ⟨ns[k], ⟨List.getElem_mem hk, fun e => hFT (rootL_inj h.namesF h.namesT (hkp.symm.trans e))⟩, hm⟩
  exact found_mem hr hy (ren_path h.namesT h.lenT)
theorem ren_gone {ns : List NodeD} {nx : Int} {F T : List (List UInt8)} (h : RenOk ns nx F T) {l : List NodeD} (hp : l.Perm ((dropN ns (rootL T)).map (mvN (rootL F) (rootL T)))) : hasS l (rootL F) = false := by
  refine hasS_not.2 fun y hy e => ?_
  obtain ⟨x, ⟨hx, hxT⟩, hxy⟩ := (ren_mem hp).1 hy
  obtain ⟨M, hM, hxp, hc⟩ := ren_node h hx
  obtain ⟨k, hk, hkp⟩ := h.there
  rcases hc with ⟨R, rfl, hR, e1⟩ | ⟨hn, e1⟩
  · rw [← hxy, e1] at e
    have e2 := rootL_inj hR h.namesF e
    have e3 := h.free _ (List.getElem_mem hk) F h.namesF hkp ⟨R, e2⟩
    exact h.apart (by rw [e3]; exact List.prefix_refl _)
  · rw [← hxy, e1, hxp] at e
    exact hn (by rw [rootL_inj hM h.namesF e]; exact List.prefix_refl _)
end Go.Proofs.YtlpgandflkabcaaGreatDoor
