/-
  A directory's names, plainly: each is there below it, they rise, and as many nodes are right below it.
-/
import Derived.Test.YtlpgandflkabcaaGreatDoorFTsB
import Derived.Test.YtlpgandflkabcaaGreatDoorFTrZ
namespace Go.Proofs.YtlpgandflkabcaaGreatDoor
open Go Go.RowKit Go.Shelf
set_option linter.unusedVariables false
set_option linter.unusedSimpArgs false

/-- What a directory's path has ahead of its names. -/
def aheadP (p : List UInt8) : List UInt8 := if p = [47] then [47] else p ++ [47]
theorem rootL_slash {L : List (List UInt8)} (hL : ∀ q ∈ L, NameOk q) : rootL L = [47] ↔ L = [] := by
  constructor
  · intro h
    exact rootL_inj hL (by simp) (h.trans (show [47] = rootL [] from rfl))
  · rintro rfl; rfl
theorem aheadP_root {L : List (List UInt8)} (hL : ∀ q ∈ L, NameOk q) : aheadP (rootL L) = joinL L ++ [47] := by
  unfold aheadP
  by_cases h : L = []
  · subst h; rfl
  · rw [if_neg (fun e => h ((rootL_slash hL).1 e)), rootL_of h]
theorem last_cut {a b s t : List UInt8} (hs : (47 : UInt8) ∉ s) (ht : (47 : UInt8) ∉ t) (h : a ++ 47 :: s = b ++ 47 :: t) : a = b ∧ s = t := by
  have h2 := congrArg List.reverse h
  simp only [List.reverse_append, List.reverse_cons, List.append_assoc, List.singleton_append] at h2
  obtain ⟨h3, h4⟩ := name_tail (a := s.reverse) (b := t.reverse) (by simpa using hs) (by simpa using ht) h2
  exact ⟨List.reverse_inj.1 h4, List.reverse_inj.1 h3⟩
theorem inDir_iff {p : List UInt8} (hp : pathB p = true) {x : NodeD} (hx : pathB x.path = true) :
    inDir p x = true ↔ ∃ n, n ≠ [] ∧ (47 : UInt8) ∉ n ∧ x.path = aheadP p ++ n := by
  obtain ⟨L, hL, rfl, _⟩ := path_parts hp
  obtain ⟨M, hM, hxp, _⟩ := path_parts hx
  rw [aheadP_root hL]
  unfold inDir
  rw [hxp]
  by_cases h0 : M = []
  · subst h0
    have e1 : ((rootL [] : List UInt8) == [47]) = true := by decide
    rw [e1]
    constructor
    · intro h; simp at h
    · rintro ⟨n, h1, h2, h3⟩
      have h4 := congrArg List.length h3
      have h5 : 1 ≤ n.length := List.length_pos_iff.2 h1
      simp only [rootL, if_pos, List.length_append, List.length_cons, List.length_nil] at h4
      omega
  · obtain ⟨K, m, rfl⟩ : ∃ K m, M = K ++ [m] := ⟨M.dropLast, M.getLast h0, (List.dropLast_concat_getLast h0).symm⟩
    have hm := hM m (by simp)
    have hK : ∀ q ∈ K, NameOk q := fun q hq => hM q (by simp [hq])
    have e1 : (rootL (K ++ [m]) == [47]) = false := by
      rw [beq_eq_false_iff_ne]
      intro e
      exact h0 ((rootL_slash hM).1 e)
    have e2 : dirP (rootL (K ++ [m])) = rootL K := by rw [dirP, parts_rootL hM, List.dropLast_concat]
    rw [e1, e2, rootL_snoc]
    simp only [Bool.not_false, Bool.and_true, beq_iff_eq]
    constructor
    · intro h
      obtain rfl := rootL_inj hK hL h
      exact ⟨m, hm.ne, hm.slash, by simp⟩
    · rintro ⟨n, h1, h2, h3⟩
      rw [List.append_assoc, List.singleton_append] at h3
      obtain ⟨h4, h5⟩ := last_cut hm.slash h2 h3
      rw [joinL_inj hK hL h4]
theorem nameP_of {p : List UInt8} (hp : pathB p = true) {q : List UInt8} (hq : pathB q = true) {n : List UInt8} (h1 : n ≠ []) (h2 : (47 : UInt8) ∉ n) (h3 : q = aheadP p ++ n) : nameP q = n := by
  obtain ⟨L, hL, rfl, _⟩ := path_parts hp
  obtain ⟨a, m, C⟩ := path_cut hq
  rw [aheadP_root hL, List.append_assoc, List.singleton_append] at h3
  rw [C.name]
  exact (last_cut C.slash h2 (C.eq.symm.trans h3)).2
theorem inDir_path {p : List UInt8} (hp : pathB p = true) {x : NodeD} (hx : pathB x.path = true) (h : inDir p x = true) : x.path = aheadP p ++ nameP x.path := by
  obtain ⟨n, h1, h2, h3⟩ := (inDir_iff hp hx).1 h
  rw [nameP_of hp hx h1 h2 h3]
  exact h3
theorem lt_of_ahead {a b : List UInt8} : ∀ {c : List UInt8}, c ++ a < c ++ b → a < b
  | [], h => h
  | x :: c, h => by
    rw [List.cons_append, List.cons_append, List.cons_lt_cons_iff] at h
    rcases h with h | h
    · exact absurd h (by simp)
    · exact lt_of_ahead h.2
/-- Each name is there. -/
theorem list_there {ns : List NodeD} {p : List UInt8} (hp : pathB p = true) (hpaths : ∀ k (h : k < ns.length), pathB ns[k].path = true) {i : Nat} (hi : i < (listL ns p).length) : ∃ k, ∃ hk : k < ns.length, ns[k].path = aheadP p ++ (listL ns p)[i] := by
  have hm : (listL ns p)[i] ∈ listL ns p := List.getElem_mem hi
  obtain ⟨n, hn⟩ : ∃ n, n = (listL ns p)[i] := ⟨_, rfl⟩
  rw [← hn] at hm ⊢
  simp only [listL, List.mem_map, List.mem_filter] at hm
  obtain ⟨x, ⟨hx, hd⟩, hnx⟩ := hm
  obtain ⟨k, hk, rfl⟩ := List.getElem_of_mem hx
  exact ⟨k, hk, by rw [← hnx]; exact inDir_path hp (hpaths k hk) hd⟩
theorem list_rise {ns : List NodeD} (hr : RiseS ns) {p : List UInt8} (hp : pathB p = true) (hpaths : ∀ k (h : k < ns.length), pathB ns[k].path = true) : (listL ns p).Pairwise (· < ·) := by
  unfold listL
  rw [List.pairwise_map]
  have h1 : (ns.filter (inDir p)).Pairwise fun a b => a.path < b.path := List.Pairwise.filter _ hr
  refine List.Pairwise.imp_of_mem ?_ h1
  intro a b ha hb hab
  obtain ⟨ha1, ha2⟩ := List.mem_filter.1 ha
  obtain ⟨hb1, hb2⟩ := List.mem_filter.1 hb
  obtain ⟨i, hi, rfl⟩ := List.getElem_of_mem ha1
  obtain ⟨j, hj, rfl⟩ := List.getElem_of_mem hb1
  rw [inDir_path hp (hpaths i hi) ha2, inDir_path hp (hpaths j hj) hb2] at hab
  exact lt_of_ahead hab
/-- Is a node's path right below? As the law counts. -/
theorem inDir_short {p : List UInt8} (hp : pathB p = true) {x : NodeD} (hx : pathB x.path = true) (h : x.path.length ≤ (aheadP p).length) : inDir p x = false := by
  rw [Bool.eq_false_iff]
  intro e
  obtain ⟨n, h1, h2, h3⟩ := (inDir_iff hp hx).1 e
  have h5 : 1 ≤ n.length := List.length_pos_iff.2 h1
  rw [h3, List.length_append] at h
  omega
theorem inDir_other {p : List UInt8} (hp : pathB p = true) {x : NodeD} (hx : pathB x.path = true) (h : x.path.take (aheadP p).length ≠ aheadP p) : inDir p x = false := by
  rw [Bool.eq_false_iff]
  intro e
  obtain ⟨n, h1, h2, h3⟩ := (inDir_iff hp hx).1 e
  exact h (by rw [h3, List.take_left])
theorem inDir_at {p : List UInt8} (hp : pathB p = true) {x : NodeD} (hx : pathB x.path = true) (h1 : (aheadP p).length < x.path.length) (h2 : x.path.take (aheadP p).length = aheadP p) : inDir p x = !(x.path.drop (aheadP p).length).contains 47 := by
  rw [Bool.eq_iff_iff, inDir_iff hp hx]
  simp only [List.contains_eq_mem, Bool.not_eq_true', decide_eq_false_iff_not]
  constructor
  · rintro ⟨n, h3, h4, h5⟩
    rw [h5, List.drop_left]
    exact h4
  · intro h3
    refine ⟨x.path.drop (aheadP p).length, ?_, h3, ?_⟩
    · intro e
      have := congrArg List.length e
      rw [List.length_drop, List.length_nil] at this
      omega
    · have := List.take_append_drop (aheadP p).length x.path
      rw [h2] at this
      exact this.symm
end Go.Proofs.YtlpgandflkabcaaGreatDoor
