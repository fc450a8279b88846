/-
  Trees, plainly: directories, what is below a path, nodes.
-/
import Derived.Test.YtlpgandflkabcaaGreatDoorFTrP
namespace Go.Proofs.YtlpgandflkabcaaGreatDoor
set_option linter.unusedVariables false
set_option linter.unusedSimpArgs false

theorem rootL_inj {l m : List (List UInt8)} (hl : ∀ p ∈ l, NameOk p) (hm : ∀ p ∈ m, NameOk p) (h : rootL l = rootL m) : l = m := by
  rw [← parts_rootL hl, h, parts_rootL hm]
theorem joinL_inj {l m : List (List UInt8)} (hl : ∀ p ∈ l, NameOk p) (hm : ∀ p ∈ m, NameOk p) (h : joinL l = joinL m) : l = m := by
  rw [← parts_joinL hl, h, parts_joinL hm]
theorem joinL_app (l m : List (List UInt8)) : joinL (l ++ m) = joinL l ++ joinL m := by simp [joinL]
theorem rootL_snoc (l : List (List UInt8)) (p : List UInt8) : rootL (l ++ [p]) = joinL l ++ 47 :: p := by
  unfold rootL
  rw [if_neg (by simp), joinL_snoc]
theorem rootL_of {l : List (List UInt8)} (h : l ≠ []) : rootL l = joinL l := by unfold rootL; rw [if_neg h]
/-- What a path has ahead of those below it. -/
def innerL (l : List (List UInt8)) : List UInt8 := joinL l ++ [47]
theorem name_tail {a b s t : List UInt8} (ha : (47 : UInt8) ∉ a) (hb : (47 : UInt8) ∉ b) (h : a ++ 47 :: s = b ++ 47 :: t) : a = b ∧ s = t := by
  induction a generalizing b with
  | nil =>
    match b, hb with
    | [], _ => exact ⟨rfl, (List.cons.inj h).2⟩
    | c :: b, hb =>
      simp only [List.nil_append, List.cons_append, List.cons.injEq] at h
      exact absurd (h.1 ▸ List.mem_cons_self ..) hb
  | cons c a ih =>
    match b, hb with
    | [], _ =>
      simp only [List.nil_append, List.cons_append, List.cons.injEq] at h
      exact absurd (h.1 ▸ List.mem_cons_self ..) ha
    | d :: b, hb =>
      simp only [List.cons_append, List.cons.injEq] at h
      obtain ⟨h1, h2⟩ := h
      simp only [List.mem_cons, not_or] at ha hb
      obtain ⟨rfl, h3⟩ := ih ha.2 hb.2 h2
      exact ⟨by rw [h1], h3⟩
theorem inner_prefix : ∀ {l m : List (List UInt8)}, (∀ p ∈ l, NameOk p) → (∀ p ∈ m, NameOk p) → ((innerL l <+: joinL m) ↔ (l <+: m ∧ l ≠ m))
  | [], [], _, _ => by
    constructor
    · rintro ⟨t, ht⟩; exact absurd ht (by simp [innerL, joinL])
    · rintro ⟨_, h⟩; exact absurd rfl h
  | [], q :: m, _, _ => by
    refine ⟨fun _ => ⟨List.nil_prefix, by simp⟩, fun _ => ?_⟩
    rw [joinL_cons]
    exact ⟨_, rfl⟩
  | p :: l, [], _, _ => by
    constructor
    · rintro ⟨t, ht⟩; exact absurd ht (by simp [innerL, joinL])
    · rintro ⟨⟨t, ht⟩, _⟩; exact absurd ht (by simp)
  | p :: l, q :: m, hl, hm => by
    have hp := hl p (List.mem_cons_self ..)
    have hq := hm q (List.mem_cons_self ..)
    have hl' : ∀ x ∈ l, NameOk x := fun x hx => hl x (List.mem_cons_of_mem _ hx)
    have hm' : ∀ x ∈ m, NameOk x := fun x hx => hm x (List.mem_cons_of_mem _ hx)
    have ih := inner_prefix hl' hm'
    have e1 : innerL (p :: l) = 47 :: (p ++ innerL l) := by simp [innerL, joinL_cons]
    have i1 : ∃ s, innerL l = 47 :: s := by
      match l with
      | [] => exact ⟨[], rfl⟩
      | x :: l => exact ⟨x ++ joinL l ++ [47], by simp [innerL, joinL_cons]⟩
    obtain ⟨s, hs⟩ := i1
    rw [e1, joinL_cons, List.cons_prefix_cons]
    constructor
    · rintro ⟨_, t, ht⟩
      rw [hs] at ht
      match m, hm', ih with
      | [], _, _ =>
        exfalso
        simp only [joinL, List.flatMap_nil, List.append_nil] at ht
        exact hq.slash (by rw [← ht]; simp)
      | x :: m, hm', ih =>
        rw [joinL_cons x m] at ht
        rw [List.append_assoc, List.cons_append] at ht
        obtain ⟨rfl, h2⟩ := name_tail hp.slash hq.slash ht
        have h3 := ih.1 ⟨t, by rw [hs, joinL_cons, List.cons_append, h2]⟩
        refine ⟨List.cons_prefix_cons.2 ⟨rfl, h3.1⟩, fun e => h3.2 (List.cons.inj e).2⟩
    · rintro ⟨h1, h2⟩
      obtain ⟨rfl, h3⟩ := List.cons_prefix_cons.1 h1
      refine ⟨rfl, ?_⟩
      obtain ⟨t, ht⟩ := ih.2 ⟨h3, fun e => h2 (by rw [e])⟩
      exact ⟨t, by rw [List.append_assoc, ht]⟩
/-- Below: a path that goes on. -/
theorem below_iff {l m : List (List UInt8)} (hl : ∀ p ∈ l, NameOk p) (hm : ∀ p ∈ m, NameOk p) : (rootL m ≠ rootL l ∧ innerL l <+: rootL m) ↔ (l <+: m ∧ l ≠ m) := by
  by_cases h0 : m = []
  · subst h0
    constructor
    · rintro ⟨h1, t, ht⟩
      have := congrArg List.length ht
      simp only [innerL, rootL, if_pos, List.length_append, List.length_cons, List.length_nil] at this
      have h2 : joinL l = [] := List.length_eq_zero_iff.1 (by omega)
      have h3 : l = [] := joinL_inj hl (fun p hp => by cases hp) (by rw [h2]; rfl)
      exact absurd (by rw [h3]) h1
    · rintro ⟨⟨t, ht⟩, h2⟩
      exact absurd (List.append_eq_nil_iff.1 ht).1 h2
  · rw [rootL_of h0, inner_prefix hl hm]
    refine ⟨fun h => h.2, fun h => ⟨fun e => h.2 ?_, h⟩⟩
    exact (rootL_inj hl hm (by rw [← e, rootL_of h0]))

structure NodeD where
  path : List UInt8
  dir : Bool
  data : List UInt8
  id : Int
deriving DecidableEq
def belowB (s path : List UInt8) : Bool := !(s == path) && ((if path.getLast? = some 47 then path else path ++ [47]).isPrefixOf s)
end Go.Proofs.YtlpgandflkabcaaGreatDoor
