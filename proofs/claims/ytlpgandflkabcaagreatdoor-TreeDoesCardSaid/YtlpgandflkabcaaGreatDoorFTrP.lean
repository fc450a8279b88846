/-
  Paths, plainly: pieces between slashes, names, paths, and a path from the root on.
-/
namespace Go.Proofs.YtlpgandflkabcaaGreatDoor
set_option linter.unusedVariables false
set_option linter.unusedSimpArgs false

/-! ### Pieces -/
def splitB (c : UInt8) : List UInt8 → List (List UInt8)
  | [] => [[]]
  | b :: s => if b = c then [] :: splitB c s else
    match splitB c s with
    | [] => [[b]]
    | p :: ps => (b :: p) :: ps
theorem splitB_none {c : UInt8} : ∀ {s : List UInt8}, c ∉ s → splitB c s = [s]
  | [], _ => rfl
  | b :: s, h => by
    simp only [List.mem_cons, not_or] at h
    rw [splitB, if_neg (fun e => h.1 e.symm), splitB_none h.2]
theorem splitB_app {c : UInt8} {t : List UInt8} : ∀ {s : List UInt8}, c ∉ s → splitB c (s ++ c :: t) = s :: splitB c t
  | [], _ => by rw [List.nil_append, splitB, if_pos rfl]
  | b :: s, h => by
    simp only [List.mem_cons, not_or] at h
    rw [List.cons_append, splitB, if_neg (fun e => h.1 e.symm), splitB_app h.2]
theorem splitB_head {c : UInt8} {t : List UInt8} : splitB c (c :: t) = [] :: splitB c t := by rw [splitB, if_pos rfl]
theorem splitB_mem {c : UInt8} : ∀ {s p : List UInt8}, p ∈ splitB c s → c ∉ p ∧ p.length ≤ s.length
  | [], p, h => by
    simp only [splitB, List.mem_singleton] at h
    subst h; simp
  | b :: s, p, h => by
    rw [splitB] at h
    split at h
    · rcases List.mem_cons.1 h with rfl | h
      · simp
      · have := splitB_mem h
        exact ⟨this.1, by simp; omega⟩
    · rename_i hb
      split at h
      · rename_i hs
        simp only [List.mem_singleton] at h
        subst h
        simp only [List.mem_singleton, List.length_cons, List.length_nil]
        exact ⟨fun e => hb e.symm, by omega⟩
      · rename_i q qs hs
        rcases List.mem_cons.1 h with rfl | h
        · have := splitB_mem (s := s) (p := q) (by rw [hs]; exact List.mem_cons_self ..)
          refine ⟨?_, by simp; omega⟩
          simp only [List.mem_cons, not_or]
          exact ⟨fun e => hb e.symm, this.1⟩
        · have := splitB_mem (s := s) (p := p) (by rw [hs]; exact List.mem_cons_of_mem _ h)
          exact ⟨this.1, by simp; omega⟩

/-! ### Names, paths -/
def nameB (n : List UInt8) : Bool := !(n == []) && decide (n.length ≤ 31) && !(n == [46]) && !(n == [46, 46]) && !n.contains 0 && !n.contains 47
def pathB (s : List UInt8) : Bool := s == [47] || (decide (s.length ≤ 255) && (s.head? == some 47) && (splitB 47 s.tail).all nameB)
def partsB (s : List UInt8) : List (List UInt8) := (splitB 47 s).filter fun p => !(p == []) && !(p == [46])
def joinL (l : List (List UInt8)) : List UInt8 := l.flatMap fun p => 47 :: p
def rootL (l : List (List UInt8)) : List UInt8 := if l = [] then [47] else joinL l
structure NameOk (n : List UInt8) : Prop where
  ne : n ≠ []
  len : n.length ≤ 31
  dot : n ≠ [46]
  dots : n ≠ [46, 46]
  zero : (0 : UInt8) ∉ n
  slash : (47 : UInt8) ∉ n
theorem nameB_iff {n : List UInt8} : nameB n = true ↔ NameOk n := by
  simp only [nameB, Bool.and_eq_true, Bool.not_eq_true', beq_eq_false_iff_ne, decide_eq_true_eq, ne_eq, List.contains_eq_mem, decide_eq_false_iff_not]
  exact ⟨fun ⟨⟨⟨⟨⟨a, b⟩, c⟩, d⟩, e⟩, f⟩ => ⟨a, b, c, d, e, f⟩, fun h => ⟨⟨⟨⟨⟨h.ne, h.len⟩, h.dot⟩, h.dots⟩, h.zero⟩, h.slash⟩⟩

theorem joinL_cons (p : List UInt8) (l : List (List UInt8)) : joinL (p :: l) = 47 :: (p ++ joinL l) := by simp [joinL]
theorem joinL_snoc (l : List (List UInt8)) (p : List UInt8) : joinL (l ++ [p]) = joinL l ++ 47 :: p := by simp [joinL]
theorem split_joinL : ∀ {l : List (List UInt8)}, (∀ p ∈ l, (47 : UInt8) ∉ p) → splitB 47 (joinL l) = [] :: l
  | [], _ => rfl
  | p :: l, h => by
    rw [joinL_cons, splitB_head]
    have hp := h p (List.mem_cons_self ..)
    match l, h with
    | [], _ => rw [show joinL [] = [] from rfl, List.append_nil, splitB_none hp]
    | q :: l, h =>
      have ih := split_joinL (l := q :: l) (fun x hx => h x (List.mem_cons_of_mem _ hx))
      rw [joinL_cons] at ih ⊢
      rw [splitB_head] at ih
      rw [splitB_app hp, List.cons.inj ih |>.2]
theorem parts_joinL {l : List (List UInt8)} (h : ∀ p ∈ l, NameOk p) : partsB (joinL l) = l := by
  unfold partsB
  rw [split_joinL fun p hp => (h p hp).slash, List.filter_cons_of_neg (by simp), List.filter_eq_self]
  intro p hp
  have := h p hp
  simp [this.ne, this.dot]
theorem parts_rootL {l : List (List UInt8)} (h : ∀ p ∈ l, NameOk p) : partsB (rootL l) = l := by
  unfold rootL
  split
  · rename_i e; subst e; decide
  · exact parts_joinL h
theorem path_rootL {l : List (List UInt8)} (h : ∀ p ∈ l, NameOk p) (hlen : (rootL l).length ≤ 255) : pathB (rootL l) = true := by
  unfold rootL at hlen ⊢
  split
  · decide
  · rename_i hn
    rw [if_neg hn] at hlen
    match l, h, hn with
    | p :: l, h, _ =>
      have := split_joinL (l := p :: l) fun p hp => (h p hp).slash
      rw [joinL_cons] at hlen this ⊢
      rw [splitB_head] at this
      simp only [pathB, List.head?_cons, beq_self_eq_true, List.tail_cons, (List.cons.inj this).2, Bool.and_true, Bool.or_eq_true, Bool.and_eq_true, decide_eq_true_eq]
      exact .inr ⟨hlen, List.all_eq_true.2 fun x hx => nameB_iff.2 (h x hx)⟩
theorem path_parts {s : List UInt8} (h : pathB s = true) : ∃ l, (∀ p ∈ l, NameOk p) ∧ s = rootL l ∧ s.length ≤ 255 := by
  simp only [pathB, Bool.or_eq_true, beq_iff_eq, Bool.and_eq_true, decide_eq_true_eq] at h
  rcases h with rfl | ⟨⟨h1, h2⟩, h3⟩
  · exact ⟨[], fun p hp => (by cases hp), rfl, by decide⟩
  · match s, h1, h2, h3 with
    | b :: t, h1, h2, h3 =>
      simp only [List.head?_cons, Option.some.injEq] at h2
      subst h2
      have key : ∀ t : List UInt8, joinL (splitB 47 t) = 47 :: t := by
        intro t
        induction t with
        | nil => rfl
        | cons b t ih =>
          rw [splitB]
          split
          · rename_i e; subst e
            rw [joinL_cons, ih]; rfl
          · split
            · rename_i e
              rw [e] at ih
              exact absurd ih (by simp [joinL])
            · rename_i p ps e
              rw [e, joinL_cons] at ih
              rw [joinL_cons, List.cons_append, (List.cons.inj ih).2]
      have h3' : ∀ p ∈ splitB 47 t, NameOk p := fun p hp => nameB_iff.1 (List.all_eq_true.1 h3 p hp)
      refine ⟨splitB 47 t, h3', ?_, h1⟩
      unfold rootL
      rw [if_neg (fun e => by have := key t; rw [e] at this; exact absurd this (by simp [joinL])), key]

/-! ### A path from the root on -/
inductive NormR where
  | bad (e : Int)
  | ok (l : List (List UInt8))
def stepN (l : List (List UInt8)) (p : List UInt8) : NormR :=
  if p = [46, 46] then .ok l.dropLast else if 31 < p.length then .bad 36 else if nameB p = true then .ok (l ++ [p]) else .bad 22
def foldN (l : List (List UInt8)) : List (List UInt8) → NormR
  | [] => .ok l
  | p :: ps => match stepN l p with
    | .bad e => .bad e
    | .ok l' => foldN l' ps
def startN (cwd path : List UInt8) : List (List UInt8) := if path.head? ≠ some 47 ∧ pathB cwd = true then partsB cwd else []
def normN (cwd path : List UInt8) : Int × List UInt8 :=
  if path = [] then (2, []) else if 255 < path.length then (36, []) else
    match foldN (startN cwd path) (partsB path) with
    | .bad e => (e, [])
    | .ok l => if 255 < (rootL l).length then (36, []) else (0, rootL l)
theorem stepN_bad {l : List (List UInt8)} {p : List UInt8} {e : Int} (h : stepN l p = .bad e) : e ≠ 0 := by
  unfold stepN at h
  split at h
  · cases h
  · split at h
    · cases h; decide
    · split at h <;> cases h
      decide
theorem foldN_bad : ∀ {ps l : List (List UInt8)} {e : Int}, foldN l ps = .bad e → e ≠ 0
  | [], _, _, h => by cases h
  | p :: ps, l, e, h => by
    rw [foldN] at h
    split at h
    · rename_i e' hs
      cases h
      exact stepN_bad hs
    · exact foldN_bad h
theorem stepN_ok {l l' : List (List UInt8)} {p : List UInt8} (hl : ∀ q ∈ l, NameOk q) (h : stepN l p = .ok l') : ∀ q ∈ l', NameOk q := by
  unfold stepN at h
  split at h
  · cases h
    exact fun q hq => hl q (List.dropLast_subset _ hq)
  · split at h
    · cases h
    · split at h
      · rename_i hn
        cases h
        intro q hq
        rcases List.mem_append.1 hq with hq | hq
        · exact hl q hq
        · simp only [List.mem_singleton] at hq
          subst hq
          exact nameB_iff.1 hn
      · cases h
theorem foldN_ok : ∀ {ps l l' : List (List UInt8)}, (∀ q ∈ l, NameOk q) → foldN l ps = .ok l' → ∀ q ∈ l', NameOk q
  | [], l, l', hl, h => by cases h; exact hl
  | p :: ps, l, l', hl, h => by
    rw [foldN] at h
    split at h
    · cases h
    · rename_i l2 hs
      exact foldN_ok (stepN_ok hl hs) h
theorem foldN_names : ∀ {ps l : List (List UInt8)}, (∀ q ∈ ps, NameOk q) → foldN l ps = .ok (l ++ ps)
  | [], l, _ => by rw [List.append_nil]; rfl
  | p :: ps, l, h => by
    have hp := h p (List.mem_cons_self ..)
    have h1 : stepN l p = .ok (l ++ [p]) := by
      unfold stepN
      rw [if_neg hp.dots, if_neg (by have := hp.len; omega), if_pos (nameB_iff.2 hp)]
    rw [foldN, h1]
    show foldN (l ++ [p]) ps = _
    rw [foldN_names fun q hq => h q (List.mem_cons_of_mem _ hq), List.append_assoc]; rfl
theorem startN_ok (cwd path : List UInt8) : ∀ q ∈ startN cwd path, NameOk q := by
  unfold startN
  split
  · rename_i h
    obtain ⟨l, hl, hs, _⟩ := path_parts h.2
    rw [hs, parts_rootL hl]
    exact hl
  · intro q hq; cases hq
theorem rootL_head (l : List (List UInt8)) : (rootL l).head? = some 47 := by
  unfold rootL
  split
  · rfl
  · rename_i h
    match l, h with
    | p :: l, _ => rw [joinL_cons]; rfl
theorem rootL_ne (l : List (List UInt8)) : rootL l ≠ [] := fun e => by have := rootL_head l; rw [e] at this; cases this

/-- What is told, is told of itself. -/
structure NormOk (s : List UInt8) (l : List (List UInt8)) : Prop where
  names : ∀ q ∈ l, NameOk q
  len : s.length ≤ 255
  root : s = rootL l
theorem normN_ok {cwd path s : List UInt8} (h : normN cwd path = (0, s)) : ∃ l, NormOk s l := by
  unfold normN at h
  split at h
  · cases h
  · split at h
    · cases h
    · split at h
      · rename_i e he
        cases h
        exact absurd rfl (foldN_bad he)
      · rename_i l hl
        split at h
        · cases h
        · rename_i hlen
          cases h
          exact ⟨l, foldN_ok (startN_ok cwd path) hl, by omega, rfl⟩
theorem normN_bad {cwd path s : List UInt8} {e : Int} (h : normN cwd path = (e, s)) (he : e ≠ 0) : s = [] := by
  unfold normN at h
  split at h
  · cases h; rfl
  · split at h
    · cases h; rfl
    · split at h
      · cases h; rfl
      · split at h
        · cases h; rfl
        · cases h; exact absurd rfl he
theorem NormOk.path {s : List UInt8} {l : List (List UInt8)} (h : NormOk s l) : pathB s = true := by
  rw [h.root]; exact path_rootL h.names (by rw [← h.root]; exact h.len)
theorem NormOk.again {s : List UInt8} {l : List (List UInt8)} (h : NormOk s l) (cwd : List UInt8) : normN cwd s = (0, s) := by
  have hl := h.len
  unfold normN
  rw [if_neg (by rw [h.root]; exact rootL_ne l), if_neg (by omega)]
  have h1 : startN cwd s = [] := by
    unfold startN
    rw [if_neg]
    rw [h.root, rootL_head]
    simp
  rw [h1, h.root, parts_rootL h.names, foldN_names h.names, List.nil_append]
  show (if 255 < (rootL l).length then ((36, []) : Int × List UInt8) else (0, rootL l)) = _
  rw [if_neg (by rw [← h.root]; omega)]
theorem NormOk.start {s : List UInt8} {l : List (List UInt8)} (h : NormOk s l) (p : List UInt8) (hp : p.head? ≠ some 47) : startN s p = l := by
  unfold startN
  rw [if_pos ⟨hp, h.path⟩, h.root, parts_rootL h.names]
theorem NormOk.dot {s : List UInt8} {l : List (List UInt8)} (h : NormOk s l) : normN s [46] = (0, s) := by
  have hl := h.len
  unfold normN
  rw [if_neg (by decide), if_neg (by decide), h.start _ (by decide), show partsB [46] = [] by decide]
  show (if 255 < (rootL l).length then ((36, []) : Int × List UInt8) else (0, rootL l)) = _
  rw [← h.root, if_neg (by omega)]
theorem rootL_drop (l : List (List UInt8)) (hl : ∀ q ∈ l, NameOk q) : ∃ t, rootL l = rootL l.dropLast ++ t ∧ (rootL l = [47] ↔ t = []) := by
  by_cases h0 : l = []
  · subst h0; exact ⟨[], rfl, by decide⟩
  obtain ⟨m, p, rfl⟩ : ∃ m p, l = m ++ [p] := ⟨l.dropLast, l.getLast h0, (List.dropLast_concat_getLast h0).symm⟩
  have hp := hl p (by simp)
  rw [List.dropLast_concat]
  unfold rootL
  rw [if_neg h0, joinL_snoc]
  by_cases hm : m = []
  · subst hm
    refine ⟨p, rfl, ?_⟩
    simp [joinL]
  · refine ⟨47 :: p, by rw [if_neg hm], ?_⟩
    have hj : joinL m ≠ [] := by
      match m, hm with
      | q :: m, _ => rw [joinL_cons]; simp
    constructor
    · intro h
      have := congrArg List.length h
      simp only [List.length_append, List.length_cons, List.length_nil] at this
      have h2 : 0 < (joinL m).length := List.length_pos_iff.2 hj
      omega
    · intro h; cases h
theorem NormOk.dots {s : List UInt8} {l : List (List UInt8)} (h : NormOk s l) : ∃ v t, normN s [46, 46] = (0, v) ∧ s = v ++ t ∧ (s = [47] ↔ t = []) := by
  have hl := h.len
  obtain ⟨t, h1, h2⟩ := rootL_drop l h.names
  refine ⟨rootL l.dropLast, t, ?_, by rw [h.root]; exact h1, by rw [h.root]; exact h2⟩
  unfold normN
  rw [if_neg (by decide), if_neg (by decide), h.start _ (by decide), show partsB [46, 46] = [[46, 46]] by decide]
  have h3 : foldN l [[46, 46]] = .ok l.dropLast := by rw [foldN, stepN, if_pos rfl]; rfl
  rw [h3]
  show (if 255 < (rootL l.dropLast).length then ((36, []) : Int × List UInt8) else (0, rootL l.dropLast)) = _
  rw [if_neg]
  have := congrArg List.length h1
  rw [List.length_append, ← h.root] at this
  omega
end Go.Proofs.YtlpgandflkabcaaGreatDoor
