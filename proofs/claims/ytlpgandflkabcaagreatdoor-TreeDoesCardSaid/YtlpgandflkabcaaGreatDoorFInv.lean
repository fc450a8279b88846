/-
  A region that draws its order: what each operation has yielded is said once, and each operation is run once, whatever the order.
-/
import Derived.Test.YtlpgandflkabcaaGreatDoorFGrA
namespace Go.Proofs.YtlpgandflkabcaaGreatDoor
open Go Go.RowKit
set_option linter.unusedVariables false
set_option linter.unusedSimpArgs false

section
variable {P : Program} {ops : Array Oper} {Q : Exit → Act → World → Prop}

def upd (x : Nat → Value) (k : Nat) (v : Value) : Nat → Value := fun j => if j = k then v else x j
theorem upd_same (x : Nat → Value) (k : Nat) (v : Value) : upd x k v k = v := if_pos rfl
theorem upd_ne (x : Nat → Value) {k j : Nat} (v : Value) (h : j ≠ k) : upd x k v j = x j := if_neg h
/-- The temporaries where the operations have yielded these values. -/
def puts : List Oper → Nat → Act → (Nat → Value) → Act
  | [], _, a, _ => a
  | o :: l, k, a, x => puts l (k + 1) (a.put o.dst (x k)) x
def apartB (o q : Oper) : Bool := match o.dst, q.dst with
  | some d, some e => d != e
  | _, _ => true
def distinctB : List Oper → Bool
  | [] => true
  | o :: l => l.all (apartB o) && distinctB l
theorem apartB_spec {o q : Oper} (h : apartB o q = true) : ∀ t, o.dst = some t → q.dst ≠ some t := by
  intro t h1 h2
  unfold apartB at h
  rw [h1, h2] at h
  simp at h
theorem put_put (a : Act) (d : Option Tmp) (u v : Value) : (a.put d u).put d v = a.put d v := by
  cases d with
  | none => rfl
  | some t => simp [Act.put]
theorem puts_put : ∀ (l : List Oper) (k : Nat) (a : Act) (x : Nat → Value) (d : Option Tmp) (v : Value), (∀ q ∈ l, ∀ t, d = some t → q.dst ≠ some t) → (puts l k a x).put d v = puts l k (a.put d v) x
  | [], _, _, _, _, _, _ => rfl
  | o :: l, k, a, x, d, v, h => by
    rw [puts, puts, puts_put l (k + 1) _ x d v (fun q hq => h q (List.mem_cons_of_mem _ hq)), Act.put_comm a (x k) v (fun t h1 h2 => h o (List.mem_cons_self ..) t h2 h1)]
theorem puts_low : ∀ (l : List Oper) (k : Nat) (a : Act) (x : Nat → Value) (i : Nat) (v : Value), i < k → puts l k a (upd x i v) = puts l k a x
  | [], _, _, _, _, _, _ => rfl
  | o :: l, k, a, x, i, v, h => by rw [puts, puts, upd_ne x v (by omega), puts_low l (k + 1) _ x i v (by omega)]
theorem puts_upd : ∀ (l : List Oper) (k : Nat) (a : Act) (x : Nat → Value) (i : Nat) (o : Oper) (v : Value), l[i]? = some o → distinctB l = true → (puts l k a x).put o.dst v = puts l k a (upd x (k + i) v)
  | [], _, _, _, _, _, _, h, _ => by simp at h
  | q :: l, k, a, x, 0, o, v, h, hd => by
    simp only [distinctB, Bool.and_eq_true, List.all_eq_true] at hd
    obtain rfl : q = o := by simpa using h
    rw [Nat.add_zero, puts, puts, puts_put l (k + 1) _ x _ v (fun r hr => apartB_spec (hd.1 r hr)), put_put, upd_same, puts_low l (k + 1) _ x k v (by omega)]
  | q :: l, k, a, x, i + 1, o, v, h, hd => by
    simp only [distinctB, Bool.and_eq_true] at hd
    rw [puts, puts, puts_upd l (k + 1) _ x i o v (by simpa using h) hd.2, upd_ne x v (by omega), show k + 1 + i = k + (i + 1) by omega]
theorem puts_self : ∀ (l : List Oper) (k : Nat) (a : Act) (x : Nat → Value), (∀ i o, l[i]? = some o → a.put o.dst (x (k + i)) = a) → puts l k a x = a
  | [], _, _, _, _ => rfl
  | o :: l, k, a, x, h => by
    rw [puts, show a.put o.dst (x k) = a by have := h 0 o (by simp); simpa using this]
    exact puts_self l (k + 1) a x (fun i q hq => by have := h (i + 1) q (by simpa using hq); rwa [show k + (i + 1) = k + 1 + i by omega] at this)
def nowX (l : List Oper) (a : Act) : Nat → Value := fun i => match (l[i]?).bind (·.dst) with
  | some d => a.tmps.getD d undef
  | none => undef
theorem puts_now (l : List Oper) (a : Act) : puts l 0 a (nowX l a) = a := by
  refine puts_self l 0 a _ (fun i o ho => ?_)
  rw [Nat.zero_add, nowX, ho]
  cases hd : o.dst with
  | none => rfl
  | some d =>
    simp only [Option.bind_some, hd]
    unfold Act.put
    simp only
    congr 1
    refine Array.ext (by simp) (fun j h1 h2 => ?_)
    rw [Array.getElem_setIfInBounds]
    split
    · rename_i he
      subst he
      simp [Array.getD, h2]
    · rfl
/-- Where operation j is listed, t is. -/
def ancB (ops : Array Oper) (n : Nat) : Nat → Nat → Nat → Bool
  | 0, j, t => Region.waitsFor .any ops j t
  | f + 1, j, t => Region.waitsFor .any ops j t || (List.range n).any fun m => Region.waitsFor .any ops j m && ancB ops n f m t
theorem waits_listed {n : Nat} {L : Array Bool} (inv : HeadInv .any ops n L) {j t : Nat} (hj : L.getD j false = true) (h : Region.waitsFor .any ops j t = true) : L.getD t false = true := by
  obtain ⟨o, ho, e, he, hb, rfl⟩ := Region.waitsFor_spec h
  exact inv.closed j o ho hj e he hb
theorem anc_listed {n : Nat} {L : Array Bool} (inv : HeadInv .any ops n L) : ∀ (f j t : Nat), L.getD j false = true → ancB ops n f j t = true → L.getD t false = true
  | 0, j, t, hj, h => waits_listed inv hj h
  | f + 1, j, t, hj, h => by
    simp only [ancB, Bool.or_eq_true, List.any_eq_true, Bool.and_eq_true] at h
    rcases h with h | ⟨m, _, h1, h2⟩
    · exact waits_listed inv hj h
    · exact anc_listed inv f m t (waits_listed inv hj h1) h2
/-- How many of the head are not listed. -/
def left (L : Array Bool) : Nat → Nat
  | 0 => 0
  | n + 1 => left L n + if L.getD n true = true then 0 else 1
theorem left_low {L : Array Bool} {i : Nat} : ∀ n, n ≤ i → left (L.setIfInBounds i true) n = left L n
  | 0, _ => rfl
  | n + 1, h => by rw [left, left, left_low n (by omega), getD_set_ne true (show i ≠ n by omega)]
theorem left_set {L : Array Bool} {i : Nat} (hi : L.getD i true = false) : ∀ n, i < n → left (L.setIfInBounds i true) n + 1 = left L n
  | 0, h => by omega
  | n + 1, h => by
    by_cases hn : i = n
    · subst hn
      rw [left, left, left_low i (Nat.le_refl _), hi]
      have : (L.setIfInBounds i true).getD i true = true := by
        by_cases hs : i < L.size
        · simp [hs]
        · simp [hs]
      rw [this]; simp
    · rw [left, left, getD_set_ne true hn]
      have := left_set hi n (by omega)
      omega
theorem left_zero {L : Array Bool} : ∀ n, left L n = 0 → ∀ j, j < n → L.getD j true = true
  | 0, _, j, h => by omega
  | n + 1, h, j, hj => by
    rw [left] at h
    by_cases hn : L.getD n true = true
    · by_cases hjn : j = n
      · rw [hjn]; exact hn
      · exact left_zero n (by omega) j (by omega)
    · rw [if_neg hn] at h; omega
theorem left_first {L : Array Bool} : ∀ n, left L n ≠ 0 → ∃ i, i < n ∧ L.getD i true = false ∧ ∀ j, j < i → L.getD j true = true
  | 0, h => absurd rfl h
  | n + 1, h => by
    by_cases h0 : left L n = 0
    · refine ⟨n, by omega, ?_, left_zero n h0⟩
      rw [left, h0] at h
      by_cases hn : L.getD n true = true
      · rw [if_pos hn] at h; exact absurd rfl h
      · simpa using hn
    · obtain ⟨i, h1, h2, h3⟩ := left_first n h0
      exact ⟨i, by omega, h2, h3⟩

/-- One operation, run once. -/
def StepOk (P : Program) (ops : Array Oper) (Q : Exit → Act → World → Prop) (n : Nat) (A : (Nat → Value) → Act) (I : World → Prop) (p : Nat → (Nat → Value) → World → Prop) (k : Nat) (o : Oper) : Prop :=
  ∀ x w, I w → (∀ t, Region.waitsFor .any ops k t = true → p t x w) → ∀ K : Act → World → Prop,
    (∀ v w', I w' → p k (upd x k v) w' → (∀ j, j < n → j ≠ k → ancB ops n 4 j k = false → p j x w → p j (upd x k v) w') → K ((A x).put o.dst v) w') →
    if Region.wanted o (yielded ops (A x).tmps) = true then Oper.wp P o (A x) w K Q else K ((A x).put o.dst undef) w
def Steps (P : Program) (ops : Array Oper) (Q : Exit → Act → World → Prop) (n : Nat) (A : (Nat → Value) → Act) (I : World → Prop) (p : Nat → (Nat → Value) → World → Prop) : Nat → List Oper → Prop
  | _, [] => True
  | k, o :: l => StepOk P ops Q n A I p k o ∧ Steps P ops Q n A I p (k + 1) l
theorem Steps.at {n : Nat} {A : (Nat → Value) → Act} {I : World → Prop} {p : Nat → (Nat → Value) → World → Prop} : ∀ {k : Nat} {l : List Oper}, Steps P ops Q n A I p k l → ∀ i o, l[i]? = some o → StepOk P ops Q n A I p (k + i) o
  | _, [], _, i, o, h => by simp at h
  | k, q :: l, h, 0, o, ho => by
    obtain rfl : q = o := (by simpa using ho)
    exact h.1
  | k, q :: l, h, i + 1, o, ho => by have := Steps.at h.2 i o (by simpa using ho); rwa [show k + 1 + i = k + (i + 1) by omega] at this

theorem any_inv {n g : Nat} (A : (Nat → Value) → Act) (I : World → Prop) (p : Nat → (Nat → Value) → World → Prop) (hns : n ≤ ops.size)
    (low : ∀ (L : Array Bool) (i : Nat), i < n → HeadInv .any ops n L → L.getD i true = false → ∀ j ∈ Region.ready .any ops L, j < n)
    (hdep : ∀ k, k < n → ∀ t, Region.waitsFor .any ops k t = true → t < k)
    (hput : ∀ i o x v, i < n → ops[i]? = some o → (A x).put o.dst v = A (upd x i v))
    (hstep : ∀ k o, k < n → ops[k]? = some o → StepOk P ops Q n A I p k o)
    (htail : ∀ L x w, HeadInv .any ops n L → (∀ j, j < n → L.getD j true = true) → I w → (∀ j, j < n → p j x w) → wpAny P .any ops Q g L (A x) w) :
    ∀ (f : Nat) (L : Array Bool) (x : Nat → Value) (w : World), HeadInv .any ops n L → left L n = f → I w → (∀ j, j < n → L.getD j false = true → p j x w) → wpAny P .any ops Q (f + g) L (A x) w
  | 0, L, x, w, inv, hc, hI, hp => by
    have hall := left_zero n hc
    rw [Nat.zero_add]
    refine htail L x w inv hall hI (fun j hj => hp j hj ?_)
    have h1 := hall j hj
    have hs : j < L.size := by rw [inv.size]; omega
    simpa [hs] using h1
  | f + 1, L, x, w, inv, hc, hI, hp => by
    obtain ⟨i, hi, hiu, hil⟩ := left_first (L := L) n (by omega)
    have hlow := low L i hi inv hiu
    rw [Nat.add_right_comm]
    refine ⟨fun h0 => ?_, fun k hk => ?_⟩
    · have : i ∈ Region.ready .any ops L := by
        refine mem_ready.2 ⟨hiu, ops[i]'(by omega), by simp [show i < ops.size by omega], fun e he hb => ?_⟩
        have hw : Region.waitsFor .any ops i e.on = true := by
          unfold Region.waitsFor
          rw [show ops[i]? = some (ops[i]'(by omega)) by simp [show i < ops.size by omega]]
          simp only
          exact Array.any_eq_true'.2 ⟨e, he, by simp [hb]⟩
        have h1 := hdep i hi _ hw
        have h2 := hil _ h1
        have hs : e.on < L.size := by rw [inv.size]; omega
        simpa [hs] using h2
      rw [h0] at this; cases this
    · have hkn := hlow k hk
      obtain ⟨hku, o, ho, hall⟩ := mem_ready.1 hk
      refine wpOp_step ho (fun K hK => ?_)
      refine hstep k o hkn ho x w hI (fun t ht => ?_) K (fun v w' hI' hpk hst => hK _ _ ?_)
      · obtain ⟨o', ho', e, he, hb, rfl⟩ := Region.waitsFor_spec ht
        rw [ho] at ho'
        cases ho'
        exact hp _ (by have := hdep k hkn _ ht; omega) (hall e he hb)
      · rw [hput k o x v hkn ho]
        refine any_inv A I p hns low hdep hput hstep htail f _ _ _ (inv.set hk hkn) (by have := left_set hku n hkn; omega) hI' (fun j hj hl => ?_)
        by_cases hjk : j = k
        · subst hjk; exact hpk
        · rw [getD_set_ne false (Ne.symm hjk)] at hl
          refine hst j hj hjk ?_ (hp j hj hl)
          cases ha : ancB ops n 4 j k with
          | false => rfl
          | true =>
            have h1 := anc_listed inv 4 j k hl ha
            rw [getD_both hku] at h1
            cases h1
def depB (ops : Array Oper) (n : Nat) : Bool := (List.range n).all fun k => match ops[k]? with
  | some o => o.after.all fun e => !Region.binds .any e || decide (e.on < k)
  | none => true
theorem depB_spec {n : Nat} (h : depB ops n = true) : ∀ k, k < n → ∀ t, Region.waitsFor .any ops k t = true → t < k := by
  intro k hk t ht
  obtain ⟨o, ho, e, he, hb, rfl⟩ := Region.waitsFor_spec ht
  have h1 := List.all_eq_true.1 h k (List.mem_range.2 hk)
  rw [ho] at h1
  simp only [Array.all_eq_true_iff_forall_mem] at h1
  have h2 := h1 e he
  simpa [hb] using h2
def fullL (m n : Nat) : Array Bool := ((List.range m).map fun i => decide (i < n)).toArray
def invB (l : List Oper) (n : Nat) : Bool := Region.lexTailB .any l.toArray n && depB l.toArray n && distinctB (l.take n) && Region.seqB .any l.toArray (l.length - n) n (fullL l.length n)
/-- The law, with a forced tail from operation n on. -/
theorem wp_region_inv {id : Nat} {a : Act} {w : World} {l : List Oper} (n : Nat) (I : World → Prop) (p : Nat → (Nat → Value) → World → Prop) (hm : P.follows .mixedOrders = true) (hB : invB l n = true) (hI : I w.drew)
    (hstep : Steps P l.toArray Q n (puts (l.take n) 0 a) I p 0 (l.take n)) (htail : ∀ x w', I w' → (∀ j, j < n → p j x w') → wpList P l.toArray Q (l.drop n) (puts (l.take n) 0 a x) w') : (Code.region id l.toArray true).wp P Q a w := by
  simp only [invB, Bool.and_eq_true] at hB
  obtain ⟨⟨⟨hT, hd⟩, hdi⟩, hq⟩ := hB
  simp only [Region.lexTailB, Bool.and_eq_true, decide_eq_true_eq] at hT
  obtain ⟨⟨⟨⟨hsel, hn⟩, hs⟩, hc⟩, hlex⟩ := hT
  have hln : n < l.length := by simpa using hn
  have htk : ∀ i, i < n → (l.take n)[i]? = l.toArray[i]? := fun i hi => by rw [List.getElem?_take, if_pos hi]; simp
  refine wp_region_any hm ?_
  have H := any_inv (P := P) (Q := Q) (ops := l.toArray) (n := n) (g := l.length - n) (puts (l.take n) 0 a) I p (by simpa using Nat.le_of_lt hln)
    (fun L i hi inv hu j hj => Nat.lt_of_not_le fun hle => tail_waits hs hc hn inv _ i rfl hi hu j hle hj) (depB_spec hd)
    (fun i o x v hi ho => by have := puts_upd (l.take n) 0 a x i o v (by rw [htk i hi]; exact ho) hdi; rwa [Nat.zero_add] at this)
    (fun k o hk ho => by have := hstep.at k o (by rw [htk k hk]; exact ho); rwa [Nat.zero_add] at this)
    (fun L x w' inv hall hI' hp => by
      have hL : L = fullL l.length n := by
        refine Array.ext (by rw [inv.size]; simp [fullL]) (fun j h1 h2 => ?_)
        have hjl : j < l.length := by rw [inv.size] at h1; simpa using h1
        simp only [fullL, List.getElem_toArray, List.getElem_map, List.getElem_range]
        by_cases hj : j < n
        · have := hall j hj
          simp only [Array.getD_eq_getD_getElem?, Array.getElem?_eq_getElem h1, Option.getD_some] at this
          rw [this, decide_eq_true hj]
        · have := inv.tail j (by omega) (by simpa using hjl)
          simp only [Array.getD_eq_getD_getElem?, Array.getElem?_eq_getElem h1, Option.getD_some] at this
          rw [this, decide_eq_false hj]
      have := wpAny_of_seq (P := P) (md := .any) (Q' := Q) (l.drop n) n L (puts (l.take n) 0 a x) w' (fun j => by simp [List.getElem?_drop]) (by rw [List.length_drop, hL]; exact hq) (htail x w' hI' hp)
      rwa [List.length_drop] at this)
    n (Array.replicate l.toArray.size false) (nowX (l.take n) a) w.drew (inv_start l) (by
      have : ∀ m, m ≤ l.length → left (Array.replicate l.toArray.size false) m = m := by
        intro m
        induction m with
        | zero => intro _; rfl
        | succ m ih =>
          intro hm'
          rw [left, ih (by omega)]
          simp [show m < l.length by omega]
      exact this n (by omega)) hI (fun j hj hl => by rw [getD_replicate_false] at hl; cases hl)
  rw [puts_now] at H
  have he : n + (l.length - n) = l.toArray.size := by simp; omega
  rw [he] at H
  exact H
end
end Go.Proofs.YtlpgandflkabcaaGreatDoor
