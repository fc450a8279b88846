/-
  The law for drawn regions, sharper: a step knows that its operation has not run yet, and of each other one that it has not run or what it yielded.
-/
import Derived.Test.YtlpgandflkabcaaGreatDoorFInv
namespace Go.Proofs.YtlpgandflkabcaaGreatDoor
open Go Go.RowKit
set_option linter.unusedVariables false
set_option linter.unusedSimpArgs false

section
variable {P : Program} {ops : Array Oper} {Q : Exit → Act → World → Prop}
def StepOk2 (P : Program) (ops : Array Oper) (Q : Exit → Act → World → Prop) (n : Nat) (A : (Nat → Value) → Act) (I : World → Prop) (p : Nat → (Nat → Value) → World → Prop) (k : Nat) (o : Oper) : Prop :=
  ∀ x w, I w → (∀ t, Region.waitsFor .any ops k t = true → p t x w) → x k = undef → (∀ j, j < n → x j = undef ∨ p j x w) → ∀ K : Act → World → Prop,
    (∀ v w', I w' → p k (upd x k v) w' → (∀ j, j < n → j ≠ k → ancB ops n 4 j k = false → p j x w → p j (upd x k v) w') → K ((A x).put o.dst v) w') →
    if Region.wanted o (yielded ops (A x).tmps) = true then Oper.wp P o (A x) w K Q else K ((A x).put o.dst undef) w
def Steps2 (P : Program) (ops : Array Oper) (Q : Exit → Act → World → Prop) (n : Nat) (A : (Nat → Value) → Act) (I : World → Prop) (p : Nat → (Nat → Value) → World → Prop) : Nat → List Oper → Prop
  | _, [] => True
  | k, o :: l => StepOk2 P ops Q n A I p k o ∧ Steps2 P ops Q n A I p (k + 1) l
theorem Steps2.at {n : Nat} {A : (Nat → Value) → Act} {I : World → Prop} {p : Nat → (Nat → Value) → World → Prop} : ∀ {k : Nat} {l : List Oper}, Steps2 P ops Q n A I p k l → ∀ i o, l[i]? = some o → StepOk2 P ops Q n A I p (k + i) o
  | _, [], _, i, o, h => by simp at h
  | k, q :: l, h, 0, o, ho => by
    obtain rfl : q = o := (by simpa using ho)
    exact h.1
  | k, q :: l, h, i + 1, o, ho => by have := Steps2.at h.2 i o (by simpa using ho); rwa [show k + 1 + i = k + (i + 1) by omega] at this
theorem any_inv2 {n g : Nat} (A : (Nat → Value) → Act) (I : World → Prop) (p : Nat → (Nat → Value) → World → Prop) (hns : n ≤ ops.size)
    (low : ∀ (L : Array Bool) (i : Nat), i < n → HeadInv .any ops n L → L.getD i true = false → ∀ j ∈ Region.ready .any ops L, j < n)
    (hdep : ∀ k, k < n → ∀ t, Region.waitsFor .any ops k t = true → t < k)
    (hput : ∀ i o x v, i < n → ops[i]? = some o → (A x).put o.dst v = A (upd x i v))
    (hstep : ∀ k o, k < n → ops[k]? = some o → StepOk2 P ops Q n A I p k o)
    (htail : ∀ L x w, HeadInv .any ops n L → (∀ j, j < n → L.getD j true = true) → I w → (∀ j, j < n → p j x w) → wpAny P .any ops Q g L (A x) w) :
    ∀ (f : Nat) (L : Array Bool) (x : Nat → Value) (w : World), HeadInv .any ops n L → left L n = f → I w → (∀ j, j < n → L.getD j false = true → p j x w) → (∀ j, j < n → L.getD j true = false → x j = undef) → wpAny P .any ops Q (f + g) L (A x) w
  | 0, L, x, w, inv, hc, hI, hp, hu => by
    have hall := left_zero n hc
    rw [Nat.zero_add]
    refine htail L x w inv hall hI (fun j hj => hp j hj ?_)
    have h1 := hall j hj
    have hs : j < L.size := by rw [inv.size]; omega
    simpa [hs] using h1
  | f + 1, L, x, w, inv, hc, hI, hp, hu => by
    obtain ⟨i, hi, hiu, hil⟩ := left_first (L := L) n (by omega)
    have hlow := low L i hi inv hiu
    rw [Nat.add_right_comm]
    refine ⟨fun h0 => ?_, fun k hk => ?_⟩
    · have : i ∈ Region.ready .any ops L := by
        refine mem_ready.2 ⟨hiu, ops[i]'(by omega), by simp [show i < ops.size by omega], fun e he hb => ?_⟩
        have hw : Region.waitsFor .any ops i e.on = true := by
          unfold Region.waitsFor
          rw [show ops[i]? = some (ops[i]'(by omega)) by simp [show i < ops.size by omega]]
          simp only
          exact Array.any_eq_true'.2 ⟨e, he, by simp [hb]⟩
        have h1 := hdep i hi _ hw
        have h2 := hil _ h1
        have hs : e.on < L.size := by rw [inv.size]; omega
        simpa [hs] using h2
      rw [h0] at this; cases this
    · have hkn := hlow k hk
      obtain ⟨hku, o, ho, hall⟩ := mem_ready.1 hk
      refine wpOp_step ho (fun K hK => ?_)
      refine hstep k o hkn ho x w hI (fun t ht => ?_) (hu k hkn hku) (fun j hj => ?_) K (fun v w' hI' hpk hst => hK _ _ ?_)
      · obtain ⟨o', ho', e, he, hb, rfl⟩ := Region.waitsFor_spec ht
        rw [ho] at ho'
        cases ho'
        exact hp _ (by have := hdep k hkn _ ht; omega) (hall e he hb)
      · cases hl : L.getD j true with
        | false => exact .inl (hu j hj hl)
        | true =>
          have hs : j < L.size := by rw [inv.size]; omega
          exact .inr (hp j hj (by simpa [hs] using hl))
      · rw [hput k o x v hkn ho]
        refine any_inv2 A I p hns low hdep hput hstep htail f _ _ _ (inv.set hk hkn) (by have := left_set hku n hkn; omega) hI' (fun j hj hl => ?_) (fun j hj hl => ?_)
        · by_cases hjk : j = k
          · subst hjk; exact hpk
          · rw [getD_set_ne false (Ne.symm hjk)] at hl
            refine hst j hj hjk ?_ (hp j hj hl)
            cases ha : ancB ops n 4 j k with
            | false => rfl
            | true =>
              have h1 := anc_listed inv 4 j k hl ha
              rw [getD_both hku] at h1
              cases h1
        · have hjk : j ≠ k := fun e => by
            subst e
            have hs : j < L.size := by rw [inv.size]; omega
            simp [hs] at hl
          rw [getD_set_ne true (Ne.symm hjk)] at hl
          rw [upd_ne x v hjk]
          exact hu j hj hl
theorem wp_region_inv2 {id : Nat} {a : Act} {w : World} {l : List Oper} (n : Nat) (I : World → Prop) (p : Nat → (Nat → Value) → World → Prop) (hm : P.follows .mixedOrders = true) (hB : invB l n = true) (hI : I w.drew)
    (hund : ∀ j, j < n → nowX (l.take n) a j = undef)
    (hstep : Steps2 P l.toArray Q n (puts (l.take n) 0 a) I p 0 (l.take n)) (htail : ∀ x w', I w' → (∀ j, j < n → p j x w') → wpList P l.toArray Q (l.drop n) (puts (l.take n) 0 a x) w') : (Code.region id l.toArray true).wp P Q a w := by
  simp only [invB, Bool.and_eq_true] at hB
  obtain ⟨⟨⟨hT, hd⟩, hdi⟩, hq⟩ := hB
  simp only [Region.lexTailB, Bool.and_eq_true, decide_eq_true_eq] at hT
  obtain ⟨⟨⟨⟨hsel, hn⟩, hs⟩, hc⟩, hlex⟩ := hT
  have hln : n < l.length := by simpa using hn
  have htk : ∀ i, i < n → (l.take n)[i]? = l.toArray[i]? := fun i hi => by rw [List.getElem?_take, if_pos hi]; simp
  refine wp_region_any hm ?_
  have H := any_inv2 (P := P) (Q := Q) (ops := l.toArray) (n := n) (g := l.length - n) (puts (l.take n) 0 a) I p (by simpa using Nat.le_of_lt hln)
    (fun L i hi inv hu j hj => Nat.lt_of_not_le fun hle => tail_waits hs hc hn inv _ i rfl hi hu j hle hj) (depB_spec hd)
    (fun i o x v hi ho => by have := puts_upd (l.take n) 0 a x i o v (by rw [htk i hi]; exact ho) hdi; rwa [Nat.zero_add] at this)
    (fun k o hk ho => by have := hstep.at k o (by rw [htk k hk]; exact ho); rwa [Nat.zero_add] at this)
    (fun L x w' inv hall hI' hp => by
      have hL : L = fullL l.length n := by
        refine Array.ext (by rw [inv.size]; simp [fullL]) (fun j h1 h2 => ?_)
        have hjl : j < l.length := by rw [inv.size] at h1; simpa using h1
        simp only [fullL, List.getElem_toArray, List.getElem_map, List.getElem_range]
        by_cases hj : j < n
        · have := hall j hj
          simp only [Array.getD_eq_getD_getElem?, Array.getElem?_eq_getElem h1, Option.getD_some] at this
          rw [this, decide_eq_true hj]
        · have := inv.tail j (by omega) (by simpa using hjl)
          simp only [Array.getD_eq_getD_getElem?, Array.getElem?_eq_getElem h1, Option.getD_some] at this
          rw [this, decide_eq_false hj]
      have := wpAny_of_seq (P := P) (md := .any) (Q' := Q) (l.drop n) n L (puts (l.take n) 0 a x) w' (fun j => by simp [List.getElem?_drop]) (by rw [List.length_drop, hL]; exact hq) (htail x w' hI' hp)
      rwa [List.length_drop] at this)
    n (Array.replicate l.toArray.size false) (nowX (l.take n) a) w.drew (inv_start l) (by
      have : ∀ m, m ≤ l.length → left (Array.replicate l.toArray.size false) m = m := by
        intro m
        induction m with
        | zero => intro _; rfl
        | succ m ih =>
          intro hm'
          rw [left, ih (by omega)]
          simp [show m < l.length by omega]
      exact this n (by omega)) hI (fun j hj hl => by rw [getD_replicate_false] at hl; cases hl) (fun j hj _ => hund j hj)
  rw [puts_now] at H
  have he : n + (l.length - n) = l.toArray.size := by simp; omega
  rw [he] at H
  exact H
end
end Go.Proofs.YtlpgandflkabcaaGreatDoor
