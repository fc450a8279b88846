/-
  Names: a written table (plain).
-/
import Derived.Test.YtlifdfkconklfaaDoorFNnB
import Derived.Test.YtlifdfkconklfaaDoorFGrT
namespace Go.Proofs.YtlifdfkconklfaaDoor
open Go Go.RowKit
set_option linter.unusedVariables false
set_option linter.unusedSimpArgs false

theorem strsW_snoc (s : SymD) : ∀ (l : List SymD) (A : List UInt8), strsW A (l ++ [s]) = strsW A l ++ (s.name ++ [0])
  | [], A => rfl
  | t :: l, A => by rw [List.cons_append, strsW, strsW, strsW_snoc s l]
theorem symsW_snoc (s : SymD) : ∀ (l : List SymD) (A : List UInt8), symsW A (l ++ [s]) = symsW A l ++ symB s (strsW A l).length
  | [], A => by rw [List.nil_append, symsW, symsW, symsW, strsW, List.append_nil, List.nil_append]
  | t :: l, A => by rw [List.cons_append, symsW, symsW, strsW, symsW_snoc s l, List.append_assoc]
theorem strsW_len : ∀ (l : List SymD) (A : List UInt8), l.all fitS = true → (strsW A l).length ≤ A.length + 32 * l.length
  | [], A, _ => by simp [strsW]
  | s :: l, A, h => by
    rw [List.all_cons, Bool.and_eq_true] at h
    have h1 := strsW_len l (A ++ (s.name ++ [0])) h.2
    have h2 := (fitS_is h.1).2.1
    rw [strsW]
    simp only [List.length_append, List.length_cons, List.length_nil] at h1 ⊢
    omega
theorem all_takeS {l : List SymD} (h : l.all fitS = true) (k : Nat) : (l.take k).all fitS = true :=
  List.all_eq_true.2 fun s hs => List.all_eq_true.1 h s (List.mem_of_mem_take hs)
theorem fitL_is {l : List SymD} (h : fitL l = true) : l.length ≤ 200 ∧ l.all fitS = true := by
  unfold fitL at h
  simpa only [Bool.and_eq_true, decide_eq_true_eq] using h
/-- Can these be a table, with so many ways? -/
def okW (l : List SymD) (ways : Int) : Bool := fitL l && (decide (1 ≤ ways) && decide (ways ≤ 64))
def symsT (l : List SymD) (ways : Int) : List UInt8 := if okW l ways then zer16 ++ symsW [0] l else []
def strsT (l : List SymD) (ways : Int) : List UInt8 := if okW l ways then strsW [0] l else []
def hashT (l : List SymD) (ways : Int) : List UInt8 := if okW l ways then wordsL (hashN ways.toNat (waysOf ways.toNat l)) else []
/-- The table that is written. -/
def tabW (l : List SymD) (ways : Int) : Array Value := tabV (symsT l ways) (strsT l ways) (hashT l ways)
theorem tabW_bad {l : List SymD} {ways : Int} (h : okW l ways = false) : tabW l ways = tabV [] [] [] := by simp [tabW, symsT, strsT, hashT, h]
theorem tabW_good {l : List SymD} {n : Nat} (h : okW l n = true) : tabW l n = tabV (zer16 ++ symsW [0] l) (strsW [0] l) (wordsL (hashN n (waysOf n l))) := by simp [tabW, symsT, strsT, hashT, h]
theorem three_set {w : World} {g : Nat} {a b c : Value} {T : TypeId} {fr : Nat × Nat} (h : w.heap[g]? = some (.cells #[a, b, c] T fr)) {p q r : Value} :
    (((w.setCell ⟨g, 0, none⟩ p).setCell ⟨g, 1, none⟩ q).setCell ⟨g, 2, none⟩ r).heap[g]? = some (.cells #[p, q, r] T fr) := by
  rw [heap_set (heap_set (heap_set h))]; rfl
theorem below_three {B g : Nat} {a w : World} (h : Below B a w) (hg : B ≤ g) {p q r : Value} : Below B a (((w.setCell ⟨g, 0, none⟩ p).setCell ⟨g, 1, none⟩ q).setCell ⟨g, 2, none⟩ r) :=
  ((h.setCell (p := ⟨g, 0, none⟩) hg _).setCell (p := ⟨g, 1, none⟩) hg _).setCell (p := ⟨g, 2, none⟩) hg _
end Go.Proofs.YtlifdfkconklfaaDoor
