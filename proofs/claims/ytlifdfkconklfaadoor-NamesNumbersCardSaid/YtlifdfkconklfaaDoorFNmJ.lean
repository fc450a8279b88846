/-
  Names: the symbols of a table (plain), and rows of symbols of the call's own.
-/
import Derived.Test.YtlifdfkconklfaaDoorFNmI
import Derived.Deep.RegionHeld3
import Derived.Deep.DeepCutAuto
namespace Go.Proofs.YtlifdfkconklfaaDoor
open Go Go.RowKit
set_option linter.unusedVariables false
set_option linter.unusedSimpArgs false

def byteAt (l : List UInt8) (k : Nat) : Nat := (l.getD k 0).toNat
theorem byteAt_lt (l : List UInt8) (k : Nat) : byteAt l k ≤ 255 := by unfold byteAt; have := (l.getD k 0).toNat_lt; omega
/-- A symbol that sixteen bytes tell. -/
def chunkSym (strs b : List UInt8) : SymD := ⟨txtV strs (wordAt b 0), wordAt b 4, wordAt b 8, (byteAt b 12 / 16 : Nat), (byteAt b 15 : Nat)⟩
def chunkFit (strs b : List UInt8) : Bool := txtOk strs (wordAt b 0) && fitS (chunkSym strs b)
def chunkOk (strs b : List UInt8) : Bool := chunkFit strs b && decide (symB (chunkSym strs b) (wordAt b 0) = b)
def readG (strs : List UInt8) : Nat → List UInt8 → Option (List SymD)
  | 0, _ => some []
  | k + 1, r => if chunkOk strs (r.take 16) then (readG strs k (r.drop 16)).map (chunkSym strs (r.take 16) :: ·) else none
def readOk (syms : List UInt8) : Bool := decide (syms.length % 16 = 0) && (decide (1 ≤ syms.length / 16) && (decide (syms.length / 16 ≤ 201) && (syms.take 16).all (· == 0)))
def readF (syms strs : List UInt8) : Option (List SymD) := if readOk syms then readG strs (syms.length / 16 - 1) (syms.drop 16) else none
theorem txtV_len (s : List UInt8) (k : Nat) : (txtV s k).length ≤ s.length := by
  unfold txtV
  split
  · have := upto0_le (s.drop k)
    rw [List.length_drop] at this
    omega
  · simp
theorem chunkSym_ok (strs b : List UInt8) (hs : strs.length ≤ 140737488351232) : (chunkSym strs b).Ok := by
  have h1 := txtV_len strs (wordAt b 0)
  have h2 := byteAt_lt b 12
  have h3 := byteAt_lt b 15
  exact ⟨by show (txtV strs (wordAt b 0)).length ≤ _; omega, wordAt_lt _ _, wordAt_lt _ _, by show _ ≤ ((byteAt b 12 / 16 : Nat) : Int); omega, by show ((byteAt b 12 / 16 : Nat) : Int) ≤ _; omega, by show _ ≤ ((byteAt b 15 : Nat) : Int); omega, by show ((byteAt b 15 : Nat) : Int) ≤ _; omega⟩
def symVs (l : List SymD) : List Value := l.flatMap fun s => (symV s).toList
theorem symVs_len : ∀ l : List SymD, (symVs l).length = l.length * 5
  | [] => rfl
  | s :: l => by
    have := symVs_len l
    simp only [symVs, List.flatMap_cons, List.length_append, List.length_cons] at this ⊢
    rw [this]
    show 5 + _ = _
    omega
theorem symVs_at : ∀ (l : List SymD) (i j : Nat) (hi : i < l.length) (v : Value), (symV l[i]).toList[j]? = some v → (symVs l)[i * 5 + j]? = some v
  | s :: l, 0, j, _, v, h => by
    rw [Nat.zero_mul, Nat.zero_add, symVs, List.flatMap_cons, List.getElem?_append_left (by
      have := (List.getElem?_eq_some_iff.1 h).1
      exact this)]
    exact h
  | s :: l, i + 1, j, hi, v, h => by
    have ih := symVs_at l i j (by simpa using hi) v h
    rw [symVs, List.flatMap_cons, List.getElem?_append_right (by show 5 ≤ _; omega)]
    show (symVs l)[(i + 1) * 5 + j - 5]? = some v
    rw [show (i + 1) * 5 + j - 5 = i * 5 + j by omega]
    exact ih
theorem symsV_of_own {w : World} {B : Nat} {v : Value} {l : List SymD} (h : w.ownsRow B 39 5 v l.length (symVs l)) : SymsV w v l := by
  obtain ⟨h1, h2⟩ := h
  rcases h2 with ⟨rfl, h3⟩ | ⟨g, cap, cur, rfl, hg, hc, hn, hcap, hsz, ht⟩
  · exact .inl ⟨by rfl, List.length_eq_zero_iff.1 h3⟩
  · refine .inr ⟨g, 0, cap, rfl, heap_lt hc, fun i hi j v hj => ?_⟩
    have h4 := symVs_at l i j hi v hj
    rw [Nat.zero_add]
    refine cell_at hc ?_
    rw [← ht, List.getElem?_take] at h4
    split at h4
    · simpa using h4
    · cases h4
def ReadPost (ol : Option (List SymD)) (w : World) (e : Ending) (w' : World) : Prop :=
  ∃ v, e = .returned (.tuple #[v, .int .i64 (if ol.isSome then 0 else 103)]) ∧ SymsV w' v (ol.getD []) ∧ Below w.heap.size w w'
theorem sym_info : (Tryd.prog.info? 39).map (fun i => (i.zero, i.size, i.bytes)) = some (some (.agg #[.string ByteArray.empty, .int .u32 0, .int .u32 0, .int .i64 0, .int .i64 0]), 5, 40) := by kernel_rfl
theorem five_set {w : World} {g : Nat} {a b c d e : Value} {x : Array Value} {T : TypeId} {fr : Nat × Nat} (h : w.heap[g]? = some (.cells #[a, b, c, d, e] T fr)) {p q r s t : Value} :
    (((((w.setCell ⟨g, 0, none⟩ p).setCell ⟨g, 1, none⟩ q).setCell ⟨g, 2, none⟩ r).setCell ⟨g, 3, none⟩ s).setCell ⟨g, 4, none⟩ t).heap[g]? = some (.cells #[p, q, r, s, t] T fr) := by
  rw [heap_set (heap_set (heap_set (heap_set (heap_set h))))]; rfl
def tabV (syms strs hash : List UInt8) : Array Value := #[.string (mkB syms), .string (mkB strs), .string (mkB hash)]
theorem tab_size (a b c : List UInt8) : (Tryd.prog.info? 23).map (·.size) = some (tabV a b c).size := by
  show _ = some 3
  kernel_rfl
end Go.Proofs.YtlifdfkconklfaaDoor
