/-
  slices.SortFunc over nodes that the call owns, by their paths.
-/
import Derived.Test.YtlpgandflkabcaaGreatDoorFTtD
import Derived.Test.YtlpgandflkabcaaGreatDoorFShelfT
import Derived.Shelf.SlSortCmp.WholeK
namespace Go.Proofs.YtlpgandflkabcaaGreatDoor
open Go Go.RowKit Go.Shelf
set_option linter.unusedVariables false
set_option linter.unusedSimpArgs false

instance : Inhabited NodeD := ⟨noneN⟩
def encN (x : NodeD) : List Value := (nodeV x).toList
def cmpN (x y : NodeD) : Int := cmpS x.path y.path
theorem ltN (x y : NodeD) : ltOf cmpN x y = decide (x.path < y.path) := by
  unfold ltOf cmpN
  exact cmpS_lt _ _
theorem swoN : Sort.SWO (ltOf cmpN) where
  irrefl x := by rw [ltN]; exact decide_eq_false (ltS_irrefl _)
  trans x y z h1 h2 := by
    rw [ltN, decide_eq_true_eq] at *
    exact ltS_trans h1 h2
  ntrans x y z h1 h2 := by
    rw [ltN, decide_eq_false_iff_not] at *
    intro h
    rcases ltS_tri x.path y.path with k | k | k
    · exact h1 k
    · exact h2 (k ▸ h)
    · exact h2 (ltS_trans k h)
theorem flat_nodes (l : List NodeD) : (Sort.flatK encN 4 l.toArray).toList = nodeVs l := by
  apply List.ext_getElem?
  intro t
  by_cases ht : t < l.length * 4
  · have hs : t < (Sort.flatK encN 4 l.toArray).size := by simpa using ht
    obtain ⟨i, j, hj, rfl⟩ : ∃ i j, j < 4 ∧ t = i * 4 + j := ⟨t / 4, t % 4, by omega, by omega⟩
    have hi : i < l.length := by omega
    have h1 := Sort.get_flatK encN 4 l.toArray (i * 4 + j) (by simpa using ht)
    rw [getElem!_pos (Sort.flatK encN 4 l.toArray) (i * 4 + j) hs, show (i * 4 + j) / 4 = i by omega, show (i * 4 + j) % 4 = j by omega, getElem!_pos l.toArray i (by simpa using hi)] at h1
    rw [Array.getElem?_toList, Array.getElem?_eq_getElem hs, h1]
    obtain ⟨a0, a1, a2, a3⟩ := nodeVs_at l i hi
    match j, hj with
    | 0, _ => rw [Nat.add_zero, a0]; rfl
    | 1, _ => rw [a1]; rfl
    | 2, _ => rw [a2]; rfl
    | 3, _ => rw [a3]; rfl
  · rw [List.getElem?_eq_none (by simp; omega), List.getElem?_eq_none (by rw [nodeVs_len]; omega)]
theorem move1_any (x y : NodeD) (W : World) : Calls Tryz.prog 67 #[.agg (nodeV x), .agg (nodeV y)] W fun e w' => e = .returned (.int .i64 (cmpN x y)) ∧ ∃ q os', w' = Sort.grow (W.drewN q) os' := by
  have HC := Lib.hid (fun w => compare_any x.path y.path w)
  have HE : Hid (cmpN x y = cmpS x.path y.path) := Lib.hid rfl
  generalize cmpN x y = r at HE ⊢
  go_enter Tryz.func67, Tryz.ntmps67
  go_wp2_with (go_at_call 68; refine (HC.out _).mono ?_; rintro e w' ⟨rfl, rfl⟩)
  go_ret
  exact ⟨by rw [HE.out]; rfl, 0, _, by rw [Sort.alloc_eq_grow, Sort.alloc_eq_grow, Sort.grow_grow]; rfl⟩
theorem take_putCells (F cur : Array Value) (h : F.size ≤ cur.size) : (Sort.putCells id 0 F cur).toList.take F.size = F.toList := by
  apply List.ext_getElem?
  intro k
  rw [List.getElem?_take, Array.getElem?_toList, Array.getElem?_toList]
  by_cases hk : k < F.size
  · rw [if_pos hk]
    simp only [Sort.putCells, Array.getElem?_mapIdx]
    rw [Array.getElem?_eq_getElem (show k < cur.size by omega), Array.getElem?_eq_getElem hk, Option.map_some]
    simp [hk]
  · rw [if_neg hk, Array.getElem?_eq_none (by omega)]
theorem size_putCells (F cur : Array Value) : (Sort.putCells id 0 F cur).size = cur.size := by simp [Sort.putCells]
theorem holds_own {w : World} {B g n cap : Nat} {R : List NodeD} (hR : R.length = n) (h : w.ownsRow B 28 4 (.slice (some ⟨g, 0, none⟩) n cap) n (nodeVs R)) : Sort.HoldsK encN 4 w g 0 R.toArray := by
  rcases h.2 with ⟨hv, _⟩ | ⟨g', cap', cur, hv, hB, hg, hn, hm, hs, ht⟩
  · cases hv
  cases hv
  intro j hj
  have hj2 : j < n * 4 := by
    have := hj
    rw [Sort.size_flatK] at this
    simpa [hR] using this
  refine ⟨cell_at hg ?_, free_at hg⟩
  have h1 := flat_nodes R
  have h2 : (Sort.flatK encN 4 R.toArray).toList[j]? = (nodeVs R)[j]? := by rw [h1]
  rw [Array.getElem?_toList, Array.getElem?_eq_getElem hj, ← ht, List.getElem?_take, if_pos hj2, Array.getElem?_toList] at h2
  have h2' := h2.symm
  rw [Nat.zero_add, h2', getElem!_pos (Sort.flatK encN 4 R.toArray) j hj]; rfl
set_option maxRecDepth 100000 in
theorem sortN_any (R : List NodeD) (hlen : R.length ≤ 1000) (B g cap : Nat) (w : World) (hO : w.ownsRow B 28 4 (.slice (some ⟨g, 0, none⟩) R.length cap) R.length (nodeVs R)) :
    Calls Tryz.prog 66 #[.slice (some ⟨g, 0, none⟩) R.length cap, .func (.func 67) #[] #[]] w fun e w' => e = .returned (.tuple #[]) ∧ KeptBut g w w' ∧ ∃ S : List NodeD, S.Perm R ∧ S.Pairwise (fun a b => ¬ b.path < a.path) ∧ w'.ownsRow B 28 4 (.slice (some ⟨g, 0, none⟩) R.length cap) R.length (nodeVs S) := by
  have eg : ∀ args w, (callFunc 67 args).run Tryz.prog w = .ok (.enter 67 args) w := enters_of Tryz.func67 (by kernel_rfl) rfl
  have hg := hO.2
  rcases hg with ⟨hv, _⟩ | ⟨g', cap', cur, hv, hB, hg, hn, hm, hs, ht⟩
  · cases hv
  cases hv
  have hcon := AnyQ.slices_SortFunc Tryz.sortNode 4 Tryz.isAgg28 Tryz.sizeOf28 encN (fun _ => rfl) (fun x v hv => by simp [encN] at hv; rcases hv with rfl | rfl | rfl | rfl <;> rfl) cmpN swoN 67 #[] g 0 cap R.toArray w eg (fun m os dk hdk x y => move1_any x y _) (holds_own rfl hO) (heap_lt hg) (by simp; omega)
  change Calls Tryz.prog 66 _ _ _ at hcon
  rw [List.size_toArray] at hcon
  refine hcon.mono ?_
  rintro e w' ⟨rfl, d', m, os, hp, hsd, rfl⟩
  have hd : d'.size = R.length := by have := hp.1; simpa using this
  have hF : (Sort.flatK encN 4 d').size = R.length * 4 := by rw [Sort.size_flatK, hd]
  have hheap : ∀ k, k < w.heap.size → (sortWorldK encN 4 w g 0 m d' os).heap[k]? = (w.heap.modify g (Sort.onCells (Sort.putCells id 0 (Sort.flatK encN 4 d'))))[k]? := fun k hk => by
    show (_ ++ os)[k]? = _
    rw [Array.getElem?_append_left (by simpa [Sort.putRowK, Sort.putRow, Sort.mapBlock, Sort.ahead] using hk)]
    rfl
  refine ⟨rfl, ⟨rfl, rfl, rfl, ?_, fun k hk hne => ?_⟩, d'.toList, ?_, ?_, ⟨by rw [nodeVs_len, Array.length_toList, hd], .inr ⟨g, cap, Sort.putCells id 0 (Sort.flatK encN 4 d') cur, rfl, hB, ?_, hn, hm, by rw [size_putCells]; exact hs, ?_⟩⟩⟩
  · show w.heap.size ≤ (_ ++ os).size
    rw [Array.size_append]
    simp [Sort.putRowK, Sort.putRow, Sort.mapBlock, Sort.ahead]
  · rw [hheap k hk, Array.getElem?_modify, if_neg (fun e => hne e.symm)]
  · have := hp.2.2
    rw [show d'.extract 0 R.length = d' by rw [← hd]; simp, show R.toArray.extract 0 R.length = R.toArray by simp] at this
    simpa using this
  · rw [List.pairwise_iff_getElem]
    intro i j hi hj hij
    have := hsd i j (Nat.zero_le _) hij (by rw [← hd]; simpa using hj)
    rw [ltN, decide_eq_false_iff_not, getElem!_pos d' j (by simpa using hj), getElem!_pos d' i (by simpa using hi)] at this
    simpa using this
  · rw [hheap g (heap_lt hg), Array.getElem?_modify, if_pos rfl, hg]; rfl
  · have h1 := take_putCells (Sort.flatK encN 4 d') cur (by omega)
    rw [hF] at h1
    rw [h1, ← flat_nodes d'.toList, Array.toArray_toList]
end Go.Proofs.YtlpgandflkabcaaGreatDoor
