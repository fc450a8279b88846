/-
  Laws of no program on rows of elements of any size: the built-in copy and clear over a whole block, and the lists that slices.Insert and slices.Delete leave.
-/
import Derived.Test.YtlpgandflkabcaaGreatDoorFRowN
import Derived.Laws.AppendOwn
import Derived.Laws.CopyRow
import Derived.Lib.SliceRun
import Derived.Lib.Overlaps
import Derived.Lib.AppendZerosOnto
import Derived.Deep.RegionLaw
namespace Go.Proofs.YtlpgandflkabcaaGreatDoor
open Go Go.RowKit
set_option linter.unusedVariables false
set_option linter.unusedSimpArgs false

section
variable {P : Program}
theorem run_copy_rowK (w : World) (dT sT ty e : TypeId) (i : TypeInfo) (hu : P.underlying dT = some (.slice e)) (hi : P.info? e = some i) (g o dLen dCap : Nat) (cur : Array Value) (hg : w.heap[g]? = some (.cells cur e (0, 0)))
    (a : Addr) (sLen sCap : Nat) (news : List Value) (n : Nat) (hn : n = Nat.min sLen dLen) (hl : news.length = n * i.size) (hnews : ∀ j u, news[j]? = some u → w.cell? (a.add j) = some u) (h1 : ∀ u ∈ news, u.oneCell' = true) (hfit : o + news.length ≤ cur.size) :
    (Builtin.copy_ #[dT, sT] ty #[.slice (some ⟨g, o, none⟩) dLen dCap, .slice (some a) sLen sCap]).run P w = .ok (goInt n) (w.setRow g (cur.toList.take o ++ news ++ cur.toList.drop (o + news.length)).toArray) := by
  have hf := run_firstCells_some (P := P) w i.size n a sLen sCap news hl hnews
  have hst := run_storeCells_at P g o e news 0 cur w hg (by simpa using hfit) h1
  simp only [Nat.add_zero] at hst
  have hn' : min sLen dLen = n := by rw [hn]
  simp [Builtin.copy_, run_underlying hu, sizeOf, typeInfo, hi, Builtin.lenOf, ← hn, hf, hst, hn']
theorem run_clear_rowK (w : World) (t e ty : TypeId) (z : Value) (ht : P.underlying t = some (.slice e)) (hv : ∀ w, (zeroValue e).run P w = .ok z w) (g o n c : Nat) (hn : 0 < n) (cur : Array Value) (hg : w.heap[g]? = some (.cells cur e (0, 0)))
    (h1 : ∀ u ∈ (Builtin.zeroCells z.cells n).toList, u.oneCell' = true) (hfit : o + (Builtin.zeroCells z.cells n).size ≤ cur.size) :
    (Builtin.clear_ #[t] ty #[.slice (some ⟨g, o, none⟩) n c]).run P w = .ok (.tuple #[]) (w.setRow g (cur.toList.take o ++ (Builtin.zeroCells z.cells n).toList ++ cur.toList.drop (o + (Builtin.zeroCells z.cells n).size)).toArray) := by
  have hst := run_storeCells_at P g o e (Builtin.zeroCells z.cells n).toList 0 cur w hg (by simpa using hfit) h1
  simp only [Nat.add_zero, Array.length_toList] at hst
  obtain ⟨m, rfl⟩ : ∃ m, n = m + 1 := ⟨n - 1, by omega⟩
  simp [Builtin.clear_, run_underlying ht, hv, hst]

theorem wp_copy_runI (w : World) {o : Oper} {a : Act} {K : Act → World → Prop} {Q : Exit → Act → World → Prop} (d s : Operand) (t t' : TypeId)
    (ho : o.op = .call { callee := .builtin .copy, args := #[d, s], argTypes := #[t, t'] }) (v u : Value) (hd : a.eval d = v) (hs : a.eval s = u) {v' : Value} {w' : World}
    (hr : (Builtin.copy_ #[t, t'] o.type #[v, u]).run P w = .ok v' w') (h : K (a.put o.dst v') w') : o.wp P a w K Q := by
  unfold Oper.wp execOp
  simp only [ho, resolve, invoke, builtin, Sem.run_bind, Sem.run_pure, Result.andThen_ok, List.map_toArray, List.map_cons, List.map_nil, hd, hs, hr]
  exact h
theorem wpList_copy_runI (w : World) {ops : Array Oper} {rest : List Oper} {o : Oper} {a : Act} {Q : Exit → Act → World → Prop} (hgd : o.guard = none) (d s : Operand) (t t' : TypeId)
    (ho : o.op = .call { callee := .builtin .copy, args := #[d, s], argTypes := #[t, t'] }) (v u : Value) (hd : a.eval d = v) (hs : a.eval s = u) {v' : Value} {w' : World}
    (hr : (Builtin.copy_ #[t, t'] o.type #[v, u]).run P w = .ok v' w') (h : wpList P ops Q rest (a.put o.dst v') w') : wpList P ops Q (o :: rest) a w :=
  wpList_plain hgd fun _ hK => wp_copy_runI w d s t t' ho v u hd hs hr (hK _ _ h)
theorem step_copy_runI {ops : Array Oper} {o : Oper} {a : Act} {w : World} {K : Act → World → Prop} {Q : Exit → Act → World → Prop} {E : Prop}
    (hg : o.guard = none) (d x : Operand) (dT sT : TypeId) (hop : o.op = Op.call { callee := Callee.builtin Builtin.copy, args := #[d, x], argTypes := #[dT, sT] })
    (v u : Value) (hd : a.eval d = v) (hx : a.eval x = u) {v' : Value} {w' : World} (hr : (Builtin.copy_ #[dT, sT] o.type #[v, u]).run P w = .ok v' w') (hK : K (a.put o.dst v') w') :
    if Region.wanted o (yielded ops a.tmps) = true then Oper.wp P o a w K Q else E := by
  have hw : Region.wanted o (yielded ops a.tmps) = true := by simp [Region.wanted, hg]
  rw [if_pos hw]
  unfold Oper.wp
  simp [execOp, hop, resolve, invoke, builtin, hd, hx, hr, Result.andThen]
  exact hK
/-- append where there is room, over a whole block, as one step of a region that draws. -/
theorem step_append_rowK {ops : Array Oper} {o : Oper} {a : Act} {w : World} {K : Act → World → Prop} {Q : Exit → Act → World → Prop} {E : Prop}
    (hg : o.guard = none) (s x : Operand) (t : TypeId) (hop : o.op = Op.call { callee := Callee.builtin Builtin.append, args := #[s, x], argTypes := #[t, t] })
    (e : TypeId) (i : TypeInfo) (size : Nat) (h1 : P.underlying t = some (.slice e)) (h2 : P.info? e = some i) (h4 : i.size = size)
    (g n cap : Nat) (hs : a.eval s = .slice (some ⟨g, 0, none⟩) n cap) (cur : Array Value) (hcur : w.heap[g]? = some (.cells cur e (0, 0)))
    (ad : Addr) (m c : Nat) (news : List Value) (hx : a.eval x = .slice (some ad) m c) (hn : news.length = m * size) (hc : ∀ j u, news[j]? = some u → w.cell? (ad.add j) = some u) (h1c : ∀ u ∈ news, u.oneCell' = true)
    (hroom : n + m ≤ cap) (hfit : n * size + news.length ≤ cur.size)
    (hK : K (a.put o.dst (.slice (some ⟨g, 0, none⟩) (n + m) cap)) (w.setRow g (cur.toList.take (n * size) ++ news ++ cur.toList.drop (n * size + news.length)).toArray)) :
    if Region.wanted o (yielded ops a.tmps) = true then Oper.wp P o a w K Q else E := by
  have hw : Region.wanted o (yielded ops a.tmps) = true := by simp [Region.wanted, hg]
  rw [if_pos hw]
  subst h4
  have hrun := run_append_room (P := P) w t o.type e i h1 h2 g n cap cur hcur ad m c news hn hc h1c hroom hfit
  generalize (cur.toList.take (n * i.size) ++ news ++ cur.toList.drop (n * i.size + news.length)).toArray = R at hrun hK
  unfold Oper.wp
  simp [execOp, hop, resolve, invoke, builtin, hs, hx, hrun, Result.andThen]
  exact hK
end

theorem grown_row (w : World) (g : Nat) (cs : Array Value) : w.grownBy (w.setRow g cs) (some g) :=
  ⟨rfl, rfl, rfl, by simp [World.setRow], fun k _ hk => by
    show (w.heap.modify g _)[k]? = _
    rw [Array.getElem?_modify, if_neg (fun e => hk (by rw [e]))]⟩
theorem grown_drew {w w' : World} {r : Option Nat} (h : w.drew.grownBy w' r) : w.grownBy w' r := ⟨h.os, h.tape, h.output, h.size, h.block⟩
theorem grown_drew' {w w' : World} {r : Option Nat} (h : w.grownBy w' r) : w.grownBy w'.drew r := ⟨h.os, h.tape, h.output, h.size, h.block⟩
theorem grown_refl (w : World) (r : Option Nat) : w.grownBy w r := ⟨rfl, rfl, rfl, Nat.le_refl _, fun _ _ _ => rfl⟩
theorem grown_trans {a b c : World} {r : Option Nat} (h : a.grownBy b r) (k : b.grownBy c r) : a.grownBy c r :=
  ⟨k.os.trans h.os, k.tape.trans h.tape, k.output.trans h.output, Nat.le_trans h.size k.size, fun i hi hn => (k.block i (Nat.lt_of_lt_of_le hi h.size) hn).trans (h.block i hi hn)⟩
theorem grown_new {a b c : World} {r : Option Nat} {g : Nat} (h : a.grownBy b r) (k : b.grownBy c (some g)) (hg : a.heap.size ≤ g) : a.grownBy c r :=
  ⟨k.os.trans h.os, k.tape.trans h.tape, k.output.trans h.output, Nat.le_trans h.size k.size, fun i hi hn => (k.block i (Nat.lt_of_lt_of_le hi h.size) (fun e => by cases e; omega)).trans (h.block i hi hn)⟩
theorem below_grown {a b : World} {B : Nat} {r : Option Nat} (h : a.grownBy b r) (hr : ∀ k, r = some k → B ≤ k) (hB : B ≤ a.heap.size) : Below B a b := (Below.refl B a).grown h hB hr

section
variable {α : Type}
theorem ins_list (cur vs news : List α) (a b c : Nat) (hv : cur.take c = vs) (ha : a ≤ c) (hb : news.length = b) (hfit : c + b ≤ cur.length) (R1 R2 : List α)
    (h1 : R1 = cur.take (a + b) ++ vs.drop a ++ cur.drop (a + b + (vs.drop a).length)) (h2 : R2 = R1.take a ++ news ++ R1.drop (a + news.length)) :
    R2.take (c + b) = vs.take a ++ news ++ vs.drop a ∧ R2.length = cur.length ∧ R1.length = cur.length := by
  have hvl : vs.length = c := by rw [← hv, List.length_take]; omega
  have e1 : R1.take a = vs.take a := by
    rw [h1, List.append_assoc, List.take_append_of_le_length (by rw [List.length_take]; omega), List.take_take, ← hv, List.take_take]
    congr 1; omega
  have e2 : R1.drop (a + news.length) = vs.drop a ++ cur.drop (a + b + (vs.drop a).length) := by
    rw [h1, hb, List.append_assoc, List.drop_append_of_le_length (by rw [List.length_take]; omega), List.drop_take, Nat.sub_self, List.take_zero, List.nil_append]
  have l1 : (vs.drop a).length = c - a := by rw [List.length_drop, hvl]
  have l2 : (vs.take a).length = a := by rw [List.length_take, hvl]; omega
  refine ⟨?_, ?_, ?_⟩
  · rw [h2, e1, e2, ← List.append_assoc]
    rw [List.take_append_of_le_length (by simp only [List.length_append]; omega), List.take_of_length_le (by simp only [List.length_append]; omega)]
  · rw [h2, e1, e2]; simp only [List.length_append, List.length_drop, l2, hvl, hb]; omega
  · rw [h1]; simp only [List.length_append, List.length_drop, List.length_take, hvl]; omega
theorem insg_list (pre mid post vs news : List α) (a b c : Nat) (hv : vs.length = c) (ha : a ≤ c) (hb : news.length = b) (hp : pre = vs.take a) (hm : mid.length = c + b - a) (ROW R1 R2 : List α) (h0 : ROW = pre ++ mid ++ post)
    (h1 : R1 = ROW.take a ++ news ++ ROW.drop (a + news.length)) (h2 : R2 = R1.take (a + b) ++ vs.drop a ++ R1.drop (a + b + (vs.drop a).length)) :
    R2.take (c + b) = vs.take a ++ news ++ vs.drop a ∧ R2.length = ROW.length ∧ R1.length = ROW.length := by
  have l2 : pre.length = a := by rw [hp, List.length_take]; omega
  have e1 : ROW.take a = vs.take a := by
    rw [h0, List.append_assoc, List.take_append_of_le_length (by omega), hp, List.take_take, Nat.min_self]
  have l1 : (vs.drop a).length = c - a := by rw [List.length_drop, hv]
  have lR : ROW.length = c + b + post.length := by rw [h0]; simp only [List.length_append]; omega
  have lR1 : R1.length = ROW.length := by rw [h1, e1]; simp only [List.length_append, List.length_take, List.length_drop]; omega
  have e2 : R1.take (a + b) = vs.take a ++ news := by
    rw [h1, e1, List.take_append_of_le_length (by simp only [List.length_append, List.length_take]; omega), List.take_of_length_le (by simp only [List.length_append, List.length_take]; omega)]
  refine ⟨?_, ?_, lR1⟩
  · rw [h2, e2, List.take_append_of_le_length (by simp only [List.length_append, List.length_take]; omega), List.take_of_length_le (by simp only [List.length_append, List.length_take]; omega)]
  · rw [h2, e2]; simp only [List.length_append, List.length_take, List.length_drop, lR1]; omega
theorem del_list (cur vs zs : List α) (a b c : Nat) (hv : cur.take c = vs) (hab : a ≤ b) (hb : b ≤ c) (hfit : c ≤ cur.length) (hz : zs.length = b - a) (R1 R2 : List α)
    (h1 : R1 = cur.take a ++ vs.drop b ++ cur.drop (a + (vs.drop b).length)) (h2 : R2 = R1.take (a + (c - b)) ++ zs ++ R1.drop (a + (c - b) + zs.length)) :
    R2.take (a + (c - b)) = vs.take a ++ vs.drop b ∧ R2.length = cur.length ∧ R1.length = cur.length := by
  have hvl : vs.length = c := by rw [← hv, List.length_take]; omega
  have l1 : (vs.drop b).length = c - b := by rw [List.length_drop, hvl]
  have e0 : cur.take a = vs.take a := by rw [← hv, List.take_take]; congr 1; omega
  have lR1 : R1.length = cur.length := by rw [h1]; simp only [List.length_append, List.length_take, List.length_drop]; omega
  have e1 : R1.take (a + (c - b)) = vs.take a ++ vs.drop b := by
    rw [h1, e0, List.take_append_of_le_length (by simp only [List.length_append, List.length_take]; omega), List.take_of_length_le (by simp only [List.length_append, List.length_take]; omega)]
  refine ⟨?_, ?_, lR1⟩
  · rw [h2, e1, List.append_assoc, List.take_append_of_le_length (by simp only [List.length_append, List.length_take]; omega), List.take_of_length_le (by simp only [List.length_append, List.length_take]; omega)]
  · rw [h2, e1]; simp only [List.length_append, List.length_take, List.length_drop, lR1]; omega
end
theorem zeroCells_len (z : Array Value) (n : Nat) : (Builtin.zeroCells z n).toList.length = n * z.size := by rw [Array.length_toList, size_zeroCells]
theorem zeroCells_one {z : Array Value} (h : ∀ u ∈ z.toList, u.oneCell' = true) (n : Nat) : ∀ u ∈ (Builtin.zeroCells z n).toList, u.oneCell' = true := by
  intro u hu
  simp only [Builtin.zeroCells, Array.toList_map, List.mem_map, Array.mem_toList_iff, Array.mem_range] at hu
  obtain ⟨i, hi, rfl⟩ := hu
  have hz : 0 < z.size := Nat.pos_of_ne_zero fun e => by rw [e, Nat.mul_zero] at hi; omega
  have hm := Nat.mod_lt i hz
  rw [getElem!_pos z _ hm]
  exact h _ (by simp)
end Go.Proofs.YtlpgandflkabcaaGreatDoor
