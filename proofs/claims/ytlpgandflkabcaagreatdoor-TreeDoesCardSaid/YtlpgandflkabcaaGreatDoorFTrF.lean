/-
  The program's iterator over a path's parts.
-/
import Derived.Test.YtlpgandflkabcaaGreatDoorFTrE
import Derived.Stop.RegionWithIn
import Derived.RangeFuncBound
import Derived.RangeFuncBox
import Derived.RangeFuncLeaves
import Derived.RangeFuncCalls
import Derived.LoopIn
import Derived.Sort.CutIn
namespace Go.Proofs.YtlpgandflkabcaaGreatDoor
open Go Go.RowKit Go.Shelf
set_option linter.unusedVariables false
set_option linter.unusedSimpArgs false
attribute [local go_sem] Oper.semAt_some

/-- A guarded call that is not wanted. -/
theorem wplIn_skip_call {n : Nat} {P : Program} {ops : Array Oper} {Q : Exit → Act → World → Prop} {rest : List Oper} {a : Act} {w : World} {d : Option Tmp} {c : Call} {ty : TypeId} {pos : String} {af : Array Edge} {g : Nat × Bool}
    (hw : Region.wanted ⟨d, .call c, ty, pos, af, some g⟩ (yielded ops a.tmps) = false) (h : wpListIn Fence.wide n P ops Q rest (a.put d undef) w) : wpListIn Fence.wide n P ops Q (⟨d, .call c, ty, pos, af, some g⟩ :: rest) a w := by
  unfold wpListIn
  rw [if_neg (by rw [hw]; exact Bool.false_ne_true)]
  exact ⟨fun _ _ => trivial, h⟩
/-- A block that a round leaves as it lies: cells, not the box c, not what the box's slice owns. -/
structure Prot (c : Nat) (t : TypeId) (k : Nat) (W : World) : Prop where
  cells : ∃ r e fr, W.heap[k]? = some (.cells r e fr)
  box : k ≠ c
  own : ∀ v, Boxed W c t v → v.ownBlock ≠ some k
def KeepsP (c : Nat) (t : TypeId) (W W' : World) : Prop := ∀ k, Prot c t k W → W'.heap[k]? = W.heap[k]? ∧ Prot c t k W'
theorem KeepsP.trans {c : Nat} {t : TypeId} {X Y Z : World} (h : KeepsP c t X Y) (k : KeepsP c t Y Z) : KeepsP c t X Z := fun j hj => by
  obtain ⟨h1, h2⟩ := h j hj
  obtain ⟨k1, k2⟩ := k j h2
  exact ⟨k1.trans h1, k2⟩
theorem KeepsP.put {c : Nat} {t : TypeId} {n : Nat} (hc : c < n) (W : World) (l : Nat) (o o' : Obj) (hl : n ≤ l) (h : W.heap[l]? = some o) (ho : o.isCells = false) (hw : o.isWalk = false) : KeepsP c t W (W.putObj l o') := by
  rintro k ⟨⟨r, e, fr, hr⟩, hb, hown⟩
  have hkl : k ≠ l := fun e' => by subst e'; rw [h] at hr; cases hr; cases ho
  have e1 : (W.putObj l o').heap[k]? = W.heap[k]? := World.putObj_heap_other hkl
  have e2 : (W.putObj l o').heap[c]? = W.heap[c]? := World.putObj_heap_other (by omega)
  exact ⟨e1, ⟨r, e, fr, e1.trans hr⟩, hb, fun v hv => hown v (e2.symm.trans hv)⟩
abbrev PartD : Type := { x : List UInt8 // x.length ≤ 1000000 }
theorem abide_belowT {β : Type} {B : Nat} {J : β → World → Prop} (h : AbidesFrom B J) {s : β} {W W' : World} (hs : J s W) (hb : Below W.heap.size W W') : J s W' :=
  h s W W' none hs ⟨hb.os, hb.tape, hb.output, hb.size, fun k hk _ => hb.block k hk⟩ (fun r e => by cases e)
theorem parts_any (s : List UInt8) (w : World) :
    Calls Tryz.prog 48 #[.string (mkB s)] w fun e w' => e = .returned (.func (.func 70) #[] #[.pointer (some ⟨w.heap.size, 0, none⟩)]) ∧ w' = w.alloc (.cells #[.string (mkB s)] 9) := by
  have hmf : ∀ (fn : Fn) (first cap : Array Value) (w : World), (Instr.makeFunc fn first cap).run Tryz.prog w = .ok (.func fn first cap) w := fun _ _ _ _ => rfl
  go_enter Tryz.func48, Tryz.ntmps48
  go_wp2
  go_ret
  exact ⟨rfl, rfl⟩
def keepB1 (p : List UInt8) : Bool := !(p == []) && !(p == [46])
set_option maxHeartbeats 4000000 in
set_option maxRecDepth 100000 in
theorem parts_in (f : Nat) (hf : 1 ≤ f) (l b1 c : Nat) (t : TypeId) (s : List UInt8) (hs : s.length ≤ 1000000) (J Jx : List PartD → World → Prop)
    (W : World) (hJ : AbidesFrom W.heap.size J) (hJx : AbidesFrom W.heap.size Jx)
    (hY : ∀ pre x W, J pre W → pre.length < (partsB s).length + 1 → YieldAt Fence.wide (f - 1) Tryz.prog l #[.string (mkB x.val)] W fun e W' =>
      (e = .returned (.bool true) ∧ J (pre ++ [x]) W' ∧ KeepsP c t W W') ∨ (e = .returned (.bool false) ∧ Jx (pre ++ [x]) W'))
    (hc1 : W.cell? ⟨b1, 0, none⟩ = some (.string (mkB s))) (hcW : c < W.heap.size) (hown : ∀ v, Boxed W c t v → ∀ g, v.ownBlock = some g → g < W.heap.size) (h0 : J [] W) :
    CallsIn Fence.wide f Tryz.prog 70 #[.func (.yield l) #[] #[], .pointer (some ⟨b1, 0, none⟩)] W fun e W' => (∃ v, e = .returned v) ∧
      ((∃ ys : List PartD, ys.map Subtype.val = partsB s ∧ J ys W') ∨ (∃ pre : List PartD, pre.map Subtype.val <+: partsB s ∧ Jx pre W')) := by
  have HJ := Lib.hid hJ; have HY := Lib.hid hY; have H0 := Lib.hid h0
  obtain ⟨ps, hps⟩ : ∃ ps, ps = splitB 47 s := ⟨_, rfl⟩
  have HPS := Lib.hid hps
  have HPL : Hid (∀ p ∈ ps, p.length ≤ 1000000) := Lib.hid (fun p hp => by rw [hps] at hp; have := split_mem hp; omega)
  have hlen : ps.length ≤ 1000001 := by rw [hps]; have := split_len s; omega
  have hli : (ps.length : Int) ≤ 1000001 := by omega
  have HS : Hid (Calls Tryz.prog 54 #[.string (mkB s), .string ⟨#[47]⟩] W fun e w' => e = .returned (.slice (some ⟨W.heap.size, 0, none⟩) ps.length ps.length) ∧ w' = W.alloc (.cells (pieceRow ps) 9)) := Lib.hid (by rw [hps]; exact split_any s W hs)
  have HPR : Hid (Prot c t W.heap.size (W.alloc (.cells (pieceRow ps) 9))) := Lib.hid ⟨⟨_, _, _, heap_new _ _ _ rfl⟩, by omega, fun v hv e => by
    have h1 : Boxed W c t v := (heap_old _ _ _ hcW).symm.trans hv
    have := hown v h1 _ e
    omega⟩
  have HR0 : Hid ((W.alloc (.cells (pieceRow ps) 9)).heap[W.heap.size]? = some (.cells (pieceRow ps) 9)) := Lib.hid (heap_new _ _ _ rfl)
  have HJ0 : Hid (J [] (W.alloc (.cells (pieceRow ps) 9))) := Lib.hid (abide_belowT hJ h0 ((Below.refl _ _).alloc (Nat.le_refl _) _))
  have hw1 : Fence.wide.fn 54 := trivial
  clear hJ hJx hY h0 hown hps hs hlen
  refine callsIn_of_wp Tryz.func70 rfl trivial ?_ rfl
  simp only [Tryz.ntmps70, List.size_toArray, List.length_cons, List.length_nil, Nat.reduceAdd, Nat.reduceSub, Array.replicate_succ, Array.replicate_zero, List.push_toArray, List.append_toArray, List.nil_append, List.cons_append]
  gi_wp2_with (gi_at_call 54; refine (callsIn_wide.2 HS.out).mono ?_; rintro e w1 ⟨rfl, rfl⟩)
  obtain ⟨W1, hW1⟩ : ∃ W1, W1 = W.alloc (.cells (pieceRow ps) 9) := ⟨_, rfl⟩
  rw [← hW1] at HPR HR0 HJ0 ⊢
  clear hW1
  gi_loopw [8] (fun iv wr => ∃ (i : Nat) (pre : List PartD), iv = .int .i64 i ∧ i ≤ ps.length ∧ Hid (pre.map Subtype.val = (ps.take i).filter keepB1) ∧ Hid (J pre wr) ∧ Hid (Prot c t W.heap.size wr) ∧ Hid (wr.heap[W.heap.size]? = some (.cells (pieceRow ps) 9))) (fun x _ => ps.length - (intOf x).toNat)
  case atStart => exact ⟨0, [], rfl, Nat.zero_le _, Lib.hid rfl, HJ0, HPR, HR0⟩
  case round =>
    obtain ⟨i, pre, rfl, hil, hpre, hJr, hPr, hRr⟩ := hrel
    by_cases hi : i < ps.length
    · have hil2 : (i : Int) < (ps.length : Int) := by omega
      have cell := cell_at (o := i) hRr.out (pieceRow_at hi)
      obtain ⟨p, hp⟩ : ∃ p, p = ps[i] := ⟨_, rfl⟩
      have HPI := Lib.hid hp
      have HPP : Hid (p.length ≤ 1000000) := Lib.hid (by rw [hp]; exact HPL.out _ (List.getElem_mem hi))
      have HTK : Hid ((ps.take (i + 1)).filter keepB1 = (ps.take i).filter keepB1 ++ if keepB1 p then [p] else []) := Lib.hid (by
        rw [List.take_succ_eq_append_getElem hi, List.filter_append, ← hp]
        congr 1
        cases hk : keepB1 p <;> simp [List.filter_cons, hk])
      rw [← hp] at cell
      clear hp
      have hzp := mkB_size p
      have HL : Hid ((mkB p).toList = p) := Lib.hid (mkB_toList p)
      by_cases h0 : (mkB p).toList = []
      · have HKB : Hid (keepB1 p = false) := Lib.hid (by rw [HL.out] at h0; subst h0; rfl)
        have e0 : (mkB p).toList.isEmpty = true := by simpa using h0
        gi_wp2_with (refine wplIn_skip_call (by rfl) ?_)
        go_roundw
        case rel => exact ⟨i + 1, pre, by go_num, by omega, Lib.hid (by rw [HTK.out, HKB.out, hpre.out]; simp), hJr, hPr, hRr⟩
        case measure => simp [intOf]; omega
      · have e0 : (mkB p).toList.isEmpty = false := by simpa using h0
        by_cases h1 : (mkB p).toList = [46]
        · have HKB : Hid (keepB1 p = false) := Lib.hid (by rw [HL.out] at h1; subst h1; rfl)
          have e1 : ((mkB p).toList == [46]) = true := beq_iff_eq.2 h1
          gi_wp2_with (refine wplIn_skip_call (by rfl) ?_)
          go_roundw
          case rel => exact ⟨i + 1, pre, by go_num, by omega, Lib.hid (by rw [HTK.out, HKB.out, hpre.out]; simp), hJr, hPr, hRr⟩
          case measure => simp [intOf]; omega
        · have e1 : ((mkB p).toList == [46]) = false := beq_eq_false_iff_ne.2 h1
          have HKB : Hid (keepB1 p = true) := Lib.hid (by rw [HL.out] at h0 h1; rw [keepB1, beq_eq_false_iff_ne.2 h0, beq_eq_false_iff_ne.2 h1]; rfl)
          have HPF : Hid (∀ m, m ≤ ps.length → ((ps.take m).filter keepB1) <+: partsB s) := Lib.hid (fun m hm => by
            have h2 : partsB s = ps.filter keepB1 := by rw [HPS.out]; rfl
            rw [h2, ← List.take_append_drop m ps, List.filter_append]
            simp)
          obtain ⟨fn, tmps, assign, body, hy, hRR⟩ := HY.out pre ⟨p, HPP.out⟩ wr hJr.out (by
            have h1 := congrArg List.length hpre.out
            have h2 := (HPF.out i (by omega)).length_le
            rw [List.length_map] at h1
            omega)
          gi_wp2
          refine hRR.mono ?_
          rintro e W5 (⟨rfl, hJ5, hk5⟩ | ⟨rfl, hJx5⟩)
          · have H5 := Lib.hid hJ5
            obtain ⟨k1, k2⟩ := hk5 _ hPr.out
            have HP5 := Lib.hid k2
            have HR5 : Hid (W5.heap[W.heap.size]? = some (.cells (pieceRow ps) 9)) := Lib.hid (k1.trans hRr.out)
            clear hJ5 hk5 hy hRR k1 k2
            gi_wp2
            go_roundw
            case rel => exact ⟨i + 1, pre ++ [⟨p, HPP.out⟩], by go_num, by omega, Lib.hid (by rw [List.map_append, HTK.out, HKB.out, hpre.out]; rfl), H5, HP5, HR5⟩
            case measure => simp [intOf]; omega
          · have HX5 := Lib.hid hJx5
            clear hJx5
            gi_wp2
            refine bodyPost_ret (results_none rfl _ _ _) rfl ?_
            exact ⟨⟨_, rfl⟩, .inr ⟨pre ++ [⟨p, HPP.out⟩], by
              have h2 := HPF.out (i + 1) (by omega)
              rw [HTK.out, HKB.out] at h2
              rw [List.map_append, hpre.out]
              exact h2, HX5.out⟩⟩
    · obtain rfl : i = ps.length := by omega
      gi_wp2
      go_end0
      exact ⟨⟨_, rfl⟩, .inl ⟨pre, by rw [hpre.out, List.take_length, HPS.out]; rfl, hJr.out⟩⟩
end Go.Proofs.YtlpgandflkabcaaGreatDoor
