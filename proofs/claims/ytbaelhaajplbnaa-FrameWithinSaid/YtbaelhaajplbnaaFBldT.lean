/-
  Builders that stand side by side: what a write to one leaves of all else, block by block.
-/
import Derived.Test.YtbaelhaajplbnaaFBld
namespace Go.Proofs.Ytbaelhaajplbnaa
open Go Go.RowKit
set_option linter.unusedVariables false
set_option linter.unusedSimpArgs false

/-- A builder in block b, its bytes in block r (none: no block yet). -/
def BldAt (T : TypeId) (b : Nat) (r : Option Nat) (l : List UInt8) (w : World) : Prop :=
  ∃ p v, (p = .pointer none ∨ p = .pointer (some ⟨b, 0, none⟩)) ∧ w.heap[b]? = some (.cells #[p, v] T (0, 0)) ∧ w.ownsRowF 0 5 1 v l.length (Lib.byteCells l) ∧ v.ownBlock = r ∧ r ≠ some b
/-- Nothing but the blocks b and r has turned. -/
structure Only (b : Nat) (r : Option Nat) (w w' : World) : Prop where
  os : w'.os = w.os
  tape : w'.tape = w.tape
  output : w'.output = w.output
  size : w.heap.size ≤ w'.heap.size
  block : ∀ k, k < w.heap.size → k ≠ b → some k ≠ r → w'.heap[k]? = w.heap[k]?
theorem Only.below {b : Nat} {r : Option Nat} {w w' : World} (h : Only b r w w') {B : Nat} (hb : B ≤ b) (hr : ∀ k, r = some k → B ≤ k) (hB : B ≤ w.heap.size) : Below B w w' :=
  ⟨h.os, h.tape, h.output, h.size, fun k hk => h.block k (by omega) (by omega) (fun e => by have := hr k e.symm; omega)⟩
theorem Only.trans {b : Nat} {r r' : Option Nat} {u v w : World} (h : Only b r u v) (k : Only b r' v w) (hr : r' = r ∨ r' = none ∨ ∃ g, r' = some g ∧ u.heap.size ≤ g) : Only b r u w :=
  ⟨k.os.trans h.os, k.tape.trans h.tape, k.output.trans h.output, Nat.le_trans h.size k.size, fun i hi hb hir => (k.block i (Nat.lt_of_lt_of_le hi h.size) hb (fun e => by
    rcases hr with rfl | rfl | ⟨g, rfl, hg⟩
    · exact hir e
    · cases e
    · cases e; omega)).trans (h.block i hi hb hir)⟩
theorem BldAt.lt {T : TypeId} {b : Nat} {r : Option Nat} {l : List UInt8} {w : World} (h : BldAt T b r l w) : b < w.heap.size := by
  obtain ⟨p, v, _, hb, _⟩ := h
  exact heap_lt hb
theorem BldAt.row {T : TypeId} {b : Nat} {r : Option Nat} {l : List UInt8} {w : World} (h : BldAt T b r l w) : ∀ k, r = some k → k < w.heap.size := by
  obtain ⟨p, v, _, hb, hown, rfl, hne⟩ := h
  intro k hk
  exact (hown.lt k hk).2
/-- What leaves both blocks leaves the builder. -/
theorem BldAt.kept {T : TypeId} {b : Nat} {r : Option Nat} {l : List UInt8} {w w' : World} (h : BldAt T b r l w) (hb : w'.heap[b]? = w.heap[b]?) (hr : ∀ k, r = some k → w'.heap[k]? = w.heap[k]?) : BldAt T b r l w' := by
  obtain ⟨p, v, hp, hbk, hown, rfl, hne⟩ := h
  refine ⟨p, v, hp, hb.trans hbk, ⟨hown.1, ?_⟩, rfl, hne⟩
  rcases hown.2 with h0 | ⟨g, cap, cur, fz, rfl, h1, h2, h3⟩
  · exact .inl h0
  · exact .inr ⟨g, cap, cur, fz, rfl, h1, (hr g rfl).trans h2, h3⟩
theorem BldAt.below {T : TypeId} {b : Nat} {r : Option Nat} {l : List UInt8} {w w' : World} (h : BldAt T b r l w) (hb : Below w.heap.size w w') : BldAt T b r l w' :=
  h.kept (hb.block _ h.lt) (fun k hk => hb.block _ (h.row k hk))
theorem BldAt.other {T : TypeId} {b c : Nat} {r q : Option Nat} {l : List UInt8} {w w' : World} (h : BldAt T b r l w) (ho : Only c q w w') (hbc : b ≠ c) (hbq : some b ≠ q) (hrc : r ≠ some c) (hrq : r = none ∨ r ≠ q) : BldAt T b r l w' :=
  h.kept (ho.block _ h.lt hbc hbq) (fun k hk => ho.block _ (h.row k hk) (fun e => hrc (by rw [hk, e])) (fun e => by
    rcases hrq with h0 | h0
    · rw [h0] at hk; cases hk
    · exact h0 (by rw [hk, e])))
theorem bldAt_new {T : TypeId} (w : World) : BldAt T w.heap.size none [] (w.alloc (.cells #[.pointer none, .slice none 0 0] T)) :=
  ⟨.pointer none, .slice none 0 0, .inl rfl, heap_new _ _ _ rfl, World.ownsRowF_of (World.ownsRow_nil _ _ _ _), rfl, by simp⟩

theorem check_at {T : TypeId} (hT : BldT T) (b : Nat) (r : Option Nat) (l : List UInt8) (w : World) (h : BldAt T b r l w) :
    Calls Try.prog 34 #[.pointer (some ⟨b, 0, none⟩)] w fun e w' => e = .returned (.tuple #[]) ∧
      ((∃ v, w'.heap[b]? = some (.cells #[.pointer (some ⟨b, 0, none⟩), v] T (0, 0)) ∧ w'.ownsRowF 0 5 1 v l.length (Lib.byteCells l) ∧ v.ownBlock = r ∧ r ≠ some b) ∧ Only b none w w') := by
  obtain ⟨p, v, hp, hbk, hown, hr, hne⟩ := h
  rcases hp with rfl | rfl
  · have hs : w.shape? b = some (T, 2) := by simp [World.shape?, hbk]
    have hf : w.frozen? ⟨b, 0, none⟩ = false := free_at hbk
    refine (check_fresh hT b w (cell_at hbk rfl) hs hf).mono ?_
    rintro e w' ⟨rfl, rfl⟩
    refine ⟨rfl, ⟨v, heap_set hbk, ?_, hr, hne⟩, ⟨rfl, rfl, rfl, by simp [World.setCell], fun k _ hk _ => heap_set_ne _ _ _ _ _ hk⟩⟩
    refine hown.kept (row := some b) ⟨rfl, rfl, rfl, by simp [World.setCell], fun k _ hk => Below.heap_setCell _ _ _ _ (fun e => hk (by simp [e]))⟩ (.inr (by rw [hr]; exact hne))
  · refine (check_used b w (cell_at hbk rfl)).mono ?_
    rintro e w' ⟨rfl, rfl⟩
    exact ⟨rfl, ⟨v, hbk, hown, hr, hne⟩, ⟨rfl, rfl, rfl, Nat.le_refl _, fun _ _ _ _ => rfl⟩⟩

/-- Where the bytes lie behind an append. -/
theorem app_where (w : World) (v : Value) (l : List UInt8) (s : ByteArray) (i0 : TypeInfo) (hi : Try.prog.info? 5 = some i0) (hz0 : i0.zero = some (.int .u8 0)) (hz1 : i0.size = 1) (hz2 : i0.bytes = 1)
    (hown : w.ownsRowF 0 5 1 v l.length (Lib.byteCells l)) (hlen : l.length + s.size ≤ 140737488355328) {v' : Value} {w' : World} (ty : TypeId)
    (hr : (Builtin.append_ #[56, 9] ty #[v, .string s]).run Try.prog w = .ok v' w') : v'.ownBlock = v.ownBlock ∨ ∃ g, v'.ownBlock = some g ∧ w.heap.size ≤ g := by
  have hm : l.length + s.size ≤ maxLen := by unfold maxLen; omega
  rcases hown.2 with ⟨rfl, h0⟩ | ⟨g, cap, cur, fz, rfl, hbg, hg, hfz, hnc, hcm, hcs, htake⟩
  · obtain ⟨v2, w2, h1, h2, h3, h4⟩ := Lib.run_append_own_stringF (P := Try.prog) w w.heap.size 56 9 ty 5 i0 Try.underlying56 Try.underlying9 hi hz0 hz1 hz2 (.slice none 0 0) l.length (Lib.byteCells l) ⟨hown.1, .inl ⟨rfl, h0⟩⟩ s hm hlen (Nat.le_refl _)
    rw [hr] at h1
    cases h1
    cases hb : v'.ownBlock with
    | none => exact .inl rfl
    | some g => exact .inr ⟨g, rfl, (h2.lt g hb).1⟩
  · have hn : l.length = (Lib.byteCells l).length := by simp [Lib.byteCells]
    by_cases hroom : l.length + s.size ≤ cap
    · have h1 := Lib.run_append_room_stringF (P := Try.prog) w 56 9 ty 5 i0 Try.underlying56 Try.underlying9 hi hz1 g l.length cap cur fz hg (by simpa using hfz) s hroom (by simp at hcs; omega)
      rw [hr] at h1
      cases h1
      exact .inl rfl
    · have holds : ∀ j u, (Lib.byteCells l)[j]? = some u → w.cell? ((⟨g, 0, none⟩ : Addr).add j) = some u := hown.cells (g := g) rfl
      have h1 := Lib.run_append_grow_string (P := Try.prog) w 56 9 ty 5 i0 (.int .u8 0) Try.underlying56 Try.underlying9 hi hz0 ⟨g, 0, none⟩ l.length cap (Lib.byteCells l) (by rw [hz1]; simp [Lib.byteCells]) holds s (by omega) (by omega) (by rw [hz2]; exact growslice_fits (by omega) (by omega))
      rw [hr] at h1
      cases h1
      exact .inr ⟨_, rfl, Nat.le_refl _⟩

theorem wpl_app_str {ops : Array Oper} {rest : List Oper} {o : Oper} {a : Act} {w : World} {Q : Exit → Act → World → Prop} (hgd : o.guard = none) (sl x : Operand)
    (ho : o.op = .call { callee := .builtin .append, args := #[sl, x], argTypes := #[56, 9] }) (v : Value) (l : List UInt8) (hs : a.eval sl = v) (hown : w.ownsRowF 0 5 1 v l.length (Lib.byteCells l)) (s : ByteArray) (hx : a.eval x = .string s)
    (hlen : l.length + s.size ≤ 140737488355328)
    (h : ∀ v' w', w'.ownsRowF 0 5 1 v' (l.length + s.size) (Lib.byteCells l ++ Lib.strCells s) → w.grownBy w' v.ownBlock → (v'.ownBlock = v.ownBlock ∨ ∃ g, v'.ownBlock = some g ∧ w.heap.size ≤ g) → wpList Try.prog ops Q rest (a.put o.dst v') w') :
    wpList Try.prog ops Q (o :: rest) a w := by
  obtain ⟨i0, hi, hz0, hz1, hz2⟩ := info_parts u8_info
  refine wpList_plain hgd fun K hK => ?_
  have hm : l.length + s.size ≤ maxLen := by unfold maxLen; omega
  obtain ⟨v', w', hr, h2, h3, h4⟩ := Lib.run_append_own_stringF (P := Try.prog) w 0 56 9 o.type 5 i0 Try.underlying56 Try.underlying9 hi hz0 hz1 hz2 v l.length (Lib.byteCells l) hown s hm hlen (Nat.zero_le _)
  have h5 := app_where w v l s i0 hi hz0 hz1 hz2 hown hlen o.type hr
  unfold Oper.wp execOp
  simp only [ho, resolve, invoke, builtin, Sem.run_bind, Sem.run_pure, Result.andThen_ok, List.map_toArray, List.map_cons, List.map_nil, hs, hx, hr]
  exact hK _ _ (h v' w' h2 h3 h5)

set_option maxHeartbeats 2000000 in
set_option maxRecDepth 100000 in
theorem wstr_at {T : TypeId} (hT : BldT T) (b : Nat) (r : Option Nat) (l : List UInt8) (s : ByteArray) (w : World) (h : BldAt T b r l w) (hlen : l.length + s.size ≤ 140737488355328) :
    Calls Try.prog 18 #[.pointer (some ⟨b, 0, none⟩), .string s] w fun e w' => e = .returned (.tuple #[.int .i64 s.size, .nilIface]) ∧
      ((∃ r', BldAt T b r' (l ++ s.data.toList) w' ∧ (r' = r ∨ ∃ g, r' = some g ∧ w.heap.size ≤ g)) ∧ Only b r w w') := by
  go_enter Try.func18, Try.ntmps18
  go_wp2_with (go_at_call 34; refine (check_at hT b r l _ h).mono ?_)
  rintro e w1 ⟨rfl, ⟨v, hbk, hown, hvr, hne⟩, ho1⟩
  have c0 := cell_at (o := 0) hbk rfl
  have c1 := cell_at (o := 1) hbk rfl
  have HV := Lib.hid hvr; clear hvr
  go_wp2_with (at_builtin; refine wpl_app_str rfl _ _ rfl v l rfl hown s rfl hlen ?_)
  intro v' w2 hown' hgrow hwh
  have hlt := heap_lt hbk
  have hb2 : w2.heap[b]? = some (.cells #[.pointer (some ⟨b, 0, none⟩), v] T (0, 0)) := by
    rw [hgrow.block b hlt (fun e => hne (by rw [← HV.out, ← e]))]
    exact hbk
  have d0 := cell_at (o := 0) hb2 rfl
  have d1 := cell_at (o := 1) hb2 rfl
  have f1 := free_at (o := 1) hb2
  obtain ⟨ao, n', cap, rfl⟩ : ∃ ao n' cap, v' = .slice ao n' cap := by
    rcases hown'.2 with ⟨hv, _⟩ | ⟨g, cap, cur, fz, hv, _⟩
    · exact ⟨_, _, _, hv⟩
    · exact ⟨_, _, _, hv⟩
  have HO := Lib.hid hown'; have HG := Lib.hid hgrow; have HW := Lib.hid hwh; have HB := Lib.hid hb2; have HO1 := Lib.hid ho1; have HNE := Lib.hid hne
  clear hown' hgrow hwh hb2 ho1 hown hbk c0 c1
  go_wp2
  go_ret2
  have hcells : Lib.byteCells (l ++ s.data.toList) = Lib.byteCells l ++ Lib.strCells s := by rw [strCells_bytes]; simp [Lib.byteCells]
  have hsz : (l ++ s.data.toList).length = l.length + s.size := by rw [List.length_append]; exact congrArg _ Array.length_toList
  have hnb : (Value.slice ao n' cap).ownBlock ≠ some b := by
    rcases HW.out with e | ⟨g, e, hg⟩
    · rw [e, HV.out]; exact HNE.out
    · rw [e]; intro e2; cases e2; exact absurd hg (by omega)
  refine ⟨rfl, ⟨(Value.slice ao n' cap).ownBlock, ⟨_, _, .inr rfl, heap_set HB.out, ?_, rfl, hnb⟩, ?_⟩, ?_⟩
  · rw [hcells, hsz]
    exact HO.out.kept (row := some b) ⟨rfl, rfl, rfl, by simp [World.setCell], fun k _ hk => Below.heap_setCell _ _ _ _ (fun e => hk (by simp [e]))⟩ (.inr hnb)
  · rcases HW.out with e | ⟨g, e, hg⟩
    · exact .inl (e.trans HV.out)
    · exact .inr ⟨g, e, Nat.le_trans HO1.out.size hg⟩
  · refine ⟨HG.out.os.trans HO1.out.os, HG.out.tape.trans HO1.out.tape, HG.out.output.trans HO1.out.output, ?_, fun k hk hkb hkr => ?_⟩
    · have := HG.out.size; have := HO1.out.size; simp [World.setCell]; omega
    · rw [heap_set_ne _ _ _ _ _ hkb, HG.out.block k (Nat.lt_of_lt_of_le hk HO1.out.size) (by rw [HV.out]; exact hkr)]
      exact HO1.out.block k hk hkb (by simp)

/-- Where the bytes lie behind an append of one byte. -/
theorem app1_where (w : World) (v : Value) (l : List UInt8) (ad : Addr) (news : List Value) (hl1 : news.length = 1) (hnews : ∀ j u, news[j]? = some u → w.cell? (ad.add j) = some u) (h1c : ∀ u ∈ news, u.oneCell' = true)
    (i0 : TypeInfo) (hi : Try.prog.info? 5 = some i0) (hz0 : i0.zero = some (.int .u8 0)) (hz1 : i0.size = 1) (hz2 : i0.bytes = 1)
    (hown : w.ownsRowF 0 5 1 v l.length (Lib.byteCells l)) (hlen : l.length + 1 ≤ 140737488355328) {v' : Value} {w' : World} (ty : TypeId)
    (hr : (Builtin.append_ #[56, 56] ty #[v, .slice (some ad) 1 1]).run Try.prog w = .ok v' w') : v'.ownBlock = v.ownBlock ∨ ∃ g, v'.ownBlock = some g ∧ w.heap.size ≤ g := by
  have hm : l.length + 1 ≤ maxLen := by unfold maxLen; omega
  rcases hown.2 with ⟨rfl, h0⟩ | ⟨g, cap, cur, fz, rfl, hbg, hg, hfz, hnc, hcm, hcs, htake⟩
  · obtain ⟨v2, w2, h1, h2, h3, h4⟩ := run_append_ownF (P := Try.prog) w w.heap.size 56 ty 5 i0 (.int .u8 0) 1 1 Try.underlying56 hi hz0 hz1 hz2 rfl (by decide) (.slice none 0 0) l.length (Lib.byteCells l) ⟨hown.1, .inl ⟨rfl, h0⟩⟩ ad 1 1 news (by rw [hl1]) hnews h1c hm (by omega) (Nat.le_refl _)
    rw [hr] at h1
    cases h1
    cases hb : v'.ownBlock with
    | none => exact .inl rfl
    | some g => exact .inr ⟨g, rfl, (h2.lt g hb).1⟩
  · by_cases hroom : l.length + 1 ≤ cap
    · have h1 := run_append_roomF (P := Try.prog) w 56 ty 5 i0 Try.underlying56 hi g l.length cap cur fz hg (by rw [hz1]; simpa using hfz) ad 1 1 news (by rw [hl1, hz1]) hnews h1c hroom (by rw [hl1, hz1]; simp at hcs; omega)
      rw [hr] at h1
      cases h1
      exact .inl rfl
    · have holds : ∀ j u, (Lib.byteCells l)[j]? = some u → w.cell? ((⟨g, 0, none⟩ : Addr).add j) = some u := hown.cells (g := g) rfl
      have h1 := run_append_grow (P := Try.prog) w 56 ty 5 i0 (.int .u8 0) Try.underlying56 hi hz0 ⟨g, 0, none⟩ l.length cap (Lib.byteCells l) (by rw [hz1]; simp [Lib.byteCells]) holds ad 1 1 news (by rw [hl1, hz1]) hnews (by omega) (by omega) (by rw [hz2]; exact growslice_fits (by omega) (by omega))
      rw [hr] at h1
      cases h1
      exact .inr ⟨_, rfl, Nat.le_refl _⟩
theorem wpl_app_byte {ops : Array Oper} {rest : List Oper} {o : Oper} {a : Act} {w : World} {Q : Exit → Act → World → Prop} (hgd : o.guard = none) (sl x : Operand)
    (ho : o.op = .call { callee := .builtin .append, args := #[sl, x], argTypes := #[56, 56] }) (v : Value) (l : List UInt8) (hs : a.eval sl = v) (hown : w.ownsRowF 0 5 1 v l.length (Lib.byteCells l)) (ad : Addr) (c : Value) (hx : a.eval x = .slice (some ad) 1 1) (hc : w.cell? (ad.add 0) = some c) (h1 : c.oneCell' = true)
    (hlen : l.length + 1 ≤ 140737488355328)
    (h : ∀ v' w', w'.ownsRowF 0 5 1 v' (l.length + 1) (Lib.byteCells l ++ [c]) → w.grownBy w' v.ownBlock → (v'.ownBlock = v.ownBlock ∨ ∃ g, v'.ownBlock = some g ∧ w.heap.size ≤ g) → wpList Try.prog ops Q rest (a.put o.dst v') w') :
    wpList Try.prog ops Q (o :: rest) a w := by
  obtain ⟨i0, hi, hz0, hz1, hz2⟩ := info_parts u8_info
  refine wpList_plain hgd fun K hK => ?_
  have hm : l.length + 1 ≤ maxLen := by unfold maxLen; omega
  have hnews : ∀ j u, [c][j]? = some u → w.cell? (ad.add j) = some u := fun j u hj => by
    match j, hj with
    | 0, hj => simp at hj; subst hj; exact hc
  have h1c : ∀ u ∈ [c], u.oneCell' = true := fun u hu => by simp at hu; subst hu; exact h1
  obtain ⟨v', w', hr, h2, h3, h4⟩ := run_append_ownF (P := Try.prog) w 0 56 o.type 5 i0 (.int .u8 0) 1 1 Try.underlying56 hi hz0 hz1 hz2 rfl (by decide) v l.length (Lib.byteCells l) hown ad 1 1 [c] rfl hnews h1c hm (by omega) (Nat.zero_le _)
  have h5 := app1_where w v l ad [c] rfl hnews h1c i0 hi hz0 hz1 hz2 hown hlen o.type hr
  unfold Oper.wp execOp
  simp only [ho, resolve, invoke, builtin, Sem.run_bind, Sem.run_pure, Result.andThen_ok, List.map_toArray, List.map_cons, List.map_nil, hs, hx, hr]
  exact hK _ _ (h v' w' h2 h3 h5)

set_option maxHeartbeats 2000000 in
set_option maxRecDepth 100000 in
theorem wbyte_at {T : TypeId} (hT : BldT T) (b : Nat) (r : Option Nat) (l : List UInt8) (c : UInt8) (w : World) (h : BldAt T b r l w) (hlen : l.length + 1 ≤ 140737488355328) :
    Calls Try.prog 54 #[.pointer (some ⟨b, 0, none⟩), .int .u8 c.toNat] w fun e w' => e = .returned .nilIface ∧
      ((∃ r', BldAt T b r' (l ++ [c]) w' ∧ (r' = r ∨ ∃ g, r' = some g ∧ w.heap.size ≤ g)) ∧ Only b r w w') := by
  go_enter Try.func54, Try.ntmps54
  go_wp2_with (go_at_call 34; refine (check_at hT b r l _ h).mono ?_)
  rintro e w1 ⟨rfl, ⟨v, hbk, hown, hvr, hne⟩, ho1⟩
  have c0 := cell_at (o := 0) hbk rfl
  have c1 := cell_at (o := 1) hbk rfl
  have HV := Lib.hid hvr; clear hvr
  go_wp2_with (at_builtin; refine wpl_app_byte rfl _ _ rfl v l rfl (hown.alloc _) ⟨w1.heap.size, 0, none⟩ (.int .u8 c.toNat) rfl (cell_at (heap_new _ _ _ rfl) rfl) rfl hlen ?_)
  intro v' w2 hown' hgrow hwh
  have hlt := heap_lt hbk
  have hb2 : w2.heap[b]? = some (.cells #[.pointer (some ⟨b, 0, none⟩), v] T (0, 0)) := by
    rw [hgrow.block b (by simp; omega) (fun e => hne (by rw [← HV.out, ← e])), heap_old _ _ _ hlt]
    exact hbk
  have d0 := cell_at (o := 0) hb2 rfl
  have d1 := cell_at (o := 1) hb2 rfl
  have f1 := free_at (o := 1) hb2
  obtain ⟨ao, n', cap, rfl⟩ : ∃ ao n' cap, v' = .slice ao n' cap := by
    rcases hown'.2 with ⟨hv, _⟩ | ⟨g, cap, cur, fz, hv, _⟩
    · exact ⟨_, _, _, hv⟩
    · exact ⟨_, _, _, hv⟩
  have HO := Lib.hid hown'; have HG := Lib.hid hgrow; have HW := Lib.hid hwh; have HB := Lib.hid hb2; have HO1 := Lib.hid ho1; have HNE := Lib.hid hne
  clear hown' hgrow hwh hb2 ho1 hown hbk c0 c1
  go_wp2
  go_ret
  have hcells : Lib.byteCells (l ++ [c]) = Lib.byteCells l ++ [.int .u8 c.toNat] := by simp [Lib.byteCells]
  have hsz : (l ++ [c]).length = l.length + 1 := by simp
  have hnb : (Value.slice ao n' cap).ownBlock ≠ some b := by
    rcases HW.out with e | ⟨g, e, hg⟩
    · rw [e, HV.out]; exact HNE.out
    · rw [e]; intro e2; cases e2; (try simp only [heap_len] at hg); omega
  refine ⟨rfl, ⟨(Value.slice ao n' cap).ownBlock, ⟨_, _, .inr rfl, heap_set HB.out, ?_, rfl, hnb⟩, ?_⟩, ?_⟩
  · rw [hcells, hsz]
    exact HO.out.kept (row := some b) ⟨rfl, rfl, rfl, by simp [World.setCell], fun k _ hk => Below.heap_setCell _ _ _ _ (fun e => hk (by simp [e]))⟩ (.inr hnb)
  · rcases HW.out with e | ⟨g, e, hg⟩
    · exact .inl (e.trans HV.out)
    · exact .inr ⟨g, e, Nat.le_trans HO1.out.size (by (try simp only [heap_len] at hg); omega)⟩
  · refine ⟨HG.out.os.trans HO1.out.os, HG.out.tape.trans HO1.out.tape, HG.out.output.trans HO1.out.output, ?_, fun k hk hkb hkr => ?_⟩
    · have := HG.out.size; have := HO1.out.size; simp [World.setCell] at *; omega
    · have := HO1.out.size
      rw [heap_set_ne _ _ _ _ _ hkb, HG.out.block k (by simp; omega) (by rw [HV.out]; exact hkr), heap_old _ _ _ (by omega)]
      exact HO1.out.block k hk hkb (by simp)

theorem blen_at {T : TypeId} (b : Nat) (r : Option Nat) (l : List UInt8) (w : World) (h : BldAt T b r l w) :
    Calls Try.prog 41 #[.pointer (some ⟨b, 0, none⟩)] w fun e w' => e = .returned (.int .i64 (l.length : Nat)) ∧ w' = w := by
  obtain ⟨p, v, hp, hbk, hown, hr, hne⟩ := h
  obtain ⟨vp, cap, rfl⟩ : ∃ vp cap, v = .slice vp l.length cap := by
    rcases hown.2 with ⟨rfl, h0⟩ | ⟨g, cap, cur, fz, rfl, _⟩
    · exact ⟨none, 0, by rw [h0]⟩
    · exact ⟨_, _, rfl⟩
  have c1 := cell_at (o := 1) hbk rfl
  clear hown hbk hp
  go_enter Try.func41, Try.ntmps41
  go_wp2
  go_ret
  exact ⟨rfl, rfl⟩

set_option maxHeartbeats 1000000 in
set_option maxRecDepth 100000 in
theorem bstr_at {T : TypeId} (b : Nat) (r : Option Nat) (l : List UInt8) (w : World) (h : BldAt T b r l w) (h0 : l ≠ []) (hT : T ≠ 5) :
    Calls Try.prog 21 #[.pointer (some ⟨b, 0, none⟩)] w fun e w' => e = .returned (.string ⟨l.toArray⟩) ∧ Only b r w w' := by
  obtain ⟨p, v, hp, hbk, hown, hr, hne⟩ := h
  have hl0 : l.length ≠ 0 := by simpa using h0
  obtain ⟨g, cap, cur, fz, rfl, hbg, hg, hfz, hnc, hcm, hcs, htake⟩ : ∃ g cap cur fz, v = .slice (some ⟨g, 0, none⟩) l.length cap ∧ 0 ≤ g ∧ w.heap[g]? = some (.cells cur 5 fz) ∧ fz.2 ≤ l.length * 1 ∧ l.length ≤ cap ∧ cap ≤ maxLen ∧ cur.size = cap * 1 ∧ cur.toList.take (l.length * 1) = Lib.byteCells l := by
    rcases hown.2 with ⟨_, hz⟩ | ⟨g, cap, cur, fz, hv, r⟩
    · exact absurd hz hl0
    · exact ⟨g, cap, cur, fz, hv, r⟩
  have c1 : w.drew.cell? ⟨b, 1, none⟩ = some (.slice (some ⟨g, 0, none⟩) l.length cap) := cell_at (w := w.drew) (o := 1) hbk rfl
  have hSD : (Builtin.unsafeSliceData_ #[56] 98 #[.slice (some ⟨g, 0, none⟩) l.length cap]).run Try.prog w.drew = .ok (.pointer (some ⟨g, 0, none⟩)) w.drew :=
    Lib.run_unsafeSliceData_row _ _ _ _ _ _ (by omega)
  have hUS : (Builtin.unsafeString_ #[98, 3] 9 #[.pointer (some ⟨g, 0, none⟩), .int .i64 l.length]).run Try.prog w.drew = .ok (.string ⟨l.toArray⟩) (w.drew.freeze ⟨g, 0, none⟩ l.length) := by
    refine Lib.run_unsafeString_row w.drew 98 3 9 5 Try.underlying98 u8_cells g cur.size (by have hg' : w.drew.heap[g]? = some (.cells cur 5 fz) := hg; simp [World.shape?, hg']) l h0 (by omega) (by unfold maxLen at hcm; omega) ?_
    intro j x hx
    have := hown.cells (g := g) rfl j (.int .u8 x.toNat) (by simp [Lib.byteCells, hx])
    exact this
  have hon : Hid (Only b r w (w.drew.freeze ⟨g, 0, none⟩ l.length)) := Lib.hid (by
    have hF := Lib.below_freeze (Below.drew (Below.refl g w)) (p := ⟨g, 0, none⟩) (Nat.le_refl _) l.length
    refine ⟨hF.os, hF.tape, hF.output, hF.size, fun k hk hkb hkr => ?_⟩
    have hkg : k ≠ g := fun e => hkr (by rw [← hr, e]; rfl)
    simp only [World.freeze]
    split
    · rfl
    · show (w.drew.heap.modify g _)[k]? = _
      rw [Array.getElem?_modify, if_neg (fun e => hkg e.symm)]
      rfl)
  clear hown hbk hg htake hr hne
  go_enter Try.func21, Try.ntmps21
  go_wp2
  go_region
  all_goals (go_wp2; go_ret; exact ⟨rfl, hon.out⟩)
end Go.Proofs.Ytbaelhaajplbnaa
