/-
  frame.Begin: the walk up to where the bytes are put.
-/
import Derived.Test.YtbaelhaajplbnaaFInv
import Derived.Test.YtbaelhaajplbnaaFFrC
import Derived.Test.YtbaelhaajplbnaaFStacks
import Derived.Deep.DeepCutAuto
namespace Go.Proofs.Ytbaelhaajplbnaa
open Go Go.RowKit Go.Shelf
set_option linter.unusedVariables false
set_option linter.unusedSimpArgs false

theorem quiet_load_mid {P : Program} {W : World} {o : Oper} {a : Act} {K : Act → Prop} (T : TypeId) (x : Operand) (cs : Array Value) {b off : Nat} {d : TypeDesc} (ho : o.op = .load T x) (hx : a.eval x = .pointer (some ⟨b, off, none⟩))
    (hc : ∀ s : Grown W, s.w.rangeAt b off cs.toList) (hu : P.underlying T = some d) (hd : d.isRow = true) (hi : (P.info? T).map (·.size) = some cs.size) (hk : K (a.put o.dst (.agg cs))) : o.quiet P a (fun w' => ∃ s : Grown W, w' = s.w) K := by
  refine ⟨.agg cs, fun w' hw => ?_, hk⟩
  obtain ⟨s, rfl⟩ := hw
  have hrun : (execOp a.eval o).run P s.w = .ok (.value (.agg cs)) s.w := by
    unfold execOp
    simp only [ho, hx]
    have := run_loadAt_mid (P := P) s.w b off T cs.toList d (hc s) hu hd (by rw [hi]; simp)
    simp only [Sem.run_bind, this, Result.andThen_ok, Sem.run_pure]
  unfold Oper.quietAt
  rw [hrun]
  exact ⟨rfl, rfl⟩
theorem range_of {w : World} {g : Nat} {cs : Array Value} {t : TypeId} {fr : Nat × Nat} (h : w.heap[g]? = some (.cells cs t fr)) : w.rangeAt g 0 cs.toList := by
  intro j v hv
  rw [Nat.zero_add]
  exact cell_at h (by simpa using hv)
theorem cpuZ_fits : Fits cpuK cpuZ.toList := fits_of (by decide +kernel)
theorem res_cell_cell_tmp {P : Program} {fn : Func} {w : World} {tmps : Array Value} {p q r : Tmp} {ty tz : TypeId} (h : fn.results = #[.cell p ty, .cell q tz, .tmp r]) {g : Nat} {t t2 : TypeId} {cs ds : Array Value} {fr fr2 : Nat × Nat} {b : Nat}
    (hp : tmps.getD p undef = .pointer (some ⟨g, 0, none⟩)) (hg : w.heap[g]? = some (.cells cs t fr)) (ha : isAggB P ty = true) (hi : (P.info? ty).map (·.size) = some cs.size)
    (hq : tmps.getD q undef = .pointer (some ⟨b, 0, none⟩)) (hb : w.heap[b]? = some (.cells ds t2 fr2)) (hab : isAggB P tz = true) (hib : (P.info? tz).map (·.size) = some ds.size) :
    (results fn tmps).run P w = .ok (.tuple #[.agg cs, .agg ds, tmps.getD r undef]) w := by
  have hp' : tmps[p]?.getD undef = .pointer (some ⟨g, 0, none⟩) := by simpa using hp
  have hq' : tmps[q]?.getD undef = .pointer (some ⟨b, 0, none⟩) := by simpa using hq
  simp [results, h, hp', hq', asAddr, run_var_row w g t ty cs fr hg ha hi, run_var_row w b t2 tz ds fr2 hb hab hib]
/-- Only one block has turned. -/
structure OneB (h : Nat) (w w' : World) : Prop where
  os : w'.os = w.os
  tape : w'.tape = w.tape
  output : w'.output = w.output
  size : w'.heap.size = w.heap.size
  block : ∀ k, k ≠ h → w'.heap[k]? = w.heap[k]?
theorem OneB.refl (h : Nat) (w : World) : OneB h w w := ⟨rfl, rfl, rfl, rfl, fun _ _ => rfl⟩
theorem OneB.set {h o : Nat} {w w' : World} {v : Value} (k : OneB h w w') : OneB h w (w'.setCell ⟨h, o, none⟩ v) :=
  ⟨k.os, k.tape, k.output, (heap_set_len _ _ _).trans k.size, fun i hi => (heap_set_ne _ _ _ _ _ hi).trans (k.block i hi)⟩
theorem OneB.below {h B : Nat} {w w' : World} (k : OneB h w w') (hB : B ≤ h) : Below B w w' := ⟨k.os, k.tape, k.output, Nat.le_of_eq k.size.symm, fun i hi => k.block i (by omega)⟩
theorem OneB.trans {h : Nat} {u v w : World} (a : OneB h u v) (b : OneB h v w) : OneB h u w := ⟨b.os.trans a.os, b.tape.trans a.tape, b.output.trans a.output, b.size.trans a.size, fun i hi => (b.block i hi).trans (a.block i hi)⟩
def hdI (s : Array Value) (k : Nat) : Int := iat s (2 + k * 3 + 1)
def preA (c : Array Value) (k p : Nat) : Array Value := (((c.setIfInBounds 4 (.int .u32 ((k : Int) + 1))).setIfInBounds 5 (.int .u32 0)).setIfInBounds 6 (.int .u32 (((p : Int) + 24) % 4294967296))).setIfInBounds 31 (.int .u32 2147422224)
def midA (c s : Array Value) (k p : Nat) : Array Value := if hasF s k 8 = true then (((preA c k p).setIfInBounds 5 (.int .u32 (((p : Int) + 24) % 4294967296))).setIfInBounds 6 (.int .u32 (((p : Int) + 24 + 128) % 4294967296))).setIfInBounds 31 (.int .u32 2147422208) else preA c k p
def beginA (c s : Array Value) (k p : Nat) : Array Value := ((((((midA c s k p).setIfInBounds 25 (.int .u32 (hdI s k))).setIfInBounds 29 (.int .u32 p)).setIfInBounds 34 (.int .u32 (hdI s k))).setIfInBounds 35 (.int .u32 ((hdI s k + 4) % 4294967296))).setIfInBounds 36 (.bool false)).setIfInBounds 38 (.bool false)
theorem fits_set {ks : List CK} {c : Array Value} {i : Nat} {v : Value} (h : Fits ks c.toList) (hk : ∀ q, ks[i]? = some q → q.ok v) : Fits ks (c.setIfInBounds i v).toList := by
  rw [Array.toList_setIfInBounds]; exact h.set hk
theorem ok32 {n : Int} (h1 : 0 ≤ n) (h2 : n < 4294967296) : (CK.i .u32).ok (.int .u32 n) := ⟨n, rfl, by rw [wf_u32]; omega⟩
theorem fits_one {ks : List CK} {c : Array Value} {i : Nat} {v : Value} {q : CK} (h : Fits ks c.toList) (hq : ks[i]? = some q) (hv : q.ok v) : Fits ks (c.setIfInBounds i v).toList :=
  fits_set h (fun r hr => by rw [hq] at hr; cases hr; exact hv)
theorem cpu4 : cpuK[4]? = some (.i .u32) := by decide +kernel
theorem cpu5 : cpuK[5]? = some (.i .u32) := by decide +kernel
theorem cpu6 : cpuK[6]? = some (.i .u32) := by decide +kernel
theorem cpu31 : cpuK[31]? = some (.i .u32) := by decide +kernel
theorem cpu25 : cpuK[25]? = some (.i .u32) := by decide +kernel
theorem cpu29 : cpuK[29]? = some (.i .u32) := by decide +kernel
theorem cpu34 : cpuK[34]? = some (.i .u32) := by decide +kernel
theorem cpu35 : cpuK[35]? = some (.i .u32) := by decide +kernel
theorem cpu36 : cpuK[36]? = some .b := by decide +kernel
theorem cpu38 : cpuK[38]? = some .b := by decide +kernel
structure FitC (ks : List CK) (c : Array Value) : Prop where
  out : Fits ks c.toList
theorem fits_oneH {ks : List CK} {c : Array Value} {i : Nat} {v : Value} {q : CK} (h : FitC ks (c)) (hq : ks[i]? = some q) (hv : q.ok v) : FitC ks (c.setIfInBounds i v) := ⟨fits_one h.out hq hv⟩
theorem ok32m (n : Int) : (CK.i .u32).ok (.int .u32 (n % 4294967296)) := ok32 (by omega) (by omega)
theorem ok_r31 : (CK.i .u32).ok (.int .u32 2147422208) := ok32 (by omega) (by omega)
theorem ok_r31' : (CK.i .u32).ok (.int .u32 2147422224) := ok32 (by omega) (by omega)
theorem ok_r5 : (CK.i .u32).ok (.int .u32 0) := ok32 (by omega) (by omega)
theorem okk {k : Nat} (hk : k < 64) : (CK.i .u32).ok (.int .u32 ((k : Int) + 1)) := ok32 (by omega) (by omega)
theorem okp {p : Nat} (hp : p < 4294967296) : (CK.i .u32).ok (.int .u32 (p : Nat)) := ok32 (by omega) (by omega)
theorem hd_ok {s : Array Value} (hs : Fits sigK s.toList) {k : Nat} (hk : k < 64) : (CK.i .u32).ok (.int .u32 (hdI s k)) := by
  have hh := hs.iat (sigK_hd k hk)
  rw [wf_u32] at hh
  exact ok32 hh.2.1 (by have := hh.2.2; unfold hdI; omega)
theorem pre_fits {c : Array Value} (h : FitC cpuK (c)) {k p : Nat} (hk : k < 64) : FitC cpuK ((preA c k p)) :=
  fits_oneH (fits_oneH (fits_oneH (fits_oneH h cpu4 (okk hk)) cpu5 ok_r5) cpu6 (ok32m _)) cpu31 ok_r31'
theorem mid_fits {c : Array Value} (h : FitC cpuK (c)) (s : Array Value) {k p : Nat} (hk : k < 64) : FitC cpuK ((midA c s k p)) := by
  unfold midA
  by_cases hb : hasF s k 8 = true
  · rw [if_pos hb]; exact fits_oneH (fits_oneH (fits_oneH (pre_fits h hk) cpu5 (ok32m _)) cpu6 (ok32m _)) cpu31 ok_r31
  · rw [if_neg hb]; exact pre_fits h hk
theorem begin_fits {c s : Array Value} (h : FitC cpuK (c)) (hs : Fits sigK s.toList) {k p : Nat} (hk : k < 64) (hp : p < 4294967296) : FitC cpuK ((beginA c s k p)) :=
  fits_oneH (fits_oneH (fits_oneH (fits_oneH (fits_oneH (fits_oneH (mid_fits h s hk) cpu25 (hd_ok hs hk)) cpu29 (okp hp)) cpu34 (hd_ok hs hk)) cpu35 (ok32m _)) cpu36 ⟨_, rfl⟩) cpu38 ⟨_, rfl⟩
theorem iatH {ks : List CK} {c : Array Value} {i : Nat} {k : IntKind} (h : FitC ks (c)) (hk : ks[i]? = some (.i k)) : c[i]? = some (.int k (iat c i)) := (h.out.iat hk).1
theorem batH {ks : List CK} {c : Array Value} {i : Nat} (h : FitC ks (c)) (hk : ks[i]? = some .b) : c[i]? = some (.bool (bat c i)) := h.out.bat hk
theorem sizeH {ks : List CK} {c : Array Value} (h : FitC ks (c)) : c.size = ks.length := h.out.arr_size
theorem oneH {ks : List CK} {c : Array Value} (h : FitC ks (c)) : Hid (c.all (·.oneCell') = true) := Lib.hid h.out.all_one
/-- What frame.Begin tells. -/
def BeginPost (c s : Array Value) (k p : Nat) (fb : List UInt8) (base : Nat) (cs : List CellD) (ps : List PageD) (m1 : Option Addr) (m2 m3 : Nat) (c1 : Option Addr) (c2 c3 : Nat) (p1 : Option Addr) (p2 p3 : Nat) (w : World) (e : Ending) (w' : World) : Prop :=
  Below w.heap.size w w' ∧
  ((badB ps 2 p fb.length = true ∧ e = .returned (.tuple #[.agg c, .agg #[.slice m1 m2 m3, .slice c1 c2 c3, .int .u64 base, .slice p1 p2 p3], .int .i64 14])) ∨
   (badB ps 2 p fb.length = false ∧ ∃ d1 d2 d3, e = .returned (.tuple #[.agg (beginA c s k p), .agg #[.slice m1 m2 m3, .slice d1 d2 d3, .int .u64 base, .slice p1 p2 p3], .int .i64 0]) ∧ CellsV w' (.slice d1 d2 d3) (putAll cs (base + p) fb)))
theorem cells_row_ne {w : World} {g : Nat} {old cs : Array Value} {t : TypeId} {fr : Nat × Nat} (hh : w.heap[g]? = some (.cells old t fr)) {v : Value} {l : List CellD} (hc : CellsV w v l) (hn : ∀ b off, Row2 (fun c : CellD => .int .u64 (c.pos : Nat)) (fun c => .int .u64 (c.word : Nat)) w b off l → l ≠ [] → b ≠ g) : CellsV (w.setRow g cs) v l := by
  obtain ⟨p, c, rfl, hr0⟩ := hc
  refine ⟨p, c, rfl, fun hl => ?_⟩
  obtain ⟨b, off, rfl, hr⟩ := hr0 hl
  have hne := hn b off hr hl
  have key : ∀ o, (w.setRow g cs).cell? ⟨b, o, none⟩ = w.cell? ⟨b, o, none⟩ := fun o => World.cell?_of_block (w := w) (row_ne _ _ _ _ hne)
  exact ⟨b, off, rfl, by rw [row_len]; exact hr.lt, fun i hi => (key _).trans (hr.fst i hi), fun i hi => (key _).trans (hr.snd i hi)⟩
theorem row_fit_ne {w : World} {h : Nat} {c : Array Value} {T : TypeId} {fr : Nat × Nat} (hh : w.heap[h]? = some (.cells c T fr)) (hf : FitC cpuK c) {b off : Nat} {l : List CellD}
    (hr : Row2 (fun c : CellD => .int .u64 (c.pos : Nat)) (fun c => .int .u64 (c.word : Nat)) w b off l) (hl : l ≠ []) : b ≠ h := by
  rintro rfl
  have h0 := hr.fst 0 (List.length_pos_iff.2 hl)
  rw [cell_of_row w b _ _ _ _ hh] at h0
  obtain ⟨o, ho⟩ : ∃ o, o = off + 0 * 2 := ⟨_, rfl⟩
  rw [← ho] at h0
  have hlp := List.length_pos_iff.2 hl
  have hlt : o < c.size := (Array.getElem?_eq_some_iff.1 h0).1
  rw [hf.out.arr_size] at hlt
  obtain ⟨v, hv, hok⟩ := Fits.at hf.out (List.getElem?_eq_getElem hlt)
  have hv2 : c.toList[o]? = some (.int .u64 ((l[0]'hlp).pos : Nat)) := by simpa using h0
  rw [hv] at hv2
  cases hv2
  have hall : ∀ q ∈ cpuK, q ≠ .i .u64 := by decide +kernel
  have hm := hall _ (List.getElem_mem hlt)
  generalize cpuK[o] = q at hok hm
  cases q with
  | b => obtain ⟨x, hx⟩ := hok; cases hx
  | s => obtain ⟨x, hx, _⟩ := hok; cases hx
  | i kk => obtain ⟨x, hx, _⟩ := hok; cases hx; exact hm rfl
theorem cells_oneB {h : Nat} {w w' : World} (k : OneB h w w') {v : Value} {l : List CellD} (hc : CellsV w v l) (hn : ∀ b off, Row2 (fun c : CellD => .int .u64 (c.pos : Nat)) (fun c => .int .u64 (c.word : Nat)) w b off l → l ≠ [] → b ≠ h) : CellsV w' v l := by
  obtain ⟨p, c, rfl, hr0⟩ := hc
  refine ⟨p, c, rfl, fun hl => ?_⟩
  obtain ⟨b, off, rfl, hr⟩ := hr0 hl
  have hne := hn b off hr hl
  have key : ∀ o, w'.cell? ⟨b, o, none⟩ = w.cell? ⟨b, o, none⟩ := fun o => World.cell?_of_block (w := w) (k.block _ hne)
  exact ⟨b, off, rfl, by rw [k.size]; exact hr.lt, fun i hi => (key _).trans (hr.fst i hi), fun i hi => (key _).trans (hr.snd i hi)⟩
theorem row_below {B : Nat} {u w : World} {g : Nat} {cs : Array Value} (h : Below B u w) (hg : B ≤ g) : Below B u (w.setRow g cs) :=
  ⟨h.os, h.tape, h.output, by rw [row_len]; exact h.size, fun k hk => (row_ne _ _ _ _ (by omega)).trans (h.block k hk)⟩
def natI (c : Array Value) (i : Nat) : Nat := (iat c i).toNat
def frameB (c s : Array Value) (k x : Nat) : List UInt8 :=
  List.replicate 24 0 ++ (if hasF s k 8 then infoB (k + 1) x (natI s 194) (natI s 195) (bat s 196) else []) ++ ctxB (if bat c 36 then 1 else 0) (iat c 34).toNat (iat c 35).toNat (iat c 32).toNat (iat c 33).toNat (regsL c) ++ maskB (natI s 0)
theorem maskB_length (m : Nat) : (maskB m).length = 16 := by rw [maskB, wordsB4_length]; rfl
theorem regsL_length (c : Array Value) : (regsL c).length = 32 := by simp [regsL]
theorem frameB_length (c s : Array Value) (k x : Nat) : (frameB c s k x).length = if hasF s k 8 then 784 else 632 := by
  unfold frameB
  simp only [List.length_append, List.length_replicate, maskB_length, ctxB_length _ _ _ _ _ _ (regsL_length c)]
  cases hasF s k 8 <;> simp [infoB_length]

theorem box_keep {B : Nat} {w w' : World} {k : Nat} {o : Obj} (h : w.heap[k]? = some o) (hb : Below B w w') (hk : k < B) : w'.heap[k]? = some o := (hb.block k hk).trans h
theorem bld_start {T : TypeId} (w : World) : IsBld T w.heap.size w.heap.size [] (w.alloc (.cells #[.pointer none, .slice none 0 0] T)) := bld_new w

section
variable {X W : World} {a a2 : Array Value} {t t2 : TypeId} {b : Nat} {o o2 : Obj} {k : Nat}
theorem sk1 (h : Lib.OthersKept 5 (some b) (X.drew.alloc (.cells a t)) W) (hb : b < X.heap.size) (ht : t ≠ 5) : W.heap[X.heap.size]? = some (.cells a t) :=
  h _ _ (heap_new X.drew _ _ rfl) (fun e => by cases e; omega) (fun c fz e => by cases e; exact ht rfl)
theorem sk2a (h : Lib.OthersKept 5 (some b) ((X.drew.alloc (.cells a t)).alloc o) W) (hb : b < X.heap.size) (ht : t ≠ 5) : W.heap[X.heap.size]? = some (.cells a t) :=
  h _ _ ((heap_old _ _ _ (by rw [heap_len]; exact Nat.lt_succ_self _)).trans (heap_new X.drew _ _ rfl)) (fun e => by cases e; omega) (fun c fz e => by cases e; exact ht rfl)
theorem sk2b (h : Lib.OthersKept 5 (some b) ((X.drew.alloc o).alloc (.cells a t)) W) (hb : b < X.heap.size) (ht : t ≠ 5) : W.heap[X.heap.size + 1]? = some (.cells a t) :=
  h _ _ (heap_new _ _ _ (heap_len X.drew _).symm) (fun e => by cases e; omega) (fun c fz e => by cases e; exact ht rfl)
theorem pk0 (h : Below X.heap.size X W) (hk : X.heap[k]? = some o) : W.heap[k]? = some o := (h.block _ (heap_lt hk)).trans hk
theorem pk1 {q : Obj} (h : Below (X.alloc q).heap.size (X.alloc q) W) (hk : X.heap[k]? = some o) : W.heap[k]? = some o := (h.block _ (by rw [heap_len]; have := heap_lt hk; omega)).trans ((heap_old _ _ _ (heap_lt hk)).trans hk)
theorem pk2 {q q2 : Obj} (h : Below ((X.alloc q).alloc q2).heap.size ((X.alloc q).alloc q2) W) (hk : X.heap[k]? = some o) : W.heap[k]? = some o := (h.block _ (by rw [heap_len, heap_len]; have := heap_lt hk; omega)).trans ((heap_old _ _ _ (by rw [heap_len]; have := heap_lt hk; omega)).trans ((heap_old _ _ _ (heap_lt hk)).trans hk))
theorem kp1 (h : Below (X.alloc o).heap.size (X.alloc o) W) : W.heap[X.heap.size]? = some o := (h.block _ (by rw [heap_len]; omega)).trans (heap_new _ _ _ rfl)
theorem kp2a (h : Below ((X.alloc o).alloc o2).heap.size ((X.alloc o).alloc o2) W) : W.heap[X.heap.size]? = some o := (h.block _ (by rw [heap_len, heap_len]; omega)).trans ((heap_old _ _ _ (by rw [heap_len]; omega)).trans (heap_new _ _ _ rfl))
theorem kp2b (h : Below ((X.alloc o).alloc o2).heap.size ((X.alloc o).alloc o2) W) : W.heap[X.heap.size + 1]? = some o2 := (h.block _ (by rw [heap_len, heap_len]; omega)).trans (heap_new _ _ _ (heap_len _ _).symm)
theorem gzf (h : W.heap[k]? = some (.cells #[.slice none 0 0, .slice none 0 0, .int .u64 0, .slice none 0 0] 33)) : k < W.heap.size ∧ k ≠ W.heap.size ∧ W.cell? ⟨k, 0, none⟩ = some (.slice none 0 0) ∧ W.cell? ⟨k, 1, none⟩ = some (.slice none 0 0) ∧ W.cell? ⟨k, 2, none⟩ = some (.int .u64 0) ∧ W.cell? ⟨k, 3, none⟩ = some (.slice none 0 0) ∧
    W.frozen? ⟨k, 0, none⟩ = false ∧ W.frozen? ⟨k, 1, none⟩ = false ∧ W.frozen? ⟨k, 2, none⟩ = false ∧ W.frozen? ⟨k, 3, none⟩ = false :=
  ⟨heap_lt h, Nat.ne_of_lt (heap_lt h), cell_at h rfl, cell_at h rfl, cell_at h rfl, cell_at h rfl, free_at h, free_at h, free_at h, free_at h⟩
theorem fzf (h : W.heap[k]? = some (.cells #[.int .i64 0, .int .u64 0] 70)) : k < W.heap.size ∧ k ≠ W.heap.size ∧ W.cell? ⟨k, 0, none⟩ = some (.int .i64 0) ∧ W.cell? ⟨k, 1, none⟩ = some (.int .u64 0) ∧ W.frozen? ⟨k, 0, none⟩ = false ∧ W.frozen? ⟨k, 1, none⟩ = false :=
  ⟨heap_lt h, Nat.ne_of_lt (heap_lt h), cell_at h rfl, cell_at h rfl, free_at h, free_at h⟩
end

theorem keepS {b h : Nat} {w6 X : World} {v0 v1 v2 v3 : Value} (l0 : w6.cell? ⟨h, 0, none⟩ = some v0) (l1 : w6.cell? ⟨h, 1, none⟩ = some v1) (l2 : w6.cell? ⟨h, 2, none⟩ = some v2) (l3 : w6.cell? ⟨h, 3, none⟩ = some v3) (hh : h < b) (hX : Below b w6 X) :
    X.cell? ⟨h, 0, none⟩ = some v0 ∧ X.cell? ⟨h, 1, none⟩ = some v1 ∧ X.cell? ⟨h, 2, none⟩ = some v2 ∧ X.cell? ⟨h, 3, none⟩ = some v3 :=
  ⟨(hX.cell (p := ⟨h, 0, none⟩) hh).trans l0, (hX.cell (p := ⟨h, 1, none⟩) hh).trans l1, (hX.cell (p := ⟨h, 2, none⟩) hh).trans l2, (hX.cell (p := ⟨h, 3, none⟩) hh).trans l3⟩
theorem four_set {w : World} {g : Nat} {x0 x1 x2 x3 a b c d : Value} {T : TypeId} (h : w.heap[g]? = some (.cells #[x0, x1, x2, x3] T (0, 0))) : ((((w.setCell ⟨g, 0, none⟩ a).setCell ⟨g, 1, none⟩ b).setCell ⟨g, 2, none⟩ c).setCell ⟨g, 3, none⟩ d).heap[g]? = some (.cells #[a, b, c, d] T (0, 0)) := by
  rw [heap_set (heap_set (heap_set (heap_set h)))]; rfl
theorem cells_one_ne {w : World} {g o : Nat} {u v : Value} {l : List CellD} (hn : ∀ b off, Row2 (fun c : CellD => .int .u64 (c.pos : Nat)) (fun c => .int .u64 (c.word : Nat)) w b off l → l ≠ [] → b ≠ g) (hc : CellsV w v l) : CellsV (w.setCell ⟨g, o, none⟩ u) v l := by
  obtain ⟨p, c, rfl, hr0⟩ := hc
  refine ⟨p, c, rfl, fun hl => ?_⟩
  obtain ⟨b, off, rfl, hr⟩ := hr0 hl
  have hne := hn b off hr hl
  exact ⟨b, off, rfl, by rw [heap_set_len]; exact hr.lt, fun i hi => (World.cell?_setCell_other _ _ _ _ (by simp [hne])).trans (hr.fst i hi), fun i hi => (World.cell?_setCell_other _ _ _ _ (by simp [hne])).trans (hr.snd i hi)⟩
theorem cells_two {w : World} {g : Nat} {a b v : Value} {l : List CellD} (h : w.heap[g]? = some (.cells #[.int .i64 0, .int .u64 0] 70)) {m n : Int} (ha : a = .int .i64 m) (hb : b = .int .u64 n) (hc : CellsV w v l) : CellsV ((w.setCell ⟨g, 0, none⟩ a).setCell ⟨g, 1, none⟩ b) v l := by
  subst ha; subst hb
  exact cells_one_ne (fun b off hr hl => row_apart2 (m := m) (n := 0) ((heap_set h).trans rfl) hr hl) (cells_one_ne (fun b off hr hl => row_apart2 h hr hl) hc)
theorem cells_alloc {w : World} {o : Obj} {v : Value} {l : List CellD} (hc : CellsV w v l) : CellsV (w.alloc o) v l := Sl2.below hc ((Below.refl _ _).alloc (Nat.le_refl _) _)
section
variable {b : Nat} {gv : Value} {gd : Option Addr → Nat → Nat → Array Value} {pv sv : Value} {bad : Bool} {l : List CellD}
def PutC (bad : Bool) (l : List CellD) (d1 : Option Addr) (d2 d3 : Nat) (K X : Int) (W : World) : Prop := (bad = true ∧ K ≠ 0) ∨ (bad = false ∧ K = 0 ∧ X = 0 ∧ CellsV W (.slice d1 d2 d3) l)
abbrev faultV (K X : Int) : Value := .agg #[.int .i64 K, .int .u64 X]
/-- A box of the type Guest. -/
def BoxG (g : Nat) (W : World) : Prop := ∃ (q1 : Option Addr) (a1 a2 : Nat) (q2 : Option Addr) (b1 b2 : Nat) (n : Int) (q3 : Option Addr) (e1 e2 : Nat), W.heap[g]? = some (.cells #[.slice q1 a1 a2, .slice q2 b1 b2, .int .u64 n, .slice q3 e1 e2] 33)
/-- What the operations of the region that puts the bytes have yielded. -/
def P11 (b : Nat) (gv : Value) (gd : Option Addr → Nat → Nat → Array Value) (pv sv : Value) (bad : Bool) (l : List CellD) : Nat → (Nat → Value) → World → Prop
  | 0, x, _ => x 0 = gv
  | 1, x, _ => x 1 = pv
  | 2, x, _ => x 2 = .pointer (some ⟨b, 0, none⟩)
  | 3, x, _ => x 3 = sv
  | 4, x, W => ∃ d1 d2 d3 K X, x 4 = .tuple #[.agg (gd d1 d2 d3), faultV K X] ∧ PutC bad l d1 d2 d3 K X W
  | 5, x, W => ∃ d1 d2 d3 K X, x 5 = .tuple #[.agg (gd d1 d2 d3), faultV K X] ∧ PutC bad l d1 d2 d3 K X W
  | 6, x, _ => ∃ d1 d2 d3 K X, x 5 = .tuple #[.agg (gd d1 d2 d3), faultV K X] ∧ x 6 = .agg (gd d1 d2 d3)
  | 7, x, _ => ∃ d1 d2 d3 K X, x 5 = .tuple #[.agg (gd d1 d2 d3), faultV K X] ∧ x 7 = faultV K X
  | 8, x, W => ∃ g, b < g ∧ x 8 = .pointer (some ⟨g, 0, none⟩) ∧ BoxG g W
  | 9, x, W => ∃ g, b < g ∧ x 9 = .pointer (some ⟨g, 0, none⟩) ∧ W.heap[g]? = some (.cells #[.int .i64 0, .int .u64 0] 70)
  | 10, x, W => ∃ d1 d2 d3 K X g, x 5 = .tuple #[.agg (gd d1 d2 d3), faultV K X] ∧ x 8 = .pointer (some ⟨g, 0, none⟩) ∧ W.heap[g]? = some (.cells (gd d1 d2 d3) 33)
  | _, _, _ => True
theorem anc_no {c : Bool} {C : Prop} (ha : c = false) (h : c = true) : C := by rw [h] at ha; cases ha
theorem p11_4 {x : Nat → Value} {W : World} (h : P11 b gv gd pv sv bad l 4 x W) : ∃ d1 d2 d3 K X, x 4 = .tuple #[.agg (gd d1 d2 d3), faultV K X] ∧ PutC bad l d1 d2 d3 K X W := h
theorem p11_5 {x : Nat → Value} {W : World} (h : P11 b gv gd pv sv bad l 5 x W) : ∃ d1 d2 d3 K X, x 5 = .tuple #[.agg (gd d1 d2 d3), faultV K X] ∧ PutC bad l d1 d2 d3 K X W := h
theorem p11_6 {x : Nat → Value} {W : World} (h : P11 b gv gd pv sv bad l 6 x W) : ∃ d1 d2 d3 K X, x 5 = .tuple #[.agg (gd d1 d2 d3), faultV K X] ∧ x 6 = .agg (gd d1 d2 d3) := h
theorem p11_8 {x : Nat → Value} {W : World} (h : P11 b gv gd pv sv bad l 8 x W) : ∃ g, b < g ∧ x 8 = .pointer (some ⟨g, 0, none⟩) ∧ BoxG g W := h
theorem p11_end {x : Nat → Value} {W : World} {C : Prop} (hg : ∀ d1 d2 d3 e1 e2 e3, gd d1 d2 d3 = gd e1 e2 e3 → d1 = e1 ∧ d2 = e2 ∧ d3 = e3) (h : ∀ j, j < 11 → P11 b gv gd pv sv bad l j x W)
    (hc : ∀ d1 d2 d3 K X g8 g9, PutC bad l d1 d2 d3 K X W → x 7 = faultV K X → x 8 = .pointer (some ⟨g8, 0, none⟩) → x 9 = .pointer (some ⟨g9, 0, none⟩) → b < g8 → b < g9 → g8 ≠ g9 →
      W.heap[g8]? = some (.cells (gd d1 d2 d3) 33) → W.heap[g9]? = some (.cells #[.int .i64 0, .int .u64 0] 70) → C) : C := by
  obtain ⟨d1, d2, d3, K, X, e5, hC⟩ := p11_5 (h 5 (by omega))
  obtain ⟨d1'', d2'', d3'', K'', X'', e5'', e7⟩ : ∃ d1 d2 d3 K X, x 5 = .tuple #[.agg (gd d1 d2 d3), faultV K X] ∧ x 7 = faultV K X := h 7 (by omega)
  obtain ⟨g8, hg8, e8, h8⟩ := p11_8 (h 8 (by omega))
  obtain ⟨g9, hg9, e9, h9⟩ : ∃ g, b < g ∧ x 9 = .pointer (some ⟨g, 0, none⟩) ∧ W.heap[g]? = some (.cells #[.int .i64 0, .int .u64 0] 70) := h 9 (by omega)
  obtain ⟨d1', d2', d3', K', X', g, e5', e8', h10⟩ : ∃ d1 d2 d3 K X g, x 5 = .tuple #[.agg (gd d1 d2 d3), faultV K X] ∧ x 8 = .pointer (some ⟨g, 0, none⟩) ∧ W.heap[g]? = some (.cells (gd d1 d2 d3) 33) := h 10 (by omega)
  have f1 := e5.symm.trans e5'
  have f2 := e5.symm.trans e5''
  have f3 := e8.symm.trans e8'
  simp only [Value.tuple.injEq, Array.mk.injEq, List.cons.injEq, Value.agg.injEq, Value.int.injEq, true_and, and_true, Value.pointer.injEq, Option.some.injEq, Addr.mk.injEq] at f1 f2 f3
  subst f3
  refine hc d1 d2 d3 K X g8 g9 hC (by rw [f2.2.1, f2.2.2]; exact e7) e8 e9 hg8 hg9 ?_ (by rw [f1.1]; exact h10) h9
  rintro rfl
  rw [h10] at h9
  simp at h9
theorem putC_up {d1 : Option Addr} {d2 d3 : Nat} {K X : Int} {W W' : World} (h : PutC bad l d1 d2 d3 K X W) (hc : ∀ (d1 : Option Addr) (d2 d3 : Nat), CellsV W (.slice d1 d2 d3) l → CellsV W' (.slice d1 d2 d3) l) : PutC bad l d1 d2 d3 K X W' :=
  h.imp id fun ⟨a, b, c, d⟩ => ⟨a, b, c, hc _ _ _ d⟩
theorem p11_up {x : Nat → Value} {W W' : World} {k : Nat} {v : Value} (hb : ∀ g cs t, b < g → t ≠ 5 → W.heap[g]? = some (.cells cs t) → W'.heap[g]? = some (.cells cs t)) :
    ∀ j, j < 11 → j ≠ k → (j = 6 ∨ j = 7 → k ≠ 5) → (j = 4 ∨ j = 5 → ∀ (d1 : Option Addr) (d2 d3 : Nat), CellsV W (.slice d1 d2 d3) l → CellsV W' (.slice d1 d2 d3) l) → (j = 10 → k = 7 ∧ W' = W) → P11 b gv gd pv sv bad l j x W → P11 b gv gd pv sv bad l j (upd x k v) W'
  | 0, _, hk, _, _, _, h => by show upd x k v 0 = _; rw [upd_ne _ _ hk]; exact h
  | 1, _, hk, _, _, _, h => by show upd x k v 1 = _; rw [upd_ne _ _ hk]; exact h
  | 2, _, hk, _, _, _, h => by show upd x k v 2 = _; rw [upd_ne _ _ hk]; exact h
  | 3, _, hk, _, _, _, h => by show upd x k v 3 = _; rw [upd_ne _ _ hk]; exact h
  | 4, _, hk, _, hc, _, h => by obtain ⟨d1, d2, d3, K, X, h1, h2⟩ := h; exact ⟨d1, d2, d3, K, X, by rw [upd_ne _ _ hk]; exact h1, putC_up h2 (hc (.inl rfl))⟩
  | 5, _, hk, _, hc, _, h => by obtain ⟨d1, d2, d3, K, X, h1, h2⟩ := h; exact ⟨d1, d2, d3, K, X, by rw [upd_ne _ _ hk]; exact h1, putC_up h2 (hc (.inr rfl))⟩
  | 6, _, hk, h5, _, _, h => by obtain ⟨d1, d2, d3, K, X, h1, h2⟩ := h; exact ⟨d1, d2, d3, K, X, by rw [upd_ne _ _ (Ne.symm (h5 (.inl rfl)))]; exact h1, by rw [upd_ne _ _ hk]; exact h2⟩
  | 7, _, hk, h5, _, _, h => by obtain ⟨d1, d2, d3, K, X, h1, h2⟩ := h; exact ⟨d1, d2, d3, K, X, by rw [upd_ne _ _ (Ne.symm (h5 (.inr rfl)))]; exact h1, by rw [upd_ne _ _ hk]; exact h2⟩
  | 8, _, hk, _, _, _, h => by obtain ⟨g, h1, h2, q1, a1, a2, q2, b1, b2, n, q3, e1, e2, h3⟩ := h; exact ⟨g, h1, by rw [upd_ne _ _ hk]; exact h2, q1, a1, a2, q2, b1, b2, n, q3, e1, e2, hb _ _ _ h1 (by decide) h3⟩
  | 9, _, hk, _, _, _, h => by obtain ⟨g, h1, h2, h3⟩ := h; exact ⟨g, h1, by rw [upd_ne _ _ hk]; exact h2, hb _ _ _ h1 (by decide) h3⟩
  | 10, _, hk, _, _, h7, h => by
    obtain ⟨rfl, rfl⟩ := h7 rfl
    obtain ⟨d1, d2, d3, K, X, g, h1, h2, h3⟩ := h
    exact ⟨d1, d2, d3, K, X, g, by rw [upd_ne _ _ (by decide)]; exact h1, by rw [upd_ne _ _ (by decide)]; exact h2, h3⟩
  | j + 11, h, _, _, _, _, _ => by omega
theorem p11_same {x : Nat → Value} {W : World} {k : Nat} {v : Value} (j : Nat) (hj : j < 11) (hk : j ≠ k) (h5 : j = 6 ∨ j = 7 → k ≠ 5) (h7 : j = 10 → k = 7) (h : P11 b gv gd pv sv bad l j x W) : P11 b gv gd pv sv bad l j (upd x k v) W :=
  p11_up (fun _ _ _ _ _ h => h) j hj hk h5 (fun _ _ _ _ h => h) (fun h => ⟨h7 h, rfl⟩) h
/-- Behind the store into the box. -/
theorem p11_ten {x : Nat → Value} {W W' : World} {v : Value} {g8 : Nat} (e8 : x 8 = .pointer (some ⟨g8, 0, none⟩)) (hg : BoxG g8 W) (hn : BoxG g8 W') (ho : ∀ g, g ≠ g8 → W'.heap[g]? = W.heap[g]?) (hc : ∀ (d1 : Option Addr) (d2 d3 : Nat), CellsV W (.slice d1 d2 d3) l → CellsV W' (.slice d1 d2 d3) l) :
    ∀ j, j < 11 → j ≠ 10 → P11 b gv gd pv sv bad l j x W → P11 b gv gd pv sv bad l j (upd x 10 v) W'
  | 0, _, _, h => h
  | 1, _, _, h => h
  | 2, _, _, h => h
  | 3, _, _, h => h
  | 4, _, _, h => by obtain ⟨d1, d2, d3, K, X, h1, h2⟩ := h; exact ⟨d1, d2, d3, K, X, h1, putC_up h2 hc⟩
  | 5, _, _, h => by obtain ⟨d1, d2, d3, K, X, h1, h2⟩ := h; exact ⟨d1, d2, d3, K, X, h1, putC_up h2 hc⟩
  | 6, _, _, h => h
  | 7, _, _, h => h
  | 8, _, _, h => by
    obtain ⟨g, h1, h2, h3⟩ := h
    have := e8.symm.trans h2
    simp only [Value.pointer.injEq, Option.some.injEq, Addr.mk.injEq, true_and, and_true] at this
    subst this
    exact ⟨g8, h1, h2, hn⟩
  | 9, _, _, h => by
    obtain ⟨g, h1, h2, h3⟩ := h
    refine ⟨g, h1, h2, (ho g ?_).trans h3⟩
    rintro rfl
    obtain ⟨q1, a1, a2, q2, b1, b2, n, q3, e1, e2, h4⟩ := hg
    rw [h4] at h3
    simp at h3
  | 10, _, h, _ => absurd rfl h
  | j + 11, h, _, _ => by omega
theorem bld_types {T : TypeId} {B b : Nat} {l : List UInt8} {W W' : World} (h : IsBld T B b l W) (hk : ∀ (k : Nat) (c : Array Value) (t : TypeId) (fr : Nat × Nat), t = T ∨ t = 5 → W.heap[k]? = some (Obj.cells c t fr) → W'.heap[k]? = some (Obj.cells c t fr)) : IsBld T B b l W' := by
  have go : ∀ p, Lib.BuilderAtF T 5 B b p (Lib.byteCells l) W → Lib.BuilderAtF T 5 B b p (Lib.byteCells l) W' := by
    rintro p ⟨hB, v, hb, ⟨hn, hown⟩, hne⟩
    refine ⟨hB, v, hk _ _ _ _ (.inl rfl) hb, ⟨hn, ?_⟩, hne⟩
    rcases hown with h1 | ⟨g, cap, cur, fz, h1, h2, h3, h4⟩
    · exact .inl h1
    · exact .inr ⟨g, cap, cur, fz, h1, h2, hk _ _ _ _ (.inr rfl) h3, h4⟩
  exact h.elim (fun x => .inl (go _ x)) (fun x => .inr (go _ x))
theorem bld_box {B b g : Nat} {s : List UInt8} {W W' : World} (h : IsBld 60 B b s W) (hg : BoxG g W) (ho : ∀ k, k ≠ g → W'.heap[k]? = W.heap[k]?) : IsBld 60 B b s W' :=
  bld_types h (fun k c t fr ht hk => (ho k (by
    rintro rfl
    obtain ⟨q1, a1, a2, q2, b1, b2, n, q3, e1, e2, h4⟩ := hg
    rw [h4] at hk
    cases hk
    rcases ht with h | h <;> cases h)).trans hk)
theorem four_ne {w : World} {g k : Nat} {a b c d : Value} (h : k ≠ g) : ((((w.setCell ⟨g, 0, none⟩ a).setCell ⟨g, 1, none⟩ b).setCell ⟨g, 2, none⟩ c).setCell ⟨g, 3, none⟩ d).heap[k]? = w.heap[k]? :=
  (heap_set_ne _ _ _ _ _ h).trans ((heap_set_ne _ _ _ _ _ h).trans ((heap_set_ne _ _ _ _ _ h).trans (heap_set_ne _ _ _ _ _ h)))
theorem cells_box {w : World} {g : Nat} {q1 q2 q3 : Option Addr} {a1 a2 b1 b2 e1 e2 : Nat} {n : Int} {v : Value} (h : BoxG g w) (hc : CellsV w v l) :
    CellsV ((((w.setCell ⟨g, 0, none⟩ (.slice q1 a1 a2)).setCell ⟨g, 1, none⟩ (.slice q2 b1 b2)).setCell ⟨g, 2, none⟩ (.int .u64 n)).setCell ⟨g, 3, none⟩ (.slice q3 e1 e2)) v l := by
  obtain ⟨r1, f1, f2, r2, g1, g2, m, r3, k1, k2, h⟩ := h
  have h1 := heap_set (o := 0) (v := .slice q1 a1 a2) h
  have h2 := heap_set (o := 1) (v := .slice q2 b1 b2) h1
  have h3 := heap_set (o := 2) (v := .int .u64 n) h2
  exact cells_setCell h3 (cells_setCell h2 (cells_setCell h1 (cells_setCell h hc)))
end
set_option maxHeartbeats 16000000 in
set_option maxRecDepth 100000 in
theorem begin_any (c s : Array Value) (hc : Fits cpuK c.toList) (hs : Fits sigK s.toList) (k : Nat) (hk : k < 64) (x p : Nat) (hx : x < 4294967296) (hp : placeF c s k = p) (hp32 : p < 4294967296)
    (base : Nat) (ms : List MapD) (cs : List CellD) (ps : List PageD) (hfit : GuestOk base ms cs ps) (hcs : CellsOk cs) (hlc : cs.length ≤ 400000) (m1 : Option Addr) (m2 : Nat) (c1 : Option Addr) (c2 c3 : Nat) (p1 : Option Addr) (p2 : Nat) (w : World) (hm : MapsV w (.slice m1 ms.length m2) ms) (hcv : CellsV w (.slice c1 c2 c3) cs) (hpv : PagesV w (.slice p1 ps.length p2) ps) :
    Calls Try.prog 6 #[.agg c, .agg #[.slice m1 ms.length m2, .slice c1 c2 c3, .int .u64 base, .slice p1 ps.length p2], .agg s, .int .i64 ((k : Int) + 1), .int .u32 (x : Nat)] w (BeginPost c s k p (frameB c s k x) base cs ps m1 ms.length m2 c1 c2 c3 p1 ps.length p2 w) := by
  have HSZ : Hid ((Try.prog.info? 40).map (·.size) = some s.size) := Lib.hid (by rw [hs.arr_size]; kernel_rfl)
  have HCZ : Hid ((Try.prog.info? 25).map (·.size) = some c.size) := Lib.hid (by rw [hc.arr_size]; kernel_rfl)
  have s0 := hs.iat (i := 0) rfl
  rw [wf_u64] at s0
  obtain ⟨s0, s0a, s0b⟩ := s0
  obtain ⟨mk, hmk⟩ : ∃ mk : Nat, mk = natI s 0 := ⟨_, rfl⟩
  rw [show iat s 0 = (mk : Int) by rw [hmk, natI]; omega] at s0
  have HMK : Hid (mk < 18446744073709551616) := Lib.hid (by rw [hmk, natI]; omega)
  have HMKD := Lib.hid hmk
  have s194 := hs.iat (i := 194) rfl
  have s195 := hs.iat (i := 195) rfl
  rw [wf_u32] at s194 s195
  have HI : Hid (∀ (B b : Nat) (l : List UInt8) (hl : l.length ≤ 1000000) (w : World) (h : IsBld 60 B b l w) (hBw : B ≤ w.heap.size),
    Calls Try.prog 16 #[.pointer (some ⟨b, 0, none⟩), .agg s, .int .i64 ((k : Int) + 1), .int .u32 (x : Nat)] w fun e w' => e = .returned (.tuple #[]) ∧
      (IsBld 60 B b (l ++ infoB (k + 1) x (natI s 194) (natI s 195) (bat s 196)) w' ∧ Below B w w' ∧ Lib.OthersKept 5 (some b) w w')) := Lib.hid (fun B b l hl w h hBw => by
    have := info_any B b s hs (k + 1) x (natI s 194) (natI s 195) (by omega) hx (by rw [natI]; omega) (by rw [natI]; omega) l hl w h hBw
    rw [show ((k + 1 : Nat) : Int) = (k : Int) + 1 by omega] at this
    exact this)
  have HPUT := Lib.hid (fun W (hW : Below w.heap.size w W) => gput_any base ms cs ps hfit hcs p hp32 (frameB c s k x) (by rw [frameB_length]; split <;> omega) hlc m1 m2 c1 c2 c3 p1 p2 W (hm.below hW) (hcv.below hW) (hpv.below hW))
  have HC := Lib.hid hc; have HS := Lib.hid hs; have HP := Lib.hid hp
  have hki : (k : Int) ≤ 63 := by omega
  have HK := Lib.hid hk; have HP32 := Lib.hid hp32
  clear hc hs hfit hcs hlc hm hcv hpv hmk s0a s0b s194 s195 hx hp hp32 hk
  obtain ⟨info, hinfo⟩ : ∃ info, info = hasF s k 8 := ⟨_, rfl⟩
  have HINF := Lib.hid hinfo
  clear hinfo
  go_enter Try.func6, Try.ntmps6
  go_upto_region 1 with fail
  obtain ⟨W0, hW⟩ : ∃ W0, W0 = ((((w.alloc (.cells c 25)).alloc (.cells #[.slice m1 ms.length m2, .slice c1 c2 c3, .int .u64 base, .slice p1 ps.length p2] 33)).alloc (.cells s 40)).alloc (.cells #[.int .u32 0, .int .u32 0, .int .u32 0, .int .u32 0, .int .u32 0, .int .u32 0, .int .u32 0, .int .u32 0, .int .u32 0, .int .u32 0, .int .u32 0, .int .u32 0, .int .u32 0, .int .u32 0, .int .u32 0, .int .u32 0, .int .u32 0, .int .u32 0, .int .u32 0, .int .u32 0, .int .u32 0, .int .u32 0, .int .u32 0, .int .u32 0, .int .u32 0, .int .u32 0, .int .u32 0, .int .u32 0, .int .u32 0, .int .u32 0, .int .u32 0, .int .u32 0, .int .u32 0, .int .u32 0, .int .u32 0, .int .u32 0, .bool false, .int .u32 0, .bool false] 25)).alloc (.cells #[.slice none 0 0, .slice none 0 0, .int .u64 0, .slice none 0 0] 33) := ⟨_, rfl⟩
  have A0 : Hid (W0.heap[w.heap.size]? = some (.cells c 25)) := Lib.hid (by rw [hW]; (repeat (refine (heap_old _ _ _ (by simp only [heap_len]; omega)).trans ?_)); exact heap_new _ _ _ rfl)
  have A1 : Hid (W0.heap[w.heap.size + 1]? = some (.cells #[.slice m1 ms.length m2, .slice c1 c2 c3, .int .u64 base, .slice p1 ps.length p2] 33)) := Lib.hid (by rw [hW]; (repeat (refine (heap_old _ _ _ (by simp only [heap_len]; omega)).trans ?_)); exact heap_new _ _ _ (by simp only [heap_len]))
  have A2 : Hid (W0.heap[w.heap.size + 1 + 1]? = some (.cells s 40)) := Lib.hid (by rw [hW]; (repeat (refine (heap_old _ _ _ (by simp only [heap_len]; omega)).trans ?_)); exact heap_new _ _ _ (by simp only [heap_len]))
  have A3 : Hid (W0.heap[w.heap.size + 1 + 1 + 1]? = some (.cells cpuZ 25)) := Lib.hid (by rw [hW]; (repeat (refine (heap_old _ _ _ (by simp only [heap_len]; omega)).trans ?_)); exact heap_new _ _ _ (by simp only [heap_len]))
  have A4 : Hid (W0.heap[w.heap.size + 1 + 1 + 1 + 1]? = some (.cells #[.slice none 0 0, .slice none 0 0, .int .u64 0, .slice none 0 0] 33)) := Lib.hid (by rw [hW]; exact heap_new _ _ _ (by simp only [heap_len]))
  have HB0 : Hid (Below w.heap.size w W0 ∧ W0.heap.size = w.heap.size + 5) := Lib.hid ⟨by rw [hW]; exact (((((Below.refl _ _).alloc (Nat.le_refl _) _).alloc (by simp only [heap_len]; omega) _).alloc (by simp only [heap_len]; omega) _).alloc (by simp only [heap_len]; omega) _).alloc (by simp only [heap_len]; omega) _, by rw [hW]; simp only [heap_len]⟩
  rw [← hW]
  clear hW
  go_upto_region 5 with (first
    | (refine wpl_load 40 ?_; refine LoadGoal.of s rfl A2.out (by kernel_rfl) HSZ.out rfl ?_)
    | (go_at_call 13; refine (is_in _ (by omega) (by omega) _).mono ?_; rintro e w' ⟨rfl, hw0⟩; rw [hw0]; clear hw0 w')
    | (go_at_call 14; refine (has_in s HS.out k HK.out 8 _).mono ?_; rintro e w' ⟨rfl, rfl⟩; rw [← HINF.out]))
  obtain ⟨b, hb⟩ : ∃ b, b = W0.heap.size + 1 := ⟨_, rfl⟩
  obtain ⟨W1, hW⟩ : ∃ W1, W1 = (W0.alloc (.cells s 40)).alloc (.cells #[.pointer none, .slice none 0 0] 60) := ⟨_, rfl⟩
  have hbb : (W0.alloc (.cells s 40)).heap.size = b := by rw [heap_len, hb]
  have KW : Hid (Wr b b W1 W1 []) := Lib.hid (by
    have hb0 := bld_new (T := 60) (W0.alloc (.cells s 40))
    rw [hbb] at hb0
    rw [hW]
    exact ⟨hb0, Below.refl _ _, Lib.OthersKept.refl _ _ _, by rw [heap_len, hbb]; omega, by rw [heap_len, hbb]; omega⟩)
  have HWB : Hid (Below W0.heap.size W0 W1) := Lib.hid (by rw [hW]; exact ((Below.refl _ _).alloc (Nat.le_refl _) _).alloc (by rw [heap_len]; omega) _)
  have HBZ : Hid (w.heap.size + 5 < b ∧ W0.heap.size < b) := Lib.hid ⟨by rw [hb, HB0.out.2]; omega, by omega⟩
  rw [← hW, ← hb]
  clear hW hb hbb
  have B0 : Hid (W1.heap[w.heap.size]? = some (.cells c 25)) := Lib.hid ((HWB.out.block _ (heap_lt A0.out)).trans A0.out)
  have B1 : Hid (W1.heap[w.heap.size + 1]? = some (.cells #[.slice m1 ms.length m2, .slice c1 c2 c3, .int .u64 base, .slice p1 ps.length p2] 33)) := Lib.hid ((HWB.out.block _ (heap_lt A1.out)).trans A1.out)
  have B2 : Hid (W1.heap[w.heap.size + 1 + 1]? = some (.cells s 40)) := Lib.hid ((HWB.out.block _ (heap_lt A2.out)).trans A2.out)
  have B3 : Hid (W1.heap[w.heap.size + 1 + 1 + 1]? = some (.cells cpuZ 25)) := Lib.hid ((HWB.out.block _ (heap_lt A3.out)).trans A3.out)
  have B4 : Hid (W1.heap[w.heap.size + 1 + 1 + 1 + 1]? = some (.cells #[.slice none 0 0, .slice none 0 0, .int .u64 0, .slice none 0 0] 33)) := Lib.hid ((HWB.out.block _ (heap_lt A4.out)).trans A4.out)
  have HBW : Hid (Below w.heap.size w W1) := Lib.hid (HB0.out.1.trans (HWB.out.mono HB0.out.1.size))
  clear A0 A1 A2 A3 A4 HWB HB0
  have HZ := Lib.hid (zeros_any b b 24 (by omega) [] (by simp) W1 KW.out.bld KW.out.size)
  go_upto_region 6 with (go_at_call 15; refine HZ.out.mono ?_; rintro e w1 ⟨rfl, k1⟩)
  have K1 := Lib.hid (KW.out.next k1)
  clear k1 HZ KW
  rw [List.nil_append] at K1
  obtain ⟨L2, hL2⟩ : ∃ L2, L2 = List.replicate 24 0 ++ (if info = true then infoB (k + 1) x (natI s 194) (natI s 195) (bat s 196) else []) := ⟨_, rfl⟩
  have HL2 := Lib.hid hL2
  have G1 : Hid (w1.heap[w.heap.size + 1 + 1]? = some (.cells s 40)) := Lib.hid (box_keep B2.out K1.out.below (by have := HBZ.out.1; omega))
  go_upto_if 28 with fail
  go_cut [] (fun wx => Wr b b W1 wx L2)
  case first =>
    cases info
    · go_wp2
      go_meet
      have h2 := HL2.out
      simp only [Bool.false_eq_true, if_false, List.append_nil] at h2
      rw [h2]; exact K1.out
    · go_wp2_with (first
        | (refine wpl_load 40 ?_; refine LoadGoal.of s rfl G1.out (by kernel_rfl) HSZ.out rfl ?_)
        | (go_at_call 16; refine (HI.out b b _ (by simp) _ K1.out.bld K1.out.size).mono ?_; rintro e w2 ⟨rfl, k1⟩))
      go_meet
      rw [HL2.out]
      exact K1.out.next k1
  case rest =>
    have K2 := Lib.hid hcut
    have hl2 : L2.length ≤ 200 := by rw [hL2]; cases info <;> simp [infoB_length]
    have HL2L := Lib.hid hl2
    clear hcut hL2 G1 K1 hl2
    have G1 : Hid (wc.heap[w.heap.size]? = some (.cells c 25)) := Lib.hid (box_keep B0.out K2.out.below (by have := HBZ.out.1; omega))
    go_upto_region 9 with (first
      | (refine wpl_load 25 ?_; refine LoadGoal.of c rfl G1.out (by kernel_rfl) HCZ.out rfl ?_)
      | (go_at_call 17; refine (context_any b b c HC.out L2 (by have := HL2L.out; omega) _ K2.out.bld K2.out.size).mono ?_; rintro e w3 ⟨rfl, k1⟩))
    have K3 := Lib.hid (K2.out.next k1)
    clear k1 K2 G1
    have G2 := box_keep B2.out K3.out.below (by have := HBZ.out.1; omega)
    have G3 := cell_at (o := 0) G2 s0
    have HL3 : Hid ((L2 ++ ctxB (if bat c 36 = true then 1 else 0) (iat c 34).toNat (iat c 35).toNat (iat c 32).toNat (iat c 33).toNat (regsL c)).length ≤ 800) := Lib.hid (by
      rw [List.length_append, ctxB_length _ _ _ _ _ _ (regsL_length c)]; have := HL2L.out; omega)
    obtain ⟨L3, hL3⟩ : ∃ L3, L3 = L2 ++ ctxB (if bat c 36 = true then 1 else 0) (iat c 34).toNat (iat c 35).toNat (iat c 32).toNat (iat c 33).toNat (regsL c) := ⟨_, rfl⟩
    rw [← hL3] at K3 HL3
    have HL3D := Lib.hid hL3
    clear hL3 G2
    go_upto_region 10 with (first
      | (go_at_call 19; refine (putMask_any mk HMK.out _).mono ?_; rintro e w4 ⟨rfl, hb4⟩)
      | (go_at_call 18; refine (wstr_any bldT_fwriter b b L3 (mkB (maskB mk)) _ (bld_below K3.out.bld hb4) (by rw [mkB_size, maskB_length]; have := HL3.out; omega) (Nat.le_trans K3.out.size hb4.size)).mono ?_; rintro e w5 ⟨rfl, k1⟩))
    have hFB : L3 ++ maskB mk = frameB c s k x := by
      rw [HL3D.out, HL2.out, frameB, ← HINF.out, HMKD.out]
    obtain ⟨FB, hFBe⟩ : ∃ FB, FB = frameB c s k x := ⟨_, rfl⟩
    rw [← hFBe] at hFB HPUT
    have K4 : Hid (Wr b b W1 w5 FB) := Lib.hid (by
      have h := K3.out.next (m := L3) ⟨bld_below K3.out.bld hb4, hb4.mono K3.out.size, others_below hb4⟩
      have h2 := h.next k1
      rw [mkB_list, hFB] at h2
      exact h2)
    have HFBL : Hid (FB.length ≤ 800 ∧ FB ≠ []) := Lib.hid (by
      have h1 := frameB_length c s k x
      rw [← hFBe] at h1
      refine ⟨by rw [h1]; split <;> omega, fun e => ?_⟩
      rw [e] at h1; simp at h1; split at h1 <;> omega)
    have HFBE := Lib.hid hFBe
    clear k1 hb4 K3 hFB hFBe HL3 HL3D HL2 HL2L HI G3
    have G1 : Hid (w5.heap[w.heap.size]? = some (.cells c 25)) := Lib.hid (box_keep B0.out K4.out.below (by have := HBZ.out.1; omega))
    have G2 : Hid (w5.heap[w.heap.size + 1 + 1]? = some (.cells s 40)) := Lib.hid (box_keep B2.out K4.out.below (by have := HBZ.out.1; omega))
    go_upto_region 11 with (first
      | (refine wpl_load 25 ?_; refine LoadGoal.of c rfl G1.out (by kernel_rfl) HCZ.out rfl ?_)
      | (refine wpl_load 40 ?_; refine LoadGoal.of s rfl G2.out (by kernel_rfl) HSZ.out rfl ?_)
      | (go_at_call 12; refine (place_in c s HC.out HS.out k HK.out _).mono ?_; rintro e w6 ⟨rfl, hb6⟩; rw [HP.out]))
    have K5 : Hid (Wr b b W1 w6 FB) := Lib.hid (K4.out.next ⟨bld_below K4.out.bld hb6, hb6.mono K4.out.size, others_below hb6⟩)
    clear hb6 K4 G1 G2
    have C1 : Hid (w6.heap[w.heap.size + 1]? = some (.cells #[.slice m1 ms.length m2, .slice c1 c2 c3, .int .u64 base, .slice p1 ps.length p2] 33)) := Lib.hid (box_keep B1.out K5.out.below (by have := HBZ.out.1; omega))
    have HBW6 : Hid (Below w.heap.size w w6) := Lib.hid (HBW.out.trans (K5.out.below.mono (by have := HBZ.out.1; omega)))
    have HSTR : Hid (∀ W', IsBld 60 b b FB W' → b ≤ W'.heap.size → Calls Try.prog 21 #[.pointer (some ⟨b, 0, none⟩)] W' fun e w' => e = .returned (.string (mkB FB)) ∧ Below b W' w' ∧ Lib.OthersKept 5 (some b) W' w') := Lib.hid (fun W' hbd hB => by
      refine (bstr_any b b FB W' hbd hB).mono ?_
      rintro e w' ⟨rfl, _, h2, h3⟩
      exact ⟨rfl, h2, h3⟩)
    have l0 := cell_at (o := 0) C1.out rfl
    have l1 := cell_at (o := 1) C1.out rfl
    have l2 := cell_at (o := 2) C1.out rfl
    have l3 := cell_at (o := 3) C1.out rfl
    have hbw6 : b < w6.heap.size := K5.out.lt
    have hwb : w.heap.size + 5 < b := HBZ.out.1
    go_cut [16, 17] (fun s16 s17 wx => ∃ g16 g17 : Nat, s16 = .pointer (some ⟨g16, 0, none⟩) ∧ s17 = .pointer (some ⟨g17, 0, none⟩) ∧ b < g16 ∧ b < g17 ∧ Below b w6 wx ∧
      ((badB ps 2 p FB.length = true ∧ ∃ K X : Int, K ≠ 0 ∧ wx.heap[g17]? = some (.cells #[.int .i64 K, .int .u64 X] 70)) ∨
       (badB ps 2 p FB.length = false ∧ ∃ d1 d2 d3, wx.heap[g17]? = some (.cells #[.int .i64 0, .int .u64 0] 70) ∧ wx.heap[g16]? = some (.cells #[.slice m1 ms.length m2, .slice d1 d2 d3, .int .u64 base, .slice p1 ps.length p2] 33) ∧ CellsV wx (.slice d1 d2 d3) (putAll cs (base + p) FB))))
    case first =>
      have hbw := HBW6.out
      have hbw6r := K5.out.size
      have hh1 : w.heap.size + 1 < b := by omega
      have HPB : Hid (∀ W (hW : Below b w6 W), Calls Try.prog 20 #[.agg #[.slice m1 ms.length m2, .slice c1 c2 c3, .int .u64 base, .slice p1 ps.length p2], .int .u32 p, .string (mkB FB)] W fun e w' => Below W.heap.size W w' ∧ ∃ (d1 : Option Addr) (d2 d3 : Nat) (K X : Int), e = .returned (.tuple #[.agg #[.slice m1 ms.length m2, .slice d1 d2 d3, .int .u64 base, .slice p1 ps.length p2], .agg #[.int .i64 K, .int .u64 X]]) ∧
          PutC (badB ps 2 p FB.length) (putAll cs (base + p) FB) d1 d2 d3 K X w') := Lib.hid (fun W hW => by
        refine (HPUT.out W (hbw.trans (hW.mono (by omega)))).mono ?_
        rintro e w' ⟨g1, (⟨g2, K, X, g3, g4⟩ | ⟨g2, d1, d2, d3, g3, g4⟩)⟩
        · exact ⟨g1, c1, c2, c3, K, X, g4, .inl ⟨g2, g3⟩⟩
        · exact ⟨g1, d1, d2, d3, 0, 0, g3, .inr ⟨g2, rfl, rfl, g4⟩⟩)
      clear HPUT
      have HL4 : Hid (∀ W, Below b w6 W → W.cell? ⟨w.heap.size + 1, 0, none⟩ = some (.slice m1 ms.length m2) ∧ W.cell? ⟨w.heap.size + 1, 1, none⟩ = some (.slice c1 c2 c3) ∧ W.cell? ⟨w.heap.size + 1, 2, none⟩ = some (.int .u64 base) ∧ W.cell? ⟨w.heap.size + 1, 3, none⟩ = some (.slice p1 ps.length p2)) := Lib.hid (fun W hW => keepS l0 l1 l2 l3 hh1 hW)
      have HST : Hid (∀ W, IsBld 60 b b FB W → b ≤ W.heap.size → Calls Try.prog 21 #[.pointer (some ⟨b, 0, none⟩)] W fun e w' => e = .returned (.string (mkB FB)) ∧ IsBld 60 b b FB w' ∧ Below b W w' ∧ Lib.OthersKept 5 (some b) W w') := Lib.hid (fun W hW hs => bstr_any b b FB W hW hs)
      clear HSTR l0 l1 l2 l3
      refine wp_region_inv 11 (fun W => Below b w6 W ∧ IsBld 60 b b FB W) (P11 b (.agg #[.slice m1 ms.length m2, .slice c1 c2 c3, .int .u64 base, .slice p1 ps.length p2]) (fun d1 d2 d3 => #[.slice m1 ms.length m2, .slice d1 d2 d3, .int .u64 base, .slice p1 ps.length p2]) (.int .u32 p) (.string (mkB FB)) (badB ps 2 p FB.length) (putAll cs (base + p) FB)) (by kernel_rfl) (by kernel_rfl) ⟨(Below.refl _ _).drew, bld_below K5.out.bld (Below.refl _ _).drew⟩ ?_ ?_
      · refine ⟨?_, ?_, ?_, ?_, ?_, ?_, ?_, ?_, ?_, ?_, ?_, trivial⟩
        · intro x xw hI hd K hK
          have k0 := (HL4.out xw hI.1).1
          have k1 := (HL4.out xw hI.1).2.1
          have k2 := (HL4.out xw hI.1).2.2.1
          have k3 := (HL4.out xw hI.1).2.2.2
          simp only [List.take_succ_cons, List.take_zero, puts, Act.put, List.getElem_toArray, List.getElem_cons_succ, List.getElem_cons_zero, List.setIfInBounds_toArray, List.set_cons_zero, List.set_cons_succ] at hK ⊢
          have HK := Lib.hid hK
          clear hK
          refine (if_pos (by rfl)).mpr ?_
          go_simp
          refine HK.out _ _ hI rfl (fun j hj hne ha => p11_same j hj hne (fun _ => by decide) (fun h => by subst h; exact anc_no ha (by kernel_rfl)))
        · intro x xw hI hd K hK
          simp only [List.take_succ_cons, List.take_zero, puts, Act.put, List.getElem_toArray, List.getElem_cons_succ, List.getElem_cons_zero, List.setIfInBounds_toArray, List.set_cons_zero, List.set_cons_succ] at hK ⊢
          have HK := Lib.hid hK
          clear hK
          refine (if_pos (by rfl)).mpr ?_
          go_simp
          refine HK.out _ _ hI rfl (fun j hj hne ha => p11_same j hj hne (fun _ => by decide) (fun h => by subst h; exact anc_no ha (by kernel_rfl)))
        · intro x xw hI hd K hK
          simp only [List.take_succ_cons, List.take_zero, puts, Act.put, List.getElem_toArray, List.getElem_cons_succ, List.getElem_cons_zero, List.setIfInBounds_toArray, List.set_cons_zero, List.set_cons_succ] at hK ⊢
          have HK := Lib.hid hK
          clear hK
          refine (if_pos (by rfl)).mpr ?_
          go_simp
          refine HK.out _ _ hI rfl (fun j hj hne ha => p11_same j hj hne (fun _ => by decide) (fun h => by subst h; exact anc_no ha (by kernel_rfl)))
        · intro x xw hI hd K hK
          have d2 : x 2 = .pointer (some ⟨b, 0, none⟩) := hd 2 (by kernel_rfl)
          simp only [List.take_succ_cons, List.take_zero, puts, Act.put, List.getElem_toArray, List.getElem_cons_succ, List.getElem_cons_zero, List.setIfInBounds_toArray, List.set_cons_zero, List.set_cons_succ, d2] at hK ⊢
          have HK := Lib.hid hK
          clear hK
          refine (if_pos (by rfl)).mpr ?_
          go_simp
          go_wp2_with (go_at_call 21; refine (HST.out _ hI.2 (Nat.le_trans hbw6r hI.1.size)).mono ?_; rintro e wS ⟨rfl, hbl, hbS, hkS⟩)
          refine HK.out _ _ ⟨hI.1.trans hbS, hbl⟩ rfl (fun j hj hne ha => p11_up (fun g cs t hg ht h => hkS _ _ h (fun e => by cases e; omega) (fun c fz e => by cases e; exact ht rfl)) j hj hne (fun _ => by decide) (fun h => by rcases h with rfl | rfl <;> exact anc_no ha (by kernel_rfl)) (fun h => by subst h; exact anc_no ha (by kernel_rfl)))
        · intro x xw hI hd K hK
          have d0 : x 0 = _ := hd 0 (by kernel_rfl)
          have d1 : x 1 = _ := hd 1 (by kernel_rfl)
          have d3 : x 3 = _ := hd 3 (by kernel_rfl)
          simp only [List.take_succ_cons, List.take_zero, puts, Act.put, List.getElem_toArray, List.getElem_cons_succ, List.getElem_cons_zero, List.setIfInBounds_toArray, List.set_cons_zero, List.set_cons_succ, d0, d1, d3] at hK ⊢
          have HK := Lib.hid hK
          clear hK
          refine (if_pos (by rfl)).mpr ?_
          go_simp
          go_wp2_with (go_at_call 20; refine (HPB.out _ hI.1).mono ?_; rintro e wP ⟨hbP, e1, e2, e3, KK, XX, rfl, hcP⟩)
          refine HK.out _ _ ⟨hI.1.trans (hbP.mono (Nat.le_trans hbw6r hI.1.size)), bld_below hI.2 hbP⟩ ⟨e1, e2, e3, KK, XX, rfl, hcP⟩ (fun j hj hne ha => p11_up (fun g cs t hg ht h => (hbP.block _ (heap_lt h)).trans h) j hj hne (fun _ => by decide) (fun h => by rcases h with rfl | rfl; exact absurd rfl hne; exact anc_no ha (by kernel_rfl)) (fun h => by subst h; exact anc_no ha (by kernel_rfl)))
        · intro x xw hI hd
          obtain ⟨e1, e2, e3, KK, XX, d4, hC⟩ := p11_4 (hd 4 (by kernel_rfl))
          intro K hK
          simp only [List.take_succ_cons, List.take_zero, puts, Act.put, List.getElem_toArray, List.getElem_cons_succ, List.getElem_cons_zero, List.setIfInBounds_toArray, List.set_cons_zero, List.set_cons_succ, d4] at hK ⊢
          have HK := Lib.hid hK
          clear hK
          refine (if_pos (by rfl)).mpr ?_
          go_simp
          refine HK.out _ _ hI ⟨e1, e2, e3, KK, XX, rfl, hC⟩ (fun j hj hne ha => p11_same j hj hne (fun h => by rcases h with rfl | rfl <;> exact anc_no ha (by kernel_rfl)) (fun h => by subst h; exact anc_no ha (by kernel_rfl)))
        · intro x xw hI hd
          obtain ⟨e1, e2, e3, KK, XX, d5, hC⟩ := p11_5 (hd 5 (by kernel_rfl))
          intro K hK
          simp only [List.take_succ_cons, List.take_zero, puts, Act.put, List.getElem_toArray, List.getElem_cons_succ, List.getElem_cons_zero, List.setIfInBounds_toArray, List.set_cons_zero, List.set_cons_succ, d5] at hK ⊢
          have HK := Lib.hid hK
          clear hK
          refine (if_pos (by rfl)).mpr ?_
          go_simp
          refine HK.out _ _ hI ⟨e1, e2, e3, KK, XX, d5, rfl⟩ (fun j hj hne ha => p11_same j hj hne (fun _ => by decide) (fun h => by subst h; exact anc_no ha (by kernel_rfl)))
        · intro x xw hI hd
          obtain ⟨e1, e2, e3, KK, XX, d5, hC⟩ := p11_5 (hd 5 (by kernel_rfl))
          intro K hK
          simp only [List.take_succ_cons, List.take_zero, puts, Act.put, List.getElem_toArray, List.getElem_cons_succ, List.getElem_cons_zero, List.setIfInBounds_toArray, List.set_cons_zero, List.set_cons_succ, d5] at hK ⊢
          have HK := Lib.hid hK
          clear hK
          refine (if_pos (by rfl)).mpr ?_
          go_simp
          refine HK.out _ _ hI ⟨e1, e2, e3, KK, XX, d5, rfl⟩ (fun j hj hne ha => p11_same j hj hne (fun _ => by decide) (fun _ => rfl))
        · intro x xw hI hd K hK
          have hbx : b < xw.heap.size := Nat.lt_of_lt_of_le hbw6 hI.1.size
          simp only [List.take_succ_cons, List.take_zero, puts, Act.put, List.getElem_toArray, List.getElem_cons_succ, List.getElem_cons_zero, List.setIfInBounds_toArray, List.set_cons_zero, List.set_cons_succ] at hK ⊢
          have HK := Lib.hid hK
          clear hK
          refine (if_pos (by rfl)).mpr ?_
          go_simp
          refine HK.out _ _ ⟨hI.1.alloc (Nat.le_of_lt hbx) _, bld_below hI.2 ((Below.refl _ _).alloc (Nat.le_refl _) _)⟩ ⟨xw.heap.size, hbx, rfl, none, 0, 0, none, 0, 0, 0, none, 0, 0, heap_new _ _ _ rfl⟩ (fun j hj hne ha => p11_up (fun g cs t hg ht h => (heap_old _ _ _ (heap_lt h)).trans h) j hj hne (fun _ => by decide) (fun _ _ _ _ h => cells_alloc h) (fun h => by subst h; exact anc_no ha (by kernel_rfl)))
        · intro x xw hI hd K hK
          have hbx : b < xw.heap.size := Nat.lt_of_lt_of_le hbw6 hI.1.size
          simp only [List.take_succ_cons, List.take_zero, puts, Act.put, List.getElem_toArray, List.getElem_cons_succ, List.getElem_cons_zero, List.setIfInBounds_toArray, List.set_cons_zero, List.set_cons_succ] at hK ⊢
          have HK := Lib.hid hK
          clear hK
          refine (if_pos (by rfl)).mpr ?_
          go_simp
          refine HK.out _ _ ⟨hI.1.alloc (Nat.le_of_lt hbx) _, bld_below hI.2 ((Below.refl _ _).alloc (Nat.le_refl _) _)⟩ ⟨xw.heap.size, hbx, rfl, heap_new _ _ _ rfl⟩ (fun j hj hne ha => p11_up (fun g cs t hg ht h => (heap_old _ _ _ (heap_lt h)).trans h) j hj hne (fun _ => by decide) (fun _ _ _ _ h => cells_alloc h) (fun h => by subst h; exact anc_no ha (by kernel_rfl)))
        · intro x xw hI hd
          obtain ⟨e1, e2, e3, KK, XX, d5, d6⟩ := p11_6 (hd 6 (by kernel_rfl))
          obtain ⟨g8, hg8, d8, hbox⟩ := p11_8 (hd 8 (by kernel_rfl))
          have D5 := Lib.hid d5
          clear d5
          have hbox2 := hbox
          obtain ⟨q1, a1, a2, q2, b1, b2, n, q3, f1, f2, hbx⟩ := hbox2
          have c0 := cell_at (o := 0) hbx rfl
          have c1 := cell_at (o := 1) hbx rfl
          have c2 := cell_at (o := 2) hbx rfl
          have c3 := cell_at (o := 3) hbx rfl
          have z0 := free_at (o := 0) hbx
          have z1 := free_at (o := 1) hbx
          have z2 := free_at (o := 2) hbx
          have z3 := free_at (o := 3) hbx
          intro K hK
          simp only [List.take_succ_cons, List.take_zero, puts, Act.put, List.getElem_toArray, List.getElem_cons_succ, List.getElem_cons_zero, List.setIfInBounds_toArray, List.set_cons_zero, List.set_cons_succ, d6, d8] at hK ⊢
          have HK := Lib.hid hK
          clear hK
          refine (if_pos (by rfl)).mpr ?_
          go_simp
          have hnew := four_set (a := .slice m1 ms.length m2) (b := .slice e1 e2 e3) (c := .int .u64 base) (d := .slice p1 ps.length p2) hbx
          refine HK.out undef _ ⟨(((hI.1.setCell (Nat.le_of_lt hg8) _).setCell (Nat.le_of_lt hg8) _).setCell (Nat.le_of_lt hg8) _).setCell (Nat.le_of_lt hg8) _, bld_box hI.2 hbox (fun k hk => four_ne hk)⟩ ⟨e1, e2, e3, KK, XX, g8, D5.out, d8, hnew⟩
            (fun j hj hne ha => p11_ten d8 hbox ⟨_, _, _, _, _, _, _, _, _, _, hnew⟩ (fun k hk => four_ne hk) (fun _ _ _ h => cells_box hbox h) j hj hne)
      · intro x wT hI hp
        refine p11_end (fun d1 d2 d3 e1 e2 e3 h => by simpa using h) hp ?_
        clear hp
        intro d1 d2 d3 K X g8 g9 hC e7 e8 e9 hg8 hg9 hg h8 h9
        simp only [List.take_succ_cons, List.take_zero, List.drop_succ_cons, List.drop_zero, puts, Act.put, List.setIfInBounds_toArray, List.set_cons_zero, List.set_cons_succ, e7, e8, e9]
        have hz9 := fzf h9
        have y0 := hz9.2.2.1
        have y1 := hz9.2.2.2.1
        have y2 := hz9.2.2.2.2.1
        have y3 := hz9.2.2.2.2.2
        have HH8 := Lib.hid h8
        have HH9 := Lib.hid h9
        have HCC := Lib.hid hC
        have HI := Lib.hid hI
        clear hz9 h8 h9 hC hI e7 e8 e9
        go_wp2
        go_meet
        refine ⟨g8, g9, rfl, rfl, hg8, hg9, (HI.out.1.setCell (Nat.le_of_lt hg9) _).setCell (Nat.le_of_lt hg9) _, ?_⟩
        rcases HCC.out with ⟨q1, q2⟩ | ⟨q1, rfl, rfl, q4⟩
        · exact .inl ⟨q1, K, X, q2, two_set HH9.out⟩
        · refine .inr ⟨q1, d1, d2, d3, ?_, ?_, cells_two HH9.out rfl rfl q4⟩
          · exact two_set HH9.out
          · exact (heap_set_ne _ _ _ _ _ hg).trans ((heap_set_ne _ _ _ _ _ hg).trans HH8.out)
    case rest =>
      obtain ⟨g16, g17, rfl, rfl, hg16, hg17, hbc, hcase⟩ := hcut
      have HCB : Hid (Below b W1 wc) := Lib.hid (K5.out.below.trans hbc)
      have D0 : Hid (wc.heap[w.heap.size]? = some (.cells c 25)) := Lib.hid (box_keep B0.out HCB.out (by omega))
      have D1 : Hid (wc.heap[w.heap.size + 1]? = some (.cells #[.slice m1 ms.length m2, .slice c1 c2 c3, .int .u64 base, .slice p1 ps.length p2] 33)) := Lib.hid (box_keep B1.out HCB.out (by omega))
      have D2 : Hid (wc.heap[w.heap.size + 1 + 1]? = some (.cells s 40)) := Lib.hid (box_keep B2.out HCB.out (by omega))
      have D3 : Hid (wc.heap[w.heap.size + 1 + 1 + 1]? = some (.cells cpuZ 25)) := Lib.hid (box_keep B3.out HCB.out (by omega))
      have D4 : Hid (wc.heap[w.heap.size + 1 + 1 + 1 + 1]? = some (.cells #[.slice none 0 0, .slice none 0 0, .int .u64 0, .slice none 0 0] 33)) := Lib.hid (box_keep B4.out HCB.out (by omega))
      have HBWc : Hid (Below w.heap.size w wc) := Lib.hid (HBW.out.trans (HCB.out.mono (by omega)))
      clear B0 B1 B2 B3 B4 C1 K5 l0 l1 l2 l3 hbc HSTR HPUT HBW HCB HBW6
      rcases hcase with ⟨hbad, K, X, hK, hF⟩ | ⟨hbad, d1, d2, d3, hF, hG, hcP⟩
      · have q0 := cell_at (o := 0) hF rfl
        have hne : (K != 0) = true := by simpa using hK
        clear hF hK
        go_upto_region 13 with fail
        have HOS : Hid (cpuZ.size = c.size) := Lib.hid (by rw [HC.out.arr_size, cpuZ_fits.arr_size])
        have HALL : Hid (c.all (·.oneCell') = true) := Lib.hid HC.out.all_one
        have HGS : Hid ((Try.prog.info? 33).map (·.size) = some (#[.slice m1 ms.length m2, .slice c1 c2 c3, .int .u64 base, .slice p1 ps.length p2] : Array Value).size) := Lib.hid (by show _ = some 4; kernel_rfl)
        have HG1 : Hid ((#[.slice m1 ms.length m2, .slice c1 c2 c3, .int .u64 base, .slice p1 ps.length p2] : Array Value).all (·.oneCell') = true) := Lib.hid (by simp [Value.oneCell'])
        have HBADT : Hid (badB ps 2 p (frameB c s k x).length = true) := Lib.hid (by rw [← HFBE.out]; exact hbad)
        refine wp_region_any (by kernel_rfl) ?_
        change wpAny _ _ _ _ _ _ _ (World.drew _)
        refine wpAny_ready (rs := [0, 1]) (by kernel_rfl) (by simp) ?_
        refine AllReady.cons rfl (fun K hK => ?_) (AllReady.cons rfl (fun K hK => ?_) AllReady.nil)
        · refine (if_pos (by rfl)).mpr ?_
          refine op_load 25 ?_
          refine OLoadGoal.of c rfl (by first | exact D0.out | exact (row_ne _ _ _ _ (by omega)).trans D0.out) (by kernel_rfl) HCZ.out ?_
          refine hK _ _ ?_
          clear hK K
          refine wpAny_ready (rs := [1, 2]) (by kernel_rfl) (by simp) ?_
          refine AllReady.cons rfl (fun K hK => ?_) (AllReady.cons rfl (fun K hK => ?_) AllReady.nil)
          · refine (if_pos (by rfl)).mpr ?_
            refine op_load 33 ?_
            refine OLoadGoal.of #[.slice m1 ms.length m2, .slice c1 c2 c3, .int .u64 base, .slice p1 ps.length p2] rfl (by first | exact D1.out | exact (row_ne _ _ _ _ (by omega)).trans D1.out) (by kernel_rfl) HGS.out ?_
            refine hK _ _ ?_
            clear hK K
            refine wpAny_ready (rs := [2]) (by kernel_rfl) (by simp) ?_
            refine AllReady.cons rfl (fun K hK => ?_) AllReady.nil
            refine (if_pos (by rfl)).mpr ?_
            refine wp_store_row 25 _ _ rfl (w.heap.size + 1 + 1 + 1) c rfl rfl 25 cpuZ (by first | exact D3.out | exact (row_ne _ _ _ _ (by omega)).trans D3.out) HCZ.out HOS.out HALL.out ?_
            refine hK _ _ ?_
            clear hK K
            refine wpAny_ready (rs := [3]) (by kernel_rfl) (by simp) ?_
            refine AllReady.cons rfl (fun K hK => ?_) AllReady.nil
            refine (if_pos (by rfl)).mpr ?_
            refine wp_store_row 33 _ _ rfl (w.heap.size + 1 + 1 + 1 + 1) #[.slice m1 ms.length m2, .slice c1 c2 c3, .int .u64 base, .slice p1 ps.length p2] rfl rfl 33 #[.slice none 0 0, .slice none 0 0, .int .u64 0, .slice none 0 0] (by first | exact D4.out | exact (row_ne _ _ _ _ (by omega)).trans D4.out) HGS.out rfl HG1.out ?_
            refine hK _ _ ?_
            clear hK K
            (refine wpAny_take (i := 4) (v := ?_) rfl (by kernel_rfl) (by kernel_rfl) (by kernel_rfl) (fun _ _ _ h => h) (Or.inl ⟨by rfl, fun w => ?_⟩) ?_; rotate_left; · (go_simp <;> with_reducible rfl); (try simp only [Act.put, List.getElem_toArray, List.getElem_cons_succ, List.getElem_cons_zero, List.setIfInBounds_toArray, List.set_cons_zero, List.set_cons_succ]))
            refine wpAny_done (by kernel_rfl) ?_ _
            go_wp2
            refine bodyPost_ret (res_cell_cell_tmp rfl rfl ((row_ne _ _ _ _ (by omega)).trans (row_same (w := wc.drew) D3.out)) (by kernel_rfl) HCZ.out rfl ((row_same ((row_ne _ _ _ _ (by omega)).trans D4.out))) (by kernel_rfl) HGS.out) rfl ?_
            exact ⟨row_below (row_below HBWc.out.drew (by omega)) (by omega), .inl ⟨HBADT.out, rfl⟩⟩
          · refine (if_pos (by rfl)).mpr ?_
            refine wp_store_row 25 _ _ rfl (w.heap.size + 1 + 1 + 1) c rfl rfl 25 cpuZ (by first | exact D3.out | exact (row_ne _ _ _ _ (by omega)).trans D3.out) HCZ.out HOS.out HALL.out ?_
            refine hK _ _ ?_
            clear hK K
            refine wpAny_ready (rs := [1]) (by kernel_rfl) (by simp) ?_
            refine AllReady.cons rfl (fun K hK => ?_) AllReady.nil
            refine (if_pos (by rfl)).mpr ?_
            refine op_load 33 ?_
            refine OLoadGoal.of #[.slice m1 ms.length m2, .slice c1 c2 c3, .int .u64 base, .slice p1 ps.length p2] rfl (by first | exact D1.out | exact (row_ne _ _ _ _ (by omega)).trans D1.out) (by kernel_rfl) HGS.out ?_
            refine hK _ _ ?_
            clear hK K
            refine wpAny_ready (rs := [3]) (by kernel_rfl) (by simp) ?_
            refine AllReady.cons rfl (fun K hK => ?_) AllReady.nil
            refine (if_pos (by rfl)).mpr ?_
            refine wp_store_row 33 _ _ rfl (w.heap.size + 1 + 1 + 1 + 1) #[.slice m1 ms.length m2, .slice c1 c2 c3, .int .u64 base, .slice p1 ps.length p2] rfl rfl 33 #[.slice none 0 0, .slice none 0 0, .int .u64 0, .slice none 0 0] (by first | exact D4.out | exact (row_ne _ _ _ _ (by omega)).trans D4.out) HGS.out rfl HG1.out ?_
            refine hK _ _ ?_
            clear hK K
            (refine wpAny_take (i := 4) (v := ?_) rfl (by kernel_rfl) (by kernel_rfl) (by kernel_rfl) (fun _ _ _ h => h) (Or.inl ⟨by rfl, fun w => ?_⟩) ?_; rotate_left; · (go_simp <;> with_reducible rfl); (try simp only [Act.put, List.getElem_toArray, List.getElem_cons_succ, List.getElem_cons_zero, List.setIfInBounds_toArray, List.set_cons_zero, List.set_cons_succ]))
            refine wpAny_done (by kernel_rfl) ?_ _
            go_wp2
            refine bodyPost_ret (res_cell_cell_tmp rfl rfl ((row_ne _ _ _ _ (by omega)).trans (row_same (w := wc.drew) D3.out)) (by kernel_rfl) HCZ.out rfl ((row_same ((row_ne _ _ _ _ (by omega)).trans D4.out))) (by kernel_rfl) HGS.out) rfl ?_
            exact ⟨row_below (row_below HBWc.out.drew (by omega)) (by omega), .inl ⟨HBADT.out, rfl⟩⟩
        · refine (if_pos (by rfl)).mpr ?_
          refine op_load 33 ?_
          refine OLoadGoal.of #[.slice m1 ms.length m2, .slice c1 c2 c3, .int .u64 base, .slice p1 ps.length p2] rfl (by first | exact D1.out | exact (row_ne _ _ _ _ (by omega)).trans D1.out) (by kernel_rfl) HGS.out ?_
          refine hK _ _ ?_
          clear hK K
          refine wpAny_ready (rs := [0]) (by kernel_rfl) (by simp) ?_
          refine AllReady.cons rfl (fun K hK => ?_) AllReady.nil
          refine (if_pos (by rfl)).mpr ?_
          refine op_load 25 ?_
          refine OLoadGoal.of c rfl (by first | exact D0.out | exact (row_ne _ _ _ _ (by omega)).trans D0.out) (by kernel_rfl) HCZ.out ?_
          refine hK _ _ ?_
          clear hK K
          refine wpAny_ready (rs := [2]) (by kernel_rfl) (by simp) ?_
          refine AllReady.cons rfl (fun K hK => ?_) AllReady.nil
          refine (if_pos (by rfl)).mpr ?_
          refine wp_store_row 25 _ _ rfl (w.heap.size + 1 + 1 + 1) c rfl rfl 25 cpuZ (by first | exact D3.out | exact (row_ne _ _ _ _ (by omega)).trans D3.out) HCZ.out HOS.out HALL.out ?_
          refine hK _ _ ?_
          clear hK K
          refine wpAny_ready (rs := [3]) (by kernel_rfl) (by simp) ?_
          refine AllReady.cons rfl (fun K hK => ?_) AllReady.nil
          refine (if_pos (by rfl)).mpr ?_
          refine wp_store_row 33 _ _ rfl (w.heap.size + 1 + 1 + 1 + 1) #[.slice m1 ms.length m2, .slice c1 c2 c3, .int .u64 base, .slice p1 ps.length p2] rfl rfl 33 #[.slice none 0 0, .slice none 0 0, .int .u64 0, .slice none 0 0] (by first | exact D4.out | exact (row_ne _ _ _ _ (by omega)).trans D4.out) HGS.out rfl HG1.out ?_
          refine hK _ _ ?_
          clear hK K
          (refine wpAny_take (i := 4) (v := ?_) rfl (by kernel_rfl) (by kernel_rfl) (by kernel_rfl) (fun _ _ _ h => h) (Or.inl ⟨by rfl, fun w => ?_⟩) ?_; rotate_left; · (go_simp <;> with_reducible rfl); (try simp only [Act.put, List.getElem_toArray, List.getElem_cons_succ, List.getElem_cons_zero, List.setIfInBounds_toArray, List.set_cons_zero, List.set_cons_succ]))
          refine wpAny_done (by kernel_rfl) ?_ _
          go_wp2
          refine bodyPost_ret (res_cell_cell_tmp rfl rfl ((row_ne _ _ _ _ (by omega)).trans (row_same (w := wc.drew) D3.out)) (by kernel_rfl) HCZ.out rfl ((row_same ((row_ne _ _ _ _ (by omega)).trans D4.out))) (by kernel_rfl) HGS.out) rfl ?_
          exact ⟨row_below (row_below HBWc.out.drew (by omega)) (by omega), .inl ⟨HBADT.out, rfl⟩⟩
      · have q0 := cell_at (o := 0) hF rfl
        have HG := Lib.hid hG; have HCP := Lib.hid hcP
        clear hF hG hcP
        have hs := HS.out
        have hc := HC.out
        have shd := cell_at (o := 2 + k * 3 + 1) D2.out (hs.iat (sigK_hd k HK.out)).1
        have t4 := cell_at (o := 4) D0.out (hc.iat (i := 4) rfl).1
        have t5 := cell_at (o := 5) D0.out (hc.iat (i := 5) rfl).1
        have t6 := cell_at (o := 6) D0.out (hc.iat (i := 6) rfl).1
        have t31 := cell_at (o := 31) D0.out (hc.iat (i := 31) rfl).1
        have t25 := cell_at (o := 25) D0.out (hc.iat (i := 25) rfl).1
        have t29 := cell_at (o := 29) D0.out (hc.iat (i := 29) rfl).1
        have t34 := cell_at (o := 34) D0.out (hc.iat (i := 34) rfl).1
        have t35 := cell_at (o := 35) D0.out (hc.iat (i := 35) rfl).1
        have t36 := cell_at (o := 36) D0.out (hc.bat (i := 36) rfl)
        have t38 := cell_at (o := 38) D0.out (hc.bat (i := 38) rfl)
        have u4 := free_at (o := 4) D0.out
        have u5 := free_at (o := 5) D0.out
        have u6 := free_at (o := 6) D0.out
        have u31 := free_at (o := 31) D0.out
        have u25 := free_at (o := 25) D0.out
        have u29 := free_at (o := 29) D0.out
        have u34 := free_at (o := 34) D0.out
        have u35 := free_at (o := 35) D0.out
        have u36 := free_at (o := 36) D0.out
        have u38 := free_at (o := 38) D0.out
        clear hs hc
        go_upto_if 75 with fail
        obtain ⟨wd, hwd⟩ : ∃ wd, wd = (((wc.setCell ⟨w.heap.size, 4, none⟩ (.int .u32 ((k : Int) + 1))).setCell ⟨w.heap.size, 5, none⟩ (.int .u32 0)).setCell ⟨w.heap.size, 6, none⟩ (.int .u32 (((p : Int) + 24) % 4294967296))).setCell ⟨w.heap.size, 31, none⟩ (.int .u32 2147422224) := ⟨_, rfl⟩
        have E0 : Hid (wd.heap[w.heap.size]? = some (.cells (preA c k p) 25)) := Lib.hid (by rw [hwd]; exact heap_set (heap_set (heap_set (heap_set D0.out))))
        have O0 : Hid (OneB w.heap.size wc wd) := Lib.hid (by rw [hwd]; exact ((((OneB.refl _ _).set).set).set).set)
        have HH : Hid (hdI s k = iat s (2 + k * 3 + 1)) := Lib.hid rfl
        rw [← hwd]
        clear hwd t4 t5 t6 t31 t25 t29 t34 t35 t36 t38 u4 u5 u6 u31 u25 u29 u34 u35 u36 u38 shd
        have PF : FitC cpuK (preA c k p) := pre_fits ⟨HC.out⟩ HK.out
        have MF : FitC cpuK (midA c s k p) := mid_fits ⟨HC.out⟩ s HK.out
        go_cut [] (fun wx => wx.heap[w.heap.size]? = some (.cells (midA c s k p) 25) ∧ OneB w.heap.size wc wx)
        case first =>
          have t5 := cell_at (o := 5) E0.out (iatH PF cpu5)
          have t6 := cell_at (o := 6) E0.out (iatH PF cpu6)
          have t31 := cell_at (o := 31) E0.out (iatH PF cpu31)
          have u5 := free_at (o := 5) E0.out
          have u6 := free_at (o := 6) E0.out
          have u31 := free_at (o := 31) E0.out
          cases info
          · go_wp2
            go_meet
            exact ⟨by rw [midA, if_neg (by rw [← HINF.out]; simp)]; exact E0.out, O0.out⟩
          · go_wp2
            go_meet
            exact ⟨by rw [midA, if_pos HINF.out.symm]; exact heap_set (heap_set (heap_set E0.out)), ((O0.out.set).set).set⟩
        case rest =>
          obtain ⟨hm0, ho0⟩ := hcut
          have M0 := Lib.hid hm0; have MO := Lib.hid ho0
          clear hm0 ho0 E0 O0 PF
          have t25 := cell_at (o := 25) M0.out (iatH MF cpu25)
          have t29 := cell_at (o := 29) M0.out (iatH MF cpu29)
          have t34 := cell_at (o := 34) M0.out (iatH MF cpu34)
          have t35 := cell_at (o := 35) M0.out (iatH MF cpu35)
          have t36 := cell_at (o := 36) M0.out (batH MF cpu36)
          have t38 := cell_at (o := 38) M0.out (batH MF cpu38)
          have u25 := free_at (o := 25) M0.out
          have u29 := free_at (o := 29) M0.out
          have u34 := free_at (o := 34) M0.out
          have u35 := free_at (o := 35) M0.out
          have u36 := free_at (o := 36) M0.out
          have u38 := free_at (o := 38) M0.out
          have hhd : iat s (2 + k * 3 + 1) = hdI s k := rfl
          rw [hhd]
          clear hhd
          go_upto_region 20 with fail
          obtain ⟨we, hwe⟩ : ∃ we, we = (((((wc.setCell ⟨w.heap.size, 25, none⟩ (.int .u32 (hdI s k))).setCell ⟨w.heap.size, 29, none⟩ (.int .u32 p)).setCell ⟨w.heap.size, 34, none⟩ (.int .u32 (hdI s k))).setCell ⟨w.heap.size, 35, none⟩ (.int .u32 ((hdI s k + 4) % 4294967296))).setCell ⟨w.heap.size, 36, none⟩ (.bool false)).setCell ⟨w.heap.size, 38, none⟩ (.bool false) := ⟨_, rfl⟩
          have N0 : Hid (we.heap[w.heap.size]? = some (.cells (beginA c s k p) 25)) := Lib.hid (by rw [hwe]; exact heap_set (heap_set (heap_set (heap_set (heap_set (heap_set M0.out))))))
          have NO := MO.out.trans (show OneB w.heap.size wc we by rw [hwe]; exact ((((((OneB.refl _ _).set).set).set).set).set).set)
          have N1 : Hid (we.heap[g16]? = some (.cells #[.slice m1 ms.length m2, .slice d1 d2 d3, .int .u64 base, .slice p1 ps.length p2] 33)) := Lib.hid ((NO.block _ (by omega)).trans HG.out)
          have N3 : Hid (we.heap[w.heap.size + 1 + 1 + 1]? = some (.cells cpuZ 25)) := Lib.hid ((NO.block _ (by omega)).trans D3.out)
          have N4 : Hid (we.heap[w.heap.size + 1 + 1 + 1 + 1]? = some (.cells #[.slice none 0 0, .slice none 0 0, .int .u64 0, .slice none 0 0] 33)) := Lib.hid ((NO.block _ (by omega)).trans D4.out)
          have NB : Hid (Below w.heap.size w we) := Lib.hid (HBWc.out.trans (NO.below (Nat.le_refl _)))
          rw [← hwe]
          clear hwe t25 t29 t34 t35 t36 t38 u25 u29 u34 u35 u36 u38
          have BF : FitC cpuK (beginA c s k p) := begin_fits ⟨HC.out⟩ HS.out HK.out HP32.out
          have HBSZ : Hid ((Try.prog.info? 25).map (·.size) = some (beginA c s k p).size) := Lib.hid (by rw [sizeH BF]; kernel_rfl)
          have HOS : Hid (cpuZ.size = (beginA c s k p).size) := Lib.hid (by rw [sizeH BF, cpuZ_fits.arr_size])
          have HALL : Hid ((beginA c s k p).all (·.oneCell') = true) := oneH BF
          have HGS : Hid ((Try.prog.info? 33).map (·.size) = some (#[.slice m1 ms.length m2, .slice d1 d2 d3, .int .u64 base, .slice p1 ps.length p2] : Array Value).size) := Lib.hid (by show _ = some 4; kernel_rfl)
          have HG1 : Hid ((#[.slice m1 ms.length m2, .slice d1 d2 d3, .int .u64 base, .slice p1 ps.length p2] : Array Value).all (·.oneCell') = true) := Lib.hid (by simp [Value.oneCell'])
          have HBADE : Hid (badB ps 2 p (frameB c s k x).length = false) := Lib.hid (by rw [← HFBE.out]; exact hbad)
          have NC : Hid (CellsV ((we.drew.setRow (w.heap.size + 1 + 1 + 1) (beginA c s k p)).setRow (w.heap.size + 1 + 1 + 1 + 1) #[.slice m1 ms.length m2, .slice d1 d2 d3, .int .u64 base, .slice p1 ps.length p2]) (.slice d1 d2 d3) (putAll cs (base + p) (frameB c s k x))) := Lib.hid (by
            rw [← HFBE.out]
            have g1 := cells_drew (cells_oneB NO HCP.out (fun b off hr hl => row_fit_ne D0.out ⟨HC.out⟩ hr hl))
            have g2 := cells_row_ne (cs := beginA c s k p) (g := w.heap.size + 1 + 1 + 1) (w := we.drew) N3.out g1 (fun b off hr hl => row_fit_ne (w := we.drew) N3.out ⟨cpuZ_fits⟩ hr hl)
            have hN4 : (we.drew.setRow (w.heap.size + 1 + 1 + 1) (beginA c s k p)).heap[w.heap.size + 1 + 1 + 1 + 1]? = some (.cells #[.slice none 0 0, .slice none 0 0, .int .u64 0, .slice none 0 0] 33) := (row_ne _ _ _ _ (by omega)).trans N4.out
            exact cells_row_ne hN4 g2 (fun b off hr hl => row_apart hN4 hr hl))
          obtain ⟨C', hC'⟩ : ∃ C', C' = beginA c s k p := ⟨_, rfl⟩
          rw [← hC'] at N0 HBSZ HOS HALL NC
          have HCE := Lib.hid hC'
          clear hC' BF
          refine wp_region_any (by kernel_rfl) ?_
          change wpAny _ _ _ _ _ _ _ (World.drew _)
          refine wpAny_ready (rs := [0, 1]) (by kernel_rfl) (by simp) ?_
          refine AllReady.cons rfl (fun K hK => ?_) (AllReady.cons rfl (fun K hK => ?_) AllReady.nil)
          · refine (if_pos (by rfl)).mpr ?_
            refine op_load 25 ?_
            refine OLoadGoal.of C' rfl (by first | exact N0.out | exact (row_ne _ _ _ _ (by omega)).trans N0.out) (by kernel_rfl) HBSZ.out ?_
            refine hK _ _ ?_
            clear hK K
            refine wpAny_ready (rs := [1, 2]) (by kernel_rfl) (by simp) ?_
            refine AllReady.cons rfl (fun K hK => ?_) (AllReady.cons rfl (fun K hK => ?_) AllReady.nil)
            · refine (if_pos (by rfl)).mpr ?_
              refine op_load 33 ?_
              refine OLoadGoal.of #[.slice m1 ms.length m2, .slice d1 d2 d3, .int .u64 base, .slice p1 ps.length p2] rfl (by first | exact N1.out | exact (row_ne _ _ _ _ (by omega)).trans N1.out) (by kernel_rfl) HGS.out ?_
              refine hK _ _ ?_
              clear hK K
              refine wpAny_ready (rs := [2]) (by kernel_rfl) (by simp) ?_
              refine AllReady.cons rfl (fun K hK => ?_) AllReady.nil
              refine (if_pos (by rfl)).mpr ?_
              refine wp_store_row 25 _ _ rfl (w.heap.size + 1 + 1 + 1) C' rfl rfl 25 cpuZ (by first | exact N3.out | exact (row_ne _ _ _ _ (by omega)).trans N3.out) HBSZ.out HOS.out HALL.out ?_
              refine hK _ _ ?_
              clear hK K
              refine wpAny_ready (rs := [3]) (by kernel_rfl) (by simp) ?_
              refine AllReady.cons rfl (fun K hK => ?_) AllReady.nil
              refine (if_pos (by rfl)).mpr ?_
              refine wp_store_row 33 _ _ rfl (w.heap.size + 1 + 1 + 1 + 1) #[.slice m1 ms.length m2, .slice d1 d2 d3, .int .u64 base, .slice p1 ps.length p2] rfl rfl 33 #[.slice none 0 0, .slice none 0 0, .int .u64 0, .slice none 0 0] (by first | exact N4.out | exact (row_ne _ _ _ _ (by omega)).trans N4.out) HGS.out rfl HG1.out ?_
              refine hK _ _ ?_
              clear hK K
              (refine wpAny_take (i := 4) (v := ?_) rfl (by kernel_rfl) (by kernel_rfl) (by kernel_rfl) (fun _ _ _ h => h) (Or.inl ⟨by rfl, fun w => ?_⟩) ?_; rotate_left; · (go_simp <;> with_reducible rfl); (try simp only [Act.put, List.getElem_toArray, List.getElem_cons_succ, List.getElem_cons_zero, List.setIfInBounds_toArray, List.set_cons_zero, List.set_cons_succ]))
              refine wpAny_done (by kernel_rfl) ?_ _
              go_wp2
              refine bodyPost_ret (res_cell_cell_tmp rfl rfl ((row_ne _ _ _ _ (by omega)).trans (row_same (w := we.drew) N3.out)) (by kernel_rfl) HBSZ.out rfl ((row_same ((row_ne _ _ _ _ (by omega)).trans N4.out))) (by kernel_rfl) HGS.out) rfl ?_
              exact ⟨row_below (row_below NB.out.drew (by omega)) (by omega), .inr ⟨HBADE.out, d1, d2, d3, by rw [← HCE.out]; rfl, NC.out⟩⟩
            · refine (if_pos (by rfl)).mpr ?_
              refine wp_store_row 25 _ _ rfl (w.heap.size + 1 + 1 + 1) C' rfl rfl 25 cpuZ (by first | exact N3.out | exact (row_ne _ _ _ _ (by omega)).trans N3.out) HBSZ.out HOS.out HALL.out ?_
              refine hK _ _ ?_
              clear hK K
              refine wpAny_ready (rs := [1]) (by kernel_rfl) (by simp) ?_
              refine AllReady.cons rfl (fun K hK => ?_) AllReady.nil
              refine (if_pos (by rfl)).mpr ?_
              refine op_load 33 ?_
              refine OLoadGoal.of #[.slice m1 ms.length m2, .slice d1 d2 d3, .int .u64 base, .slice p1 ps.length p2] rfl (by first | exact N1.out | exact (row_ne _ _ _ _ (by omega)).trans N1.out) (by kernel_rfl) HGS.out ?_
              refine hK _ _ ?_
              clear hK K
              refine wpAny_ready (rs := [3]) (by kernel_rfl) (by simp) ?_
              refine AllReady.cons rfl (fun K hK => ?_) AllReady.nil
              refine (if_pos (by rfl)).mpr ?_
              refine wp_store_row 33 _ _ rfl (w.heap.size + 1 + 1 + 1 + 1) #[.slice m1 ms.length m2, .slice d1 d2 d3, .int .u64 base, .slice p1 ps.length p2] rfl rfl 33 #[.slice none 0 0, .slice none 0 0, .int .u64 0, .slice none 0 0] (by first | exact N4.out | exact (row_ne _ _ _ _ (by omega)).trans N4.out) HGS.out rfl HG1.out ?_
              refine hK _ _ ?_
              clear hK K
              (refine wpAny_take (i := 4) (v := ?_) rfl (by kernel_rfl) (by kernel_rfl) (by kernel_rfl) (fun _ _ _ h => h) (Or.inl ⟨by rfl, fun w => ?_⟩) ?_; rotate_left; · (go_simp <;> with_reducible rfl); (try simp only [Act.put, List.getElem_toArray, List.getElem_cons_succ, List.getElem_cons_zero, List.setIfInBounds_toArray, List.set_cons_zero, List.set_cons_succ]))
              refine wpAny_done (by kernel_rfl) ?_ _
              go_wp2
              refine bodyPost_ret (res_cell_cell_tmp rfl rfl ((row_ne _ _ _ _ (by omega)).trans (row_same (w := we.drew) N3.out)) (by kernel_rfl) HBSZ.out rfl ((row_same ((row_ne _ _ _ _ (by omega)).trans N4.out))) (by kernel_rfl) HGS.out) rfl ?_
              exact ⟨row_below (row_below NB.out.drew (by omega)) (by omega), .inr ⟨HBADE.out, d1, d2, d3, by rw [← HCE.out]; rfl, NC.out⟩⟩
          · refine (if_pos (by rfl)).mpr ?_
            refine op_load 33 ?_
            refine OLoadGoal.of #[.slice m1 ms.length m2, .slice d1 d2 d3, .int .u64 base, .slice p1 ps.length p2] rfl (by first | exact N1.out | exact (row_ne _ _ _ _ (by omega)).trans N1.out) (by kernel_rfl) HGS.out ?_
            refine hK _ _ ?_
            clear hK K
            refine wpAny_ready (rs := [0]) (by kernel_rfl) (by simp) ?_
            refine AllReady.cons rfl (fun K hK => ?_) AllReady.nil
            refine (if_pos (by rfl)).mpr ?_
            refine op_load 25 ?_
            refine OLoadGoal.of C' rfl (by first | exact N0.out | exact (row_ne _ _ _ _ (by omega)).trans N0.out) (by kernel_rfl) HBSZ.out ?_
            refine hK _ _ ?_
            clear hK K
            refine wpAny_ready (rs := [2]) (by kernel_rfl) (by simp) ?_
            refine AllReady.cons rfl (fun K hK => ?_) AllReady.nil
            refine (if_pos (by rfl)).mpr ?_
            refine wp_store_row 25 _ _ rfl (w.heap.size + 1 + 1 + 1) C' rfl rfl 25 cpuZ (by first | exact N3.out | exact (row_ne _ _ _ _ (by omega)).trans N3.out) HBSZ.out HOS.out HALL.out ?_
            refine hK _ _ ?_
            clear hK K
            refine wpAny_ready (rs := [3]) (by kernel_rfl) (by simp) ?_
            refine AllReady.cons rfl (fun K hK => ?_) AllReady.nil
            refine (if_pos (by rfl)).mpr ?_
            refine wp_store_row 33 _ _ rfl (w.heap.size + 1 + 1 + 1 + 1) #[.slice m1 ms.length m2, .slice d1 d2 d3, .int .u64 base, .slice p1 ps.length p2] rfl rfl 33 #[.slice none 0 0, .slice none 0 0, .int .u64 0, .slice none 0 0] (by first | exact N4.out | exact (row_ne _ _ _ _ (by omega)).trans N4.out) HGS.out rfl HG1.out ?_
            refine hK _ _ ?_
            clear hK K
            (refine wpAny_take (i := 4) (v := ?_) rfl (by kernel_rfl) (by kernel_rfl) (by kernel_rfl) (fun _ _ _ h => h) (Or.inl ⟨by rfl, fun w => ?_⟩) ?_; rotate_left; · (go_simp <;> with_reducible rfl); (try simp only [Act.put, List.getElem_toArray, List.getElem_cons_succ, List.getElem_cons_zero, List.setIfInBounds_toArray, List.set_cons_zero, List.set_cons_succ]))
            refine wpAny_done (by kernel_rfl) ?_ _
            go_wp2
            refine bodyPost_ret (res_cell_cell_tmp rfl rfl ((row_ne _ _ _ _ (by omega)).trans (row_same (w := we.drew) N3.out)) (by kernel_rfl) HBSZ.out rfl ((row_same ((row_ne _ _ _ _ (by omega)).trans N4.out))) (by kernel_rfl) HGS.out) rfl ?_
            exact ⟨row_below (row_below NB.out.drew (by omega)) (by omega), .inr ⟨HBADE.out, d1, d2, d3, by rw [← HCE.out]; rfl, NC.out⟩⟩
end Go.Proofs.Ytbaelhaajplbnaa
