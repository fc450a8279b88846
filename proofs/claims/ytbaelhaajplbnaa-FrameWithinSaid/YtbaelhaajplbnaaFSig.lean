/-
  The signals' functions of the reference: that they fit, and the frame's place.
-/
import Derived.Test.YtbaelhaajplbnaaRows
import Derived.Test.YtbaelhaajplbnaaFB
import Derived.Deep.QuietTactic
import Derived.BigQuiet
import Derived.Deep.WholeRow
import Derived.Outline
import Derived.Lib.Hide
namespace Go.Proofs.Ytbaelhaajplbnaa
open Go Go.RowKit
set_option linter.unusedVariables false
set_option linter.unusedSimpArgs false

def sigK : List CK := [.i .u64, .i .u64] ++ (List.replicate 64 [.i .u32, .i .u32, .i .u64]).flatten ++ [.i .u32, .i .u32, .b]
def cpuK : List CK := List.replicate 32 (.i .u32) ++ [.i .u32, .i .u32, .i .u32, .i .u32, .b, .i .u32, .b]
def actK : List CK := [.i .u32, .i .u32, .i .u64]
def altK : List CK := [.i .u32, .i .u32, .b]
theorem sig_flat : flat Try.prog 5 40 = some sigK := by kernel_rfl
theorem cpu_flat : flat Try.prog 5 25 = some cpuK := by kernel_rfl
theorem act_flat : flat Try.prog 5 35 = some actK := by kernel_rfl
theorem alt_flat : flat Try.prog 5 38 = some altK := by kernel_rfl
def sigZ : Array Value := (sigK.map fun | .b => Value.bool false | .i k => .int k 0 | .s => .string ByteArray.empty).toArray
theorem sig_zero : (Try.prog.info? 40).map (fun i => (i.zero, i.size)) = some (some (.agg sigZ), 197) := by kernel_rfl
theorem sigK_fl : ∀ k, k < 64 → sigK[2 + k * 3]? = some (.i .u32) := by decide +kernel
theorem sigK_hd : ∀ k, k < 64 → sigK[2 + k * 3 + 1]? = some (.i .u32) := by decide +kernel
theorem sigK_ms : ∀ k, k < 64 → sigK[2 + k * 3 + 2]? = some (.i .u64) := by decide +kernel

theorem bit_any (n : Int) (h1 : 1 ≤ n) (h2 : n ≤ 64) (w : World) :
    Calls Try.prog 37 #[.int .i64 n] w fun e w' => e = .returned (.int .u64 (IntKind.u64.wrap (2 ^ (n.toNat - 1)))) ∧ w' = w := by
  go_enter Try.func37, Try.ntmps37
  go_wp2
  go_ret
  exact ⟨rfl, rfl⟩
theorem never_any (w : World) :
    Calls Try.prog 29 #[] w fun e w' => e = .returned (.int .u64 4194560) ∧ w' = w := by
  have hb : bits BinOp.or IntKind.u64 256 4194304 = 4194560 := by decide
  go_enter Try.func29, Try.ntmps29
  go_wp2
  go_ret
  exact ⟨rfl, rfl⟩

/-- Of a mask: nothing in it that is never masked. -/
def fitM (m : Int) : Bool := bits BinOp.and .u64 m 4194560 == 0
def zeroA (cs : Array Value) (k : Nat) : Bool := iat cs (2 + k * 3) == 0 && (iat cs (2 + k * 3 + 1) == 0 && (iat cs (2 + k * 3 + 2) == 0 && true))
def fitAll (cs : Array Value) : Nat → Bool
  | 0 => true
  | n + 1 => fitAll cs n && fitM (iat cs (2 + n * 3 + 2))
def fitAlt (cs : Array Value) : Bool :=
  if bat cs 196 then decide (2048 ≤ iat cs 195) && decide (iat cs 195 ≤ 1048576) else iat cs 194 == 0 && iat cs 195 == 0
def fitSig (cs : Array Value) : Bool := fitM (iat cs 0) && (zeroA cs 8 && zeroA cs 22) && fitAll cs 64 && fitAlt cs

theorem fitAll_lt {cs : Array Value} : ∀ {n : Nat}, fitAll cs n = true → ∀ k, k < n → fitM (iat cs (2 + k * 3 + 2)) = true
  | 0, _, k, hk => by omega
  | n + 1, h, k, hk => by
    simp only [fitAll, Bool.and_eq_true] at h
    by_cases e : k = n
    · subst e; exact h.2
    · exact fitAll_lt h.1 k (by omega)

set_option maxHeartbeats 2000000 in
set_option maxRecDepth 10000 in
theorem fit26_any (cs : Array Value) (h : Fits sigK cs.toList) (w : World) :
    Calls Try.prog 11 #[.agg cs] w fun e w' => e = .returned (.bool (fitSig cs)) ∧ ∃ n, w' = (w.alloc (.cells cs 40)).drewN n := by
  have e0 := (h.iat (i := 0) rfl).1
  have e8 := (h.iat (sigK_fl 8 (by omega))).1
  have e8' := (h.iat (sigK_hd 8 (by omega))).1
  have e8'' := (h.iat (sigK_ms 8 (by omega))).1
  have e22 := (h.iat (sigK_fl 22 (by omega))).1
  have e22' := (h.iat (sigK_hd 22 (by omega))).1
  have e22'' := (h.iat (sigK_ms 22 (by omega))).1
  have e194 := (h.iat (i := 194) rfl).1
  have e195 := (h.iat (i := 195) rfl).1
  have e196 := h.bat (i := 196) rfl
  have ems : ∀ k, k < 64 → cs[2 + k * 3 + 2]? = some (.int .u64 (iat cs (2 + k * 3 + 2))) := fun k hk => (h.iat (sigK_ms k hk)).1
  have hsz : Hid (cs.size = 197) := h.arr_size
  simp only [Nat.reduceMul, Nat.reduceAdd] at e8 e8' e8'' e22 e22' e22''
  have hA : Hid (zeroA cs 8 = true → True) := fun _ => trivial
  have hg : Try.prog.eqGuardType Try.prog.depth 35 = false := by kernel_rfl
  have q8 : ∀ W, (Op.equalIn 10000 35 (.agg #[.int .u32 (iat cs 26), .int .u32 (iat cs 27), .int .u64 (iat cs 28)]) (.agg #[.int .u32 0, .int .u32 0, .int .u64 0])).run Try.prog W = .ok (zeroA cs 8) W := fun W =>
    eq_flat act_flat (by kernel_rfl) (by omega) (xs := [_, _, _]) (ys := [_, _, _]) ⟨⟨_, rfl, (h.iat (sigK_fl 8 (by omega))).2⟩, ⟨_, rfl, (h.iat (sigK_hd 8 (by omega))).2⟩, ⟨_, rfl, (h.iat (sigK_ms 8 (by omega))).2⟩, trivial⟩
      ⟨⟨_, rfl, by decide⟩, ⟨_, rfl, by decide⟩, ⟨_, rfl, by decide⟩, trivial⟩ W
  have q22 : ∀ W, (Op.equalIn 10000 35 (.agg #[.int .u32 (iat cs 68), .int .u32 (iat cs 69), .int .u64 (iat cs 70)]) (.agg #[.int .u32 0, .int .u32 0, .int .u64 0])).run Try.prog W = .ok (zeroA cs 22) W := fun W =>
    eq_flat act_flat (by kernel_rfl) (by omega) (xs := [_, _, _]) (ys := [_, _, _]) ⟨⟨_, rfl, (h.iat (sigK_fl 22 (by omega))).2⟩, ⟨_, rfl, (h.iat (sigK_hd 22 (by omega))).2⟩, ⟨_, rfl, (h.iat (sigK_ms 22 (by omega))).2⟩, trivial⟩
      ⟨⟨_, rfl, by decide⟩, ⟨_, rfl, by decide⟩, ⟨_, rfl, by decide⟩, trivial⟩ W
  have HW : Hid ((Lit.int .u32 (iat cs 194)).wf = true ∧ (Lit.int .u32 (iat cs 195)).wf = true) := Lib.hid ⟨(h.iat (i := 194) rfl).2, (h.iat (i := 195) rfl).2⟩
  clear h hA
  go_enter Try.func11, Try.ntmps11
  cases c1 : fitM (iat cs 0)
  · have c1' : (bits BinOp.and IntKind.u64 (iat cs 0) 4194560 != 0) = true := by simpa [fitM] using c1
    have HC := Lib.hid c1; clear c1
    go_wp2
    go_quiet ((go_at_call 29; exact Calls.quiet_of_same (never_any _)))
    go_wp2
    go_ret
    exact ⟨by rw [fitSig, HC.out]; rfl, _, rfl⟩
  · have c1' : (bits BinOp.and IntKind.u64 (iat cs 0) 4194560 != 0) = false := by simpa [fitM] using c1
    have HC := Lib.hid c1; clear c1
    cases c2 : zeroA cs 8
    · rw [c2] at q8
      have HC2 := Lib.hid c2; clear c2
      go_wp2
      go_quiet ((go_at_call 29; exact Calls.quiet_of_same (never_any _)))
      go_wp2
      go_ret
      exact ⟨by rw [fitSig, HC.out, HC2.out]; rfl, _, rfl⟩
    · rw [c2] at q8
      have HC2 := Lib.hid c2; clear c2
      cases c3 : zeroA cs 22
      · rw [c3] at q22
        have HC3 := Lib.hid c3; clear c3
        go_wp2
        go_quiet ((go_at_call 29; exact Calls.quiet_of_same (never_any _)))
        go_wp2
        go_ret
        exact ⟨by rw [fitSig, HC.out, HC2.out, HC3.out]; rfl, _, rfl⟩
      · rw [c3] at q22
        have HC3 := Lib.hid c3; clear c3
        go_wp2
        go_quiet ((go_at_call 29; exact Calls.quiet_of_same (never_any _)))
        go_wp2
        clear q8 q22 hg e8 e8' e8'' e22 e22' e22'' c1' e0
        go_loopw [3] (fun i wr => ∃ k : Nat, k ≤ 64 ∧ i = .int .i64 k ∧ Hid (fitAll cs k = true) ∧ ∃ m, wr = (w.alloc (.cells cs 40)).drewN m) (fun i _ => 64 - (intOf i).toNat)
        case atStart => exact ⟨0, by omega, rfl, Lib.hid rfl, _, rfl⟩
        case round =>
          obtain ⟨k, hk, rfl, HK, m, hwr⟩ := hrel
          have HWR := Lib.hid hwr
          by_cases hlt : k < 64
          · have em : wr.cell? ⟨w.heap.size, 2 + k * 3 + 2, none⟩ = some (.int .u64 (iat cs (2 + k * 3 + 2))) := by rw [hwr]; have := ems k hlt; go_simp
            clear ems hwr e194 e195 e196
            cases c4 : fitM (iat cs (2 + k * 3 + 2))
            · have c4' : (bits BinOp.and IntKind.u64 (iat cs (2 + k * 3 + 2)) 4194560 != 0) = true := by simpa [fitM] using c4
              have HC4 := Lib.hid c4; clear c4
              go_wp2
              go_quiet ((go_at_call 29; exact Calls.quiet_of_same (never_any _)))
              go_wp2
              go_ret
              refine ⟨?_, _, by rw [HWR.out]; exact World.drewN_drewN _ _ _⟩
              have : fitAll cs 64 = false := by
                cases hf : fitAll cs 64
                · rfl
                · have := fitAll_lt hf k hlt
                  rw [HC4.out] at this; cases this
              rw [fitSig, HC.out, HC2.out, HC3.out, this]; rfl
            · have c4' : (bits BinOp.and IntKind.u64 (iat cs (2 + k * 3 + 2)) 4194560 != 0) = false := by simpa [fitM] using c4
              have HC4 := Lib.hid c4; clear c4
              go_wp2
              go_quiet ((go_at_call 29; exact Calls.quiet_of_same (never_any _)))
              go_wp2
              go_roundw
              case rel => exact ⟨k + 1, by omega, by go_num, Lib.hid (by rw [fitAll, HK.out, HC4.out]; rfl), _, by rw [HWR.out]; exact World.drewN_drewN _ _ _⟩
              case measure => simp [intOf]; omega
          · obtain rfl : k = 64 := by omega
            subst hwr
            clear ems hlt
            have hg : Try.prog.eqGuardType Try.prog.depth 38 = false := by kernel_rfl
            cases c5 : bat cs 196
            · rw [c5] at e196
              have qa : ∀ W, (Op.equalIn 10000 38 (.agg #[.int .u32 (iat cs 194), .int .u32 (iat cs 195), .bool false]) (.agg #[.int .u32 0, .int .u32 0, .bool false])).run Try.prog W = .ok (iat cs 194 == 0 && iat cs 195 == 0) W := fun W => by
                have := eq_flat alt_flat (by kernel_rfl) (by omega) (xs := [.int .u32 (iat cs 194), .int .u32 (iat cs 195), .bool false]) (ys := [_, _, _]) ⟨⟨_, rfl, HW.out.1⟩, ⟨_, rfl, HW.out.2⟩, ⟨_, rfl⟩, trivial⟩
                  ⟨⟨0, rfl, by decide⟩, ⟨0, rfl, by decide⟩, ⟨false, rfl⟩, trivial⟩ W
                rw [this]
                simp [cellsEq, cellEq]
              have HC5 := Lib.hid c5; clear c5
              go_wp2
              go_ret
              exact ⟨by rw [fitSig, HC.out, HC2.out, HC3.out, HK.out, fitAlt, HC5.out]; rfl, _, rfl⟩
            · rw [c5] at e196
              have HC5 := Lib.hid c5; clear c5
              by_cases c6 : 2048 ≤ iat cs 195
              · have c6' : decide (2048 ≤ iat cs 195) = true := decide_eq_true c6
                clear c6
                go_wp2
                go_ret
                exact ⟨by rw [fitSig, HC.out, HC2.out, HC3.out, HK.out, fitAlt, HC5.out, c6']; simp, _, rfl⟩
              · have c6' : decide (2048 ≤ iat cs 195) = false := decide_eq_false c6
                clear c6
                go_wp2
                go_ret
                exact ⟨by rw [fitSig, HC.out, HC2.out, HC3.out, HK.out, fitAlt, HC5.out, c6']; simp, _, rfl⟩
end Go.Proofs.Ytbaelhaajplbnaa
