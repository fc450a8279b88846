/-
  The row of the law ferrylaw27.FrameWithin: for every input it answers true and leaves its arguments as they were.
-/
import Derived.Test.YtbaelhaajplbnaaFFrW
import Derived.Test.YtbaelhaajplbnaaFOpG
import Derived.Test.YtbaelhaajplbnaaRows
namespace Go.Proofs.Ytbaelhaajplbnaa
open Go Go.ChangeShapes Go.WideShapes Go.ChangeAt Go.RowKit Go.ChangeMaps
set_option linter.unusedVariables false
set_option linter.unusedSimpArgs false
theorem frameWithin_own : ownKnob Try.prog.godebug = none := by kernel_rfl
theorem frameWithin_laid : laidOutB Try.prog = true := by kernel_rfl
set_option maxHeartbeats 2000000 in
set_option maxRecDepth 100000 in
theorem frameWithin_lifted (os : Os) (started : os.Started) (H : Type) (enc : TypeId × Value → H) :
    ReturnsInHanded {} Try.checked os 3 .any (Rows.frameWithinSpec.pre6 enc Try.prog Try.f3 Rows.frameWithinRow.domain false) (Rows.frameWithinSpec.post enc Try.prog Try.f3 false true false false) := by
  refine returnsInHanded_of_change (C := Try.checked) frameWithin_own started (by kernel_rfl) Try.func3
    (ChangeSpec.witness6 (enc := enc) (C := Try.checked) false ⟨#[], #[.agg cpuZ, .agg #[.slice none 0 0, .slice none 0 0, .int .u64 0, .slice none 0 0], .agg sigZ, .int .i64 0, .int .u32 0, .int .u64 0], []⟩ 8 (by kernel_rfl) (by kernel_rfl) (by kernel_rfl) (by kernel_rfl)) ?_
  intro W base args ds gs before hval0 hW hcnd _
  have hval : ∀ (j : Nat) t v, Try.f3.params[j]? = some t → args[j]? = some v → Value.okWide Try.prog W .any base t v := hval0
  have hW' := hW
  obtain ⟨p, q, hA0, hV, rfl, hfz, hnd⟩ := hW
  have hA : DataW.TrodAll enc Try.prog W 0 (fun _ => true) true Try.f3.params.toList args.toList ds p := hA0
  rw [Try.params3] at hA hval
  obtain ⟨v0, vs0, d0, ds0, p0, q0, hargs, rfl, rfl, h0, r0⟩ := trodAll_cons hA
  obtain ⟨v1, vs1, d1, ds1, p1, q1, rfl, rfl, rfl, h1, r1⟩ := trodAll_cons r0
  obtain ⟨v2, vs2, d2, ds2, p2, q2, rfl, rfl, rfl, h2, r2⟩ := trodAll_cons r1
  obtain ⟨v3, vs3, d3, ds3, p3, q3, rfl, rfl, rfl, h3, r3⟩ := trodAll_cons r2
  obtain ⟨v4, vs4, d4, ds4, p4, q4, rfl, rfl, rfl, h4, r4⟩ := trodAll_cons r3
  obtain ⟨v5, vs5, d5, ds5, p5, q5, rfl, rfl, rfl, h5, r5⟩ := trodAll_cons r4
  obtain ⟨rfl, rfl, rfl⟩ := trodAll_nil r5
  obtain rfl : args = #[v0, v1, v2, v3, v4, v5] := by cases args; simp_all
  obtain ⟨rfl, rfl⟩ := trodVars_none hV
  obtain ⟨a0, rfl, f0, _⟩ := open_flat cpu_flat (by kernel_rfl) (hval 0 25 v0 rfl rfl) h0
  obtain ⟨ms, cs, b, gs, m1, m2, c1, c2, g1, g2, rfl, hb, hm, hc, hp, qm, qc, qp⟩ := open_guest (hval 1 33 v1 rfl rfl) h1
  obtain ⟨a2, rfl, f2, _⟩ := open_flat sig_flat (by kernel_rfl) (hval 2 40 v2 rfl rfl) h2
  obtain ⟨a3, rfl, rfl, rfl, w3⟩ := open_int Try.underlying3 (hval 3 3 v3 rfl rfl) h3
  obtain ⟨a4, rfl, rfl, rfl, w4⟩ := open_int Try.underlying22 (hval 4 22 v4 rfl rfl) h4
  obtain ⟨a5, rfl, rfl, rfl, w5⟩ := open_int Try.underlying30 (hval 5 30 v5 rfl rfl) h5
  rw [wf_u32] at w4
  rw [wf_u64] at w5
  obtain ⟨x, rfl⟩ : ∃ x : Nat, a4 = x := ⟨a4.toNat, by omega⟩
  obtain ⟨y, rfl⟩ : ∃ y : Nat, a5 = y := ⟨a5.toNat, by omega⟩
  clear hA0 hval0
  refine (within_walk a0 a2 f0 f2 a3 x y (by omega) (by omega) b ms cs gs (fun c hc => (qc c hc).1) (fun c hc => (qc c hc).2) (fun p hp => (qp p hp).1) hb m1 m2 c1 c2 g1 g2 W hm hc hp).mono fun e W' ⟨he, hbl⟩ => ?_
  subst he
  exact ⟨_, rfl, post_true frameWithin_laid rfl Try.underlying4 (by kernel_rfl) rfl ⟨rfl, rfl, rfl⟩ hW' hbl⟩

theorem frameWithin_holds : Rows.FrameWithinSaid :=
  OpenClaim.holds_of_wide 3 Try.f3 rfl rfl rfl rfl rfl rfl rfl ⟨rfl, rfl, rfl, rfl, rfl⟩ rfl rfl rfl rfl rfl (by kernel_rfl) Try.func3 (by kernel_rfl)
    (of_decide_eq_true (by kernel_rfl)) (by unfold Func.isWrapper; first | (rw [if_pos (by decide +kernel)]; kernel_rfl) | (rw [if_neg (by decide +kernel)]; exact ⟨rfl, rfl⟩))
    (fun os started H enc _ => frameWithin_lifted os started H enc)
#print axioms frameWithin_holds
end Go.Proofs.Ytbaelhaajplbnaa
