/-
  Names: what was written is found (plain); the chapter's examples.
-/
import Derived.Test.YtlifdfkconklfaaDoorFNnE
namespace Go.Proofs.YtlifdfkconklfaaDoor
open Go Go.RowKit
set_option linter.unusedVariables false
set_option linter.unusedSimpArgs false

theorem okW_is {l : List SymD} {n : Nat} (h : okW l n = true) : l.length ≤ 200 ∧ l.all fitS = true ∧ 1 ≤ n ∧ n ≤ 64 := by
  unfold okW at h
  simp only [Bool.and_eq_true, decide_eq_true_eq] at h
  obtain ⟨h1, h2⟩ := fitL_is h.1
  exact ⟨h1, h2, by omega, by omega⟩
theorem symsT_good {l : List SymD} {n : Nat} (h : okW l n = true) : symsT l n = zer16 ++ symsW [0] l := by simp [symsT, h]
theorem strsT_good {l : List SymD} {n : Nat} (h : okW l n = true) : strsT l n = strsW [0] l := by simp [strsT, h]
theorem hashT_good {l : List SymD} {n : Nat} (h : okW l n = true) : hashT l n = wordsL (hashN n (waysOf n l)) := by simp [hashT, h]
theorem symsT_len {l : List SymD} {n : Nat} (h : okW l n = true) : (symsT l n).length = 16 * (l.length + 1) := by
  rw [symsT_good h, List.length_append, symsW_len, show zer16.length = 16 from rfl]; omega
theorem strsT_len {l : List SymD} {n : Nat} (h : okW l n = true) : (strsT l n).length ≤ 1 + 32 * l.length := by
  rw [strsT_good h]
  have := strsW_len l [0] (okW_is h).2.1
  simpa using this
theorem hashT_len {l : List SymD} {n : Nat} (h : okW l n = true) : (hashT l n).length = 4 * (2 + n + l.length + 1) := by
  rw [hashT_good h, wordsL_len, hashN_len, waysOf_len]
theorem read_written {l : List SymD} (hok : AllOk l) {n : Nat} (h : okW l n = true) : readF (symsT l n) (strsT l n) = some l := by
  obtain ⟨h1, h2, _, _⟩ := okW_is h
  have h3 := strsT_len h
  rw [symsT_good h]
  rw [strsT_good h] at h3 ⊢
  exact readF_write l hok h2 h1 (by omega)
theorem find_written {l : List SymD} (hok : AllOk l) {n : Nat} (h : okW l n = true) (name : List UInt8) : findF (symsT l n) (strsT l n) (hashT l n) name = (List.range l.length).find? (goodAt l name) := by
  obtain ⟨h1, h2, h3, h4⟩ := okW_is h
  rw [findF, read_written hok h, hashT_good h]
  exact findL_first l name n (by omega) (by omega) (by omega)
theorem symsAt_row {w : World} {g : Nat} {l : List SymD} {c : Array Value} {T : TypeId} {fr : Nat × Nat} (h : w.heap[g]? = some (.cells c T fr)) (hc : c.toList = symVs l) : SymsAt w g 0 l :=
  ⟨heap_lt h, fun i hi j v hv => cell_at h (by have := symVs_at l i j hi v hv; rw [Nat.zero_add, ← Array.getElem?_toList, hc]; exact this)⟩

def mainS : SymD := ⟨[109, 97, 105, 110], 0, 0, 1, 1⟩
def putsS : SymD := ⟨[112, 117, 116, 115], 0, 0, 1, 1⟩
def awakeL : List SymD := [mainS, putsS]
theorem awake_ok : AllOk awakeL := by
  intro s hs
  rcases List.mem_cons.1 hs with rfl | hs
  · exact ⟨by decide, by decide, by decide, by decide, by decide, by decide, by decide⟩
  · rw [List.mem_singleton.1 hs]
    exact ⟨by decide, by decide, by decide, by decide, by decide, by decide, by decide⟩
theorem awake_okW : okW awakeL (3 : Nat) = true := by kernel_rfl
theorem awake_find : (List.range awakeL.length).find? (goodAt awakeL [112, 117, 116, 115]) = some 1 := by kernel_rfl
theorem awake_hash : hashL [112, 114, 105, 110, 116, 102] = 125371814 := by kernel_rfl

set_option maxHeartbeats 2000000 in
set_option maxRecDepth 100000 in
theorem awake15_any (w : World) : Calls Tryd.prog 8 #[] w fun e w' => e = .returned (.bool true) ∧ Below w.heap.size w w' := by
  have l1 := symsT_len awake_okW; have l2 := strsT_len awake_okW; have l3 := hashT_len awake_okW
  have hl : awakeL.length = 2 := rfl
  rw [hl] at l1 l2 l3
  have HWR : Hid (∀ (w : World) (g : Nat), w.heap[g]? = some (.cells #[.string ⟨#[109, 97, 105, 110]⟩, .int .u32 0, .int .u32 0, .int .i64 1, .int .i64 1, .string ⟨#[112, 117, 116, 115]⟩, .int .u32 0, .int .u32 0, .int .i64 1, .int .i64 1] 39) →
      Calls Tryd.prog 18 #[.slice (some ⟨g, 0, none⟩) 2 2, .int .i64 3] w fun e w' => e = .returned (.agg #[.string (mkB (symsT awakeL (3 : Nat))), .string (mkB (strsT awakeL (3 : Nat))), .string (mkB (hashT awakeL (3 : Nat)))]) ∧ Below w.heap.size w w') :=
    Lib.hid (fun w g h => write_any awakeL awake_ok (by decide) 3 (by decide) (by decide) (some ⟨g, 0, none⟩) 2 w (.inr ⟨g, 0, 2, rfl, symsAt_row h rfl⟩))
  have HFD : Hid (∀ w : World, Calls Tryd.prog 11 #[.agg #[.string (mkB (symsT awakeL (3 : Nat))), .string (mkB (strsT awakeL (3 : Nat))), .string (mkB (hashT awakeL (3 : Nat)))], .string ⟨#[112, 117, 116, 115]⟩] w fun e w' => e = .returned (.tuple #[.int .i64 1, .bool true]) ∧ Below w.heap.size w w') :=
    Lib.hid (fun w => by
      refine (find_any (symsT awakeL (3 : Nat)) (strsT awakeL (3 : Nat)) (hashT awakeL (3 : Nat)) [112, 117, 116, 115] (by omega) (by omega) (by omega) (by decide) w).mono ?_
      rintro e w' ⟨rfl, hb⟩
      rw [find_written awake_ok awake_okW, awake_find]
      exact ⟨rfl, hb⟩)
  have HHP : Hid (∀ w : World, Calls Tryd.prog 14 #[.string ⟨#[112, 114, 105, 110, 116, 102]⟩] w fun e w' => e = .returned (.int .u32 125371814) ∧ Below w.heap.size w w') :=
    Lib.hid (fun w => by
      have h := hash_any [112, 114, 105, 110, 116, 102] (by decide) w
      rw [awake_hash] at h
      exact h)
  obtain ⟨S1, hS1⟩ : ∃ S, S = symsT awakeL (3 : Nat) := ⟨_, rfl⟩
  obtain ⟨S2, hS2⟩ : ∃ S, S = strsT awakeL (3 : Nat) := ⟨_, rfl⟩
  obtain ⟨S3, hS3⟩ : ∃ S, S = hashT awakeL (3 : Nat) := ⟨_, rfl⟩
  rw [← hS1, ← hS2, ← hS3] at HWR HFD
  clear l1 l2 l3 hl hS1 hS2 hS3
  go_enter Tryd.func8, Tryd.ntmps8
  go_upto_region 2 with (go_at_call 18; refine (HWR.out _ _ (heap_new w _ _ rfl)).mono ?_; rintro e w1 ⟨rfl, hb⟩; have HB1 : Hid (Below w.heap.size w w1) := Lib.hid (((Below.refl _ _).alloc (Nat.le_refl _) _).trans (hb.mono (by simp only [heap_len]; omega))); clear hb)
  go_wp2_with (first
    | (go_at_call 11; refine (HFD.out _).mono ?_; rintro e w2 ⟨rfl, hb⟩; have HB2 : Hid (Below w.heap.size w w2) := Lib.hid ((HB1.out.alloc HB1.out.size _).trans (hb.mono (by simp only [heap_len]; have := HB1.out.size; omega))); clear hb)
    | (go_at_call 14; refine (HHP.out _).mono ?_; rintro e w3 ⟨rfl, hb⟩; have HB3 : Hid (Below w.heap.size w w3) := Lib.hid (HB2.out.trans (hb.mono HB2.out.size)); clear hb))
  go_ret
  exact ⟨rfl, HB3.out⟩
end Go.Proofs.YtlifdfkconklfaaDoor
