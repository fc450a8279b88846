/-
  Names: which symbols can be, by the program and by the document (2).
-/
import Derived.Test.YtlifdfkconklfaaDoorFNmE
namespace Go.Proofs.YtlifdfkconklfaaDoor
open Go Go.RowKit
set_option linter.unusedVariables false
set_option linter.unusedSimpArgs false

/-- A value that reads as these symbols. -/
def SymsV (w : World) (v : Value) (l : List SymD) : Prop := (v = .slice none 0 0 ∧ l = []) ∨ ∃ b off cap, v = .slice (some ⟨b, off, none⟩) l.length cap ∧ SymsAt w b off l
theorem SymsV.below {w w' : World} {v : Value} {l : List SymD} (h : SymsV w v l) (hb : Below w.heap.size w w') : SymsV w' v l := by
  rcases h with h | ⟨b, off, cap, h1, h2⟩
  · exact .inl h
  · exact .inr ⟨b, off, cap, h1, h2.below hb⟩
def fitL (l : List SymD) : Bool := decide (l.length ≤ 200) && l.all fitS
theorem index_all (l : List SymD) (hok : AllOk l) (hlen : l.length ≤ 1000000) (v : Value) (w : World) (h : SymsV w v l) :
    Calls Tryd.prog 56 #[v, .func (.func 32) #[] #[]] w fun e w' => e = .returned (.int .i64 (badAt l)) ∧ Below w.heap.size w w' := by
  rcases h with ⟨rfl, rfl⟩ | ⟨b, off, cap, rfl, h⟩
  · have hr : badAt [] = -1 := rfl
    rw [hr]
    go_enter Tryd.func56, Tryd.ntmps56
    go_wp2
    refine wp_loop_rounds 1 ?_
    rw [rounds_succ]
    go_wp2
    go_ret
    exact ⟨rfl, Below.refl _ _⟩
  · exact index_any l hok b off cap hlen w h
theorem contains_any (l : List SymD) (hok : AllOk l) (hlen : l.length ≤ 1000000) (v : Value) (w : World) (h : SymsV w v l) :
    Calls Tryd.prog 31 #[v, .func (.func 32) #[] #[]] w fun e w' => e = .returned (.bool (!l.all fitS)) ∧ Below w.heap.size w w' := by
  have H := Lib.hid h; have OK := Lib.hid hok
  have hb := badAt_all l
  have hd : Hid (decide (0 ≤ badAt l) = !l.all fitS) := Lib.hid (by
    cases hx : l.all fitS
    · rw [Bool.not_false, decide_eq_true_eq]
      have : badAt l ≠ -1 := fun e => by rw [hb.1.1 e] at hx; cases hx
      omega
    · rw [Bool.not_true, decide_eq_false_iff_not, hb.1.2 hx]; decide)
  clear h hok hb
  go_enter Tryd.func31, Tryd.ntmps31
  go_wp2_with (go_at_call 56; (with_reducible refine (index_all l OK.out hlen _ _ H.out).mono ?_); rintro e w' ⟨rfl, hb⟩; have HB := Lib.hid hb; clear hb)
  go_ret
  exact ⟨by simp [hd.out], HB.out⟩
theorem fit_any (l : List SymD) (hok : AllOk l) (hlen : l.length ≤ 1000000) (v : Value) (w : World) (h : SymsV w v l) :
    Calls Tryd.prog 16 #[v] w fun e w' => e = .returned (.bool (fitL l)) ∧ Below w.heap.size w w' := by
  obtain ⟨p, c, hv⟩ : ∃ p c, v = .slice p l.length c := by
    rcases h with ⟨rfl, rfl⟩ | ⟨b, off, cap, rfl, _⟩
    · exact ⟨_, _, rfl⟩
    · exact ⟨_, _, rfl⟩
  subst hv
  have H := Lib.hid h; have OK := Lib.hid hok
  clear h hok
  by_cases h2 : l.length ≤ 200
  · have h2i : (l.length : Int) ≤ 200 := by omega
    have hF : Hid (fitL l = l.all fitS) := Lib.hid (by rw [fitL, decide_eq_true h2]; rfl)
    clear h2
    go_enter Tryd.func16, Tryd.ntmps16
    go_wp2_with (go_at_call 31; (with_reducible refine (contains_any l OK.out hlen _ _ H.out).mono ?_); rintro e w' ⟨rfl, hb⟩; have HB := Lib.hid hb; clear hb)
    go_ret
    exact ⟨by rw [hF.out]; simp, HB.out⟩
  · have h2i : ¬ (l.length : Int) ≤ 200 := by omega
    have h2d : decide ((l.length : Int) ≤ 200) = false := decide_eq_false h2i
    have hF : Hid (fitL l = false) := Lib.hid (by rw [fitL, decide_eq_false h2]; rfl)
    clear h2 h2i
    go_enter Tryd.func16, Tryd.ntmps16
    go_wp2
    go_ret
    exact ⟨by rw [hF.out]; rfl, Below.refl _ _⟩
end Go.Proofs.YtlifdfkconklfaaDoor
