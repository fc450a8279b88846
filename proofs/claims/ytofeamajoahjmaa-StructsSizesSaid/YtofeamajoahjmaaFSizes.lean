/-
  ferrylaw25.StructsSizes: the walk.
-/
import Derived.Test.YtofeamajoahjmaaFDents
import Derived.Test.YtofeamajoahjmaaFAwake25
namespace Go.Proofs.Ytofeamajoahjmaa
open Go Go.RowKit
set_option linter.unusedVariables false
set_option linter.unusedSimpArgs false

theorem leL_leN : ∀ (b : List UInt8), leL b.length (leN b) = b
  | [] => rfl
  | x :: b => by
    have ih := leL_leN b
    have h : leN (x :: b) = leN b * 256 + x.toNat := by rw [leN, List.reverse_cons, beN_snoc]; rfl
    have hx : x.toNat < 256 := UInt8.toNat_lt x
    have h1 : (leN b * 256 + x.toNat) % 256 = x.toNat := by omega
    have h2 : (leN b * 256 + x.toNat) / 256 = leN b := by omega
    rw [List.length_cons, leL, h, h1, h2, ih]
    congr 1
    exact UInt8.ofNat_toNat ..
theorem beB_leN8 (b : List UInt8) (h : b.length = 8) : beB (leN b) 8 = b.reverse := by
  have e : beB (leN b) 8 = (leL 8 (leN b)).reverse := by rw [beB, putBeF, if_pos (by omega)]; rfl
  rw [e]
  conv => lhs; rw [← h, leL_leN b]
theorem beB_len4 (v : Nat) : (beB v 4).length = 4 := by
  rw [beB, putBeF, if_pos (by omega)]; simp [leL_length]
theorem wordsB_len4 : ∀ vs : List Nat, (wordsB 4 vs).length = 4 * vs.length
  | [] => rfl
  | v :: vs => by
    have ih := wordsB_len4 vs
    simp only [wordsB, List.flatMap_cons, List.length_append, List.length_cons, beB_len4] at ih ⊢
    omega
theorem wordsB_len8 : ∀ vs : List Nat, (wordsB 8 vs).length = 8 * vs.length
  | [] => rfl
  | v :: vs => by
    have ih := wordsB_len8 vs
    simp only [wordsB, List.flatMap_cons, List.length_append, List.length_cons, beB_lenE] at ih ⊢
    omega
theorem statG_len (l : List UInt8) : (statG l).length = 104 := by
  simp only [statG, List.length_append, wordsB_len4, wordsB_len8, List.length_cons, List.length_nil]
theorem statG_at (l : List UInt8) (h : l.length = 144) (i : Nat) (hi : i < 8) : (statG l)[56 + i]? = l[55 - i]? := by
  have e : statG l = (wordsB 4 [leAt l 0 8, 0, 0, 0] ++ wordsB 8 [leAt l 8 8] ++ wordsB 4 [leAt l 24 4, leAt l 16 8, 0, 0, 0, 0, 0, 0]) ++ (wordsB 8 [leAt l 48 8] ++ (wordsB 4 [leAt l 72 8, 0, leAt l 88 8, 0, leAt l 104 8, 0, leAt l 56 8, 0] ++ wordsB 8 [leAt l 64 8])) := by
    simp only [statG, List.append_assoc]
  have h56 : (wordsB 4 [leAt l 0 8, 0, 0, 0] ++ wordsB 8 [leAt l 8 8] ++ wordsB 4 [leAt l 24 4, leAt l 16 8, 0, 0, 0, 0, 0, 0]).length = 56 := by
    simp only [List.length_append, wordsB_len4, wordsB_len8, List.length_cons, List.length_nil]
  have h8 : wordsB 8 [leAt l 48 8] = ((l.drop 48).take 8).reverse := by
    simp only [wordsB, List.flatMap_cons, List.flatMap_nil, List.append_nil]
    exact beB_leN8 _ (by rw [List.length_take, List.length_drop]; omega)
  have hl : ((l.drop 48).take 8).length = 8 := by rw [List.length_take, List.length_drop]; omega
  rw [e, List.getElem?_append_right (by omega), h56, h8, List.getElem?_append_left (by rw [List.length_reverse, hl]; omega)]
  rw [List.getElem?_reverse (by omega), hl, List.getElem?_take, if_pos (by omega), List.getElem?_drop]
  congr 1
  omega

theorem dentsG_len : ∀ (k : Nat) (r out : List UInt8), dentsG k r = some out → out.length = r.length
  | 0, r, out, h => by
    simp only [dentsG] at h
    split at h
    · rename_i e; cases h; rw [e]
    · cases h
  | k + 1, r, out, h => by
    rw [dentsG] at h
    split at h
    · rename_i e; cases h; rw [e]
    · split at h
      · rename_i hok
        obtain ⟨o, ho, rfl⟩ := Option.map_eq_some_iff.1 h
        have := dentsG_len k _ o ho
        obtain ⟨h1, h2, _, h3, _⟩ := dentOk_is hok
        rw [List.length_append, dentB_len r (by omega) h3, this, List.length_drop]; omega
      · cases h

/-- What stands behind a place in what came out. -/
def DentAt (d out : List UInt8) (i : Nat) : Prop := i ≤ d.length ∧ ∃ k, dentsG k (d.drop i) = some (out.drop i)
theorem dentAt_zero {d out : List UInt8} (h : dentsF d = some out) : DentAt d out 0 := ⟨Nat.zero_le _, d.length, h⟩
theorem beB2_get (n : Nat) (h : n < 65536) : ∃ a b : UInt8, beB n 2 = [a, b] ∧ a.toNat * 256 + b.toNat = n := by
  refine ⟨UInt8.ofNat (n / 256 % 256), UInt8.ofNat (n % 256), ?_, ?_⟩
  · rw [beB, putBeF, if_pos (by omega)]; rfl
  · rw [toNat_ofNat8 _ (Nat.mod_lt _ (by decide)), toNat_ofNat8 _ (Nat.mod_lt _ (by decide))]; omega
theorem dentAt_step {d out : List UInt8} {i : Nat} (h : DentAt d out i) (hl : out.length = d.length) (h24 : i + 24 ≤ d.length) :
    ∃ (a b : UInt8) (n : Nat), out[i + 16]? = some a ∧ out[i + 17]? = some b ∧ a.toNat * 256 + b.toNat = n ∧ 24 ≤ n ∧ n < 65536 ∧ i + n ≤ d.length ∧ (out.drop (i + 18)).take (n - 18) = (d.drop (i + 18)).take (n - 18) ∧ DentAt d out (i + n) := by
  obtain ⟨hi, k, hk⟩ := h
  obtain ⟨r, hr⟩ : ∃ r, r = d.drop i := ⟨_, rfl⟩
  rw [← hr] at hk
  have hrl : r.length = d.length - i := by rw [hr, List.length_drop]
  have hne : r ≠ [] := fun e => by rw [e] at hrl; simp at hrl; omega
  cases k with
  | zero => rw [dentsG, if_neg hne] at hk; cases hk
  | succ k =>
    rw [dentsG, if_neg hne] at hk
    split at hk
    · rename_i hok
      obtain ⟨o, ho, e⟩ := Option.map_eq_some_iff.1 hk
      obtain ⟨h1, h2, _, h3, _⟩ := dentOk_is hok
      obtain ⟨a, b, hab, hn⟩ := beB2_get (dentN r) (dentN_lt r)
      have hw : (wordsB 8 [leAt r 0 8, leAt r 8 8]).length = 16 := by rw [wordsB_len8]; rfl
      have e2 : out.drop i = wordsB 8 [leAt r 0 8, leAt r 8 8] ++ ([a, b] ++ ((r.drop 18).take (dentN r - 18) ++ o)) := by
        rw [← e, dentB, wordsB, wordsB]
        simp only [List.flatMap_cons, List.flatMap_nil, List.append_nil, hab, List.append_assoc]
      have hbl := dentB_len r (by omega) h3
      refine ⟨a, b, dentN r, ?_, ?_, hn, h2, dentN_lt r, by omega, ?_, by omega, k, ?_⟩
      · have := congrArg (fun l : List UInt8 => l[16]?) e2
        simp only [List.getElem?_drop] at this
        rw [this, List.getElem?_append_right (by omega), hw]; rfl
      · have := congrArg (fun l : List UInt8 => l[17]?) e2
        simp only [List.getElem?_drop] at this
        rw [this, List.getElem?_append_right (by omega), hw]; rfl
      · have h5 : out.drop (i + 18) = (r.drop 18).take (dentN r - 18) ++ o := by
          rw [← List.drop_drop, e2, show (18 : Nat) = 16 + 2 from rfl, ← List.drop_drop, List.drop_left' hw]; rfl
        have h6 : d.drop (i + 18) = r.drop 18 := by rw [hr, List.drop_drop]
        rw [h5, h6, List.take_left' (by rw [List.length_take, List.length_drop]; omega)]
      · have h7 : out.drop (i + dentN r) = o := by
          rw [← List.drop_drop, ← e, List.drop_left' hbl]
        have h8 : d.drop (i + dentN r) = r.drop (dentN r) := by rw [hr, List.drop_drop]
        rw [h7, h8]; exact ho
    · cases hk

theorem or_lt (a b : Nat) (hb : b < 256) : (a * 256) ||| b = a * 256 + b := by
  have h := Nat.shiftLeft_add_eq_or_of_lt (i := 8) (b := b) (by omega) a
  rw [Nat.shiftLeft_eq] at h
  exact h.symm
theorem i64_or_nat (a b : Nat) (ha : a < 4294967296) (hb : b < 4294967296) : bits .or .i64 (a : Int) (b : Int) = ((a ||| b : Nat) : Int) := by
  have h1 : (BitVec.ofInt 64 (a : Int)).toNat = a := by simp; omega
  have h2 : (BitVec.ofInt 64 (b : Int)).toNat = b := by simp; omega
  have h3 : a ||| b < 4294967296 := Nat.or_lt_two_pow (n := 32) ha hb
  have h4 : (BitVec.ofInt 64 (a : Int) ||| BitVec.ofInt 64 (b : Int)).toNat = a ||| b := by rw [BitVec.toNat_or, h1, h2]
  show IntKind.wrap .i64 (((BitVec.ofInt 64 (a : Int) ||| BitVec.ofInt 64 (b : Int)).toNat : Nat) : Int) = _
  rw [h4]
  simp [IntKind.wrap, IntKind.signed, IntKind.bits]
  omega
theorem or_bytes (a b : UInt8) : bits BinOp.or IntKind.i64 (wrap64 (wrap64 (a.toNat : Int) * 256)) (wrap64 (b.toNat : Int)) = ((a.toNat * 256 + b.toNat : Nat) : Int) := by
  have ha : a.toNat < 256 := UInt8.toNat_lt a
  have hb : b.toNat < 256 := UInt8.toNat_lt b
  have e1 : wrap64 (wrap64 (a.toNat : Int) * 256) = ((a.toNat * 256 : Nat) : Int) := by unfold wrap64; omega
  have e2 : wrap64 (b.toNat : Int) = (b.toNat : Int) := by unfold wrap64; omega
  rw [e1, e2, i64_or_nat _ _ (by omega) (by omega), or_lt _ _ hb]

set_option maxHeartbeats 4000000 in
set_option maxRecDepth 100000 in
theorem sizes_walk (a d : List UInt8) (ha : a.length ≤ 140737488351232) (hd : d.length ≤ 140737488351232) (w : World) (hsh : Sh w) :
    Calls Try.prog 5 #[.string (mkB a), .string (mkB d)] w fun e w' => e = .returned (.bool true) ∧ Below w.heap.size w w' := by
  have hsa := mkB_size a
  have hsd := mkB_size d
  have HA := Lib.hid ha; have HD := Lib.hid hd; have HSH := Lib.hid hsh
  clear ha hd hsh
  by_cases hd5 : d.length ≤ 5000
  · have hd5' : ¬ (5000 : Int) < (d.length : Int) := by omega
    have HD5 := Lib.hid hd5
    clear hd5
    go_enter Try.func5, Try.ntmps5
    go_upto_region 4 with (go_at_call 16; refine (stat_any a HA.out _).mono ?_; rintro e w1 ⟨rfl, hb1⟩)
    have HB1 := Lib.hid hb1
    clear hb1 hd5'
    by_cases h144 : a.length = 144
    · have hO : statOk a = true := decide_eq_true h144
      have hG : statF a = statG a := by rw [statF, hO]; rfl
      obtain ⟨G, eG⟩ : ∃ G, G = statG a := ⟨_, rfl⟩
      rw [hO, hG, ← eG]
      have hGl : (mkB G).size = 104 := by rw [mkB_size, eG, statG_len]
      have ha144 : (a.length : Int) = 144 := by omega
      have HG : Hid (∀ i, i < 8 → G[56 + i]? = a[55 - i]?) := Lib.hid (by rw [eG]; exact statG_at a h144)
      have H144 := Lib.hid h144
      clear hO hG eG h144
      go_upto_region 7 with fail
      go_loopw [7] (fun i wr => ∃ k : Nat, k ≤ 8 ∧ i = .int .i64 k ∧ Hid (Below w.heap.size w wr)) (fun i _ => 8 - (intOf i).toNat)
      case atStart => exact ⟨0, by omega, rfl, HB1⟩
      case round =>
        obtain ⟨k, hk, rfl, H1⟩ := hrel
        by_cases hlt : k < 8
        · have hlti : (k : Int) < 8 := by omega
          obtain ⟨p, ep⟩ : ∃ p : Nat, (56 : Int) + (k : Int) = (p : Int) := ⟨56 + k, by omega⟩
          obtain ⟨q, eq⟩ : ∃ q : Nat, (55 : Int) - (k : Int) = (q : Int) := ⟨55 - k, by omega⟩
          have hp : p < (mkB G).size := by omega
          have hsa' : (mkB a).size = 144 := by omega
          have hq : q < (mkB a).size := by omega
          have hpi : (p : Int) < 104 := by omega
          have hqi : (q : Int) < 144 := by omega
          obtain ⟨x, hx⟩ : ∃ x, x = (mkB a)[q]'hq := ⟨_, rfl⟩
          have hx1 : (mkB a)[q]'hq = x := hx.symm
          have hx2 : (mkB G)[p]'hp = x := by
            have h := HG.out k hlt
            have e1 : 56 + k = p := by omega
            have e2 : 55 - k = q := by omega
            rw [e1, e2] at h
            rw [hx]
            have l1 : p < G.length := by rwa [mkB_size] at hp
            have l2 : q < a.length := by rwa [mkB_size] at hq
            rw [List.getElem?_eq_getElem l1, List.getElem?_eq_getElem l2] at h
            exact Option.some.inj h
          clear hx
          go_upto_region 9 with fail
          go_region
          go_wp2
          go_roundw
          case rel => exact ⟨k + 1, by omega, by go_num, Lib.hid H1.out.drew⟩
          case measure => simp [intOf]; omega
        · have h8 : ¬ (k : Int) < 8 := by omega
          clear hGl ha144 HG H144
          go_upto_region 12 with (go_at_call 17; refine (dents_any d HD5.out _ (HSH.out.below H1.out)).mono ?_; rintro e w2 ⟨rfl, hb2⟩)
          have HB2 : Hid (Below w.heap.size w w2) := Lib.hid (H1.out.trans (hb2.mono H1.out.size))
          clear hb2
          cases ho : dentsF d with
          | none =>
            have he : (mkB []).toList.isEmpty = true := by rw [bytes_toList]; rfl
            simp only [Option.getD_none, Option.isSome_none]
            go_wp2_with (go_at_call 15; refine (awake25_any _).mono ?_; rintro e w3 ⟨rfl, hb3⟩)
            go_ret
            exact ⟨rfl, below_then HB2.out hb3⟩
          | some out =>
            simp only [Option.getD_some, Option.isSome_some]
            have hlen : out.length = d.length := dentsG_len _ _ _ ho
            have HLEN := Lib.hid hlen
            have hso : (mkB out).size = d.length := by rw [mkB_size, hlen]
            have HO : Hid (DentAt d out 0) := Lib.hid (dentAt_zero ho)
            clear ho hlen
            go_upto_region 15 with fail
            go_loopw [10, 11] (fun i n wr => ∃ k : Nat, i = .int .i64 k ∧ Hid (DentAt d out k) ∧ Hid (Below w.heap.size w wr)) (fun i _ _ => d.length - (intOf i).toNat)
            case atStart => exact ⟨0, rfl, HO, HB2⟩
            case round =>
              obtain ⟨k, rfl, D1, D2⟩ := hrel
              have kb : k ≤ d.length := D1.out.1
              have d5 : d.length ≤ 5000 := HD5.out
              have kbi : (k : Int) ≤ 5000 := by omega
              obtain ⟨m24, e24⟩ : ∃ p : Nat, (k : Int) + 24 = (p : Int) := ⟨k + 24, by omega⟩
              by_cases h24 : k + 24 ≤ d.length
              · have c24 : (m24 : Int) ≤ (d.length : Int) := by omega
                obtain ⟨a1, b1, n, ha1, hb1, hn, h1, h2, h3, h4, h5⟩ := dentAt_step D1.out HLEN.out h24
                obtain ⟨p, ep⟩ : ∃ p : Nat, (k : Int) + 16 = (p : Int) := ⟨k + 16, by omega⟩
                obtain ⟨q, eq⟩ : ∃ q : Nat, (k : Int) + 17 = (q : Int) := ⟨k + 17, by omega⟩
                have hp : p < (mkB out).size := by omega
                have hq : q < (mkB out).size := by omega
                have hpi : (p : Int) < (d.length : Int) := by omega
                have hqi : (q : Int) < (d.length : Int) := by omega
                have hx1 : (mkB out)[p]'hp = a1 := by
                  have e1 : k + 16 = p := by omega
                  rw [e1] at ha1
                  have l1 : p < out.length := by rwa [mkB_size] at hp
                  rw [List.getElem?_eq_getElem l1] at ha1
                  exact Option.some.inj ha1
                have hx2 : (mkB out)[q]'hq = b1 := by
                  have e1 : k + 17 = q := by omega
                  rw [e1] at hb1
                  have l1 : q < out.length := by rwa [mkB_size] at hq
                  rw [List.getElem?_eq_getElem l1] at hb1
                  exact Option.some.inj hb1
                have Hn : Hid (a1.toNat * 256 + b1.toNat = n) := Lib.hid hn
                have N1 := Lib.hid h1; have N2 := Lib.hid h2; have N3 := Lib.hid h3; have N4 := Lib.hid h4; have N5 := Lib.hid h5
                clear ha1 hb1 hn h1 h2 h3 h4 h5
                go_upto_region 16 with fail
                go_region
                go_upto_region 17 with fail
                have hor : bits BinOp.or IntKind.i64 (wrap64 (wrap64 (a1.toNat : Int) * 256)) (wrap64 (b1.toNat : Int)) = (n : Nat) := by rw [← Hn.out]; exact or_bytes a1 b1
                rw [hor]
                obtain ⟨m, em⟩ : ∃ m : Nat, (k : Int) + (n : Int) = (m : Int) := ⟨k + n, by omega⟩
                obtain ⟨j, ej⟩ : ∃ j : Nat, (k : Int) + 18 = (j : Int) := ⟨k + 18, by omega⟩
                have n24 : ¬ (n : Int) < 24 := by have := N1.out; omega
                have cm : (m : Int) ≤ (d.length : Int) := by have := N3.out; omega
                have cm2 : ¬ (d.length : Int) < (m : Int) := by omega
                have jm : (j : Int) ≤ (m : Int) := by have := N1.out; omega
                have n16 : (n : Int) ≤ 65535 := by have := N2.out; omega
                have x1 : (mkB out).extract j m = mkB ((d.drop (k + 18)).take (n - 18)) := by
                  rw [mkB_extract, ← N4.out]
                  have e1 : j = k + 18 := by omega
                  have e2 : m - j = n - 18 := by omega
                  rw [e2, e1]
                have x2 : (mkB d).extract j m = mkB ((d.drop (k + 18)).take (n - 18)) := by
                  rw [mkB_extract]
                  have e1 : j = k + 18 := by omega
                  have e2 : m - j = n - 18 := by omega
                  rw [e2, e1]
                clear hor hx1 hx2 hpi hqi hp hq
                go_region
                go_wp2
                go_roundw
                case rel => exact ⟨m, rfl, Lib.hid (by have e1 : m = k + n := by omega
                                                       rw [e1]; exact N5.out), Lib.hid D2.out.drew.drew⟩
                case measure => have := N1.out; simp [intOf]; omega
              · have c24 : ¬ (m24 : Int) ≤ (d.length : Int) := by omega
                go_wp2_with (go_at_call 15; refine (awake25_any _).mono ?_; rintro e w3 ⟨rfl, hb3⟩)
                go_ret
                exact ⟨rfl, below_then D2.out hb3⟩
    · have hO : statOk a = false := decide_eq_false h144
      have hG : statF a = [] := by rw [statF, hO]; rfl
      rw [hO, hG]
      have ha144 : ((a.length : Int) == 144) = false := by rw [beq_eq_false_iff_ne]; omega
      clear hO hG h144
      go_upto_region 7 with fail
      clear ha144
      go_loopw [7] (fun i wr => i = .int .i64 0 ∧ Hid (Below w.heap.size w wr)) (fun _ _ => 0)
      case atStart => exact ⟨rfl, HB1⟩
      case round =>
        obtain ⟨rfl, H1⟩ := hrel
        go_upto_region 12 with (go_at_call 17; refine (dents_any d HD5.out _ (HSH.out.below H1.out)).mono ?_; rintro e w2 ⟨rfl, hb2⟩)
        have HB2 : Hid (Below w.heap.size w w2) := Lib.hid (H1.out.trans (hb2.mono H1.out.size))
        clear hb2
        cases ho : dentsF d with
        | none =>
          have he : (mkB []).toList.isEmpty = true := by rw [bytes_toList]; rfl
          simp only [Option.getD_none, Option.isSome_none]
          go_wp2_with (go_at_call 15; refine (awake25_any _).mono ?_; rintro e w3 ⟨rfl, hb3⟩)
          go_ret
          exact ⟨rfl, below_then HB2.out hb3⟩
        | some out =>
          simp only [Option.getD_some, Option.isSome_some]
          have hlen : out.length = d.length := dentsG_len _ _ _ ho
          have HLEN := Lib.hid hlen
          have hso : (mkB out).size = d.length := by rw [mkB_size, hlen]
          have HO : Hid (DentAt d out 0) := Lib.hid (dentAt_zero ho)
          clear ho hlen
          go_upto_region 15 with fail
          go_loopw [10, 11] (fun i n wr => ∃ k : Nat, i = .int .i64 k ∧ Hid (DentAt d out k) ∧ Hid (Below w.heap.size w wr)) (fun i _ _ => d.length - (intOf i).toNat)
          case atStart => exact ⟨0, rfl, HO, HB2⟩
          case round =>
            obtain ⟨k, rfl, D1, D2⟩ := hrel
            have kb : k ≤ d.length := D1.out.1
            have d5 : d.length ≤ 5000 := HD5.out
            have kbi : (k : Int) ≤ 5000 := by omega
            obtain ⟨m24, e24⟩ : ∃ p : Nat, (k : Int) + 24 = (p : Int) := ⟨k + 24, by omega⟩
            by_cases h24 : k + 24 ≤ d.length
            · have c24 : (m24 : Int) ≤ (d.length : Int) := by omega
              obtain ⟨a1, b1, n, ha1, hb1, hn, h1, h2, h3, h4, h5⟩ := dentAt_step D1.out HLEN.out h24
              obtain ⟨p, ep⟩ : ∃ p : Nat, (k : Int) + 16 = (p : Int) := ⟨k + 16, by omega⟩
              obtain ⟨q, eq⟩ : ∃ q : Nat, (k : Int) + 17 = (q : Int) := ⟨k + 17, by omega⟩
              have hp : p < (mkB out).size := by omega
              have hq : q < (mkB out).size := by omega
              have hpi : (p : Int) < (d.length : Int) := by omega
              have hqi : (q : Int) < (d.length : Int) := by omega
              have hx1 : (mkB out)[p]'hp = a1 := by
                have e1 : k + 16 = p := by omega
                rw [e1] at ha1
                have l1 : p < out.length := by rwa [mkB_size] at hp
                rw [List.getElem?_eq_getElem l1] at ha1
                exact Option.some.inj ha1
              have hx2 : (mkB out)[q]'hq = b1 := by
                have e1 : k + 17 = q := by omega
                rw [e1] at hb1
                have l1 : q < out.length := by rwa [mkB_size] at hq
                rw [List.getElem?_eq_getElem l1] at hb1
                exact Option.some.inj hb1
              have Hn : Hid (a1.toNat * 256 + b1.toNat = n) := Lib.hid hn
              have N1 := Lib.hid h1; have N2 := Lib.hid h2; have N3 := Lib.hid h3; have N4 := Lib.hid h4; have N5 := Lib.hid h5
              clear ha1 hb1 hn h1 h2 h3 h4 h5
              go_upto_region 16 with fail
              go_region
              go_upto_region 17 with fail
              have hor : bits BinOp.or IntKind.i64 (wrap64 (wrap64 (a1.toNat : Int) * 256)) (wrap64 (b1.toNat : Int)) = (n : Nat) := by rw [← Hn.out]; exact or_bytes a1 b1
              rw [hor]
              obtain ⟨m, em⟩ : ∃ m : Nat, (k : Int) + (n : Int) = (m : Int) := ⟨k + n, by omega⟩
              obtain ⟨j, ej⟩ : ∃ j : Nat, (k : Int) + 18 = (j : Int) := ⟨k + 18, by omega⟩
              have n24 : ¬ (n : Int) < 24 := by have := N1.out; omega
              have cm : (m : Int) ≤ (d.length : Int) := by have := N3.out; omega
              have cm2 : ¬ (d.length : Int) < (m : Int) := by omega
              have jm : (j : Int) ≤ (m : Int) := by have := N1.out; omega
              have n16 : (n : Int) ≤ 65535 := by have := N2.out; omega
              have x1 : (mkB out).extract j m = mkB ((d.drop (k + 18)).take (n - 18)) := by
                rw [mkB_extract, ← N4.out]
                have e1 : j = k + 18 := by omega
                have e2 : m - j = n - 18 := by omega
                rw [e2, e1]
              have x2 : (mkB d).extract j m = mkB ((d.drop (k + 18)).take (n - 18)) := by
                rw [mkB_extract]
                have e1 : j = k + 18 := by omega
                have e2 : m - j = n - 18 := by omega
                rw [e2, e1]
              clear hor hx1 hx2 hpi hqi hp hq
              go_region
              go_wp2
              go_roundw
              case rel => exact ⟨m, rfl, Lib.hid (by have e1 : m = k + n := by omega
                                                     rw [e1]; exact N5.out), Lib.hid D2.out.drew.drew⟩
              case measure => have := N1.out; simp [intOf]; omega
            · have c24 : ¬ (m24 : Int) ≤ (d.length : Int) := by omega
              go_wp2_with (go_at_call 15; refine (awake25_any _).mono ?_; rintro e w3 ⟨rfl, hb3⟩)
              go_ret
              exact ⟨rfl, below_then D2.out hb3⟩
  · have hd5' : (5000 : Int) < (d.length : Int) := by omega
    clear hd5
    go_enter Try.func5, Try.ntmps5
    go_wp2_with (go_at_call 15; refine (awake25_any _).mono ?_; rintro e w1 ⟨rfl, hb1⟩)
    go_ret
    exact ⟨rfl, hb1⟩
end Go.Proofs.Ytofeamajoahjmaa
