/- The law AddrTexts, walked: what it answers is true. -/
import Derived.Test.YtgdfmhdgmjogiaaDoorFit
import Derived.Test.YtgdfmhdgmjogiaaDoorText
import Derived.Test.YtgdfmhdgmjogiaaDoorArr
namespace Go.Proofs.YtgdfmhdgmjogiaaDoor
open Go.RowKit
set_option linter.unusedVariables false
set_option linter.unusedSimpArgs false

/-- The walk up to the fork, whichever way it goes. -/
theorem is4_true {a : List UInt8} (ha : a.length = 16) (h4 : Pl.is4 a = true) : a.getD 10 0 = 255 ∧ a.getD 11 0 = 255 := by
  have h := Pl.is4_spec h4
  obtain ⟨x0, x1, x2, x3, x4, x5, x6, x7, x8, x9, y0, y1, y2, y3, y4, y5, rfl⟩ := Pl.list16 a ha
  simp [Pl.v4head] at h
  exact ⟨h.2.2.2.2.2.2.2.2.2.2.1, h.2.2.2.2.2.2.2.2.2.2.2⟩

set_option maxHeartbeats 8000000 in
set_option maxRecDepth 100000 in
theorem lawTexts4 (a : List UInt8) (ha : a.length = 16) (h4 : Pl.is4 a = true) (w : World) (h : WdA w) : Calls Tryd.prog 10 #[.agg (avs a)] w fun e w' => e = .returned (.bool true) ∧ Below w.heap.size w w' := by
  have HRA : Hid (RowIs (w.alloc (.cells (avs a) 51)) w.heap.size (avs a) 51) := RowIs.new w _ _
  have HB0 : Hid (Below w.heap.size w (w.alloc (.cells (avs a) 51))) := (Below.refl _ _).alloc (Nat.le_refl _) _
  have HF := Lib.hid (fit_any (w.alloc (.cells (avs a) 51)) (h.on HB0.out))
  have HW := Lib.hid h
  clear h
  go_enter Tryd.func10, Tryd.ntmps10
  go_wp2_with fail
  refine HF.out.mono ?_
  rintro e w1 ⟨rfl, hb⟩
  have HB1 : Hid (Below w.heap.size w w1) := HB0.out.trans (hb.mono HB0.out.size)
  have HA1 := Lib.hid (HRA.out.below hb HRA.out.lt)
  clear hb HF HRA HB0
  have HP := Lib.hid (print_any a ha w1 (HW.out.on HB1.out))
  have HLA := Lib.hid (load_size a ha)
  go_wp2_with (refine wpList_load_row rfl 51 (.tmp 1) rfl w.heap.size rfl 51 (avs a) (0, 0) _ HA1.out Tryd.underlying51 rfl HLA.out ?_)
  refine HP.out.mono ?_
  rintro e w2 ⟨rfl, hb⟩
  have HB2 : Hid (Below w.heap.size w w2) := HB1.out.trans (hb.mono HB1.out.size)
  have HA2 := Lib.hid (HA1.out.below hb HA1.out.lt)
  clear hb HP HA1 HB1
  obtain ⟨p, hp⟩ : ∃ p : ByteArray, p = ⟨(Pl.print a).toArray⟩ := ⟨_, rfl⟩
  have HPD : Hid (p.data.toList = Pl.print a) := by show _ = _; rw [hp]
  have HN : Hid ((Pl.print a).length = p.size) := by show _ = _; rw [Lib.size_eq, HPD.out]
  have hps : p.size ≤ 64 := by rw [← HN.out]; exact Pl.print_len a ha
  rw [← hp]
  clear hp
  have HI := Lib.hid (fun w => (is4_any a ha w).mono (R' := fun e w' => e = .returned (.bool true) ∧ Below w.heap.size w w') (by rw [h4]; exact fun e w' h => h))
  have H4 := Lib.hid h4
  clear h4
  go_wp2_with (refine wpList_load_row rfl 51 (.tmp 1) rfl w.heap.size rfl 51 (avs a) (0, 0) _ HA2.out Tryd.underlying51 rfl HLA.out ?_)
  refine (HI.out _).mono ?_
  rintro e w3 ⟨rfl, hb⟩
  have HB3 : Hid (Below w.heap.size w w3) := HB2.out.trans (hb.mono HB2.out.size)
  have HA3 := Lib.hid (HA2.out.below hb HA2.out.lt)
  clear hb HI HA2 HB2
  have HPR : Hid (Pl.print a = Pl.print4 a) := by show _ = _; unfold Pl.print; rw [if_pos H4.out]
  go_wp2_with fail
  go_loopw [4, 5, 6, 21] (fun s4 s5 _ s21 wr => ∃ i n q : Nat, i ≤ p.size ∧ s21 = .int .i64 i ∧ s4 = .int .i64 n ∧ s5 = .int .i64 q ∧ Hid (n + q = i) ∧ Hid (q = ((Pl.print a).take i).count 46) ∧ w3 = wr) (fun _ _ _ s21 _ => p.size - (intOf s21).toNat)
  case atStart => exact ⟨0, 0, 0, by omega, rfl, rfl, rfl, rfl, rfl, rfl⟩
  case round =>
    obtain ⟨i, n, q, hi, rfl, rfl, rfl, HQ, HC, rfl⟩ := hrel
    have hnq : n + q ≤ i := by have := HQ.out; omega
    by_cases hlt : i < p.size
    · have HCN := Lib.hid (Pl.count_take 46 (Pl.print a) i (by rw [HN.out]; exact hlt))
      have hg := sget p i hlt
      rw [HPD.out] at hg
      have HG := Lib.hid hg
      clear hg
      by_cases hc : (Pl.print a).getD i 0 = 46
      · have hc2 : (((p[i]'hlt).toNat : Int) == 46) = true := by rw [HG.out, hc]; rfl
        have HC2 : Hid (q + 1 = ((Pl.print a).take (i + 1)).count 46) := by show _ = _; rw [HCN.out, if_pos hc, ← HC.out]
        clear hc HC HCN HG
        have HQ2 : Hid (n + (q + 1) = i + 1) := by have := HQ.out; show _ = _; omega
        clear HQ
        go_wp2_with fail
        go_roundw
        case rel => first | exact ⟨i + 1, n, q + 1, by omega, by go_num, rfl, by go_num, HQ2, HC2, by first | rfl | trivial⟩ | ((repeat apply Exists.intro); exact ⟨⟨i + 1, n, q + 1, by omega, by go_num, rfl, by go_num, HQ2, HC2, by first | rfl | trivial⟩, rfl⟩)
        case measure => simp [intOf]; omega
      · have hmem : (Pl.print a).getD i 0 ∈ Pl.print4 a := by rw [← HPR.out]; exact Pl.getD_mem (by rw [HN.out]; exact hlt)
        have hd := (Pl.print4_chars a ha _ hmem).resolve_right hc
        unfold Pl.isDig at hd
        simp only [Bool.and_eq_true, decide_eq_true_eq] at hd
        rw [← HG.out] at hd
        have hge : (48 : Int) ≤ ((p[i]'hlt).toNat : Int) := by omega
        have hle : ((p[i]'hlt).toNat : Int) ≤ 57 := by omega
        have hc2 : (((p[i]'hlt).toNat : Int) == 46) = false := by rw [beq_eq_false_iff_ne]; omega
        have HC2 : Hid (q = ((Pl.print a).take (i + 1)).count 46) := by show _ = _; rw [HCN.out, if_neg hc, ← HC.out, Nat.add_zero]
        clear hc HC HCN HG hd hmem
        have HQ2 : Hid ((n + 1) + q = i + 1) := by have := HQ.out; show _ = _; omega
        clear HQ
        go_wp2_with fail
        go_roundw
        case rel => first | exact ⟨i + 1, n + 1, q, by omega, by go_num, by go_num, rfl, HQ2, HC2, by first | rfl | trivial⟩ | ((repeat apply Exists.intro); exact ⟨⟨i + 1, n + 1, q, by omega, by go_num, by go_num, rfl, HQ2, HC2, by first | rfl | trivial⟩, rfl⟩)
        case measure => simp [intOf]; omega
    · obtain rfl : i = p.size := by omega
      have hcount := Pl.print4_count a ha
      have h7 : 7 ≤ p.size := by rw [← HN.out, HPR.out]; exact hcount.2
      obtain rfl : q = 3 := by
        have := HC.out
        rw [← HN.out, List.take_length, HPR.out, hcount.1] at this
        exact this
      have hn : n + 3 = p.size := HQ.out
      have hn4 : 4 ≤ n := by omega
      have hgn : decide ((n : Int) ≥ 4) = true := decide_eq_true (by omega)
      have hpn : ((n : Int) == (p.size : Int) - 3) = true := by rw [beq_iff_eq]; omega
      have h255 := is4_true ha H4.out
      have c10 : w3.cell? ⟨w.heap.size, 10, none⟩ = some (.int .u8 255) := by
        have := HA3.out.cell 10
        rw [avs_get a 10 (by omega), h255.1] at this
        exact this
      have c11 : w3.cell? ⟨w.heap.size, 11, none⟩ = some (.int .u8 255) := by
        have := HA3.out.cell 11
        rw [avs_get a 11 (by omega), h255.2] at this
        exact this
      rw [show ((3 : Nat) : Int) = 3 from rfl]
      clear HC HQ hcount hn h255 hi hnq
      go_wp2_with fail
      go_ret
      exact ⟨rfl, HB3.out⟩

set_option maxHeartbeats 16000000 in
set_option maxRecDepth 100000 in
theorem lawTexts6 (a : List UInt8) (ha : a.length = 16) (h4 : Pl.is4 a = false) (w : World) (h : WdA w) : Calls Tryd.prog 10 #[.agg (avs a)] w fun e w' => e = .returned (.bool true) ∧ Below w.heap.size w w' := by
  have HRA : Hid (RowIs (w.alloc (.cells (avs a) 51)) w.heap.size (avs a) 51) := RowIs.new w _ _
  have HB0 : Hid (Below w.heap.size w (w.alloc (.cells (avs a) 51))) := (Below.refl _ _).alloc (Nat.le_refl _) _
  have HF := Lib.hid (fit_any (w.alloc (.cells (avs a) 51)) (h.on HB0.out))
  have HW := Lib.hid h
  clear h
  go_enter Tryd.func10, Tryd.ntmps10
  go_wp2_with fail
  refine HF.out.mono ?_
  rintro e w1 ⟨rfl, hb⟩
  have HB1 : Hid (Below w.heap.size w w1) := HB0.out.trans (hb.mono HB0.out.size)
  have HA1 := Lib.hid (HRA.out.below hb HRA.out.lt)
  clear hb HF HRA HB0
  have HP := Lib.hid (print_any a ha w1 (HW.out.on HB1.out))
  have HLA := Lib.hid (load_size a ha)
  go_wp2_with (refine wpList_load_row rfl 51 (.tmp 1) rfl w.heap.size rfl 51 (avs a) (0, 0) _ HA1.out Tryd.underlying51 rfl HLA.out ?_)
  refine HP.out.mono ?_
  rintro e w2 ⟨rfl, hb⟩
  have HB2 : Hid (Below w.heap.size w w2) := HB1.out.trans (hb.mono HB1.out.size)
  have HA2 := Lib.hid (HA1.out.below hb HA1.out.lt)
  clear hb HP HA1 HB1
  obtain ⟨p, hp⟩ : ∃ p : ByteArray, p = ⟨(Pl.print a).toArray⟩ := ⟨_, rfl⟩
  have HPR : Hid (Pl.print a = Pl.print6 a) := by show _ = _; unfold Pl.print; rw [if_neg (by rw [h4]; decide)]
  have HPD : Hid (p.data.toList = Pl.print6 a) := by show _ = _; rw [hp, HPR.out]
  have HN : Hid ((Pl.print6 a).length = p.size) := by show _ = _; rw [Lib.size_eq, HPD.out]
  have hps : p.size ≤ 39 := by rw [← HN.out]; exact (Pl.print6_gaps a).2.2
  rw [← hp]
  clear hp HPR
  have HI := Lib.hid (fun w => (is4_any a ha w).mono (R' := fun e w' => e = .returned (.bool false) ∧ Below w.heap.size w w') (by rw [h4]; exact fun e w' h => h))
  clear h4
  go_wp2_with (refine wpList_load_row rfl 51 (.tmp 1) rfl w.heap.size rfl 51 (avs a) (0, 0) _ HA2.out Tryd.underlying51 rfl HLA.out ?_)
  refine (HI.out _).mono ?_
  rintro e w3 ⟨rfl, hb⟩
  have HB3 : Hid (Below w.heap.size w w3) := HB2.out.trans (hb.mono HB2.out.size)
  have HA3 := Lib.hid (HA2.out.below hb HA2.out.lt)
  clear hb HI HA2 HB2
  go_wp2_with fail
  go_loopw [7, 9, 10, 11, 68] (fun s7 s9 _ _ s68 wr => ∃ i g q : Nat, i ≤ p.size ∧ g ≤ i ∧ q ≤ i ∧ s68 = .int .i64 i ∧ s7 = .int .i64 g ∧ s9 = .int .i64 q ∧ Hid (g = Pl.gaps false ((Pl.print6 a).take i)) ∧ Hid (q = ((Pl.print6 a).take i).count 58) ∧ w3 = wr) (fun _ _ _ _ s68 _ => p.size - (intOf s68).toNat)
  case atStart => exact ⟨0, 0, 0, by omega, by omega, by omega, rfl, rfl, rfl, rfl, rfl, rfl⟩
  case round =>
    obtain ⟨i, g, q, hi, hgi, hqi, rfl, rfl, rfl, HGP, HC, rfl⟩ := hrel
    by_cases hlt : i < p.size
    · have HCN := Lib.hid (Pl.count_take 58 (Pl.print6 a) i (by rw [HN.out]; exact hlt))
      have HGN := Lib.hid (Pl.gaps_take (Pl.print6 a) i (by rw [HN.out]; exact hlt))
      have hg := sget p i hlt
      rw [HPD.out] at hg
      have HG := Lib.hid hg
      clear hg
      by_cases hc : (Pl.print6 a).getD i 0 = 58
      · have hc2 : (((p[i]'hlt).toNat : Int) == 58) = true := by rw [HG.out, hc]; rfl
        have hc3 : (((p[i]'hlt).toNat : Int) == 48) = false := by rw [HG.out, hc]; rfl
        have HC2 : Hid (q + 1 = ((Pl.print6 a).take (i + 1)).count 58) := by show _ = _; rw [HCN.out, if_pos hc, ← HC.out]
        by_cases h0 : i = 0
        · subst h0
          have HG2 : Hid (g = Pl.gaps false ((Pl.print6 a).take (0 + 1))) := by show _ = _; rw [HGN.out, if_neg (by omega), ← HGP.out, Nat.add_zero]
          clear hc HC HCN HG HGN HGP
          rw [show ((0 : Nat) : Int) = 0 from rfl]
          go_wp2_with fail
          go_roundw
          case rel => first | exact ⟨0 + 1, g, q + 1, by omega, by omega, by omega, by go_num, rfl, by go_num, HG2, HC2, by first | rfl | trivial⟩ | ((repeat apply Exists.intro); exact ⟨⟨0 + 1, g, q + 1, by omega, by omega, by omega, by go_num, rfl, by go_num, HG2, HC2, by first | rfl | trivial⟩, rfl⟩)
          case measure => simp [intOf]; omega
        · obtain ⟨j, rfl⟩ : ∃ j, i = j + 1 := ⟨i - 1, by omega⟩
          have hgt : decide (((j + 1 : Nat) : Int) > 0) = true := decide_eq_true (by omega)
          have hj : j < p.size := by omega
          have ej : ((j + 1 : Nat) : Int) - 1 = (j : Int) := by omega
          have hgp := sget p j hj
          rw [HPD.out] at hgp
          have HGJ := Lib.hid hgp
          clear hgp
          by_cases hp : (Pl.print6 a).getD j 0 = 58
          · have hp2 : (((p[j]'hj).toNat : Int) == 58) = true := by rw [HGJ.out, hp]; rfl
            have HG2 : Hid (g + 1 = Pl.gaps false ((Pl.print6 a).take (j + 1 + 1))) := by show _ = _; rw [HGN.out, if_pos ⟨hc, by omega, by simpa using hp⟩, ← HGP.out]
            clear hc hp HC HCN HG HGN HGP HGJ h0
            go_wp2_with fail
            go_roundw
            case rel => first | exact ⟨j + 1 + 1, g + 1, q + 1, by omega, by omega, by omega, by go_num, by go_num, by go_num, HG2, HC2, by first | rfl | trivial⟩ | ((repeat apply Exists.intro); exact ⟨⟨j + 1 + 1, g + 1, q + 1, by omega, by omega, by omega, by go_num, by go_num, by go_num, HG2, HC2, by first | rfl | trivial⟩, rfl⟩)
            case measure => simp [intOf]; omega
          · have hp2 : (((p[j]'hj).toNat : Int) == 58) = false := by
              rw [HGJ.out, beq_eq_false_iff_ne]
              intro h
              apply hp
              apply UInt8.toNat_inj.1
              show _ = 58
              omega
            have HG2 : Hid (g = Pl.gaps false ((Pl.print6 a).take (j + 1 + 1))) := by show _ = _; rw [HGN.out, if_neg (fun h => hp (by simpa using h.2.2)), ← HGP.out, Nat.add_zero]
            clear hc hp HC HCN HG HGN HGP HGJ h0
            go_wp2_with fail
            go_roundw
            case rel => first | exact ⟨j + 1 + 1, g, q + 1, by omega, by omega, by omega, by go_num, rfl, by go_num, HG2, HC2, by first | rfl | trivial⟩ | ((repeat apply Exists.intro); exact ⟨⟨j + 1 + 1, g, q + 1, by omega, by omega, by omega, by go_num, rfl, by go_num, HG2, HC2, by first | rfl | trivial⟩, rfl⟩)
            case measure => simp [intOf]; omega
      · have hcn : (p[i]'hlt).toNat ≠ 58 := by
          rw [HG.out]
          intro h
          apply hc
          apply UInt8.toNat_inj.1
          exact h
        have hc2 : (((p[i]'hlt).toNat : Int) == 58) = false := by rw [beq_eq_false_iff_ne]; omega
        have HC2 : Hid (q = ((Pl.print6 a).take (i + 1)).count 58) := by show _ = _; rw [HCN.out, if_neg hc, ← HC.out, Nat.add_zero]
        have HG2 : Hid (g = Pl.gaps false ((Pl.print6 a).take (i + 1))) := by show _ = _; rw [HGN.out, if_neg (fun h => hc h.1), ← HGP.out, Nat.add_zero]
        have hmem : (Pl.print6 a).getD i 0 ∈ Pl.print6 a := Pl.getD_mem (by rw [HN.out]; exact hlt)
        have hx := (Pl.print6_chars a _ hmem).resolve_right hc
        unfold Pl.hexChar at hx
        simp only [Bool.or_eq_true, Bool.and_eq_true, decide_eq_true_eq] at hx
        rw [← HG.out] at hx
        have HNN := Lib.hid (Pl.nn_at (Pl.print6 a) true i (Pl.nn_print6 a))
        have HSEP : Hid (∀ j, j < p.size → Pl.sepB ((Pl.print6 a).getD j 0) = true → (Pl.print6 a).getD j 0 = 58) := by
          intro j hj hs
          unfold Pl.sepB at hs
          rw [Bool.or_eq_true, beq_iff_eq, beq_iff_eq] at hs
          rcases hs with h | h
          · exact h
          · exfalso
            have := Pl.getD_mem (l := Pl.print6 a) (i := j) (by rw [HN.out]; exact hj)
            rw [h] at this
            exact Pl.print6_no46 a this
        clear hmem hcn HC HCN HGN HGP
        rcases hx with hx | hx
        · have ha1 : ¬ ((p[i]'hlt).toNat : Int) < 48 := by omega
          have ha2 : ¬ 57 < ((p[i]'hlt).toNat : Int) := by omega
          by_cases h48 : (Pl.print6 a).getD i 0 = 48
          · have hc3 : (((p[i]'hlt).toNat : Int) == 48) = true := by rw [HG.out, h48]; rfl
            have HN2 : Hid ((if i = 0 then true else Pl.sepB ((Pl.print6 a).getD (i - 1) 0)) = true → i + 1 < p.size → (Pl.print6 a).getD (i + 1) 0 = 58) := fun h1 h2 => HSEP.out _ h2 (HNN.out (by rw [HN.out]; exact h2) h48 h1)
            clear HNN h48 hc hx HG
            by_cases h0 : i = 0
            · subst h0
              rw [show ((0 : Nat) : Int) = 0 from rfl]
              by_cases hl1 : 1 < p.size
              · have hn := HN2.out (by simp) (by omega)
                have hl2 : decide ((1 : Int) < (p.size : Int)) = true := decide_eq_true (by omega)
                have hp2 : (((p[1]'hl1).toNat : Int) != 58) = false := by
                  have := sget p 1 hl1
                  rw [HPD.out] at this
                  rw [this, show (1 : Nat) = 0 + 1 from rfl, hn]; rfl
                clear HN2 hn
                go_wp2_with fail
                go_roundw
                case rel => first | exact ⟨0 + 1, g, q, by omega, by omega, by omega, by go_num, rfl, rfl, HG2, HC2, by first | rfl | trivial⟩ | ((repeat apply Exists.intro); exact ⟨⟨0 + 1, g, q, by omega, by omega, by omega, by go_num, rfl, rfl, HG2, HC2, by first | rfl | trivial⟩, rfl⟩)
                case measure => simp [intOf]; omega
              · have hl2 : decide ((1 : Int) < (p.size : Int)) = false := decide_eq_false (by omega)
                clear HN2
                go_wp2_with fail
                go_roundw
                case rel => first | exact ⟨0 + 1, g, q, by omega, by omega, by omega, by go_num, rfl, rfl, HG2, HC2, by first | rfl | trivial⟩ | ((repeat apply Exists.intro); exact ⟨⟨0 + 1, g, q, by omega, by omega, by omega, by go_num, rfl, rfl, HG2, HC2, by first | rfl | trivial⟩, rfl⟩)
                case measure => simp [intOf]; omega
            · obtain ⟨j, rfl⟩ : ∃ j, i = j + 1 := ⟨i - 1, by omega⟩
              have hi0 : (((j + 1 : Nat) : Int) == 0) = false := by rw [beq_eq_false_iff_ne]; omega
              have hj : j < p.size := by omega
              have ej : ((j + 1 : Nat) : Int) - 1 = (j : Int) := by omega
              have ek : ((j + 1 : Nat) : Int) + 1 = ((j + 2 : Nat) : Int) := by omega
              have hgp := sget p j hj
              rw [HPD.out] at hgp
              have HGJ := Lib.hid hgp
              clear hgp
              by_cases hp : (Pl.print6 a).getD j 0 = 58
              · have hp2 : (((p[j]'hj).toNat : Int) == 58) = true := by rw [HGJ.out, hp]; rfl
                have hn := HN2.out (by rw [if_neg h0, show j + 1 - 1 = j from rfl, hp]; rfl)
                clear HN2 hp HGJ h0
                by_cases hl1 : j + 2 < p.size
                · have hl2 : decide (((j + 2 : Nat) : Int) < (p.size : Int)) = true := decide_eq_true (by omega)
                  have hn := hn hl1
                  have hp3 : (((p[j + 2]'hl1).toNat : Int) != 58) = false := by
                    have := sget p (j + 2) hl1
                    rw [HPD.out] at this
                    rw [this, hn]; rfl
                  clear hn
                  go_wp2_with fail
                  go_roundw
                  case rel => first | exact ⟨j + 1 + 1, g, q, by omega, by omega, by omega, by go_num, rfl, rfl, HG2, HC2, by first | rfl | trivial⟩ | ((repeat apply Exists.intro); exact ⟨⟨j + 1 + 1, g, q, by omega, by omega, by omega, by go_num, rfl, rfl, HG2, HC2, by first | rfl | trivial⟩, rfl⟩)
                  case measure => simp [intOf]; omega
                · have hl2 : decide (((j + 2 : Nat) : Int) < (p.size : Int)) = false := decide_eq_false (by omega)
                  clear hn
                  go_wp2_with fail
                  go_roundw
                  case rel => first | exact ⟨j + 1 + 1, g, q, by omega, by omega, by omega, by go_num, rfl, rfl, HG2, HC2, by first | rfl | trivial⟩ | ((repeat apply Exists.intro); exact ⟨⟨j + 1 + 1, g, q, by omega, by omega, by omega, by go_num, rfl, rfl, HG2, HC2, by first | rfl | trivial⟩, rfl⟩)
                  case measure => simp [intOf]; omega
              · have hp2 : (((p[j]'hj).toNat : Int) == 58) = false := by
                  rw [HGJ.out, beq_eq_false_iff_ne]
                  intro h
                  apply hp
                  apply UInt8.toNat_inj.1
                  show _ = 58
                  omega
                clear HN2 hp HGJ h0
                go_wp2_with fail
                go_roundw
                case rel => first | exact ⟨j + 1 + 1, g, q, by omega, by omega, by omega, by go_num, rfl, rfl, HG2, HC2, by first | rfl | trivial⟩ | ((repeat apply Exists.intro); exact ⟨⟨j + 1 + 1, g, q, by omega, by omega, by omega, by go_num, rfl, rfl, HG2, HC2, by first | rfl | trivial⟩, rfl⟩)
                case measure => simp [intOf]; omega
          · have hc3 : (((p[i]'hlt).toNat : Int) == 48) = false := by
              rw [HG.out, beq_eq_false_iff_ne]
              intro h
              apply h48
              apply UInt8.toNat_inj.1
              show _ = 48
              omega
            clear HNN HSEP h48 hc hx HG
            go_wp2_with fail
            go_roundw
            case rel => first | exact ⟨i + 1, g, q, by omega, by omega, by omega, by go_num, rfl, rfl, HG2, HC2, by first | rfl | trivial⟩ | ((repeat apply Exists.intro); exact ⟨⟨i + 1, g, q, by omega, by omega, by omega, by go_num, rfl, rfl, HG2, HC2, by first | rfl | trivial⟩, rfl⟩)
            case measure => simp [intOf]; omega
        · have ha1 : 57 < ((p[i]'hlt).toNat : Int) := by omega
          have ha2 : 97 ≤ ((p[i]'hlt).toNat : Int) := by omega
          have ha3 : ((p[i]'hlt).toNat : Int) ≤ 102 := by omega
          have hc3 : (((p[i]'hlt).toNat : Int) == 48) = false := by rw [beq_eq_false_iff_ne]; omega
          clear HNN HSEP hc hx HG
          go_wp2_with fail
          go_roundw
          case rel => first | exact ⟨i + 1, g, q, by omega, by omega, by omega, by go_num, rfl, rfl, HG2, HC2, by first | rfl | trivial⟩ | ((repeat apply Exists.intro); exact ⟨⟨i + 1, g, q, by omega, by omega, by omega, by go_num, rfl, rfl, HG2, HC2, by first | rfl | trivial⟩, rfl⟩)
          case measure => simp [intOf]; omega
    · obtain rfl : i = p.size := by omega
      have hpg := Pl.print6_gaps a
      have HGT : Hid (g = if Pl.twoZ a then 1 else 0) := by
        have := HGP.out
        rw [← HN.out, List.take_length, hpg.1] at this
        exact this
      have HQT : Hid (Pl.twoZ a = false → q = 7) := by
        intro h
        have := HC.out
        rw [← HN.out, List.take_length, hpg.2.1 h] at this
        exact this
      have h39 : (p.size : Int) ≤ 39 := by have := hpg.2.2; rw [HN.out] at this; omega
      clear HGP HC hpg hi
      go_wp2_with fail
      go_loopw [8, 12, 131] (fun s8 _ s131 wr => ∃ i z : Nat, i ≤ 7 ∧ s131 = .int .i64 i ∧ s8 = .int .i64 z ∧ Hid (z = if Pl.anyZ a i then 1 else 0) ∧ w3 = wr) (fun _ _ s131 _ => 7 - (intOf s131).toNat)
      case atStart => exact ⟨0, 0, by omega, rfl, rfl, rfl, rfl⟩
      case round =>
        obtain ⟨i, z, hi, rfl, rfl, HZ, rfl⟩ := hrel
        by_cases hlt : i < 7
        · have hs := Pl.anyZ_succ a i
          have c0 := HA3.out.cell (2 * i)
          have c1 := HA3.out.cell (2 * i + 1)
          have c2 := HA3.out.cell (2 * i + 2)
          have c3 := HA3.out.cell (2 * i + 3)
          rw [avs_get a _ (by omega)] at c0 c1 c2 c3
          generalize a.getD (2 * i) 0 = x0 at c0 hs
          generalize a.getD (2 * i + 1) 0 = x1 at c1 hs
          generalize a.getD (2 * i + 2) 0 = x2 at c2 hs
          generalize a.getD (2 * i + 3) 0 = x3 at c3 hs
          have zz : ∀ x : UInt8, ((x.toNat : Int) == 0) = (x == 0) := by
            intro x
            by_cases h : x = 0
            · subst h; rfl
            · have h1 : (x == 0) = false := beq_eq_false_iff_ne.2 h
              rw [h1, beq_eq_false_iff_ne]
              intro h2
              apply h
              apply UInt8.toNat_inj.1
              show _ = 0
              omega
          have z0 := zz x0
          have z1 := zz x1
          have z2 := zz x2
          have z3 := zz x3
          clear zz
          have HS := Lib.hid hs
          clear hs
          by_cases h0 : (x0 == 0) = true
          · rw [h0] at z0
            by_cases h1 : (x1 == 0) = true
            · rw [h1] at z1
              by_cases h2 : (x2 == 0) = true
              · rw [h2] at z2
                by_cases h3 : (x3 == 0) = true
                · rw [h3] at z3
                  have HZ2 : Hid (1 = if Pl.anyZ a (i + 1) then 1 else 0) := by show _ = _; rw [HS.out, h0, h1, h2, h3]; simp
                  clear h0 h1 h2 h3 HS HZ
                  go_wp2_with fail
                  go_roundw
                  case rel => first | exact ⟨i + 1, 1, by omega, by go_num, rfl, HZ2, by first | rfl | trivial⟩ | ((repeat apply Exists.intro); exact ⟨⟨i + 1, 1, by omega, by go_num, rfl, HZ2, by first | rfl | trivial⟩, rfl⟩)
                  case measure => simp [intOf]; omega
                · have h3 : (x3 == 0) = false := by simpa using h3
                  rw [h3] at z3
                  have HZ2 : Hid (z = if Pl.anyZ a (i + 1) then 1 else 0) := by show _ = _; rw [HS.out, h3]; simpa using HZ.out
                  clear h0 h1 h2 h3 HS HZ
                  go_wp2_with fail
                  go_roundw
                  case rel => first | exact ⟨i + 1, z, by omega, by go_num, rfl, HZ2, by first | rfl | trivial⟩ | ((repeat apply Exists.intro); exact ⟨⟨i + 1, z, by omega, by go_num, rfl, HZ2, by first | rfl | trivial⟩, rfl⟩)
                  case measure => simp [intOf]; omega
              · have h2 : (x2 == 0) = false := by simpa using h2
                rw [h2] at z2
                have HZ2 : Hid (z = if Pl.anyZ a (i + 1) then 1 else 0) := by show _ = _; rw [HS.out, h2]; simpa using HZ.out
                clear h0 h1 h2 HS HZ
                go_wp2_with fail
                go_roundw
                case rel => first | exact ⟨i + 1, z, by omega, by go_num, rfl, HZ2, by first | rfl | trivial⟩ | ((repeat apply Exists.intro); exact ⟨⟨i + 1, z, by omega, by go_num, rfl, HZ2, by first | rfl | trivial⟩, rfl⟩)
                case measure => simp [intOf]; omega
            · have h1 : (x1 == 0) = false := by simpa using h1
              rw [h1] at z1
              have HZ2 : Hid (z = if Pl.anyZ a (i + 1) then 1 else 0) := by show _ = _; rw [HS.out, h1]; simpa using HZ.out
              clear h0 h1 HS HZ
              go_wp2_with fail
              go_roundw
              case rel => first | exact ⟨i + 1, z, by omega, by go_num, rfl, HZ2, by first | rfl | trivial⟩ | ((repeat apply Exists.intro); exact ⟨⟨i + 1, z, by omega, by go_num, rfl, HZ2, by first | rfl | trivial⟩, rfl⟩)
              case measure => simp [intOf]; omega
          · have h0 : (x0 == 0) = false := by simpa using h0
            rw [h0] at z0
            have HZ2 : Hid (z = if Pl.anyZ a (i + 1) then 1 else 0) := by show _ = _; rw [HS.out, h0]; simpa using HZ.out
            clear h0 HS HZ
            go_wp2_with fail
            go_roundw
            case rel => first | exact ⟨i + 1, z, by omega, by go_num, rfl, HZ2, by first | rfl | trivial⟩ | ((repeat apply Exists.intro); exact ⟨⟨i + 1, z, by omega, by go_num, rfl, HZ2, by first | rfl | trivial⟩, rfl⟩)
            case measure => simp [intOf]; omega
        · obtain rfl : i = 7 := by omega
          have hzz : z = if Pl.twoZ a then 1 else 0 := HZ.out
          by_cases ht : Pl.twoZ a = true
          · have hg1 := HGT.out
            rw [ht] at hzz hg1
            simp only [if_true] at hzz hg1
            subst hzz hg1
            rw [show ((1 : Nat) : Int) = 1 from rfl]
            clear HGT HQT HZ ht
            go_wp2_with fail
            go_ret
            exact ⟨rfl, HB3.out⟩
          · have ht : Pl.twoZ a = false := by simpa using ht
            have hg1 := HGT.out
            have hq7 := HQT.out ht
            rw [ht] at hzz hg1
            simp only [Bool.false_eq_true, if_false] at hzz hg1
            subst hzz hg1 hq7
            rw [show ((0 : Nat) : Int) = 0 from rfl, show ((7 : Nat) : Int) = 7 from rfl]
            clear HGT HQT HZ ht
            go_wp2_with fail
            go_ret
            exact ⟨rfl, HB3.out⟩

theorem lawTexts (a : List UInt8) (ha : a.length = 16) (w : World) (h : WdA w) : Calls Tryd.prog 10 #[.agg (avs a)] w fun e w' => e = .returned (.bool true) ∧ Below w.heap.size w w' := by
  cases h4 : Pl.is4 a with
  | true => exact lawTexts4 a ha h4 w h
  | false => exact lawTexts6 a ha h4 w h
end Go.Proofs.YtgdfmhdgmjogiaaDoor
