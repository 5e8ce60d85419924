import Derived.Test.YtgdfmhdgmjogiabDoorFmt
import Derived.Test.YtgdfmhdgmjogiabDoorArr
import Derived.Outline
import Derived.Deep.QuietTactic
import Derived.BigQuiet
import Derived.RegionTactic
import Derived.BigRegion
import Derived.StillTailTactics
namespace Go.Proofs.YtgdfmhdgmjogiabDoor
open Go.RowKit
set_option linter.unusedVariables false

theorem load_size (a : List UInt8) (ha : a.length = 16) : (Tryd.prog.info? 23).map (·.size) = some (avs a).size := by
  rw [avs_size, ha]; kernel_rfl

/-- The words filled so far. -/
def wfill (a : List UInt8) (i : Nat) : List Nat := (Pl.words a).take i ++ List.replicate (8 - i) 0

theorem tw_next : ∀ (l : List Nat) (n : Nat), n ≤ (l.takeWhile (· == 0)).length → n < l.length → l.getD n 0 = 0 → n + 1 ≤ (l.takeWhile (· == 0)).length
  | [], n, _, h, _ => by simp at h
  | x :: l, 0, _, _, h => by
    have : x = 0 := by simpa using h
    subst this; simp
  | x :: l, n + 1, h0, h1, h2 => by
    by_cases hx : x = 0
    · subst hx
      simp at h0 h1 ⊢
      exact tw_next l n h0 h1 (by simpa using h2)
    · simp [hx] at h0
theorem tw_stop : ∀ (l : List Nat) (n : Nat), n ≤ (l.takeWhile (· == 0)).length → n < l.length → l.getD n 0 ≠ 0 → (l.takeWhile (· == 0)).length = n
  | [], n, _, h, _ => by simp at h
  | x :: l, 0, _, _, h => by
    have : x ≠ 0 := by simpa using h
    simp [this]
  | x :: l, n + 1, h0, h1, h2 => by
    by_cases hx : x = 0
    · subst hx
      simp at h0 h1 ⊢
      exact tw_stop l n h0 h1 (by simpa using h2)
    · simp [hx] at h0
theorem getD_drop (w : List Nat) (i n : Nat) : (w.drop i).getD n 0 = w.getD (i + n) 0 := by simp [List.getD]
theorem zrun_next {w : List Nat} {i n : Nat} (h : n ≤ Pl.zrun w i) (hl : i + n < w.length) (h0 : w.getD (i + n) 0 = 0) : n + 1 ≤ Pl.zrun w i :=
  tw_next _ n h (by simp; omega) (by rw [getD_drop]; exact h0)
theorem zrun_stop {w : List Nat} {i n : Nat} (h : n ≤ Pl.zrun w i) (hl : i + n < w.length) (h0 : w.getD (i + n) 0 ≠ 0) : Pl.zrun w i = n :=
  tw_stop _ n h (by simp; omega) (by rw [getD_drop]; exact h0)
theorem zrun_end {w : List Nat} {i n : Nat} (h : n ≤ Pl.zrun w i) (hl : i + n = w.length) : Pl.zrun w i = n := by
  have := Pl.zrun_le w i; omega

/-- The best gap among the first i places. -/
def bst (w : List Nat) (i : Nat) : Int × Nat := (List.range i).foldl (Pl.bestStep w) (-1, 1)
theorem bst_succ (w : List Nat) (i : Nat) : bst w (i + 1) = Pl.bestStep w (bst w i) i := by
  unfold bst; rw [List.range_succ, List.foldl_append]; rfl
theorem bst_bd (w : List Nat) (hw : w.length = 8) (i : Nat) (hi : i ≤ 8) : -1 ≤ (bst w i).1 ∧ (bst w i).1 < 8 ∧ 1 ≤ (bst w i).2 ∧ (bst w i).2 ≤ 8 := by
  have hb := Pl.best_inv w (List.range i)
  change ((bst w i).1 = -1 ∧ (bst w i).2 = 1 ∧ _) ∨ (∃ p : Nat, _ ∧ (bst w i).1 = p ∧ (bst w i).2 = _ ∧ _) at hb
  rcases hb with ⟨h1, h2, _⟩ | ⟨p, hp, h1, h2, h3⟩
  · omega
  · have := Pl.zrun_le w p
    simp at hp
    omega

theorem or_word (x y : Nat) (hx : x < 256) (hy : y < 256) : bits .or .i64 ((x : Int) * 256) (y : Int) = ((x * 256 + y : Nat) : Int) := by
  rw [bits_join .i64 63 (by decide) (fun n h0 h1 => IntWalk.i64_in n ⟨by omega, by omega⟩) 8 ((x : Int) * 256) (y : Int) (by omega) (by omega) (by omega) (by omega) (by omega) (by omega)]
  omega

theorem wfill_next (a : List UInt8) (i : Nat) (h : i < 8) : (wfill a i).set i (Pl.wordAt a i) = wfill a (i + 1) := by
  have hw := Pl.words_length a
  unfold wfill
  rw [List.set_append_right _ _ (by simp; omega)]
  have e : i - ((Pl.words a).take i).length = 0 := by simp; omega
  rw [e, show 8 - i = (8 - (i + 1)) + 1 by omega, List.replicate_succ]
  simp only [List.set_cons_zero]
  rw [List.take_succ_eq_append_getElem (by omega)]
  simp [Pl.words]

set_option maxHeartbeats 4000000 in
set_option maxRecDepth 100000 in
theorem print6_any (a : List UInt8) (ha : a.length = 16) (h4 : Pl.is4 a = false) (w : World) (h : WdA w) : Calls Tryd.prog 22 #[.agg (avs a)] w fun e w' => e = .returned (.string ⟨(Pl.print a).toArray⟩) ∧ Below w.heap.size w w' := by
  have HS := Lib.hid (load_size a ha)
  have HG := Lib.hid (RowIs.new w (avs a) 23)
  have HC := Lib.hid (CellsA.new w a 23 ha)
  have HA := Lib.hid ha
  have HW := Lib.hid h
  have H4 := Lib.hid h4
  have HI := Lib.hid (fun w => (is4_any a ha w).mono (R' := fun e w' => e = .returned (.bool false) ∧ Below w.heap.size w w') (by rw [h4]; exact fun e w' h => h))
  clear ha h h4
  go_enter Tryd.func22, Tryd.ntmps22
  go_wp2_with (refine wpList_load_row rfl 23 _ rfl _ rfl 23 (avs a) (0, 0) _ HG.out Tryd.underlying23 rfl HS.out ?_)
  refine (HI.out _).mono ?_
  rintro e w1 ⟨rfl, hb1⟩
  rw [World.size_alloc] at hb1
  have HC1 := Lib.hid (HC.out.below hb1 (by omega))
  have HB1 : Hid (Below w.heap.size w w1) := ((Below.refl _ w).alloc (Nat.le_refl _) _).trans (hb1.mono (by omega))
  have hz1 : w.heap.size < w1.heap.size := by have := hb1.size; rw [World.size_alloc] at this; omega
  clear HC HG HI hb1
  go_wp2_with fail
  have HR0 : Hid (RowIs (w1.alloc (.cells #[.int .i64 0, .int .i64 0, .int .i64 0, .int .i64 0, .int .i64 0, .int .i64 0, .int .i64 0, .int .i64 0] 77)) w1.heap.size (ivs (wfill a 0)) 77) := RowIs.new w1 _ _
  have HB2 : Hid (Below w.heap.size w (w1.alloc (.cells #[.int .i64 0, .int .i64 0, .int .i64 0, .int .i64 0, .int .i64 0, .int .i64 0, .int .i64 0, .int .i64 0] 77))) := HB1.out.alloc (by omega) _
  have HC2 : Hid (CellsA (w1.alloc (.cells #[.int .i64 0, .int .i64 0, .int .i64 0, .int .i64 0, .int .i64 0, .int .i64 0, .int .i64 0, .int .i64 0] 77)) w.heap.size a) := HC1.out.past hz1 _
  go_loopw [7, 31] (fun _ s31 wr => ∃ i : Nat, i ≤ 8 ∧ s31 = .int .i64 i ∧ Hid (RowIs wr w1.heap.size (ivs (wfill a i)) 77) ∧ Hid (Below w.heap.size w wr) ∧ Hid (CellsA wr w.heap.size a)) (fun _ s31 _ => 8 - (intOf s31).toNat)
  case atStart => exact ⟨0, by omega, rfl, HR0, HB2, HC2⟩
  case round =>
    clear HR0 HB2 HC2 HB1 HC1
    obtain ⟨i, hi, rfl, HR, HB, HC⟩ := hrel
    by_cases hlt : i < 8
    · have c0 := HC.out (2 * i) (by omega)
      have c1 := HC.out (2 * i + 1) (by omega)
      obtain ⟨x, hx⟩ : ∃ x, x = a.getD (2 * i) 0 := ⟨_, rfl⟩
      obtain ⟨y, hy⟩ : ∃ x, x = a.getD (2 * i + 1) 0 := ⟨_, rfl⟩
      rw [← hx] at c0
      rw [← hy] at c1
      have HX := Lib.hid hx
      have HY := Lib.hid hy
      clear hx hy
      have c2 := HR.out.cell i
      have f2 := HR.out.frozen i
      rw [ivs_get _ _ (by unfold wfill; simp [Pl.words_length]; omega)] at c2
      generalize (wfill a i).getD i 0 = old at c2
      obtain ⟨nx, hnx⟩ : ∃ n, n = x.toNat := ⟨_, rfl⟩
      obtain ⟨ny, hny⟩ : ∃ n, n = y.toNat := ⟨_, rfl⟩
      have lx : nx < 256 := by have := x.toNat_lt; omega
      have ly : ny < 256 := by have := y.toNat_lt; omega
      rw [← hnx] at c0
      rw [← hny] at c1
      have HNX := Lib.hid hnx
      have HNY := Lib.hid hny
      clear hnx hny
      have ex : IntKind.i64.wrap (nx : Int) = nx := IntWalk.i64_in _ (by omega)
      have ey : IntKind.i64.wrap (ny : Int) = ny := IntWalk.i64_in _ (by omega)
      have exs : IntKind.i64.wrap ((nx : Int) * 256) = (nx : Int) * 256 := IntWalk.i64_in _ (by omega)
      have eor := or_word nx ny lx ly
      have e1 : IntKind.i64.wrap (2 * (i : Int)) = 2 * (i : Int) := IntWalk.i64_in _ (by omega)
      have e2 : IntKind.i64.wrap (2 * (i : Int) + 1) = 2 * (i : Int) + 1 := IntWalk.i64_in _ (by omega)
      have e3 : (2 * (i : Int)).toNat = 2 * i := by omega
      have e4 : (2 * (i : Int) + 1).toNat = 2 * i + 1 := by omega
      have b1 : 0 ≤ 2 * (i : Int) := by omega
      have b2 : 2 * (i : Int) < 16 := by omega
      have b3 : 0 ≤ 2 * (i : Int) + 1 := by omega
      have b4 : 2 * (i : Int) + 1 < 16 := by omega
      go_wp2
      go_still_tail 15, (by kernel_rfl)
      change wpList _ _ _ _ _ wr.drew
      go_wp2
      go_roundw
      case rel =>
        refine ⟨i + 1, by omega, by go_num, ?_, ?_, ?_⟩
        · have hv : nx * 256 + ny = Pl.wordAt a i := by rw [HNX.out, HNY.out, HX.out, HY.out]; rfl
          have ec : ((nx * 256 + ny : Nat) : Int) = (nx : Int) * 256 + (ny : Int) := by omega
          have := (HR.out.set i (.int .i64 ((nx * 256 + ny : Nat) : Int))).drew
          rw [ivs_set, hv, wfill_next a i hlt, ← hv, ec] at this
          exact this
        · exact (HB.out.setCell (by show w.heap.size ≤ w1.heap.size; omega) _).drew
        · intro j hj
          show (wr.setCell _ _).cell? _ = _
          rw [World.cell?_setCell_other _ _ _ _ (by simp; try omega)]
          exact HC.out j hj
      case measure => simp [intOf]; omega
    · obtain rfl : i = 8 := by omega
      have HR' : Hid (RowIs wr w1.heap.size (ivs (Pl.words a)) 77) := by
        have e : wfill a 8 = Pl.words a := by unfold wfill; rw [List.take_of_length_le (by rw [Pl.words_length]; omega)]; simp
        rw [← e]; exact HR
      clear HR HC HS
      have hw8 := Pl.words_length a
      have HW8 := Lib.hid hw8
      clear hw8
      obtain ⟨ws, hws⟩ : ∃ ws, ws = Pl.words a := ⟨_, rfl⟩
      rw [← hws] at HR' HW8
      rw [show ((8 : Nat) : Int) = 8 from rfl]
      have HWS := Lib.hid hws
      clear hws
      go_wp2
      obtain ⟨wo, rfl⟩ : ∃ wo : World, wo = wr := ⟨_, rfl⟩
      go_loopw [8, 9, 10, 11, 50] (fun s8 s9 _ _ s50 wr => ∃ i : Nat, i ≤ 8 ∧ s50 = .int .i64 i ∧ s8 = .int .i64 (bst ws i).1 ∧ s9 = .int .i64 (bst ws i).2 ∧ Hid (RowIs wr w1.heap.size (ivs ws) 77) ∧ Hid (Below w.heap.size w wr)) (fun _ _ _ _ s50 _ => 8 - (intOf s50).toNat)
      case atStart => exact ⟨0, by omega, rfl, rfl, rfl, HR', HB⟩
      case round =>
        clear HR' HB
        obtain ⟨i, hi, rfl, rfl, rfl, HR, HB⟩ := hrel
        by_cases hlt : i < 8
        · have hd8 : decide ((i : Int) < 8) = true := decide_eq_true (by omega)
          go_wp2
          obtain ⟨wo, rfl⟩ : ∃ wo : World, wo = wr := ⟨_, rfl⟩
          go_loopw [11] (fun s11 wr => ∃ n : Nat, i + n ≤ 8 ∧ s11 = .int .i64 n ∧ Hid (n ≤ Pl.zrun ws i) ∧ Hid (RowIs wr w1.heap.size (ivs ws) 77) ∧ Hid (Below w.heap.size w wr)) (fun s11 _ => 8 - (intOf s11).toNat)
          case atStart => exact ⟨0, by omega, rfl, Nat.zero_le _, HR, HB⟩
          case round =>
            clear HR HB
            obtain ⟨n, hn, rfl, HZ, HR, HB⟩ := hrel
            by_cases hin : i + n < 8
            · have c2 := HR.out.cell (i + n)
              rw [ivs_get _ _ (by rw [HW8.out]; exact hin)] at c2
              obtain ⟨v, hv⟩ : ∃ v, v = ws.getD (i + n) 0 := ⟨_, rfl⟩
              rw [← hv] at c2
              have HV := Lib.hid hv
              clear hv
              by_cases hv0 : v = 0
              · have ev : ((v : Int) == 0) = true := by rw [beq_iff_eq]; omega
                have HV0 := Lib.hid hv0
                clear hv0
                go_wp2
                go_roundw
                case rel => first | exact ⟨n + 1, by omega, by go_num, zrun_next HZ.out (by rw [HW8.out]; omega) (by rw [← HV.out]; exact HV0.out), HR, HB⟩ | ((repeat apply Exists.intro); exact ⟨⟨n + 1, by omega, by go_num, zrun_next HZ.out (by rw [HW8.out]; omega) (by rw [← HV.out]; exact HV0.out), HR, HB⟩, rfl⟩)
                case measure => simp [intOf]; omega
              · have ev : ((v : Int) == 0) = false := by rw [beq_eq_false_iff_ne]; omega
                have HV0 := Lib.hid hv0
                clear hv0
                have HN := Lib.hid (zrun_stop HZ.out (by rw [HW8.out]; omega) (by rw [← HV.out]; exact HV0.out))
                have hbd := bst_bd ws HW8.out i hi
                have HBS := Lib.hid (bst_succ ws i)
                obtain ⟨o, ho⟩ : ∃ o, o = bst ws i := ⟨_, rfl⟩
                rw [← ho] at hbd
                rw [← ho]
                have HO := Lib.hid ho
                clear ho
                by_cases hgt : o.2 < n
                · go_wp2
                  go_roundw
                  case rel =>
                    have e : bst ws (i + 1) = ((i : Int), n) := by rw [HBS.out, ← HO.out]; unfold Pl.bestStep; rw [HN.out, if_pos hgt]
                    first | exact ⟨i + 1, by omega, by go_num, by rw [e], by rw [e], HR, HB⟩ | ((repeat apply Exists.intro); exact ⟨⟨i + 1, by omega, by go_num, by rw [e], by rw [e], HR, HB⟩, rfl⟩)
                  case measure => simp [intOf]; omega
                · go_wp2
                  go_roundw
                  case rel =>
                    have e : bst ws (i + 1) = o := by rw [HBS.out, ← HO.out]; unfold Pl.bestStep; rw [HN.out, if_neg hgt]
                    first | exact ⟨i + 1, by omega, by go_num, by rw [e], by rw [e], HR, HB⟩ | ((repeat apply Exists.intro); exact ⟨⟨i + 1, by omega, by go_num, by rw [e], by rw [e], HR, HB⟩, rfl⟩)
                  case measure => simp [intOf]; omega
            · have HN := Lib.hid (zrun_end HZ.out (by rw [HW8.out]; omega))
              have hbd := bst_bd ws HW8.out i hi
              have HBS := Lib.hid (bst_succ ws i)
              obtain ⟨o, ho⟩ : ∃ o, o = bst ws i := ⟨_, rfl⟩
              rw [← ho] at hbd
              rw [← ho]
              have HO := Lib.hid ho
              clear ho
              by_cases hgt : o.2 < n
              · go_wp2
                go_roundw
                case rel =>
                  have e : bst ws (i + 1) = ((i : Int), n) := by rw [HBS.out, ← HO.out]; unfold Pl.bestStep; rw [HN.out, if_pos hgt]
                  first | exact ⟨i + 1, by omega, by go_num, by rw [e], by rw [e], HR, HB⟩ | ((repeat apply Exists.intro); exact ⟨⟨i + 1, by omega, by go_num, by rw [e], by rw [e], HR, HB⟩, rfl⟩)
                case measure => simp [intOf]; omega
              · go_wp2
                go_roundw
                case rel =>
                  have e : bst ws (i + 1) = o := by rw [HBS.out, ← HO.out]; unfold Pl.bestStep; rw [HN.out, if_neg hgt]
                  first | exact ⟨i + 1, by omega, by go_num, by rw [e], by rw [e], HR, HB⟩ | ((repeat apply Exists.intro); exact ⟨⟨i + 1, by omega, by go_num, by rw [e], by rw [e], HR, HB⟩, rfl⟩)
                case measure => simp [intOf]; omega
        · obtain rfl : i = 8 := by omega
          have hbd := bst_bd ws HW8.out 8 hi
          obtain ⟨o, ho⟩ : ∃ o, o = bst ws 8 := ⟨_, rfl⟩
          rw [← ho] at hbd
          rw [← ho]
          have HO := Lib.hid ho
          clear ho
          obtain ⟨at_, sz, rfl⟩ : ∃ x y, o = (x, y) := ⟨o.1, o.2, rfl⟩
          simp only at hbd
          simp only
          obtain ⟨hb1, hb2, hb3, hb4⟩ := hbd
          rw [show ((8 : Nat) : Int) = 8 from rfl]
          have HE : Hid (Pl.emit ws at_ sz 9 0 (⟨#[]⟩ : ByteArray).data.toList = Pl.print a) := by
            have h1 : Pl.best ws = (at_, sz) := HO.out.symm
            unfold Pl.print Pl.print6
            rw [H4.out, ← HWS.out, h1]; rfl
          clear HO H4
          go_wp2
          obtain ⟨wo, rfl⟩ : ∃ wo : World, wo = wr := ⟨_, rfl⟩
          go_loopw [12, 13] (fun s12 s13 wr => ∃ (i f : Nat) (s : ByteArray), s12 = .string s ∧ s13 = .int .i64 i ∧ i ≤ 16 ∧ s.size ≤ 7 * i ∧ Hid (9 ≤ f + i ∧ Pl.emit ws at_ sz f i s.data.toList = Pl.print a) ∧ Hid (RowIs wr w1.heap.size (ivs ws) 77) ∧ Hid (Below w.heap.size w wr)) (fun _ s13 _ => 8 - (intOf s13).toNat)
          case atStart => exact ⟨0, 9, ⟨#[]⟩, rfl, rfl, by omega, by simp [ByteArray.size], ⟨by omega, HE.out⟩, HR, HB⟩
          case round =>
            clear HR HB HE
            obtain ⟨i, f, s, rfl, rfl, hi, hsz, HE, HR, HB⟩ := hrel
            have hf := HE.out.1
            by_cases hlt : i < 8
            · have hd8 : decide ((i : Int) < 8) = true := decide_eq_true (by omega)
              obtain ⟨f, rfl⟩ : ∃ m, f = m + 1 := ⟨f - 1, by omega⟩
              by_cases hat : (i : Int) = at_
              · have hq : ((i : Int) == at_) = true := by rw [beq_iff_eq]; exact hat
                have HAT := Lib.hid hat
                clear hat
                go_wp2
                go_roundw
                case rel =>
                  refine ⟨i + sz, f, s ++ ⟨#[58, 58]⟩, rfl, by go_num, by omega, by rw [ByteArray.size_append]; show s.size + 2 ≤ _; omega, ⟨by have := HE.out.1; omega, ?_⟩, HR, HB⟩
                  have h2 := HE.out.2
                  rw [Pl.emit, if_neg (by omega), if_pos HAT.out] at h2
                  rw [ByteArray.data_append, Array.toList_append]
                  exact h2
                case measure => simp [intOf]; omega
              · have hq : ((i : Int) == at_) = false := by rw [beq_eq_false_iff_ne]; exact hat
                have HAT := Lib.hid hat
                clear hat
                obtain ⟨v, hv⟩ : ∃ v, v = ws.getD i 0 := ⟨_, rfl⟩
                have c2 := HR.out.cell i
                rw [ivs_get _ _ (by rw [HW8.out]; exact hlt), ← hv] at c2
                have hv5 : v < 65536 := by
                  rw [hv, HWS.out]
                  unfold Pl.words
                  rw [List.getD, List.getElem?_eq_getElem (by simpa using hlt)]
                  simp only [List.getElem_map, List.getElem_range, Option.getD_some]
                  exact Pl.wordAt_lt a _
                have HE2 : Hid (Pl.emit ws at_ sz f (i + 1) (s.data.toList ++ Pl.sepOf s.data.toList ++ Pl.hexDig v) = Pl.print a) := by
                  have h2 := HE.out.2
                  rw [Pl.emit, if_neg (by omega), if_neg HAT.out, ← hv] at h2
                  exact h2
                have HL := Lib.hid (Pl.hexDig_length v hv5)
                clear hv HE
                have hw9 : 9 ≤ w1.heap.size := by have := HW.out.size; omega
                by_cases hse : s.data.toList = []
                · obtain rfl : s = ⟨#[]⟩ := by
                    apply ByteArray.ext; apply Array.toList_inj.1; simpa using hse
                  clear hse
                  have hm : (⟨#[]⟩ : ByteArray).toList.isEmpty = true := by rw [Lib.toList_data]; rfl
                  have hfm := Lib.hid (formatInt16 v hv5 wr (HW.out.below HB.out HW.out.size))
                  go_wp2_with fail
                  refine hfm.out.mono ?_
                  rintro e w2 ⟨rfl, hb2⟩
                  have HB2 : Hid (Below w.heap.size w w2) := HB.out.trans (hb2.mono (by have := HB.out.size; omega))
                  have HR2 : Hid (RowIs w2 w1.heap.size (ivs ws) 77) := HR.out.below hb2 HR.out.lt
                  have hl4 : (⟨(Pl.hexDig v).toArray⟩ : ByteArray).size ≤ 4 := by show (Pl.hexDig v).toArray.size ≤ 4; rw [List.size_toArray]; exact HL.out
                  obtain ⟨h, hh⟩ : ∃ h : ByteArray, h = ⟨(Pl.hexDig v).toArray⟩ := ⟨_, rfl⟩
                  rw [← hh] at hl4
                  rw [← hh]
                  have HH := Lib.hid hh
                  clear hb2 HB HR hfm hh
                  have hz0 : (⟨#[]⟩ : ByteArray).size = 0 := rfl
                  go_wp2
                  go_roundw
                  case rel =>
                    refine ⟨i + 1, f, (⟨#[]⟩ : ByteArray) ++ h, rfl, by go_num, by omega, by rw [ByteArray.size_append]; omega, ⟨by omega, ?_⟩, HR2, HB2⟩
                    rw [ByteArray.data_append, Array.toList_append, HH.out]
                    exact HE2.out
                  case measure => simp [intOf]; omega
                · have hne : s.toList.isEmpty = false := by
                    rw [Lib.toList_data]; cases h : s.data.toList with
                    | nil => exact absurd h hse
                    | cons x r => rfl
                  have hne2 : ¬ s.toList = [] := by rw [Lib.toList_data]; exact hse
                  have hhs := Lib.hid (Tryd.strings_HasSuffix s ⟨#[58]⟩ wr (by omega))
                  have hfm := Lib.hid (formatInt16 v hv5 wr (HW.out.below HB.out HW.out.size))
                  have HSE := Lib.hid hse
                  clear hse
                  cases hsf : Lib.hasSuffix s.data.toList [58] with
                  | true =>
                    have HSF := Lib.hid hsf
                    clear hsf
                    go_wp2_with fail
                    refine hhs.out.mono ?_
                    rintro e w2 ⟨rfl, rfl⟩
                    rw [show Lib.hasSuffix s.data.toList (⟨#[58]⟩ : ByteArray).data.toList = true from HSF.out]
                    go_wp2_with fail
                    refine hfm.out.mono ?_
                    rintro e w3 ⟨rfl, hb2⟩
                    have HB2 : Hid (Below w.heap.size w w3) := HB.out.trans (hb2.mono (by have := HB.out.size; omega))
                    have HR2 : Hid (RowIs w3 w1.heap.size (ivs ws) 77) := HR.out.below hb2 HR.out.lt
                    have hl4 : (⟨(Pl.hexDig v).toArray⟩ : ByteArray).size ≤ 4 := by show (Pl.hexDig v).toArray.size ≤ 4; rw [List.size_toArray]; exact HL.out
                    obtain ⟨h, hh⟩ : ∃ h : ByteArray, h = ⟨(Pl.hexDig v).toArray⟩ := ⟨_, rfl⟩
                    rw [← hh] at hl4
                    rw [← hh]
                    have HH := Lib.hid hh
                    clear hb2 HB HR hfm hhs hh
                    go_wp2
                    go_roundw
                    case rel =>
                      refine ⟨i + 1, f, s ++ h, rfl, by go_num, by omega, by rw [ByteArray.size_append]; omega, ⟨by omega, ?_⟩, HR2, HB2⟩
                      rw [ByteArray.data_append, Array.toList_append, HH.out]
                      have h2 := HE2.out
                      have h3 : Pl.sepOf s.data.toList = [] := by unfold Pl.sepOf; rw [if_neg]; rw [HSF.out]; simp
                      rw [h3, List.append_nil] at h2
                      exact h2
                    case measure => simp [intOf]; omega
                  | false =>
                    have HSF := Lib.hid hsf
                    clear hsf
                    go_wp2_with fail
                    refine hhs.out.mono ?_
                    rintro e w2 ⟨rfl, rfl⟩
                    rw [show Lib.hasSuffix s.data.toList (⟨#[58]⟩ : ByteArray).data.toList = false from HSF.out]
                    have h1z : (⟨#[58]⟩ : ByteArray).size = 1 := rfl
                    go_wp2_with fail
                    refine hfm.out.mono ?_
                    rintro e w3 ⟨rfl, hb2⟩
                    have HB2 : Hid (Below w.heap.size w w3) := HB.out.trans (hb2.mono (by have := HB.out.size; omega))
                    have HR2 : Hid (RowIs w3 w1.heap.size (ivs ws) 77) := HR.out.below hb2 HR.out.lt
                    have hl4 : (⟨(Pl.hexDig v).toArray⟩ : ByteArray).size ≤ 4 := by show (Pl.hexDig v).toArray.size ≤ 4; rw [List.size_toArray]; exact HL.out
                    obtain ⟨h, hh⟩ : ∃ h : ByteArray, h = ⟨(Pl.hexDig v).toArray⟩ := ⟨_, rfl⟩
                    rw [← hh] at hl4
                    rw [← hh]
                    have HH := Lib.hid hh
                    clear hb2 HB HR hfm hhs hh
                    go_wp2
                    go_roundw
                    case rel =>
                      refine ⟨i + 1, f, s ++ ⟨#[58]⟩ ++ h, rfl, by go_num, by omega, by rw [ByteArray.size_append, ByteArray.size_append]; omega, ⟨by omega, ?_⟩, HR2, HB2⟩
                      rw [ByteArray.data_append, Array.toList_append, ByteArray.data_append, Array.toList_append, HH.out]
                      have h2 := HE2.out
                      have h3 : Pl.sepOf s.data.toList = [58] := by unfold Pl.sepOf; rw [if_pos ⟨HSE.out, HSF.out⟩]
                      rw [h3] at h2
                      exact h2
                    case measure => simp [intOf]; omega
            · have HF : Hid (s.data.toList = Pl.print a) := by
                have h2 := HE.out.2
                cases f with
                | zero => exact h2
                | succ f => rw [Pl.emit, if_pos (by omega)] at h2; exact h2
              go_wp2
              go_ret
              refine ⟨?_, HB.out⟩
              rw [← HF.out, Lib.mk_data]
              rfl
end Go.Proofs.YtgdfmhdgmjogiabDoor
