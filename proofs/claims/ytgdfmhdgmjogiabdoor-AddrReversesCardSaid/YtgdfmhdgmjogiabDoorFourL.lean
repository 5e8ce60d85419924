/- The contract of addr.four. -/
import Derived.Test.YtgdfmhdgmjogiabDoorFour
import Derived.Outline
namespace Go.Proofs.YtgdfmhdgmjogiabDoor
open Go.RowKit
set_option linter.unusedVariables false

/-- What four and six answer. -/
def AddrOk (r : Option (List UInt8)) (w : World) (e : Ending) (w' : World) : Prop :=
  e = .returned (.tuple #[.agg (avs (r.getD zero16)), .bool r.isSome]) ∧ Below w.heap.size w w'

/-- Four bytes, the first ones told. -/
def fill4 (us : List Nat) : List UInt8 := us.map UInt8.ofNat ++ List.replicate (4 - us.length) 0
theorem fill4_set (us : List Nat) (u : Nat) (h : us.length < 4) : (avs (fill4 us)).setIfInBounds us.length (.int .u8 ((UInt8.ofNat u).toNat : Int)) = avs (fill4 (us ++ [u])) := by
  unfold fill4 avs
  rw [List.length_append, List.length_singleton, show 4 - us.length = (4 - (us.length + 1)) + 1 by omega, List.replicate_succ]
  simp [List.set_append_right]

set_option maxHeartbeats 4000000 in
set_option maxRecDepth 100000 in
theorem four_any (s : ByteArray) (hs : s.size < 4294967281) (w : World) (h : WdA w) : Calls Tryd.prog 35 #[.string s] w (AddrOk (Pl.four s.data.toList) w) := by
  have hw1 : WdA (w.alloc (.cells (avs zero16) 23)) := h.on ((Below.refl _ _).alloc (Nat.le_refl _) _)
  have HSP := Lib.hid (split_any s 46 (w.alloc (.cells (avs zero16) 23)) hw1 hs)
  have HW := Lib.hid h
  clear h hw1
  go_enter Tryd.func35, Tryd.ntmps35
  go_wp2_with fail
  refine HSP.out.mono ?_
  rintro e w1 ⟨xs, hxs, rfl, rfl⟩
  have HXS := Lib.hid hxs
  clear hxs HSP
  by_cases h4 : xs.length = 4
  · have HR0 : Hid (RowIs ((w.alloc (.cells (avs zero16) 23)).alloc (.cells (svs xs) 9)) w.heap.size (avs zero16) 23) := (RowIs.new w _ _).past _
    have HX0 : Hid (RowIs ((w.alloc (.cells (avs zero16) 23)).alloc (.cells (svs xs) 9)) (w.heap.size + 1) (svs xs) 9) := by
      have := RowIs.new (w.alloc (.cells (avs zero16) 23)) (svs xs) 9
      rw [World.size_alloc] at this; exact this
    have HB0 : Hid (Below w.heap.size w ((w.alloc (.cells (avs zero16) 23)).alloc (.cells (svs xs) 9))) := ((Below.refl _ _).alloc (Nat.le_refl _) _).alloc (by simp) _
    have hz0 : ((w.alloc (.cells (avs zero16) 23)).alloc (.cells (svs xs) 9)).heap.size = w.heap.size + 2 := by simp
    rw [World.size_alloc]
    obtain ⟨w1, hw1⟩ : ∃ w1, w1 = ((w.alloc (.cells (avs zero16) 23)).alloc (.cells (svs xs) 9)) := ⟨_, rfl⟩
    rw [← hw1] at HR0 HX0 HB0 hz0 ⊢
    clear hw1
    have H4 := Lib.hid h4
    rw [h4]
    have HZ := Lib.hid hz0
    clear h4 hz0
    go_wp2_with fail
    rw [HZ.out]
    have HT0 : Hid (RowIs (w1.alloc (.cells #[.int .u8 0, .int .u8 0, .int .u8 0, .int .u8 0] 92)) (w.heap.size + 2) (avs (fill4 [])) 92) := by
      have := RowIs.new w1 (avs (fill4 [])) 92
      rw [HZ.out] at this; exact this
    have HR1 : Hid (RowIs (w1.alloc (.cells #[.int .u8 0, .int .u8 0, .int .u8 0, .int .u8 0] 92)) w.heap.size (avs zero16) 23) := HR0.out.past _
    have HX1 : Hid (RowIs (w1.alloc (.cells #[.int .u8 0, .int .u8 0, .int .u8 0, .int .u8 0] 92)) (w.heap.size + 1) (svs xs) 9) := HX0.out.past _
    have HB1 : Hid (Below w.heap.size w (w1.alloc (.cells #[.int .u8 0, .int .u8 0, .int .u8 0, .int .u8 0] 92))) := HB0.out.alloc HB0.out.size _
    clear HR0 HX0 HB0
    go_loopw [6, 7, 8, 9, 18] (fun _ _ _ _ s18 wr => ∃ (i : Nat) (us : List Nat), i ≤ 4 ∧ us.length = i ∧ s18 = .int .i64 i ∧ Hid (Pl.mapO Pl.parse8 ((Pl.splitc 46 s.data.toList).take i) = some us) ∧ Hid (RowIs wr (w.heap.size + 2) (avs (fill4 us)) 92) ∧ Hid (RowIs wr w.heap.size (avs zero16) 23) ∧ Hid (RowIs wr (w.heap.size + 1) (svs xs) 9) ∧ Hid (Below w.heap.size w wr)) (fun _ _ _ _ s18 _ => 4 - (intOf s18).toNat)
    case atStart => exact ⟨0, [], by omega, rfl, rfl, rfl, HT0, HR1, HX1, HB1⟩
    case round =>
      clear HT0 HR1 HX1 HB1
      obtain ⟨i, us, hi, hus, rfl, HM, HT, HR, HX, HB⟩ := hrel
      have HUS := Lib.hid hus
      clear hus
      by_cases hlt : i < 4
      · have hd4 : decide ((i : Int) < 4) = true := decide_eq_true (by omega)
        obtain ⟨x, hx⟩ : ∃ x, xs[i]? = some x := ⟨xs[i]'(by rw [H4.out]; omega), List.getElem?_eq_getElem _⟩
        have c0 := HX.out.cell i
        rw [svs_get xs i x hx] at c0
        have hpl : (Pl.splitc 46 s.data.toList)[i]? = some x.data.toList := by rw [← HXS.out, List.getElem?_map, hx]; rfl
        have HPL := Lib.hid hpl
        clear hx hpl
        have hxl : x.size ≤ 281474976710656 := by
          have := Pl.splitc_le 46 s.data.toList _ (List.mem_of_getElem? HPL.out)
          rw [← Lib.size_eq, ← Lib.size_eq] at this; omega
        have hpu := Lib.hid (parseUint8 x hxl wr (HW.out.below HB.out HW.out.size))
        go_wp2_with fail
        refine hpu.out.mono ?_
        have HTK : Hid ((Pl.splitc 46 s.data.toList).take (i + 1) = (Pl.splitc 46 s.data.toList).take i ++ [x.data.toList]) := by
          show _ = _
          rw [List.take_add_one, HPL.out]; rfl
        rintro e w2 ⟨hb2, ⟨u, hu, rfl⟩ | ⟨hn, v, T, p, rfl⟩⟩
        · have HB2 : Hid (Below w.heap.size w w2) := HB.out.trans (hb2.mono HB.out.size)
          have HT2 := Lib.hid (HT.out.below hb2 HT.out.lt)
          have HR2 := Lib.hid (HR.out.below hb2 HR.out.lt)
          have HX2 := Lib.hid (HX.out.below hb2 HX.out.lt)
          have HM2 : Hid (Pl.mapO Pl.parse8 ((Pl.splitc 46 s.data.toList).take (i + 1)) = some (us ++ [u])) := by
            show _ = _
            rw [HTK.out, mapO_app Pl.parse8 _ us _ HM.out, hu]; rfl
          have HWR : Hid ((u : Int) % 256 = ((UInt8.ofNat u).toNat : Int)) := by show _ = _; rw [UInt8.toNat_ofNat']; omega
          have cT := HT2.out.cell i
          have fT := HT2.out.frozen i
          rw [avs_get _ _ (by unfold fill4; simp [HUS.out]; omega)] at cT
          generalize ((fill4 us).getD i 0).toNat = old at cT
          clear hb2 HB HT HR HX HM hu hpu c0
          go_wp2_with fail
          have HT3 : Hid (RowIs (w2.setCell ⟨w.heap.size + 2, i, none⟩ (.int .u8 ((u : Int) % 256))) (w.heap.size + 2) (avs (fill4 (us ++ [u]))) 92) := by
            have := HT2.out.set i (.int .u8 ((u : Int) % 256))
            rw [HWR.out] at this ⊢
            have e := fill4_set us u (by rw [HUS.out]; exact hlt)
            rw [HUS.out] at e
            rw [e] at this
            exact this
          have HR3 := Lib.hid (HR2.out.other (w.heap.size + 2) i (.int .u8 ((u : Int) % 256)) (by omega))
          have HX3 := Lib.hid (HX2.out.other (w.heap.size + 2) i (.int .u8 ((u : Int) % 256)) (by omega))
          have HB3 : Hid (Below w.heap.size w (w2.setCell ⟨w.heap.size + 2, i, none⟩ (.int .u8 ((u : Int) % 256)))) := HB2.out.setCell (by show w.heap.size ≤ w.heap.size + 2; omega) _
          go_roundw
          case rel => first | exact ⟨i + 1, us ++ [u], by omega, by simp [HUS.out], by go_num, HM2, HT3, HR3, HX3, HB3⟩ | ((repeat apply Exists.intro); exact ⟨⟨i + 1, us ++ [u], by omega, by simp [HUS.out], by go_num, HM2, HT3, HR3, HX3, HB3⟩, rfl⟩)
          case measure => simp [intOf]; omega
        · have HB2 : Hid (Below w.heap.size w w2) := HB.out.trans (hb2.mono HB.out.size)
          have HR2 := Lib.hid (HR.out.below hb2 HR.out.lt)
          have HF : Hid (Pl.four s.data.toList = none) := by
            show _ = _
            have hl : (Pl.splitc 46 s.data.toList).length = 4 := by rw [← HXS.out, List.length_map]; exact H4.out
            unfold Pl.four
            rw [if_pos hl]
            have h1 : Pl.mapO Pl.parse8 ((Pl.splitc 46 s.data.toList).take (i + 1)) = none := by rw [HTK.out, mapO_app Pl.parse8 _ us _ HM.out, hn]; rfl
            have h2 := mapO_none Pl.parse8 ((Pl.splitc 46 s.data.toList).drop (i + 1)) _ h1
            rw [List.take_append_drop] at h2
            rw [h2]; rfl
          clear hb2 HB HT HR HX HM hn hpu c0
          go_wp2_with (refine wpList_store_addr rfl (.tmp 2) (.tmp 30) rfl w.heap.size zero16 zero16 23 rfl rfl rfl rfl HR2.out ?_)
          have HR3 := Lib.hid (setRow_row HR2.out (avs zero16))
          refine bodyPost_ret (results_addr Tryd.results35 _ _ w.heap.size zero16 23 rfl rfl HR3.out) rfl ?_
          refine ⟨?_, below_setRow HB2.out _ (Nat.le_refl _) _⟩
          rw [HF.out]; rfl
      · obtain rfl : i = 4 := by omega
        rw [show ((4 : Nat) : Int) = 4 from rfl]
        obtain ⟨a, b, c, d, rfl⟩ : ∃ a b c d, us = [a, b, c, d] := by
          have h := HUS.out
          match us, h with
          | [a, b, c, d], _ => exact ⟨a, b, c, d, rfl⟩
        have c0 := HT.out.cell 0
        have c1 := HT.out.cell 1
        have c2 := HT.out.cell 2
        have c3 := HT.out.cell 3
        have HF : Hid (Pl.four s.data.toList = some (Pl.v4 [UInt8.ofNat a, UInt8.ofNat b, UInt8.ofNat c, UInt8.ofNat d])) := by
          show _ = _
          have hl : (Pl.splitc 46 s.data.toList).length = 4 := by rw [← HXS.out, List.length_map]; exact H4.out
          unfold Pl.four
          have h1 := HM.out
          rw [List.take_of_length_le (by omega)] at h1
          rw [if_pos hl, h1]; rfl
        change _ = some (Value.int .u8 ((UInt8.ofNat a).toNat : Int)) at c0
        change _ = some (Value.int .u8 ((UInt8.ofNat b).toNat : Int)) at c1
        change _ = some (Value.int .u8 ((UInt8.ofNat c).toNat : Int)) at c2
        change _ = some (Value.int .u8 ((UInt8.ofNat d).toNat : Int)) at c3
        have hv4 := Lib.hid (v4_any (UInt8.ofNat a) (UInt8.ofNat b) (UInt8.ofNat c) (UInt8.ofNat d) wr)
        obtain ⟨xa, hxa⟩ : ∃ x, x = UInt8.ofNat a := ⟨_, rfl⟩
        obtain ⟨xb, hxb⟩ : ∃ x, x = UInt8.ofNat b := ⟨_, rfl⟩
        obtain ⟨xc, hxc⟩ : ∃ x, x = UInt8.ofNat c := ⟨_, rfl⟩
        obtain ⟨xd, hxd⟩ : ∃ x, x = UInt8.ofNat d := ⟨_, rfl⟩
        rw [← hxa] at c0 hv4 HF
        rw [← hxb] at c1 hv4 HF
        rw [← hxc] at c2 hv4 HF
        rw [← hxd] at c3 hv4 HF
        clear hxa hxb hxc hxd HM HT HX HUS
        go_wp2_with fail
        refine hv4.out.mono ?_
        rintro e w2 ⟨rfl, hb2⟩
        have HB2 : Hid (Below w.heap.size w w2) := HB.out.trans (hb2.mono HB.out.size)
        have HR2 := Lib.hid (HR.out.below hb2 HR.out.lt)
        clear hb2 HB HR c0 c1 c2 c3 hv4
        obtain ⟨v, hv⟩ : ∃ v, v = Pl.v4 [xa, xb, xc, xd] := ⟨_, rfl⟩
        have hv16 : v.length = 16 := by rw [hv]; rfl
        rw [← hv] at HF ⊢
        have HV := Lib.hid hv16
        clear hv hv16
        go_wp2_with (refine wpList_store_addr rfl (.tmp 2) (.tmp 44) rfl w.heap.size v zero16 23 rfl rfl HV.out rfl HR2.out ?_)
        have HR3 := Lib.hid (setRow_row HR2.out (avs v))
        refine bodyPost_ret (results_addr Tryd.results35 _ _ w.heap.size v 23 HV.out rfl HR3.out) rfl ?_
        refine ⟨?_, below_setRow HB2.out _ (Nat.le_refl _) _⟩
        rw [HF.out]; rfl
  · have HF : Hid (Pl.four s.data.toList = none) := by
      show _ = _
      unfold Pl.four
      rw [if_neg]
      rw [← HXS.out, List.length_map]; exact h4
    have hbn : ((xs.length : Int) != 4) = true := by rw [bne_iff_ne]; omega
    have HR0 : Hid (RowIs ((w.alloc (.cells (avs zero16) 23)).alloc (.cells (svs xs) 9)) w.heap.size (avs zero16) 23) := (RowIs.new w _ _).past _
    have HB0 : Hid (Below w.heap.size w ((w.alloc (.cells (avs zero16) 23)).alloc (.cells (svs xs) 9))) := ((Below.refl _ _).alloc (Nat.le_refl _) _).alloc (by simp) _
    rw [World.size_alloc]
    obtain ⟨w1, hw1⟩ : ∃ w1, w1 = ((w.alloc (.cells (avs zero16) 23)).alloc (.cells (svs xs) 9)) := ⟨_, rfl⟩
    rw [← hw1] at HR0 HB0 ⊢
    clear hw1 h4
    go_wp2_with (refine wpList_store_addr rfl (.tmp 2) (.tmp 15) rfl w.heap.size zero16 zero16 23 rfl rfl rfl rfl HR0.out ?_)
    have HR3 := Lib.hid (setRow_row HR0.out (avs zero16))
    refine bodyPost_ret (results_addr Tryd.results35 _ _ w.heap.size zero16 23 rfl rfl HR3.out) rfl ?_
    refine ⟨?_, below_setRow HB0.out _ (Nat.le_refl _) _⟩
    rw [HF.out]; rfl
end Go.Proofs.YtgdfmhdgmjogiabDoor
