/- The law AddrNoughts, walked: what it answers is true. -/
import Derived.Test.YtgdfmhdgmjogiaaDoorFit
import Derived.Test.YtgdfmhdgmjogiaaDoorText
import Derived.Test.YtgdfmhdgmjogiaaDoorArr
import Derived.Test.YtgdfmhdgmjogiaaDoorByt
namespace Go.Proofs.YtgdfmhdgmjogiaaDoor
open Go.RowKit
set_option linter.unusedVariables false
set_option linter.unusedSimpArgs false

/-- The bytes so far: the first i of them turned. -/
def upTo (l : List UInt8) (i : Nat) : List UInt8 := (l.take i).map Pl.upc ++ l.drop i
theorem upTo_zero (l : List UInt8) : upTo l 0 = l := by simp [upTo]
theorem upTo_all (l : List UInt8) : upTo l l.length = l.map Pl.upc := by simp [upTo]
theorem upTo_len (l : List UInt8) (i : Nat) : (upTo l i).length = l.length := by simp [upTo]; omega
theorem upTo_at (l : List UInt8) (i : Nat) (h : i < l.length) : (upTo l i).getD i 0 = l.getD i 0 := by
  unfold upTo
  have : ((l.take i).map Pl.upc).length = i := by simp; omega
  rw [List.getD_eq_getElem?_getD, List.getD_eq_getElem?_getD, List.getElem?_append_right (by omega), this, Nat.sub_self, List.getElem?_drop, Nat.add_zero]
theorem upTo_step (l : List UInt8) (i : Nat) (h : i < l.length) : upTo l (i + 1) = (upTo l i).set i (Pl.upc (l.getD i 0)) := by
  unfold upTo
  have hl : ((l.take i).map Pl.upc).length = i := by simp; omega
  rw [List.take_succ_eq_append_getElem h, List.map_append, List.append_assoc, List.set_append_right _ _ (by omega), hl, Nat.sub_self]
  congr 1
  rw [show l.drop i = l[i] :: l.drop (i + 1) from List.drop_eq_getElem_cons h, List.set_cons_zero]
  simp [List.getD, List.getElem?_eq_getElem h]
theorem upTo_keep (l : List UInt8) (i : Nat) (h : i < l.length) (hc : Pl.isLow (l.getD i 0) = false) : upTo l (i + 1) = upTo l i := by
  unfold upTo
  rw [List.take_succ_eq_append_getElem h, List.map_append, List.append_assoc]
  congr 1
  have hg : l.getD i 0 = l[i] := by simp [List.getD, List.getElem?_eq_getElem h]
  conv => rhs; rw [List.drop_eq_getElem_cons h]
  rw [hg] at hc
  simp [Pl.upc, hc]
def anyLow (l : List UInt8) (i : Nat) : Bool := (l.take i).any Pl.isLow
theorem anyLow_step (l : List UInt8) (i : Nat) (h : i < l.length) : anyLow l (i + 1) = (anyLow l i || Pl.isLow (l.getD i 0)) := by
  unfold anyLow
  rw [List.take_succ_eq_append_getElem h, List.any_append]
  simp [List.getD, List.getElem?_eq_getElem h]
theorem cat_data (s t : ByteArray) : (s ++ t).data.toList = s.data.toList ++ t.data.toList := by simp
theorem run_slice_one (s : ByteArray) (hh : 1 ≤ s.size) (w : World) :
    (Instr.slice 9 (.string s) none (some (.int .i64 1)) none).run Tryd.prog w = .ok (.string (s.extract 0 1)) w := by
  unfold Instr.slice
  have h1 : (0 : Int) ≤ 1 ∧ (1 : Int) ≤ s.size := ⟨by omega, by omega⟩
  simp [run_underlying Tryd.underlying9, Instr.sliceBounds, Instr.sliceBound, asIntOf, h1, hh]

set_option maxHeartbeats 16000000 in
set_option maxRecDepth 100000 in
theorem lawNoughts (a : List UInt8) (ha : a.length = 16) (n : Int) (w : World) (h : WdA w) : Calls Tryd.prog 13 #[.agg (avs a), .int .i64 n] w fun e w' => e = .returned (.bool true) ∧ Below w.heap.size w w' := by
  have HRA : Hid (RowIs (w.alloc (.cells (avs a) 51)) w.heap.size (avs a) 51) := RowIs.new w _ _
  have HB0 : Hid (Below w.heap.size w (w.alloc (.cells (avs a) 51))) := (Below.refl _ _).alloc (Nat.le_refl _) _
  have HF := Lib.hid (fit_any (w.alloc (.cells (avs a) 51)) (h.on HB0.out))
  have HW := Lib.hid h
  clear h
  go_enter Tryd.func13, Tryd.ntmps13
  go_wp2_with fail
  refine HF.out.mono ?_
  rintro e w1 ⟨rfl, hb⟩
  have HB1 : Hid (Below w.heap.size w w1) := HB0.out.trans (hb.mono HB0.out.size)
  have HA1 := Lib.hid (HRA.out.below hb HRA.out.lt)
  clear hb HF HRA HB0
  have HP := Lib.hid (print_any a ha w1 (HW.out.on HB1.out))
  have HLA := Lib.hid (load_size a ha)
  go_wp2_with (refine wpList_load_row rfl 51 (.tmp 2) rfl w.heap.size rfl 51 (avs a) (0, 0) _ HA1.out Tryd.underlying51 rfl HLA.out ?_)
  refine HP.out.mono ?_
  rintro e w2 ⟨rfl, hb⟩
  have HB2 : Hid (Below w.heap.size w w2) := HB1.out.trans (hb.mono HB1.out.size)
  clear hb HP HA1 HB1
  obtain ⟨p, hp⟩ : ∃ p : ByteArray, p = ⟨(Pl.print a).toArray⟩ := ⟨_, rfl⟩
  have HPD : Hid (p.data.toList = Pl.print a) := by show _ = _; rw [hp]
  have HN : Hid ((Pl.print a).length = p.size) := by show _ = _; rw [Lib.size_eq, HPD.out]
  have hps : p.size ≤ 64 := by rw [← HN.out]; exact Pl.print_len a ha
  have hp0 : 0 < p.size := by rw [← HN.out]; exact Pl.print_nonempty a ha
  rw [← hp]
  clear hp
  have hg := sget p 0 hp0
  rw [HPD.out] at hg
  have HG := Lib.hid hg
  clear hg
  go_upto_if 28 with fail
  go_cut [6] (fun s6 wx => ∃ t : ByteArray, s6 = .string t ∧ Hid (Pl.parse t.data.toList = none) ∧ t.size ≤ 100 ∧ w2 = wx)
  case first =>
    rcases Pl.print_head a ha with ⟨d, r, h1, h2, h3⟩ | ⟨r, h1⟩
    · have hc2 : (((p[0]'hp0).toNat : Int) == 58) = false := by
        rw [HG.out, h1, beq_eq_false_iff_ne]
        intro h
        apply h2
        apply UInt8.toNat_inj.1
        show _ = 58
        have : (d.toNat : Int) = 58 := h
        omega
      have HNN : Hid (Pl.parse ((⟨#[48]⟩ : ByteArray) ++ p).data.toList = none) := by
        show _ = _
        rw [cat_data, HPD.out]
        exact Pl.none_nought a ha d r h1 h2
      have hsz : ((⟨#[48]⟩ : ByteArray) ++ p).size ≤ 100 := by
        rw [Lib.size_eq, cat_data, List.length_append, HPD.out, HN.out]
        show 1 + p.size ≤ 100
        omega
      clear h1 h2 h3 HG
      generalize ((⟨#[48]⟩ : ByteArray) ++ p) = t at *
      go_wp2_with fail
      go_meet
      case rel => exact ⟨t, rfl, HNN, hsz, rfl⟩
    · have hc2 : (((p[0]'hp0).toNat : Int) == 58) = true := by rw [HG.out, h1]; rfl
      have hsl := run_slice_one p hp0 w2
      have HNN : Hid (Pl.parse ((⟨#[48]⟩ : ByteArray) ++ p.extract 0 1 ++ p).data.toList = none) := by
        show _ = _
        rw [cat_data, cat_data, Lib.extract_data, HPD.out]
        have := Pl.none_colons a ha _ h1
        rw [h1] at this ⊢
        exact this
      have hsz : ((⟨#[48]⟩ : ByteArray) ++ p.extract 0 1 ++ p).size ≤ 100 := by
        rw [Lib.size_eq, cat_data, cat_data, Lib.extract_data, HPD.out]
        simp only [List.length_append, List.length_take, List.length_drop, HN.out]
        show 1 + _ + p.size ≤ 100
        omega
      clear h1 HG
      go_wp2_with fail
      go_meet
      case rel => exact ⟨_, rfl, HNN, hsz, by first | rfl | trivial⟩
  case rest =>
    obtain ⟨t, rfl, HT, hts, rfl⟩ := hcut
    clear HG
    have HPA := Lib.hid (parse_any t (by omega) w2 (HW.out.on HB2.out))
    go_wp2_with fail
    refine HPA.out.mono ?_
    rintro e v2 ⟨rfl, hb⟩
    rw [HT.out, show errno none = 5 from rfl, show (none : Option (List UInt8)).getD zero16 = zero16 from rfl]
    have HV : Hid (Below w.heap.size w v2) := HB2.out.trans (hb.mono HB2.out.size)
    clear hb HPA HB2
    have HNW : Hid (RowIs (v2.alloc (.cells (avs zero16) 51)) v2.heap.size (avs zero16) 51) := RowIs.new v2 _ _
    go_upto_region 8 with (refine wpList_store_addr rfl (.tmp 7) (.tmp 37) rfl v2.heap.size zero16 zero16 51 rfl rfl rfl rfl HNW.out ?_)
    have HB3 := Lib.hid (below_setRow (HV.out.alloc HV.out.size (.cells (avs zero16) 51)) v2.heap.size HV.out.size (avs zero16))
    rw [zero_lit]
    obtain ⟨w3, hw⟩ : ∃ w2, w2 = (v2.alloc (.cells (avs zero16) 51)).setRow v2.heap.size (avs zero16) := ⟨_, rfl⟩
    obtain ⟨g2, hgk⟩ : ∃ n, n = v2.heap.size := ⟨_, rfl⟩
    rw [← hw] at HB3
    rw [← hw, ← hgk]
    clear hw hgk HNW HV
    have HC : Hid (Pl.parse (p ++ (⟨#[58]⟩ : ByteArray)).data.toList = none) := by
      show _ = _
      rw [cat_data, HPD.out]
      exact Pl.none_colon a ha
    have hcs : (p ++ (⟨#[58]⟩ : ByteArray)).size < 4294967281 := by
      rw [Lib.size_eq, cat_data, List.length_append, HPD.out, HN.out]
      show p.size + 1 < _
      omega
    have HPA := Lib.hid (parse_any (p ++ (⟨#[58]⟩ : ByteArray)) hcs w3 (HW.out.on HB3.out))
    go_wp2_with fail
    refine HPA.out.mono ?_
    rintro e v3 ⟨rfl, hb⟩
    rw [HC.out, show errno none = 5 from rfl, show (none : Option (List UInt8)).getD zero16 = zero16 from rfl]
    have HV : Hid (Below w.heap.size w v3) := HB3.out.trans (hb.mono HB3.out.size)
    clear hb HPA HB3
    have HNW : Hid (RowIs (v3.alloc (.cells (avs zero16) 51)) v3.heap.size (avs zero16) 51) := RowIs.new v3 _ _
    go_upto_region 9 with (refine wpList_store_addr rfl (.tmp 9) (.tmp 43) rfl v3.heap.size zero16 zero16 51 rfl rfl rfl rfl HNW.out ?_)
    have HB4 := Lib.hid (below_setRow (HV.out.alloc HV.out.size (.cells (avs zero16) 51)) v3.heap.size HV.out.size (avs zero16))
    rw [zero_lit]
    obtain ⟨w4, hw⟩ : ∃ w2, w2 = (v3.alloc (.cells (avs zero16) 51)).setRow v3.heap.size (avs zero16) := ⟨_, rfl⟩
    obtain ⟨g3, hgk⟩ : ∃ n, n = v3.heap.size := ⟨_, rfl⟩
    rw [← hw] at HB4
    rw [← hw, ← hgk]
    clear hw hgk HNW HV
    have HD : Hid (Pl.parse (p ++ (⟨#[46, 49]⟩ : ByteArray)).data.toList = none) := by
      show _ = _
      rw [cat_data, HPD.out]
      exact Pl.none_dot a ha
    have hds : (p ++ (⟨#[46, 49]⟩ : ByteArray)).size < 4294967281 := by
      rw [Lib.size_eq, cat_data, List.length_append, HPD.out, HN.out]
      show p.size + 2 < _
      omega
    clear hcs
    have HPA := Lib.hid (parse_any (p ++ (⟨#[46, 49]⟩ : ByteArray)) hds w4 (HW.out.on HB4.out))
    go_wp2_with fail
    refine HPA.out.mono ?_
    rintro e v4 ⟨rfl, hb⟩
    rw [HD.out, show errno none = 5 from rfl, show (none : Option (List UInt8)).getD zero16 = zero16 from rfl]
    have HV : Hid (Below w.heap.size w v4) := HB4.out.trans (hb.mono HB4.out.size)
    clear hb HPA HB4
    have HNW : Hid (RowIs (v4.alloc (.cells (avs zero16) 51)) v4.heap.size (avs zero16) 51) := RowIs.new v4 _ _
    go_upto_region 10 with (refine wpList_store_addr rfl (.tmp 11) (.tmp 49) rfl v4.heap.size zero16 zero16 51 rfl rfl rfl rfl HNW.out ?_)
    have HB5 := Lib.hid (below_setRow (HV.out.alloc HV.out.size (.cells (avs zero16) 51)) v4.heap.size HV.out.size (avs zero16))
    rw [zero_lit]
    obtain ⟨w5, hw⟩ : ∃ w2, w2 = (v4.alloc (.cells (avs zero16) 51)).setRow v4.heap.size (avs zero16) := ⟨_, rfl⟩
    obtain ⟨g4, hgk⟩ : ∃ n, n = v4.heap.size := ⟨_, rfl⟩
    rw [← hw] at HB5
    rw [← hw, ← hgk]
    clear hw hgk HNW HV
    have HE : Hid (Pl.parse (⟨#[]⟩ : ByteArray).data.toList = none) := Pl.none_empty
    clear hds
    have HPA := Lib.hid (parse_any (⟨#[]⟩ : ByteArray) (by decide) w5 (HW.out.on HB5.out))
    go_wp2_with fail
    refine HPA.out.mono ?_
    rintro e v5 ⟨rfl, hb⟩
    rw [HE.out, show errno none = 5 from rfl, show (none : Option (List UInt8)).getD zero16 = zero16 from rfl]
    have HV : Hid (Below w.heap.size w v5) := HB5.out.trans (hb.mono HB5.out.size)
    clear hb HPA HB5
    have HNW : Hid (RowIs (v5.alloc (.cells (avs zero16) 51)) v5.heap.size (avs zero16) 51) := RowIs.new v5 _ _
    go_upto_region 11 with (refine wpList_store_addr rfl (.tmp 13) (.tmp 53) rfl v5.heap.size zero16 zero16 51 rfl rfl rfl rfl HNW.out ?_)
    have HB6 := Lib.hid (below_setRow (HV.out.alloc HV.out.size (.cells (avs zero16) 51)) v5.heap.size HV.out.size (avs zero16))
    rw [zero_lit]
    obtain ⟨w6, hw⟩ : ∃ w2, w2 = (v5.alloc (.cells (avs zero16) 51)).setRow v5.heap.size (avs zero16) := ⟨_, rfl⟩
    obtain ⟨g5, hgk⟩ : ∃ n, n = v5.heap.size := ⟨_, rfl⟩
    rw [← hw] at HB6
    rw [← hw, ← hgk]
    clear hw hgk HNW HV
    have kc := run_bytes_of_string (P := Tryd.prog) w6 9 76 5 p Tryd.underlying9 Tryd.underlying76 Tryd.underlying5
    have hcap := grownCap_ge w6 p.size 0 5
    generalize grownCap w6 p.size 0 5 = cap at kc hcap
    have HR : Hid (RowB (w6.drew.alloc (.cells (bytesRow p cap) 5 ((bytesRow p cap).size, (bytesRow p cap).size + 1))) w6.heap.size (upTo (Pl.print a) 0)) := by
      have := RowB.made w6.drew p cap 5 hcap
      rw [HPD.out] at this
      rw [upTo_zero]
      exact this
    have HB7 : Hid (Below w.heap.size w (w6.drew.alloc (.cells (bytesRow p cap) 5 ((bytesRow p cap).size, (bytesRow p cap).size + 1)))) := (below_drewN HB6.out 1).alloc HB6.out.size _
    obtain ⟨w7, hw7⟩ : ∃ w7, w7 = w6.drew.alloc (.cells (bytesRow p cap) 5 ((bytesRow p cap).size, (bytesRow p cap).size + 1)) := ⟨_, rfl⟩
    have HZ6 : Hid (w.heap.size ≤ w6.heap.size) := HB6.out.size
    rw [← hw7] at kc HR HB7
    clear hw7 HB6
    obtain ⟨g, hgg⟩ : ∃ n, n = w6.heap.size := ⟨_, rfl⟩
    rw [← hgg] at kc HR HZ6
    clear hgg
    go_wp2_with fail
    go_loopw [16, 17, 59] (fun s16 _ s59 wr => ∃ i : Nat, i ≤ p.size ∧ s59 = .int .i64 i ∧ s16 = .bool (anyLow (Pl.print a) i) ∧ Hid (RowB wr g (upTo (Pl.print a) i)) ∧ Hid (Below w.heap.size w wr)) (fun _ _ s59 _ => p.size - (intOf s59).toNat)
    case atStart => exact ⟨0, by omega, rfl, rfl, HR, HB7⟩
    case round =>
      clear HR HB7
      obtain ⟨i, hi, rfl, rfl, HR, HB⟩ := hrel
      by_cases hlt : i < p.size
      · have hil : i < (Pl.print a).length := by rw [HN.out]; exact hlt
        have HST := Lib.hid (anyLow_step (Pl.print a) i hil)
        have c0 := HR.out.cell i (by rw [upTo_len]; exact hil)
        have f0 := HR.out.free i (by rw [upTo_len]; exact hil)
        rw [upTo_at _ _ hil] at c0
        have HK := Lib.hid (upTo_keep (Pl.print a) i hil)
        have HS := Lib.hid (upTo_step (Pl.print a) i hil)
        obtain ⟨c, hc⟩ : ∃ c, c = (Pl.print a).getD i 0 := ⟨_, rfl⟩
        rw [← hc] at c0 HK HS HST
        clear hc
        have lc : c.toNat < 256 := c.toNat_lt
        cases hlow : Pl.isLow c with
        | true =>
          have hx := hlow
          unfold Pl.isLow at hx
          simp only [Bool.and_eq_true, decide_eq_true_eq] at hx
          have h1 : (97 : Int) ≤ (c.toNat : Int) := by omega
          have h2 : (c.toNat : Int) ≤ 102 := by omega
          have HU : Hid ((c.toNat : Int) - 32 = ((Pl.upc c).toNat : Int)) := by
            show _ = _
            unfold Pl.upc
            rw [if_pos hlow]
            have : (c - 32).toNat = c.toNat - 32 := by
              rw [UInt8.toNat_sub_of_le _ _ (by rw [UInt8.le_iff_toNat_le]; show 32 ≤ _; omega)]; rfl
            rw [this]; omega
          have HR2 : Hid (RowB (wr.setCell ⟨g, i, none⟩ (.int .u8 ((c.toNat : Int) - 32))) g (upTo (Pl.print a) (i + 1))) := by
            show RowB _ _ _
            rw [HS.out, HU.out]
            exact HR.out.set i (Pl.upc c) (by rw [upTo_len]; exact hil)
          have HB2 : Hid (Below w.heap.size w (wr.setCell ⟨g, i, none⟩ (.int .u8 ((c.toNat : Int) - 32)))) := HB.out.setCell (p := ⟨g, i, none⟩) HZ6.out _
          have HT2 : Hid (true = anyLow (Pl.print a) (i + 1)) := by show _ = _; rw [HST.out, hlow]; simp
          clear hlow hx HU HR HB HS HK HST hil
          go_wp2_with fail
          go_roundw
          case rel => first | exact ⟨i + 1, by omega, by go_num, by rw [← HT2.out], HR2, HB2⟩ | ((repeat apply Exists.intro); exact ⟨⟨i + 1, by omega, by go_num, by rw [← HT2.out], HR2, HB2⟩, rfl⟩)
          case measure => simp [intOf]; omega
        | false =>
          have hx := hlow
          unfold Pl.isLow at hx
          simp only [Bool.and_eq_false_iff, decide_eq_false_iff_not] at hx
          have HR2 : Hid (RowB wr g (upTo (Pl.print a) (i + 1))) := by
            show RowB _ _ _
            rw [HK.out hlow]
            exact HR.out
          have HT2 : Hid (anyLow (Pl.print a) i = anyLow (Pl.print a) (i + 1)) := by show _ = _; rw [HST.out, hlow]; simp
          clear hlow HR HS HK HST hil
          rcases hx with hx | hx
          · have h1 : (c.toNat : Int) < 97 := by omega
            clear hx
            go_wp2_with fail
            go_roundw
            case rel => first | exact ⟨i + 1, by omega, by go_num, by rw [HT2.out], HR2, HB⟩ | ((repeat apply Exists.intro); exact ⟨⟨i + 1, by omega, by go_num, by rw [HT2.out], HR2, HB⟩, rfl⟩)
            case measure => simp [intOf]; omega
          · have h1 : 102 < (c.toNat : Int) := by omega
            clear hx
            go_wp2_with fail
            go_roundw
            case rel => first | exact ⟨i + 1, by omega, by go_num, by rw [HT2.out], HR2, HB⟩ | ((repeat apply Exists.intro); exact ⟨⟨i + 1, by omega, by go_num, by rw [HT2.out], HR2, HB⟩, rfl⟩)
            case measure => simp [intOf]; omega
      · obtain rfl : i = p.size := by omega
        have HLN : Hid (p.size = ((Pl.print a).map Pl.upc).length) := by show _ = _; rw [List.length_map, HN.out]
        have HR2 : Hid (RowB wr g ((Pl.print a).map Pl.upc)) := by
          have := HR.out
          rw [← HN.out, upTo_all] at this
          exact this
        have HAL : Hid (anyLow (Pl.print a) p.size = (Pl.print a).any Pl.isLow) := by
          show _ = _
          unfold anyLow
          rw [← HN.out, List.take_length]
        clear HR
        have hbk := run_convert_bytes_back (P := Tryd.prog) wr 76 9 5 ⟨g, 0, none⟩ cap ((Pl.print a).map Pl.upc) Tryd.underlying76 Tryd.underlying5 Tryd.underlying9 (by
          intro j hj
          have := HR2.out.cell j hj
          rw [show (⟨g, 0, none⟩ : Addr).add j = ⟨g, j, none⟩ by unfold Addr.add; split <;> simp_all, this]
          simp [List.getD, List.getElem?_eq_getElem hj])
        rw [← HLN.out] at hbk
        obtain ⟨u, hu⟩ : ∃ u : ByteArray, u = ⟨((Pl.print a).map Pl.upc).toArray⟩ := ⟨_, rfl⟩
        have hus : u.size < 4294967281 := by rw [Lib.size_eq, hu]; show ((Pl.print a).map Pl.upc).length < _; rw [← HLN.out]; omega
        have HPA := Lib.hid (parse_any u hus wr (HW.out.on HB.out))
        have hud : u.data.toList = (Pl.print a).map Pl.upc := by rw [hu]
        have HUD : Hid (Pl.parse u.data.toList = if (Pl.print a).any Pl.isLow then none else some a) := by show _ = _; rw [hud, Pl.parse_upper a ha]
        rw [← hu] at hbk
        rw [HAL.out]
        clear hu hud hus HLN HR2 HAL
        obtain ⟨low, hlow⟩ : ∃ b, b = (Pl.print a).any Pl.isLow := ⟨_, rfl⟩
        rw [← hlow] at HUD ⊢
        clear hlow
        go_wp2_with fail
        refine HPA.out.mono ?_
        rintro e w8 ⟨rfl, hb⟩
        rw [HUD.out]
        have HB8 : Hid (Below w.heap.size w w8) := HB.out.trans (hb.mono HB.out.size)
        clear hb HPA HB hbk
        have HNW : Hid (RowIs (w8.alloc (.cells (avs zero16) 51)) w8.heap.size (avs zero16) 51) := RowIs.new w8 _ _
        have HB9 := Lib.hid (HB8.out.alloc HB8.out.size (.cells (avs zero16) 51))
        cases low with
        | true =>
          rw [show errno (if true = true then none else some a) = 5 from rfl, show (if true = true then none else some a : Option (List UInt8)).getD zero16 = zero16 from rfl]
          have HB10 := Lib.hid (below_setRow HB9.out w8.heap.size HB8.out.size (avs zero16))
          go_wp2_with (refine wpList_store_addr rfl (.tmp 18) (.tmp 85) rfl w8.heap.size zero16 zero16 51 rfl rfl rfl rfl HNW.out ?_)
          go_ret
          exact ⟨rfl, HB10.out⟩
        | false =>
          rw [show errno (if false = true then none else some a) = 0 from rfl, show (if false = true then none else some a : Option (List UInt8)).getD zero16 = a from rfl]
          have HB10 := Lib.hid (below_setRow HB9.out w8.heap.size HB8.out.size (avs a))
          go_wp2_with (refine wpList_store_addr rfl (.tmp 18) (.tmp 85) rfl w8.heap.size a zero16 51 rfl rfl ha rfl HNW.out ?_)
          go_ret
          exact ⟨rfl, HB10.out⟩
end Go.Proofs.YtgdfmhdgmjogiaaDoor
