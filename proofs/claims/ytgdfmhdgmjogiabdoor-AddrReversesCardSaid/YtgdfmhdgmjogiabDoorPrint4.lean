import Derived.Test.YtgdfmhdgmjogiabDoorPrint
import Derived.Test.YtgdfmhdgmjogiabDoorStrs
namespace Go.Proofs.YtgdfmhdgmjogiabDoor
open Go.RowKit Go.Proofs.YtgdfmhdgmjogiabDoorW.PrintWords Go.Proofs.YtgdfmhdgmjogiabDoorW.PrintLast Go.Proofs.YtgdfmhdgmjogiabDoorW.PrintMore
set_option linter.unusedVariables false

def octets (a : List UInt8) (i : Nat) : List ByteArray := ((a.drop 12).take i).map fun x => ⟨(Lib.decDigits x.toNat).toArray⟩
theorem octets_next (a : List UInt8) (ha : a.length = 16) (i : Nat) (h : i < 4) : octets a (i + 1) = octets a i ++ [⟨(Lib.decDigits (a.getD (12 + i) 0).toNat).toArray⟩] := by
  unfold octets
  rw [List.take_succ_eq_append_getElem (by simp; omega)]
  simp [List.getD, List.getElem?_eq_getElem (show 12 + i < a.length by omega)]
theorem octets_len (a : List UInt8) (ha : a.length = 16) (i : Nat) (h : i ≤ 4) : (octets a i).length = i := by
  unfold octets; simp; omega
theorem octets_all (a : List UInt8) (ha : a.length = 16) : (octets a 4).map (·.data.toList) = (a.drop 12).map fun x => Lib.decDigits x.toNat := by
  unfold octets
  rw [List.take_of_length_le (by simp; omega), List.map_map]
  apply List.map_congr_left
  intro x _
  simp

set_option maxHeartbeats 4000000 in
set_option maxRecDepth 100000 in
theorem print4_any (a : List UInt8) (ha : a.length = 16) (h4 : Pl.is4 a = true) (w : World) (h : WdA w) : Calls Tryd.prog 22 #[.agg (avs a)] w fun e w' => e = .returned (.string ⟨(Pl.print a).toArray⟩) ∧ Below w.heap.size w w' := by
  have HS := Lib.hid (load_size a ha)
  have HG := Lib.hid (RowIs.new w (avs a) 23)
  have HC := Lib.hid (CellsA.new w a 23 ha)
  have HA := Lib.hid ha
  have HW := Lib.hid h
  have H4 := Lib.hid h4
  have HI := Lib.hid (fun w => (is4_any a ha w).mono (R' := fun e w' => e = .returned (.bool true) ∧ Below w.heap.size w w') (by rw [h4]; exact fun e w' h => h))
  clear ha h h4
  go_enter Tryd.func22, Tryd.ntmps22
  go_wp2_with (refine wpList_load_row rfl 23 _ rfl _ rfl 23 (avs a) (0, 0) _ HG.out Tryd.underlying23 rfl HS.out ?_)
  refine (HI.out _).mono ?_
  rintro e w1 ⟨rfl, hb1⟩
  rw [World.size_alloc] at hb1
  have HC1 := Lib.hid (HC.out.below hb1 (by omega))
  have HB1 : Hid (Below w.heap.size w w1) := ((Below.refl _ w).alloc (Nat.le_refl _) _).trans (hb1.mono (by omega))
  have hz1 : w.heap.size < w1.heap.size := by have := hb1.size; rw [World.size_alloc] at this; omega
  clear HC HG HI hb1
  go_wp2_with fail
  have HB0 : Hid (Below (w.heap.size + 1) w1 w1) := Below.refl _ _
  go_loopw [3, 5, 18] (fun s3 _ s18 wr => ∃ i : Nat, i ≤ 4 ∧ s18 = .int .i64 i ∧ Hid (Kd.R Kd.string 9 wr (w.heap.size + 1) (fun _ => True) s3 (octets a i)) ∧ Hid (Below (w.heap.size + 1) w1 wr)) (fun _ _ s18 _ => 4 - (intOf s18).toNat)
  case atStart => exact ⟨0, by omega, rfl, Kd.R_nil _ _ _ _ _, HB0⟩
  case round =>
    clear HB0
    obtain ⟨i, hi, rfl, HR, HB⟩ := hrel
    have HZ : Hid (w.heap.size + 1 ≤ wr.heap.size) := by have := HB.out.size; show _ ≤ _; omega
    by_cases hlt : i < 4
    · have hd4 : decide ((i : Int) < 4) = true := decide_eq_true (by omega)
      have c0 := (HC1.out.below HB.out (by omega)) (12 + i) (by omega)
      obtain ⟨x, hx⟩ : ∃ x, x = a.getD (12 + i) 0 := ⟨_, rfl⟩
      rw [← hx] at c0
      have HN := Lib.hid (octets_next a HA.out i hlt)
      have HLn := Lib.hid (octets_len a HA.out i hi)
      rw [← hx] at HN
      have HX := Lib.hid hx
      clear hx
      have lx : x.toNat < 256 := x.toNat_lt
      have hit := Lib.hid (Tryd.strconv_Itoa (x.toNat : Int) (by omega) (by omega) wr ((HW.out.below HB1.out HW.out.size).below HB.out (by have := HW.out.size; omega)).pow)
      go_wp2_with fail
      refine hit.out.mono ?_
      rintro e w2 ⟨rfl, k, os, rfl⟩
      have hb2 := Lib.below_grow (w.heap.size + 1) wr HZ.out k os
      have hb3 := Lib.below_grow wr.heap.size wr (Nat.le_refl _) k os
      obtain ⟨w2, hw2⟩ : ∃ w2, w2 = Go.Sort.grow (wr.drewN k) os := ⟨_, rfl⟩
      rw [← hw2] at hb2 hb3 ⊢
      clear hw2
      have HB2 : Hid (Below (w.heap.size + 1) w1 w2) := HB.out.trans hb2
      have HZ2 : Hid (w.heap.size + 1 ≤ w2.heap.size) := Nat.le_trans HZ.out hb2.size
      have HR2 : Hid (Kd.R Kd.string 9 w2 (w.heap.size + 1) (fun _ => True) u3 (octets a i)) := Kd.R_below HR.out hb3
      clear hb2 hb3 HB HR hit c0
      rw [Lib.itoa_nonneg]
      obtain ⟨p, hp⟩ : ∃ p : ByteArray, p = ⟨(Lib.decDigits x.toNat).toArray⟩ := ⟨_, rfl⟩
      rw [← hp]
      have HP := Lib.hid hp
      clear hp
      go_wp2_with ((with_reducible refine gate_builtin (b := .append) (xs := #[.tmp 22, .tmp 26]) rfl ?_); at_builtin; refine Kd.R_append Kd.string (w0 := w1) (w.heap.size + 1) rfl (.tmp 22) (.tmp 26) 28 9 (.string ⟨#[]⟩) 16 rfl Tryd.underlying28 Tryd.infoStr rfl (by decide) (by omega) u3 (octets a i) p [.string p] (fun _ => True) (fun _ => False) rfl rfl ?aP (fun _ hk => hk.elim) (fun _ _ => trivial) HR2.out HB2.out HZ2.out ?aL ?_; (case aP => exact rfl); (case aL => have := HLn.out; omega); intro v3 w3 ho hb hg hat; have HR3 := Lib.hid ho; have HB3 := Lib.hid hb; clear ho hb hg hat HR2 HB2)
      go_roundw
      case rel => first | exact ⟨i + 1, by omega, by go_num, by rw [HN.out, ← HP.out]; exact HR3, HB3⟩ | ((repeat apply Exists.intro); exact ⟨⟨i + 1, by omega, by go_num, by rw [HN.out, ← HP.out]; exact HR3, HB3⟩, rfl⟩)
      case measure => simp [intOf]; omega
    · obtain rfl : i = 4 := by omega
      have hsh := R_shape HR.out (by intro h; have := octets_len a HA.out 4 (by omega); rw [h] at this; simp at this)
      rw [octets_len a HA.out 4 (by omega)] at hsh
      obtain ⟨g, cap, hv, hg1, hg2, hc1, hc2, hcells⟩ := hsh
      have hjl : (Lib.join ((octets a 4).map (·.data.toList)) (⟨#[46]⟩ : ByteArray).data.toList).length ≤ 140737488355328 := by
        rw [octets_all a HA.out]
        have := Pl.print4_len a HA.out
        unfold Pl.print4 at this
        show (Lib.join _ [46]).length ≤ _
        omega
      have hjn := Tryd.strings_Join g 0 cap (octets a 4) ⟨#[46]⟩ wr hcells hg2 (by rw [octets_len a HA.out 4 (by omega)]; omega) (by rw [octets_len a HA.out 4 (by omega)]; exact hc1) hjl
      rw [octets_len a HA.out 4 (by omega), octets_all a HA.out] at hjn
      obtain ⟨r, hr⟩ : ∃ r, r = Pl.print4 a := ⟨_, rfl⟩
      rw [show Lib.join ((a.drop 12).map fun x => Lib.decDigits x.toNat) (⟨#[46]⟩ : ByteArray).data.toList = r from hr.symm] at hjn
      have HRR := Lib.hid hr
      clear hr
      have HJN := Lib.hid hjn
      clear hcells hjl hjn
      go_wp2_with fail
      refine HJN.out.mono ?_
      rintro e w2 ⟨rfl, hb2⟩
      have HBF : Hid (Below w.heap.size w w2) := (HB1.out.trans (HB.out.mono (by omega))).trans (hb2.mono (by have := HZ.out; omega))
      clear hb2
      go_wp2
      go_ret
      refine ⟨?_, HBF.out⟩
      unfold Pl.print
      rw [H4.out, if_pos rfl, ← HRR.out]
      rfl

/-- The contract of addr.Print. -/
theorem print_any (a : List UInt8) (ha : a.length = 16) (w : World) (h : WdA w) : Calls Tryd.prog 22 #[.agg (avs a)] w fun e w' => e = .returned (.string ⟨(Pl.print a).toArray⟩) ∧ Below w.heap.size w w' := by
  cases h4 : Pl.is4 a with
  | true => exact print4_any a ha h4 w h
  | false => exact print6_any a ha h4 w h
end Go.Proofs.YtgdfmhdgmjogiabDoor
