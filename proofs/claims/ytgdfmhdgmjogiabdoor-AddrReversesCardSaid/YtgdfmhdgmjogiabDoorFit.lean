/- The examples that each law of addr asks first: they hold. -/
import Derived.Test.YtgdfmhdgmjogiabDoorParse
import Derived.Test.YtgdfmhdgmjogiabDoorLabel
namespace Go.Proofs.YtgdfmhdgmjogiabDoor
open Go.RowKit
set_option linter.unusedVariables false

def fitS : ByteArray := ⟨#[50, 48, 48, 49, 58, 100, 98, 56, 58, 58, 49]⟩
def fitA : List UInt8 := [32, 1, 13, 184, 0, 0, 0, 0, 0, 0, 0, 0, 0, 0, 0, 1]
def fitB : List UInt8 := [0, 0, 0, 0, 0, 0, 0, 0, 0, 0, 0, 0, 0, 0, 0, 1]
theorem fit_parse : Pl.parse fitS.data.toList = some fitA := by decide +kernel
theorem fit_print : Pl.print fitB = [58, 58, 49] := by decide +kernel

set_option maxHeartbeats 4000000 in
set_option maxRecDepth 100000 in
theorem fit_any (w : World) (h : WdA w) : Calls Tryd.prog 6 #[] w fun e w' => e = .returned (.bool true) ∧ Below w.heap.size w w' := by
  have HP := Lib.hid (parse_any fitS (by decide) w h)
  have HQ := Lib.hid (fun w h => print_any fitB rfl w h)
  have HL := Lib.hid (fun w => label_count ⟨#[97]⟩ (by decide) (by decide +kernel) w)
  have HW := Lib.hid h
  clear h
  go_enter Tryd.func6, Tryd.ntmps6
  go_wp2_with fail
  refine HP.out.mono ?_
  rintro e w1 ⟨rfl, hb⟩
  rw [fit_parse]
  have HB1 := Lib.hid hb
  have HRN : Hid (RowIs (w1.alloc (.cells (avs zero16) 23)) w1.heap.size (avs zero16) 23) := RowIs.new w1 _ _
  have HBN : Hid (Below w.heap.size w (w1.alloc (.cells (avs zero16) 23))) := HB1.out.alloc HB1.out.size _
  clear hb HP
  rw [show errno (some fitA) = 0 from rfl]
  go_upto_region 2 with (refine wpList_store_addr rfl (.tmp 1) (.tmp 5) rfl w1.heap.size fitA zero16 23 rfl rfl rfl rfl HRN.out ?_)
  have HR2 := Lib.hid (setRow_row HRN.out (avs fitA))
  have HB2 := Lib.hid (below_setRow HBN.out w1.heap.size HB1.out.size (avs fitA))
  rw [zero_lit]
  obtain ⟨w2, hw2⟩ : ∃ w2, w2 = (w1.alloc (.cells (avs zero16) 23)).setRow w1.heap.size (avs fitA) := ⟨_, rfl⟩
  rw [← hw2] at HR2 HB2 ⊢
  clear hw2 HRN HBN
  have c0 : w2.cell? ⟨w1.heap.size, 0, none⟩ = some (.int .u8 32) := HR2.out.cell 0
  have c15 : w2.cell? ⟨w1.heap.size, 15, none⟩ = some (.int .u8 1) := HR2.out.cell 15
  have HPR := Lib.hid (HQ.out w2 (HW.out.on HB2.out))
  go_wp2_with fail
  refine HPR.out.mono ?_
  rintro e w3 ⟨rfl, hb⟩
  have HB3 : Hid (Below w.heap.size w w3) := HB2.out.trans (hb.mono HB2.out.size)
  rw [fit_print]
  clear hb HPR HQ c0 c15
  go_wp2_with fail
  refine (HL.out w3).mono ?_
  rintro e w4 ⟨rfl, hb⟩
  have HB4 : Hid (Below w.heap.size w w4) := HB3.out.trans (hb.mono HB3.out.size)
  rw [show (Pl.splitc 46 [97]).length = 1 from rfl]
  clear hb
  go_wp2
  go_ret
  exact ⟨rfl, HB4.out⟩
end Go.Proofs.YtgdfmhdgmjogiabDoor
