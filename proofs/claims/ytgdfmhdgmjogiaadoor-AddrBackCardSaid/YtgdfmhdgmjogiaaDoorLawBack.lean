/- The law AddrBack, walked: what it answers is true. -/
import Derived.Test.YtgdfmhdgmjogiaaDoorFit
import Derived.Test.YtgdfmhdgmjogiaaDoorLen
import Derived.Test.YtgdfmhdgmjogiaaDoorArr
namespace Go.Proofs.YtgdfmhdgmjogiaaDoor
open Go.RowKit
set_option linter.unusedVariables false

set_option maxHeartbeats 8000000 in
set_option maxRecDepth 100000 in
theorem lawBack (a : List UInt8) (ha : a.length = 16) (s : ByteArray) (w : World) (h : WdA w) : Calls Tryd.prog 9 #[.agg (avs a), .string s] w fun e w' => e = .returned (.bool true) ∧ Below w.heap.size w w' := by
  have HRA : Hid (RowIs (w.alloc (.cells (avs a) 51)) w.heap.size (avs a) 51) := RowIs.new w _ _
  have HB0 : Hid (Below w.heap.size w (w.alloc (.cells (avs a) 51))) := (Below.refl _ _).alloc (Nat.le_refl _) _
  have HF := Lib.hid (fit_any (w.alloc (.cells (avs a) 51)) (h.on HB0.out))
  have HW := Lib.hid h
  clear h
  go_enter Tryd.func9, Tryd.ntmps9
  go_wp2_with fail
  refine HF.out.mono ?_
  rintro e w1 ⟨rfl, hb⟩
  have HB1 : Hid (Below w.heap.size w w1) := HB0.out.trans (hb.mono HB0.out.size)
  have HA1 := Lib.hid (HRA.out.below hb HRA.out.lt)
  have HZ1 : Hid (w.heap.size < w1.heap.size) := HA1.out.lt
  clear hb HF HRA HB0
  by_cases hlen : s.size ≤ 100
  · have hgt : decide ((s.size : Int) > 100) = false := decide_eq_false (by omega)
    have HP := Lib.hid (print_any a ha w1 (HW.out.on HB1.out))
    go_wp2_with (refine wpList_load_row rfl 51 (.tmp 2) rfl w.heap.size rfl 51 (avs a) (0, 0) _ HA1.out Tryd.underlying51 rfl (load_size a ha) ?_)
    refine HP.out.mono ?_
    rintro e w2 ⟨rfl, hb⟩
    have HB2 : Hid (Below w.heap.size w w2) := HB1.out.trans (hb.mono HB1.out.size)
    have HA2 := Lib.hid (HA1.out.below hb HA1.out.lt)
    clear hb HP HA1 HB1
    obtain ⟨p, hp⟩ : ∃ p : ByteArray, p = ⟨(Pl.print a).toArray⟩ := ⟨_, rfl⟩
    have hpd : p.data.toList = Pl.print a := by rw [hp]
    have hps : p.size < 4294967281 := by rw [Lib.size_eq, hpd]; have := Pl.print_len a ha; omega
    rw [← hp]
    have HPA := Lib.hid (parse_any p hps w2 (HW.out.on HB2.out))
    rw [hpd] at HPA
    clear hp hpd hps
    go_wp2_with fail
    refine HPA.out.mono ?_
    rintro e w3 ⟨rfl, hb⟩
    rw [Pl.parse_of_print a ha, show errno (some a) = 0 from rfl, show (some a).getD zero16 = a from rfl]
    have HB3 : Hid (Below w.heap.size w w3) := HB2.out.trans (hb.mono HB2.out.size)
    have HA3 := Lib.hid (HA2.out.below hb HA2.out.lt)
    clear hb HPA HA2 HB2
    have HN : Hid (RowIs (w3.alloc (.cells (avs zero16) 51)) w3.heap.size (avs zero16) 51) := RowIs.new w3 _ _
    go_upto_region 6 with (refine wpList_store_addr rfl (.tmp 5) (.tmp 18) rfl w3.heap.size a zero16 51 rfl rfl ha rfl HN.out ?_)
    have HN4 := Lib.hid (setRow_row HN.out (avs a))
    have HA4 := Lib.hid (setRow_past (g := w3.heap.size) (ds := avs a) (HA3.out.past (.cells (avs zero16) 51)) (by have := HA3.out.lt; omega))
    have HB4 := Lib.hid (below_setRow (HB3.out.alloc HB3.out.size (.cells (avs zero16) 51)) w3.heap.size HB3.out.size (avs a))
    rw [zero_lit]
    obtain ⟨w4, hw4⟩ : ∃ w2, w2 = (w3.alloc (.cells (avs zero16) 51)).setRow w3.heap.size (avs a) := ⟨_, rfl⟩
    obtain ⟨g5, hg5⟩ : ∃ n, n = w3.heap.size := ⟨_, rfl⟩
    rw [← hw4] at HA4 HB4
    rw [← hw4, ← hg5] at HN4 ⊢
    clear hw4 hg5 HN HA3 HB3 HZ1
    have HQA := Lib.hid (parse_any s (by omega) w4 (HW.out.on HB4.out))
    go_wp2_with fail
    refine HQA.out.mono ?_
    rintro e w5 ⟨rfl, hb⟩
    have HB5 : Hid (Below w.heap.size w w5) := HB4.out.trans (hb.mono HB4.out.size)
    have HA5 := Lib.hid (HA4.out.below hb HA4.out.lt)
    have HN5 := Lib.hid (HN4.out.below hb HN4.out.lt)
    clear hb HQA HA4 HB4 HN4
    obtain ⟨r, hr⟩ : ∃ r, r = Pl.parse s.data.toList := ⟨_, rfl⟩
    have hl : (r.getD zero16).length = 16 := getD_length fun c hc => Pl.parse_length (hr.symm.trans hc)
    rw [← hr]
    have HR := Lib.hid hr
    clear hr
    obtain ⟨c, hc⟩ : ∃ v, v = r.getD zero16 := ⟨_, rfl⟩
    rw [← hc] at hl ⊢
    have HC := Lib.hid hc
    clear hc
    have HM : Hid (RowIs (w5.alloc (.cells (avs zero16) 51)) w5.heap.size (avs zero16) 51) := RowIs.new w5 _ _
    go_upto_region 7 with (refine wpList_store_addr rfl (.tmp 7) (.tmp 23) rfl w5.heap.size c zero16 51 rfl rfl hl rfl HM.out ?_)
    have HM6 := Lib.hid (setRow_row HM.out (avs c))
    have HA6 := Lib.hid (setRow_past (g := w5.heap.size) (ds := avs c) (HA5.out.past (.cells (avs zero16) 51)) (by have := HA5.out.lt; omega))
    have HN6 := Lib.hid (setRow_past (g := w5.heap.size) (ds := avs c) (HN5.out.past (.cells (avs zero16) 51)) (by have := HN5.out.lt; omega))
    have HB6 := Lib.hid (below_setRow (HB5.out.alloc HB5.out.size (.cells (avs zero16) 51)) w5.heap.size HB5.out.size (avs c))
    rw [zero_lit]
    obtain ⟨w6, hw6⟩ : ∃ w2, w2 = (w5.alloc (.cells (avs zero16) 51)).setRow w5.heap.size (avs c) := ⟨_, rfl⟩
    obtain ⟨g7, hg7⟩ : ∃ n, n = w5.heap.size := ⟨_, rfl⟩
    rw [← hw6] at HA6 HB6 HN6
    rw [← hw6, ← hg7] at HM6 ⊢
    clear hw6 hg7 HM HA5 HB5 HN5
    have hab : ∀ w, (binOp .eql 51 (.agg (avs a)) (.agg (avs a))).run Tryd.prog w = .ok (.bool true) w := fun w => by rw [eql_addr a a ha ha]; simp
    have HLA := Lib.hid (load_size a ha)
    have HLC := Lib.hid (load_size c hl)
    cases r with
    | some c' =>
      obtain rfl : c = c' := HC.out
      have HP := Lib.hid (print_any c hl w6 (HW.out.on HB6.out))
      rw [show errno (some c) = 0 from rfl]
      go_wp2_with (first | (refine wpList_load_rowG (by rfl) 51 (.tmp 5) rfl g5 rfl 51 (avs a) (0, 0) _ HN6.out Tryd.underlying51 rfl HLA.out ?_) | (refine wpList_load_rowG (by rfl) 51 (.tmp 2) rfl w.heap.size rfl 51 (avs a) (0, 0) _ HA6.out Tryd.underlying51 rfl HLA.out ?_) | (refine wpList_load_rowG (by rfl) 51 (.tmp 7) rfl g7 rfl 51 (avs c) (0, 0) _ HM6.out Tryd.underlying51 rfl HLC.out ?_))
      refine HP.out.mono ?_
      rintro e w7 ⟨rfl, hb⟩
      have HB7 : Hid (Below w.heap.size w w7) := HB6.out.trans (hb.mono HB6.out.size)
      clear hb HP HA6 HN6 HM6 HB6
      obtain ⟨p, hp⟩ : ∃ p : ByteArray, p = ⟨(Pl.print c).toArray⟩ := ⟨_, rfl⟩
      have heq : (p.toList == s.toList) = true := by
        rw [Lib.toList_data, Lib.toList_data, hp, beq_iff_eq]
        exact Pl.parse_print HR.out.symm
      rw [← hp]
      clear hp
      go_wp2
      go_ret
      exact ⟨rfl, HB7.out⟩
    | none =>
      obtain rfl : c = zero16 := HC.out
      have hcc : ∀ w, (binOp .eql 51 (.agg (avs zero16)) (.agg #[Value.int .u8 0, Value.int .u8 0, Value.int .u8 0, Value.int .u8 0, Value.int .u8 0, Value.int .u8 0, Value.int .u8 0, Value.int .u8 0, Value.int .u8 0, Value.int .u8 0, Value.int .u8 0, Value.int .u8 0, Value.int .u8 0, Value.int .u8 0, Value.int .u8 0, Value.int .u8 0])).run Tryd.prog w = .ok (.bool true) w := fun w => by rw [zero_lit, eql_addr zero16 zero16 rfl rfl]; simp
      rw [show errno none = 5 from rfl]
      go_wp2_with (first | (refine wpList_load_rowG (by rfl) 51 (.tmp 5) rfl g5 rfl 51 (avs a) (0, 0) _ HN6.out Tryd.underlying51 rfl HLA.out ?_) | (refine wpList_load_rowG (by rfl) 51 (.tmp 2) rfl w.heap.size rfl 51 (avs a) (0, 0) _ HA6.out Tryd.underlying51 rfl HLA.out ?_) | (refine wpList_load_rowG (by rfl) 51 (.tmp 7) rfl g7 rfl 51 (avs zero16) (0, 0) _ HM6.out Tryd.underlying51 rfl HLC.out ?_))
      go_ret
      exact ⟨rfl, HB6.out⟩
  · have hgt : decide ((s.size : Int) > 100) = true := decide_eq_true (by omega)
    go_wp2
    go_ret
    exact ⟨rfl, HB1.out⟩
end Go.Proofs.YtgdfmhdgmjogiaaDoor
