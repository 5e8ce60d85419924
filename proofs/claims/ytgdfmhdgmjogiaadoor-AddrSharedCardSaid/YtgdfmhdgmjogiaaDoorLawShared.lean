/- The law AddrShared, walked: what it answers is true. -/
import Derived.Test.YtgdfmhdgmjogiaaDoorFit
import Derived.Test.YtgdfmhdgmjogiaaDoorShared
import Derived.StillTailTactics
import Derived.Laws.BitsLemmas
namespace Go.Proofs.YtgdfmhdgmjogiaaDoor
open Go.RowKit
set_option linter.unusedVariables false

theorem and127 (x : Int) : ∃ B : Nat, bits .and .i64 x 127 = (B : Int) ∧ B < 128 := by
  refine ⟨(BitVec.ofInt 64 x &&& BitVec.ofInt 64 127).toNat, ?_, ?_⟩
  · have h : (BitVec.ofInt 64 x &&& BitVec.ofInt 64 127).toNat ≤ 127 := by
      rw [BitVec.toNat_and]; exact Nat.and_le_right
    change IntKind.i64.wrap (((BitVec.ofInt 64 x &&& BitVec.ofInt 64 127).toNat : Nat) : Int) = _
    exact IntWalk.i64_in _ (by omega)
  · have h : (BitVec.ofInt 64 x &&& BitVec.ofInt 64 127).toNat ≤ 127 := by
      rw [BitVec.toNat_and]; exact Nat.and_le_right
    omega

/-- The byte whose bit r, told from the high end, is turned. -/
def flip (x : UInt8) (r : Nat) : UInt8 := x ^^^ UInt8.ofNat (128 / 2 ^ r)
theorem flip_fin : ∀ c : Fin 256, ∀ r : Fin 8, bits .xor .u8 (c.val : Int) (128 / 2 ^ r.val) = ((flip (UInt8.ofNat c.val) r.val).toNat : Int) := by decide +kernel
theorem flip_xor (x : UInt8) (r : Nat) (hr : r < 8) : bits .xor .u8 (x.toNat : Int) (128 / 2 ^ r) = ((flip x r).toNat : Int) := by
  have := flip_fin ⟨x.toNat, x.toNat_lt⟩ ⟨r, hr⟩
  rwa [show UInt8.ofNat x.toNat = x from UInt8.ofNat_toNat] at this
theorem dbit_fin : ∀ c : Fin 256, ∀ r : Fin 8, ∀ k : Fin 8, dbit (UInt8.ofNat c.val) (flip (UInt8.ofNat c.val) r.val) k.val = decide (k.val + r.val = 7) ∧ dbit (flip (UInt8.ofNat c.val) r.val) (UInt8.ofNat c.val) k.val = decide (k.val + r.val = 7) := by decide +kernel
theorem dbit_flip (x : UInt8) (r k : Nat) (hr : r < 8) (hk : k < 8) : dbit x (flip x r) k = decide (k + r = 7) ∧ dbit (flip x r) x k = decide (k + r = 7) := by
  have := dbit_fin ⟨x.toNat, x.toNat_lt⟩ ⟨r, hr⟩ ⟨k, hk⟩
  rwa [show UInt8.ofNat x.toNat = x from UInt8.ofNat_toNat] at this
theorem dself_fin : ∀ c : Fin 256, ∀ k : Fin 8, dbit (UInt8.ofNat c.val) (UInt8.ofNat c.val) k.val = false := by decide +kernel
theorem dbit_self (x : UInt8) (k : Nat) (hk : k < 8) : dbit x x k = false := by
  have := dself_fin ⟨x.toNat, x.toNat_lt⟩ ⟨k, hk⟩
  rwa [show UInt8.ofNat x.toNat = x from UInt8.ofNat_toNat] at this

/-- l agrees with a ahead of bit B, and parts there. -/
def PartsAt (a l : List UInt8) (B : Nat) : Prop := (∀ j, j < B / 8 → l.getD j 0 = a.getD j 0) ∧ l.getD (B / 8) 0 = flip (a.getD (B / 8) 0) (B % 8)
theorem parts_left {a l : List UInt8} {B : Nat} (h : PartsAt a l B) (hB : B < 128) : sharedN a l = B := by
  apply shared_hit hB
  · intro j hj
    unfold diffAt
    by_cases hq : j / 8 < B / 8
    · rw [h.1 _ hq]; exact dbit_self _ _ (by omega)
    · have e : j / 8 = B / 8 := by omega
      rw [e, h.2, (dbit_flip _ _ _ (by omega) (by omega)).1, decide_eq_false (by omega)]
  · unfold diffAt
    rw [h.2, (dbit_flip _ _ _ (by omega) (by omega)).1, decide_eq_true (by omega)]
theorem parts_right {a l : List UInt8} {B : Nat} (h : PartsAt a l B) (hB : B < 128) : sharedN l a = B := by
  apply shared_hit hB
  · intro j hj
    unfold diffAt
    by_cases hq : j / 8 < B / 8
    · rw [h.1 _ hq]; exact dbit_self _ _ (by omega)
    · have e : j / 8 = B / 8 := by omega
      rw [e, h.2, (dbit_flip _ _ _ (by omega) (by omega)).2, decide_eq_false (by omega)]
  · unfold diffAt
    rw [h.2, (dbit_flip _ _ _ (by omega) (by omega)).2, decide_eq_true (by omega)]
theorem shared_self (a : List UInt8) : sharedN a a = 128 := by
  apply shared_miss
  intro j hj
  exact dbit_self _ _ (by omega)
theorem PartsAt.mk' (a : List UInt8) (ha : a.length = 16) (B : Nat) (hB : B < 128) : PartsAt a (a.set (B / 8) (flip (a.getD (B / 8) 0) (B % 8))) B := by
  refine ⟨fun j hj => ?_, ?_⟩
  · rw [List.getD_eq_getElem?_getD, List.getElem?_set_ne (by omega), ← List.getD_eq_getElem?_getD]
  · rw [List.getD_eq_getElem?_getD, List.getElem?_set_self (by omega), Option.getD_some]
theorem PartsAt.set {a l : List UInt8} {B : Nat} (h : PartsAt a l B) (i : Nat) (hi : B / 8 < i) (y : UInt8) : PartsAt a (l.set i y) B := by
  refine ⟨fun j hj => ?_, ?_⟩
  · rw [List.getD_eq_getElem?_getD, List.getElem?_set_ne (by omega), ← List.getD_eq_getElem?_getD]; exact h.1 j hj
  · rw [List.getD_eq_getElem?_getD, List.getElem?_set_ne (by omega), ← List.getD_eq_getElem?_getD]; exact h.2

set_option maxHeartbeats 8000000 in
set_option maxRecDepth 100000 in
theorem lawShared (a : List UInt8) (ha : a.length = 16) (bit : Int) (w : World) (h : WdA w) : Calls Tryd.prog 14 #[.agg (avs a), .int .i64 bit] w fun e w' => e = .returned (.bool true) ∧ Below w.heap.size w w' := by
  obtain ⟨B, hB, hlt⟩ := and127 bit
  have HRA : Hid (RowIs (w.alloc (.cells (avs a) 51)) w.heap.size (avs a) 51) := RowIs.new w _ _
  have HB0 : Hid (Below w.heap.size w (w.alloc (.cells (avs a) 51))) := (Below.refl _ _).alloc (Nat.le_refl _) _
  have HF := Lib.hid (fit_any (w.alloc (.cells (avs a) 51)) (h.on HB0.out))
  have HW := Lib.hid h
  clear h
  go_enter Tryd.func14, Tryd.ntmps14
  go_wp2_with fail
  refine HF.out.mono ?_
  rintro e w1 ⟨rfl, hb⟩
  have HB1 : Hid (Below w.heap.size w w1) := HB0.out.trans (hb.mono HB0.out.size)
  have HA1 := Lib.hid (HRA.out.below hb HRA.out.lt)
  have HZ1 : Hid (w.heap.size < w1.heap.size) := HA1.out.lt
  clear hb HF HRA HB0
  go_upto_region 5 with (first | (refine wpList_load_row rfl 51 _ rfl _ rfl 51 (avs a) (0, 0) _ HA1.out Tryd.underlying51 rfl (load_size a ha) ?_) | (refine wpList_store_addr rfl (.tmp 5) (.tmp 11) rfl w1.heap.size a zero16 51 rfl rfl ha rfl (RowIs.new w1 _ _) ?_))
  have HR2 := Lib.hid (setRow_row (RowIs.new w1 (avs zero16) 51) (avs a))
  have HA2 := Lib.hid (setRow_past (g := w1.heap.size) (ds := avs a) (HA1.out.past (.cells (avs zero16) 51)) (by have := HZ1.out; omega))
  have HB2 := Lib.hid (below_setRow (HB1.out.alloc HB1.out.size (.cells (avs zero16) 51)) w1.heap.size HB1.out.size (avs a))
  rw [zero_lit]
  obtain ⟨w2, hw2⟩ : ∃ w2, w2 = (w1.alloc (.cells (avs zero16) 51)).setRow w1.heap.size (avs a) := ⟨_, rfl⟩
  obtain ⟨gb, hgb⟩ : ∃ n, n = w1.heap.size := ⟨_, rfl⟩
  rw [← hw2] at HA2 HB2
  rw [← hw2, ← hgb] at HR2 ⊢
  rw [← hgb] at HZ1
  clear hw2 hgb HA1 HB1
  obtain ⟨q, hq⟩ : ∃ q, q = B / 8 := ⟨_, rfl⟩
  obtain ⟨r, hr⟩ : ∃ r, r = B % 8 := ⟨_, rfl⟩
  have q16 : q < 16 := by omega
  have r8 : r < 8 := by omega
  have eq : (B : Int) / 8 = (q : Int) := by omega
  have er : (B : Int) % 8 = (r : Int) := by omega
  have c0 := HR2.out.cell q
  rw [avs_get a q (by omega)] at c0
  have f0 := HR2.out.frozen q
  have hxor := flip_xor (a.getD q 0) r r8
  obtain ⟨x, hx⟩ : ∃ x, x = a.getD q 0 := ⟨_, rfl⟩
  rw [← hx] at c0 hxor
  have e1 : IntKind.i64.wrap ((B : Int).tdiv 8) = (q : Int) := (IntWalk.i64_quo _ _ (by omega)).trans eq
  have e2 : (B : Int).tmod 8 = (r : Int) := (Int.tmod_eq_emod_of_nonneg (by omega)).trans er
  have e3 : (B : Int).tdiv 8 = (q : Int) := (Int.tdiv_eq_ediv_of_nonneg (by omega)).trans eq
  have e4 : IntKind.i64.wrap (q : Int) = (q : Int) := IntWalk.i64_in _ (by omega)
  have b1 : (0 : Int) ≤ (q : Int) := by omega
  have b2 : (q : Int) < 16 := by omega
  have b3 : (0 : Int) ≤ (r : Int) := by omega
  have b4 : (r : Int) ≤ 8 := by omega
  have HQ := Lib.hid hq
  have HR := Lib.hid hr
  have HX := Lib.hid hx
  clear hq hr hx
  go_wp2
  go_still_tail 9, (by kernel_rfl)
  change wpList _ _ _ _ _ w2.drew
  have HL0 : Hid ((a.set q (flip x r)).length = 16) := by show _ = _; rw [List.length_set]; exact ha
  have HR3 : Hid (RowIs (w2.drew.setCell ⟨gb, q, none⟩ (.int .u8 ((flip x r).toNat : Int))) gb (avs (a.set q (flip x r))) 51) := by
    have := (HR2.out.drew).set q (.int .u8 ((flip x r).toNat : Int))
    rw [avs_set] at this
    exact this
  have HA3 : Hid (RowIs (w2.drew.setCell ⟨gb, q, none⟩ (.int .u8 ((flip x r).toNat : Int))) w.heap.size (avs a) 51) := (HA2.out.drew).other gb q _ (by have := HZ1.out; omega)
  have HB3 : Hid (Below w.heap.size w (w2.drew.setCell ⟨gb, q, none⟩ (.int .u8 ((flip x r).toNat : Int)))) := (below_drewN HB2.out 1).setCell (p := ⟨gb, q, none⟩) (by show _ ≤ gb; have := HZ1.out; omega) _
  have HP3 : Hid (PartsAt a (a.set q (flip x r)) B) := by
    have := PartsAt.mk' a ha B hlt
    rw [← HQ.out, ← HR.out, ← HX.out] at this
    exact this
  have hq1 : q + 1 ≤ 16 := by omega
  clear HR2 HA2 HB2
  go_wp2
  go_loopw [6] (fun s6 wr => ∃ (i : Nat) (l : List UInt8), q < i ∧ i ≤ 16 ∧ s6 = .int .i64 i ∧ Hid (l.length = 16) ∧ Hid (PartsAt a l B) ∧ Hid (RowIs wr gb (avs l) 51) ∧ Hid (RowIs wr w.heap.size (avs a) 51) ∧ Hid (Below w.heap.size w wr)) (fun s6 _ => 16 - (intOf s6).toNat)
  case atStart => exact ⟨q + 1, _, by omega, hq1, by go_num, HL0, HP3, HR3, HA3, HB3⟩
  case round =>
    clear HL0 HP3 HR3 HA3 HB3 c0 f0 hxor e1 e2 e3 e4 eq er b1 b2 b3 b4
    obtain ⟨i, l, hqi, hi, rfl, HL, HP, HT, HA, HB⟩ := hrel
    by_cases hlt16 : i < 16
    · have c0 := HT.out.cell i
      rw [avs_get l i (by rw [HL.out]; omega)] at c0
      have f0 := HT.out.frozen i
      obtain ⟨z, hz⟩ : ∃ x, x = l.getD i 0 := ⟨_, rfl⟩
      rw [← hz] at c0
      clear hz
      have hv : ((z.toNat : Int) + 3 * (i : Int)) % 256 = ((UInt8.ofNat (z.toNat + 3 * i)).toNat : Int) := by rw [UInt8.toNat_ofNat']; omega
      have HT2 : Hid (RowIs (wr.setCell ⟨gb, i, none⟩ (.int .u8 (((z.toNat : Int) + 3 * (i : Int)) % 256))) gb (avs (l.set i (UInt8.ofNat (z.toNat + 3 * i)))) 51) := by
        have := HT.out.set i (.int .u8 (((z.toNat : Int) + 3 * (i : Int)) % 256))
        rw [hv] at this ⊢
        rw [avs_set] at this
        exact this
      have HA2 : Hid (RowIs (wr.setCell ⟨gb, i, none⟩ (.int .u8 (((z.toNat : Int) + 3 * (i : Int)) % 256))) w.heap.size (avs a) 51) := HA.out.other gb i _ (by have := HZ1.out; omega)
      have HB2 : Hid (Below w.heap.size w (wr.setCell ⟨gb, i, none⟩ (.int .u8 (((z.toNat : Int) + 3 * (i : Int)) % 256)))) := HB.out.setCell (p := ⟨gb, i, none⟩) (by show _ ≤ gb; have := HZ1.out; omega) _
      have HL2 : Hid ((l.set i (UInt8.ofNat (z.toNat + 3 * i))).length = 16) := by show _ = _; rw [List.length_set]; exact HL.out
      have HP2 : Hid (PartsAt a (l.set i (UInt8.ofNat (z.toNat + 3 * i))) B) := HP.out.set i (by rw [← HQ.out]; exact hqi) _
      clear hv
      go_wp2
      refine ⟨?rel, ?measure⟩
      case rel => first | exact ⟨i + 1, _, by omega, by omega, by go_num, HL2, HP2, HT2, HA2, HB2⟩ | ((repeat apply Exists.intro); exact ⟨⟨i + 1, _, by omega, by omega, by go_num, HL2, HP2, HT2, HA2, HB2⟩, rfl⟩)
      case measure => simp [intOf]; omega
    · obtain rfl : i = 16 := by omega
      rw [show ((16 : Nat) : Int) = 16 from rfl]
      have HS1 := Lib.hid (fun w => shared_any a l ha HL.out w)
      have HS2 := Lib.hid (fun w => shared_any l a HL.out ha w)
      have HS3 := Lib.hid (fun w => shared_any a a ha ha w)
      rw [parts_left HP.out hlt] at HS1
      rw [parts_right HP.out hlt] at HS2
      rw [shared_self] at HS3
      have hL := HL.out
      go_wp2_with (first | (refine wpList_load_row rfl 51 (.tmp 2) rfl w.heap.size rfl 51 (avs a) (0, 0) _ HA.out Tryd.underlying51 rfl (load_size a ha) ?_) | (refine wpList_load_row rfl 51 (.tmp 5) rfl gb rfl 51 (avs l) (0, 0) _ HT.out Tryd.underlying51 rfl (load_size l hL) ?_))
      refine (HS1.out wr).mono ?_
      rintro e w4 ⟨rfl, hb⟩
      have HA4 := Lib.hid (HA.out.below hb HA.out.lt)
      have HT4 := Lib.hid (HT.out.below hb HT.out.lt)
      have HB4 : Hid (Below w.heap.size w w4) := HB.out.trans (hb.mono HB.out.size)
      clear hb HS1
      go_wp2_with (first | (refine wpList_load_rowG (by rfl) 51 (.tmp 2) rfl w.heap.size rfl 51 (avs a) (0, 0) _ HA4.out Tryd.underlying51 rfl (load_size a ha) ?_) | (refine wpList_load_rowG (by rfl) 51 (.tmp 5) rfl gb rfl 51 (avs l) (0, 0) _ HT4.out Tryd.underlying51 rfl (load_size l hL) ?_))
      refine (HS2.out w4).mono ?_
      rintro e w5 ⟨rfl, hb⟩
      have HA5 := Lib.hid (HA4.out.below hb HA4.out.lt)
      have HB5 : Hid (Below w.heap.size w w5) := HB4.out.trans (hb.mono HB4.out.size)
      clear hb HS2
      go_wp2_with (refine wpList_load_rowG (by rfl) 51 (.tmp 2) rfl w.heap.size rfl 51 (avs a) (0, 0) _ HA5.out Tryd.underlying51 rfl (load_size a ha) ?_)
      refine (HS3.out w5).mono ?_
      rintro e w6 ⟨rfl, hb⟩
      have HB6 : Hid (Below w.heap.size w w6) := HB5.out.trans (hb.mono HB5.out.size)
      clear hb HS3
      rw [show ((128 : Nat) : Int) = 128 from rfl]
      go_wp2
      go_ret
      exact ⟨rfl, HB6.out⟩
end Go.Proofs.YtgdfmhdgmjogiaaDoor
