/- The law AddrFours, walked: what it answers is true. -/
import Derived.Test.YtgdfmhdgmjogiaaDoorFit
import Derived.Test.YtgdfmhdgmjogiaaDoorText
import Derived.Test.YtgdfmhdgmjogiaaDoorArr
import Derived.Test.YtgdfmhdgmjogiaaDoorDraw
namespace Go.Proofs.YtgdfmhdgmjogiaaDoor
open Go.RowKit
set_option linter.unusedVariables false
set_option linter.unusedSimpArgs false

theorem lands_off {P : Program} {ops : Array Oper} {S : World → Prop} {o : Oper} {a : Act} (hw : Region.wanted o (yielded ops a.tmps) = false) : LandsIf P ops S o undef a := .inr ⟨hw, rfl⟩
theorem is4_v4 (x y z u : UInt8) : Pl.is4 (Pl.v4 [x, y, z, u]) = true := by simp [Pl.is4, Pl.v4, Pl.v4head]
theorem v4_is4 {a : List UInt8} (ha : a.length = 16) (h : Pl.is4 a = true) : Pl.v4 [a.getD 12 0, a.getD 13 0, a.getD 14 0, a.getD 15 0] = a := by
  have h1 := Pl.is4_spec h
  have h2 := (List.take_append_drop 12 a).symm
  rw [h1] at h2
  obtain ⟨x0, x1, x2, x3, x4, x5, x6, x7, x8, x9, y0, y1, y2, y3, y4, y5, rfl⟩ := Pl.list16 a ha
  simp only [Pl.v4head, List.drop_succ_cons, List.drop_zero, List.cons_append, List.nil_append, List.cons.injEq] at h2
  unfold Pl.v4 Pl.v4head
  simp only [List.getD_cons_succ, List.getD_cons_zero, List.cons_append, List.nil_append]
  simp [h2]
def want10 (a : List UInt8) : Bool := a.getD 10 0 == 255 && a.getD 11 0 == 255
def wantAt (a : List UInt8) (i : Nat) : Bool := want10 a && (a.take i).all (· == 0)
theorem wantAt_succ {a : List UInt8} {i : Nat} (h : i < a.length) : wantAt a (i + 1) = (wantAt a i && a.getD i 0 == 0) := by
  unfold wantAt
  rw [List.take_succ_eq_append_getElem h, List.all_append, Bool.and_assoc]
  congr 2
  simp [List.getD, List.getElem?_eq_getElem h]
theorem want_is4 {a : List UInt8} (ha : a.length = 16) : wantAt a 10 = Pl.is4 a := by
  obtain ⟨x0, x1, x2, x3, x4, x5, x6, x7, x8, x9, y0, y1, y2, y3, y4, y5, rfl⟩ := Pl.list16 a ha
  rw [Bool.eq_iff_iff]
  simp [wantAt, want10, Pl.is4, Pl.v4head]
  constructor
  · rintro ⟨⟨h1, h2⟩, h3⟩; simp_all
  · intro h; simp_all
theorem byte_eq (x : UInt8) (n : Nat) (hn : n < 256) : ((x.toNat : Int) == (n : Int)) = (x == UInt8.ofNat n) := by
  by_cases h : x = UInt8.ofNat n
  · subst h
    have : (UInt8.ofNat n).toNat = n := by rw [UInt8.toNat_ofNat']; omega
    rw [this]; simp
  · have h1 : (x == UInt8.ofNat n) = false := beq_eq_false_iff_ne.2 h
    rw [h1, beq_eq_false_iff_ne]
    intro h2
    apply h
    apply UInt8.toNat_inj.1
    rw [UInt8.toNat_ofNat']
    omega

/-- What the last statement keeps. -/
def Fours (b a v : List UInt8) (n g5 g9 : Nat) (w0 w : World) : Prop :=
  RowIs w n (avs b) 74 ∧ RowIs w (n + 1) (avs a) 51 ∧ RowIs w g5 (avs v) 51 ∧ RowIs w g9 (avs v) 51 ∧ Below n w0 w ∧ WdA w
theorem fours_keep {b a v : List UInt8} {n g5 g9 : Nat} {w0 w w' : World} (h : Fours b a v n g5 g9 w0 w) (hb : Below w.heap.size w w') : Fours b a v n g5 g9 w0 w' := by
  obtain ⟨h1, h2, h3, h4, h5, h6⟩ := h
  exact ⟨h1.below hb h1.lt, h2.below hb h2.lt, h3.below hb h3.lt, h4.below hb h4.lt, h5.trans (hb.mono (by have := h1.lt; omega)), h6.on hb⟩
theorem fours_call {b a v : List UInt8} {n g5 g9 : Nat} {w0 : World} {f : FuncId} {args : Array Value} {r : Value} (h : ∀ w, WdA w → Calls Tryd.prog f args w fun e w' => e = .returned r ∧ Below w.heap.size w w') :
    ∀ w, Fours b a v n g5 g9 w0 w → Calls Tryd.prog f args w fun e w' => e = .returned r ∧ Fours b a v n g5 g9 w0 w' := fun w hS => (h w hS.2.2.2.2.2).mono fun e w' ⟨he, hb⟩ => ⟨he, fours_keep hS hb⟩

set_option maxHeartbeats 16000000 in
set_option maxRecDepth 100000 in
theorem lawFours (b : List UInt8) (hbl : b.length = 4) (a : List UInt8) (ha : a.length = 16) (w : World) (h : WdA w) :
    Calls Tryd.prog 11 #[.agg (avs b), .agg (avs a)] w fun e w' => e = .returned (.bool true) ∧ Below w.heap.size w w' := by
  obtain ⟨w0, hw0⟩ : ∃ w0, w0 = (w.alloc (.cells (avs b) 74)).alloc (.cells (avs a) 51) := ⟨_, rfl⟩
  have HRB : Hid (RowIs w0 w.heap.size (avs b) 74) := by rw [hw0]; exact (RowIs.new w _ _).past _
  have HRA : Hid (RowIs w0 (w.heap.size + 1) (avs a) 51) := by
    rw [hw0]
    have := RowIs.new (w.alloc (.cells (avs b) 74)) (avs a) 51
    rw [World.size_alloc] at this
    exact this
  have HB0 : Hid (Below w.heap.size w w0) := by
    rw [hw0]
    exact ((Below.refl _ _).alloc (Nat.le_refl _) _).alloc (by simp) _
  have HF := Lib.hid (fit_any w0 (h.on HB0.out))
  have HW := Lib.hid h
  clear h
  go_enter Tryd.func11, Tryd.ntmps11
  go_upto_region 1 with fail
  rw [← hw0]
  clear hw0
  go_wp2_with fail
  refine HF.out.mono ?_
  rintro e w1 ⟨rfl, hb1⟩
  have HB1 : Hid (Below w.heap.size w w1) := HB0.out.trans (hb1.mono HB0.out.size)
  have HRB1 := Lib.hid (HRB.out.below hb1 HRB.out.lt)
  have HRA1 := Lib.hid (HRA.out.below hb1 HRA.out.lt)
  clear hb1 HF HRB HRA HB0
  obtain ⟨b0, b1, b2, b3, rfl⟩ : ∃ b0 b1 b2 b3, b = [b0, b1, b2, b3] := by
    match b, hbl with
    | [b0, b1, b2, b3], _ => exact ⟨b0, b1, b2, b3, rfl⟩
  clear hbl
  have c0 : w1.cell? ⟨w.heap.size, 0, none⟩ = some (.int .u8 (b0.toNat : Int)) := HRB1.out.cell 0
  have c1 : w1.cell? ⟨w.heap.size, 1, none⟩ = some (.int .u8 (b1.toNat : Int)) := HRB1.out.cell 1
  have c2 : w1.cell? ⟨w.heap.size, 2, none⟩ = some (.int .u8 (b2.toNat : Int)) := HRB1.out.cell 2
  have c3 : w1.cell? ⟨w.heap.size, 3, none⟩ = some (.int .u8 (b3.toNat : Int)) := HRB1.out.cell 3
  have HV4 := Lib.hid (v4_any b0 b1 b2 b3 w1)
  go_wp2_with fail
  refine HV4.out.mono ?_
  rintro e w2 ⟨rfl, hb⟩
  clear c0 c1 c2 c3 HV4
  have HB2 : Hid (Below w.heap.size w w2) := HB1.out.trans (hb.mono HB1.out.size)
  have HRB2 := Lib.hid (HRB1.out.below hb HRB1.out.lt)
  have HRA2 := Lib.hid (HRA1.out.below hb HRA1.out.lt)
  clear hb HRB1 HRA1 HB1
  obtain ⟨v, hv⟩ : ∃ v, v = Pl.v4 [b0, b1, b2, b3] := ⟨_, rfl⟩
  have hvl : v.length = 16 := by rw [hv]; rfl
  have HV : Hid (Pl.is4 v = true) := by show _ = _; rw [hv]; exact is4_v4 _ _ _ _
  have HV12 : Hid (v.getD 12 0 = b0) := by show _ = _; rw [hv]; rfl
  have HV15 : Hid (v.getD 15 0 = b3) := by show _ = _; rw [hv]; rfl
  rw [← hv]
  clear hv
  have HVL := Lib.hid hvl
  have HN : Hid (RowIs (w2.alloc (.cells (avs zero16) 51)) w2.heap.size (avs zero16) 51) := RowIs.new w2 _ _
  go_upto_region 4 with (refine wpList_store_addr rfl (.tmp 5) (.tmp 21) rfl w2.heap.size v zero16 51 rfl rfl HVL.out rfl HN.out ?_)
  have HRV3 := Lib.hid (setRow_row HN.out (avs v))
  have HRB3 := Lib.hid (setRow_past (g := w2.heap.size) (ds := avs v) (HRB2.out.past (.cells (avs zero16) 51)) (by have := HRB2.out.lt; omega))
  have HRA3 := Lib.hid (setRow_past (g := w2.heap.size) (ds := avs v) (HRA2.out.past (.cells (avs zero16) 51)) (by have := HRA2.out.lt; omega))
  have HB3 := Lib.hid (below_setRow (HB2.out.alloc HB2.out.size (.cells (avs zero16) 51)) w2.heap.size HB2.out.size (avs v))
  rw [zero_lit]
  obtain ⟨w3, hw3⟩ : ∃ w3, w3 = (w2.alloc (.cells (avs zero16) 51)).setRow w2.heap.size (avs v) := ⟨_, rfl⟩
  obtain ⟨g5, hg5⟩ : ∃ n, n = w2.heap.size := ⟨_, rfl⟩
  rw [← hw3] at HRB3 HRA3 HB3
  rw [← hw3, ← hg5] at HRV3 ⊢
  clear hw3 hg5 HN HRB2 HRA2 HB2 hvl
  simp only [Act.put]
  go_cut [6] (fun s6 wx => s6 = .bool (want10 a) ∧ w3 = wx)
  case first =>
    have c10 := HRA3.out.cell 10
    have c11 := HRA3.out.cell 11
    rw [avs_get a _ (by omega)] at c10 c11
    have HWT : Hid (want10 a = (a.getD 10 0 == 255 && a.getD 11 0 == 255)) := rfl
    generalize a.getD 10 0 = x at c10 HWT
    generalize a.getD 11 0 = y at c11 HWT
    have hx := byte_eq x 255 (by omega)
    have hy := byte_eq y 255 (by omega)
    rw [show ((255 : Nat) : Int) = 255 from rfl, show UInt8.ofNat 255 = 255 from rfl] at hx hy
    cases h1 : (x == 255) with
    | true =>
      rw [h1] at hx
      cases h2 : (y == 255) with
      | true =>
        rw [h2] at hy
        have HR : Hid (want10 a = true) := by show _ = _; rw [HWT.out, h1, h2]; rfl
        clear h1 h2 HWT
        go_wp2_with fail
        go_meet
        case rel => exact ⟨by rw [HR.out], by first | rfl | trivial⟩
      | false =>
        rw [h2] at hy
        have HR : Hid (want10 a = false) := by show _ = _; rw [HWT.out, h1, h2]; rfl
        clear h1 h2 HWT
        go_wp2_with fail
        go_meet
        case rel => exact ⟨by rw [HR.out], by first | rfl | trivial⟩
    | false =>
      rw [h1] at hx
      have HR : Hid (want10 a = false) := by show _ = _; rw [HWT.out, h1]; rfl
      clear h1 HWT hy
      go_wp2_with fail
      go_meet
      case rel => exact ⟨by rw [HR.out], by first | rfl | trivial⟩
  case rest =>
    obtain ⟨rfl, rfl⟩ := hcut
    go_wp2_with fail
    go_loopw [6, 8, 32] (fun s6 _ s32 wr => ∃ i : Nat, i ≤ 10 ∧ s32 = .int .i64 i ∧ s6 = .bool (wantAt a i) ∧ w3 = wr) (fun _ _ s32 _ => 10 - (intOf s32).toNat)
    case atStart => exact ⟨0, by omega, rfl, by unfold wantAt; simp, by first | rfl | trivial⟩
    case round =>
      obtain ⟨i, hi, rfl, rfl, rfl⟩ := hrel
      by_cases hlt : i < 10
      · have HS := Lib.hid (wantAt_succ (a := a) (i := i) (by omega))
        have ci := HRA3.out.cell i
        rw [avs_get a _ (by omega)] at ci
        generalize a.getD i 0 = x at ci HS
        have hx := byte_eq x 0 (by omega)
        rw [show ((0 : Nat) : Int) = 0 from rfl, show UInt8.ofNat 0 = 0 from rfl] at hx
        obtain ⟨b, hb⟩ : ∃ b, b = wantAt a i := ⟨_, rfl⟩
        rw [← hb] at HS ⊢
        clear hb
        cases b with
        | true =>
          cases h1 : (x == 0) with
          | true =>
            rw [h1] at hx
            have HR : Hid (wantAt a (i + 1) = true) := by show _ = _; rw [HS.out, h1]; rfl
            clear h1 HS
            go_wp2_with fail
            go_roundw
            case rel => first | exact ⟨i + 1, by omega, by go_num, by rw [HR.out], by first | rfl | trivial⟩ | ((repeat apply Exists.intro); exact ⟨⟨i + 1, by omega, by go_num, by rw [HR.out], by first | rfl | trivial⟩, rfl⟩)
            case measure => simp [intOf]; omega
          | false =>
            rw [h1] at hx
            have HR : Hid (wantAt a (i + 1) = false) := by show _ = _; rw [HS.out, h1]; rfl
            clear h1 HS
            go_wp2_with fail
            go_roundw
            case rel => first | exact ⟨i + 1, by omega, by go_num, by rw [HR.out], by first | rfl | trivial⟩ | ((repeat apply Exists.intro); exact ⟨⟨i + 1, by omega, by go_num, by rw [HR.out], by first | rfl | trivial⟩, rfl⟩)
            case measure => simp [intOf]; omega
        | false =>
          have HR : Hid (wantAt a (i + 1) = false) := by show _ = _; rw [HS.out]; rfl
          clear HS hx
          go_wp2_with fail
          go_roundw
          case rel => first | exact ⟨i + 1, by omega, by go_num, by rw [HR.out], by first | rfl | trivial⟩ | ((repeat apply Exists.intro); exact ⟨⟨i + 1, by omega, by go_num, by rw [HR.out], by first | rfl | trivial⟩, rfl⟩)
          case measure => simp [intOf]; omega
      · obtain rfl : i = 10 := by omega
        rw [want_is4 ha]
        have HP := Lib.hid (print_any v HVL.out w3 (HW.out.on HB3.out))
        have HLV := Lib.hid (load_size v HVL.out)
        go_wp2_with (refine wpList_load_row rfl 51 (.tmp 5) rfl g5 rfl 51 (avs v) (0, 0) _ HRV3.out Tryd.underlying51 rfl HLV.out ?_)
        refine HP.out.mono ?_
        rintro e w4 ⟨rfl, hb⟩
        have HB4 : Hid (Below w.heap.size w w4) := HB3.out.trans (hb.mono HB3.out.size)
        have HRV4 := Lib.hid (HRV3.out.below hb HRV3.out.lt)
        have HRB4 := Lib.hid (HRB3.out.below hb HRB3.out.lt)
        have HRA4 := Lib.hid (HRA3.out.below hb HRA3.out.lt)
        clear hb HP HB3 HRV3 HRB3 HRA3
        obtain ⟨p, hp⟩ : ∃ p : ByteArray, p = ⟨(Pl.print v).toArray⟩ := ⟨_, rfl⟩
        have HPP : Hid (Pl.parse p.data.toList = some v) := by show _ = _; rw [hp]; exact Pl.parse_of_print v HVL.out
        have hps : p.size < 4294967281 := by rw [Lib.size_eq, hp]; show (Pl.print v).length < _; have := Pl.print_len v HVL.out; omega
        rw [← hp]
        clear hp
        have HPA := Lib.hid (parse_any p hps w4 (HW.out.on HB4.out))
        go_wp2_with fail
        refine HPA.out.mono ?_
        rintro e w5 ⟨rfl, hb⟩
        rw [HPP.out, show errno (some v) = 0 from rfl, show (some v).getD zero16 = v from rfl]
        have HB5 : Hid (Below w.heap.size w w5) := HB4.out.trans (hb.mono HB4.out.size)
        have HRV5 := Lib.hid (HRV4.out.below hb HRV4.out.lt)
        have HRB5 := Lib.hid (HRB4.out.below hb HRB4.out.lt)
        have HRA5 := Lib.hid (HRA4.out.below hb HRA4.out.lt)
        clear hb HPA HB4 HRV4 HRB4 HRA4 HPP hps
        have HN : Hid (RowIs (w5.alloc (.cells (avs zero16) 51)) w5.heap.size (avs zero16) 51) := RowIs.new w5 _ _
        go_upto_region 11 with (refine wpList_store_addr rfl (.tmp 9) (.tmp 46) rfl w5.heap.size v zero16 51 rfl rfl HVL.out rfl HN.out ?_)
        have HRW6 := Lib.hid (setRow_row HN.out (avs v))
        have HRV6 := Lib.hid (setRow_past (g := w5.heap.size) (ds := avs v) (HRV5.out.past (.cells (avs zero16) 51)) (by have := HRV5.out.lt; omega))
        have HRB6 := Lib.hid (setRow_past (g := w5.heap.size) (ds := avs v) (HRB5.out.past (.cells (avs zero16) 51)) (by have := HRB5.out.lt; omega))
        have HRA6 := Lib.hid (setRow_past (g := w5.heap.size) (ds := avs v) (HRA5.out.past (.cells (avs zero16) 51)) (by have := HRA5.out.lt; omega))
        have HB6 := Lib.hid (below_setRow (HB5.out.alloc HB5.out.size (.cells (avs zero16) 51)) w5.heap.size HB5.out.size (avs v))
        rw [zero_lit]
        obtain ⟨w6, hw6⟩ : ∃ w6, w6 = (w5.alloc (.cells (avs zero16) 51)).setRow w5.heap.size (avs v) := ⟨_, rfl⟩
        obtain ⟨g9, hg9⟩ : ∃ n, n = w5.heap.size := ⟨_, rfl⟩
        rw [← hw6] at HRV6 HRB6 HRA6 HB6
        rw [← hw6, ← hg9] at HRW6 ⊢
        clear hw6 hg9 HN HRV5 HRB5 HRA5 HB5
        have hvv : ∀ w, (binOp .eql 51 (.agg (avs v)) (.agg (avs v))).run Tryd.prog w = .ok (.bool true) w := fun w => by rw [eql_addr v v HVL.out HVL.out]; simp
        have haa : ∀ w, (binOp .eql 51 (.agg (avs a)) (.agg (avs a))).run Tryd.prog w = .ok (.bool true) w := fun w => by rw [eql_addr a a ha ha]; simp
        have h4v : ∀ w, WdA w → Calls Tryd.prog 39 #[.agg (avs v)] w fun e w' => e = .returned (.bool true) ∧ Below w.heap.size w w' := fun w _ => (is4_any v HVL.out w).mono (by rw [HV.out]; exact fun e w' h => h)
        have h4a : ∀ w, WdA w → Calls Tryd.prog 39 #[.agg (avs a)] w fun e w' => e = .returned (.bool (Pl.is4 a)) ∧ Below w.heap.size w w' := fun w _ => is4_any a ha w
        have HA4 : Hid (Pl.is4 a = true → Pl.v4 [a.getD 12 0, a.getD 13 0, a.getD 14 0, a.getD 15 0] = a) := v4_is4 ha
        have HS0 : Hid (Fours [b0, b1, b2, b3] a v w.heap.size g5 g9 w w6.drew) := ⟨HRB6.out.drew, HRA6.out.drew, HRV6.out.drew, HRW6.out.drew, below_drewN HB6.out 1, (HW.out.on HB6.out).on (below_drewN (Below.refl _ _) 1)⟩
        have kb0 : ∀ w', Fours [b0, b1, b2, b3] a v w.heap.size g5 g9 w w' → w'.cell? ⟨w.heap.size, 0, none⟩ = some (.int .u8 (b0.toNat : Int)) := fun w' h => h.1.cell 0
        have kb3 : ∀ w', Fours [b0, b1, b2, b3] a v w.heap.size g5 g9 w w' → w'.cell? ⟨w.heap.size, 3, none⟩ = some (.int .u8 (b3.toNat : Int)) := fun w' h => h.1.cell 3
        have kv12 : ∀ w', Fours [b0, b1, b2, b3] a v w.heap.size g5 g9 w w' → w'.cell? ⟨g5, 12, none⟩ = some (.int .u8 (b0.toNat : Int)) := fun w' h => by
          have := h.2.2.1.cell 12
          rw [avs_get v 12 (by have := HVL.out; omega), HV12.out] at this; exact this
        have kv15 : ∀ w', Fours [b0, b1, b2, b3] a v w.heap.size g5 g9 w w' → w'.cell? ⟨g5, 15, none⟩ = some (.int .u8 (b3.toNat : Int)) := fun w' h => by
          have := h.2.2.1.cell 15
          rw [avs_get v 15 (by have := HVL.out; omega), HV15.out] at this; exact this
        have ka : ∀ w' j, j < 16 → Fours [b0, b1, b2, b3] a v w.heap.size g5 g9 w w' → w'.cell? ⟨w.heap.size + 1, j, none⟩ = some (.int .u8 ((a.getD j 0).toNat : Int)) := fun w' j hj h => by
          have := h.2.1.cell j
          rw [avs_get a j (by omega)] at this; exact this
        have HKB0 := Lib.hid kb0
        have HKB3 := Lib.hid kb3
        have HK12 := Lib.hid kv12
        have HK15 := Lib.hid kv15
        have HKA := Lib.hid ka
        clear kb0 kb3 kv12 kv15 ka HRW6 HRV6 HRB6 HRA6 HB6 HV HV12 HV15
        refine wp_region_inAny (Fours [b0, b1, b2, b3] a v w.heap.size g5 g9 w) (by kernel_rfl) HS0.out ?_
        clear HS0
        obtain ⟨t, ht⟩ : ∃ t, t = Pl.is4 a := ⟨_, rfl⟩
        rw [← ht] at h4a HA4 ⊢
        clear ht
        cases t with
        | true =>
          refine inAny_take (i := 0) (v := .agg (avs v)) (by simp only [List.getElem?_toArray, List.getElem?_cons_succ, List.getElem?_cons_zero]; rfl) (by kernel_rfl) (by kernel_rfl) (by kernel_rfl) ?_ ?_
          · exact lands_load (by rfl) _ _ rfl _ rfl (avs v) _ (fun w h => ⟨_, h.2.2.1⟩) Tryd.underlying51 rfl (load_size v HVL.out)
          simp only [Act.put, List.setIfInBounds_toArray, List.set_cons_zero, List.set_cons_succ]
          refine inAny_take (i := 1) (v := .bool true) (by simp only [List.getElem?_toArray, List.getElem?_cons_succ, List.getElem?_cons_zero]; rfl) (by kernel_rfl) (by kernel_rfl) (by kernel_rfl) ?_ ?_
          · exact lands_call (by rfl) (f := 39) (args := #[.agg (avs v)]) (fun w => by go_simp) (fours_call h4v)
          simp only [Act.put, List.setIfInBounds_toArray, List.set_cons_zero, List.set_cons_succ]
          refine inAny_take (i := 2) (v := .bool true) (by simp only [List.getElem?_toArray, List.getElem?_cons_succ, List.getElem?_cons_zero]; rfl) (by kernel_rfl) (by kernel_rfl) (by kernel_rfl) ?_ ?_
          · exact lands_run (by rfl) (fun w _ => by go_simp)
          simp only [Act.put, List.setIfInBounds_toArray, List.set_cons_zero, List.set_cons_succ]
          refine inAny_take (i := 3) (v := .pointer (some ⟨g5, 12, none⟩)) (by simp only [List.getElem?_toArray, List.getElem?_cons_succ, List.getElem?_cons_zero]; rfl) (by kernel_rfl) (by kernel_rfl) (by kernel_rfl) ?_ ?_
          · exact lands_run (by rfl) (fun w _ => by go_simp)
          simp only [Act.put, List.setIfInBounds_toArray, List.set_cons_zero, List.set_cons_succ]
          refine inAny_take (i := 4) (v := .int .u8 (b0.toNat : Int)) (by simp only [List.getElem?_toArray, List.getElem?_cons_succ, List.getElem?_cons_zero]; rfl) (by kernel_rfl) (by kernel_rfl) (by kernel_rfl) ?_ ?_
          · exact lands_run (by rfl) (fun w hS => by have c := HK12.out w hS; go_simp)
          simp only [Act.put, List.setIfInBounds_toArray, List.set_cons_zero, List.set_cons_succ]
          refine inAny_take (i := 5) (v := .pointer (some ⟨w.heap.size, 0, none⟩)) (by simp only [List.getElem?_toArray, List.getElem?_cons_succ, List.getElem?_cons_zero]; rfl) (by kernel_rfl) (by kernel_rfl) (by kernel_rfl) ?_ ?_
          · exact lands_run (by rfl) (fun w _ => by go_simp)
          simp only [Act.put, List.setIfInBounds_toArray, List.set_cons_zero, List.set_cons_succ]
          refine inAny_take (i := 6) (v := .int .u8 (b0.toNat : Int)) (by simp only [List.getElem?_toArray, List.getElem?_cons_succ, List.getElem?_cons_zero]; rfl) (by kernel_rfl) (by kernel_rfl) (by kernel_rfl) ?_ ?_
          · exact lands_run (by rfl) (fun w hS => by have c := HKB0.out w hS; go_simp)
          simp only [Act.put, List.setIfInBounds_toArray, List.set_cons_zero, List.set_cons_succ]
          refine inAny_take (i := 7) (v := .bool true) (by simp only [List.getElem?_toArray, List.getElem?_cons_succ, List.getElem?_cons_zero]; rfl) (by kernel_rfl) (by kernel_rfl) (by kernel_rfl) ?_ ?_
          · exact lands_run (by rfl) (fun w _ => by go_simp)
          simp only [Act.put, List.setIfInBounds_toArray, List.set_cons_zero, List.set_cons_succ]
          refine inAny_take (i := 8) (v := .bool true) (by simp only [List.getElem?_toArray, List.getElem?_cons_succ, List.getElem?_cons_zero]; rfl) (by kernel_rfl) (by kernel_rfl) (by kernel_rfl) ?_ ?_
          · exact lands_run (by rfl) (fun w _ => by go_simp)
          simp only [Act.put, List.setIfInBounds_toArray, List.set_cons_zero, List.set_cons_succ]
          refine inAny_take (i := 9) (v := .bool true) (by simp only [List.getElem?_toArray, List.getElem?_cons_succ, List.getElem?_cons_zero]; rfl) (by kernel_rfl) (by kernel_rfl) (by kernel_rfl) ?_ ?_
          · exact lands_run (by rfl) (fun w _ => by go_simp)
          simp only [Act.put, List.setIfInBounds_toArray, List.set_cons_zero, List.set_cons_succ]
          refine inAny_take (i := 10) (v := .pointer (some ⟨g5, 15, none⟩)) (by simp only [List.getElem?_toArray, List.getElem?_cons_succ, List.getElem?_cons_zero]; rfl) (by kernel_rfl) (by kernel_rfl) (by kernel_rfl) ?_ ?_
          · exact lands_run (by rfl) (fun w _ => by go_simp)
          simp only [Act.put, List.setIfInBounds_toArray, List.set_cons_zero, List.set_cons_succ]
          refine inAny_take (i := 11) (v := .int .u8 (b3.toNat : Int)) (by simp only [List.getElem?_toArray, List.getElem?_cons_succ, List.getElem?_cons_zero]; rfl) (by kernel_rfl) (by kernel_rfl) (by kernel_rfl) ?_ ?_
          · exact lands_run (by rfl) (fun w hS => by have c := HK15.out w hS; go_simp)
          simp only [Act.put, List.setIfInBounds_toArray, List.set_cons_zero, List.set_cons_succ]
          refine inAny_take (i := 12) (v := .pointer (some ⟨w.heap.size, 3, none⟩)) (by simp only [List.getElem?_toArray, List.getElem?_cons_succ, List.getElem?_cons_zero]; rfl) (by kernel_rfl) (by kernel_rfl) (by kernel_rfl) ?_ ?_
          · exact lands_run (by rfl) (fun w _ => by go_simp)
          simp only [Act.put, List.setIfInBounds_toArray, List.set_cons_zero, List.set_cons_succ]
          refine inAny_take (i := 13) (v := .int .u8 (b3.toNat : Int)) (by simp only [List.getElem?_toArray, List.getElem?_cons_succ, List.getElem?_cons_zero]; rfl) (by kernel_rfl) (by kernel_rfl) (by kernel_rfl) ?_ ?_
          · exact lands_run (by rfl) (fun w hS => by have c := HKB3.out w hS; go_simp)
          simp only [Act.put, List.setIfInBounds_toArray, List.set_cons_zero, List.set_cons_succ]
          refine inAny_take (i := 14) (v := .bool true) (by simp only [List.getElem?_toArray, List.getElem?_cons_succ, List.getElem?_cons_zero]; rfl) (by kernel_rfl) (by kernel_rfl) (by kernel_rfl) ?_ ?_
          · exact lands_run (by rfl) (fun w _ => by go_simp)
          simp only [Act.put, List.setIfInBounds_toArray, List.set_cons_zero, List.set_cons_succ]
          refine inAny_take (i := 15) (v := .bool true) (by simp only [List.getElem?_toArray, List.getElem?_cons_succ, List.getElem?_cons_zero]; rfl) (by kernel_rfl) (by kernel_rfl) (by kernel_rfl) ?_ ?_
          · exact lands_run (by rfl) (fun w _ => by go_simp)
          simp only [Act.put, List.setIfInBounds_toArray, List.set_cons_zero, List.set_cons_succ]
          refine inAny_take (i := 16) (v := .bool true) (by simp only [List.getElem?_toArray, List.getElem?_cons_succ, List.getElem?_cons_zero]; rfl) (by kernel_rfl) (by kernel_rfl) (by kernel_rfl) ?_ ?_
          · exact lands_run (by rfl) (fun w _ => by go_simp)
          simp only [Act.put, List.setIfInBounds_toArray, List.set_cons_zero, List.set_cons_succ]
          refine inAny_take (i := 17) (v := .agg (avs a)) (by simp only [List.getElem?_toArray, List.getElem?_cons_succ, List.getElem?_cons_zero]; rfl) (by kernel_rfl) (by kernel_rfl) (by kernel_rfl) ?_ ?_
          · exact lands_load (by rfl) _ _ rfl _ rfl (avs a) _ (fun w h => ⟨_, h.2.1⟩) Tryd.underlying51 rfl (load_size a ha)
          simp only [Act.put, List.setIfInBounds_toArray, List.set_cons_zero, List.set_cons_succ]
          refine inAny_take (i := 18) (v := .bool true) (by simp only [List.getElem?_toArray, List.getElem?_cons_succ, List.getElem?_cons_zero]; rfl) (by kernel_rfl) (by kernel_rfl) (by kernel_rfl) ?_ ?_
          · exact lands_call (by rfl) (f := 39) (args := #[.agg (avs a)]) (fun w => by go_simp) (fours_call h4a)
          simp only [Act.put, List.setIfInBounds_toArray, List.set_cons_zero, List.set_cons_succ]
          refine inAny_take (i := 19) (v := .bool true) (by simp only [List.getElem?_toArray, List.getElem?_cons_succ, List.getElem?_cons_zero]; rfl) (by kernel_rfl) (by kernel_rfl) (by kernel_rfl) ?_ ?_
          · exact lands_run (by rfl) (fun w _ => by go_simp)
          simp only [Act.put, List.setIfInBounds_toArray, List.set_cons_zero, List.set_cons_succ]
          refine inAny_take (i := 20) (v := .bool true) (by simp only [List.getElem?_toArray, List.getElem?_cons_succ, List.getElem?_cons_zero]; rfl) (by kernel_rfl) (by kernel_rfl) (by kernel_rfl) ?_ ?_
          · exact lands_run (by rfl) (fun w _ => by go_simp)
          simp only [Act.put, List.setIfInBounds_toArray, List.set_cons_zero, List.set_cons_succ]
          refine inAny_take (i := 21) (v := .bool true) (by simp only [List.getElem?_toArray, List.getElem?_cons_succ, List.getElem?_cons_zero]; rfl) (by kernel_rfl) (by kernel_rfl) (by kernel_rfl) ?_ ?_
          · exact lands_run (by rfl) (fun w _ => by go_simp)
          simp only [Act.put, List.setIfInBounds_toArray, List.set_cons_zero, List.set_cons_succ]
          refine inAny_take (i := 22) (v := .bool true) (by simp only [List.getElem?_toArray, List.getElem?_cons_succ, List.getElem?_cons_zero]; rfl) (by kernel_rfl) (by kernel_rfl) (by kernel_rfl) ?_ ?_
          · exact lands_run (by rfl) (fun w _ => by go_simp)
          simp only [Act.put, List.setIfInBounds_toArray, List.set_cons_zero, List.set_cons_succ]
          refine inAny_take (i := 23) (v := .int .i64 0) (by simp only [List.getElem?_toArray, List.getElem?_cons_succ, List.getElem?_cons_zero]; rfl) (by kernel_rfl) (by kernel_rfl) (by kernel_rfl) ?_ ?_
          · exact lands_run (by rfl) (fun w _ => by go_simp)
          simp only [Act.put, List.setIfInBounds_toArray, List.set_cons_zero, List.set_cons_succ]
          refine inAny_take (i := 24) (v := .bool true) (by simp only [List.getElem?_toArray, List.getElem?_cons_succ, List.getElem?_cons_zero]; rfl) (by kernel_rfl) (by kernel_rfl) (by kernel_rfl) ?_ ?_
          · exact lands_run (by rfl) (fun w _ => by go_simp)
          simp only [Act.put, List.setIfInBounds_toArray, List.set_cons_zero, List.set_cons_succ]
          refine inAny_take (i := 25) (v := .bool true) (by simp only [List.getElem?_toArray, List.getElem?_cons_succ, List.getElem?_cons_zero]; rfl) (by kernel_rfl) (by kernel_rfl) (by kernel_rfl) ?_ ?_
          · exact lands_run (by rfl) (fun w _ => by go_simp)
          simp only [Act.put, List.setIfInBounds_toArray, List.set_cons_zero, List.set_cons_succ]
          refine inAny_take (i := 26) (v := .bool true) (by simp only [List.getElem?_toArray, List.getElem?_cons_succ, List.getElem?_cons_zero]; rfl) (by kernel_rfl) (by kernel_rfl) (by kernel_rfl) ?_ ?_
          · exact lands_run (by rfl) (fun w _ => by go_simp)
          simp only [Act.put, List.setIfInBounds_toArray, List.set_cons_zero, List.set_cons_succ]
          refine inAny_take (i := 27) (v := .agg (avs v)) (by simp only [List.getElem?_toArray, List.getElem?_cons_succ, List.getElem?_cons_zero]; rfl) (by kernel_rfl) (by kernel_rfl) (by kernel_rfl) ?_ ?_
          · exact lands_load (by rfl) _ _ rfl _ rfl (avs v) _ (fun w h => ⟨_, h.2.2.2.1⟩) Tryd.underlying51 rfl (load_size v HVL.out)
          simp only [Act.put, List.setIfInBounds_toArray, List.set_cons_zero, List.set_cons_succ]
          refine inAny_take (i := 28) (v := .agg (avs v)) (by simp only [List.getElem?_toArray, List.getElem?_cons_succ, List.getElem?_cons_zero]; rfl) (by kernel_rfl) (by kernel_rfl) (by kernel_rfl) ?_ ?_
          · exact lands_load (by rfl) _ _ rfl _ rfl (avs v) _ (fun w h => ⟨_, h.2.2.1⟩) Tryd.underlying51 rfl (load_size v HVL.out)
          simp only [Act.put, List.setIfInBounds_toArray, List.set_cons_zero, List.set_cons_succ]
          refine inAny_take (i := 29) (v := .bool true) (by simp only [List.getElem?_toArray, List.getElem?_cons_succ, List.getElem?_cons_zero]; rfl) (by kernel_rfl) (by kernel_rfl) (by kernel_rfl) ?_ ?_
          · exact lands_run (by rfl) (fun w _ => by go_simp)
          simp only [Act.put, List.setIfInBounds_toArray, List.set_cons_zero, List.set_cons_succ]
          refine inAny_take (i := 30) (v := .bool true) (by simp only [List.getElem?_toArray, List.getElem?_cons_succ, List.getElem?_cons_zero]; rfl) (by kernel_rfl) (by kernel_rfl) (by kernel_rfl) ?_ ?_
          · exact lands_run (by rfl) (fun w _ => by go_simp)
          simp only [Act.put, List.setIfInBounds_toArray, List.set_cons_zero, List.set_cons_succ]
          refine inAny_take (i := 31) (v := .bool true) (by simp only [List.getElem?_toArray, List.getElem?_cons_succ, List.getElem?_cons_zero]; rfl) (by kernel_rfl) (by kernel_rfl) (by kernel_rfl) ?_ ?_
          · exact lands_run (by rfl) (fun w _ => by go_simp)
          simp only [Act.put, List.setIfInBounds_toArray, List.set_cons_zero, List.set_cons_succ]
          refine inAny_take (i := 32) (v := .bool true) (by simp only [List.getElem?_toArray, List.getElem?_cons_succ, List.getElem?_cons_zero]; rfl) (by kernel_rfl) (by kernel_rfl) (by kernel_rfl) ?_ ?_
          · exact lands_run (by rfl) (fun w _ => by go_simp)
          simp only [Act.put, List.setIfInBounds_toArray, List.set_cons_zero, List.set_cons_succ]
          refine inAny_take (i := 33) (v := .bool false) (by simp only [List.getElem?_toArray, List.getElem?_cons_succ, List.getElem?_cons_zero]; rfl) (by kernel_rfl) (by kernel_rfl) (by kernel_rfl) ?_ ?_
          · exact lands_run (by rfl) (fun w _ => by go_simp)
          simp only [Act.put, List.setIfInBounds_toArray, List.set_cons_zero, List.set_cons_succ]
          refine inAny_take (i := 34) (v := .bool false) (by simp only [List.getElem?_toArray, List.getElem?_cons_succ, List.getElem?_cons_zero]; rfl) (by kernel_rfl) (by kernel_rfl) (by kernel_rfl) ?_ ?_
          · exact lands_run (by rfl) (fun w _ => by go_simp)
          simp only [Act.put, List.setIfInBounds_toArray, List.set_cons_zero, List.set_cons_succ]
          refine inAny_take (i := 35) (v := .pointer (some ⟨w.heap.size + 1, 12, none⟩)) (by simp only [List.getElem?_toArray, List.getElem?_cons_succ, List.getElem?_cons_zero]; rfl) (by kernel_rfl) (by kernel_rfl) (by kernel_rfl) ?_ ?_
          · exact lands_run (by rfl) (fun w _ => by go_simp)
          simp only [Act.put, List.setIfInBounds_toArray, List.set_cons_zero, List.set_cons_succ]
          refine inAny_take (i := 36) (v := .int .u8 ((a.getD 12 0).toNat : Int)) (by simp only [List.getElem?_toArray, List.getElem?_cons_succ, List.getElem?_cons_zero]; rfl) (by kernel_rfl) (by kernel_rfl) (by kernel_rfl) ?_ ?_
          · exact lands_run (by rfl) (fun w hS => by have c := HKA.out w 12 (by omega) hS; go_simp)
          simp only [Act.put, List.setIfInBounds_toArray, List.set_cons_zero, List.set_cons_succ]
          refine inAny_take (i := 37) (v := .pointer (some ⟨w.heap.size + 1, 13, none⟩)) (by simp only [List.getElem?_toArray, List.getElem?_cons_succ, List.getElem?_cons_zero]; rfl) (by kernel_rfl) (by kernel_rfl) (by kernel_rfl) ?_ ?_
          · exact lands_run (by rfl) (fun w _ => by go_simp)
          simp only [Act.put, List.setIfInBounds_toArray, List.set_cons_zero, List.set_cons_succ]
          refine inAny_take (i := 38) (v := .int .u8 ((a.getD 13 0).toNat : Int)) (by simp only [List.getElem?_toArray, List.getElem?_cons_succ, List.getElem?_cons_zero]; rfl) (by kernel_rfl) (by kernel_rfl) (by kernel_rfl) ?_ ?_
          · exact lands_run (by rfl) (fun w hS => by have c := HKA.out w 13 (by omega) hS; go_simp)
          simp only [Act.put, List.setIfInBounds_toArray, List.set_cons_zero, List.set_cons_succ]
          refine inAny_take (i := 39) (v := .pointer (some ⟨w.heap.size + 1, 14, none⟩)) (by simp only [List.getElem?_toArray, List.getElem?_cons_succ, List.getElem?_cons_zero]; rfl) (by kernel_rfl) (by kernel_rfl) (by kernel_rfl) ?_ ?_
          · exact lands_run (by rfl) (fun w _ => by go_simp)
          simp only [Act.put, List.setIfInBounds_toArray, List.set_cons_zero, List.set_cons_succ]
          refine inAny_take (i := 40) (v := .int .u8 ((a.getD 14 0).toNat : Int)) (by simp only [List.getElem?_toArray, List.getElem?_cons_succ, List.getElem?_cons_zero]; rfl) (by kernel_rfl) (by kernel_rfl) (by kernel_rfl) ?_ ?_
          · exact lands_run (by rfl) (fun w hS => by have c := HKA.out w 14 (by omega) hS; go_simp)
          simp only [Act.put, List.setIfInBounds_toArray, List.set_cons_zero, List.set_cons_succ]
          refine inAny_take (i := 41) (v := .pointer (some ⟨w.heap.size + 1, 15, none⟩)) (by simp only [List.getElem?_toArray, List.getElem?_cons_succ, List.getElem?_cons_zero]; rfl) (by kernel_rfl) (by kernel_rfl) (by kernel_rfl) ?_ ?_
          · exact lands_run (by rfl) (fun w _ => by go_simp)
          simp only [Act.put, List.setIfInBounds_toArray, List.set_cons_zero, List.set_cons_succ]
          refine inAny_take (i := 42) (v := .int .u8 ((a.getD 15 0).toNat : Int)) (by simp only [List.getElem?_toArray, List.getElem?_cons_succ, List.getElem?_cons_zero]; rfl) (by kernel_rfl) (by kernel_rfl) (by kernel_rfl) ?_ ?_
          · exact lands_run (by rfl) (fun w hS => by have c := HKA.out w 15 (by omega) hS; go_simp)
          simp only [Act.put, List.setIfInBounds_toArray, List.set_cons_zero, List.set_cons_succ]
          refine inAny_take (i := 43) (v := .agg (avs a)) (by simp only [List.getElem?_toArray, List.getElem?_cons_succ, List.getElem?_cons_zero]; rfl) (by kernel_rfl) (by kernel_rfl) (by kernel_rfl) ?_ ?_
          · exact lands_call (by rfl) (f := 40) (args := #[.int .u8 ((a.getD 12 0).toNat : Int), .int .u8 ((a.getD 13 0).toNat : Int), .int .u8 ((a.getD 14 0).toNat : Int), .int .u8 ((a.getD 15 0).toNat : Int)]) (fun w => by go_simp) (fours_call (fun w _ => by have := v4_any (a.getD 12 0) (a.getD 13 0) (a.getD 14 0) (a.getD 15 0) w; rw [HA4.out rfl] at this; exact this))
          simp only [Act.put, List.setIfInBounds_toArray, List.set_cons_zero, List.set_cons_succ]
          refine inAny_take (i := 44) (v := .agg (avs a)) (by simp only [List.getElem?_toArray, List.getElem?_cons_succ, List.getElem?_cons_zero]; rfl) (by kernel_rfl) (by kernel_rfl) (by kernel_rfl) ?_ ?_
          · exact lands_load (by rfl) _ _ rfl _ rfl (avs a) _ (fun w h => ⟨_, h.2.1⟩) Tryd.underlying51 rfl (load_size a ha)
          simp only [Act.put, List.setIfInBounds_toArray, List.set_cons_zero, List.set_cons_succ]
          refine inAny_take (i := 45) (v := .bool true) (by simp only [List.getElem?_toArray, List.getElem?_cons_succ, List.getElem?_cons_zero]; rfl) (by kernel_rfl) (by kernel_rfl) (by kernel_rfl) ?_ ?_
          · exact lands_run (by rfl) (fun w _ => by go_simp)
          simp only [Act.put, List.setIfInBounds_toArray, List.set_cons_zero, List.set_cons_succ]
          refine inAny_take (i := 46) (v := .bool true) (by simp only [List.getElem?_toArray, List.getElem?_cons_succ, List.getElem?_cons_zero]; rfl) (by kernel_rfl) (by kernel_rfl) (by kernel_rfl) ?_ ?_
          · exact lands_run (by rfl) (fun w _ => by go_simp)
          simp only [Act.put, List.setIfInBounds_toArray, List.set_cons_zero, List.set_cons_succ]
          refine inAny_take (i := 47) (v := .bool true) (by simp only [List.getElem?_toArray, List.getElem?_cons_succ, List.getElem?_cons_zero]; rfl) (by kernel_rfl) (by kernel_rfl) (by kernel_rfl) ?_ ?_
          · exact lands_run (by rfl) (fun w _ => by go_simp)
          simp only [Act.put, List.setIfInBounds_toArray, List.set_cons_zero, List.set_cons_succ]
          refine inAny_take (i := 48) (v := .bool true) (by simp only [List.getElem?_toArray, List.getElem?_cons_succ, List.getElem?_cons_zero]; rfl) (by kernel_rfl) (by kernel_rfl) (by kernel_rfl) ?_ ?_
          · exact lands_run (by rfl) (fun w _ => by go_simp)
          simp only [Act.put, List.setIfInBounds_toArray, List.set_cons_zero, List.set_cons_succ]
          refine inAny_done (by kernel_rfl) (fun w2 hS2 => ?_) _
          have HB2 := Lib.hid hS2.2.2.2.2.1
          clear hS2
          go_wp2
          go_ret
          exact ⟨rfl, HB2.out⟩
        | false =>
          refine inAny_take (i := 0) (v := .agg (avs v)) (by simp only [List.getElem?_toArray, List.getElem?_cons_succ, List.getElem?_cons_zero]; rfl) (by kernel_rfl) (by kernel_rfl) (by kernel_rfl) ?_ ?_
          · exact lands_load (by rfl) _ _ rfl _ rfl (avs v) _ (fun w h => ⟨_, h.2.2.1⟩) Tryd.underlying51 rfl (load_size v HVL.out)
          simp only [Act.put, List.setIfInBounds_toArray, List.set_cons_zero, List.set_cons_succ]
          refine inAny_take (i := 1) (v := .bool true) (by simp only [List.getElem?_toArray, List.getElem?_cons_succ, List.getElem?_cons_zero]; rfl) (by kernel_rfl) (by kernel_rfl) (by kernel_rfl) ?_ ?_
          · exact lands_call (by rfl) (f := 39) (args := #[.agg (avs v)]) (fun w => by go_simp) (fours_call h4v)
          simp only [Act.put, List.setIfInBounds_toArray, List.set_cons_zero, List.set_cons_succ]
          refine inAny_take (i := 2) (v := .bool true) (by simp only [List.getElem?_toArray, List.getElem?_cons_succ, List.getElem?_cons_zero]; rfl) (by kernel_rfl) (by kernel_rfl) (by kernel_rfl) ?_ ?_
          · exact lands_run (by rfl) (fun w _ => by go_simp)
          simp only [Act.put, List.setIfInBounds_toArray, List.set_cons_zero, List.set_cons_succ]
          refine inAny_take (i := 3) (v := .pointer (some ⟨g5, 12, none⟩)) (by simp only [List.getElem?_toArray, List.getElem?_cons_succ, List.getElem?_cons_zero]; rfl) (by kernel_rfl) (by kernel_rfl) (by kernel_rfl) ?_ ?_
          · exact lands_run (by rfl) (fun w _ => by go_simp)
          simp only [Act.put, List.setIfInBounds_toArray, List.set_cons_zero, List.set_cons_succ]
          refine inAny_take (i := 4) (v := .int .u8 (b0.toNat : Int)) (by simp only [List.getElem?_toArray, List.getElem?_cons_succ, List.getElem?_cons_zero]; rfl) (by kernel_rfl) (by kernel_rfl) (by kernel_rfl) ?_ ?_
          · exact lands_run (by rfl) (fun w hS => by have c := HK12.out w hS; go_simp)
          simp only [Act.put, List.setIfInBounds_toArray, List.set_cons_zero, List.set_cons_succ]
          refine inAny_take (i := 5) (v := .pointer (some ⟨w.heap.size, 0, none⟩)) (by simp only [List.getElem?_toArray, List.getElem?_cons_succ, List.getElem?_cons_zero]; rfl) (by kernel_rfl) (by kernel_rfl) (by kernel_rfl) ?_ ?_
          · exact lands_run (by rfl) (fun w _ => by go_simp)
          simp only [Act.put, List.setIfInBounds_toArray, List.set_cons_zero, List.set_cons_succ]
          refine inAny_take (i := 6) (v := .int .u8 (b0.toNat : Int)) (by simp only [List.getElem?_toArray, List.getElem?_cons_succ, List.getElem?_cons_zero]; rfl) (by kernel_rfl) (by kernel_rfl) (by kernel_rfl) ?_ ?_
          · exact lands_run (by rfl) (fun w hS => by have c := HKB0.out w hS; go_simp)
          simp only [Act.put, List.setIfInBounds_toArray, List.set_cons_zero, List.set_cons_succ]
          refine inAny_take (i := 7) (v := .bool true) (by simp only [List.getElem?_toArray, List.getElem?_cons_succ, List.getElem?_cons_zero]; rfl) (by kernel_rfl) (by kernel_rfl) (by kernel_rfl) ?_ ?_
          · exact lands_run (by rfl) (fun w _ => by go_simp)
          simp only [Act.put, List.setIfInBounds_toArray, List.set_cons_zero, List.set_cons_succ]
          refine inAny_take (i := 8) (v := .bool true) (by simp only [List.getElem?_toArray, List.getElem?_cons_succ, List.getElem?_cons_zero]; rfl) (by kernel_rfl) (by kernel_rfl) (by kernel_rfl) ?_ ?_
          · exact lands_run (by rfl) (fun w _ => by go_simp)
          simp only [Act.put, List.setIfInBounds_toArray, List.set_cons_zero, List.set_cons_succ]
          refine inAny_take (i := 9) (v := .bool true) (by simp only [List.getElem?_toArray, List.getElem?_cons_succ, List.getElem?_cons_zero]; rfl) (by kernel_rfl) (by kernel_rfl) (by kernel_rfl) ?_ ?_
          · exact lands_run (by rfl) (fun w _ => by go_simp)
          simp only [Act.put, List.setIfInBounds_toArray, List.set_cons_zero, List.set_cons_succ]
          refine inAny_take (i := 10) (v := .pointer (some ⟨g5, 15, none⟩)) (by simp only [List.getElem?_toArray, List.getElem?_cons_succ, List.getElem?_cons_zero]; rfl) (by kernel_rfl) (by kernel_rfl) (by kernel_rfl) ?_ ?_
          · exact lands_run (by rfl) (fun w _ => by go_simp)
          simp only [Act.put, List.setIfInBounds_toArray, List.set_cons_zero, List.set_cons_succ]
          refine inAny_take (i := 11) (v := .int .u8 (b3.toNat : Int)) (by simp only [List.getElem?_toArray, List.getElem?_cons_succ, List.getElem?_cons_zero]; rfl) (by kernel_rfl) (by kernel_rfl) (by kernel_rfl) ?_ ?_
          · exact lands_run (by rfl) (fun w hS => by have c := HK15.out w hS; go_simp)
          simp only [Act.put, List.setIfInBounds_toArray, List.set_cons_zero, List.set_cons_succ]
          refine inAny_take (i := 12) (v := .pointer (some ⟨w.heap.size, 3, none⟩)) (by simp only [List.getElem?_toArray, List.getElem?_cons_succ, List.getElem?_cons_zero]; rfl) (by kernel_rfl) (by kernel_rfl) (by kernel_rfl) ?_ ?_
          · exact lands_run (by rfl) (fun w _ => by go_simp)
          simp only [Act.put, List.setIfInBounds_toArray, List.set_cons_zero, List.set_cons_succ]
          refine inAny_take (i := 13) (v := .int .u8 (b3.toNat : Int)) (by simp only [List.getElem?_toArray, List.getElem?_cons_succ, List.getElem?_cons_zero]; rfl) (by kernel_rfl) (by kernel_rfl) (by kernel_rfl) ?_ ?_
          · exact lands_run (by rfl) (fun w hS => by have c := HKB3.out w hS; go_simp)
          simp only [Act.put, List.setIfInBounds_toArray, List.set_cons_zero, List.set_cons_succ]
          refine inAny_take (i := 14) (v := .bool true) (by simp only [List.getElem?_toArray, List.getElem?_cons_succ, List.getElem?_cons_zero]; rfl) (by kernel_rfl) (by kernel_rfl) (by kernel_rfl) ?_ ?_
          · exact lands_run (by rfl) (fun w _ => by go_simp)
          simp only [Act.put, List.setIfInBounds_toArray, List.set_cons_zero, List.set_cons_succ]
          refine inAny_take (i := 15) (v := .bool true) (by simp only [List.getElem?_toArray, List.getElem?_cons_succ, List.getElem?_cons_zero]; rfl) (by kernel_rfl) (by kernel_rfl) (by kernel_rfl) ?_ ?_
          · exact lands_run (by rfl) (fun w _ => by go_simp)
          simp only [Act.put, List.setIfInBounds_toArray, List.set_cons_zero, List.set_cons_succ]
          refine inAny_take (i := 16) (v := .bool true) (by simp only [List.getElem?_toArray, List.getElem?_cons_succ, List.getElem?_cons_zero]; rfl) (by kernel_rfl) (by kernel_rfl) (by kernel_rfl) ?_ ?_
          · exact lands_run (by rfl) (fun w _ => by go_simp)
          simp only [Act.put, List.setIfInBounds_toArray, List.set_cons_zero, List.set_cons_succ]
          refine inAny_take (i := 17) (v := .agg (avs a)) (by simp only [List.getElem?_toArray, List.getElem?_cons_succ, List.getElem?_cons_zero]; rfl) (by kernel_rfl) (by kernel_rfl) (by kernel_rfl) ?_ ?_
          · exact lands_load (by rfl) _ _ rfl _ rfl (avs a) _ (fun w h => ⟨_, h.2.1⟩) Tryd.underlying51 rfl (load_size a ha)
          simp only [Act.put, List.setIfInBounds_toArray, List.set_cons_zero, List.set_cons_succ]
          refine inAny_take (i := 18) (v := .bool false) (by simp only [List.getElem?_toArray, List.getElem?_cons_succ, List.getElem?_cons_zero]; rfl) (by kernel_rfl) (by kernel_rfl) (by kernel_rfl) ?_ ?_
          · exact lands_call (by rfl) (f := 39) (args := #[.agg (avs a)]) (fun w => by go_simp) (fours_call h4a)
          simp only [Act.put, List.setIfInBounds_toArray, List.set_cons_zero, List.set_cons_succ]
          refine inAny_take (i := 19) (v := .bool false) (by simp only [List.getElem?_toArray, List.getElem?_cons_succ, List.getElem?_cons_zero]; rfl) (by kernel_rfl) (by kernel_rfl) (by kernel_rfl) ?_ ?_
          · exact lands_run (by rfl) (fun w _ => by go_simp)
          simp only [Act.put, List.setIfInBounds_toArray, List.set_cons_zero, List.set_cons_succ]
          refine inAny_take (i := 20) (v := .bool true) (by simp only [List.getElem?_toArray, List.getElem?_cons_succ, List.getElem?_cons_zero]; rfl) (by kernel_rfl) (by kernel_rfl) (by kernel_rfl) ?_ ?_
          · exact lands_run (by rfl) (fun w _ => by go_simp)
          simp only [Act.put, List.setIfInBounds_toArray, List.set_cons_zero, List.set_cons_succ]
          refine inAny_take (i := 21) (v := .bool true) (by simp only [List.getElem?_toArray, List.getElem?_cons_succ, List.getElem?_cons_zero]; rfl) (by kernel_rfl) (by kernel_rfl) (by kernel_rfl) ?_ ?_
          · exact lands_run (by rfl) (fun w _ => by go_simp)
          simp only [Act.put, List.setIfInBounds_toArray, List.set_cons_zero, List.set_cons_succ]
          refine inAny_take (i := 22) (v := .bool true) (by simp only [List.getElem?_toArray, List.getElem?_cons_succ, List.getElem?_cons_zero]; rfl) (by kernel_rfl) (by kernel_rfl) (by kernel_rfl) ?_ ?_
          · exact lands_run (by rfl) (fun w _ => by go_simp)
          simp only [Act.put, List.setIfInBounds_toArray, List.set_cons_zero, List.set_cons_succ]
          refine inAny_take (i := 23) (v := .int .i64 0) (by simp only [List.getElem?_toArray, List.getElem?_cons_succ, List.getElem?_cons_zero]; rfl) (by kernel_rfl) (by kernel_rfl) (by kernel_rfl) ?_ ?_
          · exact lands_run (by rfl) (fun w _ => by go_simp)
          simp only [Act.put, List.setIfInBounds_toArray, List.set_cons_zero, List.set_cons_succ]
          refine inAny_take (i := 24) (v := .bool true) (by simp only [List.getElem?_toArray, List.getElem?_cons_succ, List.getElem?_cons_zero]; rfl) (by kernel_rfl) (by kernel_rfl) (by kernel_rfl) ?_ ?_
          · exact lands_run (by rfl) (fun w _ => by go_simp)
          simp only [Act.put, List.setIfInBounds_toArray, List.set_cons_zero, List.set_cons_succ]
          refine inAny_take (i := 25) (v := .bool true) (by simp only [List.getElem?_toArray, List.getElem?_cons_succ, List.getElem?_cons_zero]; rfl) (by kernel_rfl) (by kernel_rfl) (by kernel_rfl) ?_ ?_
          · exact lands_run (by rfl) (fun w _ => by go_simp)
          simp only [Act.put, List.setIfInBounds_toArray, List.set_cons_zero, List.set_cons_succ]
          refine inAny_take (i := 26) (v := .bool true) (by simp only [List.getElem?_toArray, List.getElem?_cons_succ, List.getElem?_cons_zero]; rfl) (by kernel_rfl) (by kernel_rfl) (by kernel_rfl) ?_ ?_
          · exact lands_run (by rfl) (fun w _ => by go_simp)
          simp only [Act.put, List.setIfInBounds_toArray, List.set_cons_zero, List.set_cons_succ]
          refine inAny_take (i := 27) (v := .agg (avs v)) (by simp only [List.getElem?_toArray, List.getElem?_cons_succ, List.getElem?_cons_zero]; rfl) (by kernel_rfl) (by kernel_rfl) (by kernel_rfl) ?_ ?_
          · exact lands_load (by rfl) _ _ rfl _ rfl (avs v) _ (fun w h => ⟨_, h.2.2.2.1⟩) Tryd.underlying51 rfl (load_size v HVL.out)
          simp only [Act.put, List.setIfInBounds_toArray, List.set_cons_zero, List.set_cons_succ]
          refine inAny_take (i := 28) (v := .agg (avs v)) (by simp only [List.getElem?_toArray, List.getElem?_cons_succ, List.getElem?_cons_zero]; rfl) (by kernel_rfl) (by kernel_rfl) (by kernel_rfl) ?_ ?_
          · exact lands_load (by rfl) _ _ rfl _ rfl (avs v) _ (fun w h => ⟨_, h.2.2.1⟩) Tryd.underlying51 rfl (load_size v HVL.out)
          simp only [Act.put, List.setIfInBounds_toArray, List.set_cons_zero, List.set_cons_succ]
          refine inAny_take (i := 29) (v := .bool true) (by simp only [List.getElem?_toArray, List.getElem?_cons_succ, List.getElem?_cons_zero]; rfl) (by kernel_rfl) (by kernel_rfl) (by kernel_rfl) ?_ ?_
          · exact lands_run (by rfl) (fun w _ => by go_simp)
          simp only [Act.put, List.setIfInBounds_toArray, List.set_cons_zero, List.set_cons_succ]
          refine inAny_take (i := 30) (v := .bool true) (by simp only [List.getElem?_toArray, List.getElem?_cons_succ, List.getElem?_cons_zero]; rfl) (by kernel_rfl) (by kernel_rfl) (by kernel_rfl) ?_ ?_
          · exact lands_run (by rfl) (fun w _ => by go_simp)
          simp only [Act.put, List.setIfInBounds_toArray, List.set_cons_zero, List.set_cons_succ]
          refine inAny_take (i := 31) (v := .bool true) (by simp only [List.getElem?_toArray, List.getElem?_cons_succ, List.getElem?_cons_zero]; rfl) (by kernel_rfl) (by kernel_rfl) (by kernel_rfl) ?_ ?_
          · exact lands_run (by rfl) (fun w _ => by go_simp)
          simp only [Act.put, List.setIfInBounds_toArray, List.set_cons_zero, List.set_cons_succ]
          refine inAny_take (i := 32) (v := .bool false) (by simp only [List.getElem?_toArray, List.getElem?_cons_succ, List.getElem?_cons_zero]; rfl) (by kernel_rfl) (by kernel_rfl) (by kernel_rfl) ?_ ?_
          · exact lands_run (by rfl) (fun w _ => by go_simp)
          simp only [Act.put, List.setIfInBounds_toArray, List.set_cons_zero, List.set_cons_succ]
          refine inAny_take (i := 33) (v := .bool true) (by simp only [List.getElem?_toArray, List.getElem?_cons_succ, List.getElem?_cons_zero]; rfl) (by kernel_rfl) (by kernel_rfl) (by kernel_rfl) ?_ ?_
          · exact lands_run (by rfl) (fun w _ => by go_simp)
          simp only [Act.put, List.setIfInBounds_toArray, List.set_cons_zero, List.set_cons_succ]
          refine inAny_take (i := 34) (v := .bool true) (by simp only [List.getElem?_toArray, List.getElem?_cons_succ, List.getElem?_cons_zero]; rfl) (by kernel_rfl) (by kernel_rfl) (by kernel_rfl) ?_ ?_
          · exact lands_run (by rfl) (fun w _ => by go_simp)
          simp only [Act.put, List.setIfInBounds_toArray, List.set_cons_zero, List.set_cons_succ]
          refine inAny_take (i := 35) (v := undef) (by simp only [List.getElem?_toArray, List.getElem?_cons_succ, List.getElem?_cons_zero]; rfl) (by kernel_rfl) (by kernel_rfl) (by kernel_rfl) ?_ ?_
          · exact lands_off (by rfl)
          simp only [Act.put, List.setIfInBounds_toArray, List.set_cons_zero, List.set_cons_succ]
          refine inAny_take (i := 36) (v := undef) (by simp only [List.getElem?_toArray, List.getElem?_cons_succ, List.getElem?_cons_zero]; rfl) (by kernel_rfl) (by kernel_rfl) (by kernel_rfl) ?_ ?_
          · exact lands_off (by rfl)
          simp only [Act.put, List.setIfInBounds_toArray, List.set_cons_zero, List.set_cons_succ]
          refine inAny_take (i := 37) (v := undef) (by simp only [List.getElem?_toArray, List.getElem?_cons_succ, List.getElem?_cons_zero]; rfl) (by kernel_rfl) (by kernel_rfl) (by kernel_rfl) ?_ ?_
          · exact lands_off (by rfl)
          simp only [Act.put, List.setIfInBounds_toArray, List.set_cons_zero, List.set_cons_succ]
          refine inAny_take (i := 38) (v := undef) (by simp only [List.getElem?_toArray, List.getElem?_cons_succ, List.getElem?_cons_zero]; rfl) (by kernel_rfl) (by kernel_rfl) (by kernel_rfl) ?_ ?_
          · exact lands_off (by rfl)
          simp only [Act.put, List.setIfInBounds_toArray, List.set_cons_zero, List.set_cons_succ]
          refine inAny_take (i := 39) (v := undef) (by simp only [List.getElem?_toArray, List.getElem?_cons_succ, List.getElem?_cons_zero]; rfl) (by kernel_rfl) (by kernel_rfl) (by kernel_rfl) ?_ ?_
          · exact lands_off (by rfl)
          simp only [Act.put, List.setIfInBounds_toArray, List.set_cons_zero, List.set_cons_succ]
          refine inAny_take (i := 40) (v := undef) (by simp only [List.getElem?_toArray, List.getElem?_cons_succ, List.getElem?_cons_zero]; rfl) (by kernel_rfl) (by kernel_rfl) (by kernel_rfl) ?_ ?_
          · exact lands_off (by rfl)
          simp only [Act.put, List.setIfInBounds_toArray, List.set_cons_zero, List.set_cons_succ]
          refine inAny_take (i := 41) (v := undef) (by simp only [List.getElem?_toArray, List.getElem?_cons_succ, List.getElem?_cons_zero]; rfl) (by kernel_rfl) (by kernel_rfl) (by kernel_rfl) ?_ ?_
          · exact lands_off (by rfl)
          simp only [Act.put, List.setIfInBounds_toArray, List.set_cons_zero, List.set_cons_succ]
          refine inAny_take (i := 42) (v := undef) (by simp only [List.getElem?_toArray, List.getElem?_cons_succ, List.getElem?_cons_zero]; rfl) (by kernel_rfl) (by kernel_rfl) (by kernel_rfl) ?_ ?_
          · exact lands_off (by rfl)
          simp only [Act.put, List.setIfInBounds_toArray, List.set_cons_zero, List.set_cons_succ]
          refine inAny_take (i := 43) (v := undef) (by simp only [List.getElem?_toArray, List.getElem?_cons_succ, List.getElem?_cons_zero]; rfl) (by kernel_rfl) (by kernel_rfl) (by kernel_rfl) ?_ ?_
          · exact lands_off (by rfl)
          simp only [Act.put, List.setIfInBounds_toArray, List.set_cons_zero, List.set_cons_succ]
          refine inAny_take (i := 44) (v := undef) (by simp only [List.getElem?_toArray, List.getElem?_cons_succ, List.getElem?_cons_zero]; rfl) (by kernel_rfl) (by kernel_rfl) (by kernel_rfl) ?_ ?_
          · exact lands_off (by rfl)
          simp only [Act.put, List.setIfInBounds_toArray, List.set_cons_zero, List.set_cons_succ]
          refine inAny_take (i := 45) (v := undef) (by simp only [List.getElem?_toArray, List.getElem?_cons_succ, List.getElem?_cons_zero]; rfl) (by kernel_rfl) (by kernel_rfl) (by kernel_rfl) ?_ ?_
          · exact lands_off (by rfl)
          simp only [Act.put, List.setIfInBounds_toArray, List.set_cons_zero, List.set_cons_succ]
          refine inAny_take (i := 46) (v := .bool true) (by simp only [List.getElem?_toArray, List.getElem?_cons_succ, List.getElem?_cons_zero]; rfl) (by kernel_rfl) (by kernel_rfl) (by kernel_rfl) ?_ ?_
          · exact lands_run (by rfl) (fun w _ => by go_simp)
          simp only [Act.put, List.setIfInBounds_toArray, List.set_cons_zero, List.set_cons_succ]
          refine inAny_take (i := 47) (v := .bool true) (by simp only [List.getElem?_toArray, List.getElem?_cons_succ, List.getElem?_cons_zero]; rfl) (by kernel_rfl) (by kernel_rfl) (by kernel_rfl) ?_ ?_
          · exact lands_run (by rfl) (fun w _ => by go_simp)
          simp only [Act.put, List.setIfInBounds_toArray, List.set_cons_zero, List.set_cons_succ]
          refine inAny_take (i := 48) (v := .bool true) (by simp only [List.getElem?_toArray, List.getElem?_cons_succ, List.getElem?_cons_zero]; rfl) (by kernel_rfl) (by kernel_rfl) (by kernel_rfl) ?_ ?_
          · exact lands_run (by rfl) (fun w _ => by go_simp)
          simp only [Act.put, List.setIfInBounds_toArray, List.set_cons_zero, List.set_cons_succ]
          refine inAny_done (by kernel_rfl) (fun w2 hS2 => ?_) _
          have HB2 := Lib.hid hS2.2.2.2.2.1
          clear hS2
          go_wp2
          go_ret
          exact ⟨rfl, HB2.out⟩
end Go.Proofs.YtgdfmhdgmjogiaaDoor
