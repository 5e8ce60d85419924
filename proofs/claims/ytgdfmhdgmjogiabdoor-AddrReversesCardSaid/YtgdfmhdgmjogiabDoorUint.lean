/- strconv.ParseUint at base 16, size 16, and at base 10, size 8: what they answer, for every text. -/
import Derived.Test.YtgdfmhdgmjogiabDoorWd
import Derived.Test.YtgdfmhdgmjogiabDoorAdr2
import Derived.Lib.AtoiAllMem
import Derived.Shelf.Pu.ToError
import Derived.Shelf.Pu.ToErrorRange
import Derived.Shelf.Pu.Lower
import Derived.Shelf.Pu.ParseUintEmpty
import Derived.BigCall
import Derived.BigGuard
import Derived.Outline
namespace Go.Proofs.YtgdfmhdgmjogiabDoor
open Go.RowKit

theorem lower_at (c : Int) (w : World) : Calls Tryd.prog 89 #[.int .u8 c] w fun e w' => e = .returned (.int .u8 (bits .or .u8 c 32)) ∧ w' = w := AnyPu.internal_strconv_lower { Tryd.laysPu14 with } c w
theorem toErr_syn (fn s : ByteArray) (base bits : Int) (ev : Value) (w : World) (hlim : s.size ≤ 281474976710656) (hv : w.cell? ⟨4, 0, none⟩ = some ev) (hev : ev = .nilIface ∨ ∃ te pe, ev = .iface te pe) :
    Calls Tryd.prog 71 #[.string fn, .string s, .int .i64 base, .int .i64 bits, .iface 135 (.int .i64 2)] w fun e w' => ∃ N, e = .returned (.iface 137 (.pointer (some ⟨N, 0, none⟩))) ∧ Below w.heap.size w w' :=
  (AnyPu.strconv_toError_syntax { Tryd.laysPu14 with } fn s base bits ev w hlim hv hev).mono fun _ _ ⟨N, h1, _, _, h4⟩ => ⟨N, h1, h4⟩
theorem toErr_ran (fn s : ByteArray) (base bits : Int) (ev : Value) (w : World) (hlim : s.size ≤ 281474976710656) (hv : w.cell? ⟨5, 0, none⟩ = some ev) (hev : ev = .nilIface ∨ ∃ te pe, ev = .iface te pe) :
    Calls Tryd.prog 71 #[.string fn, .string s, .int .i64 base, .int .i64 bits, .iface 135 (.int .i64 1)] w fun e w' => ∃ N, e = .returned (.iface 137 (.pointer (some ⟨N, 0, none⟩))) ∧ Below w.heap.size w w' :=
  (AnyPu.strconv_toError_range { Tryd.laysPu14 with } fn s base bits ev w hlim hv hev).mono fun _ _ ⟨N, h1, _, _, h4⟩ => ⟨N, h1, h4⟩

def low (c : UInt8) : Int := bits .or .u8 (c.toNat : Int) 32
theorem low_some_fin : ∀ c : Fin 256, ∀ d : Fin 16, Pl.hexVal (UInt8.ofNat c.val) = some d.val → (48 ≤ c.val ∧ c.val ≤ 57 ∧ d.val + 48 = c.val) ∨ (¬ (48 ≤ c.val ∧ c.val ≤ 57) ∧ 10 ≤ d.val ∧ low (UInt8.ofNat c.val) = 87 + (d.val : Int)) := by decide +kernel
theorem low_none_fin : ∀ c : Fin 256, Pl.hexVal (UInt8.ofNat c.val) = none → ¬ (48 ≤ c.val ∧ c.val ≤ 57) ∧ (low (UInt8.ofNat c.val) < 97 ∨ 103 ≤ low (UInt8.ofNat c.val)) := by decide +kernel
theorem low_bd_fin : ∀ c : Fin 256, 0 ≤ low (UInt8.ofNat c.val) ∧ low (UInt8.ofNat c.val) ≤ 255 := by decide +kernel
theorem hexVal_lt {c : UInt8} {d : Nat} (h : Pl.hexVal c = some d) : d < 16 := by
  unfold Pl.hexVal at h
  split at h
  · simp at h; omega
  · split at h
    · simp at h; omega
    · split at h
      · simp at h; omega
      · cases h
theorem low_some {c : UInt8} {d : Nat} (h : Pl.hexVal c = some d) : (48 ≤ c.toNat ∧ c.toNat ≤ 57 ∧ d + 48 = c.toNat) ∨ (¬ (48 ≤ c.toNat ∧ c.toNat ≤ 57) ∧ 10 ≤ d ∧ low c = 87 + (d : Int)) := by
  have := low_some_fin ⟨c.toNat, c.toNat_lt⟩ ⟨d, hexVal_lt h⟩
  simp only [UInt8.ofNat_toNat] at this
  exact this h
theorem low_none {c : UInt8} (h : Pl.hexVal c = none) : ¬ (48 ≤ c.toNat ∧ c.toNat ≤ 57) ∧ (low c < 97 ∨ 103 ≤ low c) := by
  have := low_none_fin ⟨c.toNat, c.toNat_lt⟩
  simp only [UInt8.ofNat_toNat] at this
  exact this h
theorem low_bd (c : UInt8) : 0 ≤ low c ∧ low c ≤ 255 := by
  have := low_bd_fin ⟨c.toNat, c.toNat_lt⟩
  simpa using this

def In16 (l : List UInt8) (w : World) (e : Ending) (w' : World) : Prop :=
  Below w.heap.size w w' ∧ ((∃ u, Pl.parse16 l = some u ∧ e = .returned (.tuple #[.int .u64 (u : Nat), .nilIface])) ∨
    (Pl.parse16 l = none ∧ (∃ x, e = .returned (.tuple #[.int .u64 x, .iface 135 (.int .i64 2)]))) ∨
    (Pl.parse16 l = none ∧ (∃ x, e = .returned (.tuple #[.int .u64 x, .iface 135 (.int .i64 1)]))))

set_option maxHeartbeats 32000000 in
set_option maxRecDepth 100000 in
theorem parseUint16i (t : ByteArray) (hmax : t.size ≤ 281474976710656) (w : World) : Calls Tryd.prog 70 #[.string t, .int .i64 16, .int .i64 16] w (In16 t.data.toList w) := by
  by_cases hne : t.size = 0
  · have ht : t = ⟨#[]⟩ := by
      apply ByteArray.ext
      apply Array.eq_empty_of_size_eq_zero
      exact hne
    subst ht
    have he := AnyPu.internal_strconv_ParseUint_empty (P := Tryd.prog) (ρ := Tryd.laysPu14_ren) { Tryd.laysPu14 with } 16 16 w
    refine Calls.mono (R := _) he ?_
    rintro e w' ⟨rfl, rfl⟩
    exact ⟨Below.refl _ _, Or.inr (Or.inl ⟨rfl, 0, rfl⟩)⟩
  have hemp : t.toList.isEmpty = false := by
    rw [← decide_eq_emptyBytes]
    exact decide_eq_false (fun h => hne (by rw [h]; rfl))
  have hcv := Lib.run_convert_string_bytes (P := Tryd.prog) w 9 52 5 t (u := .string) Tryd.underlying9 Tryd.underlying52 Tryd.underlying5
  have hB : ∀ j, j < t.size → (Lib.bytesWorld w 5 t).cell? ⟨w.heap.size, j, none⟩ = some (.int .u8 (t.data.toList.getD j 0).toNat) := fun j hj => Lib.bytesWorld_cell w 5 t j hj
  have HBel := Lib.hid (Lib.bytesWorld_below w 5 t)
  obtain ⟨W1, hW1⟩ : ∃ W1, W1 = Lib.bytesWorld w 5 t := ⟨_, rfl⟩
  rw [← hW1] at hcv hB HBel
  clear hW1
  obtain ⟨bs, hL⟩ : ∃ bs, bs = t.data.toList := ⟨_, rfl⟩
  have hLn : bs.length = t.size := by rw [hL, Lib.size_eq]
  rw [← hL] at hB ⊢
  have HNE : Hid (Pl.parse16 bs = Pl.p16 0 bs) := by
    show _ = _
    unfold Pl.parse16
    rw [if_neg]
    intro h
    rw [h] at hLn; simp at hLn; omega
  clear hL
  have hmv : IntKind.u64.wrap (IntKind.u64.wrap 65536 - 1) = 65535 := by
    rw [IntKind.wrap_u64, IntKind.wrap_u64]
    decide
  have HB := Lib.hid hB
  have HLn := Lib.hid hLn
  clear hB hLn
  go_enter Tryd.func70, Tryd.ntmps70
  go_wp2
  go_loop [12, 13, 101] (fun vu vn vi => ∃ (k acc : Nat) (a : Int), vu = .bool false ∧ vn = .int .u64 a ∧ vi = .int .i64 k ∧ k ≤ t.size ∧ Hid (a = (acc : Int) ∧ acc ≤ 65535 ∧ Pl.p16 0 bs = Pl.p16 acc (bs.drop k)))
    (fun _ _ vi => t.size - (intOf vi).toNat)
  case atStart => exact ⟨0, 0, 0, rfl, rfl, rfl, by omega, rfl, by omega, rfl⟩
  case round =>
    obtain ⟨k, acc, a, rfl, rfl, rfl, hk, hh⟩ := hrel
    obtain ⟨ha, hacc, hdec⟩ := hh.out
    clear hh
    have a0 : 0 ≤ a := by omega
    have a1 : a ≤ 65535 := by omega
    by_cases hkn : k < t.size
    · have hc := HB.out k hkn
      have hdrop : bs.drop k = bs[k]'(by have := HLn.out; omega) :: bs.drop (k + 1) := List.drop_eq_getElem_cons (by have := HLn.out; omega)
      have hget : bs.getD k 0 = bs[k]'(by have := HLn.out; omega) := by simp [List.getD, List.getElem?_eq_getElem (show k < bs.length by have := HLn.out; omega)]
      rw [hdrop] at hdec
      rw [hget] at hc
      generalize bs[k]'(by have := HLn.out; omega) = c at hc hdec
      have hc256 : c.toNat < 256 := c.toNat_lt
      clear hdrop hget
      have hlow : ∀ w, Calls Tryd.prog 89 #[.int .u8 (c.toNat : Int)] w fun e w' => e = .returned (.int .u8 (low c)) ∧ w' = w := fun w => lower_at _ w
      have hbd := low_bd c
      have HSO := fun d => @low_some c d
      have HNO := @low_none c
      obtain ⟨o, ho⟩ : ∃ o, o = low c := ⟨_, rfl⟩
      rw [← ho] at hbd HSO HNO
      simp only [← ho] at hlow
      have HLOW := Lib.hid hlow
      clear ho hlow
      obtain ⟨o0, o1⟩ := hbd
      have HDEC := Lib.hid hdec
      have HA := Lib.hid ha
      clear hdec ha
      cases hv : Pl.hexVal c with
      | none =>
        have hlo := HNO hv
        have HP : Hid (Pl.parse16 bs = none) := by
          show _ = _
          rw [HNE.out, HDEC.out, Pl.p16, hv]
        clear hv HDEC HSO HNO
        obtain ⟨hnd, hoo⟩ := hlo
        clear hacc
        by_cases h95 : c = 95
        · subst h95
          have HL95 : Hid (∀ w, Calls Tryd.prog 89 #[.int .u8 95] w fun e w' => e = .returned (.int .u8 127) ∧ w' = w) := fun w => lower_at 95 w
          have e95 : ((95 : UInt8).toNat : Int) = 95 := rfl
          rw [e95] at hc
          clear hoo HLOW hnd hc256
          go_wp2_with (go_at_call 89; refine (HL95.out _).mono ?_; rintro e w' ⟨rfl, rfl⟩)
          all_goals go_ret2
          all_goals exact ⟨HBel.out, Or.inr (Or.inl ⟨HP.out, _, rfl⟩)⟩
        have hb95 : ((c.toNat : Int) == 95) = false := by
          rw [beq_eq_false_iff_ne]; intro h; apply h95; apply UInt8.toNat_inj.1; show c.toNat = 95; omega
        by_cases h97 : o < 97
        · clear hoo
          go_wp2_with (go_at_call 89; refine (HLOW.out _).mono ?_; rintro e w' ⟨rfl, rfl⟩)
          all_goals go_ret2
          all_goals exact ⟨HBel.out, Or.inr (Or.inl ⟨HP.out, _, rfl⟩)⟩
        · have h103 : 103 ≤ o := by omega
          clear hoo
          go_wp2_with (go_at_call 89; refine (HLOW.out _).mono ?_; rintro e w' ⟨rfl, rfl⟩)
          all_goals go_ret2
          all_goals exact ⟨HBel.out, Or.inr (Or.inl ⟨HP.out, _, rfl⟩)⟩
      | some d =>
        have hlo := HSO d hv
        have hd16 := hexVal_lt hv
        have hb95 : ((c.toNat : Int) == 95) = false := by
          rw [beq_eq_false_iff_ne]; intro h
          have : c = 95 := by apply UInt8.toNat_inj.1; show c.toNat = 95; omega
          subst this
          have h0 : Pl.hexVal 95 = none := by decide
          rw [h0] at hv; cases hv
        by_cases hov : 65535 < acc * 16 + d
        · have HP : Hid (Pl.parse16 bs = none) := by
            show _ = _
            rw [HNE.out, HDEC.out, Pl.p16, hv]
            simp only
            rw [if_pos hov]
          clear hv HDEC HSO HNO
          rcases hlo with ⟨h1, h2, h3⟩ | ⟨h1, h2, h3⟩
          · have iov : 65535 < a * 16 + ((c.toNat : Int) - 48) := by have := HA.out; omega
            clear hov h3 hacc
            go_wp2_with (go_at_call 89; refine (HLOW.out _).mono ?_; rintro e w' ⟨rfl, rfl⟩)
            all_goals go_ret2
            all_goals exact ⟨HBel.out, Or.inr (Or.inr ⟨HP.out, _, rfl⟩)⟩
          · have iov : 65535 < a * 16 + (o - 97 + 10) := by have := HA.out; omega
            have h4 : 97 ≤ o := by omega
            have h5 : o ≤ 102 := by omega
            clear hov h3 hacc
            go_wp2_with (go_at_call 89; refine (HLOW.out _).mono ?_; rintro e w' ⟨rfl, rfl⟩)
            all_goals go_ret2
            all_goals exact ⟨HBel.out, Or.inr (Or.inr ⟨HP.out, _, rfl⟩)⟩
        · have HN : Hid (acc * 16 + d ≤ 65535 ∧ Pl.p16 0 bs = Pl.p16 (acc * 16 + d) (bs.drop (k + 1))) := by
            refine ⟨by omega, ?_⟩
            rw [HDEC.out, Pl.p16, hv]
            simp only
            rw [if_neg hov]
          clear hv HDEC HSO HNO
          rcases hlo with ⟨h1, h2, h3⟩ | ⟨h1, h2, h3⟩
          · have iov : a * 16 + ((c.toNat : Int) - 48) ≤ 65535 := by have := HA.out; omega
            have HE : Hid (a * 16 + ((c.toNat : Int) - 48) = ((acc * 16 + d : Nat) : Int)) := by show _ = _; have := HA.out; omega
            clear hov h3 hacc
            go_wp2_with (go_at_call 89; refine (HLOW.out _).mono ?_; rintro e w' ⟨rfl, rfl⟩)
            refine ⟨⟨k + 1, acc * 16 + d, a * 16 + ((c.toNat : Int) - 48), rfl, (by first | rfl | (congr 1; omega)), (by first | rfl | (congr 1; omega)), by omega, HE.out, HN.out.1, HN.out.2⟩, by simp [intOf]; omega⟩
          · have iov : a * 16 + (o - 97 + 10) ≤ 65535 := by have := HA.out; omega
            have HE : Hid (a * 16 + (o - 97 + 10) = ((acc * 16 + d : Nat) : Int)) := by show _ = _; have := HA.out; omega
            have h4 : 97 ≤ o := by omega
            have h5 : o ≤ 102 := by omega
            clear hov h3 hacc
            go_wp2_with (go_at_call 89; refine (HLOW.out _).mono ?_; rintro e w' ⟨rfl, rfl⟩)
            all_goals refine ⟨⟨k + 1, acc * 16 + d, a * 16 + (o - 97 + 10), rfl, (by first | rfl | (congr 1; omega)), (by first | rfl | (congr 1; omega)), by omega, HE.out, HN.out.1, HN.out.2⟩, by simp [intOf]; omega⟩
    · have hkk : k = t.size := by omega
      subst hkk
      have hF : Pl.p16 acc (bs.drop t.size) = some acc := by rw [List.drop_eq_nil_of_le (by have := HLn.out; omega)]; rfl
      have HP : Hid (Pl.parse16 bs = some acc) := by show _ = _; rw [HNE.out, hdec, hF]
      clear hF hdec
      subst ha
      clear hacc a0 a1
      go_wp2
      go_ret2
      exact ⟨HBel.out, Or.inl ⟨acc, HP.out, rfl⟩⟩

/-- What ParseUint answers: a number, or an error that is not nil. -/
def Parsed (r : Option Nat) (w : World) (e : Ending) (w' : World) : Prop :=
  Below w.heap.size w w' ∧ ((∃ u, r = some u ∧ e = .returned (.tuple #[.int .u64 (u : Nat), .nilIface])) ∨ (r = none ∧ ∃ x T p, e = .returned (.tuple #[.int .u64 x, .iface T p])))

set_option maxHeartbeats 4000000 in
set_option maxRecDepth 100000 in
theorem parseUint16 (s : ByteArray) (hlim : s.size ≤ 281474976710656) (w : World) (h : WdA w) : Calls Tryd.prog 48 #[.string s, .int .i64 16, .int .i64 16] w (Parsed (Pl.parse16 s.data.toList) w) := by
  have hI := Lib.hid (parseUint16i s hlim w)
  have HW := Lib.hid h
  clear h
  go_enter Tryd.func48, Tryd.ntmps48
  go_wp2_with fail
  refine hI.out.mono ?_
  rintro e w1 ⟨hb1, ⟨u, hu, rfl⟩ | ⟨hn, x, rfl⟩ | ⟨hn, x, rfl⟩⟩
  · have HB := Lib.hid hb1
    have HU := Lib.hid hu
    clear hb1 hu
    go_wp2
    go_ret2
    exact ⟨HB.out, Or.inl ⟨u, HU.out, rfl⟩⟩
  · have hv := (HW.out.on hb1).esyn
    obtain ⟨tp, p, hv⟩ := hv
    have HV := Lib.hid (World.var?_cell (show Tryd.prog.globalNamed "strconv.ErrSyntax" = some 4 by kernel_rfl) hv 0)
    have HB := Lib.hid hb1
    have HN := Lib.hid hn
    clear hb1 hn hv
    go_wp2_with (go_at_call 71; refine (toErr_syn ⟨#[80, 97, 114, 115, 101, 85, 105, 110, 116]⟩ s 16 16 (.iface tp p) _ hlim ?_ (Or.inr ⟨_, _, rfl⟩)).mono ?_)
    · simpa using HV.out
    rintro e w2 ⟨N, rfl, hb2⟩
    have HB2 := Lib.hid (HB.out.trans (hb2.mono HB.out.size))
    clear hb2
    go_wp2
    go_ret2
    exact ⟨HB2.out, Or.inr ⟨HN.out, _, _, _, rfl⟩⟩
  · have hv := (HW.out.on hb1).eran
    obtain ⟨tp, p, hv⟩ := hv
    have HV := Lib.hid (World.var?_cell (show Tryd.prog.globalNamed "strconv.ErrRange" = some 5 by kernel_rfl) hv 0)
    have HB := Lib.hid hb1
    have HN := Lib.hid hn
    clear hb1 hn hv
    go_wp2_with (go_at_call 71; refine (toErr_ran ⟨#[80, 97, 114, 115, 101, 85, 105, 110, 116]⟩ s 16 16 (.iface tp p) _ hlim ?_ (Or.inr ⟨_, _, rfl⟩)).mono ?_)
    · simpa using HV.out
    rintro e w2 ⟨N, rfl, hb2⟩
    have HB2 := Lib.hid (HB.out.trans (hb2.mono HB.out.size))
    clear hb2
    go_wp2
    go_ret2
    exact ⟨HB2.out, Or.inr ⟨HN.out, _, _, _, rfl⟩⟩

theorem parseUint8 (s : ByteArray) (hlim : s.size ≤ 281474976710656) (w : World) (h : WdA w) : Calls Tryd.prog 48 #[.string s, .int .i64 10, .int .i64 8] w (Parsed (Pl.parse8 s.data.toList) w) := by
  cases hp : Lib.parseUintB 8 s.data.toList
  · rename_i u
    refine (Tryd.strconv_ParseUint_10_at8_ok s (by omega) u hp w).mono ?_
    rintro e w' ⟨rfl, hw⟩
    refine ⟨?_, Or.inl ⟨u, by unfold Pl.parse8; rw [hp], rfl⟩⟩
    rcases hw with rfl | rfl
    · exact Below.refl _ _
    · exact Lib.bytesWorld_below _ _ _
  · obtain ⟨tp, p, hv⟩ := h.esyn
    refine (Any.strconv_ParseUint_10_at8_syntax_var Tryd.laysPu14 s hlim hp tp p w hv).mono ?_
    rintro e w' ⟨N, rfl, _, _, hb⟩
    exact ⟨hb, Or.inr ⟨by unfold Pl.parse8; rw [hp], _, _, _, rfl⟩⟩
  · obtain ⟨tp, p, hv⟩ := h.eran
    refine (Tryd.strconv_ParseUint_10_at8_range_var s hlim hp tp p w hv).mono ?_
    rintro e w' ⟨N, rfl, _, _, hb⟩
    exact ⟨hb, Or.inr ⟨by unfold Pl.parse8; rw [hp], _, _, _, rfl⟩⟩
end Go.Proofs.YtgdfmhdgmjogiabDoor
