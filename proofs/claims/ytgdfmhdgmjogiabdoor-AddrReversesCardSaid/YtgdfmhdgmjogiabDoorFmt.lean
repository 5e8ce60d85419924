/- strconv.FormatInt at base 16, for numbers below 65536. -/
import Derived.Test.YtgdfmhdgmjogiabDoorWd
import Derived.Test.YtgdfmhdgmjogiabDoorAdr2
import Derived.Outline
namespace Go.Proofs.YtgdfmhdgmjogiabDoor
open Go.RowKit
set_option linter.unusedVariables false

set_option maxRecDepth 100000 in
theorem ctz16 (w : World) (h : w.cell? ⟨7, 15, none⟩ = some (.int .u8 4)) : Calls Tryd.prog 85 #[.int .u64 16] w fun e w' => e = .returned (.int .i64 4) ∧ w = w' := by
  have hv : IntKind.u64.wrap (bits BinOp.and IntKind.u64 16 (IntKind.u64.wrap (-16)) * 285870213051353865) / 288230376151711744 = 15 := by decide +kernel
  go_enter Tryd.func85, Tryd.ntmps85
  go_wp2
  go_ret
  exact ⟨rfl, rfl⟩

/-- The buffer of 65 bytes, its last ones written. -/
def pad65 (l : List UInt8) : List UInt8 := List.replicate (65 - l.length) 0 ++ l
theorem pad65_length {l : List UInt8} (h : l.length ≤ 65) : (pad65 l).length = 65 := by simp [pad65]; omega
theorem pad65_set (l : List UInt8) (d : UInt8) (z : Int) (hz : z = (d.toNat : Int)) (h : l.length ≤ 64) : (avs (pad65 l)).setIfInBounds (65 - l.length - 1) (.int .u8 z) = avs (pad65 (d :: l)) := by
  subst hz
  rw [show 65 - l.length - 1 = 64 - l.length by omega]
  have e1 : pad65 l = List.replicate (64 - l.length) 0 ++ 0 :: l := by
    unfold pad65
    rw [show 65 - l.length = (64 - l.length) + 1 by omega, List.replicate_succ', List.append_assoc]; rfl
  have e2 : pad65 (d :: l) = List.replicate (64 - l.length) 0 ++ d :: l := by
    unfold pad65
    rw [List.length_cons, show 65 - (l.length + 1) = 64 - l.length by omega]
  rw [e1, e2]
  unfold avs
  simp

theorem pad65_at (l : List UInt8) (h : l.length ≤ 64) : (avs (pad65 l))[65 - l.length - 1]? = some (.int .u8 0) := by
  rw [avs_get _ _ (by rw [pad65_length (by omega)]; omega)]
  congr 3
  unfold pad65
  rw [List.getD, List.getElem?_append_left (by simp; omega), List.getElem?_replicate, if_pos (by omega)]
  rfl

def digs36 : ByteArray := ⟨#[48, 49, 50, 51, 52, 53, 54, 55, 56, 57, 97, 98, 99, 100, 101, 102, 103, 104, 105, 106, 107, 108, 109, 110, 111, 112, 113, 114, 115, 116, 117, 118, 119, 120, 121, 122]⟩
theorem digs_at (m : Nat) (h : m < 16) : ∀ w, (Instr.index 9 (.string ⟨#[48, 49, 50, 51, 52, 53, 54, 55, 56, 57, 97, 98, 99, 100, 101, 102, 103, 104, 105, 106, 107, 108, 109, 110, 111, 112, 113, 114, 115, 116, 117, 118, 119, 120, 121, 122]⟩) (.int .u64 m)).run Tryd.prog w = .ok (.int .u8 ((Pl.hexd m).toNat : Int)) w := by
  intro w
  rcases (show m = 0 ∨ m = 1 ∨ m = 2 ∨ m = 3 ∨ m = 4 ∨ m = 5 ∨ m = 6 ∨ m = 7 ∨ m = 8 ∨ m = 9 ∨ m = 10 ∨ m = 11 ∨ m = 12 ∨ m = 13 ∨ m = 14 ∨ m = 15 by omega) with rfl | rfl | rfl | rfl | rfl | rfl | rfl | rfl | rfl | rfl | rfl | rfl | rfl | rfl | rfl | rfl <;> kernel_rfl

theorem and15 (v m : Nat) (hv : v < 65536) (hm : m = v % 16) : bits .and .u64 (v : Int) 15 = (m : Int) := by
  have := bits_mask .u64 16 (by decide) (fun n h0 h1 => IntWalk.u64_in n ⟨h0, by omega⟩) 4 (by decide) (v : Int) (by omega) (by omega)
  simp at this
  rw [this]; omega

theorem pow2_16 (w : World) : Calls Tryd.prog 84 #[.int .i64 16] w fun e w' => e = .returned (.bool true) ∧ w = w' := by
  have hv : bits BinOp.and IntKind.i64 16 15 = 0 := by decide +kernel
  go_enter Tryd.func84, Tryd.ntmps84
  go_wp2
  go_ret
  exact ⟨rfl, rfl⟩

theorem zero65 : Tryd.zeroCells128 = avs (pad65 []) := by kernel_rfl

theorem slice65 (B k : Nat) (hk : k ≤ 64) (w : World) : (Instr.sliceAt 128 (.pointer (some ⟨B, 0, none⟩)) (some (.int .i64 (65 - (k : Int) - 1))) none none).run Tryd.prog w = .ok (.slice (some ⟨B, 64 - k, none⟩) (k + 1) (k + 1)) w := by
  have h0 : Tryd.prog.arrayLen 128 = 65 := by kernel_rfl
  have h1 : Tryd.prog.elem 128 = 5 := by kernel_rfl
  have hs : (sizeOf 5).run Tryd.prog w = .ok 1 w := Tryd.sizeOf5 w
  rw [run_sliceAt_array_l w 128 ⟨B, 0, none⟩ (by rw [h0, h1]; exact Tryd.underlying128) .i64 _ (by omega) (by rw [h0]; omega)]
  rw [h0, h1, hs]
  simp only [Result.andThen_ok, slicedAt]
  have e : (65 - (k : Int) - 1).toNat = 64 - k := by omega
  rw [e, if_neg (by omega), show 65 - (64 - k) = k + 1 by omega]
  simp [Addr.add]; omega

theorem conv65 (w : World) (l : List UInt8) (d : UInt8) (h : l.length ≤ 64) : (convert 52 9 (.slice (some ⟨w.heap.size, 64 - l.length, none⟩) (l.length + 1) (l.length + 1))).run Tryd.prog (w.alloc (.cells ((avs (pad65 l)).setIfInBounds (65 - l.length - 1) (.int .u8 (d.toNat : Int))) 128)) =
    .ok (.string ⟨(d :: l).toArray⟩) (w.alloc (.cells ((avs (pad65 l)).setIfInBounds (65 - l.length - 1) (.int .u8 (d.toNat : Int))) 128)) := by
  rw [pad65_set l d _ rfl h]
  refine run_convert_bytes_back _ _ _ 5 ⟨w.heap.size, 64 - l.length, none⟩ (l.length + 1) (d :: l) Tryd.underlying52 Tryd.underlying5 Tryd.underlying9 ?_
  intro j hj
  have hj' : j < l.length + 1 := by simpa using hj
  have ea : (⟨w.heap.size, 64 - l.length, none⟩ : Addr).add j = ⟨w.heap.size, 64 - l.length + j, none⟩ := by
    unfold Addr.add; split <;> simp_all
  rw [ea, World.cell?_alloc_new, avs_get _ _ (by rw [pad65_length (by simp; omega)]; omega)]
  congr 3
  unfold pad65
  rw [List.length_cons, List.getD, List.getElem?_append_right (by simp)]
  rw [List.length_replicate, show 64 - l.length + j - (65 - (l.length + 1)) = j by omega, List.getElem?_eq_getElem hj]
  rfl

set_option maxRecDepth 100000 in
theorem formatBits16 (u : Nat) (hu : u < 65536) (w : World) (h : WdA w) : Calls Tryd.prog 66 #[.slice none 0 0, .int .u64 u, .int .i64 16, .bool false, .bool false] w fun e w' => e = .returned (.tuple #[.slice none 0 0, .string ⟨(Pl.hexDig u).toArray⟩]) ∧ Below w.heap.size w w' := by
  have hdb : ∀ o, (w.alloc o).cell? ⟨7, 15, none⟩ = some (.int .u8 4) := fun o => by
    rw [World.cell?_alloc_lt _ _ _ (show 7 < w.heap.size by have := h.size; omega)]; exact h.db
  have HDB := Lib.hid hdb
  clear h hdb
  go_enter Tryd.func66, Tryd.ntmps66
  go_wp2_with (go_at_call 84; refine (pow2_16 _).mono ?_; rintro e w' ⟨rfl, rfl⟩)
  go_wp2_with (go_at_call 85; refine (ctz16 _ (HDB.out _)).mono ?_; rintro e w' ⟨rfl, rfl⟩)
  rw [zero65]
  go_loopw [1, 13] (fun s1 s13 wr => ∃ (v : Nat) (l : List UInt8), s1 = .int .u64 v ∧ s13 = .int .i64 (65 - l.length) ∧ l.length ≤ 3 ∧ wr = w.alloc (.cells (avs (pad65 l)) 128) ∧ Hid (Pl.hexDig u = Pl.hexDig v ++ l ∧ v < 16 ^ (4 - l.length))) (fun s1 _ _ => (intOf s1).toNat)
  case atStart => exact ⟨u, [], rfl, rfl, by simp, rfl, by simp, hu⟩
  case round =>
    obtain ⟨v, l, rfl, rfl, hl, rfl, HD⟩ := hrel
    have hlt : v < 65536 := by
      have h1 := HD.out.2
      have h2 : 16 ^ (4 - l.length) ≤ 16 ^ 4 := Nat.pow_le_pow_right (by decide) (by omega)
      omega
    have hpos : 16 ≤ v → l.length ≤ 2 := fun h => by
      have h1 := HD.out.2
      rcases Nat.lt_or_ge 2 l.length with h3 | h3
      · have h4 : l.length = 3 := by omega
        rw [h4] at h1
        omega
      · exact h3
    have hc := pad65_at l (by omega)
    by_cases hv : 16 ≤ v
    · obtain ⟨m, hm⟩ : ∃ m, m = v % 16 := ⟨_, rfl⟩
      have hb := and15 v m hlt hm
      have hm16 : m < 16 := by omega
      have hix := digs_at m hm16
      have Hset := Lib.hid (pad65_set l (Pl.hexd m) _ rfl (by omega))
      have Hm := Lib.hid hm
      have hl2 := hpos hv
      clear hm hpos
      go_wp2
      rw [Hset.out]
      go_roundw
      case rel =>
        refine ⟨v / 16, Pl.hexd m :: l, by go_num, by simp; omega, by simp; omega, rfl, ?_, ?_⟩
        · rw [HD.out.1]
          conv => lhs; rw [Pl.hexDig]
          rw [dif_neg (by omega), Hm.out]; simp
        · have h1 := HD.out.2
          rw [List.length_cons]
          obtain ⟨q, hq⟩ : ∃ q, 4 - l.length = q + 1 := ⟨3 - l.length, by omega⟩
          rw [hq, Nat.pow_succ] at h1
          rw [show 4 - (l.length + 1) = q by omega]
          omega
      case measure => simp [intOf]; omega
    · clear hpos
      have hix := digs_at v (by omega)
      have hsl := fun w' => slice65 w.heap.size l.length (by omega) w'
      have hcv := conv65 w l (Pl.hexd v) (by omega)
      go_wp2
      go_ret2
      refine ⟨?_, (Below.refl _ _).alloc (Nat.le_refl _) _⟩
      rw [HD.out.1]
      conv => rhs; rw [Pl.hexDig]
      rw [dif_pos (by omega)]; rfl

theorem formatInt16i (u : Nat) (hu : u < 65536) (w : World) (h : WdA w) : Calls Tryd.prog 42 #[.int .i64 u, .int .i64 16] w fun e w' => e = .returned (.string ⟨(Pl.hexDig u).toArray⟩) ∧ Below w.heap.size w w' := by
  have HW := Lib.hid h
  clear h
  have hneg : decide ((u : Int) < 0) = false := by simp
  go_enter Tryd.func42, Tryd.ntmps42
  go_wp2_with (go_at_call 66; refine (formatBits16 u hu _ HW.out).mono ?_; rintro e w' ⟨rfl, hb⟩)
  go_ret
  exact ⟨rfl, hb⟩

theorem formatInt16 (u : Nat) (hu : u < 65536) (w : World) (h : WdA w) : Calls Tryd.prog 32 #[.int .i64 u, .int .i64 16] w fun e w' => e = .returned (.string ⟨(Pl.hexDig u).toArray⟩) ∧ Below w.heap.size w w' := by
  have HW := Lib.hid h
  clear h
  go_enter Tryd.func32, Tryd.ntmps32
  go_wp2_with (go_at_call 42; refine (formatInt16i u hu _ HW.out).mono ?_; rintro e w' ⟨rfl, hb⟩)
  go_ret
  exact ⟨rfl, hb⟩
end Go.Proofs.YtgdfmhdgmjogiabDoor
