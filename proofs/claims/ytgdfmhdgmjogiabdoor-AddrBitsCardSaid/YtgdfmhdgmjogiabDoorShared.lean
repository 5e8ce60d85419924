/- The contract of addr.Shared. -/
import Derived.Test.YtgdfmhdgmjogiabDoorHelp
import Derived.Test.YtgdfmhdgmjogiabDoorAdr2
import Derived.Outline
import Derived.Deep.QuietTactic
import Derived.BigQuiet
import Derived.WalkSmall
namespace Go.Proofs.YtgdfmhdgmjogiabDoor
open Go.RowKit

/-- Do two bytes part in bit k? In the walk's spelling. -/
def dbit (x y : UInt8) (k : Nat) : Bool := bits .and .u8 (bits .xor .u8 (x.toNat : Int) (y.toNat : Int) / 2 ^ k) 1 == 1
def diffAt (a b : List UInt8) (m : Nat) : Bool := dbit (a.getD (m / 8) 0) (b.getD (m / 8) 0) (7 - m % 8)
def sharedN (a b : List UInt8) : Nat := ((List.range 128).find? (diffAt a b)).getD 128

theorem shared_hit {a b : List UInt8} {m : Nat} (hm : m < 128) (h0 : ∀ j, j < m → diffAt a b j = false) (h1 : diffAt a b m = true) : sharedN a b = m := by
  unfold sharedN
  have : (List.range 128).find? (diffAt a b) = some m := by
    rw [List.find?_range_eq_some]
    exact ⟨h1, by simpa using hm, fun j hj => by simp [h0 j hj]⟩
  rw [this]; rfl
theorem shared_miss {a b : List UInt8} (h0 : ∀ j, j < 128 → diffAt a b j = false) : sharedN a b = 128 := by
  unfold sharedN
  have : (List.range 128).find? (diffAt a b) = none := by
    rw [List.find?_eq_none]
    intro x hx
    simp [h0 x (by simpa using hx)]
  rw [this]; rfl

theorem shared_any (a b : List UInt8) (ha : a.length = 16) (hb : b.length = 16) (w : World) : Calls Tryd.prog 7 #[.agg (avs a), .agg (avs b)] w fun e w' => e = .returned (.int .i64 (sharedN a b)) ∧ Below w.heap.size w w' := by
  have HW : Hid (Below w.heap.size w ((w.alloc (.cells (avs a) 23)).alloc (.cells (avs b) 23))) := ((Below.refl _ _).alloc (Nat.le_refl _) _).alloc (by simp) _
  have HCA : Hid (CellsA ((w.alloc (.cells (avs a) 23)).alloc (.cells (avs b) 23)) w.heap.size a) := (CellsA.new w a _ ha).past (by simp) _
  have HCB : Hid (CellsA ((w.alloc (.cells (avs a) 23)).alloc (.cells (avs b) 23)) (w.heap.size + 1) b) := by
    have := CellsA.new (w.alloc (.cells (avs a) 23)) b 23 hb
    rw [World.size_alloc] at this
    exact this
  have HD : Hid (∀ m, m < 8 * 0 → diffAt a b m = false) := fun m h => by omega
  clear ha hb
  go_enter Tryd.func7, Tryd.ntmps7
  go_wp2
  go_loopw [5, 6, 7] (fun _ _ s7 wr => ∃ i : Nat, i ≤ 16 ∧ s7 = .int .i64 i ∧ Hid (∀ m, m < 8 * i → diffAt a b m = false) ∧ Hid (Below w.heap.size w wr) ∧ Hid (CellsA wr w.heap.size a) ∧ Hid (CellsA wr (w.heap.size + 1) b)) (fun _ _ s7 _ => 16 - (intOf s7).toNat)
  case atStart => exact ⟨0, by omega, rfl, HD, HW, HCA, HCB⟩
  case round =>
    clear HW HCA HCB HD
    obtain ⟨i, hi, rfl, HD, HW, HCA, HCB⟩ := hrel
    by_cases hlt : i < 16
    · have HD' : Hid (∀ m, m < 8 * i + (8 - 8) → diffAt a b m = false) := HD
      clear HD
      go_wp2
      obtain ⟨wo, rfl⟩ : ∃ wo : World, wo = wr := ⟨_, rfl⟩
      go_loopw [6] (fun s6 wr => ∃ (k : Nat), k ≤ 8 ∧ s6 = .int .i64 ((k : Int) - 1) ∧ Hid (∀ m, m < 8 * i + (8 - k) → diffAt a b m = false) ∧ Hid (Below w.heap.size w wr) ∧ Hid (CellsA wr w.heap.size a) ∧ Hid (CellsA wr (w.heap.size + 1) b)) (fun s6 _ => (intOf s6 + 1).toNat)
      case atStart => exact ⟨8, by omega, rfl, HD', HW, HCA, HCB⟩
      case round =>
        clear HW HCA HCB HD'
        obtain ⟨k, hk, rfl, HD, HW, HCA, HCB⟩ := hrel
        by_cases hk0 : 1 ≤ k
        · obtain ⟨k, rfl⟩ : ∃ m, k = m + 1 := ⟨k - 1, by omega⟩
          obtain ⟨x, hx⟩ : ∃ x, x = a.getD i 0 := ⟨_, rfl⟩
          obtain ⟨y, hy⟩ : ∃ x, x = b.getD i 0 := ⟨_, rfl⟩
          have ca := HCA.out i hlt
          have cb := HCB.out i hlt
          have HI : Hid (diffAt a b (8 * i + (7 - k)) = dbit x y k) := by
            unfold diffAt
            rw [show (8 * i + (7 - k)) / 8 = i by omega, show 7 - (8 * i + (7 - k)) % 8 = k by omega, ← hx, ← hy]
            exact rfl
          rw [← hx] at ca
          rw [← hy] at cb
          clear hx hy
          have e0 : ((k + 1 : Nat) : Int) - 1 = (k : Int) := by omega
          rw [e0]
          clear e0
          go_wp2
          go_quiet (fail)
          go_wp2
          · have hd : dbit x y k = true := by assumption
            go_ret
            refine ⟨?_, below_drewN HW.out _⟩
            rw [shared_hit (m := 8 * i + (7 - k)) (by omega) (fun j hj => HD.out j (by omega)) (by rw [HI.out]; exact hd)]
            exact ret_int (by omega)
          · have hd : dbit x y k = false := by assumption
            go_roundw
            case rel =>
              refine ⟨k, by omega, rfl, ?_, below_drewN HW.out _, HCA.out.drewN _, HCB.out.drewN _⟩
              intro m hm
              by_cases hm' : m < 8 * i + (8 - (k + 1))
              · exact HD.out m hm'
              · obtain rfl : m = 8 * i + (7 - k) := by omega
                rw [HI.out]; exact hd
            case measure => simp [intOf]
        · obtain rfl : k = 0 := by omega
          go_wp2
          go_roundw
          case rel => exact ⟨i + 1, by omega, by first | rfl | go_num, fun m hm => HD.out m (by omega), HW, HCA, HCB⟩
          case measure => simp [intOf]; omega
    · obtain rfl : i = 16 := by omega
      go_wp2
      go_ret
      exact ⟨by rw [shared_miss (fun j hj => HD.out j (by omega))]; rfl, HW.out⟩
end Go.Proofs.YtgdfmhdgmjogiabDoor
