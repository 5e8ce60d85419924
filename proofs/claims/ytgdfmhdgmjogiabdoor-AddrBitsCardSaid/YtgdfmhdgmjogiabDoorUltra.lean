/- Of the three counts of shared bits among three addresses the least two are the same; plain. -/
import Derived.Test.YtgdfmhdgmjogiabDoorShared
namespace Go.Proofs.YtgdfmhdgmjogiabDoor
open Go.RowKit
theorem bit_fin : ∀ v : Fin 256, ∀ k : Fin 8, (bits .and .u8 ((v.val : Int) / 2 ^ k.val) 1 == 1) = v.val.testBit k.val := by decide +kernel
theorem xor_u8 (x y : UInt8) : bits .xor .u8 (x.toNat : Int) (y.toNat : Int) = ((x.toNat ^^^ y.toNat : Nat) : Int) := by
  have hx : x.toNat < 256 := x.toNat_lt
  have hy : y.toNat < 256 := y.toNat_lt
  have hz : x.toNat ^^^ y.toNat < 256 := Nat.xor_lt_two_pow (n := 8) hx hy
  change IntKind.u8.wrap (((BitVec.ofInt 8 (x.toNat : Int) ^^^ BitVec.ofInt 8 (y.toNat : Int)).toNat : Nat) : Int) = _
  rw [BitVec.toNat_xor, BitVec.ofInt_natCast, BitVec.ofInt_natCast, BitVec.toNat_ofNat, BitVec.toNat_ofNat, Nat.mod_eq_of_lt hx, Nat.mod_eq_of_lt hy]
  exact IntWalk.u8_in _ (by omega)
theorem dbit_bits (x y : UInt8) (k : Nat) (hk : k < 8) : dbit x y k = (x.toNat.testBit k != y.toNat.testBit k) := by
  have hz : x.toNat ^^^ y.toNat < 256 := Nat.xor_lt_two_pow (n := 8) x.toNat_lt y.toNat_lt
  have := bit_fin ⟨x.toNat ^^^ y.toNat, hz⟩ ⟨k, hk⟩
  unfold dbit
  rw [xor_u8]
  simp only at this
  rw [this, Nat.testBit_xor]
/-- Bit m of an address. -/
def bitAt (a : List UInt8) (m : Nat) : Bool := (a.getD (m / 8) 0).toNat.testBit (7 - m % 8)
theorem diff_bits (a b : List UInt8) (m : Nat) : diffAt a b m = (bitAt a m != bitAt b m) := dbit_bits _ _ _ (by omega)

theorem shared_le (a b : List UInt8) : sharedN a b ≤ 128 := by
  unfold sharedN
  cases h : (List.range 128).find? (diffAt a b) with
  | none => exact Nat.le_refl _
  | some m =>
    have := List.mem_of_find?_eq_some h
    simp only [List.mem_range] at this
    simp only [Option.getD_some]; omega
theorem shared_before {a b : List UInt8} {m : Nat} (h : m < sharedN a b) : diffAt a b m = false := by
  have h128 := shared_le a b
  unfold sharedN at h
  cases hf : (List.range 128).find? (diffAt a b) with
  | none =>
    rw [List.find?_eq_none] at hf
    have := hf m (by simp only [List.mem_range]; rw [show (List.range 128).find? (diffAt a b) = none from List.find?_eq_none.2 hf] at h; exact h)
    simpa using this
  | some k =>
    rw [hf] at h
    rw [List.find?_range_eq_some] at hf
    have := hf.2.2 m h
    simpa using this
theorem shared_at {a b : List UInt8} (h : sharedN a b < 128) : diffAt a b (sharedN a b) = true := by
  unfold sharedN at h ⊢
  cases hf : (List.range 128).find? (diffAt a b) with
  | none => rw [hf] at h; simp at h
  | some k =>
    simp only [Option.getD_some]
    exact List.find?_some hf
theorem ultra (a b c : List UInt8) : min (sharedN a b) (sharedN b c) ≤ sharedN a c := by
  rcases Nat.lt_or_ge (sharedN a c) (min (sharedN a b) (sharedN b c)) with h | h
  · exfalso
    have h1 := shared_before (show sharedN a c < sharedN a b by omega)
    have h2 := shared_before (show sharedN a c < sharedN b c by omega)
    have hle := shared_le a b
    have h3 := shared_at (show sharedN a c < 128 by omega)
    rw [diff_bits] at h1 h2 h3
    cases h4 : bitAt a (sharedN a c) <;> cases h5 : bitAt b (sharedN a c) <;> cases h6 : bitAt c (sharedN a c) <;> rw [h4, h5] at h1 <;> rw [h5, h6] at h2 <;> rw [h4, h6] at h3 <;> simp at h1 h2 h3
  · exact h
theorem diff_comm (a b : List UInt8) (m : Nat) : diffAt a b m = diffAt b a m := by
  rw [diff_bits, diff_bits]; cases bitAt a m <;> cases bitAt b m <;> rfl
theorem shared_comm (a b : List UInt8) : sharedN a b = sharedN b a := by
  unfold sharedN
  rw [show diffAt a b = diffAt b a from funext (diff_comm a b)]
theorem shared_eq {a b : List UInt8} (ha : a.length = 16) (hb : b.length = 16) : sharedN a b = 128 ↔ a = b := by
  constructor
  · intro h
    apply List.ext_getElem (by omega)
    intro i h1 h2
    apply UInt8.toNat_inj.1
    apply Nat.eq_of_testBit_eq
    intro k
    rcases Nat.lt_or_ge k 8 with hk | hk
    · have hd := shared_before (a := a) (b := b) (m := 8 * i + (7 - k)) (by omega)
      rw [diff_bits] at hd
      unfold bitAt at hd
      rw [show (8 * i + (7 - k)) / 8 = i by omega, show 7 - (8 * i + (7 - k)) % 8 = k by omega] at hd
      rw [List.getD_eq_getElem?_getD, List.getElem?_eq_getElem h1, List.getD_eq_getElem?_getD, List.getElem?_eq_getElem h2] at hd
      simpa using hd
    · have e : ∀ x : UInt8, x.toNat.testBit k = false := fun x => Nat.testBit_lt_two_pow (Nat.lt_of_lt_of_le x.toNat_lt (Nat.pow_le_pow_right (by omega) hk))
      rw [e, e]
  · rintro rfl
    apply shared_miss
    intro j _
    rw [diff_bits]; simp
end Go.Proofs.YtgdfmhdgmjogiabDoor
