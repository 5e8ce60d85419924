/- The name under which an address's names stand: its labels, and that unlike addresses have unlike ones; plain lists, no program. -/
import Derived.Test.YtgdfmhdgmjogiabDoorLen
namespace Go.Proofs.YtgdfmhdgmjogiabDoor
namespace Pl

def sArpa : List UInt8 := [97, 114, 112, 97]
def sInAddr : List UInt8 := [105, 110, 45, 97, 100, 100, 114]
def sIp6 : List UInt8 := [105, 112, 54]
/-- Half a byte, the last one first. -/
def nib (a : List UInt8) (i : Nat) : Nat := if i % 2 = 0 then (a.getD (15 - i / 2) 0).toNat % 16 else (a.getD (15 - i / 2) 0).toNat / 16
def rev4 (a : List UInt8) (i : Nat) : List (List UInt8) := (List.range i).map fun j => Lib.decDigits (a.getD (15 - j) 0).toNat
def rev6 (a : List UInt8) (i : Nat) : List (List UInt8) := (List.range i).map fun j => hexDig (nib a j)
def revL (a : List UInt8) : List (List UInt8) := if is4 a then rev4 a 4 ++ [sInAddr, sArpa] else rev6 a 32 ++ [sIp6, sArpa]
def reverse (a : List UInt8) : List UInt8 := Lib.join (revL a) [46]

theorem rev4_succ (a : List UInt8) (i : Nat) : rev4 a (i + 1) = rev4 a i ++ [Lib.decDigits (a.getD (15 - i) 0).toNat] := by
  unfold rev4; rw [List.range_succ, List.map_append]; rfl
theorem rev6_succ2 (a : List UInt8) (i : Nat) : rev6 a (2 * (i + 1)) = rev6 a (2 * i) ++ [hexDig ((a.getD (15 - i) 0).toNat % 16), hexDig ((a.getD (15 - i) 0).toNat / 16)] := by
  unfold rev6
  rw [show 2 * (i + 1) = 2 * i + 1 + 1 by omega, List.range_succ, List.range_succ, List.map_append, List.map_append, List.append_assoc]
  have e1 : nib a (2 * i) = (a.getD (15 - i) 0).toNat % 16 := by
    unfold nib
    rw [if_pos (by omega), show 2 * i / 2 = i by omega]
  have e2 : nib a (2 * i + 1) = (a.getD (15 - i) 0).toNat / 16 := by
    unfold nib
    rw [if_neg (by omega), show (2 * i + 1) / 2 = i by omega]
  simp only [List.map_cons, List.map_nil, e1, e2]
  rfl
theorem rev4_len (a : List UInt8) (i : Nat) : (rev4 a i).length = i := by simp [rev4]
theorem rev6_len (a : List UInt8) (i : Nat) : (rev6 a i).length = i := by simp [rev6]
theorem nib_lt (a : List UInt8) (i : Nat) : nib a i < 16 := by
  unfold nib
  have := (a.getD (15 - i / 2) 0).toNat_lt
  split <;> omega
theorem revL_ne (a : List UInt8) : revL a ≠ [] := by unfold revL; split <;> simp
theorem revL_no46 (a : List UInt8) : ∀ x ∈ revL a, (46 : UInt8) ∉ x := by
  intro x hx
  unfold revL at hx
  split at hx
  · simp only [rev4, List.mem_append, List.mem_map, List.mem_cons, List.not_mem_nil, or_false] at hx
    rcases hx with ⟨j, _, rfl⟩ | rfl | rfl
    · exact dec_no (UInt8.toNat_lt _) (Or.inl (by decide))
    · decide
    · decide
  · simp only [rev6, List.mem_append, List.mem_map, List.mem_cons, List.not_mem_nil, or_false] at hx
    rcases hx with ⟨j, _, rfl⟩ | rfl | rfl
    · exact hexDig_no46 _
    · decide
    · decide
/-- The labels come back from the name. -/
theorem split_reverse (a : List UInt8) : splitc 46 (reverse a) = revL a := split_join 46 _ (revL_ne a) (revL_no46 a)

theorem ext16 {a b : List UInt8} (ha : a.length = 16) (hb : b.length = 16) (h : ∀ j, j < 16 → a.getD j 0 = b.getD j 0) : a = b := by
  apply List.ext_getElem (by omega)
  intro i h1 h2
  have := h i (by omega)
  simpa [List.getD, List.getElem?_eq_getElem h1, List.getElem?_eq_getElem h2] using this
theorem hexDig_inj {u v : Nat} (hu : u < 16) (hv : v < 16) (h : hexDig u = hexDig v) : u = v := by
  have h1 := parse16_hexDig (show u < 65536 by omega)
  have h2 := parse16_hexDig (show v < 65536 by omega)
  rw [h, h2] at h1
  exact (Option.some.inj h1).symm
theorem dec_inj {u v : Nat} (hu : u < 256) (hv : v < 256) (h : Lib.decDigits u = Lib.decDigits v) : u = v := by
  have h1 := parse8_dec hu
  have h2 := parse8_dec hv
  rw [h, h2] at h1
  exact (Option.some.inj h1).symm
theorem map_range_inj {α : Type} (f g : Nat → α) : ∀ n, (List.range n).map f = (List.range n).map g → ∀ j, j < n → f j = g j := by
  intro n h j hj
  have := congrArg (fun l => l[j]?) h
  simpa [List.getElem?_map, List.getElem?_range hj] using this
theorem is4_take {a : List UInt8} (h : is4 a = true) : a.take 12 = v4head := by unfold is4 at h; exact eq_of_beq h

theorem reverse_inj {a b : List UInt8} (ha : a.length = 16) (hb : b.length = 16) (h : reverse a = reverse b) : a = b := by
  have hs : revL a = revL b := by rw [← split_reverse, ← split_reverse, h]
  unfold revL at hs
  by_cases h4 : is4 a = true
  · by_cases h4' : is4 b = true
    · rw [if_pos h4, if_pos h4'] at hs
      have h2 : rev4 a 4 = rev4 b 4 := List.append_cancel_right hs
      have h3 := map_range_inj _ _ 4 h2
      have e1 : a.drop 12 = b.drop 12 := by
        apply List.ext_getElem (by simp [ha, hb])
        intro i h1 h2
        have hi : i < 4 := by simp [ha] at h1; omega
        have := dec_inj (UInt8.toNat_lt _) (UInt8.toNat_lt _) (h3 (3 - i) (by omega))
        rw [show 15 - (3 - i) = 12 + i by omega] at this
        have h5 := UInt8.toNat_inj.1 this
        simpa [List.getD, List.getElem?_eq_getElem (show 12 + i < a.length by omega), List.getElem?_eq_getElem (show 12 + i < b.length by omega)] using h5
      rw [← List.take_append_drop 12 a, ← List.take_append_drop 12 b, is4_take h4, is4_take h4', e1]
    · rw [if_pos h4, if_neg h4'] at hs
      have := congrArg List.length hs
      simp [rev4_len, rev6_len] at this
  · by_cases h4' : is4 b = true
    · rw [if_neg h4, if_pos h4'] at hs
      have := congrArg List.length hs
      simp [rev4_len, rev6_len] at this
    · rw [if_neg h4, if_neg h4'] at hs
      have h2 : rev6 a 32 = rev6 b 32 := List.append_cancel_right hs
      have h3 := map_range_inj _ _ 32 h2
      refine ext16 ha hb fun j hj => ?_
      have e1 := hexDig_inj (nib_lt a _) (nib_lt b _) (h3 (2 * (15 - j)) (by omega))
      have e2 := hexDig_inj (nib_lt a _) (nib_lt b _) (h3 (2 * (15 - j) + 1) (by omega))
      unfold nib at e1 e2
      rw [if_pos (by omega), if_pos (by omega), show 15 - 2 * (15 - j) / 2 = j by omega] at e1
      rw [if_neg (by omega), if_neg (by omega), show 15 - (2 * (15 - j) + 1) / 2 = j by omega] at e2
      apply UInt8.toNat_inj.1
      omega
theorem rev4_print (a : List UInt8) (ha : a.length = 16) (h4 : is4 a = true) : Lib.join (rev4 a 4).reverse [46] = print a := by
  unfold print
  rw [if_pos h4]
  unfold print4
  obtain ⟨x0, x1, x2, x3, x4, x5, x6, x7, x8, x9, y0, y1, y2, y3, y4, y5, rfl⟩ := list16 a ha
  rfl
theorem hexDig_one {u : Nat} (h : u < 16) : hexDig u = [hexd u] := by rw [hexDig, dif_pos h]
theorem reverse_len (a : List UInt8) : (reverse a).length ≤ 300 := by
  unfold reverse
  have h := join_len [46] 7 (revL a) (by
    intro x hx
    unfold revL at hx
    split at hx
    · simp only [rev4, List.mem_append, List.mem_map, List.mem_cons, List.not_mem_nil, or_false] at hx
      rcases hx with ⟨j, _, rfl⟩ | rfl | rfl
      · have := (dec_len (UInt8.toNat_lt (a.getD (15 - j) 0))).2; omega
      · decide
      · decide
    · simp only [rev6, List.mem_append, List.mem_map, List.mem_cons, List.not_mem_nil, or_false] at hx
      rcases hx with ⟨j, _, rfl⟩ | rfl | rfl
      · rw [hexDig_one (nib_lt a j)]; simp
      · decide
      · decide)
  have h2 : (revL a).length ≤ 34 := by
    unfold revL
    split <;> simp [rev4_len, rev6_len]
  simp only [List.length_cons, List.length_nil] at h
  omega

end Pl
end Go.Proofs.YtgdfmhdgmjogiabDoor
