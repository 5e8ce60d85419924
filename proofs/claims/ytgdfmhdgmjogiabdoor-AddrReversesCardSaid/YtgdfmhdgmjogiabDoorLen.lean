/- How long the text of an address is, at most. -/
import Derived.Test.YtgdfmhdgmjogiabDoorAdr2
namespace Go.Proofs.YtgdfmhdgmjogiabDoor
namespace Pl
theorem hexes_len (a : List UInt8) (l : List Nat) (h : ∀ u ∈ l, u ∈ words a) : (Lib.join (l.map hexDig) [58]).length ≤ l.length * 5 := by
  have := join_len [58] 4 (l.map hexDig) (by
    intro x hx
    rw [List.mem_map] at hx
    obtain ⟨u, hu, rfl⟩ := hx
    exact hexDig_length u (words_lt a u (h u hu)))
  rw [List.length_map] at this
  exact this
theorem print_len (a : List UInt8) (ha : a.length = 16) : (print a).length ≤ 64 := by
  unfold print
  split
  · have := print4_len a ha; omega
  · have hw : (words a).length = 8 := by simp [words]
    rcases print6_cases a with ⟨_, h⟩ | ⟨p, n, h1, h2, h3, h⟩
    · rw [h]
      have := hexes_len a (words a) (fun _ h => h)
      omega
    · rw [h]
      have e1 := hexes_len a ((words a).take p) (fun u hu => List.mem_of_mem_take hu)
      have e2 := hexes_len a ((words a).drop (p + n)) (fun u hu => List.mem_of_mem_drop hu)
      rw [List.length_take] at e1
      rw [List.length_drop] at e2
      simp only [List.length_append, List.length_cons, List.length_nil]
      omega
end Pl
end Go.Proofs.YtgdfmhdgmjogiabDoor
