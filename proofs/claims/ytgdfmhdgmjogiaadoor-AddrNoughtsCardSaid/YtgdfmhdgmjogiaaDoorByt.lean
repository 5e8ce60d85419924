/- A row of bytes made of a string, written in place, and read back as a string; plain theorems over any program. -/
import Derived.Test.YtgdfmhdgmjogiaaDoorStr
import Derived.Test.YtgdfmhdgmjogiaaDoorWd
import Derived.Laws.IdiomStrings
import Derived.Laws.BytesString
namespace Go.Proofs.YtgdfmhdgmjogiaaDoor
open Go.RowKit
set_option linter.unusedVariables false

/-- Block g holds the bytes l, and may be written there. -/
structure RowB (w : World) (g : Nat) (l : List UInt8) : Prop where
  lt : g < w.heap.size
  cell : ∀ j, j < l.length → w.cell? ⟨g, j, none⟩ = some (.int .u8 ((l.getD j 0).toNat : Int))
  free : ∀ j, j < l.length → w.frozen? ⟨g, j, none⟩ = false
theorem RowB.made (w : World) (s : ByteArray) (cap : Nat) (e : TypeId) (hc : s.size ≤ cap) :
    RowB (w.alloc (.cells (bytesRow s cap) e ((bytesRow s cap).size, (bytesRow s cap).size + 1))) w.heap.size s.data.toList := by
  have hn : s.data.toList.length = s.size := (Lib.size_eq s).symm
  have hz : (bytesRow s cap).size = s.size + (cap - s.size) := by
    unfold bytesRow
    simp only [Array.size_append, Array.size_map, Array.size_replicate]
    rfl
  refine ⟨by simp, ?_, ?_⟩
  · intro j hj
    have hj' : j < s.data.size := by rw [hn] at hj; exact hj
    rw [World.cell?_alloc_mark, bytesRow_at s cap j hj']
    simp [List.getD, List.getElem?_eq_getElem hj]
  · intro j hj
    rw [World.frozen?_alloc_mark]
    have : ¬ (bytesRow s cap).size ≤ j := by omega
    simp [this]
theorem RowB.below {w w' : World} {g B : Nat} {l : List UInt8} (h : RowB w g l) (hb : Below B w w') (hg : g < B) : RowB w' g l := by
  refine ⟨Nat.lt_of_lt_of_le h.lt hb.size, ?_, ?_⟩
  · intro j hj; rw [hb.cell (p := ⟨g, j, none⟩) hg]; exact h.cell j hj
  · intro j hj; rw [hb.frozen (p := ⟨g, j, none⟩) hg]; exact h.free j hj
theorem RowB.set {w : World} {g : Nat} {l : List UInt8} (h : RowB w g l) (i : Nat) (c : UInt8) (hi : i < l.length) : RowB (w.setCell ⟨g, i, none⟩ (.int .u8 (c.toNat : Int))) g (l.set i c) := by
  refine ⟨by simpa using h.lt, ?_, ?_⟩
  · intro j hj
    rw [List.length_set] at hj
    by_cases hji : j = i
    · subst hji
      rw [World.cell?_setCell_same _ _ _ (h.cell j hj)]
      simp [List.getD, hi]
    · rw [World.cell?_setCell_other _ _ _ _ (by intro e; injection e with _ e2 _; exact hji e2.symm), h.cell j hj]
      simp [List.getD, Ne.symm hji]
  · intro j hj
    rw [List.length_set] at hj
    rw [World.frozen?_setCell]
    exact h.free j hj
theorem RowB.drewN {w : World} {g : Nat} {l : List UInt8} (h : RowB w g l) (n : Nat) : RowB (w.drewN n) g l := ⟨h.lt, h.cell, h.free⟩

end Go.Proofs.YtgdfmhdgmjogiaaDoor
