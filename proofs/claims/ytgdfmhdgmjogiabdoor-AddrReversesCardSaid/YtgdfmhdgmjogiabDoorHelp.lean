/- Small words for the walks: an array of bytes as a value, its cells in a block; no contract. -/
import Derived.Test.YtgdfmhdgmjogiabDoorProg
import Derived.WalkKit
import Derived.WalkLawsBesides
import Derived.Lib.Hide
import Derived.IntWalk
import Derived.Deep.Draws
import Derived.Laws.Rows
import Derived.WalkSmall
namespace Go.Proofs.YtgdfmhdgmjogiabDoor
open Go.RowKit

def avs (a : List UInt8) : Array Value := (a.map fun b => Value.int .u8 (b.toNat : Int)).toArray
theorem avs_get (a : List UInt8) (i : Nat) (h : i < a.length) : (avs a)[i]? = some (.int .u8 ((a.getD i 0).toNat : Int)) := by
  simp [avs, List.getD, List.getElem?_eq_getElem h]
theorem avs_size (a : List UInt8) : (avs a).size = a.length := by simp [avs]

theorem ret_int {k : IntKind} {a b : Int} (h : a = b) : Ending.returned (.int k a) = .returned (.int k b) := by rw [h]

/-- Block B holds the sixteen bytes a. -/
def CellsA (w : World) (B : Nat) (a : List UInt8) : Prop := ∀ i, i < 16 → w.cell? ⟨B, i, none⟩ = some (.int .u8 ((a.getD i 0).toNat : Int))
theorem CellsA.new (w : World) (a : List UInt8) (t : TypeId) (h : a.length = 16) : CellsA (w.alloc (.cells (avs a) t)) w.heap.size a := fun i hi => by
  rw [World.cell?_alloc_new, avs_get a i (by omega)]
theorem CellsA.past {w : World} {B : Nat} {a : List UInt8} (h : CellsA w B a) (hB : B < w.heap.size) (o : Obj) : CellsA (w.alloc o) B a := fun i hi => by
  rw [World.cell?_alloc_lt _ _ _ (by simpa using hB)]; exact h i hi
theorem CellsA.drewN {w : World} {B : Nat} {a : List UInt8} (h : CellsA w B a) (n : Nat) : CellsA (w.drewN n) B a := h
theorem CellsA.below {w w' : World} {B b : Nat} {a : List UInt8} (h : CellsA w b a) (hb : Below B w w') (hB : b < B) : CellsA w' b a := fun i hi => by
  rw [hb.cell (p := ⟨b, i, none⟩) hB]; exact h i hi

/-- Block g is just the row cs. -/
def RowIs (w : World) (g : Nat) (cs : Array Value) (t : TypeId) : Prop := w.heap[g]? = some (.cells cs t (0, 0))
theorem RowIs.new (w : World) (cs : Array Value) (t : TypeId) : RowIs (w.alloc (.cells cs t)) w.heap.size cs t := by
  show (w.heap.push _)[w.heap.size]? = _
  rw [Array.getElem?_push, if_pos rfl]
theorem RowIs.cell {w : World} {g : Nat} {cs : Array Value} {t : TypeId} (h : RowIs w g cs t) (i : Nat) : w.cell? ⟨g, i, none⟩ = cs[i]? := cell_of_row w g i cs t (0, 0) h
theorem RowIs.frozen {w : World} {g : Nat} {cs : Array Value} {t : TypeId} (h : RowIs w g cs t) (i : Nat) : w.frozen? ⟨g, i, none⟩ = false := frozen_of_row w g i cs t h
theorem RowIs.set {w : World} {g : Nat} {cs : Array Value} {t : TypeId} (h : RowIs w g cs t) (i : Nat) (v : Value) : RowIs (w.setCell ⟨g, i, none⟩ v) g (cs.setIfInBounds i v) t := by
  unfold RowIs at *
  simp [World.setCell, Array.getElem?_modify, h]
theorem RowIs.drewN {w : World} {g : Nat} {cs : Array Value} {t : TypeId} (h : RowIs w g cs t) (n : Nat) : RowIs (w.drewN n) g cs t := h
theorem RowIs.drew {w : World} {g : Nat} {cs : Array Value} {t : TypeId} (h : RowIs w g cs t) : RowIs w.drew g cs t := h
theorem RowIs.below {w w' : World} {B g : Nat} {cs : Array Value} {t : TypeId} (h : RowIs w g cs t) (hb : Below B w w') (hg : g < B) : RowIs w' g cs t := by
  unfold RowIs at *; rw [hb.block g hg]; exact h
theorem RowIs.past {w : World} {g : Nat} {cs : Array Value} {t : TypeId} (h : RowIs w g cs t) (o : Obj) : RowIs (w.alloc o) g cs t := by
  unfold RowIs at *
  show (w.heap.push _)[g]? = _
  have : g < w.heap.size := by
    rcases Nat.lt_or_ge g w.heap.size with h1 | h1
    · exact h1
    · rw [Array.getElem?_eq_none h1] at h; cases h
  rw [Array.getElem?_push, if_neg (by omega)]; exact h
theorem RowIs.lt {w : World} {g : Nat} {cs : Array Value} {t : TypeId} (h : RowIs w g cs t) : g < w.heap.size := by
  unfold RowIs at h
  rcases Nat.lt_or_ge g w.heap.size with h1 | h1
  · exact h1
  · rw [Array.getElem?_eq_none h1] at h; cases h

/-- Whole numbers as a row. -/
def ivs (l : List Nat) : Array Value := (l.map fun n : Nat => Value.int .i64 (n : Int)).toArray
theorem ivs_get (l : List Nat) (i : Nat) (h : i < l.length) : (ivs l)[i]? = some (.int .i64 ((l.getD i 0 : Nat) : Int)) := by
  simp [ivs, List.getD, List.getElem?_eq_getElem h]
theorem ivs_set (l : List Nat) (i n : Nat) : (ivs l).setIfInBounds i (.int .i64 (n : Int)) = ivs (l.set i n) := by
  simp [ivs]
end Go.Proofs.YtgdfmhdgmjogiabDoor
