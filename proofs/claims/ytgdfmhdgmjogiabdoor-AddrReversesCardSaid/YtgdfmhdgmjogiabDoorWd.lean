/- What the library's variables hold, as the walks of addr need it, and that it stays. -/
import Derived.Test.YtgdfmhdgmjogiabDoorHelp
import Derived.Test.YtgdfmhdgmjogiabDoorShelf
import Derived.WalkSmall
namespace Go.Proofs.YtgdfmhdgmjogiabDoor
open Go.RowKit

structure WdA (w : World) : Prop where
  size : 11 ≤ w.heap.size
  maxlen : ∃ m, w.cell? ⟨0, 0, none⟩ = some (.int .i64 m)
  pow : Lib.TabIs Tryd.prog w "internal/strconv.uint64pow10" .u64 Lib.pow10Tab
  db : w.cell? ⟨7, 15, none⟩ = some (.int .u8 4)
  esyn : ∃ tp p, w.var? Tryd.prog "strconv.ErrSyntax" = some #[.iface tp p]
  eran : ∃ tp p, w.var? Tryd.prog "strconv.ErrRange" = some #[.iface tp p]

theorem WdA.below {w w' : World} {B : Nat} (h : WdA w) (hb : Below B w w') (hB : 11 ≤ B) : WdA w' := by
  obtain ⟨h1, ⟨m, h2⟩, h3, h4, ⟨t5, p5, h5⟩, ⟨t6, p6, h6⟩⟩ := h
  refine ⟨Nat.le_trans h1 hb.size, ⟨m, ?_⟩, ?_, ?_, ⟨t5, p5, ?_⟩, ⟨t6, p6, ?_⟩⟩
  · rw [hb.cell (p := ⟨0, 0, none⟩) (show 0 < B by omega)]; exact h2
  · exact var?_below hb (show Tryd.prog.globalNamed "internal/strconv.uint64pow10" = some 3 by kernel_rfl) (show 3 < B by omega) h3
  · rw [hb.cell (p := ⟨7, 15, none⟩) (show 7 < B by omega)]; exact h4
  · exact var?_below hb (show Tryd.prog.globalNamed "strconv.ErrSyntax" = some 4 by kernel_rfl) (show 4 < B by omega) h5
  · exact var?_below hb (show Tryd.prog.globalNamed "strconv.ErrRange" = some 5 by kernel_rfl) (show 5 < B by omega) h6
theorem WdA.on {w w' : World} (h : WdA w) (hb : Below w.heap.size w w') : WdA w' := h.below hb h.size
end Go.Proofs.YtgdfmhdgmjogiabDoor
