/- strings.Split at one byte; a whole array stored; the contract of addr.four. -/
import Derived.Test.YtgdfmhdgmjogiabDoorUint
import Derived.Test.YtgdfmhdgmjogiabDoorPrint4
import Derived.Lib.SplitLaws
namespace Go.Proofs.YtgdfmhdgmjogiabDoor
open Go.RowKit
set_option linter.unusedVariables false

/-- Strings as a row. -/
def svs (xs : List ByteArray) : Array Value := (xs.map Value.string).toArray
theorem svs_get (xs : List ByteArray) (i : Nat) (x : ByteArray) (h : xs[i]? = some x) : (svs xs)[i]? = some (.string x) := by simp [svs, h]

theorem split_any (s : ByteArray) (c : UInt8) (w : World) (h : WdA w) (hs : s.size < 4294967281) : Calls Tryd.prog 47 #[.string s, .string ⟨#[c]⟩] w fun e w' =>
    ∃ xs : List ByteArray, xs.map (·.data.toList) = Pl.splitc c s.data.toList ∧ e = .returned (.slice (some ⟨w.heap.size, 0, none⟩) xs.length xs.length) ∧ w' = w.alloc (.cells (svs xs) 9) := by
  obtain ⟨m, hm⟩ := h.maxlen
  refine (Tryd.strings_Split s ⟨#[c]⟩ m w hs hm (Nat.le_refl 1)).mono ?_
  rintro e w' ⟨rfl, rfl⟩
  have hl := Lib.splitB_all ⟨#[c]⟩ (Nat.le_refl 1) 0 (Lib.countB s ⟨#[c]⟩) s rfl
  refine ⟨Lib.splitB ⟨#[c]⟩ 0 (Lib.countB s ⟨#[c]⟩) s, ?_, by rw [hl], rfl⟩
  rw [Lib.splitB_data]
  exact Pl.split_one c s.data.toList

theorem setRow_row {w : World} {g : Nat} {cs : Array Value} {t : TypeId} (h : RowIs w g cs t) (ds : Array Value) : RowIs (w.setRow g ds) g ds t := setRow_heap w g cs ds t (0, 0) h
theorem setRow_past {w : World} {g k : Nat} {cs ds : Array Value} {t : TypeId} (h : RowIs w k cs t) (hk : k ≠ g) : RowIs (w.setRow g ds) k cs t := by
  unfold RowIs at *; rw [setRow_other w g k ds hk]; exact h
theorem below_setRow {B : Nat} {a w : World} (h : Below B a w) (g : Nat) (hg : B ≤ g) (ds : Array Value) : Below B a (w.setRow g ds) :=
  h.trans ⟨rfl, rfl, rfl, by simp [World.setRow], fun k hk => setRow_other w g k ds (by omega)⟩

theorem RowIs.other {w : World} {k : Nat} {cs : Array Value} {t : TypeId} (h : RowIs w k cs t) (g i : Nat) (v : Value) (hk : k ≠ g) : RowIs (w.setCell ⟨g, i, none⟩ v) k cs t := by
  unfold RowIs at *; rw [heap_setCell_other w ⟨g, i, none⟩ k v hk]; exact h

def zero16 : List UInt8 := List.replicate 16 0
theorem one_avs (b : List UInt8) : (avs b).all (·.oneCell') = true := by
  rw [Array.all_eq_true_iff_forall_mem]
  intro x hx
  simp [avs] at hx
  obtain ⟨y, _, rfl⟩ := hx
  rfl
theorem wpList_store_addr {ops : Array Oper} {rest : List Oper} {o : Oper} {a : Act} {w : World} {Q : Exit → Act → World → Prop} (hgd : o.guard = none) (x y : Operand) (ho : o.op = .store 23 x y)
    (g : Nat) (b old : List UInt8) (t : TypeId) (hx : a.eval x = .pointer (some ⟨g, 0, none⟩)) (hy : a.eval y = .agg (avs b)) (hb : b.length = 16) (hold : old.length = 16) (hg : RowIs w g (avs old) t)
    (h : wpList Tryd.prog ops Q rest (a.put o.dst undef) (w.setRow g (avs b))) : wpList Tryd.prog ops Q (o :: rest) a w :=
  wpList_plain hgd fun _ hK => wp_store_row 23 x y ho g (avs b) hx hy t (avs old) hg (load_size b hb) (by rw [avs_size, avs_size, hb, hold]) (one_avs b) (hK _ _ h)

theorem results_addr {fn : Func} {p u : Tmp} (h : fn.results = #[.cell p 23, .tmp u]) (tmps : Array Value) (w : World) (g : Nat) (b : List UInt8) (t : TypeId) (hb : b.length = 16) (hp : tmps.getD p undef = .pointer (some ⟨g, 0, none⟩)) (hg : RowIs w g (avs b) t) :
    (results fn tmps).run Tryd.prog w = .ok (.tuple #[.agg (avs b), tmps.getD u undef]) w := by
  rw [results_cell_tmp h, hp]
  simp only [asAddr, Sem.run_pure, Result.andThen_ok]
  rw [run_loadVar_row w g t 23 (avs b) (0, 0) _ hg Tryd.underlying23 rfl (load_size b hb)]
  rfl

theorem mapO_app {α β : Type} (f : α → Option β) : ∀ (l : List α) (us : List β) (x : α), Pl.mapO f l = some us → Pl.mapO f (l ++ [x]) = (f x).map fun y => us ++ [y]
  | [], us, x, h => by
    simp [Pl.mapO] at h; subst h
    simp only [List.nil_append, Pl.mapO]
    cases f x <;> rfl
  | z :: l, us, x, h => by
    unfold Pl.mapO at h
    simp only [List.cons_append, Pl.mapO]
    cases hz : f z with
    | none => rw [hz] at h; simp at h
    | some y =>
      rw [hz] at h
      simp only at h ⊢
      cases hl : Pl.mapO f l with
      | none => rw [hl] at h; simp at h
      | some ys =>
        rw [hl] at h
        simp at h; subst h
        rw [mapO_app f l ys x hl]
        cases f x <;> rfl
theorem mapO_none {α β : Type} (f : α → Option β) (r : List α) : ∀ (l : List α), Pl.mapO f l = none → Pl.mapO f (l ++ r) = none
  | [], h => by simp [Pl.mapO] at h
  | z :: l, h => by
    unfold Pl.mapO at h
    simp only [List.cons_append, Pl.mapO]
    cases hz : f z with
    | none => rfl
    | some y =>
      rw [hz] at h
      simp only at h ⊢
      cases hl : Pl.mapO f l with
      | none => rw [mapO_none f r l hl]
      | some ys => rw [hl] at h; simp at h
end Go.Proofs.YtgdfmhdgmjogiabDoor
