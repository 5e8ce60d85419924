/- The law AddrApart, walked: what it answers is true. -/
import Derived.Test.YtgdfmhdgmjogiaaDoorFit
import Derived.Test.YtgdfmhdgmjogiaaDoorLen
import Derived.Test.YtgdfmhdgmjogiaaDoorArr
import Derived.Test.YtgdfmhdgmjogiaaDoorDraw
namespace Go.Proofs.YtgdfmhdgmjogiaaDoor
open Go.RowKit
set_option linter.unusedVariables false
set_option linter.unusedSimpArgs false

/-- What a statement that reads two arrays and calls keeps. -/
def Two (a b : List UInt8) (n : Nat) (w0 w : World) : Prop := RowIs w n (avs a) 51 ∧ RowIs w (n + 1) (avs b) 51 ∧ Below n w0 w ∧ WdA w
theorem two_keep {a b : List UInt8} {n : Nat} {w0 w w' : World} (h : Two a b n w0 w) (hb : Below w.heap.size w w') : Two a b n w0 w' := by
  obtain ⟨h1, h2, h4, h5⟩ := h
  exact ⟨h1.below hb h1.lt, h2.below hb h2.lt, h4.trans (hb.mono (by have := h1.lt; omega)), h5.on hb⟩
theorem two_call {a b : List UInt8} {n : Nat} {w0 : World} {f : FuncId} {args : Array Value} {v : Value} (h : ∀ w, WdA w → Calls Tryd.prog f args w fun e w' => e = .returned v ∧ Below w.heap.size w w') :
    ∀ w, Two a b n w0 w → Calls Tryd.prog f args w fun e w' => e = .returned v ∧ Two a b n w0 w' := fun w hS => (h w hS.2.2.2).mono fun e w' ⟨he, hb⟩ => ⟨he, two_keep hS hb⟩

set_option maxHeartbeats 8000000 in
set_option maxRecDepth 100000 in
theorem lawApart (a : List UInt8) (ha : a.length = 16) (b : List UInt8) (hb : b.length = 16) (w : World) (h : WdA w) :
    Calls Tryd.prog 12 #[.agg (avs a), .agg (avs b)] w fun e w' => e = .returned (.bool true) ∧ Below w.heap.size w w' := by
  obtain ⟨w0, hw0⟩ : ∃ w0, w0 = (w.alloc (.cells (avs a) 51)).alloc (.cells (avs b) 51) := ⟨_, rfl⟩
  have HRA : Hid (RowIs w0 w.heap.size (avs a) 51) := by rw [hw0]; exact (RowIs.new w _ _).past _
  have HRB : Hid (RowIs w0 (w.heap.size + 1) (avs b) 51) := by
    rw [hw0]
    have := RowIs.new (w.alloc (.cells (avs a) 51)) (avs b) 51
    rw [World.size_alloc] at this
    exact this
  have HB0 : Hid (Below w.heap.size w w0) := by
    rw [hw0]
    exact ((Below.refl _ _).alloc (Nat.le_refl _) _).alloc (by simp) _
  have HF := Lib.hid (fit_any w0 (h.on HB0.out))
  have HW := Lib.hid h
  clear h
  go_enter Tryd.func12, Tryd.ntmps12
  go_upto_region 1 with fail
  rw [← hw0]
  clear hw0
  go_wp2_with fail
  refine HF.out.mono ?_
  rintro e w1 ⟨rfl, hb1⟩
  have HB1 : Hid (Below w.heap.size w w1) := HB0.out.trans (hb1.mono HB0.out.size)
  have HA1 := Lib.hid (HRA.out.below hb1 HRA.out.lt)
  have HBB1 := Lib.hid (HRB.out.below hb1 HRB.out.lt)
  clear hb1 HF HRA HRB HB0
  have heq : ∀ w, (binOp .eql 51 (.agg (avs a)) (.agg (avs b))).run Tryd.prog w = .ok (.bool (a == b)) w := fun w => eql_addr a b ha hb w
  obtain ⟨p, hp⟩ : ∃ p : ByteArray, p = ⟨(Pl.print a).toArray⟩ := ⟨_, rfl⟩
  obtain ⟨q, hq⟩ : ∃ p : ByteArray, p = ⟨(Pl.print b).toArray⟩ := ⟨_, rfl⟩
  have hpq : (p.toList == q.toList) = (a == b) := by
    rw [Lib.toList_data, Lib.toList_data, hp, hq]
    by_cases h : a = b
    · subst h; simp
    · have h1 : (a == b) = false := by rw [beq_eq_false_iff_ne]; exact h
      rw [h1, beq_eq_false_iff_ne]
      exact fun e => h (Pl.print_inj ha hb e)
  have cp := fun w h => print_any a ha w h
  have cq := fun w h => print_any b hb w h
  rw [← hp] at cp
  rw [← hq] at cq
  clear hp hq
  go_upto_region 3 with fail
  refine wp_region_inAny (Two a b w.heap.size w) (by kernel_rfl) ⟨HA1.out.drew, HBB1.out.drew, below_drewN HB1.out 1, (HW.out.on HB1.out).on (below_drewN (Below.refl _ _) 1)⟩ ?_
  clear HA1 HBB1 HB1
  refine inAny_take (i := 0) (v := .agg (avs a)) (by simp only [List.getElem?_toArray, List.getElem?_cons_succ, List.getElem?_cons_zero]; rfl) (by kernel_rfl) (by kernel_rfl) (by kernel_rfl) ?_ ?_
  · exact lands_load (by rfl) _ _ rfl _ rfl (avs a) _ (fun w h => ⟨_, h.1⟩) Tryd.underlying51 rfl (load_size a ha)
  simp only [Act.put, List.setIfInBounds_toArray, List.set_cons_zero, List.set_cons_succ]
  refine inAny_take (i := 1) (v := .string p) (by simp only [List.getElem?_toArray, List.getElem?_cons_succ, List.getElem?_cons_zero]; rfl) (by kernel_rfl) (by kernel_rfl) (by kernel_rfl) ?_ ?_
  · exact lands_call (by rfl) (f := 38) (args := #[.agg (avs a)]) (fun w => by go_simp) (two_call cp)
  simp only [Act.put, List.setIfInBounds_toArray, List.set_cons_zero, List.set_cons_succ]
  refine inAny_take (i := 2) (v := .agg (avs b)) (by simp only [List.getElem?_toArray, List.getElem?_cons_succ, List.getElem?_cons_zero]; rfl) (by kernel_rfl) (by kernel_rfl) (by kernel_rfl) ?_ ?_
  · exact lands_load (by rfl) _ _ rfl _ rfl (avs b) _ (fun w h => ⟨_, h.2.1⟩) Tryd.underlying51 rfl (load_size b hb)
  simp only [Act.put, List.setIfInBounds_toArray, List.set_cons_zero, List.set_cons_succ]
  refine inAny_take (i := 3) (v := .string q) (by simp only [List.getElem?_toArray, List.getElem?_cons_succ, List.getElem?_cons_zero]; rfl) (by kernel_rfl) (by kernel_rfl) (by kernel_rfl) ?_ ?_
  · exact lands_call (by rfl) (f := 38) (args := #[.agg (avs b)]) (fun w => by go_simp) (two_call cq)
  simp only [Act.put, List.setIfInBounds_toArray, List.set_cons_zero, List.set_cons_succ]
  refine inAny_take (i := 4) (v := .bool (a == b)) (by simp only [List.getElem?_toArray, List.getElem?_cons_succ, List.getElem?_cons_zero]; rfl) (by kernel_rfl) (by kernel_rfl) (by kernel_rfl) ?_ ?_
  · exact lands_run (by rfl) (fun w _ => by go_simp)
  simp only [Act.put, List.setIfInBounds_toArray, List.set_cons_zero, List.set_cons_succ]
  refine inAny_take (i := 5) (v := .agg (avs a)) (by simp only [List.getElem?_toArray, List.getElem?_cons_succ, List.getElem?_cons_zero]; rfl) (by kernel_rfl) (by kernel_rfl) (by kernel_rfl) ?_ ?_
  · exact lands_load (by rfl) _ _ rfl _ rfl (avs a) _ (fun w h => ⟨_, h.1⟩) Tryd.underlying51 rfl (load_size a ha)
  simp only [Act.put, List.setIfInBounds_toArray, List.set_cons_zero, List.set_cons_succ]
  refine inAny_take (i := 6) (v := .agg (avs b)) (by simp only [List.getElem?_toArray, List.getElem?_cons_succ, List.getElem?_cons_zero]; rfl) (by kernel_rfl) (by kernel_rfl) (by kernel_rfl) ?_ ?_
  · exact lands_load (by rfl) _ _ rfl _ rfl (avs b) _ (fun w h => ⟨_, h.2.1⟩) Tryd.underlying51 rfl (load_size b hb)
  simp only [Act.put, List.setIfInBounds_toArray, List.set_cons_zero, List.set_cons_succ]
  refine inAny_take (i := 7) (v := .bool (a == b)) (by simp only [List.getElem?_toArray, List.getElem?_cons_succ, List.getElem?_cons_zero]; rfl) (by kernel_rfl) (by kernel_rfl) (by kernel_rfl) ?_ ?_
  · exact lands_run (by rfl) (fun w _ => by go_simp)
  simp only [Act.put, List.setIfInBounds_toArray, List.set_cons_zero, List.set_cons_succ]
  refine inAny_take (i := 8) (v := .bool true) (by simp only [List.getElem?_toArray, List.getElem?_cons_succ, List.getElem?_cons_zero]; rfl) (by kernel_rfl) (by kernel_rfl) (by kernel_rfl) ?_ ?_
  · exact lands_run (by rfl) (fun w _ => by go_simp)
  simp only [Act.put, List.setIfInBounds_toArray, List.set_cons_zero, List.set_cons_succ]
  refine inAny_take (i := 9) (v := .bool true) (by simp only [List.getElem?_toArray, List.getElem?_cons_succ, List.getElem?_cons_zero]; rfl) (by kernel_rfl) (by kernel_rfl) (by kernel_rfl) ?_ ?_
  · exact lands_run (by rfl) (fun w _ => by go_simp)
  simp only [Act.put, List.setIfInBounds_toArray, List.set_cons_zero, List.set_cons_succ]
  refine inAny_done (by kernel_rfl) (fun w2 hS2 => ?_) _
  have HB2 := Lib.hid hS2.2.2.1
  clear hS2
  go_wp2
  go_ret
  exact ⟨rfl, HB2.out⟩
end Go.Proofs.YtgdfmhdgmjogiaaDoor
