/- The law AddrBits, walked: what it answers is true. -/
import Derived.Test.YtgdfmhdgmjogiabDoorFit
import Derived.Test.YtgdfmhdgmjogiabDoorUltra
import Derived.Test.YtgdfmhdgmjogiabDoorArr
import Derived.Test.YtgdfmhdgmjogiabDoorDraw
namespace Go.Proofs.YtgdfmhdgmjogiabDoor
open Go.RowKit
set_option linter.unusedVariables false
set_option linter.unusedSimpArgs false

/-- What a statement that reads three arrays and calls keeps. -/
def Three (a b c : List UInt8) (n : Nat) (w0 w : World) : Prop := RowIs w n (avs a) 23 ∧ RowIs w (n + 1) (avs b) 23 ∧ RowIs w (n + 2) (avs c) 23 ∧ Below n w0 w
theorem three_keep {a b c : List UInt8} {n : Nat} {w0 w w' : World} (h : Three a b c n w0 w) (hb : Below w.heap.size w w') : Three a b c n w0 w' := by
  obtain ⟨h1, h2, h3, h4⟩ := h
  exact ⟨h1.below hb h1.lt, h2.below hb h2.lt, h3.below hb h3.lt, h4.trans (hb.mono (by have := h1.lt; omega))⟩
theorem three_call {a b c : List UInt8} {n : Nat} {w0 : World} {f : FuncId} {args : Array Value} {v : Value} (h : ∀ w, Calls Tryd.prog f args w fun e w' => e = .returned v ∧ Below w.heap.size w w') :
    ∀ w, Three a b c n w0 w → Calls Tryd.prog f args w fun e w' => e = .returned v ∧ Three a b c n w0 w' := fun w hS => (h w).mono fun e w' ⟨he, hb⟩ => ⟨he, three_keep hS hb⟩

set_option maxHeartbeats 8000000 in
set_option maxRecDepth 100000 in
theorem lawBits (a : List UInt8) (ha : a.length = 16) (b : List UInt8) (hb : b.length = 16) (c : List UInt8) (hc : c.length = 16) (w : World) (h : WdA w) :
    Calls Tryd.prog 3 #[.agg (avs a), .agg (avs b), .agg (avs c)] w fun e w' => e = .returned (.bool true) ∧ Below w.heap.size w w' := by
  obtain ⟨w0, hw0⟩ : ∃ w0, w0 = ((w.alloc (.cells (avs a) 23)).alloc (.cells (avs b) 23)).alloc (.cells (avs c) 23) := ⟨_, rfl⟩
  have HRA : Hid (RowIs w0 w.heap.size (avs a) 23) := by rw [hw0]; exact ((RowIs.new w _ _).past _).past _
  have HRB : Hid (RowIs w0 (w.heap.size + 1) (avs b) 23) := by
    rw [hw0]
    have := RowIs.new (w.alloc (.cells (avs a) 23)) (avs b) 23
    rw [World.size_alloc] at this
    exact this.past _
  have HRC : Hid (RowIs w0 (w.heap.size + 2) (avs c) 23) := by
    rw [hw0]
    have := RowIs.new ((w.alloc (.cells (avs a) 23)).alloc (.cells (avs b) 23)) (avs c) 23
    rw [World.size_alloc, World.size_alloc] at this
    exact this
  have HB0 : Hid (Below w.heap.size w w0) := by
    rw [hw0]
    exact (((Below.refl _ _).alloc (Nat.le_refl _) _).alloc (by simp) _).alloc (by simp; omega) _
  have HF := Lib.hid (fit_any w0 (h.on HB0.out))
  have HW := Lib.hid h
  clear h
  go_enter Tryd.func3, Tryd.ntmps3
  go_upto_region 1 with fail
  rw [← hw0]
  clear hw0
  go_wp2_with fail
  refine HF.out.mono ?_
  rintro e w1 ⟨rfl, hb1⟩
  have HB1 : Hid (Below w.heap.size w w1) := HB0.out.trans (hb1.mono HB0.out.size)
  have HA1 := Lib.hid (HRA.out.below hb1 HRA.out.lt)
  have HBB1 := Lib.hid (HRB.out.below hb1 HRB.out.lt)
  have HC1 := Lib.hid (HRC.out.below hb1 HRC.out.lt)
  clear hb1 HF HRA HRB HRC HB0
  go_upto_region 3 with fail
  refine wp_region_inAny (Three a b c w.heap.size w) (by kernel_rfl) ⟨HA1.out.drew, HBB1.out.drew, HC1.out.drew, below_drewN HB1.out 1⟩ ?_
  clear HA1 HBB1 HC1 HB1
  refine inAny_take (i := 0) (v := .agg (avs a)) (by simp only [List.getElem?_toArray, List.getElem?_cons_succ, List.getElem?_cons_zero]; rfl) (by kernel_rfl) (by kernel_rfl) (by kernel_rfl) ?_ ?_
  · exact lands_load (by rfl) _ _ rfl _ rfl (avs a) _ (fun w h => ⟨_, h.1⟩) Tryd.underlying23 rfl (load_size a ha)
  simp only [Act.put, List.setIfInBounds_toArray, List.set_cons_zero, List.set_cons_succ]
  refine inAny_take (i := 1) (v := .agg (avs b)) (by simp only [List.getElem?_toArray, List.getElem?_cons_succ, List.getElem?_cons_zero]; rfl) (by kernel_rfl) (by kernel_rfl) (by kernel_rfl) ?_ ?_
  · exact lands_load (by rfl) _ _ rfl _ rfl (avs b) _ (fun w h => ⟨_, h.2.1⟩) Tryd.underlying23 rfl (load_size b hb)
  simp only [Act.put, List.setIfInBounds_toArray, List.set_cons_zero, List.set_cons_succ]
  refine inAny_take (i := 2) (v := .int .i64 (sharedN a b)) (by simp only [List.getElem?_toArray, List.getElem?_cons_succ, List.getElem?_cons_zero]; rfl) (by kernel_rfl) (by kernel_rfl) (by kernel_rfl) ?_ ?_
  · exact lands_call (by rfl) (f := 7) (args := #[.agg (avs a), .agg (avs b)]) (fun w => by go_simp) (three_call (fun w => shared_any a b ha hb w))
  simp only [Act.put, List.setIfInBounds_toArray, List.set_cons_zero, List.set_cons_succ]
  refine inAny_take (i := 3) (v := .agg (avs b)) (by simp only [List.getElem?_toArray, List.getElem?_cons_succ, List.getElem?_cons_zero]; rfl) (by kernel_rfl) (by kernel_rfl) (by kernel_rfl) ?_ ?_
  · exact lands_load (by rfl) _ _ rfl _ rfl (avs b) _ (fun w h => ⟨_, h.2.1⟩) Tryd.underlying23 rfl (load_size b hb)
  simp only [Act.put, List.setIfInBounds_toArray, List.set_cons_zero, List.set_cons_succ]
  refine inAny_take (i := 4) (v := .agg (avs c)) (by simp only [List.getElem?_toArray, List.getElem?_cons_succ, List.getElem?_cons_zero]; rfl) (by kernel_rfl) (by kernel_rfl) (by kernel_rfl) ?_ ?_
  · exact lands_load (by rfl) _ _ rfl _ rfl (avs c) _ (fun w h => ⟨_, h.2.2.1⟩) Tryd.underlying23 rfl (load_size c hc)
  simp only [Act.put, List.setIfInBounds_toArray, List.set_cons_zero, List.set_cons_succ]
  refine inAny_take (i := 5) (v := .int .i64 (sharedN b c)) (by simp only [List.getElem?_toArray, List.getElem?_cons_succ, List.getElem?_cons_zero]; rfl) (by kernel_rfl) (by kernel_rfl) (by kernel_rfl) ?_ ?_
  · exact lands_call (by rfl) (f := 7) (args := #[.agg (avs b), .agg (avs c)]) (fun w => by go_simp) (three_call (fun w => shared_any b c hb hc w))
  simp only [Act.put, List.setIfInBounds_toArray, List.set_cons_zero, List.set_cons_succ]
  refine inAny_take (i := 6) (v := .agg (avs a)) (by simp only [List.getElem?_toArray, List.getElem?_cons_succ, List.getElem?_cons_zero]; rfl) (by kernel_rfl) (by kernel_rfl) (by kernel_rfl) ?_ ?_
  · exact lands_load (by rfl) _ _ rfl _ rfl (avs a) _ (fun w h => ⟨_, h.1⟩) Tryd.underlying23 rfl (load_size a ha)
  simp only [Act.put, List.setIfInBounds_toArray, List.set_cons_zero, List.set_cons_succ]
  refine inAny_take (i := 7) (v := .agg (avs c)) (by simp only [List.getElem?_toArray, List.getElem?_cons_succ, List.getElem?_cons_zero]; rfl) (by kernel_rfl) (by kernel_rfl) (by kernel_rfl) ?_ ?_
  · exact lands_load (by rfl) _ _ rfl _ rfl (avs c) _ (fun w h => ⟨_, h.2.2.1⟩) Tryd.underlying23 rfl (load_size c hc)
  simp only [Act.put, List.setIfInBounds_toArray, List.set_cons_zero, List.set_cons_succ]
  refine inAny_take (i := 8) (v := .int .i64 (sharedN a c)) (by simp only [List.getElem?_toArray, List.getElem?_cons_succ, List.getElem?_cons_zero]; rfl) (by kernel_rfl) (by kernel_rfl) (by kernel_rfl) ?_ ?_
  · exact lands_call (by rfl) (f := 7) (args := #[.agg (avs a), .agg (avs c)]) (fun w => by go_simp) (three_call (fun w => shared_any a c ha hc w))
  simp only [Act.put, List.setIfInBounds_toArray, List.set_cons_zero, List.set_cons_succ]
  refine inAny_take (i := 9) (v := .int .i64 (sharedN a b)) (by simp only [List.getElem?_toArray, List.getElem?_cons_succ, List.getElem?_cons_zero]; rfl) (by kernel_rfl) (by kernel_rfl) (by kernel_rfl) ?_ ?_
  · exact lands_run (by rfl) (fun w _ => by go_simp)
  simp only [Act.put, List.setIfInBounds_toArray, List.set_cons_zero, List.set_cons_succ]
  refine inAny_take (i := 10) (v := .int .i64 (sharedN b c)) (by simp only [List.getElem?_toArray, List.getElem?_cons_succ, List.getElem?_cons_zero]; rfl) (by kernel_rfl) (by kernel_rfl) (by kernel_rfl) ?_ ?_
  · exact lands_run (by rfl) (fun w _ => by go_simp)
  simp only [Act.put, List.setIfInBounds_toArray, List.set_cons_zero, List.set_cons_succ]
  refine inAny_take (i := 11) (v := .int .i64 (sharedN a c)) (by simp only [List.getElem?_toArray, List.getElem?_cons_succ, List.getElem?_cons_zero]; rfl) (by kernel_rfl) (by kernel_rfl) (by kernel_rfl) ?_ ?_
  · exact lands_run (by rfl) (fun w _ => by go_simp)
  simp only [Act.put, List.setIfInBounds_toArray, List.set_cons_zero, List.set_cons_succ]
  refine inAny_done (by kernel_rfl) (fun w2 hS2 => ?_) _
  have HS2 := Lib.hid hS2
  clear hS2
  have hu1 := ultra a b c
  have hu2 := ultra a c b
  have hu3 := ultra b a c
  rw [shared_comm c b] at hu2
  rw [shared_comm b a] at hu3
  have HE := Lib.hid (shared_eq (a := a) (b := b) ha hb)
  have hx := shared_le a b
  have hy := shared_le b c
  have hz := shared_le a c
  have heq : ∀ w, (binOp .eql 23 (.agg (avs a)) (.agg (avs b))).run Tryd.prog w = .ok (.bool (a == b)) w := fun w => eql_addr a b ha hb w
  have hab : (a == b) = decide (sharedN a b = 128) := by
    by_cases h : sharedN a b = 128
    · rw [decide_eq_true h, beq_iff_eq]; exact HE.out.1 h
    · rw [decide_eq_false h, beq_eq_false_iff_ne]; exact fun e => h (HE.out.2 e)
  rw [hab] at heq
  clear hab
  clear HE
  generalize sharedN a b = x at hu1 hu2 hu3 hx heq ⊢
  generalize sharedN b c = y at hu1 hu2 hu3 hy ⊢
  generalize sharedN a c = z at hu1 hu2 hu3 hz ⊢
  have HU := Lib.hid hu1
  have HU2 := Lib.hid hu2
  have HU3 := Lib.hid hu3
  clear hu1 hu2 hu3
  go_upto_region 5 with fail
  have hm : (if (z : Int) < (if y < x then (y : Int) else (x : Int)) then (z : Int) else if y < x then (y : Int) else (x : Int)) = ((if z < (if y < x then y else x) then z else if y < x then y else x : Nat) : Int) := by
    by_cases h1 : y < x <;> by_cases h2 : z < y <;> by_cases h3 : z < x <;> simp [h1, h2, h3]
  rw [hm]
  clear hm
  obtain ⟨m, hmm⟩ : ∃ m, m = (if z < (if y < x then y else x) then z else if y < x then y else x : Nat) := ⟨_, rfl⟩
  rw [← hmm]
  have hcount : 2 ≤ [x, y, z].count m := by
    have h1 := HU.out
    have h2 := HU2.out
    have h3 := HU3.out
    have hmin : m = min (min x y) z := by
      rw [hmm]
      by_cases h1 : y < x
      · simp only [h1, if_true]; split <;> omega
      · simp only [h1, if_false]; split <;> omega
    clear hmm
    simp only [List.count_cons, List.count_nil, beq_iff_eq]
    split <;> split <;> split <;> omega
  have HCT := Lib.hid hcount
  clear HU HU2 HU3 hmm hcount
  go_wp2_with fail
  go_loopw [11, 13, 33] (fun s11 _ s33 wr => ∃ i : Nat, i ≤ 3 ∧ s33 = .int .i64 i ∧ s11 = .int .i64 (([x, y, z].take i).count m : Nat) ∧ wr = w2) (fun _ _ s33 _ => 3 - (intOf s33).toNat)
  case atStart => exact ⟨0, by omega, rfl, rfl, rfl⟩
  case round =>
    obtain ⟨i, hi, rfl, rfl, rfl⟩ := hrel
    have hi4 : i = 0 ∨ i = 1 ∨ i = 2 ∨ i = 3 := by omega
    rcases hi4 with rfl | rfl | rfl | rfl
    · rw [show ((0 : Nat) : Int) = 0 from rfl]
      have hix : ∀ w, (Instr.index 26 (.agg #[.int .i64 (x : Int), .int .i64 (y : Int), .int .i64 (z : Int)]) (.int .i64 0)).run Tryd.prog w = .ok (.int .i64 (x : Int)) w := fun w => by kernel_rfl
      by_cases h : x = m
      · have hb1 : ((x : Int) == (m : Int)) = true := by rw [h]; simp
        have Hh := Lib.hid h
        clear h
        go_wp2
        refine ⟨?rel, ?measure⟩
        case rel => exact ⟨1, by omega, rfl, by simp [List.take, List.count_cons, Hh.out], by first | rfl | trivial⟩
        case measure => simp [intOf]
      · have hb1 : ((x : Int) == (m : Int)) = false := by rw [beq_eq_false_iff_ne]; omega
        have Hh := Lib.hid h
        clear h
        go_wp2
        refine ⟨?rel, ?measure⟩
        case rel => exact ⟨1, by omega, rfl, by simp [List.take, List.count_cons, Hh.out], by first | rfl | trivial⟩
        case measure => simp [intOf]
    · rw [show ((1 : Nat) : Int) = 1 from rfl]
      have hix : ∀ w, (Instr.index 26 (.agg #[.int .i64 (x : Int), .int .i64 (y : Int), .int .i64 (z : Int)]) (.int .i64 1)).run Tryd.prog w = .ok (.int .i64 (y : Int)) w := fun w => by kernel_rfl
      by_cases h : y = m
      · have hb1 : ((y : Int) == (m : Int)) = true := by rw [h]; simp
        have Hh := Lib.hid h
        clear h
        go_wp2
        refine ⟨?rel, ?measure⟩
        case rel => exact ⟨2, by omega, rfl, by simp [List.take, List.count_cons, Hh.out] <;> (repeat' split) <;> decide +kernel, by first | rfl | trivial⟩
        case measure => simp [intOf]
      · have hb1 : ((y : Int) == (m : Int)) = false := by rw [beq_eq_false_iff_ne]; omega
        have Hh := Lib.hid h
        clear h
        go_wp2
        refine ⟨?rel, ?measure⟩
        case rel => exact ⟨2, by omega, rfl, by simp [List.take, List.count_cons, Hh.out] <;> (repeat' split) <;> decide +kernel, by first | rfl | trivial⟩
        case measure => simp [intOf]
    · rw [show ((2 : Nat) : Int) = 2 from rfl]
      have hix : ∀ w, (Instr.index 26 (.agg #[.int .i64 (x : Int), .int .i64 (y : Int), .int .i64 (z : Int)]) (.int .i64 2)).run Tryd.prog w = .ok (.int .i64 (z : Int)) w := fun w => by kernel_rfl
      by_cases h : z = m
      · have hb1 : ((z : Int) == (m : Int)) = true := by rw [h]; simp
        have Hh := Lib.hid h
        clear h
        go_wp2
        refine ⟨?rel, ?measure⟩
        case rel => exact ⟨3, by omega, rfl, by simp [List.take, List.count_cons, Hh.out] <;> (repeat' split) <;> decide +kernel, by first | rfl | trivial⟩
        case measure => simp [intOf]
      · have hb1 : ((z : Int) == (m : Int)) = false := by rw [beq_eq_false_iff_ne]; omega
        have Hh := Lib.hid h
        clear h
        go_wp2
        refine ⟨?rel, ?measure⟩
        case rel => exact ⟨3, by omega, rfl, by simp [List.take, List.count_cons, Hh.out] <;> (repeat' split) <;> decide +kernel, by first | rfl | trivial⟩
        case measure => simp [intOf]
    · have HS := HS2
      have hc2 : [x, y, z].take 3 = [x, y, z] := rfl
      rw [show ((3 : Nat) : Int) = 3 from rfl, hc2]
      obtain ⟨n, hn⟩ : ∃ n, n = [x, y, z].count m := ⟨_, rfl⟩
      rw [← hn] at HCT ⊢
      clear hn hc2 hi
      have g1 : decide ((n : Int) ≥ 2) = true := decide_eq_true (by have := HCT.out; omega)
      have g2 : decide ((x : Int) ≥ 0) = true := decide_eq_true (by omega)
      have g3 : decide ((x : Int) ≤ 128) = true := decide_eq_true (by omega)
      have g4 : ((x : Int) == 128) = decide (x = 128) := by
        by_cases h : x = 128
        · subst h; rfl
        · rw [decide_eq_false h, beq_eq_false_iff_ne]; omega
      obtain ⟨t, ht⟩ : ∃ t, t = decide (x = 128) := ⟨_, rfl⟩
      rw [← ht] at g4 heq
      clear ht
      have hra := HS.out.1
      have hrb := HS.out.2.1
      have HLA := Lib.hid (load_size a ha)
      have HLB := Lib.hid (load_size b hb)
      go_wp2_with (first | (refine wpList_load_rowG (by rfl) 23 (.tmp 3) rfl w.heap.size rfl 23 (avs a) (0, 0) _ hra Tryd.underlying23 rfl HLA.out ?_) | (refine wpList_load_rowG (by rfl) 23 (.tmp 4) rfl (w.heap.size + 1) rfl 23 (avs b) (0, 0) _ hrb Tryd.underlying23 rfl HLB.out ?_))
      go_ret
      exact ⟨rfl, HS.out.2.2.2⟩
end Go.Proofs.YtgdfmhdgmjogiabDoor
