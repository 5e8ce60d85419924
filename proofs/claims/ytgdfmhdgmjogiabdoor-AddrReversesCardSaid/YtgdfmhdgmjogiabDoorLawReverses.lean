/- The law AddrReverses, walked: what it answers is true. -/
import Derived.Test.YtgdfmhdgmjogiabDoorFit
import Derived.Test.YtgdfmhdgmjogiabDoorReverse
import Derived.Test.YtgdfmhdgmjogiabDoorDraw
import Derived.Lib.ConvBytes
import Derived.Laws.IdiomStrings
namespace Go.Proofs.YtgdfmhdgmjogiabDoor
open Go.RowKit Go.Proofs.YtgdfmhdgmjogiabDoorW.PrintWords Go.Proofs.YtgdfmhdgmjogiabDoorW.PrintLast Go.Proofs.YtgdfmhdgmjogiabDoorW.PrintMore
set_option linter.unusedVariables false
set_option linter.unusedSimpArgs false

def Two (a b : List UInt8) (n : Nat) (w0 w : World) : Prop := RowIs w n (avs a) 23 ∧ RowIs w (n + 1) (avs b) 23 ∧ Below n w0 w ∧ WdA w
theorem two_keep {a b : List UInt8} {n : Nat} {w0 w w' : World} (h : Two a b n w0 w) (hb : Below w.heap.size w w') : Two a b n w0 w' := by
  obtain ⟨h1, h2, h4, h5⟩ := h
  exact ⟨h1.below hb h1.lt, h2.below hb h2.lt, h4.trans (hb.mono (by have := h1.lt; omega)), h5.on hb⟩
theorem two_call {a b : List UInt8} {n : Nat} {w0 : World} {f : FuncId} {args : Array Value} {v : Value} (h : ∀ w, WdA w → Calls Tryd.prog f args w fun e w' => e = .returned v ∧ Below w.heap.size w w') :
    ∀ w, Two a b n w0 w → Calls Tryd.prog f args w fun e w' => e = .returned v ∧ Two a b n w0 w' := fun w hS => (h w hS.2.2.2).mono fun e w' ⟨he, hb⟩ => ⟨he, two_keep hS hb⟩

/-- What the later statements keep: the address, the labels' row, the library's variables. -/
def RvS (a : List UInt8) (n g : Nat) (xs : List ByteArray) (w0 w : World) : Prop :=
  RowIs w n (avs a) 23 ∧ (∀ i, i < xs.length → w.cell? ⟨g, i, none⟩ = some (.string (xs.getD i ⟨#[]⟩))) ∧ WdA w ∧ Below n w0 w ∧ g < w.heap.size
theorem RvS.keep {a : List UInt8} {n g : Nat} {xs : List ByteArray} {w0 w w' : World} (h : RvS a n g xs w0 w) (hb : Below w.heap.size w w') : RvS a n g xs w0 w' := by
  obtain ⟨h1, h2, h3, h4, h5⟩ := h
  refine ⟨h1.below hb h1.lt, fun i hi => ?_, h3.on hb, h4.trans (hb.mono (by have := h1.lt; omega)), Nat.lt_of_lt_of_le h5 hb.size⟩
  rw [hb.cell (p := ⟨g, i, none⟩) h5]
  exact h2 i hi
theorem run_load_row {P : Program} {o : Oper} {a : Act} (ty : TypeId) (x : Operand) (ho : o.op = .load ty x) (b : Nat) (hx : a.eval x = .pointer (some ⟨b, 0, none⟩)) (cs : Array Value) (d : TypeDesc) (w : World) (t : TypeId)
    (hg : w.heap[b]? = some (.cells cs t (0, 0))) (hu : P.underlying ty = some d) (hd : (match d with | .struct _ | .array _ _ => true | _ => false) = true) (hi : (P.info? ty).map (·.size) = some cs.size) :
    (execOp a.eval o).run P w = .ok (.value (.agg cs)) w := by
  unfold execOp
  simp only [ho, hx, Instr.loadAt, Instr.sureAddr, Sem.run_bind, Sem.run_pure, Result.andThen_ok, run_loadVar_row w b t ty cs (0, 0) d hg hu hd hi]
theorem bas_of {xs : List ByteArray} {l : List (List UInt8)} (h : xs.map (·.data.toList) = l) : xs = bas l := by
  subst h
  unfold bas
  rw [List.map_map]
  have : ((fun x : List UInt8 => (⟨x.toArray⟩ : ByteArray)) ∘ fun x : ByteArray => x.data.toList) = id := by funext x; simp
  rw [this, List.map_id]

set_option maxHeartbeats 16000000 in
set_option maxRecDepth 100000 in
theorem lawReverses4 (a : List UInt8) (ha : a.length = 16) (b : List UInt8) (hb : b.length = 16) (h4 : Pl.is4 a = true) (w : World) (h : WdA w) :
    Calls Tryd.prog 5 #[.agg (avs a), .agg (avs b)] w fun e w' => e = .returned (.bool true) ∧ Below w.heap.size w w' := by
  obtain ⟨w0, hw0⟩ : ∃ w0, w0 = (w.alloc (.cells (avs a) 23)).alloc (.cells (avs b) 23) := ⟨_, rfl⟩
  have HRA : Hid (RowIs w0 w.heap.size (avs a) 23) := by rw [hw0]; exact (RowIs.new w _ _).past _
  have HRB : Hid (RowIs w0 (w.heap.size + 1) (avs b) 23) := by
    rw [hw0]
    have := RowIs.new (w.alloc (.cells (avs a) 23)) (avs b) 23
    rw [World.size_alloc] at this
    exact this
  have HB0 : Hid (Below w.heap.size w w0) := by
    rw [hw0]
    exact ((Below.refl _ _).alloc (Nat.le_refl _) _).alloc (by simp) _
  have HF := Lib.hid (fit_any w0 (h.on HB0.out))
  have HW := Lib.hid h
  clear h
  go_enter Tryd.func5, Tryd.ntmps5
  go_upto_region 1 with fail
  rw [← hw0]
  clear hw0
  go_wp2_with fail
  refine HF.out.mono ?_
  rintro e w1 ⟨rfl, hb1⟩
  have HB1 : Hid (Below w.heap.size w w1) := HB0.out.trans (hb1.mono HB0.out.size)
  have HA1 := Lib.hid (HRA.out.below hb1 HRA.out.lt)
  have HBB1 := Lib.hid (HRB.out.below hb1 HRB.out.lt)
  clear hb1 HF HRA HRB HB0
  have heq : ∀ w, (binOp .eql 23 (.agg (avs a)) (.agg (avs b))).run Tryd.prog w = .ok (.bool (a == b)) w := fun w => eql_addr a b ha hb w
  obtain ⟨p, hp⟩ : ∃ p : ByteArray, p = ⟨(Pl.reverse a).toArray⟩ := ⟨_, rfl⟩
  obtain ⟨q, hq⟩ : ∃ p : ByteArray, p = ⟨(Pl.reverse b).toArray⟩ := ⟨_, rfl⟩
  have hpq : (p.toList == q.toList) = (a == b) := by
    rw [Lib.toList_data, Lib.toList_data, hp, hq]
    by_cases h : a = b
    · subst h; simp
    · have h1 : (a == b) = false := by rw [beq_eq_false_iff_ne]; exact h
      rw [h1, beq_eq_false_iff_ne]
      exact fun e => h (Pl.reverse_inj ha hb e)
  have HPD : Hid (Pl.splitc 46 p.data.toList = Pl.revL a) := by show _ = _; rw [hp]; exact Pl.split_reverse a
  have hps : p.size < 4294967281 := by rw [Lib.size_eq, hp]; show (Pl.reverse a).length < _; have := Pl.reverse_len a; omega
  have cp := fun w h => reverse_any a ha w h
  have cq := fun w h => reverse_any b hb w h
  rw [← hp] at cp
  rw [← hq] at cq
  clear hp hq
  go_upto_region 3 with fail
  refine wp_region_inAny (Two a b w.heap.size w) (by kernel_rfl) ⟨HA1.out.drew, HBB1.out.drew, below_drewN HB1.out 1, (HW.out.on HB1.out).on (below_drewN (Below.refl _ _) 1)⟩ ?_
  clear HA1 HBB1 HB1
  refine inAny_take (i := 0) (v := .agg (avs a)) (by simp only [List.getElem?_toArray, List.getElem?_cons_succ, List.getElem?_cons_zero]; rfl) (by kernel_rfl) (by kernel_rfl) (by kernel_rfl) ?_ ?_
  · exact lands_load (by rfl) _ _ rfl _ rfl (avs a) _ (fun w h => ⟨_, h.1⟩) Tryd.underlying23 rfl (load_size a ha)
  simp only [Act.put, List.setIfInBounds_toArray, List.set_cons_zero, List.set_cons_succ]
  refine inAny_take (i := 1) (v := .string p) (by simp only [List.getElem?_toArray, List.getElem?_cons_succ, List.getElem?_cons_zero]; rfl) (by kernel_rfl) (by kernel_rfl) (by kernel_rfl) ?_ ?_
  · exact lands_call (by rfl) (f := 18) (args := #[.agg (avs a)]) (fun w => by go_simp) (two_call cp)
  simp only [Act.put, List.setIfInBounds_toArray, List.set_cons_zero, List.set_cons_succ]
  refine inAny_take (i := 2) (v := .agg (avs b)) (by simp only [List.getElem?_toArray, List.getElem?_cons_succ, List.getElem?_cons_zero]; rfl) (by kernel_rfl) (by kernel_rfl) (by kernel_rfl) ?_ ?_
  · exact lands_load (by rfl) _ _ rfl _ rfl (avs b) _ (fun w h => ⟨_, h.2.1⟩) Tryd.underlying23 rfl (load_size b hb)
  simp only [Act.put, List.setIfInBounds_toArray, List.set_cons_zero, List.set_cons_succ]
  refine inAny_take (i := 3) (v := .string q) (by simp only [List.getElem?_toArray, List.getElem?_cons_succ, List.getElem?_cons_zero]; rfl) (by kernel_rfl) (by kernel_rfl) (by kernel_rfl) ?_ ?_
  · exact lands_call (by rfl) (f := 18) (args := #[.agg (avs b)]) (fun w => by go_simp) (two_call cq)
  simp only [Act.put, List.setIfInBounds_toArray, List.set_cons_zero, List.set_cons_succ]
  refine inAny_take (i := 4) (v := .string p) (by simp only [List.getElem?_toArray, List.getElem?_cons_succ, List.getElem?_cons_zero]; rfl) (by kernel_rfl) (by kernel_rfl) (by kernel_rfl) ?_ ?_
  · exact lands_run (by rfl) (fun w _ => by go_simp)
  simp only [Act.put, List.setIfInBounds_toArray, List.set_cons_zero, List.set_cons_succ]
  refine inAny_take (i := 5) (v := .string q) (by simp only [List.getElem?_toArray, List.getElem?_cons_succ, List.getElem?_cons_zero]; rfl) (by kernel_rfl) (by kernel_rfl) (by kernel_rfl) ?_ ?_
  · exact lands_run (by rfl) (fun w _ => by go_simp)
  simp only [Act.put, List.setIfInBounds_toArray, List.set_cons_zero, List.set_cons_succ]
  refine inAny_done (by kernel_rfl) (fun w2 hS2 => ?_) _
  have HS2 := Lib.hid hS2
  clear hS2 cp cq
  have HSP := Lib.hid (label_split p hps w2)
  clear hps
  have HA := Lib.hid ha
  have HBL := Lib.hid hb
  clear ha hb
  go_wp2_with fail
  refine HSP.out.mono ?_
  rintro e w3 ⟨v, xs, rfl, HR, hxs, hb⟩
  have HS3 := Lib.hid (two_keep HS2.out hb)
  clear hb HSP HS2
  rw [HPD.out] at hxs
  have hxs := bas_of hxs
  clear HPD
  have hl : Pl.revL a = [Lib.decDigits (a.getD 15 0).toNat, Lib.decDigits (a.getD 14 0).toNat, Lib.decDigits (a.getD 13 0).toNat, Lib.decDigits (a.getD 12 0).toNat, Pl.sInAddr, Pl.sArpa] := by
    unfold Pl.revL
    rw [if_pos h4]
    rfl
  have hpr := Pl.rev4_print a HA.out h4
  have hr4 : (Pl.rev4 a 4).reverse = [Lib.decDigits (a.getD 12 0).toNat, Lib.decDigits (a.getD 13 0).toNat, Lib.decDigits (a.getD 14 0).toNat, Lib.decDigits (a.getD 15 0).toNat] := rfl
  rw [hr4] at hpr
  clear hr4
  rw [hl] at hxs
  clear hl
  obtain ⟨x0, hx0⟩ : ∃ x : ByteArray, x = ⟨(Lib.decDigits (a.getD 15 0).toNat).toArray⟩ := ⟨_, rfl⟩
  obtain ⟨x1, hx1⟩ : ∃ x : ByteArray, x = ⟨(Lib.decDigits (a.getD 14 0).toNat).toArray⟩ := ⟨_, rfl⟩
  obtain ⟨x2, hx2⟩ : ∃ x : ByteArray, x = ⟨(Lib.decDigits (a.getD 13 0).toNat).toArray⟩ := ⟨_, rfl⟩
  obtain ⟨x3, hx3⟩ : ∃ x : ByteArray, x = ⟨(Lib.decDigits (a.getD 12 0).toNat).toArray⟩ := ⟨_, rfl⟩
  have hxl : xs = [x0, x1, x2, x3, ⟨#[105, 110, 45, 97, 100, 100, 114]⟩, ⟨#[97, 114, 112, 97]⟩] := by rw [hxs, hx0, hx1, hx2, hx3]; rfl
  have HJN : Hid (Lib.join (([x3, x2, x1, x0] : List ByteArray).map (·.data.toList)) [46] = Pl.print a) := by
    show _ = _
    rw [hx0, hx1, hx2, hx3, ← hpr]
    rfl
  clear hx0 hx1 hx2 hx3 hxs hpr
  subst hxl
  obtain ⟨g, cap, rfl, hg1, hg2, hc1, hc2, hcells⟩ := R_shape HR.out (by simp)
  have HV3 : Hid (RvS a w.heap.size g [x0, x1, x2, x3, ⟨#[105, 110, 45, 97, 100, 100, 114]⟩, ⟨#[97, 114, 112, 97]⟩] w w3) := by
    refine ⟨HS3.out.1, fun i hi => ?_, HS3.out.2.2.2, HS3.out.2.2.1, hg2⟩
    have := hcells i (([x0, x1, x2, x3, ⟨#[105, 110, 45, 97, 100, 100, 114]⟩, ⟨#[97, 114, 112, 97]⟩] : List ByteArray).getD i ⟨#[]⟩) (by simp only [List.getD, List.getElem?_eq_getElem hi, Option.getD_some])
    rw [Nat.zero_add] at this
    exact this
  clear hcells HR hg1 hc1 hc2
  have c5 : w3.cell? ⟨g, 5, none⟩ = some (.string ⟨#[97, 114, 112, 97]⟩) := HV3.out.2.1 5 (by simp)
  have HLA := Lib.hid (load_size a HA.out)
  have HLB := Lib.hid (load_size b HBL.out)
  rw [show ([x0, x1, x2, x3, ⟨#[105, 110, 45, 97, 100, 100, 114]⟩, ⟨#[97, 114, 112, 97]⟩] : List ByteArray).length = 6 from rfl]
  obtain ⟨t, ht⟩ : ∃ t, t = (a == b) := ⟨_, rfl⟩
  rw [← ht] at hpq heq
  clear ht
  have H4 := Lib.hid h4
  clear h4
  have HI := Lib.hid (fun w => (is4_any a HA.out w).mono (R' := fun e w' => e = .returned (.bool true) ∧ Below w.heap.size w w') (by rw [H4.out]; exact fun e w' h => h))
  go_wp2_with (first | (refine wpList_load_row rfl 23 (.tmp 2) rfl w.heap.size rfl 23 (avs a) (0, 0) _ HS3.out.1 Tryd.underlying23 rfl HLA.out ?_) | (refine wpList_load_row rfl 23 (.tmp 3) rfl (w.heap.size + 1) rfl 23 (avs b) (0, 0) _ HS3.out.2.1 Tryd.underlying23 rfl HLB.out ?_))
  refine (HI.out w3).mono ?_
  rintro e w4 ⟨rfl, hb⟩
  have HV4 := Lib.hid (HV3.out.keep hb)
  clear hb HI HS3 HV3 c5 heq hpq
  have hprt := fun w h => print_any a HA.out w h
  obtain ⟨r, hr⟩ : ∃ r : ByteArray, r = ⟨(Pl.print a).toArray⟩ := ⟨_, rfl⟩
  have hprl := Pl.print_len a HA.out
  have hjn : ∀ w' : World, Calls Tryd.prog 21 #[.slice (some ⟨w'.heap.size, 0, none⟩) 4 4] (w'.alloc (.cells (([x3, x2, x1, x0] : List ByteArray).map Value.string).toArray 9)) fun e w'' => e = .returned (.string r) ∧ Below (w'.alloc (.cells (([x3, x2, x1, x0] : List ByteArray).map Value.string).toArray 9)).heap.size (w'.alloc (.cells (([x3, x2, x1, x0] : List ByteArray).map Value.string).toArray 9)) w'' := fun w' => by
    have := join_anyC (c := 4) (lit_C w' 9 [x3, x2, x1, x0] (by simp)) (by simp) (by simp) (by rw [HJN.out]; omega)
    rw [HJN.out, ← hr] at this
    exact this
  rw [← hr] at hprt
  clear hr hprl HJN
  have HJ := Lib.hid hjn
  have HPRT := Lib.hid hprt
  clear hjn hprt
  go_upto_region 8 with fail
  refine start_ (n := 29) (S := RvS a w.heap.size g [x0, x1, x2, x3, ⟨#[105, 110, 45, 97, 100, 100, 114]⟩, ⟨#[97, 114, 112, 97]⟩] w) (ds := []) #[false, false, false, false, false, false, false, false, false, false, false, false, false, false, false, false, false, false, false, false, false, false, false, false, false, false, false, false, false] (by kernel_rfl) rfl rfl (HV4.out.keep (below_drewN (Below.refl _ _) 1)) (fun hHeld => ?_)
  apply pure_ (i := 0) (N := some 36) (v := .slice (some ⟨g, 0, none⟩) 6 cap) #[true, false, false, false, false, false, false, false, false, false, false, false, false, false, false, false, false, false, false, false, false, false, false, false, false, false, false, false, false]
  · simp only [List.getElem?_toArray, List.getElem?_cons_succ, List.getElem?_cons_zero]; rfl
  · rfl
  · kernel_rfl
  · exact fun _ _ _ h => h
  · exact Or.inl ⟨by rfl, fun w' => by go_simp⟩
  · rfl
  simp only [Act.put, List.setIfInBounds_toArray, List.set_cons_zero, List.set_cons_succ]
  apply pure_ (i := 1) (N := some 37) (v := .int .i64 6) #[true, true, false, false, false, false, false, false, false, false, false, false, false, false, false, false, false, false, false, false, false, false, false, false, false, false, false, false, false]
  · simp only [List.getElem?_toArray, List.getElem?_cons_succ, List.getElem?_cons_zero]; rfl
  · rfl
  · kernel_rfl
  · exact fun _ _ _ h => h
  · exact Or.inl ⟨by rfl, fun w' => by go_simp⟩
  · rfl
  simp only [Act.put, List.setIfInBounds_toArray, List.set_cons_zero, List.set_cons_succ]
  apply pure_ (i := 2) (N := some 38) (v := .bool true) #[true, true, true, false, false, false, false, false, false, false, false, false, false, false, false, false, false, false, false, false, false, false, false, false, false, false, false, false, false]
  · simp only [List.getElem?_toArray, List.getElem?_cons_succ, List.getElem?_cons_zero]; rfl
  · rfl
  · kernel_rfl
  · exact fun _ _ _ h => h
  · exact Or.inl ⟨by rfl, fun w' => by go_simp⟩
  · rfl
  simp only [Act.put, List.setIfInBounds_toArray, List.set_cons_zero, List.set_cons_succ]
  apply pure_ (i := 3) (N := some 39) (v := .bool true) #[true, true, true, true, false, false, false, false, false, false, false, false, false, false, false, false, false, false, false, false, false, false, false, false, false, false, false, false, false]
  · simp only [List.getElem?_toArray, List.getElem?_cons_succ, List.getElem?_cons_zero]; rfl
  · rfl
  · kernel_rfl
  · exact fun _ _ _ h => h
  · exact Or.inl ⟨by rfl, fun w' => by go_simp⟩
  · rfl
  simp only [Act.put, List.setIfInBounds_toArray, List.set_cons_zero, List.set_cons_succ]
  apply pure_ (i := 4) (N := some 40) (v := .slice (some ⟨g, 0, none⟩) 6 cap) #[true, true, true, true, true, false, false, false, false, false, false, false, false, false, false, false, false, false, false, false, false, false, false, false, false, false, false, false, false]
  · simp only [List.getElem?_toArray, List.getElem?_cons_succ, List.getElem?_cons_zero]; rfl
  · rfl
  · kernel_rfl
  · exact fun _ _ _ h => h
  · exact Or.inl ⟨by rfl, fun w' => by go_simp⟩
  · rfl
  simp only [Act.put, List.setIfInBounds_toArray, List.set_cons_zero, List.set_cons_succ]
  apply pure_ (i := 5) (N := some 41) (v := .pointer (some ⟨g, 4, none⟩)) #[true, true, true, true, true, true, false, false, false, false, false, false, false, false, false, false, false, false, false, false, false, false, false, false, false, false, false, false, false]
  · simp only [List.getElem?_toArray, List.getElem?_cons_succ, List.getElem?_cons_zero]; rfl
  · rfl
  · kernel_rfl
  · exact fun _ _ _ h => h
  · exact Or.inl ⟨by rfl, fun w' => by go_simp⟩
  · rfl
  simp only [Act.put, List.setIfInBounds_toArray, List.set_cons_zero, List.set_cons_succ]
  apply take_ (i := 6) (N := some 42) (v := .string ⟨#[105, 110, 45, 97, 100, 100, 114]⟩) #[true, true, true, true, true, true, true, false, false, false, false, false, false, false, false, false, false, false, false, false, false, false, false, false, false, false, false, false, false]
  · simp only [List.getElem?_toArray, List.getElem?_cons_succ, List.getElem?_cons_zero]; rfl
  · rfl
  · kernel_rfl
  · exact fun _ _ _ h => h
  · exact Or.inl ⟨by rfl, fun w' hS => by have c := hS.2.1 4 (by simp); go_simp⟩
  · exact hHeld
  · rfl
  simp only [Act.put, List.setIfInBounds_toArray, List.set_cons_zero, List.set_cons_succ]
  apply pure_ (i := 7) (N := some 43) (v := .bool true) #[true, true, true, true, true, true, true, true, false, false, false, false, false, false, false, false, false, false, false, false, false, false, false, false, false, false, false, false, false]
  · simp only [List.getElem?_toArray, List.getElem?_cons_succ, List.getElem?_cons_zero]; rfl
  · rfl
  · kernel_rfl
  · exact fun _ _ _ h => h
  · exact Or.inl ⟨by rfl, fun w' => by go_simp⟩
  · rfl
  simp only [Act.put, List.setIfInBounds_toArray, List.set_cons_zero, List.set_cons_succ]
  apply pure_ (i := 8) (N := some 44) (v := .bool true) #[true, true, true, true, true, true, true, true, true, false, false, false, false, false, false, false, false, false, false, false, false, false, false, false, false, false, false, false, false]
  · simp only [List.getElem?_toArray, List.getElem?_cons_succ, List.getElem?_cons_zero]; rfl
  · rfl
  · kernel_rfl
  · exact fun _ _ _ h => h
  · exact Or.inl ⟨by rfl, fun w' => by go_simp⟩
  · rfl
  simp only [Act.put, List.setIfInBounds_toArray, List.set_cons_zero, List.set_cons_succ]
  apply pure_ (i := 9) (N := some 45) (v := .bool true) #[true, true, true, true, true, true, true, true, true, true, false, false, false, false, false, false, false, false, false, false, false, false, false, false, false, false, false, false, false]
  · simp only [List.getElem?_toArray, List.getElem?_cons_succ, List.getElem?_cons_zero]; rfl
  · rfl
  · kernel_rfl
  · exact fun _ _ _ h => h
  · exact Or.inl ⟨by rfl, fun w' => by go_simp⟩
  · rfl
  simp only [Act.put, List.setIfInBounds_toArray, List.set_cons_zero, List.set_cons_succ]
  apply pure_ (i := 10) (N := some 46) (v := .slice (some ⟨g, 0, none⟩) 6 cap) #[true, true, true, true, true, true, true, true, true, true, true, false, false, false, false, false, false, false, false, false, false, false, false, false, false, false, false, false, false]
  · simp only [List.getElem?_toArray, List.getElem?_cons_succ, List.getElem?_cons_zero]; rfl
  · rfl
  · kernel_rfl
  · exact fun _ _ _ h => h
  · exact Or.inl ⟨by rfl, fun w' => by go_simp⟩
  · rfl
  simp only [Act.put, List.setIfInBounds_toArray, List.set_cons_zero, List.set_cons_succ]
  apply pure_ (i := 11) (N := some 47) (v := .pointer (some ⟨g, 3, none⟩)) #[true, true, true, true, true, true, true, true, true, true, true, true, false, false, false, false, false, false, false, false, false, false, false, false, false, false, false, false, false]
  · simp only [List.getElem?_toArray, List.getElem?_cons_succ, List.getElem?_cons_zero]; rfl
  · rfl
  · kernel_rfl
  · exact fun _ _ _ h => h
  · exact Or.inl ⟨by rfl, fun w' => by go_simp⟩
  · rfl
  simp only [Act.put, List.setIfInBounds_toArray, List.set_cons_zero, List.set_cons_succ]
  apply take_ (i := 12) (N := some 48) (v := .string x3) #[true, true, true, true, true, true, true, true, true, true, true, true, true, false, false, false, false, false, false, false, false, false, false, false, false, false, false, false, false]
  · simp only [List.getElem?_toArray, List.getElem?_cons_succ, List.getElem?_cons_zero]; rfl
  · rfl
  · kernel_rfl
  · exact fun _ _ _ h => h
  · exact Or.inl ⟨by rfl, fun w' hS => by have c := hS.2.1 3 (by simp); go_simp⟩
  · exact hHeld
  · rfl
  simp only [Act.put, List.setIfInBounds_toArray, List.set_cons_zero, List.set_cons_succ]
  apply pure_ (i := 13) (N := some 49) (v := .slice (some ⟨g, 0, none⟩) 6 cap) #[true, true, true, true, true, true, true, true, true, true, true, true, true, true, false, false, false, false, false, false, false, false, false, false, false, false, false, false, false]
  · simp only [List.getElem?_toArray, List.getElem?_cons_succ, List.getElem?_cons_zero]; rfl
  · rfl
  · kernel_rfl
  · exact fun _ _ _ h => h
  · exact Or.inl ⟨by rfl, fun w' => by go_simp⟩
  · rfl
  simp only [Act.put, List.setIfInBounds_toArray, List.set_cons_zero, List.set_cons_succ]
  apply pure_ (i := 14) (N := some 50) (v := .pointer (some ⟨g, 2, none⟩)) #[true, true, true, true, true, true, true, true, true, true, true, true, true, true, true, false, false, false, false, false, false, false, false, false, false, false, false, false, false]
  · simp only [List.getElem?_toArray, List.getElem?_cons_succ, List.getElem?_cons_zero]; rfl
  · rfl
  · kernel_rfl
  · exact fun _ _ _ h => h
  · exact Or.inl ⟨by rfl, fun w' => by go_simp⟩
  · rfl
  simp only [Act.put, List.setIfInBounds_toArray, List.set_cons_zero, List.set_cons_succ]
  apply take_ (i := 15) (N := some 51) (v := .string x2) #[true, true, true, true, true, true, true, true, true, true, true, true, true, true, true, true, false, false, false, false, false, false, false, false, false, false, false, false, false]
  · simp only [List.getElem?_toArray, List.getElem?_cons_succ, List.getElem?_cons_zero]; rfl
  · rfl
  · kernel_rfl
  · exact fun _ _ _ h => h
  · exact Or.inl ⟨by rfl, fun w' hS => by have c := hS.2.1 2 (by simp); go_simp⟩
  · exact hHeld
  · rfl
  simp only [Act.put, List.setIfInBounds_toArray, List.set_cons_zero, List.set_cons_succ]
  apply pure_ (i := 16) (N := some 52) (v := .slice (some ⟨g, 0, none⟩) 6 cap) #[true, true, true, true, true, true, true, true, true, true, true, true, true, true, true, true, true, false, false, false, false, false, false, false, false, false, false, false, false]
  · simp only [List.getElem?_toArray, List.getElem?_cons_succ, List.getElem?_cons_zero]; rfl
  · rfl
  · kernel_rfl
  · exact fun _ _ _ h => h
  · exact Or.inl ⟨by rfl, fun w' => by go_simp⟩
  · rfl
  simp only [Act.put, List.setIfInBounds_toArray, List.set_cons_zero, List.set_cons_succ]
  apply pure_ (i := 17) (N := some 53) (v := .pointer (some ⟨g, 1, none⟩)) #[true, true, true, true, true, true, true, true, true, true, true, true, true, true, true, true, true, true, false, false, false, false, false, false, false, false, false, false, false]
  · simp only [List.getElem?_toArray, List.getElem?_cons_succ, List.getElem?_cons_zero]; rfl
  · rfl
  · kernel_rfl
  · exact fun _ _ _ h => h
  · exact Or.inl ⟨by rfl, fun w' => by go_simp⟩
  · rfl
  simp only [Act.put, List.setIfInBounds_toArray, List.set_cons_zero, List.set_cons_succ]
  apply take_ (i := 18) (N := some 54) (v := .string x1) #[true, true, true, true, true, true, true, true, true, true, true, true, true, true, true, true, true, true, true, false, false, false, false, false, false, false, false, false, false]
  · simp only [List.getElem?_toArray, List.getElem?_cons_succ, List.getElem?_cons_zero]; rfl
  · rfl
  · kernel_rfl
  · exact fun _ _ _ h => h
  · exact Or.inl ⟨by rfl, fun w' hS => by have c := hS.2.1 1 (by simp); go_simp⟩
  · exact hHeld
  · rfl
  simp only [Act.put, List.setIfInBounds_toArray, List.set_cons_zero, List.set_cons_succ]
  apply pure_ (i := 19) (N := some 55) (v := .slice (some ⟨g, 0, none⟩) 6 cap) #[true, true, true, true, true, true, true, true, true, true, true, true, true, true, true, true, true, true, true, true, false, false, false, false, false, false, false, false, false]
  · simp only [List.getElem?_toArray, List.getElem?_cons_succ, List.getElem?_cons_zero]; rfl
  · rfl
  · kernel_rfl
  · exact fun _ _ _ h => h
  · exact Or.inl ⟨by rfl, fun w' => by go_simp⟩
  · rfl
  simp only [Act.put, List.setIfInBounds_toArray, List.set_cons_zero, List.set_cons_succ]
  apply pure_ (i := 20) (N := some 56) (v := .pointer (some ⟨g, 0, none⟩)) #[true, true, true, true, true, true, true, true, true, true, true, true, true, true, true, true, true, true, true, true, true, false, false, false, false, false, false, false, false]
  · simp only [List.getElem?_toArray, List.getElem?_cons_succ, List.getElem?_cons_zero]; rfl
  · rfl
  · kernel_rfl
  · exact fun _ _ _ h => h
  · exact Or.inl ⟨by rfl, fun w' => by go_simp⟩
  · rfl
  simp only [Act.put, List.setIfInBounds_toArray, List.set_cons_zero, List.set_cons_succ]
  apply take_ (i := 21) (N := some 57) (v := .string x0) #[true, true, true, true, true, true, true, true, true, true, true, true, true, true, true, true, true, true, true, true, true, true, false, false, false, false, false, false, false]
  · simp only [List.getElem?_toArray, List.getElem?_cons_succ, List.getElem?_cons_zero]; rfl
  · rfl
  · kernel_rfl
  · exact fun _ _ _ h => h
  · exact Or.inl ⟨by rfl, fun w' hS => by have c := hS.2.1 0 (by simp); go_simp⟩
  · exact hHeld
  · rfl
  simp only [Act.put, List.setIfInBounds_toArray, List.set_cons_zero, List.set_cons_succ]
  apply take_ (i := 24) (N := some 60) (v := .agg (avs a)) #[true, true, true, true, true, true, true, true, true, true, true, true, true, true, true, true, true, true, true, true, true, true, false, false, true, false, false, false, false]
  · simp only [List.getElem?_toArray, List.getElem?_cons_succ, List.getElem?_cons_zero]; rfl
  · rfl
  · kernel_rfl
  · exact fun _ _ _ h => h
  · exact Or.inl ⟨by rfl, fun w' hS => by exact run_load_row _ _ rfl _ rfl (avs a) _ w' _ hS.1 Tryd.underlying23 rfl (load_size a HA.out)⟩
  · exact hHeld
  · rfl
  simp only [Act.put, List.setIfInBounds_toArray, List.set_cons_zero, List.set_cons_succ]
  refine one_ (i := 22) (N := some 58) #[true, true, true, true, true, true, true, true, true, true, true, true, true, true, true, true, true, true, true, true, true, true, true, false, true, false, false, false, false] (by simp only [List.getElem?_toArray, List.getElem?_cons_succ, List.getElem?_cons_zero]; rfl) rfl (by kernel_rfl) (by decide) (fun K hK => ?_)
  refine value_ (v := .slice (some ⟨w4.heap.size, 0, none⟩) 4 4) (w1 := w4.drew.alloc (.cells (([x3, x2, x1, x0] : List ByteArray).map Value.string).toArray 9)) (by rfl) rfl (by go_simp) ?_
  refine hK.out _ _ (hHeld.keep ((Below.refl _ _).alloc (Nat.le_refl _) _)) (fun hHeld => ?_)
  clear hK K
  simp only [Act.put, List.setIfInBounds_toArray, List.set_cons_zero, List.set_cons_succ]
  refine one_ (i := 23) (N := some 59) #[true, true, true, true, true, true, true, true, true, true, true, true, true, true, true, true, true, true, true, true, true, true, true, true, true, false, false, false, false] (by simp only [List.getElem?_toArray, List.getElem?_cons_succ, List.getElem?_cons_zero]; rfl) rfl (by kernel_rfl) (by decide) (fun K hK => ?_)
  refine call_ 21 #[.slice (some ⟨w4.heap.size, 0, none⟩) 4 4] (by rfl) rfl (by go_simp) ((HJ.out w4.drew).mono fun e w5 ⟨he, hb⟩ => ⟨_, he, ?_⟩)
  refine hK.out _ _ (hHeld.keep hb) (fun hHeld => ?_)
  clear hb he
  clear hK K
  simp only [Act.put, List.setIfInBounds_toArray, List.set_cons_zero, List.set_cons_succ]
  refine one_ (i := 25) (N := some 61) #[true, true, true, true, true, true, true, true, true, true, true, true, true, true, true, true, true, true, true, true, true, true, true, true, true, true, false, false, false] (by simp only [List.getElem?_toArray, List.getElem?_cons_succ, List.getElem?_cons_zero]; rfl) rfl (by kernel_rfl) (by decide) (fun K hK => ?_)
  refine call_ 22 #[.agg (avs a)] (by rfl) rfl (by go_simp) ((HPRT.out _ hHeld.2.2.1).mono fun e w6 ⟨he, hb⟩ => ⟨_, he, ?_⟩)
  refine hK.out _ _ (hHeld.keep hb) (fun hHeld => ?_)
  clear hb he
  clear hK K
  simp only [Act.put, List.setIfInBounds_toArray, List.set_cons_zero, List.set_cons_succ]
  apply pure_ (i := 26) (N := some 62) (v := .bool true) #[true, true, true, true, true, true, true, true, true, true, true, true, true, true, true, true, true, true, true, true, true, true, true, true, true, true, true, false, false]
  · simp only [List.getElem?_toArray, List.getElem?_cons_succ, List.getElem?_cons_zero]; rfl
  · rfl
  · kernel_rfl
  · exact fun _ _ _ h => h
  · exact Or.inl ⟨by rfl, fun w' => by go_simp⟩
  · rfl
  simp only [Act.put, List.setIfInBounds_toArray, List.set_cons_zero, List.set_cons_succ]
  apply pure_ (i := 27) (N := some 63) (v := .bool true) #[true, true, true, true, true, true, true, true, true, true, true, true, true, true, true, true, true, true, true, true, true, true, true, true, true, true, true, true, false]
  · simp only [List.getElem?_toArray, List.getElem?_cons_succ, List.getElem?_cons_zero]; rfl
  · rfl
  · kernel_rfl
  · exact fun _ _ _ h => h
  · exact Or.inl ⟨by rfl, fun w' => by go_simp⟩
  · rfl
  simp only [Act.put, List.setIfInBounds_toArray, List.set_cons_zero, List.set_cons_succ]
  apply pure_ (i := 28) (N := some 4) (v := .bool true) #[true, true, true, true, true, true, true, true, true, true, true, true, true, true, true, true, true, true, true, true, true, true, true, true, true, true, true, true, true]
  · simp only [List.getElem?_toArray, List.getElem?_cons_succ, List.getElem?_cons_zero]; rfl
  · rfl
  · kernel_rfl
  · exact fun _ _ _ h => h
  · exact Or.inl ⟨by rfl, fun w' => by go_simp⟩
  · rfl
  simp only [Act.put, List.setIfInBounds_toArray, List.set_cons_zero, List.set_cons_succ]
  refine done_ (by kernel_rfl) ?_
  have HB6 := Lib.hid hHeld.2.2.2.1
  clear hHeld
  go_wp2
  go_ret
  exact ⟨rfl, HB6.out⟩

def hexS : ByteArray := ⟨#[48, 49, 50, 51, 52, 53, 54, 55, 56, 57, 97, 98, 99, 100, 101, 102]⟩
theorem hexS_at : ∀ u : Fin 16, (hexS.data.toList.getD u.val 0) = Pl.hexd u.val := by decide +kernel
theorem hex_index0 (w : World) : (Instr.index 9 (.string ⟨#[48, 49, 50, 51, 52, 53, 54, 55, 56, 57, 97, 98, 99, 100, 101, 102]⟩) (.int .u8 (((0 : Nat) : Int)))).run Tryd.prog w = .ok (.int .u8 (((Pl.hexd 0).toNat : Nat) : Int)) w := by kernel_rfl
theorem hex_index1 (w : World) : (Instr.index 9 (.string ⟨#[48, 49, 50, 51, 52, 53, 54, 55, 56, 57, 97, 98, 99, 100, 101, 102]⟩) (.int .u8 (((1 : Nat) : Int)))).run Tryd.prog w = .ok (.int .u8 (((Pl.hexd 1).toNat : Nat) : Int)) w := by kernel_rfl
theorem hex_index2 (w : World) : (Instr.index 9 (.string ⟨#[48, 49, 50, 51, 52, 53, 54, 55, 56, 57, 97, 98, 99, 100, 101, 102]⟩) (.int .u8 (((2 : Nat) : Int)))).run Tryd.prog w = .ok (.int .u8 (((Pl.hexd 2).toNat : Nat) : Int)) w := by kernel_rfl
theorem hex_index3 (w : World) : (Instr.index 9 (.string ⟨#[48, 49, 50, 51, 52, 53, 54, 55, 56, 57, 97, 98, 99, 100, 101, 102]⟩) (.int .u8 (((3 : Nat) : Int)))).run Tryd.prog w = .ok (.int .u8 (((Pl.hexd 3).toNat : Nat) : Int)) w := by kernel_rfl
theorem hex_index4 (w : World) : (Instr.index 9 (.string ⟨#[48, 49, 50, 51, 52, 53, 54, 55, 56, 57, 97, 98, 99, 100, 101, 102]⟩) (.int .u8 (((4 : Nat) : Int)))).run Tryd.prog w = .ok (.int .u8 (((Pl.hexd 4).toNat : Nat) : Int)) w := by kernel_rfl
theorem hex_index5 (w : World) : (Instr.index 9 (.string ⟨#[48, 49, 50, 51, 52, 53, 54, 55, 56, 57, 97, 98, 99, 100, 101, 102]⟩) (.int .u8 (((5 : Nat) : Int)))).run Tryd.prog w = .ok (.int .u8 (((Pl.hexd 5).toNat : Nat) : Int)) w := by kernel_rfl
theorem hex_index6 (w : World) : (Instr.index 9 (.string ⟨#[48, 49, 50, 51, 52, 53, 54, 55, 56, 57, 97, 98, 99, 100, 101, 102]⟩) (.int .u8 (((6 : Nat) : Int)))).run Tryd.prog w = .ok (.int .u8 (((Pl.hexd 6).toNat : Nat) : Int)) w := by kernel_rfl
theorem hex_index7 (w : World) : (Instr.index 9 (.string ⟨#[48, 49, 50, 51, 52, 53, 54, 55, 56, 57, 97, 98, 99, 100, 101, 102]⟩) (.int .u8 (((7 : Nat) : Int)))).run Tryd.prog w = .ok (.int .u8 (((Pl.hexd 7).toNat : Nat) : Int)) w := by kernel_rfl
theorem hex_index8 (w : World) : (Instr.index 9 (.string ⟨#[48, 49, 50, 51, 52, 53, 54, 55, 56, 57, 97, 98, 99, 100, 101, 102]⟩) (.int .u8 (((8 : Nat) : Int)))).run Tryd.prog w = .ok (.int .u8 (((Pl.hexd 8).toNat : Nat) : Int)) w := by kernel_rfl
theorem hex_index9 (w : World) : (Instr.index 9 (.string ⟨#[48, 49, 50, 51, 52, 53, 54, 55, 56, 57, 97, 98, 99, 100, 101, 102]⟩) (.int .u8 (((9 : Nat) : Int)))).run Tryd.prog w = .ok (.int .u8 (((Pl.hexd 9).toNat : Nat) : Int)) w := by kernel_rfl
theorem hex_index10 (w : World) : (Instr.index 9 (.string ⟨#[48, 49, 50, 51, 52, 53, 54, 55, 56, 57, 97, 98, 99, 100, 101, 102]⟩) (.int .u8 (((10 : Nat) : Int)))).run Tryd.prog w = .ok (.int .u8 (((Pl.hexd 10).toNat : Nat) : Int)) w := by kernel_rfl
theorem hex_index11 (w : World) : (Instr.index 9 (.string ⟨#[48, 49, 50, 51, 52, 53, 54, 55, 56, 57, 97, 98, 99, 100, 101, 102]⟩) (.int .u8 (((11 : Nat) : Int)))).run Tryd.prog w = .ok (.int .u8 (((Pl.hexd 11).toNat : Nat) : Int)) w := by kernel_rfl
theorem hex_index12 (w : World) : (Instr.index 9 (.string ⟨#[48, 49, 50, 51, 52, 53, 54, 55, 56, 57, 97, 98, 99, 100, 101, 102]⟩) (.int .u8 (((12 : Nat) : Int)))).run Tryd.prog w = .ok (.int .u8 (((Pl.hexd 12).toNat : Nat) : Int)) w := by kernel_rfl
theorem hex_index13 (w : World) : (Instr.index 9 (.string ⟨#[48, 49, 50, 51, 52, 53, 54, 55, 56, 57, 97, 98, 99, 100, 101, 102]⟩) (.int .u8 (((13 : Nat) : Int)))).run Tryd.prog w = .ok (.int .u8 (((Pl.hexd 13).toNat : Nat) : Int)) w := by kernel_rfl
theorem hex_index14 (w : World) : (Instr.index 9 (.string ⟨#[48, 49, 50, 51, 52, 53, 54, 55, 56, 57, 97, 98, 99, 100, 101, 102]⟩) (.int .u8 (((14 : Nat) : Int)))).run Tryd.prog w = .ok (.int .u8 (((Pl.hexd 14).toNat : Nat) : Int)) w := by kernel_rfl
theorem hex_index15 (w : World) : (Instr.index 9 (.string ⟨#[48, 49, 50, 51, 52, 53, 54, 55, 56, 57, 97, 98, 99, 100, 101, 102]⟩) (.int .u8 (((15 : Nat) : Int)))).run Tryd.prog w = .ok (.int .u8 (((Pl.hexd 15).toNat : Nat) : Int)) w := by kernel_rfl
theorem hex_index (h : Nat) (hh : h < 16) (w : World) : (Instr.index 9 (.string ⟨#[48, 49, 50, 51, 52, 53, 54, 55, 56, 57, 97, 98, 99, 100, 101, 102]⟩) (.int .u8 ((h : Int)))).run Tryd.prog w = .ok (.int .u8 (((Pl.hexd h).toNat : Nat) : Int)) w :=
  match h, hh with
  | 0, _ => hex_index0 w
  | 1, _ => hex_index1 w
  | 2, _ => hex_index2 w
  | 3, _ => hex_index3 w
  | 4, _ => hex_index4 w
  | 5, _ => hex_index5 w
  | 6, _ => hex_index6 w
  | 7, _ => hex_index7 w
  | 8, _ => hex_index8 w
  | 9, _ => hex_index9 w
  | 10, _ => hex_index10 w
  | 11, _ => hex_index11 w
  | 12, _ => hex_index12 w
  | 13, _ => hex_index13 w
  | 14, _ => hex_index14 w
  | 15, _ => hex_index15 w
  | n + 16, hh => absurd hh (by omega)
theorem one_back (w : World) (c : UInt8) : (convert 52 9 (.slice (some ⟨w.heap.size, 0, none⟩) 1 1)).run Tryd.prog (w.alloc (.cells #[.int .u8 (c.toNat : Int)] 5)).drew = .ok (.string ⟨#[c]⟩) (w.alloc (.cells #[.int .u8 (c.toNat : Int)] 5)).drew := by
  refine run_convert_bytes_back (P := Tryd.prog) _ 52 9 5 ⟨w.heap.size, 0, none⟩ 1 [c] Tryd.underlying52 Tryd.underlying5 Tryd.underlying9 ?_
  intro j hj
  have : j = 0 := by simp at hj; omega
  subst this
  rw [add_plain, World.cell?_drew, World.cell?_alloc_new]
  rfl

set_option maxHeartbeats 16000000 in
set_option maxRecDepth 100000 in
theorem lawReverses6 (a : List UInt8) (ha : a.length = 16) (b : List UInt8) (hb : b.length = 16) (h4 : Pl.is4 a = false) (w : World) (h : WdA w) :
    Calls Tryd.prog 5 #[.agg (avs a), .agg (avs b)] w fun e w' => e = .returned (.bool true) ∧ Below w.heap.size w w' := by
  obtain ⟨w0, hw0⟩ : ∃ w0, w0 = (w.alloc (.cells (avs a) 23)).alloc (.cells (avs b) 23) := ⟨_, rfl⟩
  have HRA : Hid (RowIs w0 w.heap.size (avs a) 23) := by rw [hw0]; exact (RowIs.new w _ _).past _
  have HRB : Hid (RowIs w0 (w.heap.size + 1) (avs b) 23) := by
    rw [hw0]
    have := RowIs.new (w.alloc (.cells (avs a) 23)) (avs b) 23
    rw [World.size_alloc] at this
    exact this
  have HB0 : Hid (Below w.heap.size w w0) := by
    rw [hw0]
    exact ((Below.refl _ _).alloc (Nat.le_refl _) _).alloc (by simp) _
  have HF := Lib.hid (fit_any w0 (h.on HB0.out))
  have HW := Lib.hid h
  clear h
  go_enter Tryd.func5, Tryd.ntmps5
  go_upto_region 1 with fail
  rw [← hw0]
  clear hw0
  go_wp2_with fail
  refine HF.out.mono ?_
  rintro e w1 ⟨rfl, hb1⟩
  have HB1 : Hid (Below w.heap.size w w1) := HB0.out.trans (hb1.mono HB0.out.size)
  have HA1 := Lib.hid (HRA.out.below hb1 HRA.out.lt)
  have HBB1 := Lib.hid (HRB.out.below hb1 HRB.out.lt)
  clear hb1 HF HRA HRB HB0
  have heq : ∀ w, (binOp .eql 23 (.agg (avs a)) (.agg (avs b))).run Tryd.prog w = .ok (.bool (a == b)) w := fun w => eql_addr a b ha hb w
  obtain ⟨p, hp⟩ : ∃ p : ByteArray, p = ⟨(Pl.reverse a).toArray⟩ := ⟨_, rfl⟩
  obtain ⟨q, hq⟩ : ∃ p : ByteArray, p = ⟨(Pl.reverse b).toArray⟩ := ⟨_, rfl⟩
  have hpq : (p.toList == q.toList) = (a == b) := by
    rw [Lib.toList_data, Lib.toList_data, hp, hq]
    by_cases h : a = b
    · subst h; simp
    · have h1 : (a == b) = false := by rw [beq_eq_false_iff_ne]; exact h
      rw [h1, beq_eq_false_iff_ne]
      exact fun e => h (Pl.reverse_inj ha hb e)
  have HPD : Hid (Pl.splitc 46 p.data.toList = Pl.revL a) := by show _ = _; rw [hp]; exact Pl.split_reverse a
  have hps : p.size < 4294967281 := by rw [Lib.size_eq, hp]; show (Pl.reverse a).length < _; have := Pl.reverse_len a; omega
  have cp := fun w h => reverse_any a ha w h
  have cq := fun w h => reverse_any b hb w h
  rw [← hp] at cp
  rw [← hq] at cq
  clear hp hq
  go_upto_region 3 with fail
  refine wp_region_inAny (Two a b w.heap.size w) (by kernel_rfl) ⟨HA1.out.drew, HBB1.out.drew, below_drewN HB1.out 1, (HW.out.on HB1.out).on (below_drewN (Below.refl _ _) 1)⟩ ?_
  clear HA1 HBB1 HB1
  refine inAny_take (i := 0) (v := .agg (avs a)) (by simp only [List.getElem?_toArray, List.getElem?_cons_succ, List.getElem?_cons_zero]; rfl) (by kernel_rfl) (by kernel_rfl) (by kernel_rfl) ?_ ?_
  · exact lands_load (by rfl) _ _ rfl _ rfl (avs a) _ (fun w h => ⟨_, h.1⟩) Tryd.underlying23 rfl (load_size a ha)
  simp only [Act.put, List.setIfInBounds_toArray, List.set_cons_zero, List.set_cons_succ]
  refine inAny_take (i := 1) (v := .string p) (by simp only [List.getElem?_toArray, List.getElem?_cons_succ, List.getElem?_cons_zero]; rfl) (by kernel_rfl) (by kernel_rfl) (by kernel_rfl) ?_ ?_
  · exact lands_call (by rfl) (f := 18) (args := #[.agg (avs a)]) (fun w => by go_simp) (two_call cp)
  simp only [Act.put, List.setIfInBounds_toArray, List.set_cons_zero, List.set_cons_succ]
  refine inAny_take (i := 2) (v := .agg (avs b)) (by simp only [List.getElem?_toArray, List.getElem?_cons_succ, List.getElem?_cons_zero]; rfl) (by kernel_rfl) (by kernel_rfl) (by kernel_rfl) ?_ ?_
  · exact lands_load (by rfl) _ _ rfl _ rfl (avs b) _ (fun w h => ⟨_, h.2.1⟩) Tryd.underlying23 rfl (load_size b hb)
  simp only [Act.put, List.setIfInBounds_toArray, List.set_cons_zero, List.set_cons_succ]
  refine inAny_take (i := 3) (v := .string q) (by simp only [List.getElem?_toArray, List.getElem?_cons_succ, List.getElem?_cons_zero]; rfl) (by kernel_rfl) (by kernel_rfl) (by kernel_rfl) ?_ ?_
  · exact lands_call (by rfl) (f := 18) (args := #[.agg (avs b)]) (fun w => by go_simp) (two_call cq)
  simp only [Act.put, List.setIfInBounds_toArray, List.set_cons_zero, List.set_cons_succ]
  refine inAny_take (i := 4) (v := .string p) (by simp only [List.getElem?_toArray, List.getElem?_cons_succ, List.getElem?_cons_zero]; rfl) (by kernel_rfl) (by kernel_rfl) (by kernel_rfl) ?_ ?_
  · exact lands_run (by rfl) (fun w _ => by go_simp)
  simp only [Act.put, List.setIfInBounds_toArray, List.set_cons_zero, List.set_cons_succ]
  refine inAny_take (i := 5) (v := .string q) (by simp only [List.getElem?_toArray, List.getElem?_cons_succ, List.getElem?_cons_zero]; rfl) (by kernel_rfl) (by kernel_rfl) (by kernel_rfl) ?_ ?_
  · exact lands_run (by rfl) (fun w _ => by go_simp)
  simp only [Act.put, List.setIfInBounds_toArray, List.set_cons_zero, List.set_cons_succ]
  refine inAny_done (by kernel_rfl) (fun w2 hS2 => ?_) _
  have HS2 := Lib.hid hS2
  clear hS2 cp cq
  have HSP := Lib.hid (label_split p hps w2)
  clear hps
  have HA := Lib.hid ha
  have HBL := Lib.hid hb
  clear ha hb
  go_wp2_with fail
  refine HSP.out.mono ?_
  rintro e w3 ⟨v, xs, rfl, HR, hxs, hb⟩
  have HS3 := Lib.hid (two_keep HS2.out hb)
  clear hb HSP HS2
  rw [HPD.out] at hxs
  have hxs := bas_of hxs
  clear HPD
  have hl : Pl.revL a = Pl.rev6 a 32 ++ [Pl.sIp6, Pl.sArpa] := by
    unfold Pl.revL
    rw [if_neg (by rw [h4]; decide)]
  rw [hl] at hxs
  clear hl
  have hxl : xs.length = 34 := by rw [hxs, bas_len, List.length_append, Pl.rev6_len]; rfl
  have HX : Hid (∀ i, i < 32 → xs.getD i ⟨#[]⟩ = ⟨#[Pl.hexd (Pl.nib a i)]⟩) := by
    intro i hi
    rw [hxs]
    unfold bas Pl.rev6
    rw [List.getD_eq_getElem?_getD, List.getElem?_map, List.getElem?_append_left (by simp; omega), List.getElem?_map, List.getElem?_range hi]
    simp [Pl.hexDig_one (Pl.nib_lt a i)]
  have h32 : xs.getD 32 ⟨#[]⟩ = ⟨#[105, 112, 54]⟩ := by
    rw [hxs]
    unfold bas
    rw [List.getD_eq_getElem?_getD, List.getElem?_map, List.getElem?_append_right (by rw [Pl.rev6_len]; omega), Pl.rev6_len]
    rfl
  have h33 : xs.getD 33 ⟨#[]⟩ = ⟨#[97, 114, 112, 97]⟩ := by
    rw [hxs]
    unfold bas
    rw [List.getD_eq_getElem?_getD, List.getElem?_map, List.getElem?_append_right (by rw [Pl.rev6_len]; omega), Pl.rev6_len]
    rfl
  clear hxs
  obtain ⟨g, cap, rfl, hg1, hg2, hc1, hc2, hcells⟩ := R_shape HR.out (by intro h; rw [h] at hxl; simp at hxl)
  have HV3 : Hid (RvS a w.heap.size g xs w w3) := by
    refine ⟨HS3.out.1, fun i hi => ?_, HS3.out.2.2.2, HS3.out.2.2.1, hg2⟩
    have := hcells i (xs.getD i ⟨#[]⟩) (by simp only [List.getD, List.getElem?_eq_getElem hi, Option.getD_some])
    rw [Nat.zero_add] at this
    exact this
  clear hcells HR hg1 hc1 hc2
  have HXL := Lib.hid hxl
  have H32 := Lib.hid h32
  have c33 : w3.cell? ⟨g, 33, none⟩ = some (.string ⟨#[97, 114, 112, 97]⟩) := by
    have := HV3.out.2.1 33 (by omega)
    rw [h33] at this
    exact this
  have HLA := Lib.hid (load_size a HA.out)
  have HLB := Lib.hid (load_size b HBL.out)
  rw [hxl]
  obtain ⟨t, ht⟩ : ∃ t, t = (a == b) := ⟨_, rfl⟩
  rw [← ht] at hpq heq
  clear ht h32 h33 hxl
  have H4 := Lib.hid h4
  clear h4
  have HI := Lib.hid (fun w => (is4_any a HA.out w).mono (R' := fun e w' => e = .returned (.bool false) ∧ Below w.heap.size w w') (by rw [H4.out]; exact fun e w' h => h))
  go_wp2_with (first | (refine wpList_load_row rfl 23 (.tmp 2) rfl w.heap.size rfl 23 (avs a) (0, 0) _ HS3.out.1 Tryd.underlying23 rfl HLA.out ?_) | (refine wpList_load_row rfl 23 (.tmp 3) rfl (w.heap.size + 1) rfl 23 (avs b) (0, 0) _ HS3.out.2.1 Tryd.underlying23 rfl HLB.out ?_))
  refine (HI.out w3).mono ?_
  rintro e w4 ⟨rfl, hb⟩
  have HV4 := Lib.hid (HV3.out.keep hb)
  clear hb HI HS3 HV3 c33 heq hpq
  have c32 : w4.cell? ⟨g, 32, none⟩ = some (.string ⟨#[105, 112, 54]⟩) := by
    have := HV4.out.2.1 32 (by have := HXL.out; omega)
    rw [H32.out] at this
    exact this
  go_wp2_with fail
  clear c32
  go_loopw [8, 9, 73] (fun _ _ s73 wr => ∃ i : Nat, i ≤ 32 ∧ s73 = .int .i64 i ∧ Hid (RvS a w.heap.size g xs w wr)) (fun _ _ s73 _ => 32 - (intOf s73).toNat)
  case atStart => exact ⟨0, by omega, rfl, HV4⟩
  case round =>
    clear HV4
    obtain ⟨i, hi, rfl, HV⟩ := hrel
    by_cases hlt : i < 32
    · have ci : ∀ w', RvS a w.heap.size g xs w w' → w'.cell? ⟨g, i, none⟩ = some (.string ⟨#[Pl.hexd (Pl.nib a i)]⟩) := fun w' h => by
        have := h.2.1 i (by have := HXL.out; omega)
        rw [HX.out i hlt] at this
        exact this
      have HCI := Lib.hid ci
      clear ci
      have hnl := Pl.nib_lt a i
      obtain ⟨d, hd⟩ : ∃ d, d = i / 2 := ⟨_, rfl⟩
      have hd15 : d ≤ 15 := by omega
      have hq : (i : Int) / 2 = (d : Int) := by omega
      have c0 : wr.cell? ⟨w.heap.size, 15 - d, none⟩ = some (.int .u8 ((a.getD (15 - d) 0).toNat : Int)) := by
        have := HV.out.1.cell (15 - d)
        rw [avs_get a _ (by have := HA.out; omega)] at this
        exact this
      have HNIB : Hid (Pl.nib a i = if i % 2 = 0 then (a.getD (15 - d) 0).toNat % 16 else (a.getD (15 - d) 0).toNat / 16) := by show _ = _; unfold Pl.nib; rw [← hd]
      clear hd
      generalize a.getD (15 - d) 0 = x at c0 HNIB
      have lx := x.toNat_lt
      by_cases hr : i % 2 = 0
      · have hm : (i : Int) % 2 = 0 := by omega
        have HN2 : Hid (Pl.nib a i = x.toNat % 16) := by show _ = _; rw [HNIB.out, if_pos hr]
        clear hr HNIB
        go_upto_region 15 with fail
        have e9 : (x.toNat : Int) % 16 = ((Pl.nib a i : Nat) : Int) := by have := HN2.out; omega
        rw [e9]
        clear e9 HN2 c0 hq hm lx
        generalize Pl.nib a i = h at hnl HCI ⊢
        refine start_ (n := 9) (S := RvS a w.heap.size g xs w) (ds := []) #[false, false, false, false, false, false, false, false, false] (by kernel_rfl) rfl rfl (HV.out.keep (below_drewN (Below.refl _ _) 1)) (fun hHeld => ?_)
        apply pure_ (i := 0) (N := some 86) (v := .slice (some ⟨g, 0, none⟩) 34 cap) #[true, false, false, false, false, false, false, false, false]
        · simp only [List.getElem?_toArray, List.getElem?_cons_succ, List.getElem?_cons_zero]; rfl
        · rfl
        · kernel_rfl
        · exact fun _ _ _ h => h
        · exact Or.inl ⟨by rfl, fun w' => by go_simp⟩
        · rfl
        simp only [Act.put, List.setIfInBounds_toArray, List.set_cons_zero, List.set_cons_succ]
        apply pure_ (i := 1) (N := some 87) (v := .int .i64 (i : Int)) #[true, true, false, false, false, false, false, false, false]
        · simp only [List.getElem?_toArray, List.getElem?_cons_succ, List.getElem?_cons_zero]; rfl
        · rfl
        · kernel_rfl
        · exact fun _ _ _ h => h
        · exact Or.inl ⟨by rfl, fun w' => by go_simp⟩
        · rfl
        simp only [Act.put, List.setIfInBounds_toArray, List.set_cons_zero, List.set_cons_succ]
        apply pure_ (i := 2) (N := some 88) (v := .pointer (some ⟨g, i, none⟩)) #[true, true, true, false, false, false, false, false, false]
        · simp only [List.getElem?_toArray, List.getElem?_cons_succ, List.getElem?_cons_zero]; rfl
        · rfl
        · kernel_rfl
        · exact fun _ _ _ h => h
        · exact Or.inl ⟨by rfl, fun w' => by go_simp; intro h; omega⟩
        · rfl
        simp only [Act.put, List.setIfInBounds_toArray, List.set_cons_zero, List.set_cons_succ]
        apply take_ (i := 3) (N := some 89) (v := .string ⟨#[Pl.hexd h]⟩) #[true, true, true, true, false, false, false, false, false]
        · simp only [List.getElem?_toArray, List.getElem?_cons_succ, List.getElem?_cons_zero]; rfl
        · rfl
        · kernel_rfl
        · exact fun _ _ _ h => h
        · exact Or.inl ⟨by rfl, fun w' hS => by have c := HCI.out w' hS; go_simp⟩
        · exact hHeld
        · rfl
        simp only [Act.put, List.setIfInBounds_toArray, List.set_cons_zero, List.set_cons_succ]
        apply pure_ (i := 4) (N := some 90) (v := .int .u8 (h : Int)) #[true, true, true, true, true, false, false, false, false]
        · simp only [List.getElem?_toArray, List.getElem?_cons_succ, List.getElem?_cons_zero]; rfl
        · rfl
        · kernel_rfl
        · exact fun _ _ _ h => h
        · exact Or.inl ⟨by rfl, fun w' => by go_simp⟩
        · rfl
        simp only [Act.put, List.setIfInBounds_toArray, List.set_cons_zero, List.set_cons_succ]
        apply pure_ (i := 5) (N := some 91) (v := .int .u8 ((Pl.hexd h).toNat : Int)) #[true, true, true, true, true, true, false, false, false]
        · simp only [List.getElem?_toArray, List.getElem?_cons_succ, List.getElem?_cons_zero]; rfl
        · rfl
        · kernel_rfl
        · exact fun _ _ _ h => h
        · exact Or.inl ⟨by rfl, fun w' => by have c := hex_index h hnl w'; go_simp⟩
        · rfl
        simp only [Act.put, List.setIfInBounds_toArray, List.set_cons_zero, List.set_cons_succ]
        refine one_ (i := 6) (N := some 92) #[true, true, true, true, true, true, true, false, false] (by simp only [List.getElem?_toArray, List.getElem?_cons_succ, List.getElem?_cons_zero]; rfl) rfl (by kernel_rfl) (by decide) (fun K hK => ?_)
        refine value_ (v := .slice (some ⟨wr.heap.size, 0, none⟩) 1 1) (w1 := wr.drew.alloc (.cells #[.int .u8 ((Pl.hexd h).toNat : Int)] 5)) (by rfl) rfl (by go_simp) ?_
        refine hK.out _ _ (hHeld.keep ((Below.refl _ _).alloc (Nat.le_refl _) _)) (fun hHeld => ?_)
        clear hK K
        simp only [Act.put, List.setIfInBounds_toArray, List.set_cons_zero, List.set_cons_succ]
        refine one_ (i := 7) (N := some 93) #[true, true, true, true, true, true, true, true, false] (by simp only [List.getElem?_toArray, List.getElem?_cons_succ, List.getElem?_cons_zero]; rfl) rfl (by kernel_rfl) (by decide) (fun K hK => ?_)
        refine value_ (v := .string ⟨#[Pl.hexd h]⟩) (w1 := wr.drew.alloc (.cells #[.int .u8 ((Pl.hexd h).toNat : Int)] 5)) (by rfl) rfl (by have c := one_back wr (Pl.hexd h); go_simp) ?_
        refine hK.out _ _ (hHeld) (fun hHeld => ?_)
        clear hK K
        simp only [Act.put, List.setIfInBounds_toArray, List.set_cons_zero, List.set_cons_succ]
        apply pure_ (i := 8) (N := some 94) (v := .bool false) #[true, true, true, true, true, true, true, true, true]
        · simp only [List.getElem?_toArray, List.getElem?_cons_succ, List.getElem?_cons_zero]; rfl
        · rfl
        · kernel_rfl
        · exact fun _ _ _ h => h
        · exact Or.inl ⟨by rfl, fun w' => by go_simp⟩
        · rfl
        simp only [Act.put, List.setIfInBounds_toArray, List.set_cons_zero, List.set_cons_succ]
        refine done_ (by kernel_rfl) ?_
        have HVN := Lib.hid hHeld
        clear hHeld HV HCI
        go_wp2_with fail
        go_roundw
        case rel => first | exact ⟨i + 1, by omega, by go_num, HVN⟩ | ((repeat apply Exists.intro); exact ⟨⟨i + 1, by omega, by go_num, HVN⟩, rfl⟩)
        case measure => simp [intOf]; omega
      · have hm : (i : Int) % 2 = 1 := by omega
        have HN2 : Hid (Pl.nib a i = x.toNat / 16) := by show _ = _; rw [HNIB.out, if_neg hr]
        clear hr HNIB
        go_upto_region 15 with fail
        have e9 : (x.toNat : Int) / 16 % 16 = ((Pl.nib a i : Nat) : Int) := by have := HN2.out; omega
        rw [e9]
        clear e9 HN2 c0 hq hm lx
        generalize Pl.nib a i = h at hnl HCI ⊢
        refine start_ (n := 9) (S := RvS a w.heap.size g xs w) (ds := []) #[false, false, false, false, false, false, false, false, false] (by kernel_rfl) rfl rfl (HV.out.keep (below_drewN (Below.refl _ _) 1)) (fun hHeld => ?_)
        apply pure_ (i := 0) (N := some 86) (v := .slice (some ⟨g, 0, none⟩) 34 cap) #[true, false, false, false, false, false, false, false, false]
        · simp only [List.getElem?_toArray, List.getElem?_cons_succ, List.getElem?_cons_zero]; rfl
        · rfl
        · kernel_rfl
        · exact fun _ _ _ h => h
        · exact Or.inl ⟨by rfl, fun w' => by go_simp⟩
        · rfl
        simp only [Act.put, List.setIfInBounds_toArray, List.set_cons_zero, List.set_cons_succ]
        apply pure_ (i := 1) (N := some 87) (v := .int .i64 (i : Int)) #[true, true, false, false, false, false, false, false, false]
        · simp only [List.getElem?_toArray, List.getElem?_cons_succ, List.getElem?_cons_zero]; rfl
        · rfl
        · kernel_rfl
        · exact fun _ _ _ h => h
        · exact Or.inl ⟨by rfl, fun w' => by go_simp⟩
        · rfl
        simp only [Act.put, List.setIfInBounds_toArray, List.set_cons_zero, List.set_cons_succ]
        apply pure_ (i := 2) (N := some 88) (v := .pointer (some ⟨g, i, none⟩)) #[true, true, true, false, false, false, false, false, false]
        · simp only [List.getElem?_toArray, List.getElem?_cons_succ, List.getElem?_cons_zero]; rfl
        · rfl
        · kernel_rfl
        · exact fun _ _ _ h => h
        · exact Or.inl ⟨by rfl, fun w' => by go_simp; intro h; omega⟩
        · rfl
        simp only [Act.put, List.setIfInBounds_toArray, List.set_cons_zero, List.set_cons_succ]
        apply take_ (i := 3) (N := some 89) (v := .string ⟨#[Pl.hexd h]⟩) #[true, true, true, true, false, false, false, false, false]
        · simp only [List.getElem?_toArray, List.getElem?_cons_succ, List.getElem?_cons_zero]; rfl
        · rfl
        · kernel_rfl
        · exact fun _ _ _ h => h
        · exact Or.inl ⟨by rfl, fun w' hS => by have c := HCI.out w' hS; go_simp⟩
        · exact hHeld
        · rfl
        simp only [Act.put, List.setIfInBounds_toArray, List.set_cons_zero, List.set_cons_succ]
        apply pure_ (i := 4) (N := some 90) (v := .int .u8 (h : Int)) #[true, true, true, true, true, false, false, false, false]
        · simp only [List.getElem?_toArray, List.getElem?_cons_succ, List.getElem?_cons_zero]; rfl
        · rfl
        · kernel_rfl
        · exact fun _ _ _ h => h
        · exact Or.inl ⟨by rfl, fun w' => by go_simp⟩
        · rfl
        simp only [Act.put, List.setIfInBounds_toArray, List.set_cons_zero, List.set_cons_succ]
        apply pure_ (i := 5) (N := some 91) (v := .int .u8 ((Pl.hexd h).toNat : Int)) #[true, true, true, true, true, true, false, false, false]
        · simp only [List.getElem?_toArray, List.getElem?_cons_succ, List.getElem?_cons_zero]; rfl
        · rfl
        · kernel_rfl
        · exact fun _ _ _ h => h
        · exact Or.inl ⟨by rfl, fun w' => by have c := hex_index h hnl w'; go_simp⟩
        · rfl
        simp only [Act.put, List.setIfInBounds_toArray, List.set_cons_zero, List.set_cons_succ]
        refine one_ (i := 6) (N := some 92) #[true, true, true, true, true, true, true, false, false] (by simp only [List.getElem?_toArray, List.getElem?_cons_succ, List.getElem?_cons_zero]; rfl) rfl (by kernel_rfl) (by decide) (fun K hK => ?_)
        refine value_ (v := .slice (some ⟨wr.heap.size, 0, none⟩) 1 1) (w1 := wr.drew.alloc (.cells #[.int .u8 ((Pl.hexd h).toNat : Int)] 5)) (by rfl) rfl (by go_simp) ?_
        refine hK.out _ _ (hHeld.keep ((Below.refl _ _).alloc (Nat.le_refl _) _)) (fun hHeld => ?_)
        clear hK K
        simp only [Act.put, List.setIfInBounds_toArray, List.set_cons_zero, List.set_cons_succ]
        refine one_ (i := 7) (N := some 93) #[true, true, true, true, true, true, true, true, false] (by simp only [List.getElem?_toArray, List.getElem?_cons_succ, List.getElem?_cons_zero]; rfl) rfl (by kernel_rfl) (by decide) (fun K hK => ?_)
        refine value_ (v := .string ⟨#[Pl.hexd h]⟩) (w1 := wr.drew.alloc (.cells #[.int .u8 ((Pl.hexd h).toNat : Int)] 5)) (by rfl) rfl (by have c := one_back wr (Pl.hexd h); go_simp) ?_
        refine hK.out _ _ (hHeld) (fun hHeld => ?_)
        clear hK K
        simp only [Act.put, List.setIfInBounds_toArray, List.set_cons_zero, List.set_cons_succ]
        apply pure_ (i := 8) (N := some 94) (v := .bool false) #[true, true, true, true, true, true, true, true, true]
        · simp only [List.getElem?_toArray, List.getElem?_cons_succ, List.getElem?_cons_zero]; rfl
        · rfl
        · kernel_rfl
        · exact fun _ _ _ h => h
        · exact Or.inl ⟨by rfl, fun w' => by go_simp⟩
        · rfl
        simp only [Act.put, List.setIfInBounds_toArray, List.set_cons_zero, List.set_cons_succ]
        refine done_ (by kernel_rfl) ?_
        have HVN := Lib.hid hHeld
        clear hHeld HV HCI
        go_wp2_with fail
        go_roundw
        case rel => first | exact ⟨i + 1, by omega, by go_num, HVN⟩ | ((repeat apply Exists.intro); exact ⟨⟨i + 1, by omega, by go_num, HVN⟩, rfl⟩)
        case measure => simp [intOf]; omega
    · obtain rfl : i = 32 := by omega
      rw [show ((32 : Nat) : Int) = 32 from rfl]
      go_wp2_with fail
      go_ret
      exact ⟨rfl, HV.out.2.2.2.1⟩


/-- The contract of the law. -/
theorem lawReverses (a : List UInt8) (ha : a.length = 16) (b : List UInt8) (hb : b.length = 16) (w : World) (h : WdA w) :
    Calls Tryd.prog 5 #[.agg (avs a), .agg (avs b)] w fun e w' => e = .returned (.bool true) ∧ Below w.heap.size w w' := by
  cases h4 : Pl.is4 a with
  | true => exact lawReverses4 a ha b hb h4 w h
  | false => exact lawReverses6 a ha b hb h4 w h
end Go.Proofs.YtgdfmhdgmjogiabDoor
