/- The contract of addr.Reverse. -/
import Derived.Test.YtgdfmhdgmjogiabDoorJoin
import Derived.Test.YtgdfmhdgmjogiabDoorRev
import Derived.Test.YtgdfmhdgmjogiabDoorArr
import Derived.Test.YtgdfmhdgmjogiabDoorPrint4
namespace Go.Proofs.YtgdfmhdgmjogiabDoor
open Go.RowKit Go.Proofs.YtgdfmhdgmjogiabDoorW.PrintWords Go.Proofs.YtgdfmhdgmjogiabDoorW.PrintLast Go.Proofs.YtgdfmhdgmjogiabDoorW.PrintMore
set_option linter.unusedVariables false
set_option linter.unusedSimpArgs false

def bas (l : List (List UInt8)) : List ByteArray := l.map fun x => ⟨x.toArray⟩
theorem bas_data (l : List (List UInt8)) : (bas l).map (·.data.toList) = l := by
  unfold bas
  rw [List.map_map]
  have : ((fun x : ByteArray => x.data.toList) ∘ fun x : List UInt8 => (⟨x.toArray⟩ : ByteArray)) = id := by funext x; simp
  rw [this, List.map_id]
theorem bas_len (l : List (List UInt8)) : (bas l).length = l.length := by simp [bas]
theorem bas_app (l r : List (List UInt8)) : bas (l ++ r) = bas l ++ bas r := by simp [bas]

set_option maxHeartbeats 8000000 in
set_option maxRecDepth 100000 in
theorem reverse4_any (a : List UInt8) (ha : a.length = 16) (h4 : Pl.is4 a = true) (w : World) (h : WdA w) : Calls Tryd.prog 18 #[.agg (avs a)] w fun e w' => e = .returned (.string ⟨(Pl.reverse a).toArray⟩) ∧ Below w.heap.size w w' := by
  have HS := Lib.hid (load_size a ha)
  have HG := Lib.hid (RowIs.new w (avs a) 23)
  have HC := Lib.hid (CellsA.new w a 23 ha)
  have HA := Lib.hid ha
  have HW := Lib.hid h
  have H4 := Lib.hid h4
  have HI := Lib.hid (fun w => (is4_any a ha w).mono (R' := fun e w' => e = .returned (.bool true) ∧ Below w.heap.size w w') (by rw [h4]; exact fun e w' h => h))
  clear ha h h4
  go_enter Tryd.func18, Tryd.ntmps18
  go_wp2_with (refine wpList_load_row rfl 23 _ rfl _ rfl 23 (avs a) (0, 0) _ HG.out Tryd.underlying23 rfl HS.out ?_)
  refine (HI.out _).mono ?_
  rintro e w1 ⟨rfl, hb1⟩
  rw [World.size_alloc] at hb1
  have HC1 := Lib.hid (HC.out.below hb1 (by omega))
  have HB1 : Hid (Below w.heap.size w w1) := ((Below.refl _ w).alloc (Nat.le_refl _) _).trans (hb1.mono (by omega))
  have hz1 : w.heap.size < w1.heap.size := by have := hb1.size; rw [World.size_alloc] at this; omega
  clear HC HG HI hb1
  go_wp2_with fail
  have HB0 : Hid (Below (w.heap.size + 1) w1 w1) := Below.refl _ _
  go_loopw [3, 4] (fun s3 s4 wr => ∃ m : Nat, 12 ≤ m ∧ m ≤ 16 ∧ s4 = .int .i64 ((m : Int) - 1) ∧ Hid (Kd.R Kd.string 9 wr (w.heap.size + 1) (fun _ => True) s3 (bas (Pl.rev4 a (16 - m)))) ∧ Hid (Below (w.heap.size + 1) w1 wr)) (fun _ s4 _ => (intOf s4 + 1).toNat)
  case atStart => exact ⟨16, by omega, by omega, rfl, Kd.R_nil _ _ _ _ _, HB0⟩
  case round =>
    clear HB0
    obtain ⟨m, hm1, hm2, rfl, HR, HB⟩ := hrel
    have HZ : Hid (w.heap.size + 1 ≤ wr.heap.size) := by have := HB.out.size; show _ ≤ _; omega
    by_cases hlt : 12 < m
    · obtain ⟨k, rfl⟩ : ∃ k, m = k + 1 := ⟨m - 1, by omega⟩
      have c0 := (HC1.out.below HB.out (by omega)) k (by omega)
      obtain ⟨x, hx⟩ : ∃ x, x = a.getD k 0 := ⟨_, rfl⟩
      rw [← hx] at c0
      have HN : Hid (bas (Pl.rev4 a (16 - k)) = bas (Pl.rev4 a (16 - (k + 1))) ++ [⟨(Lib.decDigits x.toNat).toArray⟩]) := by
        show _ = _
        rw [show 16 - k = (16 - (k + 1)) + 1 by omega, Pl.rev4_succ, bas_app, show 15 - (16 - (k + 1)) = k by omega, ← hx]
        rfl
      have hlen : (bas (Pl.rev4 a (16 - (k + 1)))).length ≤ 4 := by rw [bas_len, Pl.rev4_len]; omega
      clear hx
      have lx : x.toNat < 256 := x.toNat_lt
      have hit := Lib.hid (Tryd.strconv_Itoa (x.toNat : Int) (by omega) (by omega) wr ((HW.out.below HB1.out HW.out.size).below HB.out (by have := HW.out.size; omega)).pow)
      have e0 : ((k + 1 : Nat) : Int) - 1 = (k : Int) := by omega
      rw [e0]
      clear e0
      generalize bas (Pl.rev4 a (16 - (k + 1))) = xs at HR HN hlen
      go_wp2_with fail
      refine hit.out.mono ?_
      rintro e w2 ⟨rfl, q, os, rfl⟩
      have hb2 := Lib.below_grow (w.heap.size + 1) wr HZ.out q os
      have hb3 := Lib.below_grow wr.heap.size wr (Nat.le_refl _) q os
      obtain ⟨w2, hw2⟩ : ∃ w2, w2 = Go.Sort.grow (wr.drewN q) os := ⟨_, rfl⟩
      rw [← hw2] at hb2 hb3 ⊢
      clear hw2
      have HB2 : Hid (Below (w.heap.size + 1) w1 w2) := HB.out.trans hb2
      have HZ2 : Hid (w.heap.size + 1 ≤ w2.heap.size) := Nat.le_trans HZ.out hb2.size
      have HR2 : Hid (Kd.R Kd.string 9 w2 (w.heap.size + 1) (fun _ => True) u3 xs) := Kd.R_below HR.out hb3
      clear hb2 hb3 HB HR hit c0
      rw [Lib.itoa_nonneg]
      obtain ⟨p, hp⟩ : ∃ p : ByteArray, p = ⟨(Lib.decDigits x.toNat).toArray⟩ := ⟨_, rfl⟩
      rw [← hp]
      have HP := Lib.hid hp
      clear hp
      go_wp2_with ((with_reducible refine gate_builtin (b := .append) (xs := #[.tmp 12, .tmp 18]) rfl ?_); at_builtin; refine Kd.R_append Kd.string (w0 := w1) (w.heap.size + 1) rfl (.tmp 12) (.tmp 18) 28 9 (.string ⟨#[]⟩) 16 rfl Tryd.underlying28 Tryd.infoStr rfl (by decide) (by omega) u3 xs p [.string p] (fun _ => True) (fun _ => False) rfl rfl ?aP (fun _ hk => hk.elim) (fun _ _ => trivial) HR2.out HB2.out HZ2.out ?aL ?_; (case aP => exact rfl); (case aL => omega); intro v3 w3 ho hb hg hat; have HR3 := Lib.hid ho; have HB3 := Lib.hid hb; clear ho hb hg hat HR2 HB2)
      go_roundw
      case rel => first | exact ⟨k, by omega, by omega, rfl, by rw [HN.out, ← HP.out]; exact HR3, HB3⟩ | ((repeat apply Exists.intro); exact ⟨⟨k, by omega, by omega, rfl, by rw [HN.out, ← HP.out]; exact HR3, HB3⟩, rfl⟩)
      case measure => simp [intOf]
    · obtain rfl : m = 12 := by omega
      rw [show ((12 : Nat) : Int) - 1 = 11 from rfl]
      rw [show 16 - 12 = 4 from rfl] at HR
      have hlen : (bas (Pl.rev4 a 4)).length = 4 := by rw [bas_len, Pl.rev4_len]
      have HXS := Lib.hid (bas_data (Pl.rev4 a 4))
      generalize bas (Pl.rev4 a 4) = xs at HR HXS hlen
      have HL := Lib.hid hlen
      clear hlen
      obtain ⟨W, hW⟩ : ∃ W, W = wr.alloc (.cells (([⟨#[105, 110, 45, 97, 100, 100, 114]⟩, ⟨#[97, 114, 112, 97]⟩] : List ByteArray).map Value.string).toArray 9) := ⟨_, rfl⟩
      have HRW : Hid (Kd.R Kd.string 9 W (w.heap.size + 1) (fun _ => True) u3 xs) := by rw [hW]; exact Kd.R_below HR.out ((Below.refl _ _).alloc (Nat.le_refl _) _)
      have HBW : Hid (Below (w.heap.size + 1) w1 W) := by rw [hW]; exact HB.out.alloc HZ.out _
      have HZW : Hid (w.heap.size + 1 ≤ W.heap.size) := by rw [hW]; show _ ≤ _; rw [World.size_alloc]; have := HZ.out; omega
      have HCW : Hid (Kd.string.C W (some ⟨wr.heap.size, 0, none⟩) 2 [⟨#[105, 110, 45, 97, 100, 100, 114]⟩, ⟨#[97, 114, 112, 97]⟩]) := by rw [hW]; exact lit_C wr _ _ (by decide)
      go_wp2_with ((with_reducible refine gate_builtin (b := .append) (xs := #[.tmp 20, .tmp 21]) rfl ?_); at_builtin; refine Kd.R_append_row Value.string ByteArray.empty (h1 := fun _ => rfl) (w0 := w1) (w.heap.size + 1) rfl (.tmp 20) (.tmp 21) 28 9 (.string ⟨#[]⟩) 16 rfl Tryd.underlying28 Tryd.infoStr rfl (by decide) u3 xs [⟨#[105, 110, 45, 97, 100, 100, 114]⟩, ⟨#[97, 114, 112, 97]⟩] (some ⟨wr.heap.size, 0, none⟩) 2 2 (fun _ => True) rfl rfl (fun _ _ => trivial) ?aO ?aC ?aB ?aZ ?aL ?_; (case aO => rw [hW] at HRW; exact HRW.out); (case aC => rw [hW] at HCW; exact HCW.out); (case aB => rw [hW] at HBW; exact HBW.out); (case aZ => rw [hW] at HZW; exact HZW.out); (case aL => rw [HL.out]; omega); intro v3 w3 ho hb hg hat; have HR3 := Lib.hid ho; have HB3 := Lib.hid hb; clear ho hb hg hat)
      have hj : Lib.join ((xs ++ ([⟨#[105, 110, 45, 97, 100, 100, 114]⟩, ⟨#[97, 114, 112, 97]⟩] : List ByteArray)).map (·.data.toList)) [46] = Pl.reverse a := by
        rw [List.map_append, HXS.out]
        unfold Pl.reverse Pl.revL
        rw [if_pos H4.out]
        rfl
      have HJ := Lib.hid (join_any HR3.out (by rw [List.length_append, HL.out]; decide) (by rw [hj]; have := Pl.reverse_len a; omega))
      rw [hj] at HJ
      clear hj
      refine HJ.out.mono ?_
      rintro e w4 ⟨rfl, hb⟩
      have HB4 : Hid (Below w.heap.size w w4) := (HB1.out.trans (HB3.out.mono (by omega))).trans (hb.mono (by have := HB3.out.size; omega))
      clear hb HJ HR3 HB3
      go_wp2
      go_ret
      exact ⟨rfl, HB4.out⟩

theorem andb15 (x : UInt8) : bits .and .u8 (x.toNat : Int) 15 = ((x.toNat % 16 : Nat) : Int) := by
  have : ∀ n : Fin 256, bits .and .u8 ((n.val : Nat) : Int) 15 = ((n.val % 16 : Nat) : Int) := by decide +kernel
  exact this ⟨x.toNat, x.toNat_lt⟩
/-- What the statement that appends two halves keeps. -/
def RevS (a : List UInt8) (g base : Nat) (w1 : World) (v : Value) (xs : List ByteArray) (w : World) : Prop :=
  RowIs w g (avs a) 23 ∧ WdA w ∧ Kd.R Kd.string 9 w base (fun _ => True) v xs ∧ Below base w1 w ∧ base ≤ w.heap.size
theorem RevS.keep {a : List UInt8} {g base : Nat} {w1 : World} {v : Value} {xs : List ByteArray} {w w' : World} (h : RevS a g base w1 v xs w) (hb : Below w.heap.size w w') : RevS a g base w1 v xs w' := by
  obtain ⟨h1, h2, h3, h4, h5⟩ := h
  exact ⟨h1.below hb h1.lt, h2.on hb, Kd.R_below h3 hb, h4.trans (hb.mono h5), Nat.le_trans h5 hb.size⟩

set_option maxHeartbeats 16000000 in
set_option maxRecDepth 100000 in
theorem reverse6_any (a : List UInt8) (ha : a.length = 16) (h4 : Pl.is4 a = false) (w : World) (h : WdA w) : Calls Tryd.prog 18 #[.agg (avs a)] w fun e w' => e = .returned (.string ⟨(Pl.reverse a).toArray⟩) ∧ Below w.heap.size w w' := by
  have HS := Lib.hid (load_size a ha)
  have HG := Lib.hid (RowIs.new w (avs a) 23)
  have HA := Lib.hid ha
  have HW := Lib.hid h
  have H4 := Lib.hid h4
  have HI := Lib.hid (fun w => (is4_any a ha w).mono (R' := fun e w' => e = .returned (.bool false) ∧ Below w.heap.size w w') (by rw [h4]; exact fun e w' h => h))
  clear ha h h4
  go_enter Tryd.func18, Tryd.ntmps18
  go_wp2_with (refine wpList_load_row rfl 23 _ rfl _ rfl 23 (avs a) (0, 0) _ HG.out Tryd.underlying23 rfl HS.out ?_)
  refine (HI.out _).mono ?_
  rintro e w1 ⟨rfl, hb1⟩
  rw [World.size_alloc] at hb1
  have HG1 := Lib.hid (HG.out.below hb1 (by omega))
  have HB1 : Hid (Below w.heap.size w w1) := ((Below.refl _ w).alloc (Nat.le_refl _) _).trans (hb1.mono (by omega))
  have hz1 : w.heap.size < w1.heap.size := by have := hb1.size; rw [World.size_alloc] at this; omega
  clear HG HI hb1
  go_wp2_with fail
  have HB0 : Hid (RevS a w.heap.size (w.heap.size + 1) w1 (.slice none 0 0) (bas (Pl.rev6 a 0)) w1) := ⟨HG1.out, HW.out.on HB1.out, Kd.R_nil _ _ _ _ _, Below.refl _ _, by omega⟩
  go_loopw [3, 5] (fun s3 s5 wr => ∃ m : Nat, m ≤ 16 ∧ s5 = .int .i64 ((m : Int) - 1) ∧ Hid (RevS a w.heap.size (w.heap.size + 1) w1 s3 (bas (Pl.rev6 a (2 * (16 - m)))) wr)) (fun _ s5 _ => (intOf s5 + 1).toNat)
  case atStart => exact ⟨16, by omega, rfl, HB0⟩
  case round =>
    clear HB0
    obtain ⟨m, hm2, rfl, HV⟩ := hrel
    by_cases hlt : 0 < m
    · obtain ⟨k, rfl⟩ : ∃ k, m = k + 1 := ⟨m - 1, by omega⟩
      obtain ⟨x, hx⟩ : ∃ x, x = a.getD k 0 := ⟨_, rfl⟩
      have HN : Hid (bas (Pl.rev6 a (2 * (16 - k))) = bas (Pl.rev6 a (2 * (16 - (k + 1)))) ++ [⟨(Pl.hexDig (x.toNat % 16)).toArray⟩, ⟨(Pl.hexDig (x.toNat / 16)).toArray⟩]) := by
        show _ = _
        rw [show 16 - k = (16 - (k + 1)) + 1 by omega, Pl.rev6_succ2, bas_app, show 15 - (16 - (k + 1)) = k by omega, ← hx]
        rfl
      have hlen : (bas (Pl.rev6 a (2 * (16 - (k + 1))))).length ≤ 32 := by rw [bas_len, Pl.rev6_len]; omega
      have HCX : Hid (∀ w', RowIs w' w.heap.size (avs a) 23 → w'.cell? ⟨w.heap.size, k, none⟩ = some (.int .u8 (x.toNat : Int))) := by
        intro w' h
        have := h.cell k
        rw [avs_get a k (by have := HA.out; omega), ← hx] at this
        exact this
      clear hx
      have lx : x.toNat < 256 := x.toNat_lt
      have e0 : ((k + 1 : Nat) : Int) - 1 = (k : Int) := by omega
      rw [e0]
      clear e0
      generalize bas (Pl.rev6 a (2 * (16 - (k + 1)))) = xs at HV HN hlen
      obtain ⟨p, hp⟩ : ∃ p : ByteArray, p = ⟨(Pl.hexDig (x.toNat % 16)).toArray⟩ := ⟨_, rfl⟩
      obtain ⟨q, hq⟩ : ∃ p : ByteArray, p = ⟨(Pl.hexDig (x.toNat / 16)).toArray⟩ := ⟨_, rfl⟩
      have cp := fun w h => formatInt16 (x.toNat % 16) (by omega) w h
      have cq := fun w h => formatInt16 (x.toNat / 16) (by omega) w h
      rw [← hp] at cp HN
      rw [← hq] at cq HN
      clear hp hq
      have HCP := Lib.hid cp
      have HCQ := Lib.hid cq
      have ha15 := andb15 x
      have hk : k < 16 := by omega
      clear cp cq
      go_upto_region 11 with fail
      refine start_ (n := 16) (S := RevS a w.heap.size (w.heap.size + 1) w1 u3 xs) (ds := [14]) #[false, false, false, false, false, false, false, false, false, false, false, false, false, false, false, false] (by kernel_rfl) rfl rfl (HV.out.keep (below_drewN (Below.refl _ _) 1)) (fun hHeld => ?_)
      apply pure_ (i := 0) (N := some 28) (v := u3) #[true, false, false, false, false, false, false, false, false, false, false, false, false, false, false, false]
      · simp only [List.getElem?_toArray, List.getElem?_cons_succ, List.getElem?_cons_zero]; rfl
      · rfl
      · kernel_rfl
      · exact fun _ _ _ h => h
      · exact Or.inl ⟨by rfl, fun w' => by go_simp⟩
      · rfl
      simp only [Act.put, List.setIfInBounds_toArray, List.set_cons_zero, List.set_cons_succ]
      apply pure_ (i := 1) (N := some 29) (v := .int .i64 (k : Int)) #[true, true, false, false, false, false, false, false, false, false, false, false, false, false, false, false]
      · simp only [List.getElem?_toArray, List.getElem?_cons_succ, List.getElem?_cons_zero]; rfl
      · rfl
      · kernel_rfl
      · exact fun _ _ _ h => h
      · exact Or.inl ⟨by rfl, fun w' => by go_simp⟩
      · rfl
      simp only [Act.put, List.setIfInBounds_toArray, List.set_cons_zero, List.set_cons_succ]
      apply pure_ (i := 2) (N := some 30) (v := .pointer (some ⟨w.heap.size, k, none⟩)) #[true, true, true, false, false, false, false, false, false, false, false, false, false, false, false, false]
      · simp only [List.getElem?_toArray, List.getElem?_cons_succ, List.getElem?_cons_zero]; rfl
      · rfl
      · kernel_rfl
      · exact fun _ _ _ h => h
      · exact Or.inl ⟨by rfl, fun w' => by go_simp; intro h; omega⟩
      · rfl
      simp only [Act.put, List.setIfInBounds_toArray, List.set_cons_zero, List.set_cons_succ]
      apply take_ (i := 3) (N := some 31) (v := .int .u8 (x.toNat : Int)) #[true, true, true, true, false, false, false, false, false, false, false, false, false, false, false, false]
      · simp only [List.getElem?_toArray, List.getElem?_cons_succ, List.getElem?_cons_zero]; rfl
      · rfl
      · kernel_rfl
      · exact fun _ _ _ h => h
      · exact Or.inl ⟨by rfl, fun w' hS => by have c := HCX.out w' hS.1; go_simp⟩
      · exact hHeld
      · rfl
      simp only [Act.put, List.setIfInBounds_toArray, List.set_cons_zero, List.set_cons_succ]
      apply pure_ (i := 4) (N := some 32) (v := .int .u8 ((x.toNat % 16 : Nat) : Int)) #[true, true, true, true, true, false, false, false, false, false, false, false, false, false, false, false]
      · simp only [List.getElem?_toArray, List.getElem?_cons_succ, List.getElem?_cons_zero]; rfl
      · rfl
      · kernel_rfl
      · exact fun _ _ _ h => h
      · exact Or.inl ⟨by rfl, fun w' => by go_simp⟩
      · rfl
      simp only [Act.put, List.setIfInBounds_toArray, List.set_cons_zero, List.set_cons_succ]
      apply pure_ (i := 5) (N := some 33) (v := .int .i64 ((x.toNat % 16 : Nat) : Int)) #[true, true, true, true, true, true, false, false, false, false, false, false, false, false, false, false]
      · simp only [List.getElem?_toArray, List.getElem?_cons_succ, List.getElem?_cons_zero]; rfl
      · rfl
      · kernel_rfl
      · exact fun _ _ _ h => h
      · exact Or.inl ⟨by rfl, fun w' => by go_simp; exact IntWalk.i64_in _ (by omega)⟩
      · rfl
      simp only [Act.put, List.setIfInBounds_toArray, List.set_cons_zero, List.set_cons_succ]
      apply pure_ (i := 7) (N := some 35) (v := .int .i64 (k : Int)) #[true, true, true, true, true, true, false, true, false, false, false, false, false, false, false, false]
      · simp only [List.getElem?_toArray, List.getElem?_cons_succ, List.getElem?_cons_zero]; rfl
      · rfl
      · kernel_rfl
      · exact fun _ _ _ h => h
      · exact Or.inl ⟨by rfl, fun w' => by go_simp⟩
      · rfl
      simp only [Act.put, List.setIfInBounds_toArray, List.set_cons_zero, List.set_cons_succ]
      apply pure_ (i := 8) (N := some 36) (v := .pointer (some ⟨w.heap.size, k, none⟩)) #[true, true, true, true, true, true, false, true, true, false, false, false, false, false, false, false]
      · simp only [List.getElem?_toArray, List.getElem?_cons_succ, List.getElem?_cons_zero]; rfl
      · rfl
      · kernel_rfl
      · exact fun _ _ _ h => h
      · exact Or.inl ⟨by rfl, fun w' => by go_simp; intro h; omega⟩
      · rfl
      simp only [Act.put, List.setIfInBounds_toArray, List.set_cons_zero, List.set_cons_succ]
      apply take_ (i := 9) (N := some 37) (v := .int .u8 (x.toNat : Int)) #[true, true, true, true, true, true, false, true, true, true, false, false, false, false, false, false]
      · simp only [List.getElem?_toArray, List.getElem?_cons_succ, List.getElem?_cons_zero]; rfl
      · rfl
      · kernel_rfl
      · exact fun _ _ _ h => h
      · exact Or.inl ⟨by rfl, fun w' hS => by have c := HCX.out w' hS.1; go_simp⟩
      · exact hHeld
      · rfl
      simp only [Act.put, List.setIfInBounds_toArray, List.set_cons_zero, List.set_cons_succ]
      apply pure_ (i := 10) (N := some 38) (v := .int .u8 ((x.toNat / 16 : Nat) : Int)) #[true, true, true, true, true, true, false, true, true, true, true, false, false, false, false, false]
      · simp only [List.getElem?_toArray, List.getElem?_cons_succ, List.getElem?_cons_zero]; rfl
      · rfl
      · kernel_rfl
      · exact fun _ _ _ h => h
      · exact Or.inl ⟨by rfl, fun w' => by go_simp⟩
      · rfl
      simp only [Act.put, List.setIfInBounds_toArray, List.set_cons_zero, List.set_cons_succ]
      apply pure_ (i := 11) (N := some 39) (v := .int .i64 ((x.toNat / 16 : Nat) : Int)) #[true, true, true, true, true, true, false, true, true, true, true, true, false, false, false, false]
      · simp only [List.getElem?_toArray, List.getElem?_cons_succ, List.getElem?_cons_zero]; rfl
      · rfl
      · kernel_rfl
      · exact fun _ _ _ h => h
      · exact Or.inl ⟨by rfl, fun w' => by go_simp; exact IntWalk.i64_in _ (by omega)⟩
      · rfl
      simp only [Act.put, List.setIfInBounds_toArray, List.set_cons_zero, List.set_cons_succ]
      refine one_ (i := 6) (N := some 34) #[true, true, true, true, true, true, true, true, true, true, true, true, false, false, false, false] (by simp only [List.getElem?_toArray, List.getElem?_cons_succ, List.getElem?_cons_zero]; rfl) rfl (by kernel_rfl) (by decide) (fun K hK => ?_)
      refine call_ 32 #[.int .i64 ((x.toNat % 16 : Nat) : Int), .int .i64 16] (by rfl) rfl (by go_simp) ((HCP.out _ hHeld.2.1).mono fun e w' ⟨he, hb⟩ => ⟨_, he, ?_⟩)
      refine hK.out _ _ (hHeld.keep hb) (fun hHeld => ?_)
      clear hK K hb he
      simp only [Act.put, List.setIfInBounds_toArray, List.set_cons_zero, List.set_cons_succ]
      refine one_ (i := 12) (N := some 40) #[true, true, true, true, true, true, true, true, true, true, true, true, true, false, false, false] (by simp only [List.getElem?_toArray, List.getElem?_cons_succ, List.getElem?_cons_zero]; rfl) rfl (by kernel_rfl) (by decide) (fun K hK => ?_)
      refine call_ 32 #[.int .i64 ((x.toNat / 16 : Nat) : Int), .int .i64 16] (by rfl) rfl (by go_simp) ((HCQ.out _ hHeld.2.1).mono fun e w2 ⟨he, hb⟩ => ⟨_, he, ?_⟩)
      refine hK.out _ _ (hHeld.keep hb) (fun hHeld => ?_)
      clear hK K hb he
      simp only [Act.put, List.setIfInBounds_toArray, List.set_cons_zero, List.set_cons_succ]
      refine one_ (i := 13) (N := some 41) #[true, true, true, true, true, true, true, true, true, true, true, true, true, true, false, false] (by simp only [List.getElem?_toArray, List.getElem?_cons_succ, List.getElem?_cons_zero]; rfl) rfl (by kernel_rfl) (by decide) (fun K hK => ?_)
      refine value_ (v := .slice (some ⟨w2.heap.size, 0, none⟩) 2 2) (w1 := w2.alloc (.cells (([p, q] : List ByteArray).map Value.string).toArray 9)) (by rfl) rfl (by go_simp) ?_
      refine hK.out _ _ (hHeld.keep ((Below.refl _ _).alloc (Nat.le_refl _) _)) (fun hHeld => ?_)
      clear hK K
      simp only [Act.put, List.setIfInBounds_toArray, List.set_cons_zero, List.set_cons_succ]
      have HCW : Hid (Kd.string.C (w2.alloc (.cells (([p, q] : List ByteArray).map Value.string).toArray 9)) (some ⟨w2.heap.size, 0, none⟩) 2 [p, q]) := lit_C w2 _ _ (by simp)
      obtain ⟨W, hW⟩ : ∃ W, W = w2.alloc (.cells (([p, q] : List ByteArray).map Value.string).toArray 9) := ⟨_, rfl⟩
      rw [← hW] at HCW hHeld ⊢
      clear hW
      refine last_ (i := 14) (N := some 42) #[true, true, true, true, true, true, true, true, true, true, true, true, true, true, true, false] (by simp only [List.getElem?_toArray, List.getElem?_cons_succ, List.getElem?_cons_zero]; rfl) rfl (by kernel_rfl) (by decide) (fun K hK => ?_)
      refine Kd.R_append_rows_step Kd.string (Rr := Kd.string.K W) (w0 := w1) (w.heap.size + 1) (by rfl) (.tmp 28) (.tmp 41) 28 9 (.string ⟨#[]⟩) 16 rfl Tryd.underlying28 Tryd.infoStr rfl (by decide) (by decide) u3 xs [p, q] (some ⟨w2.heap.size, 0, none⟩) 2 2 (fun _ => True) (fun _ => False) rfl rfl hHeld.2.2.1 HCW.out (fun _ _ h => h) (fun _ hk => hk.elim) (fun _ _ => trivial) hHeld.2.2.2.1 hHeld.2.2.2.2 (by omega) ?_
      intro v3 w3 ho hb hg hat
      refine hK.out _ _ ?_
      clear hK K
      simp only [Act.put, List.setIfInBounds_toArray, List.set_cons_zero, List.set_cons_succ]
      have HV3 : Hid (RevS a w.heap.size (w.heap.size + 1) w1 v3 (xs ++ [p, q]) w3) := ⟨HG1.out.below hb (by omega), (HW.out.below HB1.out HW.out.size).below hb (by have := HW.out.size; omega), ho, hb, by have := hb.size; omega⟩
      clear hHeld HCW ho hb hg hat
      apply pure_ (i := 15) (N := some 3) (v := v3) #[true, true, true, true, true, true, true, true, true, true, true, true, true, true, true, true]
      · simp only [List.getElem?_toArray, List.getElem?_cons_succ, List.getElem?_cons_zero]; rfl
      · rfl
      · kernel_rfl
      · exact fun _ _ _ h => h
      · exact Or.inl ⟨by rfl, fun w' => by go_simp⟩
      · rfl
      simp only [Act.put, List.setIfInBounds_toArray, List.set_cons_zero, List.set_cons_succ]
      refine done_ (by kernel_rfl) ?_
      go_wp2_with fail
      go_roundw
      case rel => first | exact ⟨k, by omega, rfl, by rw [HN.out]; exact HV3⟩ | ((repeat apply Exists.intro); exact ⟨⟨k, by omega, rfl, by rw [HN.out]; exact HV3⟩, rfl⟩)
      case measure => simp [intOf]
    · obtain rfl : m = 0 := by omega
      rw [show ((0 : Nat) : Int) - 1 = -1 from rfl]
      rw [show 2 * (16 - 0) = 32 from rfl] at HV
      have hlen : (bas (Pl.rev6 a 32)).length = 32 := by rw [bas_len, Pl.rev6_len]
      have HXS := Lib.hid (bas_data (Pl.rev6 a 32))
      generalize bas (Pl.rev6 a 32) = xs at HV HXS hlen
      have HL := Lib.hid hlen
      clear hlen
      have HVW : Hid (RevS a w.heap.size (w.heap.size + 1) w1 u3 xs (wr.alloc (.cells (([⟨#[105, 112, 54]⟩, ⟨#[97, 114, 112, 97]⟩] : List ByteArray).map Value.string).toArray 9))) := HV.out.keep ((Below.refl _ _).alloc (Nat.le_refl _) _)
      have HCW : Hid (Kd.string.C (wr.alloc (.cells (([⟨#[105, 112, 54]⟩, ⟨#[97, 114, 112, 97]⟩] : List ByteArray).map Value.string).toArray 9)) (some ⟨wr.heap.size, 0, none⟩) 2 [⟨#[105, 112, 54]⟩, ⟨#[97, 114, 112, 97]⟩]) := lit_C wr _ _ (by decide)
      go_wp2_with ((with_reducible refine gate_builtin (b := .append) (xs := #[.tmp 43, .tmp 44]) rfl ?_); at_builtin; refine Kd.R_append_row Value.string ByteArray.empty (h1 := fun _ => rfl) (w0 := w1) (w.heap.size + 1) rfl (.tmp 43) (.tmp 44) 28 9 (.string ⟨#[]⟩) 16 rfl Tryd.underlying28 Tryd.infoStr rfl (by decide) u3 xs [⟨#[105, 112, 54]⟩, ⟨#[97, 114, 112, 97]⟩] (some ⟨wr.heap.size, 0, none⟩) 2 2 (fun _ => True) rfl rfl (fun _ _ => trivial) ?aO ?aC ?aB ?aZ ?aL ?_; (case aO => exact HVW.out.2.2.1); (case aC => exact HCW.out); (case aB => exact HVW.out.2.2.2.1); (case aZ => exact HVW.out.2.2.2.2); (case aL => rw [HL.out]; omega); intro v3 w3 ho hb hg hat; have HR3 := Lib.hid ho; have HB3 := Lib.hid hb; clear ho hb hg hat)
      have hj : Lib.join ((xs ++ ([⟨#[105, 112, 54]⟩, ⟨#[97, 114, 112, 97]⟩] : List ByteArray)).map (·.data.toList)) [46] = Pl.reverse a := by
        rw [List.map_append, HXS.out]
        unfold Pl.reverse Pl.revL
        rw [if_neg (by rw [H4.out]; decide)]
        rfl
      have HJ := Lib.hid (join_any HR3.out (by rw [List.length_append, HL.out]; decide) (by rw [hj]; have := Pl.reverse_len a; omega))
      rw [hj] at HJ
      clear hj
      refine HJ.out.mono ?_
      rintro e w4 ⟨rfl, hb⟩
      have HB4 : Hid (Below w.heap.size w w4) := (HB1.out.trans (HB3.out.mono (by omega))).trans (hb.mono (by have := HB3.out.size; omega))
      clear hb HJ HR3 HB3
      go_wp2
      go_ret
      exact ⟨rfl, HB4.out⟩

/-- The contract of addr.Reverse. -/
theorem reverse_any (a : List UInt8) (ha : a.length = 16) (w : World) (h : WdA w) : Calls Tryd.prog 18 #[.agg (avs a)] w fun e w' => e = .returned (.string ⟨(Pl.reverse a).toArray⟩) ∧ Below w.heap.size w w' := by
  cases h4 : Pl.is4 a with
  | true => exact reverse4_any a ha h4 w h
  | false => exact reverse6_any a ha h4 w h
end Go.Proofs.YtgdfmhdgmjogiabDoor
