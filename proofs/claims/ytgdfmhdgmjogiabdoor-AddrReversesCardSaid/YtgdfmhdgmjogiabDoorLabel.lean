/- The contract of label.Split and of label.Count. -/
import Derived.Test.YtgdfmhdgmjogiabDoorStr
import Derived.Test.YtgdfmhdgmjogiabDoorWd
import Derived.Test.YtgdfmhdgmjogiabDoorStrs
namespace Go.Proofs.YtgdfmhdgmjogiabDoor
open Go.RowKit Go.Proofs.YtgdfmhdgmjogiabDoorW.PrintWords Go.Proofs.YtgdfmhdgmjogiabDoorW.PrintLast Go.Proofs.YtgdfmhdgmjogiabDoorW.PrintMore
set_option linter.unusedVariables false

/-- The pieces so far, ahead of index i; the next one begins at f. -/
def SplitAt (l : List UInt8) (i f : Nat) (A : List (List UInt8)) : Prop :=
  (i ≤ l.length ∧ f ≤ i ∧ Pl.splitc 46 l = A ++ Pl.splitc 46 (l.drop f) ∧ (46 : UInt8) ∉ (l.drop f).take (i - f)) ∨ (i = l.length + 1 ∧ A = Pl.splitc 46 l)
theorem SplitAt.start (l : List UInt8) : SplitAt l 0 0 [] := Or.inl ⟨by omega, Nat.le_refl _, rfl, by simp⟩
theorem SplitAt.skip {l : List UInt8} {i f : Nat} {A : List (List UInt8)} (h : SplitAt l i f A) (hi : i < l.length) (hc : l.getD i 0 ≠ 46) : SplitAt l (i + 1) f A := by
  rcases h with ⟨h1, h2, h3, h4⟩ | ⟨h1, _⟩
  · refine Or.inl ⟨by omega, by omega, h3, ?_⟩
    rw [show i + 1 - f = (i - f) + 1 by omega, List.take_add_one, List.getElem?_drop, show f + (i - f) = i by omega, List.getElem?_eq_getElem hi]
    simp only [List.mem_append, Option.toList_some, List.mem_singleton]
    rintro (h | h)
    · exact h4 h
    · rw [List.getD_eq_getElem?_getD, List.getElem?_eq_getElem hi] at hc; exact hc h.symm
  · omega
theorem SplitAt.cut {l : List UInt8} {i f : Nat} {A : List (List UInt8)} (h : SplitAt l i f A) (hi : i < l.length) (hc : l.getD i 0 = 46) : SplitAt l (i + 1) (i + 1) (A ++ [(l.take i).drop f]) := by
  rcases h with ⟨h1, h2, h3, h4⟩ | ⟨h1, _⟩
  · refine Or.inl ⟨by omega, Nat.le_refl _, ?_, by simp⟩
    have e : l.drop f = (l.take i).drop f ++ 46 :: l.drop (i + 1) := by
      rw [← hc]
      have e1 : l = l.take i ++ l.getD i 0 :: l.drop (i + 1) := by
        rw [List.getD_eq_getElem?_getD, List.getElem?_eq_getElem hi, Option.getD_some, ← List.drop_eq_getElem_cons hi, List.take_append_drop]
      conv => lhs; rw [e1]
      rw [List.drop_append_of_le_length (by rw [List.length_take]; omega)]
    rw [h3, e, Pl.splitc_app 46 _ _ (by rw [List.drop_take]; exact h4), List.append_assoc]; rfl
  · omega
theorem SplitAt.last {l : List UInt8} {f : Nat} {A : List (List UInt8)} (h : SplitAt l l.length f A) : SplitAt l (l.length + 1) (l.length + 1) (A ++ [(l.take l.length).drop f]) := by
  rcases h with ⟨h1, h2, h3, h4⟩ | ⟨h1, _⟩
  · refine Or.inr ⟨rfl, ?_⟩
    rw [h3, List.take_length, Pl.splitc_none 46 (l.drop f)]
    rwa [List.take_of_length_le (by rw [List.length_drop]; omega)] at h4
  · omega
theorem SplitAt.done {l : List UInt8} {f : Nat} {A : List (List UInt8)} (h : SplitAt l (l.length + 1) f A) : A = Pl.splitc 46 l := by
  rcases h with ⟨h1, _⟩ | ⟨_, h⟩
  · omega
  · exact h
theorem SplitAt.le {l : List UInt8} {i f : Nat} {A : List (List UInt8)} (h : SplitAt l i f A) (hi : i ≤ l.length) : f ≤ i := by
  rcases h with ⟨_, h, _⟩ | ⟨h, _⟩
  · exact h
  · omega
theorem SplitAt.count {l : List UInt8} {i f : Nat} {A : List (List UInt8)} (h : SplitAt l i f A) : A.length ≤ l.length + 1 := by
  rcases h with ⟨_, _, h, _⟩ | ⟨_, h⟩
  · have := congrArg List.length h
    rw [List.length_append, Pl.splitc_length] at this
    have := List.count_le_length (a := (46 : UInt8)) (l := l); omega
  · rw [h, Pl.splitc_length]
    have := List.count_le_length (a := (46 : UInt8)) (l := l); omega

theorem sget (s : ByteArray) (i : Nat) (h : i < s.size) : s[i]'h = s.data.toList.getD i 0 := by
  rw [Lib.size_eq] at h
  rw [List.getD_eq_getElem?_getD, List.getElem?_eq_getElem h, Option.getD_some]
  rfl
theorem run_slice_str (s : ByteArray) (l h : Nat) (hlh : l ≤ h) (hh : h ≤ s.size) (w : World) :
    (Instr.slice 9 (.string s) (some (.int .i64 (l : Int))) (some (.int .i64 (h : Int))) none).run Tryd.prog w = .ok (.string (s.extract l h)) w := by
  unfold Instr.slice
  have h1 : (0 : Int) ≤ h ∧ (h : Int) ≤ s.size := ⟨by omega, by omega⟩
  have h2 : (0 : Int) ≤ l ∧ (l : Int) ≤ h := ⟨by omega, by omega⟩
  simp [run_underlying Tryd.underlying9, Instr.sliceBounds, Instr.sliceBound, asIntOf, h1, h2, hh, hlh]

set_option maxHeartbeats 4000000 in
set_option maxRecDepth 100000 in
theorem label_split (s : ByteArray) (hs : s.size < 4294967281) (w : World) : Calls Tryd.prog 19 #[.string s] w fun e w' =>
    ∃ v xs, e = .returned v ∧ Hid (Kd.R Kd.string 9 w' w.heap.size (fun _ => True) v xs) ∧ xs.map (·.data.toList) = Pl.splitc 46 s.data.toList ∧ Below w.heap.size w w' := by
  have HN : Hid (s.data.toList.length = s.size) := (Lib.size_eq s).symm
  go_enter Tryd.func19, Tryd.ntmps19
  go_wp2_with fail
  have HB0 : Hid (Below w.heap.size w w) := Below.refl _ _
  go_loopw [3, 4, 5, 9] (fun s3 s4 _ s9 wr => ∃ (i f : Nat) (xs : List ByteArray), i ≤ s.size + 1 ∧ s9 = .int .i64 i ∧ s4 = .int .i64 f ∧ Hid (SplitAt s.data.toList i f (xs.map (·.data.toList))) ∧ Hid (Kd.R Kd.string 9 wr w.heap.size (fun _ => True) s3 xs) ∧ Hid (Below w.heap.size w wr)) (fun _ _ _ s9 _ => s.size + 1 - (intOf s9).toNat)
  case atStart => exact ⟨0, 0, [], by omega, rfl, rfl, SplitAt.start _, Kd.R_nil _ _ _ _ _, HB0⟩
  case round =>
    clear HB0
    obtain ⟨i, f, xs, hi, rfl, rfl, HT, HR, HB⟩ := hrel
    have HZ : Hid (w.heap.size ≤ wr.heap.size) := HB.out.size
    have hxl := SplitAt.count HT.out
    rw [List.length_map, HN.out] at hxl
    by_cases hlt : i < s.size
    · have hd4 : decide ((i : Int) < (s.size : Int) + 1) = true := decide_eq_true (by omega)
      have hf : f ≤ i := HT.out.le (by rw [HN.out]; omega)
      have hsl := run_slice_str s f i hf (by omega) wr
      have hni : ((i : Int) == (s.size : Int)) = false := beq_eq_false_iff_ne.2 (by omega)
      by_cases hc : s.data.toList.getD i 0 = 46
      · have hc2 : (((s[i]'hlt).toNat : Int) == 46) = true := by rw [sget s i hlt, hc]; rfl
        have HT2 := Lib.hid (HT.out.cut (by rw [HN.out]; exact hlt) hc)
        clear hc
        obtain ⟨p, hp⟩ : ∃ p, p = s.extract f i := ⟨_, rfl⟩
        rw [← hp] at hsl
        have HP : Hid (p.data.toList = (s.data.toList.take i).drop f) := by show _ = _; rw [hp, Lib.extract_data, List.drop_take]
        clear hp
        rw [← HP.out] at HT2
        go_wp2_with ((with_reducible refine gate_builtin (b := .append) (xs := #[.tmp 22, .tmp 27]) rfl ?_); at_builtin; refine Kd.R_append Kd.string (w0 := w) w.heap.size rfl (.tmp 22) (.tmp 27) 28 9 (.string ⟨#[]⟩) 16 rfl Tryd.underlying28 Tryd.infoStr rfl (by decide) (by omega) u3 xs p [.string p] (fun _ => True) (fun _ => False) rfl rfl ?aP (fun _ hk => hk.elim) (fun _ _ => trivial) HR.out HB.out HZ.out ?aL ?_; (case aP => exact rfl); (case aL => omega); intro v3 w3 ho hb hg hat; have HR3 := Lib.hid ho; have HB3 := Lib.hid hb; clear ho hb hg hat HR)
        go_roundw
        case rel => first | exact ⟨i + 1, i + 1, xs ++ [p], by omega, by go_num, by go_num, by rw [List.map_append]; exact HT2, HR3, HB3⟩ | ((repeat apply Exists.intro); exact ⟨⟨i + 1, i + 1, xs ++ [p], by omega, by go_num, by go_num, by rw [List.map_append]; exact HT2, HR3, HB3⟩, rfl⟩)
        case measure => simp [intOf]; omega
      · have hc2 : (((s[i]'hlt).toNat : Int) == 46) = false := by
          rw [sget s i hlt, beq_eq_false_iff_ne]
          intro h
          apply hc
          apply UInt8.toNat_inj.1
          show _ = 46
          omega
        have HT2 := Lib.hid (HT.out.skip (by rw [HN.out]; exact hlt) hc)
        clear hc hsl
        go_wp2_with fail
        go_roundw
        case rel => first | exact ⟨i + 1, f, xs, by omega, by go_num, by go_num, HT2, HR, HB⟩ | ((repeat apply Exists.intro); exact ⟨⟨i + 1, f, xs, by omega, by go_num, by go_num, HT2, HR, HB⟩, rfl⟩)
        case measure => simp [intOf]; omega
    · by_cases hlast : i = s.size
      · subst hlast
        have hd4 : decide ((s.size : Int) < (s.size : Int) + 1) = true := decide_eq_true (by omega)
        have hf : f ≤ s.size := HT.out.le (by rw [HN.out]; omega)
        have hsl := run_slice_str s f s.size hf (Nat.le_refl _) wr
        have HT2 : Hid (SplitAt s.data.toList (s.size + 1) (s.size + 1) (xs.map (·.data.toList) ++ [(s.data.toList.take s.size).drop f])) := by
          have := HT.out
          rw [← HN.out] at this ⊢
          exact this.last
        obtain ⟨p, hp⟩ : ∃ p, p = s.extract f s.size := ⟨_, rfl⟩
        rw [← hp] at hsl
        have HP : Hid (p.data.toList = (s.data.toList.take s.size).drop f) := by show _ = _; rw [hp, Lib.extract_data, List.drop_take]
        clear hp
        rw [← HP.out] at HT2
        go_wp2_with ((with_reducible refine gate_builtin (b := .append) (xs := #[.tmp 22, .tmp 27]) rfl ?_); at_builtin; refine Kd.R_append Kd.string (w0 := w) w.heap.size rfl (.tmp 22) (.tmp 27) 28 9 (.string ⟨#[]⟩) 16 rfl Tryd.underlying28 Tryd.infoStr rfl (by decide) (by omega) u3 xs p [.string p] (fun _ => True) (fun _ => False) rfl rfl ?aP (fun _ hk => hk.elim) (fun _ _ => trivial) HR.out HB.out HZ.out ?aL ?_; (case aP => exact rfl); (case aL => omega); intro v3 w3 ho hb hg hat; have HR3 := Lib.hid ho; have HB3 := Lib.hid hb; clear ho hb hg hat HR)
        go_roundw
        case rel => first | exact ⟨s.size + 1, s.size + 1, xs ++ [p], by omega, by go_num, by go_num, by rw [List.map_append]; exact HT2, HR3, HB3⟩ | ((repeat apply Exists.intro); exact ⟨⟨s.size + 1, s.size + 1, xs ++ [p], by omega, by go_num, by go_num, by rw [List.map_append]; exact HT2, HR3, HB3⟩, rfl⟩)
        case measure => simp [intOf]
      · obtain rfl : i = s.size + 1 := by omega
        have hD : Hid (xs.map (·.data.toList) = Pl.splitc 46 s.data.toList) := by
          have := HT.out
          rw [← HN.out] at this
          exact this.done
        clear HT
        go_wp2_with fail
        go_ret
        exact ⟨_, xs, rfl, HR, hD.out, HB.out⟩

/-- label.Count of a domain that is not a point. -/
theorem label_count (s : ByteArray) (hs : s.size < 4294967281) (hp : (s.toList == [46]) = false) (w : World) : Calls Tryd.prog 24 #[.string s] w fun e w' =>
    e = .returned (.int .i64 ((Pl.splitc 46 s.data.toList).length : Nat)) ∧ Below w.heap.size w w' := by
  have H := Lib.hid (label_split s hs w)
  go_enter Tryd.func24, Tryd.ntmps24
  go_wp2_with fail
  refine H.out.mono ?_
  rintro e w' ⟨v, xs, rfl, hR, hx, hb⟩
  have hl : xs.length = (Pl.splitc 46 s.data.toList).length := by rw [← hx, List.length_map]
  have hne : xs ≠ [] := by
    intro h
    rw [h] at hx
    exact Pl.splitc_ne _ _ hx.symm
  obtain ⟨g, cap, rfl, _⟩ := R_shape hR.out hne
  rw [hl]
  have HB := Lib.hid hb
  clear H hb hl hx hne hR
  go_wp2
  go_ret
  exact ⟨rfl, HB.out⟩
end Go.Proofs.YtgdfmhdgmjogiabDoor
