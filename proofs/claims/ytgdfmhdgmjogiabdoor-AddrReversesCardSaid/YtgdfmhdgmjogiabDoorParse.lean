/- The contract of addr.Parse. -/
import Derived.Test.YtgdfmhdgmjogiabDoorSixL
import Derived.Test.YtgdfmhdgmjogiabDoorPrint4
namespace Go.Proofs.YtgdfmhdgmjogiabDoor
open Go.RowKit
set_option linter.unusedVariables false

theorem four_length {s a : List UInt8} (h : Pl.four s = some a) : a.length = 16 := by
  unfold Pl.four at h
  split at h
  · rename_i hl
    cases hm : Pl.mapO Pl.parse8 (Pl.splitc 46 s) with
    | none => rw [hm] at h; simp at h
    | some r =>
      rw [hm] at h
      have := Pl.mapO_length _ _ _ hm
      simp at h; subst h
      simp [Pl.v4, Pl.v4head, this, hl]
  · simp at h
theorem six_length {s a : List UInt8} (h : Pl.six s = some a) : a.length = 16 := by
  unfold Pl.six at h
  simp only at h
  split at h
  · simp at h
  · rename_i hc
    generalize hl : Pl.piecesOf (Lib.cut s [58, 58]).1 = l at *
    generalize hr : Pl.piecesOf (Lib.cut s [58, 58]).2.1 = r at *
    cases hm : Pl.mapO Pl.parse16 (l ++ r) with
    | none => rw [hm] at h; simp at h
    | some ws =>
      rw [hm] at h
      have := Pl.mapO_length _ _ _ hm
      simp only [Option.map_some, Option.some.injEq] at h
      rw [← h, Pl.flat2]
      simp at this ⊢
      omega

def errno (r : Option (List UInt8)) : Int := match r with | some _ => 0 | none => 5
def ParseOk (s : List UInt8) (w : World) (e : Ending) (w' : World) : Prop :=
  e = .returned (.tuple #[.agg (avs ((Pl.parse s).getD zero16)), .int .i64 (errno (Pl.parse s))]) ∧ Below w.heap.size w w'

def either (s : List UInt8) : Option (List UInt8) := match Pl.four s with | some a => some a | none => Pl.six s
theorem parse_either (s : List UInt8) : Pl.parse s = (either s).bind fun a => if Pl.print a = s then some a else none := by
  unfold Pl.parse either
  cases Pl.four s with
  | some a => rfl
  | none => cases Pl.six s with
    | some a => rfl
    | none => rfl
theorem either_length {s a : List UInt8} (h : either s = some a) : a.length = 16 := by
  unfold either at h
  cases h4 : Pl.four s with
  | some b => rw [h4] at h; simp at h; subst h; exact four_length h4
  | none => rw [h4] at h; exact six_length h
theorem getD_length {r : Option (List UInt8)} (h : ∀ a, r = some a → a.length = 16) : (r.getD zero16).length = 16 := by
  cases r with
  | some a => exact h a rfl
  | none => rfl

theorem wpList_load_rowG {P : Program} {ops : Array Oper} {rest : List Oper} {o : Oper} {a : Act} {w : World} {Q : Exit → Act → World → Prop} (hw : Region.wanted o (yielded ops a.tmps) = true) (ty : TypeId) (x : Operand) (ho : o.op = .load ty x)
    (g : Nat) (hx : a.eval x = .pointer (some ⟨g, 0, none⟩)) (t : TypeId) (cs : Array Value) (fr : Nat × Nat) (d : TypeDesc) (hg : w.heap[g]? = some (.cells cs t fr))
    (hu : P.underlying ty = some d) (hd : (match d with | .struct _ | .array _ _ => true | _ => false) = true) (hi : (P.info? ty).map (·.size) = some cs.size)
    (h : wpList P ops Q rest (a.put o.dst (.agg cs)) w) : wpList P ops Q (o :: rest) a w :=
  wpList_step fun K hK => by rw [if_pos hw]; exact wp_load_row ty x ho g hx t cs fr d hg hu hd hi (hK _ _ h)

theorem zero_lit : (#[Value.int .u8 0, Value.int .u8 0, Value.int .u8 0, Value.int .u8 0, Value.int .u8 0, Value.int .u8 0, Value.int .u8 0, Value.int .u8 0, Value.int .u8 0, Value.int .u8 0, Value.int .u8 0, Value.int .u8 0, Value.int .u8 0, Value.int .u8 0, Value.int .u8 0, Value.int .u8 0] : Array Value) = avs zero16 := rfl

set_option maxHeartbeats 8000000 in
set_option maxRecDepth 100000 in
theorem parse_any (s : ByteArray) (hs : s.size < 4294967281) (w : World) (h : WdA w) : Calls Tryd.prog 23 #[.string s] w (ParseOk s.data.toList w) := by
  have hw1 : WdA (w.alloc (.cells (avs zero16) 23)) := h.on ((Below.refl _ _).alloc (Nat.le_refl _) _)
  have H4 := Lib.hid (four_any s hs (w.alloc (.cells (avs zero16) 23)) hw1)
  have HW := Lib.hid h
  clear h hw1
  have HR0 : Hid (RowIs (w.alloc (.cells (avs zero16) 23)) w.heap.size (avs zero16) 23) := RowIs.new w _ _
  have HB0 : Hid (Below w.heap.size w (w.alloc (.cells (avs zero16) 23))) := (Below.refl _ _).alloc (Nat.le_refl _) _
  go_enter Tryd.func23, Tryd.ntmps23
  go_wp2_with fail
  refine H4.out.mono ?_
  rintro e w1 ⟨rfl, hb⟩
  have HB1 : Hid (Below w.heap.size w w1) := HB0.out.trans (hb.mono HB0.out.size)
  have HR1 := Lib.hid (HR0.out.below hb HR0.out.lt)
  have HZ1 : Hid (w.heap.size < w1.heap.size) := HR1.out.lt
  clear hb H4 HR0 HB0
  obtain ⟨r4, hr4⟩ : ∃ r, r = Pl.four s.data.toList := ⟨_, rfl⟩
  have hl4 : (r4.getD zero16).length = 16 := getD_length fun a ha => four_length (hr4.symm.trans ha)
  rw [← hr4]
  have HR4 := Lib.hid hr4
  have HL4 := Lib.hid hl4
  clear hr4 hl4
  obtain ⟨v4, hv4⟩ : ∃ v, v = r4.getD zero16 := ⟨_, rfl⟩
  rw [← hv4] at HL4 ⊢
  have HV4 := Lib.hid hv4
  clear hv4
  have HRN : Hid (RowIs (w1.alloc (.cells (avs zero16) 23)) w1.heap.size (avs zero16) 23) := RowIs.new w1 _ _
  have HRO : Hid (RowIs (w1.alloc (.cells (avs zero16) 23)) w.heap.size (avs zero16) 23) := HR1.out.past _
  have HBN : Hid (Below w.heap.size w (w1.alloc (.cells (avs zero16) 23))) := HB1.out.alloc HB1.out.size _
  go_upto_if 12 with (refine wpList_store_addr rfl (.tmp 4) (.tmp 9) rfl w1.heap.size v4 zero16 23 rfl rfl HL4.out rfl HRN.out ?_)
  have HRN2 := Lib.hid (setRow_row HRN.out (avs v4))
  have HRO2 := Lib.hid (setRow_past (g := w1.heap.size) (ds := avs v4) HRO.out (by have := HZ1.out; omega))
  have HBN2 := Lib.hid (below_setRow HBN.out w1.heap.size HB1.out.size (avs v4))
  obtain ⟨w2, hw2⟩ : ∃ w2, w2 = (w1.alloc (.cells (avs zero16) 23)).setRow w1.heap.size (avs v4) := ⟨_, rfl⟩
  obtain ⟨ga, hga⟩ : ∃ n, n = w1.heap.size := ⟨_, rfl⟩
  have HZ2 : Hid (w.heap.size < ga) := by show _ < _; rw [hga]; exact HZ1.out
  rw [← hw2, ← hga] at HRN2
  rw [zero_lit, ← hw2]
  rw [← hw2] at HRO2 HBN2
  rw [← hga]
  clear hw2 hga HRN HRO HBN HZ1 HR1 HB1
  go_cut [5] (fun s5 wx => ∃ v, s5 = .bool (either s.data.toList).isSome ∧ Hid (v = (either s.data.toList).getD zero16) ∧ Hid (v.length = 16) ∧ Hid (RowIs wx ga (avs v) 23) ∧ Hid (RowIs wx w.heap.size (avs zero16) 23) ∧ Hid (Below w.heap.size w wx))
  case first =>
    cases r4 with
    | some a =>
      go_wp2_with fail
      go_meet
      case rel =>
        have he : either s.data.toList = some a := by unfold either; rw [← HR4.out]
        refine ⟨v4, by rw [he], ?_, HL4, HRN2, HRO2, HBN2⟩
        show _ = _
        rw [he, HV4.out]
    | none =>
      have H6 := Lib.hid (six_any s hs w2 (HW.out.on HBN2.out))
      go_wp2_with fail
      refine H6.out.mono ?_
      rintro e w3 ⟨rfl, hb⟩
      have HB3 : Hid (Below w.heap.size w w3) := HBN2.out.trans (hb.mono HBN2.out.size)
      have HRN3 := Lib.hid (HRN2.out.below hb HRN2.out.lt)
      have HRO3 := Lib.hid (HRO2.out.below hb HRO2.out.lt)
      clear hb H6 HBN2 HRN2 HRO2
      have he : either s.data.toList = Pl.six s.data.toList := by unfold either; rw [← HR4.out]
      obtain ⟨r6, hr6⟩ : ∃ r, r = Pl.six s.data.toList := ⟨_, rfl⟩
      have hl6 : (r6.getD zero16).length = 16 := getD_length fun a ha => six_length (hr6.symm.trans ha)
      rw [← hr6] at he ⊢
      clear hr6
      have HE := Lib.hid he
      clear he
      obtain ⟨v6, hv6⟩ : ∃ v, v = r6.getD zero16 := ⟨_, rfl⟩
      rw [← hv6] at hl6 ⊢
      have HV6 := Lib.hid hv6
      have HL6 := Lib.hid hl6
      clear hv6 hl6
      go_wp2_with (refine wpList_store_addr rfl (.tmp 4) (.tmp 16) rfl ga v6 v4 23 rfl rfl HL6.out HL4.out HRN3.out ?_)
      go_meet
      case rel =>
        refine ⟨v6, by rw [HE.out], ?_, HL6, setRow_row HRN3.out (avs v6), setRow_past HRO3.out (by have := HZ2.out; omega), below_setRow HB3.out _ (by have := HZ2.out; omega) _⟩
        show _ = _
        rw [HE.out, HV6.out]
  case rest =>
    clear HR4 HV4 HL4 HRN2 HRO2 HBN2
    obtain ⟨v, rfl, HV, HL, HA, HR, HB⟩ := hcut
    obtain ⟨w3, rfl⟩ : ∃ w2, w2 = wc := ⟨_, rfl⟩
    cases he : either s.data.toList with
    | none =>
      have HP : Hid (Pl.parse s.data.toList = none) := by show _ = _; rw [parse_either, he]; rfl
      clear he
      go_wp2_with (refine wpList_store_addr rfl (.tmp 2) (.tmp 26) rfl w.heap.size zero16 zero16 23 rfl rfl rfl rfl HR.out ?_)
      have HR3 := Lib.hid (setRow_row HR.out (avs zero16))
      refine bodyPost_ret (results_addr Tryd.results23 _ _ w.heap.size zero16 23 rfl rfl HR3.out) rfl ?_
      refine ⟨?_, below_setRow HB.out _ (Nat.le_refl _) _⟩
      rw [HP.out]; rfl
    | some a =>
      have hv : v = a := by rw [HV.out, he]; rfl
      subst hv
      have HE := Lib.hid he
      clear he
      have HPR := Lib.hid (print_any v HL.out w3 (HW.out.on HB.out))
      go_wp2_with (refine wpList_load_rowG (by rfl) 23 (.tmp 4) rfl ga rfl 23 (avs v) (0, 0) _ HA.out Tryd.underlying23 rfl (load_size v HL.out) ?_)
      refine HPR.out.mono ?_
      rintro e w4 ⟨rfl, hb⟩
      have HB4 : Hid (Below w.heap.size w w4) := HB.out.trans (hb.mono HB.out.size)
      have HA4 := Lib.hid (HA.out.below hb HA.out.lt)
      have HR4 := Lib.hid (HR.out.below hb HR.out.lt)
      clear hb HPR HA HR HB
      obtain ⟨p, hp⟩ : ∃ p : ByteArray, p = ⟨(Pl.print v).toArray⟩ := ⟨_, rfl⟩
      have HPP : Hid (p.data.toList = Pl.print v) := by show _ = _; rw [hp]
      rw [← hp]
      clear hp
      by_cases hps : p.toList = s.toList
      · have hb : (p.toList == s.toList) = true := by rw [beq_iff_eq]; exact hps
        have HP : Hid (Pl.parse s.data.toList = some v) := by
          show _ = _
          rw [parse_either, HE.out]
          show (if Pl.print v = s.data.toList then some v else none) = _
          rw [if_pos (by rw [← HPP.out, ← Lib.toList_data, hps, Lib.toList_data])]
        clear hps
        go_wp2_with (first | (refine wpList_load_row rfl 23 _ rfl _ rfl 23 (avs v) (0, 0) _ HA4.out Tryd.underlying23 rfl (load_size v HL.out) ?_) | (refine wpList_store_addr rfl (.tmp 2) (.tmp 27) rfl w.heap.size v zero16 23 rfl rfl HL.out rfl HR4.out ?_))
        have HR3 := Lib.hid (setRow_row HR4.out (avs v))
        refine bodyPost_ret (results_addr Tryd.results23 _ _ w.heap.size v 23 HL.out rfl HR3.out) rfl ?_
        refine ⟨?_, below_setRow HB4.out _ (Nat.le_refl _) _⟩
        rw [HP.out]; rfl
      · have hb : (p.toList == s.toList) = false := by rw [beq_eq_false_iff_ne]; exact hps
        have HP : Hid (Pl.parse s.data.toList = none) := by
          show _ = _
          rw [parse_either, HE.out]
          show (if Pl.print v = s.data.toList then some v else none) = _
          rw [if_neg (by rw [← HPP.out, ← Lib.toList_data, ← Lib.toList_data]; exact hps)]
        clear hps
        go_wp2_with (refine wpList_store_addr rfl (.tmp 2) (.tmp 26) rfl w.heap.size zero16 zero16 23 rfl rfl rfl rfl HR4.out ?_)
        have HR3 := Lib.hid (setRow_row HR4.out (avs zero16))
        refine bodyPost_ret (results_addr Tryd.results23 _ _ w.heap.size zero16 23 rfl rfl HR3.out) rfl ?_
        refine ⟨?_, below_setRow HB4.out _ (Nat.le_refl _) _⟩
        rw [HP.out]; rfl
end Go.Proofs.YtgdfmhdgmjogiabDoor
