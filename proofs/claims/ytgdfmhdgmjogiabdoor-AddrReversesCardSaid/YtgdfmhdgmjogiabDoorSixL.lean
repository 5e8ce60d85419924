/- The contract of addr.six. -/
import Derived.Test.YtgdfmhdgmjogiabDoorFourL
import Derived.Deep.DeepCutAuto
import Derived.Laws.AppendOwnNone
import Derived.Test.YtgdfmhdgmjogiabDoorStrs
import Derived.Outline
namespace Go.Proofs.YtgdfmhdgmjogiabDoor
open Go.RowKit Go.Proofs.YtgdfmhdgmjogiabDoorW.PrintWords Go.Proofs.YtgdfmhdgmjogiabDoorW.PrintLast Go.Proofs.YtgdfmhdgmjogiabDoorW.PrintMore
set_option linter.unusedVariables false

/-- A slice of strings at its own row, or nil. -/
def StrsAt (w : World) (L : Nat) (A : Option Addr) (xs : List ByteArray) : Prop := (A = none ∧ xs = []) ∨ ∃ b, A = some ⟨b, 0, none⟩ ∧ L ≤ b ∧ xs ≠ [] ∧ RowIs w b (svs xs) 9
theorem StrsAt.below {w w' : World} {L : Nat} {A : Option Addr} {xs : List ByteArray} (h : StrsAt w L A xs) (hb : Below w.heap.size w w') : StrsAt w' L A xs := by
  rcases h with h | ⟨b, h1, h0, h2, h3⟩
  · exact Or.inl h
  · exact Or.inr ⟨b, h1, h0, h2, h3.below hb h3.lt⟩

theorem own_svs {w : World} {b L : Nat} {xs : List ByteArray} (h : RowIs w b (svs xs) 9) (hL : L ≤ b) (hm : xs.length ≤ maxLen) : w.ownsRow L 9 1 (.slice (some ⟨b, 0, none⟩) xs.length xs.length) xs.length (xs.map Value.string) := by
  refine ⟨by simp, Or.inr ⟨b, xs.length, svs xs, rfl, hL, h, Nat.le_refl _, hm, by simp [svs], ?_⟩⟩
  simp only [svs, Nat.mul_one]
  rw [List.take_of_length_le (by simp)]

theorem RowIs.ne {w : World} {g g' : Nat} {cs cs' : Array Value} {t t' : TypeId} (h : RowIs w g cs t) (h' : RowIs w g' cs' t') (ht : t ≠ t') : g ≠ g' := by
  rintro rfl
  unfold RowIs at h h'
  rw [h] at h'
  simp only [Option.some.injEq, Obj.cells.injEq] at h'
  exact ht h'.2.1
theorem RowIs.grown {w w' : World} {g : Nat} {cs : Array Value} {t : TypeId} {row : Option Nat} (h : RowIs w g cs t) (hg : w.grownBy w' row) (hne : some g ≠ row) : RowIs w' g cs t := by
  unfold RowIs at *
  rw [hg.block g (RowIs.lt h) hne]; exact h

/-- A slice of strings that is read: its row, whatever spare it has. -/
def StrsRow (w : World) (A : Option Addr) (n c : Nat) (xs : List ByteArray) : Prop := xs.length = n ∧ n ≤ c ∧ (n = 0 ∨ ∃ g cur, A = some ⟨g, 0, none⟩ ∧ RowIs w g cur 9 ∧ ∀ (j : Nat) x, xs[j]? = some x → cur[j]? = some (.string x))
theorem StrsRow.of_own {w : World} {L n : Nat} {v : Value} {xs : List ByteArray} (h : w.ownsRow L 9 1 v n (xs.map Value.string)) : ∃ A c, v = .slice A n c ∧ StrsRow w A n c xs := by
  have hl : xs.length = n := by have := h.1; simpa using this
  rcases h.2 with ⟨rfl, rfl⟩ | ⟨g, cap, cur, rfl, hg, hr, hc, hm, hs, ht⟩
  · exact ⟨none, 0, rfl, hl, Nat.le_refl _, Or.inl rfl⟩
  · refine ⟨_, cap, rfl, hl, hc, Or.inr ⟨g, cur, rfl, hr, ?_⟩⟩
    intro j x hj
    have hlt := (List.getElem?_eq_some_iff.1 hj).1
    have h1 : (cur.toList.take (n * 1))[j]? = some (.string x) := by rw [ht, List.getElem?_map, hj]; rfl
    rw [List.getElem?_take] at h1
    split at h1
    · simpa using h1
    · cases h1
theorem StrsRow.below {w w' : World} {A : Option Addr} {n c : Nat} {xs : List ByteArray} (h : StrsRow w A n c xs) (hb : Below w.heap.size w w') : StrsRow w' A n c xs := by
  obtain ⟨h1, h2, h3⟩ := h
  refine ⟨h1, h2, ?_⟩
  rcases h3 with h | ⟨g, cur, ha, hr, hc⟩
  · exact Or.inl h
  · exact Or.inr ⟨g, cur, ha, hr.below hb hr.lt, hc⟩

theorem cell_svs {w : World} {b : Nat} {xs : List ByteArray} (h : RowIs w b (svs xs) 9) {j : Nat} {u : Value} (hj : (xs.map Value.string)[j]? = some u) : w.cell? ((⟨b, 0, none⟩ : Addr).add j) = some u := by
  have ea : (⟨b, 0, none⟩ : Addr).add j = ⟨b, j, none⟩ := by simp [Addr.add]; intro h; exact h.symm
  rw [ea, h.cell j]; simpa [svs] using hj

def fillW (p q : Nat) (us : List Nat) : List Nat := us.take p ++ List.replicate (8 - q - min us.length p) 0 ++ us.drop p ++ List.replicate (q - (us.length - p)) 0
theorem fillW_lo (p q : Nat) (us : List Nat) (u : Nat) (hpq : p + q ≤ 8) (h : us.length < p) : (fillW p q us).set us.length u = fillW p q (us ++ [u]) := by
  unfold fillW
  rw [List.take_of_length_le (by omega : us.length ≤ p), List.drop_of_length_le (by omega : us.length ≤ p)]
  rw [List.take_of_length_le (by simp; omega : (us ++ [u]).length ≤ p), List.drop_of_length_le (by simp; omega : (us ++ [u]).length ≤ p)]
  rw [List.length_append, List.length_singleton, Nat.min_eq_left (by omega), Nat.min_eq_left (by omega)]
  obtain ⟨m, hm⟩ : ∃ m, 8 - q - us.length = m + 1 := ⟨8 - q - us.length - 1, by omega⟩
  rw [hm, show 8 - q - (us.length + 1) = m by omega, show us.length - p = 0 by omega, show us.length + 1 - p = 0 by omega]
  simp [List.replicate_succ]
theorem fillW_hi (p q : Nat) (us : List Nat) (u : Nat) (hpq : p + q ≤ 8) (h : p ≤ us.length) (h2 : us.length < p + q) : (fillW p q us).set (us.length + (8 - p - q)) u = fillW p q (us ++ [u]) := by
  unfold fillW
  rw [List.length_append, List.length_singleton, Nat.min_eq_right (by omega), Nat.min_eq_right (by omega)]
  rw [List.take_append_of_le_length (by omega), List.drop_append_of_le_length (by omega)]
  obtain ⟨m, hm⟩ : ∃ m, q - (us.length - p) = m + 1 := ⟨q - (us.length - p) - 1, by omega⟩
  rw [hm, show q - (us.length + 1 - p) = m by omega]
  rw [List.set_append_right _ _ (by simp; omega)]
  have e : us.length + (8 - p - q) - (us.take p ++ List.replicate (8 - q - p) 0 ++ us.drop p).length = 0 := by simp; omega
  rw [e, List.replicate_succ]
  simp
theorem fillW_all (p q : Nat) (us : List Nat) (h : us.length = p + q) (hpq : p + q ≤ 8) : fillW p q us = us.take p ++ List.replicate (8 - p - q) 0 ++ us.drop p := by
  unfold fillW
  rw [h, Nat.min_eq_right (by omega), show q - (p + q - p) = 0 by omega, show 8 - q - p = 8 - p - q by omega]
  simp
theorem fillW_len (p q : Nat) (us : List Nat) (hpq : p + q ≤ 8) (h : us.length ≤ p + q) : (fillW p q us).length = 8 := by
  unfold fillW; simp; omega

theorem pieces_le {s hd tl : ByteArray} {xs7 xs8 : List ByteArray} (h7 : xs7.map (·.data.toList) = Pl.piecesOf hd.data.toList) (h8 : xs8.map (·.data.toList) = Pl.piecesOf tl.data.toList) (hh : hd.size ≤ s.size) (ht : tl.size ≤ s.size) :
    ∀ x ∈ (xs7 ++ xs8).map (·.data.toList), x.length ≤ s.size := by
  have hp : ∀ (t : List UInt8) x, x ∈ Pl.piecesOf t → x.length ≤ t.length := by
    intro t x hx
    unfold Pl.piecesOf at hx
    split at hx
    · cases hx
    · exact Pl.splitc_le 58 t x hx
  intro x hx
  rw [List.map_append, h7, h8, List.mem_append] at hx
  rw [Lib.size_eq, Lib.size_eq] at hh ht
  rw [Lib.size_eq]
  rcases hx with hx | hx
  · have := hp _ x hx; omega
  · have := hp _ x hx; omega
def flatW (l : List Nat) : List UInt8 := (l.map Pl.unword).flatten
theorem flatW_len (l : List Nat) : (flatW l).length = 2 * l.length := Pl.flat2 l
theorem fillW_nil (p q : Nat) (h : p + q ≤ 8) : flatW (fillW p q []) = zero16 := by
  have e : fillW p q [] = List.replicate 8 0 := by
    unfold fillW
    simp only [List.take_nil, List.drop_nil, List.length_nil, List.nil_append, List.append_nil, Nat.zero_min, Nat.sub_zero, Nat.zero_sub]
    rw [List.replicate_append_replicate]
    congr 1; omega
  rw [e]; decide +kernel
theorem flatW_set : ∀ (l : List Nat) (p u : Nat), p < l.length → ((flatW l).set (2 * p) (UInt8.ofNat (u / 256))).set (2 * p + 1) (UInt8.ofNat u) = flatW (l.set p u)
  | [], p, u, h => by simp at h
  | x :: l, 0, u, _ => by simp [flatW, Pl.unword]
  | x :: l, p + 1, u, h => by
    have ih := flatW_set l p u (by simpa using h)
    simp only [flatW, List.map_cons, List.flatten_cons, List.set_cons_succ, Pl.unword] at ih ⊢
    rw [show 2 * (p + 1) = 2 * p + 1 + 1 by omega]
    simp only [List.cons_append, List.nil_append, List.set_cons_succ]
    rw [ih]

theorem avs_set (a : List UInt8) (i : Nat) (b : UInt8) : (avs a).setIfInBounds i (.int .u8 (b.toNat : Int)) = avs (a.set i b) := by
  unfold avs
  rw [List.setIfInBounds_toArray, List.map_set]
theorem two_sets {w : World} {ga p u : Nat} {l : List Nat} (h : RowIs w ga (avs (flatW l)) 23) (hp : p < l.length) :
    (∃ o, w.cell? ⟨ga, 2 * p, none⟩ = some (.int .u8 o)) ∧ (∃ o, (w.setCell ⟨ga, 2 * p, none⟩ (.int .u8 ((u : Int) / 256 % 256))).cell? ⟨ga, 2 * p + 1, none⟩ = some (.int .u8 o)) ∧
      w.frozen? ⟨ga, 2 * p, none⟩ = false ∧ (w.setCell ⟨ga, 2 * p, none⟩ (.int .u8 ((u : Int) / 256 % 256))).frozen? ⟨ga, 2 * p + 1, none⟩ = false ∧
      RowIs ((w.setCell ⟨ga, 2 * p, none⟩ (.int .u8 ((u : Int) / 256 % 256))).setCell ⟨ga, 2 * p + 1, none⟩ (.int .u8 ((u : Int) % 256))) ga (avs (flatW (l.set p u))) 23 := by
  have hl := flatW_len l
  have e1 : ((u : Int) / 256 % 256) = ((UInt8.ofNat (u / 256)).toNat : Int) := by rw [UInt8.toNat_ofNat']; omega
  have e2 : ((u : Int) % 256) = ((UInt8.ofNat u).toNat : Int) := by rw [UInt8.toNat_ofNat']; omega
  have r1 := h.set (2 * p) (.int .u8 ((u : Int) / 256 % 256))
  have s1 : (avs (flatW l)).setIfInBounds (2 * p) (.int .u8 ((u : Int) / 256 % 256)) = avs ((flatW l).set (2 * p) (UInt8.ofNat (u / 256))) := by rw [e1]; exact avs_set _ _ _
  rw [s1] at r1
  have r2 := r1.set (2 * p + 1) (.int .u8 ((u : Int) % 256))
  have s2 : (avs ((flatW l).set (2 * p) (UInt8.ofNat (u / 256)))).setIfInBounds (2 * p + 1) (.int .u8 ((u : Int) % 256)) = avs (((flatW l).set (2 * p) (UInt8.ofNat (u / 256))).set (2 * p + 1) (UInt8.ofNat u)) := by rw [e2]; exact avs_set _ _ _
  rw [s2, flatW_set l p u hp] at r2
  have c1 := h.cell (2 * p)
  rw [avs_get _ _ (by rw [hl]; omega)] at c1
  have c2 := r1.cell (2 * p + 1)
  rw [avs_get _ _ (by rw [List.length_set, hl]; omega)] at c2
  have f1 := h.frozen (2 * p)
  have f2 := r1.frozen (2 * p + 1)
  exact ⟨⟨_, c1⟩, ⟨_, c2⟩, f1, f2, r2⟩
theorem StrsRow.two {w : World} {A : Option Addr} {n c ga : Nat} {xs : List ByteArray} {cs : Array Value} (h : StrsRow w A n c xs) (ha : RowIs w ga cs 23) (i : Nat) (v : Value) (j : Nat) (v' : Value) : StrsRow ((w.setCell ⟨ga, i, none⟩ v).setCell ⟨ga, j, none⟩ v') A n c xs := by
  obtain ⟨h1, h2, h3⟩ := h
  refine ⟨h1, h2, ?_⟩
  rcases h3 with h | ⟨g, cur, hA, hr, hc⟩
  · exact Or.inl h
  · have hne : g ≠ ga := fun e => RowIs.ne hr ha (by decide) e
    exact Or.inr ⟨g, cur, hA, (hr.other ga i v hne).other ga j v' hne, hc⟩

set_option maxHeartbeats 8000000 in
set_option maxRecDepth 100000 in
theorem six_any (s : ByteArray) (hs : s.size < 4294967281) (w : World) (h : WdA w) : Calls Tryd.prog 36 #[.string s] w (AddrOk (Pl.six s.data.toList) w) := by
  have hw1 : WdA (w.alloc (.cells (avs zero16) 23)) := h.on ((Below.refl _ _).alloc (Nat.le_refl _) _)
  obtain ⟨m, hm⟩ := hw1.maxlen
  have HCT := Lib.hid (Tryd.strings_Cut s ⟨#[58, 58]⟩ m (w.alloc (.cells (avs zero16) 23)) hs hm)
  have HW := Lib.hid h
  clear h hw1 hm
  go_enter Tryd.func36, Tryd.ntmps36
  go_wp2_with fail
  refine HCT.out.mono ?_
  rintro e w1 ⟨rfl, k, rfl⟩
  have HR0 : Hid (RowIs ((w.alloc (.cells (avs zero16) 23)).drewN k) w.heap.size (avs zero16) 23) := (RowIs.new w _ _).drewN k
  have HB0 : Hid (Below w.heap.size w ((w.alloc (.cells (avs zero16) 23)).drewN k)) := below_drewN ((Below.refl _ _).alloc (Nat.le_refl _) _) k
  have HZ0 : Hid (w.heap.size + 1 ≤ ((w.alloc (.cells (avs zero16) 23)).drewN k).heap.size) := by show _ ≤ (w.alloc _).heap.size; rw [World.size_alloc]; omega
  obtain ⟨w1, hw1⟩ : ∃ w1, w1 = ((w.alloc (.cells (avs zero16) 23)).drewN k) := ⟨_, rfl⟩
  rw [← hw1] at HR0 HB0 HZ0 ⊢
  obtain ⟨hd, hhd⟩ : ∃ b : ByteArray, b = ⟨(Lib.cut s.data.toList [58, 58]).1.toArray⟩ := ⟨_, rfl⟩
  obtain ⟨tl, htl⟩ : ∃ b : ByteArray, b = ⟨(Lib.cut s.data.toList [58, 58]).2.1.toArray⟩ := ⟨_, rfl⟩
  obtain ⟨gp, hgp⟩ : ∃ b : Bool, b = (Lib.cut s.data.toList [58, 58]).2.2 := ⟨_, rfl⟩
  rw [← hhd, ← htl, ← hgp]
  have HHD : Hid (hd.data.toList = (Lib.cut s.data.toList [58, 58]).1) := by show _ = _; rw [hhd]
  have HTL : Hid (tl.data.toList = (Lib.cut s.data.toList [58, 58]).2.1) := by show _ = _; rw [htl]
  have HGP := Lib.hid hgp
  clear hw1 hhd htl hgp HCT
  have hhl : hd.size ≤ s.size := by
    rw [Lib.size_eq, Lib.size_eq, HHD.out]; exact (Pl.cut_le _ _).1
  have htl : tl.size ≤ s.size := by
    rw [Lib.size_eq, Lib.size_eq, HTL.out]; exact (Pl.cut_le _ _).2
  go_upto_if 21 with (fail)
  go_cut [7] (fun s7 wx => ∃ (A : Option Addr) (xs : List ByteArray), s7 = .slice A xs.length xs.length ∧ Hid (StrsAt wx (w.heap.size + 1) A xs) ∧ Hid (xs.map (·.data.toList) = Pl.piecesOf hd.data.toList) ∧ Hid (RowIs wx w.heap.size (avs zero16) 23) ∧ Hid (Below w.heap.size w wx) ∧ Hid (w.heap.size + 1 ≤ wx.heap.size))
  case first =>
    by_cases he : hd.data.toList = []
    · have hem : (!hd.toList.isEmpty) = false := by rw [Lib.toList_data, he]; rfl
      rw [hem]
      clear hem
      have HE := Lib.hid he
      clear he
      go_wp2_with fail
      go_meet
      case rel => exact ⟨none, [], rfl, Or.inl ⟨rfl, rfl⟩, by show _ = _; rw [HE.out]; rfl, HR0, HB0, HZ0⟩
    · have hem : (!hd.toList.isEmpty) = true := by
        rw [Lib.toList_data]; cases h : hd.data.toList with
        | nil => exact absurd h he
        | cons x r => rfl
      rw [hem]
      clear hem
      have HE := Lib.hid he
      have hsp := Lib.hid (split_any hd 58 w1 (HW.out.below HB0.out HW.out.size) (by omega))
      clear he
      go_wp2_with fail
      refine hsp.out.mono ?_
      rintro e w2 ⟨xs, hxs, rfl, rfl⟩
      have HX : Hid (RowIs (w1.alloc (.cells (svs xs) 9)) w1.heap.size (svs xs) 9) := RowIs.new _ _ _
      have HR1 : Hid (RowIs (w1.alloc (.cells (svs xs) 9)) w.heap.size (avs zero16) 23) := HR0.out.past _
      have HB1 : Hid (Below w.heap.size w (w1.alloc (.cells (svs xs) 9))) := HB0.out.alloc HB0.out.size _
      have HZ1 : Hid (w.heap.size + 1 ≤ (w1.alloc (.cells (svs xs) 9)).heap.size) := by show _ ≤ _; rw [World.size_alloc]; have := HZ0.out; omega
      have HXS := Lib.hid hxs
      clear hxs hsp
      go_wp2_with fail
      go_meet
      case rel =>
        refine ⟨some ⟨w1.heap.size, 0, none⟩, xs, rfl, Or.inr ⟨_, rfl, HZ0.out, ?_, HX⟩, ?_, HR1, HB1, HZ1⟩
        · intro h; have := HXS.out; rw [h] at this; exact Pl.splitc_ne _ _ this.symm
        · show _ = _; unfold Pl.piecesOf; rw [if_neg HE.out]; exact HXS.out
  case rest =>
    clear HR0 HB0 HZ0
    obtain ⟨A7, xs7, rfl, HS7, HP7, HR, HB, HZ⟩ := hcut
    obtain ⟨w2, rfl⟩ : ∃ w2, w2 = wc := ⟨_, rfl⟩
    go_upto_if 25 with (fail)
    go_cut [8] (fun s8 wx => ∃ (A : Option Addr) (xs : List ByteArray), s8 = .slice A xs.length xs.length ∧ Hid (StrsAt wx (w.heap.size + 1) A xs) ∧ Hid (xs.map (·.data.toList) = Pl.piecesOf tl.data.toList) ∧ Hid (StrsAt wx (w.heap.size + 1) A7 xs7) ∧ Hid (RowIs wx w.heap.size (avs zero16) 23) ∧ Hid (Below w.heap.size w wx) ∧ Hid (w.heap.size + 1 ≤ wx.heap.size))
    case first =>
      by_cases he : tl.data.toList = []
      · have hem : (!tl.toList.isEmpty) = false := by rw [Lib.toList_data, he]; rfl
        rw [hem]
        clear hem
        have HE := Lib.hid he
        clear he
        go_wp2_with fail
        go_meet
        case rel => exact ⟨none, [], rfl, Or.inl ⟨rfl, rfl⟩, by show _ = _; rw [HE.out]; rfl, HS7, HR, HB, HZ⟩
      · have hem : (!tl.toList.isEmpty) = true := by
          rw [Lib.toList_data]; cases h : tl.data.toList with
          | nil => exact absurd h he
          | cons x r => rfl
        rw [hem]
        clear hem
        have HE := Lib.hid he
        have hsp := Lib.hid (split_any tl 58 w2 (HW.out.below HB.out HW.out.size) (by omega))
        clear he
        go_wp2_with fail
        refine hsp.out.mono ?_
        rintro e w3 ⟨xs, hxs, rfl, rfl⟩
        have HX : Hid (RowIs (w2.alloc (.cells (svs xs) 9)) w2.heap.size (svs xs) 9) := RowIs.new _ _ _
        have HR1 : Hid (RowIs (w2.alloc (.cells (svs xs) 9)) w.heap.size (avs zero16) 23) := HR.out.past _
        have HS71 : Hid (StrsAt (w2.alloc (.cells (svs xs) 9)) (w.heap.size + 1) A7 xs7) := HS7.out.below ((Below.refl _ _).alloc (Nat.le_refl _) _)
        have HB1 : Hid (Below w.heap.size w (w2.alloc (.cells (svs xs) 9))) := HB.out.alloc HB.out.size _
        have HZ1 : Hid (w.heap.size + 1 ≤ (w2.alloc (.cells (svs xs) 9)).heap.size) := by show _ ≤ _; rw [World.size_alloc]; have := HZ.out; omega
        have HXS := Lib.hid hxs
        clear hxs hsp
        go_wp2_with fail
        go_meet
        case rel =>
          refine ⟨some ⟨w2.heap.size, 0, none⟩, xs, rfl, Or.inr ⟨_, rfl, HZ.out, ?_, HX⟩, ?_, HS71, HR1, HB1, HZ1⟩
          · intro h; have := HXS.out; rw [h] at this; exact Pl.splitc_ne _ _ this.symm
          · show _ = _; unfold Pl.piecesOf; rw [if_neg HE.out]; exact HXS.out
    case rest =>
      clear HR HB HZ HS7
      obtain ⟨A8, xs8, rfl, HS8, HP8, HS7, HR, HB, HZ⟩ := hcut
      obtain ⟨w3, rfl⟩ : ∃ w2, w2 = wc := ⟨_, rfl⟩
      have HL7 : Hid (xs7.length = (Pl.piecesOf (Lib.cut s.data.toList [58, 58]).1).length) := by show _ = _; rw [← HHD.out, ← HP7.out, List.length_map]
      have HL8 : Hid (xs8.length = (Pl.piecesOf (Lib.cut s.data.toList [58, 58]).2.1).length) := by show _ = _; rw [← HTL.out, ← HP8.out, List.length_map]
      have hb7 : xs7.length ≤ 4294967297 := by
        have h1 := Pl.pieces_len hd.data.toList
        rw [← HP7.out, List.length_map, ← Lib.size_eq] at h1; omega
      have hb8 : xs8.length ≤ 4294967297 := by
        have h1 := Pl.pieces_len tl.data.toList
        rw [← HP8.out, List.length_map, ← Lib.size_eq] at h1; omega
      obtain ⟨n7, hn7⟩ : ∃ n, n = xs7.length := ⟨_, rfl⟩
      obtain ⟨n8, hn8⟩ : ∃ n, n = xs8.length := ⟨_, rfl⟩
      rw [← hn7] at hb7 HL7 ⊢
      rw [← hn8] at hb8 HL8 ⊢
      have HN7 := Lib.hid hn7
      have HN8 := Lib.hid hn8
      clear hn7 hn8
      go_upto_region 7 with (fail)
      go_cut [6, 42] (fun s6 s42 wx => s6 = .bool gp ∧ wx = w3 ∧ ((s42 = .bool true ∧ Hid (8 < n7 + n8 ∨ (gp = false ∧ n7 ≠ 8))) ∨ (s42 = .bool false ∧ n7 + n8 ≤ 8 ∧ Hid (gp = true ∨ n7 = 8))))
      case first =>
        by_cases hbig : 8 < n7 + n8
        · go_wp2_with fail
          go_meet
          case rel => exact ⟨rfl, rfl, Or.inl ⟨rfl, Or.inl hbig⟩⟩
        · cases hg : gp with
          | true =>
            go_wp2_with fail
            go_meet
            case rel => exact ⟨by rw [hg], rfl, Or.inr ⟨by first | rfl | exact congrArg Value.bool (decide_eq_false (by omega)), by omega, Or.inl hg⟩⟩
          | false =>
            by_cases h8 : n7 = 8
            · have hb : ((n7 : Int) != 8) = false := by rw [h8]; rfl
              have HH := Lib.hid h8
              clear h8
              go_wp2_with fail
              go_meet
              case rel => exact ⟨by rw [hg], rfl, Or.inr ⟨by first | rfl | exact congrArg Value.bool (decide_eq_false (by omega)), by omega, Or.inr HH.out⟩⟩
            · have hb : ((n7 : Int) != 8) = true := by rw [bne_iff_ne]; omega
              have HH := Lib.hid h8
              clear h8
              go_wp2_with fail
              go_meet
              case rel => exact ⟨by rw [hg], rfl, Or.inl ⟨rfl, Or.inr ⟨hg, HH.out⟩⟩⟩
      case rest =>
        obtain ⟨rfl, hwc, ⟨rfl, HT⟩ | ⟨rfl, hsum, HT0⟩⟩ := hcut
        · subst hwc
          have HF : Hid (Pl.six s.data.toList = none) := by
            show _ = _
            unfold Pl.six
            simp only
            rw [if_pos]
            rw [← HL7.out, ← HL8.out, ← HGP.out]; exact HT.out
          go_wp2_with (refine wpList_store_addr rfl (.tmp 2) (.tmp 43) rfl w.heap.size zero16 zero16 23 rfl rfl rfl rfl HR.out ?_)
          have HR3 := Lib.hid (setRow_row HR.out (avs zero16))
          refine bodyPost_ret (results_addr Tryd.results36 _ _ w.heap.size zero16 23 rfl rfl HR3.out) rfl ?_
          refine ⟨?_, below_setRow HB.out _ (Nat.le_refl _) _⟩
          rw [HF.out]; rfl
        · subst hwc
          go_upto_region 10 with (fail)
          have HA4 : Hid (RowIs (wc.alloc (.cells (avs zero16) 23)) wc.heap.size (avs zero16) 23) := RowIs.new _ _ _
          have HR4 : Hid (RowIs (wc.alloc (.cells (avs zero16) 23)) w.heap.size (avs zero16) 23) := HR.out.past _
          have HB4 : Hid (Below w.heap.size w (wc.alloc (.cells (avs zero16) 23))) := HB.out.alloc HB.out.size _
          have HS74 : Hid (StrsAt (wc.alloc (.cells (avs zero16) 23)) (w.heap.size + 1) A7 xs7) := HS7.out.below ((Below.refl _ _).alloc (Nat.le_refl _) _)
          have HS84 : Hid (StrsAt (wc.alloc (.cells (avs zero16) 23)) (w.heap.size + 1) A8 xs8) := HS8.out.below ((Below.refl _ _).alloc (Nat.le_refl _) _)
          obtain ⟨ga, hga⟩ : ∃ g, g = wc.heap.size := ⟨_, rfl⟩
          have HGA : Hid (w.heap.size + 1 ≤ ga) := by show _ ≤ _; rw [hga]; exact HZ.out
          obtain ⟨w4, hw4⟩ : ∃ w4, w4 = wc.alloc (.cells (avs zero16) 23) := ⟨_, rfl⟩
          have HZ4 : Hid (w.heap.size + 1 ≤ w4.heap.size) := by show _ ≤ _; rw [hw4, World.size_alloc]; have := HZ.out; omega
          change Code.wp _ _ _ _ (wc.alloc (.cells (avs zero16) 23))
          rw [← hw4] at HA4 HR4 HB4 HS74 HS84 ⊢
          rw [← hga] at HA4 ⊢
          clear hw4 hga HR HB HZ HS7 HS8
          go_cut [51, 52, 53] (fun s51 s52 s53 wx => s52 = .int .i64 (n7 + n8 : Nat) ∧ s53 = .int .i64 0 ∧ (∃ A c, s51 = .slice A (n7 + n8) c ∧ Hid (StrsRow wx A (n7 + n8) c (xs7 ++ xs8))) ∧ Hid (RowIs wx ga (avs zero16) 23) ∧ Hid (RowIs wx w.heap.size (avs zero16) 23) ∧ Hid (Below w.heap.size w wx))
          case first =>
            obtain ⟨i0, hi0, hz0, hz1, hz2⟩ := info_parts Tryd.infoStr
            rcases HS84.out with ⟨rfl, h8⟩ | ⟨b8, rfl, hb8, hne8, hr8⟩
            · have h80 : n8 = 0 := by rw [HN8.out, h8]; rfl
              subst h80
              rcases HS74.out with ⟨rfl, h7⟩ | ⟨b7, rfl, hb7, hne7, hr7⟩
              · have h70 : n7 = 0 := by rw [HN7.out, h7]; rfl
                subst h70
                have HO : Hid (StrsRow w4 none (0 + 0) 0 (xs7 ++ xs8)) := by rw [h7, h8]; exact ⟨rfl, Nat.le_refl _, Or.inl rfl⟩
                clear h7 h8 hi0 hz0 hz1 hz2
                go_wp2_with fail
                go_meet
                case rel => exact ⟨rfl, rfl, ⟨none, 0, rfl, HO⟩, HA4, HR4, HB4⟩
              · have HO : Hid (w4.ownsRow (w.heap.size + 1) 9 1 (.slice (some ⟨b7, 0, none⟩) n7 n7) n7 (xs7.map Value.string)) := by
                  rw [HN7.out]; exact own_svs hr7 hb7 (by unfold maxLen; rw [← HN7.out]; omega)
                have HO2 : Hid (StrsRow w4 (some ⟨b7, 0, none⟩) (n7 + 0) n7 (xs7 ++ xs8)) := by
                  rw [h8, List.append_nil]
                  obtain ⟨A, c, hv, hs⟩ := StrsRow.of_own HO.out
                  cases hv; exact hs
                have HI := Lib.hid hi0
                clear h8 hi0 hz0 hz1 hz2 hr7
                go_wp2_with ((with_reducible refine gate_builtin (b := .append) (xs := #[.tmp 49, .tmp 50]) rfl ?_); at_builtin; refine wpList_append_own_none rfl (.tmp 49) (.tmp 50) 28 rfl (w.heap.size + 1) 9 i0 1 Tryd.underlying28 HI.out (.slice (some ⟨b7, 0, none⟩) n7 n7) n7 (xs7.map Value.string) rfl HO.out rfl ?_)
                go_meet
                case rel => exact ⟨rfl, rfl, ⟨_, _, rfl, HO2⟩, HA4, HR4, HB4⟩
            · rcases HS74.out with ⟨rfl, h7⟩ | ⟨b7, rfl, hb7, hne7, hr7⟩
              · have h70 : n7 = 0 := by rw [HN7.out, h7]; rfl
                subst h70
                have HO : Hid (w4.ownsRow (w.heap.size + 1) 9 1 (.slice none 0 0) 0 (xs7.map Value.string)) := by
                  rw [h7]; exact World.ownsRow_nil _ _ _ _
                have hnw : ∀ (j : Nat) u, (xs8.map Value.string)[j]? = some u → w4.cell? ((⟨b8, 0, none⟩ : Addr).add j) = some u := by
                  intro j u hj
                  exact cell_svs hr8 hj
                have hn1 : ∀ u ∈ xs8.map Value.string, u.oneCell' = true := by
                  intro u hu; simp at hu; obtain ⟨x, _, rfl⟩ := hu; rfl
                have hnl : (xs8.map Value.string).length = n8 * 1 := by rw [List.length_map, HN8.out]; simp
                have HNW := Lib.hid hnw
                have HN1 := Lib.hid hn1
                have HNL := Lib.hid hnl
                have HI := Lib.hid hi0
                have HI0 := Lib.hid hz0
                have HI1 := Lib.hid hz1
                have HI2 := Lib.hid hz2
                have HX7 := Lib.hid h7
                clear hi0 hz0 hz1 hz2 hnw hn1 hnl hr8 h7
                go_wp2_with ((with_reducible refine gate_builtin (b := .append) (xs := #[.tmp 49, .tmp 50]) rfl ?_); at_builtin; go_loud (refine wpList_append_own _ rfl (.tmp 49) (.tmp 50) 28 rfl (w.heap.size + 1) 9 i0 (.string ⟨#[]⟩) 1 16 Tryd.underlying28 HI.out HI0.out HI1.out HI2.out rfl (by decide) (.slice none 0 0) 0 (xs7.map Value.string) rfl HO.out ⟨b8, 0, none⟩ n8 n8 (xs8.map Value.string) rfl HNL.out HNW.out HN1.out ?c1 ?c2 HZ4.out ?_); (case c1 => unfold maxLen; omega); (case c2 => omega); intro v5 w5 hown hg _; have HG5 := Lib.hid hg; rw [← List.map_append] at hown; obtain ⟨A5, c5, rfl, hst⟩ := StrsRow.of_own hown; have HO5 := Lib.hid hst; clear hown hg hst)
                go_meet
                case rel =>
                  refine ⟨by go_num, rfl, ⟨_, _, by rw [Nat.zero_add], HO5⟩, HA4.out.grown HG5.out (by simp [Value.ownBlock]), HR4.out.grown HG5.out (by simp [Value.ownBlock]), HB4.out.grown HG5.out HB4.out.size (fun k hk => by simp [Value.ownBlock] at hk)⟩
              · have HO : Hid (w4.ownsRow (w.heap.size + 1) 9 1 (.slice (some ⟨b7, 0, none⟩) n7 n7) n7 (xs7.map Value.string)) := by
                  rw [HN7.out]; exact own_svs hr7 hb7 (by unfold maxLen; rw [← HN7.out]; omega)
                have HNEA : Hid (ga ≠ b7) := fun h => RowIs.ne hr7 HA4.out (by decide) h.symm
                have hnw : ∀ (j : Nat) u, (xs8.map Value.string)[j]? = some u → w4.cell? ((⟨b8, 0, none⟩ : Addr).add j) = some u := by
                  intro j u hj
                  exact cell_svs hr8 hj
                have hn1 : ∀ u ∈ xs8.map Value.string, u.oneCell' = true := by
                  intro u hu; simp at hu; obtain ⟨x, _, rfl⟩ := hu; rfl
                have hnl : (xs8.map Value.string).length = n8 * 1 := by rw [List.length_map, HN8.out]; simp
                have HNW := Lib.hid hnw
                have HN1 := Lib.hid hn1
                have HNL := Lib.hid hnl
                have HI := Lib.hid hi0
                have HI0 := Lib.hid hz0
                have HI1 := Lib.hid hz1
                have HI2 := Lib.hid hz2
                clear hi0 hz0 hz1 hz2 hnw hn1 hnl hr8 hr7
                go_wp2_with ((with_reducible refine gate_builtin (b := .append) (xs := #[.tmp 49, .tmp 50]) rfl ?_); at_builtin; go_loud (refine wpList_append_own _ rfl (.tmp 49) (.tmp 50) 28 rfl (w.heap.size + 1) 9 i0 (.string ⟨#[]⟩) 1 16 Tryd.underlying28 HI.out HI0.out HI1.out HI2.out rfl (by decide) (.slice (some ⟨b7, 0, none⟩) n7 n7) n7 (xs7.map Value.string) rfl HO.out ⟨b8, 0, none⟩ n8 n8 (xs8.map Value.string) rfl HNL.out HNW.out HN1.out ?c1 ?c2 HZ4.out ?_); (case c1 => unfold maxLen; omega); (case c2 => omega); intro v5 w5 hown hg _; have HG5 := Lib.hid hg; rw [← List.map_append] at hown; obtain ⟨A5, c5, rfl, hst⟩ := StrsRow.of_own hown; have HO5 := Lib.hid hst; clear hown hg hst)
                go_meet
                case rel =>
                  refine ⟨by go_num, rfl, ⟨_, _, rfl, HO5⟩, HA4.out.grown HG5.out (by simp only [Value.ownBlock, ne_eq, Option.some.injEq]; exact HNEA.out), HR4.out.grown HG5.out (by simp only [Value.ownBlock, ne_eq, Option.some.injEq]; omega), HB4.out.grown HG5.out HB4.out.size (fun k hk => by simp [Value.ownBlock] at hk; omega)⟩
          case rest =>
            clear HS74 HS84 HA4 HR4 HB4 HZ4
            obtain ⟨rfl, rfl, ⟨A, c, rfl, HS5⟩, HA5, HR5, HB5⟩ := hcut
            obtain ⟨w5, rfl⟩ : ∃ w2, w2 = wc := ⟨_, rfl⟩
            have HA6 : Hid (RowIs w5 ga (avs (flatW (fillW n7 n8 []))) 23) := by
              show RowIs _ _ _ _
              rw [fillW_nil n7 n8 hsum]; exact HA5
            go_wp2_with fail
            go_loopw [10, 11, 12, 13, 53] (fun _ _ _ _ s53 wr => ∃ (i : Nat) (us : List Nat), i ≤ n7 + n8 ∧ us.length = i ∧ s53 = .int .i64 i ∧ Hid (Pl.mapO Pl.parse16 (((xs7 ++ xs8).map (·.data.toList)).take i) = some us) ∧ Hid (StrsRow wr A (n7 + n8) c (xs7 ++ xs8)) ∧ Hid (RowIs wr ga (avs (flatW (fillW n7 n8 us))) 23) ∧ Hid (RowIs wr w.heap.size (avs zero16) 23) ∧ Hid (Below w.heap.size w wr)) (fun _ _ _ _ s53 _ => n7 + n8 - (intOf s53).toNat)
            case atStart => exact ⟨0, [], by omega, rfl, rfl, rfl, HS5, HA6, HR5, HB5⟩
            case round =>
              clear HA5 HA6 HR5 HB5 HS5
              obtain ⟨i, us, hi, hus, rfl, HM, HS, HT, HR, HB⟩ := hrel
              have HUS := Lib.hid hus
              clear hus
              by_cases hlt : i < n7 + n8
              · obtain ⟨g, cur, rfl, hg, hcur⟩ : ∃ g cur, A = some ⟨g, 0, none⟩ ∧ RowIs wr g cur 9 ∧ ∀ (j : Nat) x, (xs7 ++ xs8)[j]? = some x → cur[j]? = some (.string x) := by
                  rcases HS.out.2.2 with h0 | h0
                  · omega
                  · exact h0
                obtain ⟨x, hx⟩ : ∃ x, (xs7 ++ xs8)[i]? = some x := ⟨(xs7 ++ xs8)[i]'(by rw [HS.out.1]; omega), List.getElem?_eq_getElem _⟩
                have c0 := hg.cell i
                rw [hcur i x hx] at c0
                have hpl : ((xs7 ++ xs8).map (·.data.toList))[i]? = some x.data.toList := by rw [List.getElem?_map, hx]; rfl
                have HPL := Lib.hid hpl
                clear hx hpl hcur hg
                have hxl : x.size ≤ 281474976710656 := by
                  have := pieces_le HP7.out HP8.out hhl htl _ (List.mem_of_getElem? HPL.out)
                  rw [← Lib.size_eq] at this; omega
                have hpu := Lib.hid (parseUint16 x hxl wr (HW.out.below HB.out HW.out.size))
                have hdi : decide ((i : Int) < ((n7 + n8 : Nat) : Int)) = true := decide_eq_true (by omega)
                go_wp2_with fail
                refine hpu.out.mono ?_
                have HTK : Hid (((xs7 ++ xs8).map (·.data.toList)).take (i + 1) = ((xs7 ++ xs8).map (·.data.toList)).take i ++ [x.data.toList]) := by
                  show _ = _
                  rw [List.take_add_one, HPL.out]; rfl
                rintro e w6 ⟨hb2, ⟨u, hu, rfl⟩ | ⟨hn, v, T, p, rfl⟩⟩
                · have HB2 : Hid (Below w.heap.size w w6) := HB.out.trans (hb2.mono HB.out.size)
                  have HT2 := Lib.hid (HT.out.below hb2 HT.out.lt)
                  have HR2 := Lib.hid (HR.out.below hb2 HR.out.lt)
                  have HS2 := Lib.hid (HS.out.below hb2)
                  have HM2 : Hid (Pl.mapO Pl.parse16 (((xs7 ++ xs8).map (·.data.toList)).take (i + 1)) = some (us ++ [u])) := by
                    show _ = _
                    rw [HTK.out, mapO_app Pl.parse16 _ us _ HM.out, hu]; rfl
                  clear hb2 HB HT HR HS HM hu hpu c0
                  obtain ⟨p, hp, hp8, hset⟩ : ∃ p, (p = if i < n7 then i else i + (8 - n7 - n8)) ∧ p < 8 ∧ (fillW n7 n8 us).set p u = fillW n7 n8 (us ++ [u]) := by
                    by_cases hlo : i < n7
                    · refine ⟨i, by rw [if_pos hlo], by omega, ?_⟩
                      have := fillW_lo n7 n8 us u hsum (by rw [HUS.out]; exact hlo)
                      rw [HUS.out] at this; exact this
                    · refine ⟨i + (8 - n7 - n8), by rw [if_neg hlo], by omega, ?_⟩
                      have := fillW_hi n7 n8 us u hsum (by rw [HUS.out]; omega) (by rw [HUS.out]; exact hlt)
                      rw [HUS.out] at this; exact this
                  have HSET := Lib.hid hset
                  have HP := Lib.hid hp
                  clear hp hset
                  go_upto_if 69 with (fail)
                  go_cut [10] (fun s10 wx => s10 = .int .i64 p ∧ wx = w6)
                  case first =>
                    by_cases hlo : i < n7
                    · have hge : decide ((i : Int) ≥ (n7 : Int)) = false := decide_eq_false (by omega)
                      have hpi : p = i := by rw [HP.out, if_pos hlo]
                      have HPI := Lib.hid hpi
                      clear hpi
                      go_wp2_with fail
                      go_meet
                      case rel => exact ⟨by rw [HPI.out], rfl⟩
                    · have hge : decide ((i : Int) ≥ (n7 : Int)) = true := decide_eq_true (by omega)
                      have hpi : p = i + (8 - n7 - n8) := by rw [HP.out, if_neg hlo]
                      have HPI := Lib.hid hpi
                      clear hpi
                      go_wp2_with fail
                      go_meet
                      case rel => exact ⟨by rw [HPI.out]; go_num, rfl⟩
                  case rest =>
                    obtain ⟨rfl, rfl⟩ := hcut
                    have hfl : (fillW n7 n8 us).length = 8 := fillW_len _ _ _ hsum (by rw [HUS.out]; exact hi)
                    obtain ⟨⟨o1, hc1⟩, ⟨o2, hc2⟩, hf1, hf2, hrow⟩ := two_sets (u := u) HT2.out (by rw [hfl]; exact hp8)
                    rw [HSET.out] at hrow
                    have HROW := Lib.hid hrow
                    have HR3 : Hid (RowIs _ w.heap.size (avs zero16) 23) := (HR2.out.other ga (2 * p) (.int .u8 ((u : Int) / 256 % 256)) (by have := HGA.out; omega)).other ga (2 * p + 1) (.int .u8 ((u : Int) % 256)) (by have := HGA.out; omega)
                    have HS3 : Hid (StrsRow _ (some ⟨g, 0, none⟩) (n7 + n8) c (xs7 ++ xs8)) := (HS2.out.two HT2.out (2 * p) (.int .u8 ((u : Int) / 256 % 256)) (2 * p + 1) (.int .u8 ((u : Int) % 256)))
                    have HB3 : Hid (Below w.heap.size w _) := (HB2.out.setCell (p := ⟨ga, 2 * p, none⟩) (by show _ ≤ ga; have := HGA.out; omega) (.int .u8 ((u : Int) / 256 % 256))).setCell (p := ⟨ga, 2 * p + 1, none⟩) (by show _ ≤ ga; have := HGA.out; omega) (.int .u8 ((u : Int) % 256))
                    clear hfl hrow
                    go_wp2_with fail
                    go_roundw
                    case rel => first | exact ⟨i + 1, us ++ [u], by omega, by simp [HUS.out], by go_num, HM2, HS3, HROW, HR3, HB3⟩ | ((repeat apply Exists.intro); exact ⟨⟨i + 1, us ++ [u], by omega, by simp [HUS.out], by go_num, HM2, HS3, HROW, HR3, HB3⟩, rfl⟩)
                    case measure => simp [intOf]; omega
                · have HB2 : Hid (Below w.heap.size w w6) := HB.out.trans (hb2.mono HB.out.size)
                  have HR2 := Lib.hid (HR.out.below hb2 HR.out.lt)
                  have HF : Hid (Pl.six s.data.toList = none) := by
                    show _ = _
                    have h1 : Pl.mapO Pl.parse16 (((xs7 ++ xs8).map (·.data.toList)).take (i + 1)) = none := by rw [HTK.out, mapO_app Pl.parse16 _ us _ HM.out, hn]; rfl
                    have h2 := mapO_none Pl.parse16 (((xs7 ++ xs8).map (·.data.toList)).drop (i + 1)) _ h1
                    rw [List.take_append_drop, List.map_append, HP7.out, HP8.out, HHD.out, HTL.out] at h2
                    unfold Pl.six
                    simp only [h2]
                    split <;> rfl
                  clear hb2 HB HT HR HS HM hn hpu c0
                  go_wp2_with (refine wpList_store_addr rfl (.tmp 2) (.tmp 65) rfl w.heap.size zero16 zero16 23 rfl rfl rfl rfl HR2.out ?_)
                  have HR3 := Lib.hid (setRow_row HR2.out (avs zero16))
                  refine bodyPost_ret (results_addr Tryd.results36 _ _ w.heap.size zero16 23 rfl rfl HR3.out) rfl ?_
                  refine ⟨?_, below_setRow HB2.out _ (Nat.le_refl _) _⟩
                  rw [HF.out]; rfl
              · obtain rfl : i = n7 + n8 := by omega
                have HF : Hid (Pl.six s.data.toList = some (flatW (fillW n7 n8 us))) := by
                  show _ = _
                  have h1 := HM.out
                  rw [List.take_of_length_le (by rw [List.length_map, HS.out.1]; exact Nat.le_refl _), List.map_append, HP7.out, HP8.out, HHD.out, HTL.out] at h1
                  unfold Pl.six
                  rw [fillW_all n7 n8 us HUS.out hsum]
                  simp only [h1, ← HL7.out, ← HL8.out, ← HGP.out]
                  rw [if_neg (by rcases HT0.out with h | h <;> simp [h] <;> omega)]
                  rfl
                have hv16 : (flatW (fillW n7 n8 us)).length = 16 := by rw [flatW_len, fillW_len _ _ _ hsum (by rw [HUS.out]; exact Nat.le_refl _)]
                clear HM HS HUS
                obtain ⟨v, hv⟩ : ∃ v, v = flatW (fillW n7 n8 us) := ⟨_, rfl⟩
                rw [← hv] at HF HT hv16
                have HV := Lib.hid hv16
                clear hv hv16
                go_wp2_with (first | (refine wpList_load_row rfl 23 _ rfl _ rfl 23 (avs v) (0, 0) _ HT.out Tryd.underlying23 rfl (load_size v HV.out) ?_) | (refine wpList_store_addr rfl (.tmp 2) (.tmp 91) rfl w.heap.size v zero16 23 rfl rfl HV.out rfl HR.out ?_))
                have HR3 := Lib.hid (setRow_row HR.out (avs v))
                refine bodyPost_ret (results_addr Tryd.results36 _ _ w.heap.size v 23 HV.out rfl HR3.out) rfl ?_
                refine ⟨?_, below_setRow HB.out _ (Nat.le_refl _) _⟩
                rw [HF.out]; rfl
end Go.Proofs.YtgdfmhdgmjogiabDoor
