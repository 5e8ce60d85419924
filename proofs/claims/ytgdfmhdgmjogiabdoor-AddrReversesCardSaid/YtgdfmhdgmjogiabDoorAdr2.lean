/- What Print writes of an address, Parse reads; unlike addresses have unlike texts. Plain lists, no program. -/
import Derived.Test.YtgdfmhdgmjogiabDoorAdr
namespace Go.Proofs.YtgdfmhdgmjogiabDoor
namespace Pl

def noGap : List UInt8 → Bool
  | [] => true
  | [c] => c != 58
  | c :: d :: r => (c != 58 || d != 58) && noGap (d :: r)

theorem noGap_word : ∀ (x : List UInt8), (58 : UInt8) ∉ x → noGap x = true
  | [], _ => rfl
  | [c], h => by simp [noGap]; intro e; exact h (by simp [e])
  | c :: d :: r, h => by
    have h1 : c ≠ 58 := fun e => h (by simp [e])
    have h2 : (58 : UInt8) ∉ d :: r := fun e => h (by simp at e ⊢; exact Or.inr e)
    unfold noGap
    rw [noGap_word (d :: r) h2]
    simp [h1]

theorem noGap_sep (d : UInt8) (r : List UInt8) (hd : d ≠ 58) (hg : noGap (d :: r) = true) : ∀ (x : List UInt8), (58 : UInt8) ∉ x → x ≠ [] → noGap (x ++ 58 :: d :: r) = true
  | [], _, h => absurd rfl h
  | [c], h, _ => by
    have h1 : c ≠ 58 := fun e => h (by simp [e])
    simp [noGap, h1, hd, hg]
  | c :: e :: q, h, _ => by
    have h1 : c ≠ 58 := fun e => h (by simp [e])
    have h2 : (58 : UInt8) ∉ e :: q := fun i => h (by simp at i ⊢; exact Or.inr i)
    have ih := noGap_sep d r hd hg (e :: q) h2 (by simp)
    simp only [List.cons_append] at ih ⊢
    unfold noGap
    rw [ih]; simp [h1]

theorem join_hex_head : ∀ (l : List Nat), l ≠ [] → ∃ d r, Lib.join (l.map hexDig) [58] = d :: r ∧ d ≠ 58
  | [], h => absurd rfl h
  | u :: l, _ => by
    have hn := hexDig_ne u
    have h58 := hexDig_no58 u
    cases hx : hexDig u with
    | nil => exact absurd hx hn
    | cons d r =>
      have hd : d ≠ 58 := fun e => h58 (by rw [hx]; simp [e])
      cases l with
      | nil => exact ⟨d, r, by simp [Lib.join_one, hx], hd⟩
      | cons v l =>
        exact ⟨d, _, by simp only [List.map_cons]; rw [join_cons2, hx]; rfl, hd⟩

theorem noGap_join : ∀ (l : List Nat), noGap (Lib.join (l.map hexDig) [58]) = true
  | [] => by simp [Lib.join, List.intercalate, noGap]
  | [u] => by simp only [List.map_cons, List.map_nil, Lib.join_one]; exact noGap_word _ (hexDig_no58 u)
  | u :: v :: r => by
    have ih := noGap_join (v :: r)
    obtain ⟨d, q, hq, hd⟩ := join_hex_head (v :: r) (by simp)
    rw [hq] at ih
    have e : Lib.join ((u :: v :: r).map hexDig) [58] = hexDig u ++ 58 :: d :: q := by
      simp only [List.map_cons] at hq ⊢
      rw [join_cons2, hq]; simp
    rw [e]
    exact noGap_sep d q hd ih _ (hexDig_no58 u) (hexDig_ne u)

theorem index_noGap : ∀ (s : List UInt8), noGap s = true → Lib.index s [58, 58] = -1
  | [], _ => rfl
  | [c], h => by
    simp [noGap] at h
    rw [Lib.index]; simp [List.isPrefixOf, Lib.index]
  | c :: d :: r, h => by
    unfold noGap at h
    simp only [Bool.and_eq_true, Bool.or_eq_true, bne_iff_ne] at h
    have ih := index_noGap (d :: r) h.2
    rw [Lib.index, ih]
    have : ([58, 58] : List UInt8).isPrefixOf (c :: d :: r) = false := by
      simp only [List.isPrefixOf, Bool.and_true, Bool.and_eq_false_iff, beq_eq_false_iff_ne]
      rcases h.1 with h | h
      · exact Or.inl (Ne.symm h)
      · exact Or.inr (Ne.symm h)
    rw [this]; simp

theorem index_gap (t : List UInt8) : ∀ (s : List UInt8), noGap s = true → Lib.index (s ++ [58, 58] ++ t) [58, 58] = s.length
  | [], _ => by
    simp only [List.nil_append, List.cons_append]
    rw [Lib.index]; simp [List.isPrefixOf]
  | [c], h => by
    simp [noGap] at h
    have ih := index_gap t [] rfl
    simp only [List.nil_append, List.cons_append] at ih ⊢
    rw [Lib.index, ih]
    simp [List.isPrefixOf, Ne.symm h]
  | c :: d :: r, h => by
    unfold noGap at h
    simp only [Bool.and_eq_true, Bool.or_eq_true, bne_iff_ne] at h
    have ih := index_gap t (d :: r) h.2
    simp only [List.cons_append] at ih ⊢
    rw [Lib.index, ih]
    have : ([58, 58] : List UInt8).isPrefixOf (c :: d :: (r ++ [58, 58] ++ t)) = false := by
      simp only [List.isPrefixOf, Bool.and_true, Bool.and_eq_false_iff, beq_eq_false_iff_ne]
      rcases h.1 with h | h
      · exact Or.inl (Ne.symm h)
      · exact Or.inr (Ne.symm h)
    rw [this]
    have h2 : (((d :: r).length : Int) == -1) = false := by rw [beq_eq_false_iff_ne]; omega
    simp only [Bool.false_eq_true, if_false, h2]
    simp

theorem cut_noGap (s : List UInt8) (h : noGap s = true) : Lib.cut s [58, 58] = (s, [], false) := by
  unfold Lib.cut; rw [index_noGap s h]; simp

theorem cut_gap (s t : List UInt8) (h : noGap s = true) : Lib.cut (s ++ [58, 58] ++ t) [58, 58] = (s, t, true) := by
  unfold Lib.cut; rw [index_gap t s h, if_pos (by omega)]
  have e : ((s.length : Nat) : Int).toNat = s.length := by omega
  rw [e]
  simp

theorem pieces_join (l : List Nat) : piecesOf (Lib.join (l.map hexDig) [58]) = l.map hexDig := by
  unfold piecesOf
  cases l with
  | nil => simp [Lib.join, List.intercalate]
  | cons u r =>
    obtain ⟨d, q, hq, _⟩ := join_hex_head (u :: r) (by simp)
    rw [if_neg (by rw [hq]; simp), split_join 58 _ (by simp)]
    intro x hx
    simp only [List.mem_map] at hx
    obtain ⟨v, _, rfl⟩ := hx
    exact hexDig_no58 v

theorem mapO_hex (l : List Nat) (h : ∀ u ∈ l, u < 65536) : mapO parse16 (l.map hexDig) = some l := by
  rw [mapO_map parse16 hexDig (fun x => x) l (fun x hx => parse16_hexDig (h x hx))]; simp

theorem wordAt_lt (a : List UInt8) (i : Nat) : wordAt a i < 65536 := by
  unfold wordAt
  have h1 := (a.getD (2 * i) 0).toNat_lt
  have h2 := (a.getD (2 * i + 1) 0).toNat_lt
  omega

theorem words_lt (a : List UInt8) : ∀ u ∈ words a, u < 65536 := by
  intro u hu
  simp only [words, List.mem_map] at hu
  obtain ⟨i, _, rfl⟩ := hu
  exact wordAt_lt a i

theorem unword_at (x y : UInt8) : unword (x.toNat * 256 + y.toNat) = [x, y] := by
  have h1 := x.toNat_lt
  have h2 := y.toNat_lt
  unfold unword
  have e1 : (x.toNat * 256 + y.toNat) / 256 = x.toNat := by omega
  have e2 : UInt8.ofNat (x.toNat * 256 + y.toNat) = y := by
    apply UInt8.toNat_inj.1
    simp only [UInt8.toNat_ofNat']
    omega
  rw [e1, e2]; simp

theorem list16 (a : List UInt8) (h : a.length = 16) : ∃ x0 x1 x2 x3 x4 x5 x6 x7 x8 x9 y0 y1 y2 y3 y4 y5, a = [x0, x1, x2, x3, x4, x5, x6, x7, x8, x9, y0, y1, y2, y3, y4, y5] := by
  match a, h with
  | [x0, x1, x2, x3, x4, x5, x6, x7, x8, x9, y0, y1, y2, y3, y4, y5], _ => exact ⟨_, _, _, _, _, _, _, _, _, _, _, _, _, _, _, _, rfl⟩

theorem unwords (a : List UInt8) (h : a.length = 16) : ((words a).map unword).flatten = a := by
  obtain ⟨x0, x1, x2, x3, x4, x5, x6, x7, x8, x9, y0, y1, y2, y3, y4, y5, rfl⟩ := list16 a h
  have e : words [x0, x1, x2, x3, x4, x5, x6, x7, x8, x9, y0, y1, y2, y3, y4, y5] = [x0.toNat * 256 + x1.toNat, x2.toNat * 256 + x3.toNat, x4.toNat * 256 + x5.toNat, x6.toNat * 256 + x7.toNat, x8.toNat * 256 + x9.toNat, y0.toNat * 256 + y1.toNat, y2.toNat * 256 + y3.toNat, y4.toNat * 256 + y5.toNat] := rfl
  rw [e]
  simp only [List.map_cons, List.map_nil, unword_at]
  rfl

theorem take_zeros : ∀ l : List Nat, l = List.replicate (l.takeWhile (· == 0)).length 0 ++ l.drop (l.takeWhile (· == 0)).length
  | [] => rfl
  | x :: l => by
    have ih := take_zeros l
    by_cases hx : x = 0
    · subst hx; simp [List.replicate_succ, ← ih]
    · simp [hx]

theorem zrun_zeros (w : List Nat) (p : Nat) : w.drop p = List.replicate (zrun w p) 0 ++ w.drop (p + zrun w p) := by
  have h := take_zeros (w.drop p)
  rw [List.drop_drop] at h
  exact h

theorem hex_no46 : ∀ (l : List Nat), (46 : UInt8) ∉ Lib.join (l.map hexDig) [58]
  | [] => by simp [Lib.join, List.intercalate]
  | [u] => by simp only [List.map_cons, List.map_nil, Lib.join_one]; exact hexDig_no46 u
  | u :: v :: r => by
    have ih := hex_no46 (v :: r)
    simp only [List.map_cons] at ih ⊢
    rw [join_cons2]
    simp only [List.mem_append, not_or]
    exact ⟨⟨hexDig_no46 u, by decide⟩, ih⟩

theorem print6_no46 (a : List UInt8) : (46 : UInt8) ∉ print6 a := by
  rcases print6_cases a with ⟨_, h⟩ | ⟨p, n, _, _, _, h⟩
  · rw [h]; exact hex_no46 _
  · rw [h]
    simp only [List.mem_append, not_or]
    exact ⟨⟨hex_no46 _, by decide⟩, hex_no46 _⟩

theorem four_none {s : List UInt8} (h : (46 : UInt8) ∉ s) : four s = none := by
  unfold four
  rw [splitc_none 46 s h, if_neg (by simp)]

theorem six_print6 (a : List UInt8) (hl : a.length = 16) : six (print6 a) = some a := by
  have hw := words_length a
  have hlt := words_lt a
  have hu := unwords a hl
  rcases print6_cases a with ⟨_, h⟩ | ⟨p, n, hpn, hn, hz, h⟩
  · unfold six
    rw [h, cut_noGap _ (noGap_join _)]
    simp only [pieces_join]
    rw [if_neg (by simp [piecesOf, hw])]
    have e : piecesOf [] = [] := rfl
    rw [e, List.append_nil, mapO_hex _ hlt]
    simp only [Option.map_some, List.length_map, hw, List.length_nil]
    rw [List.take_of_length_le (by omega), List.drop_of_length_le (by omega)]
    refine congrArg some ?_
    simpa using hu
  · unfold six
    rw [h, cut_gap _ _ (noGap_join _)]
    simp only [pieces_join]
    rw [if_neg (by simp [hw]; omega), ← List.map_append, mapO_hex]
    · simp only [Option.map_some, List.length_map, List.length_take, List.length_drop, hw]
      have e1 : min p 8 = p := by omega
      have e2 : 8 - p - (8 - (p + n)) = n := by omega
      rw [e1, e2]
      have hlen : ((words a).take p).length = p := by simp [hw]; omega
      have e3 : ((words a).take p ++ (words a).drop (p + n)).take p = (words a).take p := List.take_left' hlen
      have e4 : ((words a).take p ++ (words a).drop (p + n)).drop p = (words a).drop (p + n) := List.drop_left' hlen
      rw [e3, e4]
      have h5 := zrun_zeros (words a) p
      rw [← hz] at h5
      rw [List.append_assoc, ← h5, List.take_append_drop]
      exact congrArg some hu
    · intro u hu
      rw [List.mem_append] at hu
      rcases hu with hu | hu
      · exact hlt u (List.mem_of_mem_take hu)
      · exact hlt u (List.mem_of_mem_drop hu)

theorem parse_of_print (a : List UInt8) (hl : a.length = 16) : parse (print a) = some a := by
  unfold parse print
  by_cases h4 : is4 a = true
  · rw [if_pos h4, four_print4 a hl h4]
    simp [h4]
  · rw [if_neg h4, four_none (print6_no46 a), six_print6 a hl]
    simp [h4]

theorem print_inj {a b : List UInt8} (ha : a.length = 16) (hb : b.length = 16) (h : print a = print b) : a = b := by
  have h1 := parse_of_print a ha
  have h2 := parse_of_print b hb
  rw [h, h2] at h1
  exact (Option.some.inj h1).symm

theorem mapO_length {α β : Type} (f : α → Option β) : ∀ (l : List α) (r : List β), mapO f l = some r → r.length = l.length
  | [], r, h => by simp [mapO] at h; subst h; rfl
  | x :: l, r, h => by
    unfold mapO at h
    split at h
    · simp at h
    · split at h
      · simp at h
      · rename_i ys hy
        have := mapO_length f l _ hy
        simp at h; subst h; simp [this]

theorem flat2 : ∀ (l : List Nat), ((l.map unword).flatten).length = 2 * l.length
  | [] => rfl
  | x :: l => by simp only [List.map_cons, List.flatten_cons, List.length_append, flat2 l, List.length_cons]; simp [unword]; omega

/-- What Parse reads is sixteen bytes. -/
theorem parse_length {s a : List UInt8} (h : parse s = some a) : a.length = 16 := by
  have h4 : ∀ a, four s = some a → a.length = 16 := by
    intro a h
    unfold four at h
    split at h
    · rename_i hl
      cases hm : mapO parse8 (splitc 46 s) with
      | none => rw [hm] at h; simp at h
      | some r =>
        rw [hm] at h
        have := mapO_length _ _ _ hm
        simp at h; subst h
        simp [v4, v4head, this, hl]
    · simp at h
  have h6 : ∀ a, six s = some a → a.length = 16 := by
    intro a h
    unfold six at h
    simp only at h
    split at h
    · simp at h
    · rename_i hc
      generalize hl : piecesOf (Lib.cut s [58, 58]).1 = l at *
      generalize hr : piecesOf (Lib.cut s [58, 58]).2.1 = r at *
      cases hm : mapO parse16 (l ++ r) with
      | none => rw [hm] at h; simp at h
      | some ws =>
        rw [hm] at h
        have := mapO_length _ _ _ hm
        simp only [Option.map_some, Option.some.injEq] at h
        rw [← h, flat2]
        simp at this ⊢
        omega
  unfold parse at h
  split at h
  · rename_i b hb
    split at h
    · rw [← Option.some.inj h]; exact h4 _ hb
    · simp at h
  · split at h
    · rename_i b hb
      split at h
      · rw [← Option.some.inj h]; exact h6 _ hb
      · simp at h
    · simp at h

theorem pieces_len (s : List UInt8) : (piecesOf s).length ≤ s.length + 1 := by
  unfold piecesOf
  split
  · simp
  · rw [splitc_length]; have := List.count_le_length (a := (58 : UInt8)) (l := s); omega

theorem join_len (sep : List UInt8) (m : Nat) : ∀ (l : List (List UInt8)), (∀ x ∈ l, x.length ≤ m) → (Lib.join l sep).length ≤ l.length * (m + sep.length)
  | [], _ => by simp [Lib.join, List.intercalate]
  | [x], h => by rw [Lib.join_one]; have := h x (by simp); simp; omega
  | x :: y :: r, h => by
    have ih := join_len sep m (y :: r) (fun z hz => h z (by simp [hz]))
    rw [join_cons2]
    have := h x (by simp)
    simp only [List.length_append, List.length_cons] at ih ⊢
    rw [Nat.succ_mul (r.length + 1)]
    omega

theorem print4_len (a : List UInt8) (ha : a.length = 16) : (print4 a).length ≤ 16 := by
  have := join_len [46] 3 ((a.drop 12).map fun x => Lib.decDigits x.toNat) (by
    intro x hx
    simp only [List.mem_map] at hx
    obtain ⟨y, _, rfl⟩ := hx
    exact (dec_len y.toNat_lt).2)
  rw [List.length_map, List.length_drop, ha] at this
  unfold print4
  exact this

end Pl
end Go.Proofs.YtgdfmhdgmjogiabDoor
