/- What the text of an address looks like: its signs, its stretches, and which texts are none; plain lists, no program. -/
import Derived.Test.YtgdfmhdgmjogiaaDoorLen
namespace Go.Proofs.YtgdfmhdgmjogiaaDoor
namespace Pl

/-- Two signs ':' one behind the other, counted; p: was the sign ahead one? -/
def gaps : Bool → List UInt8 → Nat
  | _, [] => 0
  | p, c :: r => (if p && c == 58 then 1 else 0) + gaps (c == 58) r
def lastColon (p : Bool) (l : List UInt8) : Bool := match l.getLast? with
  | none => p
  | some c => c == 58

theorem lastColon_cons (p : Bool) (c : UInt8) (r : List UInt8) : lastColon p (c :: r) = lastColon (c == 58) r := by
  cases r with
  | nil => rfl
  | cons d r =>
    unfold lastColon
    rw [List.getLast?_cons_cons]
    cases h : (d :: r).getLast? with
    | none => simp at h
    | some x => rfl

theorem gaps_app (y : List UInt8) : ∀ (x : List UInt8) (p : Bool), gaps p (x ++ y) = gaps p x + gaps (lastColon p x) y
  | [], p => by simp [gaps, lastColon]
  | c :: r, p => by
    rw [List.cons_append]
    simp only [gaps]
    rw [gaps_app y r (c == 58), Nat.add_assoc, lastColon_cons]

theorem noGap_last : ∀ (s : List UInt8) (p : Bool), noGap s = true → s ≠ [] → lastColon p s = false
  | [], _, _, h => absurd rfl h
  | [c], p, h, _ => by
    simp [noGap] at h
    simp [lastColon, h]
  | c :: d :: r, p, h, _ => by
    rw [lastColon_cons]
    unfold noGap at h
    simp only [Bool.and_eq_true] at h
    exact noGap_last (d :: r) _ h.2 (by simp)

theorem gaps_noGap : ∀ (s : List UInt8) (p : Bool), noGap s = true → (p = true → s.head? ≠ some 58) → gaps p s = 0
  | [], _, _, _ => rfl
  | [c], p, h, _ => by
    simp [noGap] at h
    simp [gaps, h]
  | c :: d :: r, p, h, hp => by
    unfold noGap at h
    simp only [Bool.and_eq_true, Bool.or_eq_true, bne_iff_ne] at h
    unfold gaps
    rw [gaps_noGap (d :: r) (c == 58) h.2 (by
      intro hc hd
      rw [beq_iff_eq] at hc
      simp only [List.head?_cons, Option.some.injEq] at hd
      rcases h.1 with h | h
      · exact h hc
      · exact h hd)]
    by_cases hc : c = 58
    · subst hc
      cases p with
      | false => rfl
      | true => exact absurd rfl (hp rfl)
    · simp [hc]

theorem hexes_cases (l : List Nat) : Lib.join (l.map hexDig) [58] = [] ∧ l = [] ∨ ∃ d r, Lib.join (l.map hexDig) [58] = d :: r ∧ d ≠ 58 ∧ d ≠ 46 ∧ l ≠ [] := by
  by_cases h : l = []
  · subst h; left; exact ⟨by simp [Lib.join, List.intercalate], rfl⟩
  · right
    obtain ⟨d, r, h1, h2⟩ := join_hex_head l h
    refine ⟨d, r, h1, h2, ?_, h⟩
    rintro rfl
    exact hex_no46 l (by rw [h1]; simp)

theorem hexes_gaps (l : List Nat) (p : Bool) : gaps p (Lib.join (l.map hexDig) [58]) = 0 := by
  refine gaps_noGap _ p (noGap_join l) ?_
  intro _ h
  rcases hexes_cases l with ⟨h1, _⟩ | ⟨d, r, h1, h2, _⟩
  · rw [h1] at h; simp at h
  · rw [h1] at h; simp at h; exact h2 h
theorem hexes_last (l : List Nat) : lastColon false (Lib.join (l.map hexDig) [58]) = false := by
  rcases hexes_cases l with ⟨h1, _⟩ | ⟨d, r, h1, _⟩
  · rw [h1]; rfl
  · exact noGap_last _ _ (noGap_join l) (by rw [h1]; simp)

/-- Two words that are 0, one behind the other. -/
def twoZ (a : List UInt8) : Bool := (List.range 7).any fun i => wordAt a i == 0 && wordAt a (i + 1) == 0

theorem zrun_two (w : List Nat) (i : Nat) (h : i + 1 < w.length) : 2 ≤ zrun w i ↔ w[i] = 0 ∧ w[i + 1] = 0 := by
  have e1 : w.drop i = w[i] :: w[i + 1] :: w.drop (i + 2) := by rw [List.drop_eq_getElem_cons (by omega : i < w.length), List.drop_eq_getElem_cons h]
  unfold zrun
  rw [e1]
  generalize w.drop (i + 2) = l
  generalize w[i] = x
  generalize w[i + 1] = y
  by_cases h0 : x = 0
  · by_cases h1 : y = 0
    · simp [h0, h1]
    · simp [h0, h1]
  · simp [h0]
theorem words_at (a : List UInt8) (i : Nat) (h : i < (words a).length) : (words a)[i] = wordAt a i := by
  simp [words]

/-- What the text of an address that is not IPv4 shows. -/
theorem print6_gaps (a : List UInt8) : gaps false (print6 a) = (if twoZ a then 1 else 0) ∧ (twoZ a = false → (print6 a).count 58 = 7) ∧ (print6 a).length ≤ 39 := by
  have hw := words_length a
  have hj : ∀ (l : List Nat), l ≠ [] → (∀ u ∈ l, u ∈ words a) → (Lib.join (l.map hexDig) [58]).length + 1 ≤ l.length * 5 := by
    intro l
    induction l with
    | nil => intro h; exact absurd rfl h
    | cons x l ih =>
      intro _ hx
      have h4 := hexDig_length x (words_lt a x (hx x (by simp)))
      cases l with
      | nil => simp only [List.map_cons, List.map_nil, Lib.join_one, List.length_cons, List.length_nil]; omega
      | cons y l =>
        have ih := ih (by simp) (fun u hu => hx u (by simp at hu ⊢; exact Or.inr hu))
        simp only [List.map_cons] at ih ⊢
        rw [join_cons2]
        simp only [List.length_append, List.length_cons, List.length_nil] at ih ⊢
        omega
  rcases print6_cases a with ⟨hz, h⟩ | ⟨p, n, h1, h2, h3, h⟩
  · have ht : twoZ a = false := by
      unfold twoZ
      rw [List.any_eq_false]
      intro i hi
      simp only [List.mem_range] at hi
      have := hz i (by omega)
      have h2 := zrun_two (words a) i (by omega)
      rw [words_at, words_at] at h2
      simp only [Bool.and_eq_true, beq_iff_eq]
      rw [← h2]
      omega
    have hne : words a ≠ [] := by intro h; rw [h] at hw; simp at hw
    rw [h, ht]
    refine ⟨hexes_gaps _ _, fun _ => ?_, ?_⟩
    · have e1 := splitc_length 58 (Lib.join ((words a).map hexDig) [58])
      rw [split_join 58 _ (by simpa using hne)] at e1
      · rw [List.length_map, hw] at e1; omega
      · intro x hx
        simp only [List.mem_map] at hx
        obtain ⟨v, _, rfl⟩ := hx
        exact hexDig_no58 v
    · have := hj (words a) hne (fun _ h => h)
      omega
  · have ht : twoZ a = true := by
      unfold twoZ
      rw [List.any_eq_true]
      refine ⟨p, by simp; omega, ?_⟩
      have h4 := (zrun_two (words a) p (by omega)).1 (by omega)
      rw [words_at, words_at] at h4
      simp [h4.1, h4.2]
    rw [h, ht]
    refine ⟨?_, fun h => by simp at h, ?_⟩
    · rw [gaps_app, gaps_app, hexes_gaps, hexes_gaps, hexes_last]
      rfl
    · have e1 := hexes_len a ((words a).take p) (fun u hu => List.mem_of_mem_take hu)
      have e2 := hexes_len a ((words a).drop (p + n)) (fun u hu => List.mem_of_mem_drop hu)
      rw [List.length_take] at e1
      rw [List.length_drop] at e2
      simp only [List.length_append, List.length_cons, List.length_nil]
      omega

/-! ### no nought ahead -/
def sepB (c : UInt8) : Bool := c == 58 || c == 46
/-- No group of several signs begins with 0; p: does a group begin here? -/
def nn : Bool → List UInt8 → Bool
  | _, [] => true
  | _, [_] => true
  | p, c :: d :: r => !(p && c == 48 && !sepB d) && nn (sepB c) (d :: r)
theorem nn_sep (p : Bool) (c : UInt8) (r : List UInt8) (h : sepB c = true) : nn p (c :: r) = nn true r := by
  have h48 : (c == 48) = false := by
    rw [beq_eq_false_iff_ne]
    rintro rfl
    revert h; decide
  cases r with
  | nil => rfl
  | cons d r => simp [nn, h, h48]
theorem nn_false (t : List UInt8) : ∀ (x : List UInt8), (∀ c ∈ x, sepB c = false) → nn false (x ++ t) = nn false t
  | [], _ => rfl
  | c :: x, h => by
    have ih := nn_false t x (fun d hd => h d (by simp [hd]))
    have hc := h c (by simp)
    rw [List.cons_append, ← ih]
    cases x ++ t with
    | nil => rfl
    | cons d r => simp [nn, hc]
/-- What may stand behind a group. -/
def Tail (t : List UInt8) : Prop := t = [] ∨ ∃ s r, t = s :: r ∧ sepB s = true
theorem nn_word (t : List UInt8) (ht : Tail t) (x : List UInt8) (hx : x ≠ []) (hs : ∀ c ∈ x, sepB c = false) (h0 : x.head? = some 48 → x = [48]) : nn true (x ++ t) = nn false t := by
  cases x with
  | nil => exact absurd rfl hx
  | cons c x =>
    have hc := hs c (by simp)
    by_cases h48 : c = 48
    · have := h0 (by simp [h48])
      simp only [List.cons.injEq] at this
      obtain ⟨rfl, rfl⟩ := this
      rcases ht with rfl | ⟨s, r, rfl, h⟩
      · rfl
      · simp [nn, h, hc]
    · rw [← nn_false t x (fun d hd => hs d (by simp [hd])), List.cons_append]
      cases x ++ t with
      | nil => rfl
      | cons d r => simp [nn, hc, h48]
structure GoodW (x : List UInt8) : Prop where
  ne : x ≠ []
  no : ∀ c ∈ x, sepB c = false
  head : x.head? = some 48 → x = [48]
theorem nn_join (g : UInt8) (hg : sepB g = true) (t : List UInt8) (ht : Tail t) : ∀ (l : List (List UInt8)), l ≠ [] → (∀ x ∈ l, GoodW x) → nn true (Lib.join l [g] ++ t) = nn false t
  | [], h, _ => absurd rfl h
  | [x], _, h => by
    rw [Lib.join_one]
    have := h x (by simp)
    exact nn_word t ht x this.ne this.no this.head
  | x :: y :: r, _, h => by
    have hx := h x (by simp)
    rw [join_cons2, List.append_assoc, List.append_assoc, List.singleton_append, nn_word _ (Or.inr ⟨g, _, rfl, hg⟩) x hx.ne hx.no hx.head]
    rw [nn_sep _ _ _ hg]
    exact nn_join g hg t ht (y :: r) (by simp) (fun z hz => h z (by simp at hz ⊢; exact Or.inr hz))
theorem good_hex (u : Nat) : GoodW (hexDig u) := by
  refine ⟨hexDig_ne u, ?_, ?_⟩
  · intro c hc
    have := hexChar_ne (hexDig_char u c hc)
    simp [sepB, this.1, this.2]
  · intro h
    have := hexDig_head u h
    subst this
    rw [hexDig, dif_pos (by decide)]
    decide
theorem good_dec (x : UInt8) : GoodW (Lib.decDigits x.toNat) := by
  refine ⟨dec_ne _, ?_, ?_⟩
  · intro c hc
    have := dec_char x.toNat_lt c hc
    simp only [sepB, Bool.or_eq_false_iff, beq_eq_false_iff_ne]
    constructor <;> (rintro rfl; revert this; decide)
  · intro h
    have := dec_head x.toNat_lt h
    rw [this]
    decide +kernel
theorem nn_hexes (l : List Nat) (t : List UInt8) (ht : Tail t) (hn : nn true t = true) : nn true (Lib.join (l.map hexDig) [58] ++ t) = true := by
  by_cases h : l = []
  · subst h; simpa [Lib.join, List.intercalate] using hn
  · rw [nn_join 58 rfl t ht _ (by simpa using h)]
    · rcases ht with rfl | ⟨s, r, rfl, hs⟩
      · rfl
      · rw [nn_sep _ _ _ hs] at hn ⊢; exact hn
    · intro x hx
      simp only [List.mem_map] at hx
      obtain ⟨v, _, rfl⟩ := hx
      exact good_hex v
theorem nn_print6 (a : List UInt8) : nn true (print6 a) = true := by
  rcases print6_cases a with ⟨_, h⟩ | ⟨p, n, _, _, _, h⟩
  · have := nn_hexes (words a) [] (Or.inl rfl) rfl
    rw [h]; simpa using this
  · have e := nn_hexes ((words a).drop (p + n)) [] (Or.inl rfl) rfl
    rw [List.append_nil] at e
    rw [h, List.append_assoc]
    refine nn_hexes _ _ (Or.inr ⟨58, _, rfl, rfl⟩) ?_
    rw [List.cons_append, List.cons_append, nn_sep _ _ _ rfl, nn_sep _ _ _ rfl]
    exact e
theorem nn_print (a : List UInt8) (ha : a.length = 16) : nn true (print a) = true := by
  unfold print
  split
  · unfold print4
    have := nn_join 46 rfl [] (Or.inl rfl) ((a.drop 12).map fun x => Lib.decDigits x.toNat) (by intro h; have := congrArg List.length h; simp [ha] at this) (by
      intro x hx
      simp only [List.mem_map] at hx
      obtain ⟨v, _, rfl⟩ := hx
      exact good_dec v)
    rw [List.append_nil] at this
    exact this
  · exact nn_print6 a
theorem nn_at : ∀ (s : List UInt8) (p : Bool) (i : Nat), nn p s = true → i + 1 < s.length → s.getD i 0 = 48 → (if i = 0 then p else sepB (s.getD (i - 1) 0)) = true → sepB (s.getD (i + 1) 0) = true
  | [], _, _, _, h, _, _ => absurd h (by simp)
  | [_], _, _, _, h, _, _ => absurd h (by simp)
  | c :: d :: r, p, 0, h, _, h48, hp => by
    simp only [List.getD_cons_zero] at h48
    simp only [if_true] at hp
    subst h48 hp
    simp only [nn, Bool.and_eq_true, Bool.not_eq_true', Bool.true_and, beq_self_eq_true] at h
    have := h.1
    simpa using this
  | c :: d :: r, p, i + 1, h, hl, h48, hp => by
    simp only [nn, Bool.and_eq_true] at h
    refine nn_at (d :: r) (sepB c) i h.2 (by simp at hl ⊢; omega) (by simpa using h48) ?_
    cases i with
    | zero => simpa using hp
    | succ i => simpa using hp

/-! ### signs, heads, ends -/
theorem print6_chars (a : List UInt8) : ∀ c ∈ print6 a, hexChar c = true ∨ c = 58 := by
  have hj : ∀ (l : List Nat), ∀ c ∈ Lib.join (l.map hexDig) [58], hexChar c = true ∨ c = 58 := by
    intro l
    induction l with
    | nil => intro c hc; simp [Lib.join, List.intercalate] at hc
    | cons x l ih =>
      intro c hc
      cases l with
      | nil => simp only [List.map_cons, List.map_nil, Lib.join_one] at hc; exact Or.inl (hexDig_char x c hc)
      | cons y l =>
        simp only [List.map_cons] at hc ih
        rw [join_cons2] at hc
        simp only [List.mem_append, List.mem_singleton] at hc
        rcases hc with (hc | hc) | hc
        · exact Or.inl (hexDig_char x c hc)
        · exact Or.inr hc
        · exact ih c hc
  intro c hc
  rcases print6_cases a with ⟨_, h⟩ | ⟨p, n, _, _, _, h⟩
  · rw [h] at hc; exact hj _ c hc
  · rw [h] at hc
    simp only [List.mem_append, List.mem_cons, List.not_mem_nil, or_false] at hc
    rcases hc with (hc | hc) | hc
    · exact hj _ c hc
    · exact Or.inr (by rcases hc with h | h <;> exact h)
    · exact hj _ c hc

theorem print4_form (a : List UInt8) (ha : a.length = 16) : ∃ w x y z : UInt8, print4 a = Lib.decDigits w.toNat ++ [46] ++ (Lib.decDigits x.toNat ++ [46] ++ (Lib.decDigits y.toNat ++ [46] ++ Lib.decDigits z.toNat)) := by
  obtain ⟨x0, x1, x2, x3, x4, x5, x6, x7, x8, x9, y0, y1, y2, y3, y4, y5, rfl⟩ := list16 a ha
  refine ⟨y2, y3, y4, y5, ?_⟩
  unfold print4
  simp only [List.drop_succ_cons, List.drop_zero, List.map_cons, List.map_nil]
  rw [join_cons2, join_cons2, join_cons2, Lib.join_one]

def isDig (c : UInt8) : Bool := decide (48 ≤ c.toNat) && decide (c.toNat ≤ 57)
theorem dec_dig (x : UInt8) : ∀ c ∈ Lib.decDigits x.toNat, isDig c = true := by
  intro c hc
  have := dec_char x.toNat_lt c hc
  simp [isDig, this.1, this.2]
theorem print4_chars (a : List UInt8) (ha : a.length = 16) : ∀ c ∈ print4 a, isDig c = true ∨ c = 46 := by
  obtain ⟨w, x, y, z, h⟩ := print4_form a ha
  intro c hc
  rw [h] at hc
  simp only [List.mem_append, List.mem_singleton] at hc
  rcases hc with (hc | hc) | (hc | hc) | (hc | hc) | hc
  · exact Or.inl (dec_dig w c hc)
  · exact Or.inr hc
  · exact Or.inl (dec_dig x c hc)
  · exact Or.inr hc
  · exact Or.inl (dec_dig y c hc)
  · exact Or.inr hc
  · exact Or.inl (dec_dig z c hc)
theorem dec_count (x : UInt8) : (Lib.decDigits x.toNat).count 46 = 0 := by
  rw [List.count_eq_zero]
  exact dec_no x.toNat_lt (Or.inl (by decide))
theorem print4_count (a : List UInt8) (ha : a.length = 16) : (print4 a).count 46 = 3 ∧ 7 ≤ (print4 a).length := by
  obtain ⟨w, x, y, z, h⟩ := print4_form a ha
  rw [h]
  have h1 := (dec_len w.toNat_lt).1
  have h2 := (dec_len x.toNat_lt).1
  have h3 := (dec_len y.toNat_lt).1
  have h4 := (dec_len z.toNat_lt).1
  constructor
  · simp only [List.count_append, dec_count]
    decide
  · simp only [List.length_append, List.length_cons, List.length_nil]
    omega
theorem print6_count (a : List UInt8) : (print6 a).count 46 = 0 := by
  rw [List.count_eq_zero]; exact print6_no46 a
theorem dig_no58 {c : UInt8} (h : isDig c = true) : c ≠ 58 ∧ c ≠ 46 := by
  constructor <;> (rintro rfl; revert h; decide)
theorem print4_no58 (a : List UInt8) (ha : a.length = 16) : (58 : UInt8) ∉ print4 a := by
  intro h
  rcases print4_chars a ha 58 h with h | h
  · exact (dig_no58 h).1 rfl
  · revert h; decide

theorem gaps_no58 : ∀ (s : List UInt8) (p : Bool), (58 : UInt8) ∉ s → gaps p s = 0
  | [], _, _ => rfl
  | c :: r, p, h => by
    have hc : c ≠ 58 := fun e => h (by simp [e])
    simp only [gaps]
    rw [gaps_no58 r _ (fun e => h (by simp [e]))]
    simp [hc]
theorem gaps_print (a : List UInt8) (ha : a.length = 16) : gaps false (print a) ≤ 1 := by
  unfold print
  split
  · rw [gaps_no58 _ _ (print4_no58 a ha)]; omega
  · rw [(print6_gaps a).1]; split <;> omega

/-- A text begins with a digit, or with two colons. -/
theorem print_head (a : List UInt8) (ha : a.length = 16) : (∃ d r, print a = d :: r ∧ d ≠ 58 ∧ d ≠ 46) ∨ ∃ r, print a = 58 :: 58 :: r := by
  unfold print
  split
  · left
    obtain ⟨w, x, y, z, h⟩ := print4_form a ha
    rw [h]
    cases hd : Lib.decDigits w.toNat with
    | nil => exact absurd hd (dec_ne _)
    | cons d r =>
      have := dig_no58 (dec_dig w d (by rw [hd]; simp))
      exact ⟨d, _, rfl, this.1, this.2⟩
  · rcases print6_cases a with ⟨_, h⟩ | ⟨p, n, _, _, _, h⟩
    · rw [h]
      rcases hexes_cases (words a) with ⟨_, h1⟩ | ⟨d, r, h1, h2, h3, _⟩
      · have := words_length a; rw [h1] at this; simp at this
      · exact Or.inl ⟨d, r, h1, h2, h3⟩
    · rw [h]
      rcases hexes_cases ((words a).take p) with ⟨h1, _⟩ | ⟨d, r, h1, h2, h3, _⟩
      · rw [h1]; exact Or.inr ⟨_, rfl⟩
      · rw [h1]; exact Or.inl ⟨d, _, rfl, h2, h3⟩

/-- A text that ends with a colon ends with two. -/
theorem print_end (a : List UInt8) (ha : a.length = 16) : lastColon false (print a) = false ∨ ∃ x, print a = x ++ [58, 58] := by
  unfold print
  split
  · left
    unfold lastColon
    cases h : (print4 a).getLast? with
    | none => rfl
    | some c =>
      have : c ≠ 58 := by
        rintro rfl
        exact print4_no58 a ha (List.mem_of_getLast? h)
      simp [this]
  · rcases print6_cases a with ⟨_, h⟩ | ⟨p, n, _, _, _, h⟩
    · rw [h]; exact Or.inl (hexes_last _)
    · rw [h]
      rcases hexes_cases ((words a).drop (p + n)) with ⟨h1, _⟩ | ⟨d, r, h1, _⟩
      · rw [h1, List.append_nil]; exact Or.inr ⟨_, rfl⟩
      · left
        have h2 := noGap_last _ false (noGap_join ((words a).drop (p + n))) (by rw [h1]; simp)
        rw [h1] at h2 ⊢
        unfold lastColon at h2 ⊢
        rw [List.getLast?_append]
        exact h2

/-! ### texts that are none -/
theorem parse_none {t : List UInt8} (h : ∀ b : List UInt8, b.length = 16 → print b ≠ t) : parse t = none := by
  cases hp : parse t with
  | none => rfl
  | some b => exact absurd (parse_print hp) (h b (parse_length hp))
theorem none_nought (a : List UInt8) (ha : a.length = 16) (d : UInt8) (r : List UInt8) (h : print a = d :: r) (hd : d ≠ 58) : parse (48 :: print a) = none := by
  refine parse_none fun b hb e => ?_
  have h1 := nn_print b hb
  rw [e, h] at h1
  have h46 : d ≠ 46 := by
    rcases print_head a ha with ⟨d', r', h', _, h2⟩ | ⟨r', h'⟩
    · rw [h] at h'; simp only [List.cons.injEq] at h'; rw [h'.1]; exact h2
    · rw [h] at h'; simp only [List.cons.injEq] at h'; exact absurd h'.1 hd
  simp [nn, sepB, hd, h46] at h1
theorem none_colons (a : List UInt8) (ha : a.length = 16) (r : List UInt8) (h : print a = 58 :: r) : parse (48 :: 58 :: print a) = none := by
  refine parse_none fun b hb e => ?_
  have h1 := gaps_print b hb
  rcases print_head a ha with ⟨d', r', h', h2, _⟩ | ⟨r', h'⟩
  · rw [h] at h'; simp only [List.cons.injEq] at h'; exact h2 h'.1.symm
  · rw [e, h'] at h1
    simp [gaps] at h1
    omega
theorem none_colon (a : List UInt8) (ha : a.length = 16) : parse (print a ++ [58]) = none := by
  refine parse_none fun b hb e => ?_
  have h1 := gaps_print b hb
  rcases print_end b hb with h | ⟨x, h⟩
  · rw [e] at h
    unfold lastColon at h
    rw [List.getLast?_append] at h
    simp at h
  · rw [e] at h
    have h2 : print a = x ++ [58] := by
      have : print a ++ [58] = (x ++ [58]) ++ [58] := by rw [h]; simp
      exact List.append_cancel_right this
    rcases print_end a ha with h3 | ⟨y, h3⟩
    · rw [h2] at h3
      unfold lastColon at h3
      rw [List.getLast?_append] at h3
      simp at h3
    · rw [e, h3, gaps_app, gaps_app] at h1
      have e1 : lastColon false (y ++ [58, 58]) = true := by
        unfold lastColon
        rw [List.getLast?_append]
        rfl
      rw [e1] at h1
      have e2 : gaps true [58] = 1 := rfl
      have e3 : ∀ p, 1 ≤ gaps p [58, 58] := by intro p; cases p <;> decide
      have := e3 (lastColon false y)
      omega
theorem none_dot (a : List UInt8) (ha : a.length = 16) : parse (print a ++ [46, 49]) = none := by
  refine parse_none fun b hb e => ?_
  have h1 : (print b).count 46 = (print a).count 46 + 1 := by rw [e, List.count_append]; rfl
  have hc : ∀ c : List UInt8, c.length = 16 → (print c).count 46 = 3 ∨ (print c).count 46 = 0 := by
    intro c hc
    unfold print
    split
    · exact Or.inl (print4_count c hc).1
    · exact Or.inr (print6_count c)
  have h2 := hc a ha
  have h3 := hc b hb
  omega
theorem none_empty : parse [] = none := by
  refine parse_none fun b hb e => ?_
  rcases print_head b hb with ⟨d', r', h', _⟩ | ⟨r', h'⟩ <;> simp [h'] at e

def isLow (c : UInt8) : Bool := decide (97 ≤ c.toNat) && decide (c.toNat ≤ 102)
def upc (c : UInt8) : UInt8 := if isLow c then c - 32 else c
theorem print_chars (a : List UInt8) (ha : a.length = 16) : ∀ c ∈ print a, hexChar c = true ∨ c = 58 ∨ c = 46 := by
  intro c hc
  unfold print at hc
  split at hc
  · rcases print4_chars a ha c hc with h | h
    · left; unfold isDig at h; unfold hexChar; rw [h]; rfl
    · exact Or.inr (Or.inr h)
  · rcases print6_chars a c hc with h | h
    · exact Or.inl h
    · exact Or.inr (Or.inl h)
theorem upc_fin : ∀ n : Fin 256, isLow (UInt8.ofNat n.val) = true → hexChar (upc (UInt8.ofNat n.val)) = false ∧ upc (UInt8.ofNat n.val) ≠ 58 ∧ upc (UInt8.ofNat n.val) ≠ 46 := by decide +kernel
theorem upc_bad (c : UInt8) (h : isLow c = true) : hexChar (upc c) = false ∧ upc c ≠ 58 ∧ upc c ≠ 46 := by
  have := upc_fin ⟨c.toNat, c.toNat_lt⟩
  simp only [UInt8.ofNat_toNat] at this
  exact this h
/-- Capitals: none, or the address. -/
theorem parse_upper (a : List UInt8) (ha : a.length = 16) : parse ((print a).map upc) = if (print a).any isLow then none else some a := by
  split
  · rename_i h
    refine parse_none fun b hb e => ?_
    rw [List.any_eq_true] at h
    obtain ⟨c, hc, hl⟩ := h
    have h1 : upc c ∈ print b := by rw [e]; exact List.mem_map_of_mem hc
    have h2 := upc_bad c hl
    rcases print_chars b hb _ h1 with h | h | h
    · rw [h2.1] at h; simp at h
    · exact h2.2.1 h
    · exact h2.2.2 h
  · rename_i h
    have : (print a).map upc = print a := by
      conv => rhs; rw [← List.map_id (print a)]
      apply List.map_congr_left
      intro c hc
      unfold upc
      rw [if_neg]
      · rfl
      · intro h1
        exact h (List.any_eq_true.2 ⟨c, hc, h1⟩)
    rw [this, parse_of_print a ha]

/-! ### place by place -/
theorem lastColon_take (l : List UInt8) (i : Nat) (h : i ≤ l.length) : lastColon false (l.take i) = (decide (0 < i) && l.getD (i - 1) 0 == 58) := by
  cases i with
  | zero => rfl
  | succ i =>
    rw [List.take_succ_eq_append_getElem (by omega)]
    unfold lastColon
    rw [List.getLast?_append]
    simp [List.getD, List.getElem?_eq_getElem (show i < l.length by omega)]
theorem gaps_take (l : List UInt8) (i : Nat) (h : i < l.length) : gaps false (l.take (i + 1)) = gaps false (l.take i) + if l.getD i 0 = 58 ∧ 0 < i ∧ l.getD (i - 1) 0 = 58 then 1 else 0 := by
  rw [List.take_succ_eq_append_getElem h, gaps_app, lastColon_take l i (by omega)]
  have hg : l.getD i 0 = l[i] := by simp [List.getD, List.getElem?_eq_getElem h]
  rw [hg]
  congr 1
  generalize l.getD (i - 1) 0 = y
  generalize l[i] = x
  by_cases h1 : x = 58 <;> by_cases h2 : 0 < i <;> by_cases h3 : y = 58 <;> simp [gaps, h1, h2, h3]
theorem count_take (x : UInt8) (l : List UInt8) (i : Nat) (h : i < l.length) : (l.take (i + 1)).count x = (l.take i).count x + if l.getD i 0 = x then 1 else 0 := by
  rw [List.take_succ_eq_append_getElem h, List.count_append]
  have hg : l.getD i 0 = l[i] := by simp [List.getD, List.getElem?_eq_getElem h]
  rw [hg, List.count_singleton]
  congr 1
  by_cases h1 : l[i] = x <;> simp [h1]
def anyZ (a : List UInt8) (i : Nat) : Bool := (List.range i).any fun i => wordAt a i == 0 && wordAt a (i + 1) == 0
theorem anyZ_succ (a : List UInt8) (i : Nat) : anyZ a (i + 1) = (anyZ a i || (a.getD (2 * i) 0 == 0 && a.getD (2 * i + 1) 0 == 0 && a.getD (2 * i + 2) 0 == 0 && a.getD (2 * i + 3) 0 == 0)) := by
  unfold anyZ
  rw [List.range_succ, List.any_append]
  congr 1
  simp only [List.any_cons, List.any_nil, Bool.or_false]
  have hw : ∀ j, (wordAt a j == 0) = (a.getD (2 * j) 0 == 0 && a.getD (2 * j + 1) 0 == 0) := by
    intro j
    unfold wordAt
    rw [Bool.eq_iff_iff, beq_iff_eq, Bool.and_eq_true, beq_iff_eq, beq_iff_eq]
    constructor
    · intro h
      constructor
      · apply UInt8.toNat_inj.1
        show _ = 0
        omega
      · apply UInt8.toNat_inj.1
        show _ = 0
        omega
    · rintro ⟨h1, h2⟩
      rw [h1, h2]; rfl
  rw [hw, hw, Bool.and_assoc]
  simp [Bool.and_assoc, Nat.mul_add]
theorem print_nonempty (a : List UInt8) (ha : a.length = 16) : 0 < (print a).length := by
  rcases print_head a ha with ⟨d, r, h, _⟩ | ⟨r, h⟩ <;> rw [h] <;> simp
theorem is4_spec {a : List UInt8} (h : is4 a = true) : a.take 12 = v4head := by unfold is4 at h; exact eq_of_beq h
theorem getD_mem {l : List UInt8} {i : Nat} (h : i < l.length) : l.getD i 0 ∈ l := by
  simp [List.getD, List.getElem?_eq_getElem h]

end Pl
end Go.Proofs.YtgdfmhdgmjogiaaDoor
