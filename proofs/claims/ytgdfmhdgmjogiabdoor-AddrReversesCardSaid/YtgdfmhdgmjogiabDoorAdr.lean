/- Addresses as sixteen bytes, their texts, and what is read of a text; plain lists, no program. -/
import Derived.Test.YtgdfmhdgmjogiabDoorStr
import Derived.Lib.ItoaNum
import Derived.Lib.ParseIntB
namespace Go.Proofs.YtgdfmhdgmjogiabDoor
namespace Pl

def hexd (n : Nat) : UInt8 := UInt8.ofNat (if n < 10 then 48 + n else 87 + n)
def hexDig (u : Nat) : List UInt8 := if _h : u < 16 then [hexd u] else hexDig (u / 16) ++ [hexd (u % 16)]
termination_by u
decreasing_by omega

/-- A byte's value in base 16. -/
def hexVal (c : UInt8) : Option Nat :=
  if 48 ≤ c.toNat ∧ c.toNat ≤ 57 then some (c.toNat - 48) else if 97 ≤ c.toNat ∧ c.toNat ≤ 102 then some (c.toNat - 87) else if 65 ≤ c.toNat ∧ c.toNat ≤ 70 then some (c.toNat - 55) else none
def p16 : Nat → List UInt8 → Option Nat
  | acc, [] => some acc
  | acc, c :: r => match hexVal c with
    | none => none
    | some d => if 65535 < acc * 16 + d then none else p16 (acc * 16 + d) r
def parse16 (l : List UInt8) : Option Nat := if l = [] then none else p16 0 l
def parse8 (l : List UInt8) : Option Nat := match Lib.parseUintB 8 l with
  | .ok u => some u
  | _ => none

def mapO {α β : Type} (f : α → Option β) : List α → Option (List β)
  | [] => some []
  | x :: r => match f x with
    | none => none
    | some y => match mapO f r with
      | none => none
      | some ys => some (y :: ys)

def v4head : List UInt8 := [0, 0, 0, 0, 0, 0, 0, 0, 0, 0, 255, 255]
def v4 (b : List UInt8) : List UInt8 := v4head ++ b
def is4 (a : List UInt8) : Bool := a.take 12 == v4head
def print4 (a : List UInt8) : List UInt8 := Lib.join ((a.drop 12).map fun x => Lib.decDigits x.toNat) [46]
def wordAt (a : List UInt8) (i : Nat) : Nat := (a.getD (2 * i) 0).toNat * 256 + (a.getD (2 * i + 1) 0).toNat
def words (a : List UInt8) : List Nat := (List.range 8).map (wordAt a)
def unword (n : Nat) : List UInt8 := [UInt8.ofNat (n / 256), UInt8.ofNat n]
def zrun (w : List Nat) (i : Nat) : Nat := ((w.drop i).takeWhile (· == 0)).length
def bestStep (w : List Nat) (b : Int × Nat) (i : Nat) : Int × Nat := if b.2 < zrun w i then ((i : Int), zrun w i) else b
def best (w : List Nat) : Int × Nat := (List.range 8).foldl (bestStep w) (-1, 1)
def sepOf (s : List UInt8) : List UInt8 := if s ≠ [] ∧ Lib.hasSuffix s [58] = false then [58] else []
def emit (w : List Nat) (at_ : Int) (size : Nat) : Nat → Nat → List UInt8 → List UInt8
  | 0, _, s => s
  | f + 1, i, s => if 8 ≤ i then s else if (i : Int) = at_ then emit w at_ size f (i + size) (s ++ [58, 58]) else emit w at_ size f (i + 1) (s ++ sepOf s ++ hexDig (w.getD i 0))
def print6 (a : List UInt8) : List UInt8 := emit (words a) (best (words a)).1 (best (words a)).2 9 0 []
def print (a : List UInt8) : List UInt8 := if is4 a then print4 a else print6 a

def four (s : List UInt8) : Option (List UInt8) :=
  if (splitc 46 s).length = 4 then (mapO parse8 (splitc 46 s)).map fun l => v4 (l.map UInt8.ofNat) else none
def piecesOf (s : List UInt8) : List (List UInt8) := if s = [] then [] else splitc 58 s
def six (s : List UInt8) : Option (List UInt8) :=
  let c := Lib.cut s [58, 58]
  let l := piecesOf c.1
  let r := piecesOf c.2.1
  if 8 < l.length + r.length ∨ (c.2.2 = false ∧ l.length ≠ 8) then none
  else (mapO parse16 (l ++ r)).map fun ws => ((ws.take l.length ++ List.replicate (8 - l.length - r.length) 0 ++ ws.drop l.length).map unword).flatten
def parse (s : List UInt8) : Option (List UInt8) :=
  match four s with
  | some a => if print a = s then some a else none
  | none => match six s with
    | some a => if print a = s then some a else none
    | none => none

theorem parse_print {s a : List UInt8} (h : parse s = some a) : print a = s := by
  unfold parse at h
  split at h
  · split at h
    · simp_all
    · simp at h
  · split at h
    · split at h
      · simp_all
      · simp at h
    · simp at h

/-! ### numbers and their digits -/

theorem hexVal_hexd_fin : ∀ n : Fin 16, hexVal (hexd n.val) = some n.val := by decide +kernel
theorem hexVal_hexd {n : Nat} (h : n < 16) : hexVal (hexd n) = some n := hexVal_hexd_fin ⟨n, h⟩

theorem p16_app (r : List UInt8) : ∀ (l : List UInt8) (acc : Nat), p16 acc (l ++ r) = (p16 acc l).bind fun a => p16 a r
  | [], acc => rfl
  | c :: l, acc => by
    simp only [List.cons_append, p16]
    cases hexVal c with
    | none => rfl
    | some d =>
      simp only
      split
      · rfl
      · exact p16_app r l _

theorem p16_hexDig (u : Nat) : u < 65536 → p16 0 (hexDig u) = some u := by
  induction u using Nat.strongRecOn with
  | ind u ih =>
    intro hu
    rw [hexDig]
    by_cases h : u < 16
    · rw [dif_pos h]
      simp only [p16, hexVal_hexd h]
      rw [if_neg (by omega)]; simp
    · rw [dif_neg h, p16_app, ih (u / 16) (by omega) (by omega)]
      simp only [Option.bind_some, p16, hexVal_hexd (show u % 16 < 16 by omega)]
      rw [if_neg (by omega)]
      congr 1; omega

theorem hexDig_ne (u : Nat) : hexDig u ≠ [] := by
  rw [hexDig]; split <;> simp

theorem parse16_hexDig {u : Nat} (h : u < 65536) : parse16 (hexDig u) = some u := by
  unfold parse16; rw [if_neg (hexDig_ne u), p16_hexDig u h]

def hexChar (c : UInt8) : Bool := (decide (48 ≤ c.toNat) && decide (c.toNat ≤ 57)) || (decide (97 ≤ c.toNat) && decide (c.toNat ≤ 102))
theorem hexd_char_fin : ∀ n : Fin 16, hexChar (hexd n.val) = true := by decide +kernel
theorem hexDig_char (u : Nat) : ∀ c ∈ hexDig u, hexChar c = true := by
  induction u using Nat.strongRecOn with
  | ind u ih =>
    intro c hc
    rw [hexDig] at hc
    by_cases h : u < 16
    · rw [dif_pos h] at hc
      simp at hc; subst hc
      exact hexd_char_fin ⟨u, h⟩
    · rw [dif_neg h] at hc
      simp at hc
      rcases hc with hc | rfl
      · exact ih (u / 16) (by omega) c hc
      · exact hexd_char_fin ⟨u % 16, by omega⟩

theorem hexChar_ne {c : UInt8} (h : hexChar c = true) : c ≠ 58 ∧ c ≠ 46 := by
  constructor <;> (rintro rfl; revert h; decide)

theorem hexDig_no58 (u : Nat) : (58 : UInt8) ∉ hexDig u := fun h => (hexChar_ne (hexDig_char u _ h)).1 rfl
theorem hexDig_no46 (u : Nat) : (46 : UInt8) ∉ hexDig u := fun h => (hexChar_ne (hexDig_char u _ h)).2 rfl

theorem hexDig_length (u : Nat) (h : u < 65536) : (hexDig u).length ≤ 4 := by
  rw [hexDig]
  by_cases h1 : u < 16
  · rw [dif_pos h1]; simp
  · rw [dif_neg h1, hexDig]
    by_cases h2 : u / 16 < 16
    · rw [dif_pos h2]; simp
    · rw [dif_neg h2, hexDig]
      by_cases h3 : u / 16 / 16 < 16
      · rw [dif_pos h3]; simp
      · rw [dif_neg h3, hexDig, dif_pos (by omega)]; simp

/-- Base 16 without noughts ahead: it begins with 0 at 0 alone. -/
theorem hexDig_head (u : Nat) : (hexDig u).head? = some 48 → u = 0 := by
  induction u using Nat.strongRecOn with
  | ind u ih =>
    intro h0
    rw [hexDig] at h0
    by_cases h : u < 16
    · rw [dif_pos h] at h0
      have : ∀ n : Fin 16, hexd n.val = 48 → n.val = 0 := by decide +kernel
      exact this ⟨u, h⟩ (by simpa using h0)
    · rw [dif_neg h] at h0
      have h1 : (hexDig (u / 16)).head? = some 48 := by
        cases hx : hexDig (u / 16) with
        | nil => exact absurd hx (hexDig_ne _)
        | cons x r => rw [hx] at h0; simpa using h0
      have := ih (u / 16) (by omega) h1
      omega

def dec3 (u : Nat) : List UInt8 := if u < 10 then [UInt8.ofNat (48 + u)] else if u < 100 then [UInt8.ofNat (48 + u / 10), UInt8.ofNat (48 + u % 10)] else [UInt8.ofNat (48 + u / 100), UInt8.ofNat (48 + u / 10 % 10), UInt8.ofNat (48 + u % 10)]
theorem decDigits_dec3 {u : Nat} (h : u < 1000) : Lib.decDigits u = dec3 u := by
  unfold dec3
  by_cases h1 : u < 10
  · rw [if_pos h1, Lib.decDigits_one h1]
  · rw [if_neg h1]
    by_cases h2 : u < 100
    · rw [if_pos h2, Lib.decDigits_two h1 h2]
    · rw [if_neg h2, Lib.decDigits, dif_neg h1, Lib.decDigits_two (by omega) (by omega)]
      have e : u / 10 / 10 = u / 100 := by omega
      rw [e]; rfl

theorem dec3_back_fin : ∀ u : Fin 256, parse8 (dec3 u.val) = some u.val := by decide +kernel
theorem parse8_dec {u : Nat} (h : u < 256) : parse8 (Lib.decDigits u) = some u := by
  rw [decDigits_dec3 (by omega)]; exact dec3_back_fin ⟨u, h⟩
theorem dec3_char_fin : ∀ u : Fin 256, (dec3 u.val).all (fun c => decide (48 ≤ c.toNat) && decide (c.toNat ≤ 57)) = true := by decide +kernel
theorem dec_char {u : Nat} (h : u < 256) : ∀ c ∈ Lib.decDigits u, 48 ≤ c.toNat ∧ c.toNat ≤ 57 := by
  intro c hc
  rw [decDigits_dec3 (by omega)] at hc
  have := List.all_eq_true.1 (dec3_char_fin ⟨u, h⟩) c hc
  simpa using this
theorem dec_no {u : Nat} (h : u < 256) {x : UInt8} (hx : x.toNat < 48 ∨ 57 < x.toNat) : x ∉ Lib.decDigits u := fun hc => by
  have := dec_char h x hc; omega
theorem dec_ne (u : Nat) : Lib.decDigits u ≠ [] := by
  rw [Lib.decDigits]; split <;> simp
theorem dec3_head_fin : ∀ u : Fin 256, (dec3 u.val).head? = some 48 → u.val = 0 := by decide +kernel
theorem dec_head {u : Nat} (h : u < 256) : (Lib.decDigits u).head? = some 48 → u = 0 := by
  rw [decDigits_dec3 (by omega)]; exact dec3_head_fin ⟨u, h⟩
theorem dec3_len_fin : ∀ u : Fin 256, 1 ≤ (dec3 u.val).length ∧ (dec3 u.val).length ≤ 3 := by decide +kernel
theorem dec_len {u : Nat} (h : u < 256) : 1 ≤ (Lib.decDigits u).length ∧ (Lib.decDigits u).length ≤ 3 := by
  rw [decDigits_dec3 (by omega)]; exact dec3_len_fin ⟨u, h⟩

/-! ### IPv4 -/

theorem mapO_map {α β γ : Type} (f : β → Option γ) (g : α → β) (k : α → γ) : ∀ (l : List α), (∀ x ∈ l, f (g x) = some (k x)) → mapO f (l.map g) = some (l.map k)
  | [], _ => rfl
  | x :: r, h => by
    simp only [List.map_cons, mapO, h x (by simp)]
    rw [mapO_map f g k r (fun y hy => h y (by simp [hy]))]

theorem u8_of (x : UInt8) : UInt8.ofNat x.toNat = x := by simp

theorem four_print4 (a : List UInt8) (hl : a.length = 16) (h4 : is4 a = true) : four (print4 a) = some a := by
  have hne : (a.drop 12).map (fun x => Lib.decDigits x.toNat) ≠ [] := by
    intro h; have := congrArg List.length h; simp [hl] at this
  have hs : splitc 46 (print4 a) = (a.drop 12).map (fun x => Lib.decDigits x.toNat) := by
    unfold print4
    refine split_join 46 _ hne ?_
    intro x hx
    simp only [List.mem_map] at hx
    obtain ⟨y, _, rfl⟩ := hx
    exact dec_no y.toNat_lt (by left; decide)
  unfold four
  rw [hs, if_pos (by simp [hl]), mapO_map parse8 (fun x : UInt8 => Lib.decDigits x.toNat) (fun x => x.toNat) _ (fun x _ => parse8_dec x.toNat_lt)]
  simp only [Option.map_some, List.map_map]
  congr 1
  have h5 : (UInt8.ofNat ∘ fun x : UInt8 => x.toNat) = id := by funext x; simp
  rw [h5, List.map_id]
  unfold v4
  unfold is4 at h4
  rw [← eq_of_beq h4, List.take_append_drop]

/-! ### IPv6 -/

def seg (s : List UInt8) (l : List Nat) : List UInt8 := if l = [] then s else s ++ sepOf s ++ Lib.join (l.map hexDig) [58]

theorem hasSuffix_last (s t : List UInt8) (ht : t ≠ []) : Lib.hasSuffix (s ++ t) [58] = (t.getLast? == some 58) := by
  rw [Bool.eq_iff_iff]
  unfold Lib.hasSuffix
  rw [List.isSuffixOf_iff_suffix, beq_iff_eq]
  obtain ⟨u, x, rfl⟩ : ∃ u x, t = u ++ [x] := ⟨t.dropLast, t.getLast ht, (List.dropLast_concat_getLast ht).symm⟩
  simp only [List.getLast?_append, List.getLast?_singleton, Option.some_or]
  constructor
  · rintro ⟨r, hr⟩
    rw [← List.append_assoc] at hr
    have := List.append_inj_right' hr rfl
    simpa using this.symm
  · intro h
    have : x = 58 := by simpa using h
    subst this
    exact ⟨s ++ u, by simp⟩

theorem sepOf_hex (s : List UInt8) (u : Nat) : sepOf (s ++ hexDig u) = [58] := by
  unfold sepOf
  rw [hasSuffix_last _ _ (hexDig_ne u), if_pos]
  refine ⟨by simp [hexDig_ne u], ?_⟩
  rw [beq_eq_false_iff_ne]
  intro h
  exact hexDig_no58 u (List.mem_of_getLast? h)

theorem sepOf_gap (s : List UInt8) : sepOf (s ++ [58, 58]) = [] := by
  unfold sepOf
  rw [hasSuffix_last _ _ (by simp), if_neg]
  rintro ⟨_, h⟩
  revert h; decide

theorem seg_cons (s : List UInt8) (x : Nat) (l : List Nat) : seg (s ++ sepOf s ++ hexDig x) l = seg s (x :: l) := by
  unfold seg
  cases l with
  | nil => simp [Lib.join_one]
  | cons y r =>
    rw [if_neg (by simp), if_neg (by simp), sepOf_hex]
    simp only [List.map_cons]
    rw [join_cons2]
    simp

theorem emit_plain (w : List Nat) (at_ : Int) (size : Nat) : ∀ (d f i : Nat) (s : List UInt8), 8 ≤ i + d → d < f → w.length = 8 → (at_ < i ∨ 8 ≤ at_) → emit w at_ size f i s = seg s (w.drop i)
  | d, 0, i, s, _, h, _, _ => absurd h (Nat.not_lt_zero _)
  | 0, f + 1, i, s, h1, _, hw, _ => by
    unfold emit
    rw [if_pos (by omega), List.drop_of_length_le (by omega)]
    rfl
  | d + 1, f + 1, i, s, h1, h2, hw, hat => by
    unfold emit
    by_cases h8 : 8 ≤ i
    · rw [if_pos h8, List.drop_of_length_le (by omega)]; rfl
    · rw [if_neg h8, if_neg (by omega), emit_plain w at_ size d f (i + 1) _ (by omega) (by omega) hw (by omega), seg_cons]
      congr 1
      rw [List.drop_eq_getElem_cons (by omega : i < w.length)]
      congr 1
      simp [List.getD, List.getElem?_eq_getElem (show i < w.length by omega)]

theorem emit_gap (w : List Nat) (a size : Nat) (ha : a + size ≤ 8) (hs : 1 ≤ size) (hw : w.length = 8) : ∀ (d f i : Nat) (s : List UInt8), i + d = a → 9 ≤ f + i → emit w (a : Int) size f i s = seg (seg s ((w.take a).drop i) ++ [58, 58]) (w.drop (a + size))
  | 0, 0, i, s, h1, h2 => by omega
  | d, 0, i, s, h1, h2 => by omega
  | 0, f + 1, i, s, h1, h2 => by
    have : i = a := by omega
    subst this
    unfold emit
    rw [if_neg (by omega), if_pos rfl, emit_plain w i size (8 - (i + size)) f (i + size) _ (by omega) (by omega) hw (by omega)]
    have e : (w.take i).drop i = [] := by simp
    rw [e]; rfl
  | d + 1, f + 1, i, s, h1, h2 => by
    unfold emit
    rw [if_neg (by omega), if_neg (by omega), emit_gap w a size ha hs hw d f (i + 1) _ (by omega) (by omega), seg_cons]
    congr 3
    have hlt : i < (w.take a).length := by simp; omega
    rw [List.drop_eq_getElem_cons hlt]
    congr 1
    simp [List.getD, List.getElem?_eq_getElem (show i < w.length by omega)]

theorem zrun_le (w : List Nat) (i : Nat) : zrun w i ≤ w.length - i := by
  unfold zrun
  refine Nat.le_trans (List.takeWhile_sublist _).length_le ?_
  simp

theorem best_inv (w : List Nat) : ∀ (l : List Nat), ((l.foldl (bestStep w) (-1, 1)).1 = -1 ∧ (l.foldl (bestStep w) (-1, 1)).2 = 1 ∧ ∀ i ∈ l, zrun w i ≤ 1) ∨
    (∃ a : Nat, a ∈ l ∧ (l.foldl (bestStep w) (-1, 1)).1 = a ∧ (l.foldl (bestStep w) (-1, 1)).2 = zrun w a ∧ 2 ≤ zrun w a) := by
  intro l
  suffices h : ∀ (l pre : List Nat) (b : Int × Nat), ((b.1 = -1 ∧ b.2 = 1 ∧ ∀ i ∈ pre, zrun w i ≤ 1) ∨ (∃ a : Nat, a ∈ pre ∧ b.1 = a ∧ b.2 = zrun w a ∧ 2 ≤ zrun w a)) →
      (((l.foldl (bestStep w) b).1 = -1 ∧ (l.foldl (bestStep w) b).2 = 1 ∧ ∀ i ∈ pre ++ l, zrun w i ≤ 1) ∨ (∃ a : Nat, a ∈ pre ++ l ∧ (l.foldl (bestStep w) b).1 = a ∧ (l.foldl (bestStep w) b).2 = zrun w a ∧ 2 ≤ zrun w a)) by
    simpa using h l [] (-1, 1) (Or.inl ⟨rfl, rfl, by simp⟩)
  intro l
  induction l with
  | nil => intro pre b h; simpa using h
  | cons x l ih =>
    intro pre b h
    rw [List.foldl_cons]
    have := ih (pre ++ [x]) (bestStep w b x) ?_
    · simpa using this
    · unfold bestStep
      by_cases hx : b.2 < zrun w x
      · rw [if_pos hx]
        right
        refine ⟨x, by simp, rfl, rfl, ?_⟩
        rcases h with ⟨_, h2, _⟩ | ⟨a, _, _, h3, h4⟩ <;> omega
      · rw [if_neg hx]
        rcases h with ⟨h1, h2, h3⟩ | ⟨a, h1, h2, h3, h4⟩
        · left
          refine ⟨h1, h2, ?_⟩
          intro i hi
          simp at hi
          rcases hi with hi | rfl
          · exact h3 i hi
          · omega
        · right
          exact ⟨a, by simp [h1], h2, h3, h4⟩

theorem words_length (a : List UInt8) : (words a).length = 8 := by simp [words]

/-- The text of an address that is not IPv4: either without a gap, or around the first longest gap. -/
theorem print6_cases (a : List UInt8) :
    ((∀ i, i < 8 → zrun (words a) i ≤ 1) ∧ print6 a = Lib.join ((words a).map hexDig) [58]) ∨
    (∃ p n : Nat, p + n ≤ 8 ∧ 2 ≤ n ∧ n = zrun (words a) p ∧ print6 a = Lib.join (((words a).take p).map hexDig) [58] ++ [58, 58] ++ Lib.join (((words a).drop (p + n)).map hexDig) [58]) := by
  have hw := words_length a
  unfold print6
  have hb := best_inv (words a) (List.range 8)
  change ((best (words a)).1 = -1 ∧ (best (words a)).2 = 1 ∧ _) ∨ (∃ p : Nat, _ ∧ (best (words a)).1 = p ∧ (best (words a)).2 = _ ∧ _) at hb
  rcases hb with ⟨h1, h2, h3⟩ | ⟨p, hp, h1, h2, h3⟩
  · left
    refine ⟨fun i hi => h3 i (by simpa using hi), ?_⟩
    rw [h1, h2, emit_plain (words a) (-1) 1 8 9 0 [] (by omega) (by omega) hw (by omega)]
    unfold seg
    rw [if_neg (by intro h; have := congrArg List.length h; simp [hw] at this)]
    simp [sepOf]
  · right
    have hz := zrun_le (words a) p
    rw [hw] at hz
    refine ⟨p, zrun (words a) p, ?_, h3, rfl, ?_⟩
    · simp at hp; omega
    · rw [h1, h2, emit_gap (words a) p _ (by simp at hp; omega) (by omega) hw p 9 0 [] (by omega) (by omega)]
      rw [List.drop_zero]
      generalize (words a).take p = l
      generalize (words a).drop (p + zrun (words a) p) = r
      have e1 : seg [] l = Lib.join (l.map hexDig) [58] := by
        unfold seg
        split
        · rename_i h; subst h; rfl
        · simp [sepOf]
      rw [e1]
      unfold seg
      split
      · rename_i h; subst h; simp [Lib.join, List.intercalate]
      · rw [sepOf_gap]; simp

end Pl
end Go.Proofs.YtgdfmhdgmjogiabDoor
