/- Plain lists of bytes: cutting at one byte, joining; no program. -/
import Derived.Lib.SplitLaws
import Derived.Lib.Join
namespace Go.Proofs.YtgdfmhdgmjogiabDoor
namespace Pl

/-- Put a byte ahead of the first piece. -/
def headCons (b : UInt8) : List (List UInt8) → List (List UInt8)
  | [] => [[b]]
  | x :: r => (b :: x) :: r

/-- The pieces between the bytes c. -/
def splitc (c : UInt8) : List UInt8 → List (List UInt8)
  | [] => [[]]
  | b :: l => if b = c then [] :: splitc c l else headCons b (splitc c l)

theorem splitc_ne (c : UInt8) (l : List UInt8) : splitc c l ≠ [] := by
  cases l with
  | nil => simp [splitc]
  | cons b l =>
    unfold splitc
    split
    · simp
    · cases splitc c l <;> simp [headCons]

theorem index_cons_eq (c : UInt8) (l : List UInt8) : Lib.index (c :: l) [c] = 0 := by
  rw [Lib.index]; simp [List.isPrefixOf]

theorem index_cons_ne (b c : UInt8) (l : List UInt8) (h : b ≠ c) : Lib.index (b :: l) [c] = if Lib.index l [c] == -1 then -1 else Lib.index l [c] + 1 := by
  have hp : ([c] : List UInt8).isPrefixOf (b :: l) = false := by simp [List.isPrefixOf, Ne.symm h]
  rw [Lib.index, hp]; simp

theorem splitK_all (c : UInt8) : ∀ (s : List UInt8) (k : Nat), s.count c = k → Lib.splitK [c] 0 k s = splitc c s := by
  intro s
  induction s with
  | nil =>
    intro k hk
    simp at hk
    subst hk
    rfl
  | cons b l ih =>
    intro k hk
    by_cases h : b = c
    · subst h
      simp at hk
      obtain ⟨k, rfl⟩ : ∃ m, k = m + 1 := ⟨l.count b, by omega⟩
      have hk' : l.count b = k := by omega
      rw [Lib.splitK, index_cons_eq]
      simp [splitc, ih k hk']
    · rw [List.count_cons_of_ne (by simpa using h)] at hk
      have ih' := ih k hk
      unfold splitc
      rw [if_neg h, ← ih']
      cases k with
      | zero => rfl
      | succ k =>
        rw [Lib.splitK, Lib.splitK, index_cons_ne b c l h]
        have hge := Lib.index_ge l [c]
        by_cases hm : Lib.index l [c] = -1
        · rw [hm]; rfl
        · have h1 : (Lib.index l [c] == -1) = false := by rw [beq_eq_false_iff_ne]; exact hm
          obtain ⟨j, hj⟩ : ∃ j : Nat, Lib.index l [c] = j := ⟨(Lib.index l [c]).toNat, by omega⟩
          rw [h1, hj]
          have h2 : (((j : Int) + 1) == -1) = false := by rw [beq_eq_false_iff_ne]; omega
          simp only [Bool.false_eq_true, if_false, h2]
          have h3 : ((j : Int) + 1).toNat = j + 1 := by omega
          rw [h3]
          simp [headCons]

theorem split_one (c : UInt8) (s : List UInt8) : Lib.split s [c] = splitc c s := by
  unfold Lib.split
  rw [splitK_all c s _ (Lib.count_one c s).symm]

theorem splitc_none (c : UInt8) : ∀ (l : List UInt8), c ∉ l → splitc c l = [l]
  | [], _ => rfl
  | b :: l, h => by
    have h1 : b ≠ c := fun e => h (by simp [e])
    have h2 : c ∉ l := fun e => h (by simp [e])
    unfold splitc
    rw [if_neg h1, splitc_none c l h2]
    rfl

theorem splitc_app (c : UInt8) (r : List UInt8) : ∀ (l : List UInt8), c ∉ l → splitc c (l ++ c :: r) = l :: splitc c r
  | [], _ => by simp [splitc]
  | b :: l, h => by
    have h1 : b ≠ c := fun e => h (by simp [e])
    have h2 : c ∉ l := fun e => h (by simp [e])
    rw [List.cons_append]
    conv => lhs; unfold splitc
    rw [if_neg h1, splitc_app c r l h2]
    rfl

theorem join_cons2 (x y : List UInt8) (r : List (List UInt8)) (sep : List UInt8) : Lib.join (x :: y :: r) sep = x ++ sep ++ Lib.join (y :: r) sep := by
  simp [Lib.join, List.intercalate, List.intersperse]

/-- Pieces without c come back from their join. -/
theorem split_join (c : UInt8) : ∀ (xs : List (List UInt8)), xs ≠ [] → (∀ x ∈ xs, c ∉ x) → splitc c (Lib.join xs [c]) = xs
  | [], h, _ => absurd rfl h
  | [x], _, h => by rw [Lib.join_one]; exact splitc_none c x (h x (by simp))
  | x :: y :: r, _, h => by
    rw [join_cons2, List.append_assoc, List.singleton_append, splitc_app c _ x (h x (by simp)), split_join c (y :: r) (by simp) (fun z hz => h z (by simp [hz]))]

/-- A text is the join of its pieces. -/
theorem join_split (c : UInt8) : ∀ (s : List UInt8), Lib.join (splitc c s) [c] = s
  | [] => by simp [splitc, Lib.join, List.intercalate]
  | b :: l => by
    have ih := join_split c l
    have hn := splitc_ne c l
    unfold splitc
    by_cases h : b = c
    · rw [if_pos h]
      cases hs : splitc c l with
      | nil => exact absurd hs hn
      | cons x r => rw [hs] at ih; rw [join_cons2, ih, h]; rfl
    · rw [if_neg h]
      cases hs : splitc c l with
      | nil => exact absurd hs hn
      | cons x r =>
        rw [hs] at ih
        cases r with
        | nil => rw [Lib.join_one] at ih; simp [headCons, Lib.join_one, ih]
        | cons y r => rw [join_cons2] at ih; simp only [headCons]; rw [join_cons2]; simp at ih ⊢; exact ih

theorem splitc_mem (c : UInt8) : ∀ (s : List UInt8), ∀ x ∈ splitc c s, c ∉ x
  | [], x, hx => by simp [splitc] at hx; simp [hx]
  | b :: l, x, hx => by
    have ih := splitc_mem c l
    unfold splitc at hx
    by_cases h : b = c
    · rw [if_pos h] at hx
      simp at hx
      rcases hx with rfl | hx
      · simp
      · exact ih x hx
    · rw [if_neg h] at hx
      cases hs : splitc c l with
      | nil => exact absurd hs (splitc_ne c l)
      | cons y r =>
        rw [hs] at hx ih
        simp [headCons] at hx
        rcases hx with rfl | hx
        · have := ih y (by simp)
          simp [this, Ne.symm h]
        · exact ih x (by simp [hx])

theorem splitc_length (c : UInt8) : ∀ (s : List UInt8), (splitc c s).length = s.count c + 1
  | [] => rfl
  | b :: l => by
    have ih := splitc_length c l
    unfold splitc
    by_cases h : b = c
    · rw [if_pos h, List.length_cons, ih, h]; simp
    · rw [if_neg h, List.count_cons_of_ne (by simpa using h)]
      cases hs : splitc c l with
      | nil => exact absurd hs (splitc_ne c l)
      | cons y r => rw [hs] at ih; simpa [headCons] using ih

theorem splitc_le (c : UInt8) : ∀ (s : List UInt8), ∀ x ∈ splitc c s, x.length ≤ s.length
  | [], x, hx => by simp [splitc] at hx; simp [hx]
  | b :: l, x, hx => by
    have ih := splitc_le c l
    unfold splitc at hx
    by_cases h : b = c
    · rw [if_pos h] at hx
      simp at hx
      rcases hx with rfl | hx
      · simp
      · have := ih x hx; simp; omega
    · rw [if_neg h] at hx
      cases hs : splitc c l with
      | nil => exact absurd hs (splitc_ne c l)
      | cons y r =>
        rw [hs] at hx ih
        simp [headCons] at hx
        rcases hx with rfl | hx
        · have := ih y (by simp); simp; omega
        · have := ih x (by simp [hx]); simp; omega

theorem cut_le (s sep : List UInt8) : (Lib.cut s sep).1.length ≤ s.length ∧ (Lib.cut s sep).2.1.length ≤ s.length := by
  unfold Lib.cut
  split
  · simp; omega
  · simp

end Pl
end Go.Proofs.YtgdfmhdgmjogiabDoor
