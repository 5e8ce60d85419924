/- The contract of label.Join, over slices of strings of the call's own; a literal row of strings. -/
import Derived.Test.YtgdfmhdgmjogiabDoorStr
import Derived.Test.YtgdfmhdgmjogiabDoorStrs
import Derived.Test.YtgdfmhdgmjogiabDoorPLinkGensx1
namespace Go.Proofs.YtgdfmhdgmjogiabDoor
open Go.RowKit Go.Proofs.YtgdfmhdgmjogiabDoorW.PrintWords Go.Proofs.YtgdfmhdgmjogiabDoorW.PrintLast Go.Proofs.YtgdfmhdgmjogiabDoorW.PrintMore Go.Proofs.YtgdfmhdgmjogiabDoor.PLinkGens
set_option linter.unusedVariables false

theorem jn_pos {α : Type} {c : Prop} [Decidable c] {f g : Nat → Option α} {r : α} (h : c) (H : Ev f r) : Ev (fun k => if c then f k else g k) r := by simp only [h, if_true]; exact H
theorem jn_neg {α : Type} {c : Prop} [Decidable c] {f g : Nat → Option α} {r : α} (h : ¬ c) (H : Ev g r) : Ev (fun k => if c then f k else g k) r := by simp only [h, if_false]; exact H
theorem jn_w1 (a : Nat) (h : a ≤ 4611686018427387904) : wrap64 ((a : Int) + 1) = ((a + 1 : Nat) : Int) := by rw [IntWalk.wrap64_in _ (by omega)]; omega
theorem jn_rd (xs : List ByteArray) (i : Nat) (h : i < xs.length) : rdOf ByteArray.empty xs (i : Int) = xs[i] := by
  simp [rdOf, List.getD, List.getElem?_eq_getElem h]
theorem join_flat (x : List UInt8) : ∀ r : List (List UInt8), Lib.join (x :: r) [46] = x ++ r.flatMap (fun y => 46 :: y)
  | [] => by rw [Lib.join_one]; simp
  | y :: r => by
    rw [Pl.join_cons2, join_flat y r]
    simp
theorem join_from (xs : List ByteArray) : ∀ (d i : Nat) (acc : ByteArray), 1 ≤ i → i + d = xs.length → i + d ≤ 1000000000 → acc.size + ((xs.drop i).flatMap fun y => 46 :: y.data.toList).length ≤ 9223372036854775807 →
    Ev (fun k => label_Join.l0 k acc xs (xs.length : Int) (i : Int)) ⟨(acc.data.toList ++ (xs.drop i).flatMap fun y => 46 :: y.data.toList).toArray⟩ := by
  intro d
  induction d with
  | zero =>
    intro i acc h1 hi hm hs
    have e : xs.drop i = [] := List.drop_of_length_le (by omega)
    rw [e]
    refine Ev.step (f := fun r => _) (fun r => by rw [label_Join.l0]) ?_
    refine jn_neg (by omega) ?_
    have e2 : (⟨(acc.data.toList ++ ([] : List ByteArray).flatMap fun y => 46 :: y.data.toList).toArray⟩ : ByteArray) = acc := by simp
    rw [e2]
    exact Ev.now _
  | succ d ih =>
    intro i acc h1 hi hm hs
    have hlt : i < xs.length := by omega
    have ed : xs.drop i = xs[i] :: xs.drop (i + 1) := List.drop_eq_getElem_cons hlt
    rw [ed] at hs ⊢
    rw [List.flatMap_cons, List.length_append, List.length_cons] at hs
    rw [List.flatMap_cons]
    have hsz : xs[i].data.toList.length = xs[i].size := (Lib.size_eq _).symm
    have hz : (acc ++ (⟨#[46]⟩ : ByteArray)).size = acc.size + 1 := by rw [ByteArray.size_append]; rfl
    refine Ev.step (f := fun r => _) (fun r => by rw [label_Join.l0]) ?_
    refine jn_pos (by omega) (jn_pos (by omega) (jn_pos (by omega) (jn_pos (by omega) (jn_pos (by omega) ?_))))
    rw [jn_rd xs i hlt, jn_w1 i (by omega)]
    refine jn_pos (by rw [hz]; omega) ?_
    have := ih (i + 1) (acc ++ (⟨#[46]⟩ : ByteArray) ++ xs[i]) (by omega) (by omega) (by omega) (by rw [ByteArray.size_append, hz]; omega)
    have e3 : (acc ++ (⟨#[46]⟩ : ByteArray) ++ xs[i]).data.toList ++ (xs.drop (i + 1)).flatMap (fun y => 46 :: y.data.toList) = acc.data.toList ++ ((46 :: xs[i].data.toList) ++ (xs.drop (i + 1)).flatMap fun y => 46 :: y.data.toList) := by simp
    rw [e3] at this
    exact this
theorem join_ev (xs : List ByteArray) (hl : xs.length ≤ 1000000000) (hs : (Lib.join (xs.map (·.data.toList)) [46]).length ≤ 9223372036854775807) :
    ∃ k, label_Join.f k xs = some ⟨(Lib.join (xs.map (·.data.toList)) [46]).toArray⟩ := by
  refine Ev.rounds (g := fun k => label_Join.f k xs) ?_
  unfold label_Join.f
  cases xs with
  | nil =>
    refine Ev.step (f := fun r => _) (fun r => by rw [label_Join.l0]) ?_
    refine jn_neg (by simp) ?_
    exact Ev.now _
  | cons x r =>
    rw [List.map_cons, join_flat] at hs ⊢
    have em : (r.map (·.data.toList)).flatMap (fun y => 46 :: y) = r.flatMap fun y => 46 :: y.data.toList := by rw [List.flatMap_map]
    rw [em] at hs ⊢
    rw [List.length_append] at hs
    have hsz : x.data.toList.length = x.size := (Lib.size_eq _).symm
    refine Ev.step (f := fun r => _) (fun r => by rw [label_Join.l0]) ?_
    have h0 : rdOf ByteArray.empty (x :: r) 0 = x := by simp [rdOf]
    rw [h0]
    have hn : (0 : Int) < ((x :: r).length : Int) := by simp only [List.length_cons]; omega
    refine jn_pos hn (jn_pos (by omega) (jn_pos hn (jn_neg (by omega) (jn_pos (by show ((⟨#[]⟩ : ByteArray).size : Nat) + x.size ≤ _; have : (⟨#[]⟩ : ByteArray).size = 0 := rfl; omega) ?_))))
    have e0 : wrap64 ((0 : Int) + 1) = ((1 : Nat) : Int) := by rw [IntWalk.wrap64_in _ (by omega)]; rfl
    have ex : (⟨#[]⟩ : ByteArray) ++ x = x := by
      apply ByteArray.ext
      simp
    rw [e0, ex]
    have := join_from (x :: r) r.length 1 x (by omega) (by simp; omega) (by simp at hl; omega) (by simp only [List.drop_succ_cons, List.drop_zero]; omega)
    simp only [List.drop_succ_cons, List.drop_zero] at this
    exact this

/-- The contract of label.Join. -/
theorem join_anyC {A : Option Addr} {c : Nat} {xs : List ByteArray} {w : World} (hC : Kd.string.C w A xs.length xs) (hc : xs.length ≤ c) (hl : xs.length ≤ 1000000000) (hs : (Lib.join (xs.map (·.data.toList)) [46]).length ≤ 9223372036854775807) :
    Calls Tryd.prog 21 #[.slice A xs.length c] w fun e w' => e = .returned (.string ⟨(Lib.join (xs.map (·.data.toList)) [46]).toArray⟩) ∧ Below w.heap.size w w' := by
  obtain ⟨k, hk⟩ := join_ev xs hl hs
  exact (label_Join.calls k A c xs _ w hC hc hk).mono fun e w' ⟨h1, h2⟩ => ⟨h1, h2.below⟩
theorem join_any {e base : Nat} {ok : Nat → Prop} {v : Value} {xs : List ByteArray} {w : World} (h : Kd.R Kd.string e w base ok v xs) (hl : xs.length ≤ 1000000000) (hs : (Lib.join (xs.map (·.data.toList)) [46]).length ≤ 9223372036854775807) :
    Calls Tryd.prog 21 #[v] w fun e w' => e = .returned (.string ⟨(Lib.join (xs.map (·.data.toList)) [46]).toArray⟩) ∧ Below w.heap.size w w' := by
  obtain ⟨A, c, rfl, hc, hC⟩ := Kd.R_reads h
  exact join_anyC hC hc hl hs

/-- A literal row of strings reads as it was laid. -/
theorem lit_C (w : World) (e : TypeId) (ys : List ByteArray) (h : ys.length ≤ 1000000000) : Kd.string.C (w.alloc (.cells (ys.map Value.string).toArray e)) (some ⟨w.heap.size, 0, none⟩) ys.length ys := by
  refine ⟨rfl, by omega, fun _ => ⟨_, rfl, fun j p hp => ⟨[.string p], rfl, rfl, ?_⟩⟩⟩
  intro i u hu
  cases i with
  | succ i => simp at hu
  | zero =>
    simp at hu
    subst hu
    have e1 : Kd.string.sz = 1 := rfl
    rw [e1, Nat.mul_one, Nat.add_zero, add_plain, World.cell?_alloc_new]
    simp [hp]
end Go.Proofs.YtgdfmhdgmjogiabDoor
