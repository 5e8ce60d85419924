/- Arrays of bytes held against each other; the contracts of addr.V4 and addr.Is4. -/
import Derived.Test.YtgdfmhdgmjogiabDoorHelp
import Derived.Test.YtgdfmhdgmjogiabDoorAdr2
import Derived.ChangeKeysEq
import Derived.Laws.StructEq
import Derived.Laws.Cover3
import Derived.Laws.Rows
import Derived.Outline
namespace Go.Proofs.YtgdfmhdgmjogiabDoor
open Go.RowKit
section
variable {P : Program} (w : World)

theorem run_eqItems_bytes (d : Nat) {e : TypeId} (he : P.plainKey e = true) (hu : P.underlying e = some (.int .u8)) (a b : List UInt8) (n : Nat) (ha : a.length = n) (hb : b.length = n) :
    ∀ (m s : Nat), s + m = n → (Op.eqItems (d + 1) e 1 (avs a) (avs b) (List.range' s m)).run P w = .ok (a.drop s == b.drop s) w
  | 0, s, h => by
    rw [List.drop_of_length_le (by omega), List.drop_of_length_le (by omega)]
    simp [Op.eqItems]
  | m + 1, s, h => by
    have h1 := avs_get a s (by omega)
    have h2 := avs_get b s (by omega)
    have p1 := run_part_plain (P := P) (w := w) he (xs := avs a) (off := s) h1
    have p2 := run_part_plain (P := P) (w := w) he (xs := avs b) (off := s) h2
    have p3 := run_equalIn_int (P := P) w d e .u8 .u8 ((a.getD s 0).toNat : Int) ((b.getD s 0).toNat : Int) hu
    have ih := run_eqItems_bytes d he hu a b n ha hb m (s + 1) (by omega)
    have e1 : a.drop s = a.getD s 0 :: a.drop (s + 1) := by
      rw [List.drop_eq_getElem_cons (by omega)]; congr 1; simp [List.getD, List.getElem?_eq_getElem (show s < a.length by omega)]
    have e2 : b.drop s = b.getD s 0 :: b.drop (s + 1) := by
      rw [List.drop_eq_getElem_cons (by omega)]; congr 1; simp [List.getD, List.getElem?_eq_getElem (show s < b.length by omega)]
    rw [e1, e2, List.range'_succ]
    simp only [Op.eqItems, Sem.run_bind, Nat.mul_one, p1, p2, p3, Result.andThen_ok]
    by_cases hx : a.getD s 0 = b.getD s 0
    · rw [hx]; simp only [beq_self_eq_true, Bool.not_true, Bool.false_eq_true, if_false, ih]; simp
    · have : (((a.getD s 0).toNat : Int) == ((b.getD s 0).toNat : Int)) = false := by
        rw [beq_eq_false_iff_ne]; intro h; apply hx; apply UInt8.toNat_inj.1; omega
      rw [this]
      have h3 : (a.getD s 0 :: a.drop (s + 1) == b.getD s 0 :: b.drop (s + 1)) = false := by
        rw [beq_eq_false_iff_ne]; intro h; exact hx (List.cons.inj h).1
      rw [h3]; simp

theorem run_equalIn_bytes (d : Nat) {t e : TypeId} {n : Nat} {i : TypeInfo} (a b : List UInt8) (ha : a.length = n) (hb : b.length = n) (hu : P.underlying t = some (.array n e)) (he : P.plainKey e = true) (hi : P.info? e = some i)
    (hui : P.underlying e = some (.int .u8)) (hc : P.cellsOf e = 1) : (Op.equalIn (d + 2) t (.agg (avs a)) (.agg (avs b))).run P w = .ok (a == b) w := by
  rw [run_equalIn_array w (d + 1) _ _ hu hi, hc, List.range_eq_range', run_eqItems_bytes w d he hui a b n ha hb n 0 (by omega)]
  rfl
end

theorem Tryd.cellsU8 : Tryd.prog.cellsOf 5 = 1 := by kernel_rfl
theorem Tryd.plainU8 : Tryd.prog.plainKey 5 = true := by kernel_rfl
theorem Tryd.infoU8 : ∃ i, Tryd.prog.info? 5 = some i := by
  cases h : Tryd.prog.info? 5 with
  | none => exact absurd (show (Tryd.prog.info? 5).isSome = true by kernel_rfl) (by rw [h]; simp)
  | some i => exact ⟨i, rfl⟩

theorem eql_addr (a b : List UInt8) (ha : a.length = 16) (hb : b.length = 16) (w : World) : (binOp .eql 23 (.agg (avs a)) (.agg (avs b))).run Tryd.prog w = .ok (.bool (a == b)) w := by
  obtain ⟨i, hi⟩ := Tryd.infoU8
  rw [run_eql_struct, run_equalIn_bytes w 9998 a b ha hb (n := 16) Tryd.underlying23 Tryd.plainU8 hi Tryd.underlying5 Tryd.cellsU8]
  rfl
theorem neq_addr (a b : List UInt8) (ha : a.length = 16) (hb : b.length = 16) (w : World) : (binOp .neq 23 (.agg (avs a)) (.agg (avs b))).run Tryd.prog w = .ok (.bool (!(a == b))) w := by
  obtain ⟨i, hi⟩ := Tryd.infoU8
  rw [run_neq_struct, run_equalIn_bytes w 9998 a b ha hb (n := 16) Tryd.underlying23 Tryd.plainU8 hi Tryd.underlying5 Tryd.cellsU8]
  rfl
theorem eql_head (a b : List UInt8) (ha : a.length = 12) (hb : b.length = 12) (w : World) : (binOp .eql 75 (.agg (avs a)) (.agg (avs b))).run Tryd.prog w = .ok (.bool (a == b)) w := by
  obtain ⟨i, hi⟩ := Tryd.infoU8
  rw [run_eql_struct, run_equalIn_bytes w 9998 a b ha hb (n := 12) Tryd.underlying75 Tryd.plainU8 hi Tryd.underlying5 Tryd.cellsU8]
  rfl

theorem avs_v4 (a b c d : UInt8) : avs (Pl.v4 [a, b, c, d]) = #[.int .u8 0, .int .u8 0, .int .u8 0, .int .u8 0, .int .u8 0, .int .u8 0, .int .u8 0, .int .u8 0, .int .u8 0, .int .u8 0, .int .u8 255, .int .u8 255, .int .u8 a.toNat, .int .u8 b.toNat, .int .u8 c.toNat, .int .u8 d.toNat] := rfl

theorem v4_any (a b c d : UInt8) (w : World) : Calls Tryd.prog 49 #[.int .u8 a.toNat, .int .u8 b.toNat, .int .u8 c.toNat, .int .u8 d.toNat] w fun e w' => e = .returned (.agg (avs (Pl.v4 [a, b, c, d]))) ∧ Below w.heap.size w w' := by
  rw [avs_v4]
  go_enter Tryd.func49, Tryd.ntmps49
  go_wp2
  refine bodyPost_ret (v := .agg #[.int .u8 0, .int .u8 0, .int .u8 0, .int .u8 0, .int .u8 0, .int .u8 0, .int .u8 0, .int .u8 0, .int .u8 0, .int .u8 0, .int .u8 255, .int .u8 255, .int .u8 a.toNat, .int .u8 b.toNat, .int .u8 c.toNat, .int .u8 d.toNat]) (by simp [results, Tryd.results49, go_sem]) rfl ⟨rfl, (Below.refl _ _).alloc (Nat.le_refl _) _⟩

theorem avs16 (x0 x1 x2 x3 x4 x5 x6 x7 x8 x9 xa xb xc xd xe xf : UInt8) : avs [x0, x1, x2, x3, x4, x5, x6, x7, x8, x9, xa, xb, xc, xd, xe, xf] = #[.int .u8 x0.toNat, .int .u8 x1.toNat, .int .u8 x2.toNat, .int .u8 x3.toNat, .int .u8 x4.toNat, .int .u8 x5.toNat, .int .u8 x6.toNat, .int .u8 x7.toNat, .int .u8 x8.toNat, .int .u8 x9.toNat, .int .u8 xa.toNat, .int .u8 xb.toNat, .int .u8 xc.toNat, .int .u8 xd.toNat, .int .u8 xe.toNat, .int .u8 xf.toNat] := rfl

set_option maxRecDepth 100000 in
theorem is4_any (a : List UInt8) (ha : a.length = 16) (w : World) : Calls Tryd.prog 20 #[.agg (avs a)] w fun e w' => e = .returned (.bool (Pl.is4 a)) ∧ Below w.heap.size w w' := by
  obtain ⟨x0, x1, x2, x3, x4, x5, x6, x7, x8, x9, xa, xb, xc, xd, xe, xf, rfl⟩ := Pl.list16 a ha
  have hk : ∀ w, (binOp .eql 75 (.agg #[.int .u8 x0.toNat, .int .u8 x1.toNat, .int .u8 x2.toNat, .int .u8 x3.toNat, .int .u8 x4.toNat, .int .u8 x5.toNat, .int .u8 x6.toNat, .int .u8 x7.toNat, .int .u8 x8.toNat, .int .u8 x9.toNat, .int .u8 xa.toNat, .int .u8 xb.toNat]) (.agg #[.int .u8 0, .int .u8 0, .int .u8 0, .int .u8 0, .int .u8 0, .int .u8 0, .int .u8 0, .int .u8 0, .int .u8 0, .int .u8 0, .int .u8 255, .int .u8 255])).run Tryd.prog w = .ok (.bool (Pl.is4 [x0, x1, x2, x3, x4, x5, x6, x7, x8, x9, xa, xb, xc, xd, xe, xf])) w := fun w => eql_head [x0, x1, x2, x3, x4, x5, x6, x7, x8, x9, xa, xb] Pl.v4head rfl rfl w
  have har : ∀ a w, (Instr.arrayAt 75 (.slice a 12 16)).run Tryd.prog w = .ok (.pointer a) w := fun a w => run_arrayAt w _ _ 12 a 12 16 Tryd.underlying75 (by omega)
  rw [avs16]
  generalize Pl.is4 [x0, x1, x2, x3, x4, x5, x6, x7, x8, x9, xa, xb, xc, xd, xe, xf] = v at *
  clear ha
  go_enter Tryd.func20, Tryd.ntmps20
  go_wp2
  go_outline
  go_ret
  exact ⟨rfl, (Below.refl _ _).alloc (Nat.le_refl _) _⟩
end Go.Proofs.YtgdfmhdgmjogiabDoor
