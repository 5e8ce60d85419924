/- What each row of these laws wants beside its walk: the library's variables out of what the row lists, and arrays of bytes read and read again. -/
import Derived.Test.YtgdfmhdgmjogiabDoorWd
import Derived.Test.YtgdfmhdgmjogiabDoorRows
import Derived.ProofKit
import Derived.OpenShut
import Derived.LaidMore
import Derived.Lay
import Derived.HandedShaped
import Derived.Shelf.Vars
import Derived.Lib.LaidU8
import Derived.Lib.LaidTab
import Derived.Stop.LaidErr
import Derived.SevenTiedAt
import Derived.Stop.Joined
namespace Go.Proofs.YtgdfmhdgmjogiabDoor
open Go.RowKit
set_option linter.unusedVariables false

section
variable {H : Type} {enc : TypeId × Value → H}

theorem returns_both {a : Assume} {C : Checked} {os : Os} {f : FuncId} {fn : Func} {s : ChangeSpec} {conds : List PathCond} {apart fresh handsOn again : Bool} {X : World → Array Value → Prop}
    (hX : ∀ (w w' : World) (args : Array Value), w.heap = w'.heap → X w args → X w' args)
    (own : ownKnob C.prog.godebug = none) (started : os.Started) (noInit : C.prog.inits.idxOf? f = none) (hfn : C.prog.funcs[f]? = some fn)
    (witness : ∃ (w : World) (tape : Tape) (i : Input), w.os = os ∧ (w.forCall tape i).Shaped C.prog ∧ i.vars = [] ∧ Input.okWide C.prog (w.forCall tape i) .any w.heap.size f i ∧
      ((s.pre enc C.prog fn conds apart (w.forCall tape i).memory i.args ∧ X (w.forCall tape i).memory i.args) ∧ sizedMet enc C.prog fn (OpenSpec.ofChange s) apart (w.forCall tape i).memory i.args) ∧ a.holds C.prog (lone (Frame.enter C.prog f i.args .normal) [] (w.forCall tape i)))
    (contract : ∀ (W : World) (base : Nat) (args : Array Value) (ds gs : List (DataW H)) (before : List MemPlace),
      (∀ (j : Nat) t v, fn.params[j]? = some t → args[j]? = some v → Value.okWide C.prog W .any base t v) →
      DataW.Whole enc C.prog fn.params.toList s.vars apart W args.toList ds gs before →
      (DataW.weightsEach C.prog (fn.params.toList ++ s.plain.varTypes C.prog) (ds ++ gs)).all (· ≤ reachBytes) = true → X W args → W.ShapedOpen C.prog →
      Calls C.prog f args W fun e W' => ∃ v, e = .returned v ∧ s.post enc C.prog fn apart fresh handsOn again W args v W') :
    ReturnsInHanded a C os f .any (fun w args => (s.pre enc C.prog fn conds apart w args ∧ X w args) ∧ sizedMet enc C.prog fn (OpenSpec.ofChange s) apart w args) (s.post enc C.prog fn apart fresh handsOn again) := by
  refine returnsInHanded_of_calls own started noInit witness ?_
  intro w tape i _ hsh _ hok hpre _
  obtain ⟨_, _, _, fn', hfn', _, _, _, _, hval⟩ := hok
  have e : fn' = fn := Option.some.inj (hfn'.symm.trans hfn)
  subst e
  obtain ⟨⟨⟨ds, gs, before, hw, _⟩, hx⟩, hz⟩ := hpre
  have hw' := DataW.Whole.of_heap (w' := w.forCall tape i) (by rfl) hw
  refine (contract (w.forCall tape i) w.heap.size i.args ds gs before hval hw' (hz.weights hw) (hX _ _ _ (by rfl) hx) hsh).mono fun e W' ⟨v, he, hp⟩ => ?_
  subst he
  exact ChangeSpec.post_blind hp

/-- Bytes as a datum. -/
def byteData (a : List UInt8) : DataW H := .agg (a.map fun x => .lit (.int .u8 (x.toNat : Int)))

theorem open_bytes {P : Program} {w : World} {b0 base n : Nat} {sp : Nat → Bool} {hd : Bool} {r : Reach} {t e : TypeId} {v : Value} {d : DataW H} {ps : List MemPlace}
    (ht : P.underlying t = some (.array n e)) (he : P.underlying e = some (.int .u8)) (hce : P.cellsOf e = 1) (hct : P.cellsOf t = n)
    (hval : Value.okWide P w r b0 t v) (h : DataW.Trod enc P w base sp hd t v d ps) : ∃ a : List UInt8, a.length = n ∧ v = .agg (avs a) ∧ d = byteData a ∧ ps = [] := by
  unfold Value.okWide at hval
  rw [ht] at hval
  obtain ⟨cs, rfl, hsz, _⟩ := hval
  obtain ⟨fuel, h⟩ := h
  obtain ⟨xs, m, rfl, ex, hl, hn, hel⟩ := DataW.trod_array ht h
  have hcs : cs.size = n := by rw [hsz, hct]
  have hone : ∀ i, i < n → ∃ z : Int, cs[i]? = some (.int .u8 z) ∧ xs[i]? = some (.lit (.int .u8 z), []) ∧ 0 ≤ z ∧ z ≤ 255 := by
    intro i hi
    have hE := hel i hi
    rw [hce, Nat.mul_one, List.getElem?_eq_getElem (by omega)] at hE
    obtain ⟨z, e1, e2, wf⟩ := DataW.trod_int he hE
    refine ⟨z, ?_, ?_, ?_⟩
    · have h0 : ((cs.toList.drop i).take 1)[0]? = some (.int .u8 z) := by
        have : (Value.agg cs).cells.toList = cs.toList := rfl
        rw [this] at e1
        rw [e1]; rfl
      simpa using h0
    · rw [List.getElem?_eq_getElem (by omega), e2]
    · have : 0 ≤ z ∧ z ≤ 255 := by simpa [Lit.wf, IntKind.min, IntKind.max, IntKind.signed, IntKind.bits] using wf
      exact this
  refine ⟨(List.range n).map fun i => UInt8.ofNat (intOf (cs.getD i undef)).toNat, by simp, ?_, ?_, ?_⟩
  · congr 1
    apply Array.ext'
    apply List.ext_getElem?
    intro i
    by_cases hi : i < n
    · obtain ⟨z, h1, _, h3, h4⟩ := hone i hi
      have h5 : cs.getD i undef = .int .u8 z := by rw [Array.getD_eq_getD_getElem?, h1]; rfl
      have h6 : (UInt8.ofNat z.toNat).toNat = z.toNat := by rw [UInt8.toNat_ofNat']; omega
      simp only [avs, List.map_map, Array.getElem?_toList, h1, List.getElem?_map, List.getElem?_range hi, Option.map_some, Function.comp, h5, intOf, h6]
      congr 2; omega
    · rw [List.getElem?_eq_none (by simp; omega), List.getElem?_eq_none (by simp [avs]; omega)]
  · rw [(Prod.mk.inj ex).1]
    unfold byteData
    congr 1
    apply List.ext_getElem?
    intro i
    by_cases hi : i < n
    · obtain ⟨z, h1, h2, h3, h4⟩ := hone i hi
      have h5 : cs.getD i undef = .int .u8 z := by rw [Array.getD_eq_getD_getElem?, h1]; rfl
      have h6 : (UInt8.ofNat z.toNat).toNat = z.toNat := by rw [UInt8.toNat_ofNat']; omega
      simp only [List.map_map, List.getElem?_map, h2, List.getElem?_range hi, Option.map_some, Function.comp, h5, intOf, h6]
      congr 3; omega
    · rw [List.getElem?_eq_none (by simp; omega), List.getElem?_eq_none (by simp; omega)]
  · rw [(Prod.mk.inj ex).2, List.flatMap_eq_nil_iff]
    intro x hx
    obtain ⟨i, hi, rfl⟩ := List.mem_iff_getElem.1 hx
    obtain ⟨z, _, h2, _⟩ := hone i (by omega)
    rw [List.getElem?_eq_getElem hi] at h2
    rw [Option.some.inj h2]

theorem mapM_each {α β : Type} (f : α → Option β) (g : α → β) : ∀ l : List α, (∀ x ∈ l, f x = some (g x)) → l.mapM f = some (l.map g)
  | [], _ => rfl
  | x :: l, h => by
    rw [List.mapM_cons, h x (by simp), mapM_each f g l (fun y hy => h y (by simp [hy]))]
    rfl
theorem trod_byte {P : Program} {w : World} {base : Nat} {sp : Nat → Bool} {hd : Bool} {e : TypeId} (he : P.underlying e = some (.int .u8)) (x : UInt8) :
    DataW.trod enc P w base sp hd 1 e [.int .u8 (x.toNat : Int)] = some (.lit (.int .u8 (x.toNat : Int)), []) := by
  have hx : x.toNat < 256 := x.toNat_lt
  have wf : (Lit.int .u8 (x.toNat : Int)).wf = true := by
    simp [Lit.wf, IntKind.min, IntKind.max, IntKind.signed, IntKind.bits]; omega
  unfold DataW.trod
  simp [he, wf]

theorem shut_bytes {P : Program} {w : World} {base n : Nat} {sp : Nat → Bool} {hd : Bool} {t e : TypeId}
    (ht : P.underlying t = some (.array n e)) (he : P.underlying e = some (.int .u8)) (hce : P.cellsOf e = 1) (hct : P.cellsOf t = n) (a : List UInt8) (ha : a.length = n) :
    DataW.Trod enc P w base sp hd t (.agg (avs a)) (byteData a) [] := by
  refine ⟨2, ?_⟩
  have hc : (Value.agg (avs a)).cells.toList = (avs a).toList := rfl
  have hl : (avs a).toList.length = n := by rw [Array.length_toList, avs_size, ha]
  rw [hc]
  unfold DataW.trod
  rw [ht]
  simp only [hct, hce, hl, if_true, Nat.mul_one]
  rw [mapM_each _ (fun i => ((.lit (.int .u8 ((a.getD i 0).toNat : Int)) : DataW H), ([] : List MemPlace))) (List.range n) ?_]
  · simp only [Option.map_some, List.map_map, Option.some.injEq, Prod.mk.injEq, byteData]
    refine ⟨?_, by simp⟩
    congr 1
    apply List.ext_getElem?
    intro i
    by_cases hi : i < n
    · simp [List.getElem?_range hi, List.getElem?_eq_getElem (show i < a.length by omega)]
    · rw [List.getElem?_eq_none (by simp; omega), List.getElem?_eq_none (by simp; omega)]
  · intro i hi
    have hi' : i < n := List.mem_range.1 hi
    have hcell : (avs a)[i]? = some (.int .u8 ((a.getD i 0).toNat : Int)) := avs_get a i (by omega)
    have : ((avs a).toList.drop i).take 1 = [.int .u8 ((a.getD i 0).toNat : Int)] := by
      have h2 : (avs a).toList[i]? = some (.int .u8 ((a.getD i 0).toNat : Int)) := by rw [Array.getElem?_toList]; exact hcell
      obtain ⟨h3, h4⟩ := List.getElem?_eq_some_iff.1 h2
      rw [List.drop_eq_getElem_cons h3, h4]; rfl
    rw [this]
    exact trod_byte he _
end

theorem own_knob : ownKnob Tryd.prog.godebug = none := by kernel_rfl
theorem star_name : "*" ++ "errors.errorString" = "*errors.errorString" := by decide
theorem row_name (u : TypeId) (h : Tryd.prog.typeName? 3 u = some "*errors.errorString") : u = 154 :=
  typeName_ptr_named (nm := "errors.errorString") (by rw [star_name]; kernel_rfl) (by kernel_rfl) (by decide) u (by rw [star_name]; exact h)
theorem cells_struct : Tryd.prog.cellsOf 156 = 1 := by kernel_rfl
theorem cells_string : Tryd.prog.cellsOf 9 = 1 := by kernel_rfl
theorem cells_byte : Tryd.prog.cellsOf 5 = 1 := by kernel_rfl
theorem cells_addr : Tryd.prog.cellsOf 23 = 16 := by kernel_rfl

set_option maxRecDepth 100000 in
/-- What the laws of addr list of the library's variables: out of it what their walks ask. -/
theorem wdA_of {d32 : DataW Unit} {r0 : List (String × DataW Unit)} {acc : String × DataW Unit} {W : World} (hs : W.ShapedOpen Tryd.prog)
    (h : laidMet Tryd.prog (("math/bits.deBruijn32tab", d32) :: ("math/bits.deBruijn64tab", Rows.laid_math_bits_deBruijn64tab) :: ("internal/strconv.uint64pow10", Rows.laid_internal_strconv_uint64pow10) :: acc :: ("strconv.ErrRange", Rows.laid_strconv_ErrRange) :: ("strconv.ErrSyntax", Rows.laid_strconv_ErrSyntax) :: r0) W) : WdA W := by
  obtain ⟨a0, s0, hv0, -, -, -⟩ := laid_sentinel h.tail.tail.tail.tail (show Tryd.prog.globalNamed "strconv.ErrRange" = some 5 by kernel_rfl) (show (Tryd.prog.globals[5]?).map (·.type) = some 87 by kernel_rfl) Tryd.underlying87 row_name Tryd.underlying154 Tryd.underlying156 rfl rfl Tryd.underlying9 cells_struct cells_string
  obtain ⟨a1, s1, hv1, -, -, -⟩ := laid_sentinel h.tail.tail.tail.tail.tail (show Tryd.prog.globalNamed "strconv.ErrSyntax" = some 4 by kernel_rfl) (show (Tryd.prog.globals[4]?).map (·.type) = some 87 by kernel_rfl) Tryd.underlying87 row_name Tryd.underlying154 Tryd.underlying156 rfl rfl Tryd.underlying9 cells_struct cells_string
  have hdb := Lib.tabIs_of_head (k := .u8) (zs := [0, 1, 56, 2, 57, 49, 28, 3, 61, 58, 42, 50, 38, 29, 17, 4, 62, 47, 59, 36, 45, 43, 51, 22, 53, 39, 33, 30, 24, 18, 12, 5, 63, 55, 48, 27, 60, 41, 37, 16, 46, 35, 44, 21, 52, 32, 23, 11, 54, 26, 40, 15, 34, 20, 31, 10, 25, 14, 19, 9, 13, 8, 7, 6]) (show Tryd.prog.globalNamed "math/bits.deBruijn64tab" = some 7 by kernel_rfl) (show (Tryd.prog.globals[7]?).map (·.type) = some 153 by kernel_rfl) Tryd.underlying153 Tryd.underlying5 cells_byte (by kernel_rfl) h.tail
  have hpw := Lib.tabIs_of_head (k := .u64) (zs := Lib.pow10Tab) (show Tryd.prog.globalNamed "internal/strconv.uint64pow10" = some 3 by kernel_rfl) (show (Tryd.prog.globals[3]?).map (·.type) = some 126 by kernel_rfl) Tryd.underlying126 Tryd.underlying93 (by kernel_rfl) (by kernel_rfl) h.tail.tail
  refine ⟨?_, ?_, hpw, ?_, ⟨_, _, hv1⟩, ⟨_, _, hv0⟩⟩
  · obtain ⟨cs, hh, _⟩ := hs.1 10 _ _ (by decide +kernel) (show ((begin Tryd.prog (fun _ _ => 0) default).world.heap[10]?).bind Obj.row? = some (((begin Tryd.prog (fun _ _ => 0) default).world.heap[10]?).bind Obj.row?).get!  by kernel_rfl)
    rcases Nat.lt_or_ge 10 W.heap.size with h1 | h1
    · exact h1
    · rw [Array.getElem?_eq_none h1] at hh; cases hh
  · exact cell_of_shapedOpen_int hs (by decide +kernel) (show ((begin Tryd.prog (fun _ _ => 0) default).world.heap[0]?).bind Obj.row? = some (#[.int .i64 0], 3) by kernel_rfl) rfl (by kernel_rfl) (by kernel_rfl) Tryd.underlying3
  · exact Lib.TabIs.cell hdb (by kernel_rfl) 15 (by decide)
end Go.Proofs.YtgdfmhdgmjogiabDoor
