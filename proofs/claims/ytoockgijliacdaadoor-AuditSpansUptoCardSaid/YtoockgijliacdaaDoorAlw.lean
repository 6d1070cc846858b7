/- What the rows' list of variables gives the walks; a world for the witnesses. -/
import Derived.Test.YtoockgijliacdaaDoorCards
import Derived.Test.YtoockgijliacdaaDoorTie
import Derived.Test.YtoockgijliacdaaDoorAen
import Derived.ProofKit
import Derived.OpenShut
import Derived.Deep.DeepHandedRow
import Derived.Lib.LaidTab
import Derived.LaidMore
namespace Go.Proofs.YtoockgijliacdaaDoor
open Go.ChangeShapes Go.WideShapes Go.ChangeAt Go.RowKit

theorem ownKnob_ : ownKnob Tryd.prog.godebug = none := by kernel_rfl
theorem laidOut_ : laidOutB Tryd.prog = true := by kernel_rfl
theorem gDigits : Tryd.prog.globalNamed "speculum/octet.digits" = some 0 := by kernel_rfl
theorem gDigitsType : (Tryd.prog.globals[0]?).map (·.type) = some 178 := by kernel_rfl
theorem int_of_ok {P : Program} {w : World} {r : Reach} {base : Nat} {t : TypeId} {v : Value} (hu : P.underlying t = some (.int .i64)) (h : Cell.ok P w r base t v) : ∃ n, v = .int .i64 n := by
  unfold Cell.ok at h
  rw [hu] at h
  cases v with
  | int k n => obtain ⟨rfl, _⟩ := h; exact ⟨n, rfl⟩
  | _ => exact h.elim
set_option maxRecDepth 100000 in
theorem ml_of_shape {w : World} (h : w.ShapedOpen Tryd.prog) : ML w := by
  obtain ⟨cs, hh, hs, hr⟩ := h.1 1 #[.int .i64 0] 3 (of_decide_eq_true (by kernel_rfl)) (by kernel_rfl)
  obtain ⟨ts, hts, _, hall⟩ := hr (by kernel_rfl)
  rw [show Tryd.prog.cellTypes Tryd.prog.depth 3 = some [3] by kernel_rfl] at hts
  cases hts
  have h1 : 0 < cs.size := by rw [hs]; decide
  obtain ⟨u, hu, hok⟩ := hall 0 cs[0] (Array.getElem?_eq_getElem h1)
  have hu2 : some (3 : TypeId) = some u := hu
  have hu3 := Option.some.inj hu2
  subst hu3
  obtain ⟨n, hn⟩ := int_of_ok Tryd.underlying3 hok
  refine ⟨n, ?_⟩
  rw [cell_of_row w 1 0 cs _ _ hh, Array.getElem?_eq_getElem h1, hn]
theorem digs_of_shape {w : World} (h : w.ShapedOpen Tryd.prog) {rest : List (String × DataW Unit)} (hl : laidMet Tryd.prog (("speculum/octet.digits", Rows.laid_speculum_octet_digits) :: rest) w) : Digs w := by
  have ht : Lib.TabIs Tryd.prog w "speculum/octet.digits" .u8 [48, 49, 50, 51, 52, 53, 54, 55, 56, 57, 97, 98, 99, 100, 101, 102] := Lib.tabIs_of_head (rest := rest) gDigits gDigitsType Tryd.underlying178 Tryd.underlying5 (by kernel_rfl) (by kernel_rfl) hl
  obtain ⟨cs, hh, hs, hr⟩ := h.1 0 #[.int .u8 0, .int .u8 0, .int .u8 0, .int .u8 0, .int .u8 0, .int .u8 0, .int .u8 0, .int .u8 0, .int .u8 0, .int .u8 0, .int .u8 0, .int .u8 0, .int .u8 0, .int .u8 0, .int .u8 0, .int .u8 0] 178 (of_decide_eq_true (by kernel_rfl)) (by kernel_rfl)
  unfold Lib.TabIs World.var? at ht
  rw [gDigits] at ht
  simp only [Option.bind_some, hh, Option.some.injEq] at ht
  refine ⟨(0, 0), hh.trans ?_⟩
  rw [ht]
  rfl

/-- The cells of a datum. -/
def flatN : Nat → DataW Unit → List Value
  | n + 1, .lit (.int k z) => [.int k z]
  | n + 1, .agg l => (l.map (flatN n)).flatten
  | _, _ => []
def putCells (d : DataW Unit) : Obj → Obj
  | .cells _ t fr => .cells (flatN 8 d).toArray t fr
  | o => o
/-- The settled world, the four tables laid. -/
noncomputable def laidWorld (os : Os) : World :=
  { World.holding Tryd.prog os ⟨#[], #[], []⟩ with heap := ((((World.holding Tryd.prog os ⟨#[], #[], []⟩).heap.modify 0 (putCells Rows.laid_speculum_octet_digits)).modify 2 (putCells Rows.laid_unicode_utf8_first)).modify 3 (putCells Rows.laid_unicode_utf8_acceptRanges)).modify 4 (putCells Rows.laid_speculum_fsm_table) }

/-- Bytes that came in. -/
theorem bytes_in {H : Type} {enc : TypeId × Value → H} {W : World} {a : Option Addr} {len cap : Nat} {d : DataW H} {p : List MemPlace}
    (h : DataW.Trod enc Tryd.prog W 0 (fun _ => true) true 39 (.slice a len cap) d p) : ∃ l : List UInt8, l.length = len ∧ l.length ≤ cap ∧ cap ≤ 9223372036854775807 ∧ SlP (fun k => k < W.heap.size) W a (l.map bval) := by
  obtain ⟨fuel, hf⟩ := h
  rcases open_ints Tryd.underlying39 Tryd.underlying5 (by kernel_rfl) hf with ⟨hcs, _⟩ | ⟨x, l, c, zs, hcs, _, hl, hm, hz, _, hcell, hwz⟩
  · simp [Value.cells] at hcs
    obtain ⟨rfl, rfl, rfl⟩ := hcs
    exact ⟨[], rfl, Nat.le_refl _, by omega, fun h => absurd rfl h⟩
  · simp [Value.cells] at hcs
    obtain ⟨rfl, rfl, rfl⟩ := hcs
    unfold maxLen at hm
    have hzl : zs.length = cap := by simpa using hz
    refine ⟨(zs.take len).map fun z => UInt8.ofNat z.toNat, by simp [hzl]; omega, by simp [hzl]; omega, hm, fun hn => ?_⟩
    have hpos : 0 < zs.length := by
      rcases Nat.eq_zero_or_pos zs.length with h0 | h0
      · have : zs = [] := List.eq_nil_of_length_eq_zero h0
        subst this; simp at hn
      · exact h0
    obtain ⟨b, off, rfl, hc⟩ := ints_at hcell hpos
    refine ⟨b, off, rfl, block_lt_of_cell (hc 0 hpos), fun j u hu => ?_⟩
    rw [List.getElem?_map, List.getElem?_map, List.getElem?_take] at hu
    by_cases hj : j < len
    · rw [if_pos hj] at hu
      have hjz : j < zs.length := by omega
      rw [List.getElem?_eq_getElem hjz] at hu
      simp at hu
      subst hu
      have := hc j hjz
      rw [this]
      have hz2 : zs.getD j 0 = zs[j] := by simp [List.getD, hjz]
      rw [hz2]
      have hw := hwz zs[j] (List.getElem_mem hjz)
      have hb : 0 ≤ zs[j] ∧ zs[j] ≤ 255 := bounds_u8 hw
      have : (((UInt8.ofNat zs[j].toNat).toNat : Nat) : Int) = zs[j] := by rw [UInt8.toNat_ofNat']; omega
      unfold bval
      rw [this]
    · rw [if_neg hj] at hu
      simp at hu

end Go.Proofs.YtoockgijliacdaaDoor
