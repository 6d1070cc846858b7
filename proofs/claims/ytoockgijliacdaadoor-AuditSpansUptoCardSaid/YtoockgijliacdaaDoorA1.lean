/- Contracts of the leaf functions of package octet. -/
import Derived.Test.YtoockgijliacdaaDoorBase
import Derived.Test.YtoockgijliacdaaDoorSpec
import Derived.Laws.BytesArg
import Derived.Deep.WholeRow
namespace Go.Proofs.YtoockgijliacdaaDoor
open Go.RowKit

def plainB (c wd : Int) : Bool := decide (32 ≤ c) && !(c == 127) && (!(c == 65533) || decide (1 < wd))

set_option maxHeartbeats 400000 in
theorem plain_any (c wd : Int) (w : World) :
    Calls Tryd.prog 80 #[.int .i32 c, .int .i64 wd] w fun e w' => e = .returned (.bool (plainB c wd)) ∧ w = w' := by
  go_enter Tryd.func80, Tryd.ntmps80
  go_wp2
  all_goals go_ret
  all_goals refine ⟨?_, rfl⟩
  all_goals (simp [plainB, bne, *] <;> omega)

/-- the digits' bytes -/
def digs : List Int := [48, 49, 50, 51, 52, 53, 54, 55, 56, 57, 97, 98, 99, 100, 101, 102]
def digRow : Array Value := #[.int .u8 48, .int .u8 49, .int .u8 50, .int .u8 51, .int .u8 52, .int .u8 53, .int .u8 54, .int .u8 55, .int .u8 56, .int .u8 57, .int .u8 97, .int .u8 98, .int .u8 99, .int .u8 100, .int .u8 101, .int .u8 102]
def Digs (w : World) : Prop := ∃ fr, w.heap[(0 : Nat)]? = some (.cells digRow 178 fr)

def dval (c : Int) : Int := if 48 ≤ c ∧ c ≤ 57 then c - 48 else if 97 ≤ c ∧ c ≤ 102 then c - 87 else 16

theorem dig_at (k : Nat) (hk : k < 16) (w : World) : (Instr.index 178 (.agg digRow) (.int .i64 (k : Int))).run Tryd.prog w = .ok (.int .u8 (digs.getD k 0)) w := by
  rcases (by omega : k = 0 ∨ k = 1 ∨ k = 2 ∨ k = 3 ∨ k = 4 ∨ k = 5 ∨ k = 6 ∨ k = 7 ∨ k = 8 ∨ k = 9 ∨ k = 10 ∨ k = 11 ∨ k = 12 ∨ k = 13 ∨ k = 14 ∨ k = 15) with h | h | h | h | h | h | h | h | h | h | h | h | h | h | h | h <;> (subst h; kernel_rfl)

theorem dval_find (c : Int) (k : Nat) (hk : k < 16) (h0 : digs.getD k 0 = c) : dval c = k := by
  subst h0
  rcases (by omega : k = 0 ∨ k = 1 ∨ k = 2 ∨ k = 3 ∨ k = 4 ∨ k = 5 ∨ k = 6 ∨ k = 7 ∨ k = 8 ∨ k = 9 ∨ k = 10 ∨ k = 11 ∨ k = 12 ∨ k = 13 ∨ k = 14 ∨ k = 15) with h | h | h | h | h | h | h | h | h | h | h | h | h | h | h | h <;> (subst h; decide)

theorem dval_none (c : Int) (h : ∀ j, j < 16 → digs.getD j 0 ≠ c) : dval c = 16 := by
  have := h 0; have := h 1; have := h 2; have := h 3; have := h 4; have := h 5; have := h 6; have := h 7
  have := h 8; have := h 9; have := h 10; have := h 11; have := h 12; have := h 13; have := h 14; have := h 15
  simp [digs] at *
  unfold dval
  split
  · omega
  · split <;> omega

set_option maxHeartbeats 400000 in
theorem value_any (c : Int) (w : World) (hd : Digs w) :
    Calls Tryd.prog 99 #[.int .u8 c] w fun e w' => e = .returned (.int .u8 (dval c)) ∧ w = w' := by
  obtain ⟨fr, hg⟩ := hd
  have HG := Lib.hid hg
  clear hg
  go_enter Tryd.func99, Tryd.ntmps99
  go_wp2_with (refine wpList_load_row rfl 178 _ rfl 0 rfl 178 _ fr _ HG.out Tryd.underlying178 rfl (by kernel_rfl) ?_)
  go_loop [6] (fun i => ∃ k : Nat, k ≤ 16 ∧ i = .int .i64 k ∧ Hid (∀ j, j < k → digs.getD j 0 ≠ c)) (fun i => 16 - (intOf i).toNat)
  case atStart => exact ⟨0, Nat.zero_le _, rfl, Lib.hid (fun j hj => absurd hj (by omega))⟩
  case round =>
    obtain ⟨k, hk, rfl, hn⟩ := hrel
    by_cases hlt : k < 16
    · have hi := dig_at k hlt
      go_wp2
      · go_ret
        have h : (c == digs[k]?.getD 0) = true := by assumption
        exact ⟨ret_int (dval_find c k hlt (by simpa using (beq_iff_eq.1 h).symm)).symm, rfl⟩
      · have h : (c == digs[k]?.getD 0) = false := by assumption
        go_round
        case rel =>
          refine ⟨k + 1, by omega, by go_num, Lib.hid fun j hj => ?_⟩
          by_cases e : j = k
          · subst e
            have := beq_eq_false_iff_ne.1 h
            simpa using this.symm
          · exact hn.out j (by omega)
        case measure => simp [intOf]; omega
    · go_wp2
      go_ret
      exact ⟨ret_int (dval_none c (fun j hj => hn.out j (by omega))).symm, rfl⟩

/-- Bytes as values. -/
def bval (c : UInt8) : Value := .int .u8 (c.toNat : Int)

theorem run_b2s {S : Nat → Prop} {w : World} {A : Option Addr} {l : List UInt8} (h : Sl S w A (l.map bval)) (c : Nat) :
    (convert 39 9 (.slice A l.length c)).run Tryd.prog w = .ok (.string (str l)) w := by
  by_cases hn : l = []
  · subst hn
    cases A with
    | none => exact run_convert_bytes_nil w _ _ Tryd.underlying39 Tryd.underlying5 _ _ _ Tryd.underlying9
    | some ad =>
      rw [run_convert_bytes_string w _ _ _ _ _ c Tryd.underlying39 Tryd.underlying5 Tryd.underlying9]
      have h0 : (loadCells ad 0).run Tryd.prog w = .ok (([] : List Int).map (Value.int .u8)).toArray w := run_loadCells_list (P := Tryd.prog) w ad [] (fun j v hj => by simp at hj)
      have := run_bytesToString (P := Tryd.prog) w ad 0 c [] h0
      exact this
  · obtain ⟨ad, rfl, _, hc⟩ := h (by simpa using hn)
    rw [run_convert_bytes_string w _ _ _ _ _ c Tryd.underlying39 Tryd.underlying5 Tryd.underlying9]
    have h0 := run_loadCells_list (P := Tryd.prog) w ad (l.map bval) hc
    have e : l.map bval = (l.map fun c => (c.toNat : Int)).map (Value.int .u8) := by simp [bval, Function.comp_def]
    rw [e, List.length_map, List.length_map] at h0
    rw [run_bytesToString (P := Tryd.prog) w ad _ c _ h0, foldl_push_bytes]
    simp [str, ByteArray.empty, ByteArray.emptyWithCapacity, Function.comp_def]
    rfl

theorem Digs.cell {w : World} (h : Digs w) (k : Nat) (hk : k < 10) : w.cell? ⟨0, k, none⟩ = some (.int .u8 (48 + k)) := by
  obtain ⟨fr, hg⟩ := h
  rw [cell_of_row w _ k _ _ _ hg]
  rcases (by omega : k = 0 ∨ k = 1 ∨ k = 2 ∨ k = 3 ∨ k = 4 ∨ k = 5 ∨ k = 6 ∨ k = 7 ∨ k = 8 ∨ k = 9) with h | h | h | h | h | h | h | h | h | h <;> (subst h; rfl)

theorem Digs.keep {w w' : World} (h : Digs w) (hf : Fr No w w') : Digs w' := by
  obtain ⟨fr, hg⟩ := h
  have hlt : (0 : Nat) < w.heap.size := by
    rcases Nat.lt_or_ge 0 w.heap.size with h | h
    · exact h
    · rw [Array.getElem?_eq_none h] at hg; cases hg
  exact ⟨fr, (hf.block _ hlt id).trans hg⟩

/-- What a number's text is, of its digits. -/
theorem itoa_pos (N : Nat) (l : List UInt8) (h : dec N = l) : str l = str (itoa (N : Int)) := by
  subst h
  unfold itoa
  rw [if_neg (by omega)]
  simp
theorem itoa_neg (N : Nat) (h0 : 0 < N) (l : List UInt8) (h : dec N = l) : ({ data := #[45] } : ByteArray) ++ str l = str (itoa (-(N : Int))) := by
  subst h
  rw [show ({ data := #[45] } : ByteArray) = str [45] from rfl, str_append]
  unfold itoa
  rw [if_pos (by omega)]
  simp

set_option maxRecDepth 100000 in
set_option maxHeartbeats 2000000 in
theorem octText_any (n : Int) (w : World) (hd : Digs w) (hb : Hid (-9223372036854775808 ≤ n ∧ n ≤ 9223372036854775807)) :
    Calls Tryd.prog 66 #[.int .i64 n] w fun e w' => e = .returned (.string (str (itoa n))) ∧ Fr No w w' := by
  have HD := Lib.hid hd
  clear hd
  rcases (by omega : n < 0 ∨ 0 ≤ n) with hneg | hpos
  · obtain ⟨N, rfl⟩ : ∃ N : Nat, n = -(N : Int) := ⟨n.natAbs, by omega⟩
    have h1 : IntKind.u64.wrap (-(N : Int)) = 18446744073709551616 - (N : Int) := by rw [IntKind.wrap_u64]; have := hb.out; omega
    have hN' : IntKind.u64.wrap (-IntKind.u64.wrap (-(N : Int))) = (N : Int) := by rw [h1, IntKind.wrap_u64]; have := hb.out; omega
    have hN : Hid (N < 10 ^ 20) := Lib.hid (by have := hb.out; omega)
    have hend := Lib.hid (itoa_neg N (by omega))
    clear h1
    go_enter Tryd.func66, Tryd.ntmps66
    go_wp2_with (refine wpList_store_row rfl 177 (.tmp 4) (.tmp 12) rfl w.heap.size _ rfl rfl 177 _ (heap_alloc_last w _) (by kernel_rfl) rfl (by kernel_rfl) ?_; rw [World.setRow_alloc_new])
    clear hN'
    go_loopw [3, 5] (fun u i wr => ∃ (m q : Nat) (t : List UInt8) (cs : Array Value), m + 1 ≤ 20 ∧ i = .int .i64 ((m : Int) + 1) ∧ u = .int .u64 (q : Int) ∧ Hid (Fr No w wr ∧ Blk wr w.heap.size 177 cs ∧ cs.size = 20 ∧ cs.toList.drop (m + 1) = t.map bval ∧ dec N = dec q ++ t ∧ q < 10 ^ (m + 1))) (fun _ i _ => (intOf i).toNat)
    case atStart => exact ⟨19, N, [], _, by omega, rfl, rfl, Lib.hid ⟨(Fr.refl _ _).alloc _, Blk.new _ _ _, rfl, rfl, by simp, hN.out⟩⟩
    case round =>
      obtain ⟨m, q, t, cs, hm, rfl, rfl, hh⟩ := hrel
      obtain ⟨h1, h2, h3, h4, h5, h6⟩ := hh.out
      have hdg := (HD.out.keep h1).cell (q % 10) (by omega)
      obtain ⟨v, hc⟩ : ∃ v, wr.cell? ⟨w.heap.size, m, none⟩ = some v := ⟨cs[m]'(by omega), h2.cell_ m (by rw [Array.getElem?_eq_getElem])⟩
      have hf := h2.frozen m
      have hp : (10 : Nat) ^ (m + 1) ≤ 10 ^ 20 := Nat.pow_le_pow_right (by omega) hm
      have hw : IntKind.u64.wrap ((q : Int) / 10) = ((q / 10 : Nat) : Int) := by
        rw [show ((q : Int) / 10) = ((q / 10 : Nat) : Int) by omega]
        exact IntWalk.u64_in _ ⟨by omega, by have : q / 10 < 10 ^ 19 := by omega
                                             omega⟩
      clear h1 h2 h3 h4 h5 h6 hp
      have hsl : ∀ wx, (Instr.sliceAt 177 (.pointer (some ⟨w.heap.size, 0, none⟩)) (some (.int .i64 (m : Int))) none none).run Tryd.prog wx = .ok (.slice (some ⟨w.heap.size, m, none⟩) (20 - m) (20 - m)) wx := by
        intro wx
        rw [run_sliceAt_array_l wx 177 _ (by kernel_rfl) _ _ (by omega) (by rw [show Tryd.prog.arrayLen 177 = 20 by kernel_rfl]; omega)]
        rw [show (sizeOf (Tryd.prog.elem 177)).run Tryd.prog wx = .ok 1 wx by kernel_rfl]
        simp only [Result.andThen, slicedAt, show Tryd.prog.arrayLen 177 = 20 by kernel_rfl, Int.toNat_natCast]
        rw [if_neg (by omega)]
        simp [Addr.add]
        intro h; omega
      have HH : Hid (∃ t', t' = dg (q % 10) :: t ∧ Fr No w (wr.setCell ⟨w.heap.size, m, none⟩ (.int .u8 (48 + (q : Int) % 10))) ∧ ∃ cs', Blk (wr.setCell ⟨w.heap.size, m, none⟩ (.int .u8 (48 + (q : Int) % 10))) w.heap.size 177 cs' ∧ cs'.size = 20 ∧ cs'.toList.drop m = t'.map bval) := by
        obtain ⟨h1, h2, h3, h4, h5, h6⟩ := hh.out
        refine ⟨_, rfl, h1.setCell (fun h => absurd h (by simp)) _, _, h2.set _ _, by simp [h3], ?_⟩
        have h7 : m < (cs.setIfInBounds m (.int .u8 (48 + (q : Int) % 10))).toList.length := by simp [h3]; omega
        rw [List.drop_eq_getElem_cons h7, List.map_cons]
        congr 1
        · simp only [bval, Array.getElem_toList, Array.getElem_setIfInBounds_self]
          rw [digit_nat (by omega)]; congr 1
        · rw [← h4, Array.toList_setIfInBounds, List.drop_set]
          rw [if_pos (by omega)]
      have hcv : (convert 39 9 (.slice (some ⟨w.heap.size, m, none⟩) (20 - m) (20 - m))).run Tryd.prog (wr.setCell ⟨w.heap.size, m, none⟩ (.int .u8 (48 + (q : Int) % 10))) = .ok (.string (str (dg (q % 10) :: t))) (wr.setCell ⟨w.heap.size, m, none⟩ (.int .u8 (48 + (q : Int) % 10))) := by
        obtain ⟨t', ht, g1, cs', g2, g3, g4⟩ := HH.out
        have hl : t'.length = 20 - m := by
          have := congrArg List.length g4
          simpa [g3] using this.symm
        rw [← hl, ← ht]
        refine run_b2s (S := fun _ => True) (fun _ => ⟨_, rfl, trivial, fun j u hu => ?_⟩) _
        rw [← g4] at hu
        rw [show (⟨w.heap.size, m, none⟩ : Addr).add j = ⟨w.heap.size, m + j, none⟩ by unfold Addr.add; split <;> simp_all]
        exact g2.cell_ _ (by rw [← Array.getElem?_toList]; simpa using hu)
      have hsz : (str (dg (q % 10) :: t)).size ≤ 20 := by
        obtain ⟨t', ht, g1, cs', g2, g3, g4⟩ := HH.out
        have := congrArg List.length g4
        rw [← ht, str_size]
        simp [g3] at this
        omega
      by_cases hq : q / 10 = 0
      · have hq0 : (((q / 10 : Nat) : Int) == 0) = true := by simp [hq]
        go_wp2
        go_ret
        obtain ⟨h1, h2, h3, h4, h5, h6⟩ := hh.out
        obtain ⟨t', ht, g1, cs', g2, g3, g4⟩ := HH.out
        have hd1 : dec N = dg (q % 10) :: t := by rw [h5, dec_lt (by omega), show q % 10 = q by omega]; rfl
        exact ⟨ret_v (congrArg Value.string (hend.out _ hd1)), g1⟩
      · have hq0 : (((q / 10 : Nat) : Int) == 0) = false := by simp; omega
        go_wp2
        go_roundw
        case rel =>
          obtain ⟨h1, h2, h3, h4, h5, h6⟩ := hh.out
          obtain ⟨t', ht, g1, cs', g2, g3, g4⟩ := HH.out
          have hm0 : m ≠ 0 := by
            rintro rfl
            simp at h6; omega
          obtain ⟨m, rfl⟩ : ∃ k, m = k + 1 := ⟨m - 1, by omega⟩
          refine ⟨m, q / 10, t', cs', by omega, by go_num, rfl, Lib.hid ⟨g1, g2, g3, g4, ?_, ?_⟩⟩
          · rw [h5, dec_ge (by omega), ht]; simp
          · rw [Nat.pow_succ] at h6; omega
        case measure => simp [intOf]

  · obtain ⟨N, rfl⟩ : ∃ N : Nat, n = (N : Int) := ⟨n.natAbs, by omega⟩
    have hN' : IntKind.u64.wrap (N : Int) = (N : Int) := by rw [IntKind.wrap_u64]; have := hb.out; omega
    have hN : Hid (N < 10 ^ 20) := Lib.hid (by have := hb.out; omega)
    have hend := Lib.hid (itoa_pos N)
    go_enter Tryd.func66, Tryd.ntmps66
    go_wp2_with (refine wpList_store_row rfl 177 (.tmp 4) (.tmp 12) rfl w.heap.size _ rfl rfl 177 _ (heap_alloc_last w _) (by kernel_rfl) rfl (by kernel_rfl) ?_; rw [World.setRow_alloc_new])
    clear hN'
    go_loopw [3, 5] (fun u i wr => ∃ (m q : Nat) (t : List UInt8) (cs : Array Value), m + 1 ≤ 20 ∧ i = .int .i64 ((m : Int) + 1) ∧ u = .int .u64 (q : Int) ∧ Hid (Fr No w wr ∧ Blk wr w.heap.size 177 cs ∧ cs.size = 20 ∧ cs.toList.drop (m + 1) = t.map bval ∧ dec N = dec q ++ t ∧ q < 10 ^ (m + 1))) (fun _ i _ => (intOf i).toNat)
    case atStart => exact ⟨19, N, [], _, by omega, rfl, rfl, Lib.hid ⟨(Fr.refl _ _).alloc _, Blk.new _ _ _, rfl, rfl, by simp, hN.out⟩⟩
    case round =>
      obtain ⟨m, q, t, cs, hm, rfl, rfl, hh⟩ := hrel
      obtain ⟨h1, h2, h3, h4, h5, h6⟩ := hh.out
      have hdg := (HD.out.keep h1).cell (q % 10) (by omega)
      obtain ⟨v, hc⟩ : ∃ v, wr.cell? ⟨w.heap.size, m, none⟩ = some v := ⟨cs[m]'(by omega), h2.cell_ m (by rw [Array.getElem?_eq_getElem])⟩
      have hf := h2.frozen m
      have hp : (10 : Nat) ^ (m + 1) ≤ 10 ^ 20 := Nat.pow_le_pow_right (by omega) hm
      have hw : IntKind.u64.wrap ((q : Int) / 10) = ((q / 10 : Nat) : Int) := by
        rw [show ((q : Int) / 10) = ((q / 10 : Nat) : Int) by omega]
        exact IntWalk.u64_in _ ⟨by omega, by have : q / 10 < 10 ^ 19 := by omega
                                             omega⟩
      clear h1 h2 h3 h4 h5 h6 hp
      have hsl : ∀ wx, (Instr.sliceAt 177 (.pointer (some ⟨w.heap.size, 0, none⟩)) (some (.int .i64 (m : Int))) none none).run Tryd.prog wx = .ok (.slice (some ⟨w.heap.size, m, none⟩) (20 - m) (20 - m)) wx := by
        intro wx
        rw [run_sliceAt_array_l wx 177 _ (by kernel_rfl) _ _ (by omega) (by rw [show Tryd.prog.arrayLen 177 = 20 by kernel_rfl]; omega)]
        rw [show (sizeOf (Tryd.prog.elem 177)).run Tryd.prog wx = .ok 1 wx by kernel_rfl]
        simp only [Result.andThen, slicedAt, show Tryd.prog.arrayLen 177 = 20 by kernel_rfl, Int.toNat_natCast]
        rw [if_neg (by omega)]
        simp [Addr.add]
        intro h; omega
      have HH : Hid (∃ t', t' = dg (q % 10) :: t ∧ Fr No w (wr.setCell ⟨w.heap.size, m, none⟩ (.int .u8 (48 + (q : Int) % 10))) ∧ ∃ cs', Blk (wr.setCell ⟨w.heap.size, m, none⟩ (.int .u8 (48 + (q : Int) % 10))) w.heap.size 177 cs' ∧ cs'.size = 20 ∧ cs'.toList.drop m = t'.map bval) := by
        obtain ⟨h1, h2, h3, h4, h5, h6⟩ := hh.out
        refine ⟨_, rfl, h1.setCell (fun h => absurd h (by simp)) _, _, h2.set _ _, by simp [h3], ?_⟩
        have h7 : m < (cs.setIfInBounds m (.int .u8 (48 + (q : Int) % 10))).toList.length := by simp [h3]; omega
        rw [List.drop_eq_getElem_cons h7, List.map_cons]
        congr 1
        · simp only [bval, Array.getElem_toList, Array.getElem_setIfInBounds_self]
          rw [digit_nat (by omega)]; congr 1
        · rw [← h4, Array.toList_setIfInBounds, List.drop_set]
          rw [if_pos (by omega)]
      have hcv : (convert 39 9 (.slice (some ⟨w.heap.size, m, none⟩) (20 - m) (20 - m))).run Tryd.prog (wr.setCell ⟨w.heap.size, m, none⟩ (.int .u8 (48 + (q : Int) % 10))) = .ok (.string (str (dg (q % 10) :: t))) (wr.setCell ⟨w.heap.size, m, none⟩ (.int .u8 (48 + (q : Int) % 10))) := by
        obtain ⟨t', ht, g1, cs', g2, g3, g4⟩ := HH.out
        have hl : t'.length = 20 - m := by
          have := congrArg List.length g4
          simpa [g3] using this.symm
        rw [← hl, ← ht]
        refine run_b2s (S := fun _ => True) (fun _ => ⟨_, rfl, trivial, fun j u hu => ?_⟩) _
        rw [← g4] at hu
        rw [show (⟨w.heap.size, m, none⟩ : Addr).add j = ⟨w.heap.size, m + j, none⟩ by unfold Addr.add; split <;> simp_all]
        exact g2.cell_ _ (by rw [← Array.getElem?_toList]; simpa using hu)
      by_cases hq : q / 10 = 0
      · have hq0 : (((q / 10 : Nat) : Int) == 0) = true := by simp [hq]
        go_wp2
        go_ret
        obtain ⟨h1, h2, h3, h4, h5, h6⟩ := hh.out
        obtain ⟨t', ht, g1, cs', g2, g3, g4⟩ := HH.out
        have hd1 : dec N = dg (q % 10) :: t := by rw [h5, dec_lt (by omega), show q % 10 = q by omega]; rfl
        exact ⟨ret_v (congrArg Value.string (hend.out _ hd1)), g1⟩
      · have hq0 : (((q / 10 : Nat) : Int) == 0) = false := by simp; omega
        go_wp2
        go_roundw
        case rel =>
          obtain ⟨h1, h2, h3, h4, h5, h6⟩ := hh.out
          obtain ⟨t', ht, g1, cs', g2, g3, g4⟩ := HH.out
          have hm0 : m ≠ 0 := by
            rintro rfl
            simp at h6; omega
          obtain ⟨m, rfl⟩ : ∃ k, m = k + 1 := ⟨m - 1, by omega⟩
          refine ⟨m, q / 10, t', cs', by omega, by go_num, rfl, Lib.hid ⟨g1, g2, g3, g4, ?_, ?_⟩⟩
          · rw [h5, dec_ge (by omega), ht]; simp
          · rw [Nat.pow_succ] at h6; omega
        case measure => simp [intOf]


theorem bytes_at (s : ByteArray) (k : Nat) (h : k < s.size) : s[k] = s.data.toList[k]'(by simpa using h) := rfl

set_option maxRecDepth 100000 in
set_option maxHeartbeats 1000000 in
theorem octInt_any (s : ByteArray) (w : World) (hd : Digs w) (hs : s.size ≤ maxLen) :
    Calls Tryd.prog 73 #[.string s] w fun e w' => e = .returned (.tuple #[.int .i64 (intPair s.data.toList).1, .bool (intPair s.data.toList).2]) ∧ Fr No w w' := by
  unfold maxLen at hs
  have HD := Lib.hid hd
  clear hd
  have hz := size_list s
  have HZ := Lib.hid hz
  clear hz
  go_enter Tryd.func73, Tryd.ntmps73
  go_wp2
  go_loop [4, 9] (fun n i => ∃ k : Nat, k ≤ s.size ∧ i = .int .i64 k ∧ n = .int .i64 (dv (s.data.toList.take k) : Int) ∧ (dv (s.data.toList.take k) : Int) ≤ 42949672959 ∧ Hid (∀ c ∈ s.data.toList.take k, 48 ≤ c.toNat ∧ c.toNat ≤ 57)) (fun _ i => s.size - (intOf i).toNat)
  case atStart => exact ⟨0, Nat.zero_le _, rfl, rfl, by rw [List.take_zero]; decide, Lib.hid (by simp)⟩
  case round =>
    obtain ⟨k, hk, rfl, rfl, hb, hh⟩ := hrel
    by_cases hlt : k < s.size
    · obtain ⟨d, hd⟩ : ∃ d, dval ((s[k].toNat : Nat) : Int) = d := ⟨_, rfl⟩
      have hd' := Lib.hid hd
      obtain ⟨b1, b2⟩ : 0 ≤ d ∧ d ≤ 16 := by subst hd; unfold dval; split <;> (try split) <;> omega
      go_wp2_with fail
      refine (value_any _ w HD.out).mono ?_
      rintro e w1 ⟨rfl, rfl⟩
      rw [hd]
      clear hd
      have hmem : Hid (s[k] ∈ s.data.toList) := Lib.hid (by rw [bytes_at]; exact List.getElem_mem _)
      have hsucc : Hid (dv (s.data.toList.take (k + 1)) = 10 * dv (s.data.toList.take k) + (s[k].toNat - 48)) := Lib.hid (by rw [dv_take_succ (by rw [HZ.out]; exact hlt)]; rfl)
      have hdig : Hid (d ≤ 9 → 48 ≤ s[k].toNat ∧ s[k].toNat ≤ 57 ∧ d = ((s[k].toNat - 48 : Nat) : Int)) := Lib.hid (by
        intro h9
        have := hd'.out
        unfold dval at this
        split at this
        · omega
        · split at this <;> omega)
      go_wp2
      · go_ret2
        have hbig : 9 < d ∨ 4294967295 < (dv (s.data.toList.take k) : Int) := by assumption
        obtain ⟨h1, h2⟩ := intPair_fail (intPair_big (s := s.data.toList) (k := k) (by omega))
        exact ⟨by rw [h1, h2]; rfl, Fr.refl _ _⟩
      · have h9 : d ≤ 9 ∧ (dv (s.data.toList.take k) : Int) ≤ 4294967295 := by assumption
        obtain ⟨g1, g2, g3⟩ := hdig.out h9.1
        have hs := hsucc.out
        go_round
        case rel =>
          refine ⟨k + 1, by omega, by go_num, ?_, by rw [hs]; omega, Lib.hid ?_⟩
          · rw [hs, g3]; congr 1
          · intro c hc
            rw [List.take_succ_eq_append_getElem (by rw [HZ.out]; exact hlt), List.mem_append] at hc
            rcases hc with hc | hc
            · exact hh.out c hc
            · simp only [List.mem_singleton] at hc
              subst hc
              exact ⟨g1, g2⟩
        case measure => simp [intOf]; omega
      · have h9 : 9 < d := by assumption
        go_ret2
        obtain ⟨h1, h2⟩ := intPair_fail (intPair_bad (s := s.data.toList) hmem.out (fun hc => by
          have := hd'.out
          unfold dval at this
          rw [if_pos (by omega)] at this
          omega))
        exact ⟨by rw [h1, h2]; rfl, Fr.refl _ _⟩
    · have htk : s.data.toList.take k = s.data.toList := List.take_of_length_le (by rw [HZ.out]; omega)
      have hsh := itoa_short (n := (dv (s.data.toList.take k) : Int)) (by omega)
      have htk' := Lib.hid htk
      clear htk
      go_wp2_with fail
      · go_ret2
        have h0 : s.toList = [] := by assumption
        have h0' : s.data.toList = [] := by rw [← Lib.toList_data]; exact h0
        rw [h0']
        obtain ⟨h1, h2⟩ := intPair_fail intPair_nil
        exact ⟨by rw [h1, h2]; rfl, Fr.refl _ _⟩
      · refine (octText_any _ w HD.out (Lib.hid (by omega))).mono ?_
        rintro e w1 ⟨rfl, hf⟩
        have hd2 : Hid (itoa (dv (s.data.toList.take k) : Int) = dec (dv s.data.toList)) := Lib.hid (by
          rw [htk'.out]; unfold itoa; rw [if_neg (by omega)]; simp)
        have hle : (dv (s.data.toList.take k) : Int) ≤ 4294967295 := by assumption
        have hne : ¬ s.toList = [] := by assumption
        go_wp2
        · have ho : (s.toList.isEmpty = true ∨ 4294967295 < (dv (s.data.toList.take k) : Int)) ∨ (!(str (itoa (dv (s.data.toList.take k) : Int))).toList == s.toList) = true := by assumption
          replace ho : (!(str (itoa (dv (s.data.toList.take k) : Int))).toList == s.toList) = true := by
            rcases ho with (ho | ho) | ho
            · exact absurd (by simpa using ho) hne
            · omega
            · exact ho
          go_ret2
          have h1 : dec (dv s.data.toList) ≠ s.data.toList := by
            intro e
            rw [hd2.out, e, str_of] at ho
            simp at ho
          obtain ⟨h1, h2⟩ := intPair_fail (intPair_ne h1)
          exact ⟨by rw [h1, h2]; rfl, hf⟩
        · have ho : (s.toList.isEmpty = false ∧ (dv (s.data.toList.take k) : Int) ≤ 4294967295) ∧ (!(str (itoa (dv (s.data.toList.take k) : Int))).toList == s.toList) = false := by assumption
          replace ho := ho.2
          go_ret2
          have h1 : dec (dv s.data.toList) = s.data.toList := by
            rw [hd2.out, Lib.toList_data, Lib.toList_data, str_data] at ho
            simpa using ho
          rw [htk'.out] at hle ⊢
          rw [intPair_eq h1 (by omega)]
          exact ⟨rfl, hf⟩
      · have hbig : 4294967295 < (dv (s.data.toList.take k) : Int) := by assumption
        go_ret2
        obtain ⟨h1, h2⟩ := intPair_fail (intPair_big (s := s.data.toList) (k := k) (by omega))
        exact ⟨by rw [h1, h2]; rfl, Fr.refl _ _⟩

end Go.Proofs.YtoockgijliacdaaDoor
