/- Contract: a path's numbers (how many does not matter). -/
import Derived.Test.YtoockgijliacdaaDoorFed
import Derived.Test.YtoockgijliacdaaDoorSpp
namespace Go.Proofs.YtoockgijliacdaaDoor
open Go.RowKit

theorem infoU32 : (Tryd.prog.info? 23).map (fun i => (i.zero.map (·.cells.size), i.size, i.bytes)) = some (some 1, 1, 4) := by kernel_rfl
/-- Some numbers, not too many. -/
def Nu (w : World) (e : Ending) (w' : World) : Prop := ∃ A l c, e = .returned (.slice A l c) ∧ l ≤ 1099511627776 ∧ Fr No w w'
/-- Numbers that a call owns. -/
def OwN (t : TypeId) (w : World) (vo : Value) (n : Nat) (wr : World) : Prop := ∃ xs, wr.ownsRow w.heap.size t 1 vo n xs

set_option maxRecDepth 100000 in
set_option maxHeartbeats 4000000 in
theorem flat_any (w w1 : World) (F : Fr No w w1) (A : Option Addr) (len cap : Nat) (h : Tr w 94 [.slice A len cap]) :
    Calls Tryd.prog 48 #[.slice A len cap] w1 (Nu w1) := by
  obtain ⟨A', len', cap', els, e1, -, -, hl, hs⟩ := Tr.sl (n := 2) Tryd.underlying94 (by kernel_rfl) (by decide) h
  injection e1 with e1 _
  injection e1 with e1 e2 e3
  subst e1 e2 e3
  have HS := Lib.hid hs
  have HF := Lib.hid F
  have hl2 : (len : Int) ≤ 1048576 := by omega
  have START : Hid (OwN 23 w1 (.slice none 0 0) 0 w1) := Lib.hid ⟨[], World.ownsRow_nil _ _ _ _⟩
  clear hs F h
  go_enter Tryd.func48, Tryd.ntmps48
  go_wp2_with fail
  go_loopw [3, 4] (fun vo i w2 => ∃ (k n : Nat), k ≤ len ∧ i = .int .i64 (k : Int) ∧ n ≤ k * 1048576 ∧ Hid (OwN 23 w1 vo n w2 ∧ Fr No w1 w2)) (fun _ i _ => len - (intOf i).toNat)
  case atStart => exact ⟨0, 0, Nat.zero_le _, rfl, by omega, Lib.hid ⟨START.out, Fr.refl _ _⟩⟩
  case round =>
    obtain ⟨k, n, hk, rfl, hn, hw⟩ := hrel
    by_cases hlt : k < len
    · obtain ⟨b, o, el, rfl, hb, _, _, hel, hc⟩ := HS.out.at_all (by decide) hlt
      obtain ⟨x0, A1, l1, c1, rfl, hl1, hp⟩ := seg_parts hel
      have HC : Hid (∀ W, Fr No w W → W.cell? ⟨b, o + k * 2 + 1, none⟩ = some (.slice A1 l1 c1)) := Lib.hid (fun W FW => hc W FW 1 _ rfl)
      obtain ⟨A', len', cap', els0, e1, -, -, -, hs0⟩ := Tr.sl (n := 1) Tryd.underlying26 (by kernel_rfl) (by decide) hp
      injection e1 with e1 _
      injection e1 with e1 e2 e3
      subst e1 e2 e3
      have HP := Lib.hid hs0
      have hl1' : (l1 : Int) ≤ 1048576 := by omega
      clear hc hp hs0
      go_wp2_with fail
      go_loopw [3, 5] (fun vo i w3 => ∃ (j : Nat), j ≤ l1 ∧ i = .int .i64 (j : Int) ∧ Hid (OwN 23 w1 vo (n + j) w3 ∧ Fr No w1 w3)) (fun _ i _ => l1 - (intOf i).toNat)
      case atStart => exact ⟨0, Nat.zero_le _, rfl, hw⟩
      case round =>
        obtain ⟨j, hj, rfl, hw'⟩ := hrel
        clear hw
        have y1 := HC.out wr (HF.out.trans hw'.out.2)
        by_cases hjlt : j < l1
        · obtain ⟨b', o', el', rfl, _, _, _, hel', hc'⟩ := HP.out.at_all (by decide) hjlt
          obtain ⟨z, rfl, _⟩ := Tr.int Tryd.underlying23 hel'
          have t0 : wr.cell? ⟨b', o' + j, none⟩ = some (.int .u32 z) := by have := hc' wr (HF.out.trans hw'.out.2) 0 _ rfl; rw [Nat.mul_one] at this; exact this
          obtain ⟨xs, hown⟩ := hw'.out.1
          have HOW := Lib.hid hown
          have HF2 := Lib.hid hw'.out.2
          have HNL : Hid (n + j ≤ 1099511627776) := Lib.hid (by omega)
          clear hc' hel' hw' hown
          obtain ⟨i0, z0, hi, hz0, hz1, hz2, hz3⟩ := info_zero infoU32
          go_wp2_with (at_builtin; go_loud (refine wpList_append_lies _ rfl _ _ 26 rfl w1.heap.size 23 i0 z0 1 4 Tryd.underlying26 hi hz0 hz2 hz3 hz1 (by decide) _ _ _ rfl (HOW.out.alloc _) ⟨wr.heap.size, 0, none⟩ 1 1 [.int .u32 z] rfl rfl (new_cells0 _ _ rfl _ _) (by simp [Value.oneCell']) (by decide) (by have := HNL.out; unfold maxLen; omega) (by have := HNL.out; omega) (by have := HF2.out.size; simp only [World.size_alloc]; omega) _ rfl ?_); intro g1 cap1 w4 hown1 hgrow1 hat1 hlt1)
          go_roundw
          case rel =>
            refine ⟨j + 1, by omega, by go_num, Lib.hid ⟨⟨_, hown1⟩, ?_⟩⟩
            exact (HF2.out.alloc _).then_ (R' := fun k => w1.heap.size ≤ k) ((Fr.of_grown hgrow1).mono fun k hk => ((HOW.out.alloc (.cells #[.int .i64 0] 3)).lt k hk.symm).1) (fun i hi e => by omega)
          case measure => simp [intOf]; omega
        · go_wp2_with fail
          go_roundw
          case rel => exact ⟨k + 1, n + j, by omega, by go_num, by omega, hw'⟩
          case measure => simp [intOf]; omega
    · go_wp2_with fail
      go_ret
      obtain ⟨xs, hown⟩ := hw.out.1
      obtain ⟨A', c', rfl, _⟩ := own_slp hown
      exact ⟨_, _, _, rfl, by omega, hw.out.2⟩

end Go.Proofs.YtoockgijliacdaaDoor
