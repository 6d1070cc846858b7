/- Contracts: are rules few and small enough; a path's numbers. -/
import Derived.Test.YtoockgijliacdaaDoorFec
import Derived.Sort.QuietIn
namespace Go.Proofs.YtoockgijliacdaaDoor
open Go.RowKit

set_option maxRecDepth 100000 in
set_option maxHeartbeats 4000000 in
theorem few14_any (w w1 : World) (F : Fr No w w1) (A : Option Addr) (len cap : Nat) (h : Tr w 100 [.slice A len cap]) (hlen : len ≤ 1048576) :
    Calls Tryd.prog 47 #[.slice A len cap] w1 (Bo w1) := by
  obtain ⟨A', len', cap', els, e1, -, -, hl, hs⟩ := Tr.sl (n := 3) Tryd.underlying100 (by kernel_rfl) (by decide) h
  injection e1 with e1 _
  injection e1 with e1 e2 e3
  subst e1 e2 e3
  have HS := Lib.hid hs
  have HF := Lib.hid F
  have hl2 : (len : Int) ≤ 1048576 := by omega
  clear hs F h hlen
  go_enter Tryd.func47, Tryd.ntmps47
  go_wp2_with fail
  · go_ret
    exact ⟨⟨_, rfl⟩, Fr.refl _ _⟩
  go_loopw [3, 4] (fun vm i w2 => ∃ (k m : Nat), k ≤ len ∧ i = .int .i64 (k : Int) ∧ vm = .int .i64 (m : Int) ∧ m ≤ 80 ∧ Hid (Fr No w1 w2)) (fun _ i _ => len - (intOf i).toNat)
  case atStart => exact ⟨0, 0, Nat.zero_le _, rfl, rfl, by omega, Lib.hid (Fr.refl _ _)⟩
  case round =>
    obtain ⟨k, m, hk, rfl, rfl, hm, hw⟩ := hrel
    by_cases hlt : k < len
    · obtain ⟨b, o, el, rfl, hb, _, _, hel, hc⟩ := HS.out.at_all (by decide) hlt
      obtain ⟨A0, l0, c0, A1, l1, c1, x2, rfl, hl0, hcd, hl1, hdd⟩ := rule_parts hel
      have y0 : wr.cell? ⟨b, o + k * 3, none⟩ = some (.slice A0 l0 c0) := hc wr (HF.out.trans hw.out) 0 _ rfl
      have y1 : wr.cell? ⟨b, o + k * 3 + 1, none⟩ = some (.slice A1 l1 c1) := hc wr (HF.out.trans hw.out) 1 _ rfl
      have hl0' : (l0 : Int) ≤ 1048576 := by omega
      have hl1' : (l1 : Int) ≤ 1048576 := by omega
      have HC : Hid (∀ W, Fr No w W → W.cell? ⟨b, o + k * 3, none⟩ = some (.slice A0 l0 c0)) := Lib.hid (fun W FW => hc W FW 0 _ rfl)
      obtain ⟨A', len', cap', els0, e1, -, -, -, hs0⟩ := Tr.sl (n := 7) Tryd.underlying146 (by kernel_rfl) (by decide) hcd
      injection e1 with e1 _
      injection e1 with e1 e2 e3
      subst e1 e2 e3
      have HCD := Lib.hid hs0
      have HFW := Lib.hid (HF.out.trans hw.out)
      clear hc hcd hdd hs0
      go_wp2_with fail
      go_quiet (fail)
      go_wp2_with fail
      · go_ret
        exact ⟨⟨_, rfl⟩, hw.out.drewN _⟩
      · have HFV := Lib.hid (hw.out.drewN nq)
        go_loopw [5] (fun i w3 => ∃ (j : Nat), j ≤ l0 ∧ i = .int .i64 (j : Int) ∧ Hid (Fr No w1 w3)) (fun i _ => l0 - (intOf i).toNat)
        case atStart => exact ⟨0, Nat.zero_le _, rfl, HFV⟩
        case round =>
          obtain ⟨j, hj, rfl, hw'⟩ := hrel
          have y0 := HC.out wr (HF.out.trans hw'.out)
          clear HFV
          by_cases hjlt : j < l0
          · obtain ⟨b', o', el', rfl, _, _, _, hel', hc'⟩ := HCD.out.at_all (by decide) hjlt
            obtain ⟨z0, z1, z2, z3, z4, A5, l5, c5, A6, l6, c6, rfl, g4, g5, _, g6, _⟩ := cond_parts hel'
            have t0 : wr.cell? ⟨b', o' + j * 7, none⟩ = _ := hc' wr (HF.out.trans hw'.out) 0 _ rfl
            have t1 : wr.cell? ⟨b', o' + j * 7 + 1, none⟩ = _ := hc' wr (HF.out.trans hw'.out) 1 _ rfl
            have t2 : wr.cell? ⟨b', o' + j * 7 + 2, none⟩ = _ := hc' wr (HF.out.trans hw'.out) 2 _ rfl
            have t3 : wr.cell? ⟨b', o' + j * 7 + 3, none⟩ = _ := hc' wr (HF.out.trans hw'.out) 3 _ rfl
            have t4 : wr.cell? ⟨b', o' + j * 7 + 4, none⟩ = _ := hc' wr (HF.out.trans hw'.out) 4 _ rfl
            have t5 : wr.cell? ⟨b', o' + j * 7 + 5, none⟩ = _ := hc' wr (HF.out.trans hw'.out) 5 _ rfl
            have t6 : wr.cell? ⟨b', o' + j * 7 + 6, none⟩ = _ := hc' wr (HF.out.trans hw'.out) 6 _ rfl
            clear hc' hel'
            go_wp2_with fail
            refine (fewCond_any wr z0 z1 z2 z3 z4 A5 l5 c5 A6 l6 c6 g4 g5 g6).mono ?_
            rintro e w5 ⟨⟨b5, rfl⟩, f5⟩
            have F5 := Lib.hid (hw'.out.trans f5)
            clear f5 t0 t1 t2 t3 t4 t5 t6 y0
            cases b5
            · go_wp2_with fail
              go_ret
              exact ⟨⟨_, rfl⟩, F5.out⟩
            · go_wp2_with fail
              go_roundw
              case rel => exact ⟨j + 1, by omega, by go_num, F5⟩
              case measure => simp [intOf]; omega
          · go_wp2_with fail
            go_roundw
            case rel =>
              have e1 : (l0 : Int) ≤ 30 := by omega
              refine ⟨k + 1, m + (min l0 100 + min l1 100), by omega, by go_num, ?_, by omega, hw'⟩
              congr 1
              omega
            case measure => simp [intOf]; omega
      · go_ret
        exact ⟨⟨_, rfl⟩, hw.out.drewN _⟩
    · go_wp2_with fail
      go_ret
      exact ⟨⟨_, rfl⟩, hw.out⟩

end Go.Proofs.YtoockgijliacdaaDoor
