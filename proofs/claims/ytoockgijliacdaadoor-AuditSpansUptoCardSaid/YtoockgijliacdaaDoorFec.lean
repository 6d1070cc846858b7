/- Contracts: are paths, attributes, rules few and small enough? Some answer is given. -/
import Derived.Test.YtoockgijliacdaaDoorFew
import Derived.Test.YtoockgijliacdaaDoorSpd
import Derived.Shelf.RegionOpen
namespace Go.Proofs.YtoockgijliacdaaDoor
open Go.RowKit

/-- Some answer, nothing changed. -/
def Bo (w : World) (e : Ending) (w' : World) : Prop := (∃ b, e = .returned (.bool b)) ∧ Fr No w w'

set_option maxRecDepth 100000 in
set_option maxHeartbeats 2000000 in
theorem few3_any (w wr : World) (F : Fr No w wr) (A : Option Addr) (len cap : Nat) (h : Tr w 94 [.slice A len cap]) (hlen : len ≤ 1048576) :
    Calls Tryd.prog 102 #[.slice A len cap] wr (Bo wr) := by
  obtain ⟨A', len', cap', els, e1, -, -, hl, hs⟩ := Tr.sl (n := 2) Tryd.underlying94 (by kernel_rfl) (by decide) h
  injection e1 with e1 _
  injection e1 with e1 e2 e3
  subst e1 e2 e3
  have HS := Lib.hid hs
  have HF := Lib.hid F
  have hl2 : (len : Int) ≤ 1048576 := by omega
  clear hs F h hlen
  go_enter Tryd.func102, Tryd.ntmps102
  go_wp2_with fail
  · go_ret
    exact ⟨⟨_, rfl⟩, Fr.refl _ _⟩
  go_loopw [3, 4] (fun vm i w2 => ∃ (k m : Nat), k ≤ len ∧ i = .int .i64 (k : Int) ∧ vm = .int .i64 (m : Int) ∧ m ≤ 300 ∧ Hid (w2 = wr)) (fun _ i _ => len - (intOf i).toNat)
  case atStart => exact ⟨0, 0, Nat.zero_le _, rfl, rfl, by omega, Lib.hid rfl⟩
  case round =>
    obtain ⟨k, m, hk, rfl, rfl, hm, hw⟩ := hrel
    have hw2 := hw.out
    subst hw2
    by_cases hlt : k < len
    · obtain ⟨b, o, el, rfl, _, _, _, hel, hc⟩ := HS.out.at (by decide) HF.out hlt
      obtain ⟨x0, A1, l1, c1, rfl, hl1, _⟩ := seg_parts hel
      have y1 : wr.cell? ⟨b, o + k * 2 + 1, none⟩ = some (.slice A1 l1 c1) := hc 1 _ rfl
      clear hc
      have hl1' : (l1 : Int) ≤ 1048576 := by omega
      go_wp2_with fail
      · go_ret
        exact ⟨⟨_, rfl⟩, Fr.refl _ _⟩
      · go_roundw
        case rel =>
          have hc1 : (l1 : Int) ≤ 1048576 := by omega
          refine ⟨k + 1, m + min l1 300, by omega, by go_num, ?_, by omega, Lib.hid trivial⟩
          congr 1
          omega
        case measure => simp [intOf]; omega
    · go_wp2_with fail
      go_ret
      exact ⟨⟨_, rfl⟩, Fr.refl _ _⟩

set_option maxRecDepth 100000 in
set_option maxHeartbeats 2000000 in
theorem few4_any (w wr : World) (F : Fr No w wr) (v0 v2 v3 v4 v7 v8 : Int) (v5 v6 : Bool) (A1 : Option Addr) (l1 c1 : Nat) (A9 : Option Addr) (l9 c9 : Nat) (A10 : Option Addr) (l10 c10 : Nat)
    (h1 : Tr w 94 [.slice A1 l1 c1]) (hl1 : l1 ≤ 1048576) (h10 : Tr w 95 [.slice A10 l10 c10]) (hl9 : l9 ≤ 1048576) (hl10 : l10 ≤ 1048576) :
    Calls Tryd.prog 77 #[.agg #[.int .i64 v0, .slice A1 l1 c1, .int .u32 v2, .int .i64 v3, .int .i64 v4, .bool v5, .bool v6, .int .u32 v7, .int .u32 v8, .slice A9 l9 c9, .slice A10 l10 c10]] wr (Bo wr) := by
  obtain ⟨A', len', cap', els, e1, -, -, -, hs⟩ := Tr.sl (n := 3) Tryd.underlying95 (by kernel_rfl) (by decide) h10
  injection e1 with e1 _
  injection e1 with e1 e2 e3
  subst e1 e2 e3
  have B := Blk.new wr 97 #[.int .i64 v0, .slice A1 l1 c1, .int .u32 v2, .int .i64 v3, .int .i64 v4, .bool v5, .bool v6, .int .u32 v7, .int .u32 v8, .slice A9 l9 c9, .slice A10 l10 c10]
  have F1 := Lib.hid ((Fr.refl No wr).alloc (.cells #[.int .i64 v0, .slice A1 l1 c1, .int .u32 v2, .int .i64 v3, .int .i64 v4, .bool v5, .bool v6, .int .u32 v7, .int .u32 v8, .slice A9 l9 c9, .slice A10 l10 c10] 97))
  have HB := Lib.hid B
  have x1 := B.cell_ 1 rfl
  have HS := Lib.hid hs
  have HF := Lib.hid F
  have H1 := Lib.hid h1
  have HL1 := Lib.hid hl1
  have g9 : (l9 : Int) ≤ 1048576 := by omega
  have g10 : (l10 : Int) ≤ 1048576 := by omega
  clear B hs F h10 h1 hl1
  go_enter Tryd.func77, Tryd.ntmps77
  go_wp2_with fail
  refine (few3_any w _ (HF.out.trans F1.out) A1 l1 c1 H1.out HL1.out).mono ?_
  rintro e w2 ⟨⟨b, rfl⟩, f2⟩
  have HB2 := Lib.hid (HB.out.keep f2 id)
  have F2 := Lib.hid (F1.out.trans f2)
  clear f2 x1
  have x9 := HB2.out.cell_ 9 rfl
  have x10 := HB2.out.cell_ 10 rfl
  cases b
  all_goals go_wp2_with fail
  all_goals try (go_ret; exact ⟨⟨_, rfl⟩, F2.out⟩)
  go_loopw [3] (fun i w3 => ∃ (k : Nat), k ≤ l10 ∧ i = .int .i64 (k : Int) ∧ Hid (w3 = w2)) (fun i _ => l10 - (intOf i).toNat)
  case atStart => exact ⟨0, Nat.zero_le _, rfl, Lib.hid rfl⟩
  case round =>
    obtain ⟨k, hk, rfl, hw⟩ := hrel
    have hw2 := hw.out
    subst hw2
    by_cases hlt : k < l10
    · obtain ⟨b, o, el, rfl, _, _, _, hel, hc⟩ := HS.out.at (by decide) (HF.out.trans F2.out) hlt
      obtain ⟨y0, y1, A1', l1', c1', rfl, hl1, _⟩ := raw_parts hel
      have y1 := hc 2 _ rfl
      clear hc
      have hl1' : (l1' : Int) ≤ 1048576 := by omega
      go_wp2_with fail
      · go_ret
        exact ⟨⟨_, rfl⟩, F2.out⟩
      · go_roundw
        case rel => exact ⟨k + 1, by omega, by go_num, Lib.hid trivial⟩
        case measure => simp [intOf]; omega
    · go_wp2_with fail
      go_ret
      exact ⟨⟨_, rfl⟩, F2.out⟩

set_option maxRecDepth 100000 in
set_option maxHeartbeats 2000000 in
theorem few5_any (w wr : World) (F : Fr No w wr) (m : Int) (v0 v2 v3 v4 v7 v8 : Int) (v5 v6 : Bool) (A1 : Option Addr) (l1 c1 : Nat) (A9 : Option Addr) (l9 c9 : Nat) (A10 : Option Addr) (l10 c10 : Nat)
    (Ag : Option Addr) (lg cg : Nat) (An : Option Addr) (ln cn : Nat)
    (h1 : Tr w 94 [.slice A1 l1 c1]) (hl1 : l1 ≤ 1048576) (h10 : Tr w 95 [.slice A10 l10 c10]) (hl9 : l9 ≤ 1048576) (hl10 : l10 ≤ 1048576) (hlg : lg ≤ 1048576) (hln : ln ≤ 1048576) :
    Calls Tryd.prog 46 #[.agg #[.slice Ag lg cg, .int .i64 v0, .slice A1 l1 c1, .int .u32 v2, .int .i64 v3, .int .i64 v4, .bool v5, .bool v6, .int .u32 v7, .int .u32 v8, .slice A9 l9 c9, .slice A10 l10 c10, .slice An ln cn], .int .i64 m] wr (Bo wr) := by
  have B := Blk.new wr 99 #[.slice Ag lg cg, .int .i64 v0, .slice A1 l1 c1, .int .u32 v2, .int .i64 v3, .int .i64 v4, .bool v5, .bool v6, .int .u32 v7, .int .u32 v8, .slice A9 l9 c9, .slice A10 l10 c10, .slice An ln cn]
  have F1 := Lib.hid ((Fr.refl No wr).alloc (.cells #[.slice Ag lg cg, .int .i64 v0, .slice A1 l1 c1, .int .u32 v2, .int .i64 v3, .int .i64 v4, .bool v5, .bool v6, .int .u32 v7, .int .u32 v8, .slice A9 l9 c9, .slice A10 l10 c10, .slice An ln cn] 99))
  have LD := Lib.hid (load_at (P := Tryd.prog) _ wr.heap.size 1 11 97 #[.int .i64 v0, .slice A1 l1 c1, .int .u32 v2, .int .i64 v3, .int .i64 v4, .bool v5, .bool v6, .int .u32 v7, .int .u32 v8, .slice A9 l9 c9, .slice A10 l10 c10] (fun j hj v hv => B.cell_ (1 + j) (by
    rcases (by omega : j = 0 ∨ j = 1 ∨ j = 2 ∨ j = 3 ∨ j = 4 ∨ j = 5 ∨ j = 6 ∨ j = 7 ∨ j = 8 ∨ j = 9 ∨ j = 10) with rfl | rfl | rfl | rfl | rfl | rfl | rfl | rfl | rfl | rfl | rfl <;> exact hv)) rfl (Tryd.isAgg97 _) (Tryd.sizeOf97 _))
  have HB := Lib.hid B
  have HF := Lib.hid F
  have H1 := Lib.hid h1
  have H10 := Lib.hid h10
  have HLS := Lib.hid (And.intro hl1 (And.intro hl9 hl10))
  have gg : (lg : Int) ≤ 1048576 := by omega
  have gn : (ln : Int) ≤ 1048576 := by omega
  clear B F h10 h1 hl1
  go_enter Tryd.func46, Tryd.ntmps46
  go_wp2_with (refine wpList_load_agg rfl 97 (.tmp 5) rfl ⟨wr.heap.size, 1, none⟩ rfl _ LD.out ?_)
  refine (few4_any w _ (HF.out.trans F1.out) v0 v2 v3 v4 v7 v8 v5 v6 A1 l1 c1 A9 l9 c9 A10 l10 c10 H1.out HLS.out.1 H10.out HLS.out.2.1 HLS.out.2.2).mono ?_
  rintro e w2 ⟨⟨b, rfl⟩, f2⟩
  have HB2 := Lib.hid (HB.out.keep f2 id)
  have F2 := Lib.hid (F1.out.trans f2)
  clear f2
  have x0 := HB2.out.cell_ 0 rfl
  have x12 := HB2.out.cell_ 12 rfl
  cases b
  all_goals go_wp2_with fail
  all_goals go_ret
  all_goals exact ⟨⟨_, rfl⟩, F2.out⟩

set_option maxRecDepth 100000 in
set_option maxHeartbeats 2000000 in
theorem fewCond_any (wr : World) (x0 : Int) (x1 : Bool) (x2 x3 : Int) (x4 : ByteArray) (A5 : Option Addr) (l5 c5 : Nat) (A6 : Option Addr) (l6 c6 : Nat) (h4 : x4.size ≤ 9223372036854775807) (h5 : l5 ≤ 1048576) (h6 : l6 ≤ 1048576) :
    Calls Tryd.prog 78 #[.agg #[.int .i64 x0, .bool x1, .int .i64 x2, .int .u32 x3, .string x4, .slice A5 l5 c5, .slice A6 l6 c6]] wr (Bo wr) := by
  have B := Blk.new wr 153 #[.int .i64 x0, .bool x1, .int .i64 x2, .int .u32 x3, .string x4, .slice A5 l5 c5, .slice A6 l6 c6]
  have F1 := Lib.hid ((Fr.refl No wr).alloc (.cells #[.int .i64 x0, .bool x1, .int .i64 x2, .int .u32 x3, .string x4, .slice A5 l5 c5, .slice A6 l6 c6] 153))
  have y4 := B.cell_ 4 rfl
  have y5 := B.cell_ 5 rfl
  have y6 := B.cell_ 6 rfl
  have g4 : (x4.size : Int) ≤ 9223372036854775807 := by omega
  have g5 : (l5 : Int) ≤ 1048576 := by omega
  have g6 : (l6 : Int) ≤ 1048576 := by omega
  clear B
  go_enter Tryd.func78, Tryd.ntmps78
  go_wp2_with fail
  all_goals go_ret
  all_goals exact ⟨⟨_, rfl⟩, F1.out⟩

end Go.Proofs.YtoockgijliacdaaDoor
