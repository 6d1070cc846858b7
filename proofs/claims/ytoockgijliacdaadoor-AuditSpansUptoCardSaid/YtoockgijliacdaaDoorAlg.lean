/- The example of the statements of audit. -/
import Derived.Test.YtoockgijliacdaaDoorArp
import Derived.Test.YtoockgijliacdaaDoorAsr
import Derived.Lib.SlBytesConst
import Derived.Test.YtoockgijliacdaaDoorAlt
namespace Go.Proofs.YtoockgijliacdaaDoor
open Go.RowKit

def exB : List UInt8 := [49, 48, 46, 48, 46, 48, 46, 48, 47, 56, 32, 102, 114, 111, 109, 32, 48, 10, 77, 79, 82, 69, 32, 49, 10, 69, 82, 82, 32, 99, 117, 114, 115, 111, 114, 10, 69, 78, 68]
theorem exB_aud : audS exB = ⟨[(⟨2, 1, [], 0, 0, 0⟩, [[49, 48, 46, 48, 46, 48, 46, 48, 47, 56, 32, 102, 114, 111, 109, 32, 48]]), (⟨4, 0, [99, 117, 114, 115, 111, 114], 0, 0, 0⟩, [])], [], 36, 36⟩ := by kernel_rfl

set_option maxRecDepth 100000 in
set_option maxHeartbeats 4000000 in
theorem awake_see (w : World) (hd : Digs w) (hm : ML w) :
    Calls Tryd.prog 18 #[] w fun e w' => e = .returned (.bool true) ∧ Fr No w w' := by
  have HD := Lib.hid hd
  have HM := Lib.hid hm
  have F0 : Hid (Fr No w (w.alloc (.cells #[.int .u8 49, .int .u8 48, .int .u8 46, .int .u8 48, .int .u8 46, .int .u8 48, .int .u8 46, .int .u8 48, .int .u8 47, .int .u8 56, .int .u8 32, .int .u8 102, .int .u8 114, .int .u8 111, .int .u8 109, .int .u8 32, .int .u8 48, .int .u8 10, .int .u8 77, .int .u8 79, .int .u8 82, .int .u8 69, .int .u8 32, .int .u8 49, .int .u8 10, .int .u8 69, .int .u8 82, .int .u8 82, .int .u8 32, .int .u8 99, .int .u8 117, .int .u8 114, .int .u8 115, .int .u8 111, .int .u8 114, .int .u8 10, .int .u8 69, .int .u8 78, .int .u8 68] 5 (39, 40)))) := Lib.hid ((Fr.refl _ _).alloc _)
  have S0 : Hid (SlP (fun k => k < (w.alloc (.cells #[.int .u8 49, .int .u8 48, .int .u8 46, .int .u8 48, .int .u8 46, .int .u8 48, .int .u8 46, .int .u8 48, .int .u8 47, .int .u8 56, .int .u8 32, .int .u8 102, .int .u8 114, .int .u8 111, .int .u8 109, .int .u8 32, .int .u8 48, .int .u8 10, .int .u8 77, .int .u8 79, .int .u8 82, .int .u8 69, .int .u8 32, .int .u8 49, .int .u8 10, .int .u8 69, .int .u8 82, .int .u8 82, .int .u8 32, .int .u8 99, .int .u8 117, .int .u8 114, .int .u8 115, .int .u8 111, .int .u8 114, .int .u8 10, .int .u8 69, .int .u8 78, .int .u8 68] 5 (39, 40))).heap.size) (w.alloc (.cells #[.int .u8 49, .int .u8 48, .int .u8 46, .int .u8 48, .int .u8 46, .int .u8 48, .int .u8 46, .int .u8 48, .int .u8 47, .int .u8 56, .int .u8 32, .int .u8 102, .int .u8 114, .int .u8 111, .int .u8 109, .int .u8 32, .int .u8 48, .int .u8 10, .int .u8 77, .int .u8 79, .int .u8 82, .int .u8 69, .int .u8 32, .int .u8 49, .int .u8 10, .int .u8 69, .int .u8 82, .int .u8 82, .int .u8 32, .int .u8 99, .int .u8 117, .int .u8 114, .int .u8 115, .int .u8 111, .int .u8 114, .int .u8 10, .int .u8 69, .int .u8 78, .int .u8 68] 5 (39, 40))) (some ⟨w.heap.size, 0, none⟩) (exB.map bval)) := Lib.hid (fun _ => ⟨w.heap.size, 0, rfl, by simp, fun j u hu => by
    rw [Nat.zero_add, World.cell?_alloc_mark, ← hu]
    have e : (#[.int .u8 49, .int .u8 48, .int .u8 46, .int .u8 48, .int .u8 46, .int .u8 48, .int .u8 46, .int .u8 48, .int .u8 47, .int .u8 56, .int .u8 32, .int .u8 102, .int .u8 114, .int .u8 111, .int .u8 109, .int .u8 32, .int .u8 48, .int .u8 10, .int .u8 77, .int .u8 79, .int .u8 82, .int .u8 69, .int .u8 32, .int .u8 49, .int .u8 10, .int .u8 69, .int .u8 82, .int .u8 82, .int .u8 32, .int .u8 99, .int .u8 117, .int .u8 114, .int .u8 115, .int .u8 111, .int .u8 114, .int .u8 10, .int .u8 69, .int .u8 78, .int .u8 68] : Array Value) = (exB.map bval).toArray := rfl
    rw [e]
    simp⟩)
  have hcv : (convert 39 39 (.slice (some ⟨w.heap.size, 0, none⟩) 39 39)).run Tryd.prog (w.alloc (.cells #[.int .u8 49, .int .u8 48, .int .u8 46, .int .u8 48, .int .u8 46, .int .u8 48, .int .u8 46, .int .u8 48, .int .u8 47, .int .u8 56, .int .u8 32, .int .u8 102, .int .u8 114, .int .u8 111, .int .u8 109, .int .u8 32, .int .u8 48, .int .u8 10, .int .u8 77, .int .u8 79, .int .u8 82, .int .u8 69, .int .u8 32, .int .u8 49, .int .u8 10, .int .u8 69, .int .u8 82, .int .u8 82, .int .u8 32, .int .u8 99, .int .u8 117, .int .u8 114, .int .u8 115, .int .u8 111, .int .u8 114, .int .u8 10, .int .u8 69, .int .u8 78, .int .u8 68] 5)) = .ok (.slice (some ⟨w.heap.size, 0, none⟩) 39 39) (w.alloc (.cells #[.int .u8 49, .int .u8 48, .int .u8 46, .int .u8 48, .int .u8 46, .int .u8 48, .int .u8 46, .int .u8 48, .int .u8 47, .int .u8 56, .int .u8 32, .int .u8 102, .int .u8 114, .int .u8 111, .int .u8 109, .int .u8 32, .int .u8 48, .int .u8 10, .int .u8 77, .int .u8 79, .int .u8 82, .int .u8 69, .int .u8 32, .int .u8 49, .int .u8 10, .int .u8 69, .int .u8 82, .int .u8 82, .int .u8 32, .int .u8 99, .int .u8 117, .int .u8 114, .int .u8 115, .int .u8 111, .int .u8 114, .int .u8 10, .int .u8 69, .int .u8 78, .int .u8 68] 5 (39, 40))) := Lib.run_convert_bytes_const w 39 5 _ 39 39 Tryd.underlying39 Tryd.underlying5
  clear hd hm
  go_enter Tryd.func18, Tryd.ntmps18
  go_wp2_with fail
  refine (replies_any _ (some ⟨w.heap.size, 0, none⟩) 39 exB (by decide) (by decide) (by decide) S0.out (HD.out.keep F0.out) (HM.out.keep F0.out id)).mono ?_
  rintro e w1 ⟨A, c, cells, rfl, hc1, hc2, hsl, hrc, f1⟩
  have F1 := Lib.hid (F0.out.trans f1)
  have e36 : ((exB.length : Int) - ((audS exB).end_ : Int)) = 3 := by rw [exB_aud]; rfl
  rw [e36]
  clear e36
  rw [exB_aud] at hc1 hrc ⊢
  obtain ⟨b1, o1, B1, d1, hA, _, g1, _, _, x0, x1, x2, x3, x4, x5, x6⟩ := rpl_at hsl hrc (k := 0) rfl
  obtain ⟨b2, o2, B2, d2, hA2, _, g2, _, _, y0, y1, y2, y3, y4, y5, y6⟩ := rpl_at hsl hrc (k := 1) rfl
  subst hA
  injection hA2 with e
  injection e with e1 e2
  subst e1 e2
  clear g1 g2 hrc hsl f1 x4 x5 x6 y4 y5 y6 y1 y2 x3
  rw [show o1 + 0 * 7 = o1 by omega] at x0 x1 x2
  rw [show o1 + 1 * 7 = o1 + 7 by omega] at y0 y3
  have qc : ((str [99, 117, 114, 115, 111, 114]).toList == [99, 117, 114, 115, 111, 114]) = true := by rw [str_eq]; rfl
  go_wp2_with fail
  clear x0 x1 x2 y0 y3 hcv qc hc1 hc2 S0 F0 HD HM
  refine (legal_two _ w1.heap.size (Blk.new w1 102 facts2)).mono ?_
  rintro e w2 ⟨rfl, f2⟩
  have F2 := Lib.hid ((F1.out.alloc (.cells facts2 102)).trans f2)
  clear f2
  go_wp2
  go_ret
  exact ⟨rfl, F2.out⟩
end Go.Proofs.YtoockgijliacdaaDoor
