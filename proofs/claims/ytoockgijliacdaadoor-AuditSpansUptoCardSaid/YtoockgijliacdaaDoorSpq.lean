/- Contract: the same spans. -/
import Derived.Test.YtoockgijliacdaaDoorSpp
namespace Go.Proofs.YtoockgijliacdaaDoor
open Go.RowKit

theorem spanC_at {l : List (Int × Int × Int)} {k : Nat} {x : Int × Int × Int} (hk : l[k]? = some x) (j : Nat) (hj : j < 3) : (spanC l)[3 * k + j]? = [Value.int .u32 x.1, .int .i64 x.2.1, .int .i64 x.2.2][j]? := by
  induction l generalizing k with
  | nil => simp at hk
  | cons y t ih =>
    have e : spanC (y :: t) = [Value.int .u32 y.1, .int .i64 y.2.1, .int .i64 y.2.2] ++ spanC t := rfl
    cases k with
    | zero =>
      simp at hk; subst hk
      rw [e, Nat.mul_zero, Nat.zero_add, List.getElem?_append_left (by simpa using hj)]
    | succ k =>
      simp at hk
      rw [e, List.getElem?_append_right (by simp; omega), show 3 * (k + 1) + j - [Value.int .u32 y.1, .int .i64 y.2.1, .int .i64 y.2.2].length = 3 * k + j by simp; omega]
      exact ih hk
theorem span_at {S : Nat → Prop} {w : World} {A : Option Addr} {l : List (Int × Int × Int)} (h : SlP S w A (spanC l)) {k : Nat} {x : Int × Int × Int} (hk : l[k]? = some x) :
    ∃ b o, A = some ⟨b, o, none⟩ ∧ S b ∧ w.cell? ⟨b, o + k * 3, none⟩ = some (.int .u32 x.1) ∧ w.cell? ⟨b, o + k * 3 + 1, none⟩ = some (.int .i64 x.2.1) ∧ w.cell? ⟨b, o + k * 3 + 2, none⟩ = some (.int .i64 x.2.2) := by
  obtain ⟨b, o, e, hb, hc⟩ := h (by intro e; have := spanC_at hk 0 (by omega); rw [e] at this; cases this)
  refine ⟨b, o, e, hb, ?_, ?_, ?_⟩
  · have := hc _ _ (spanC_at hk 0 (by omega)); rw [show o + (3 * k + 0) = o + k * 3 by omega] at this; exact this
  · have := hc _ _ (spanC_at hk 1 (by omega)); rw [show o + (3 * k + 1) = o + k * 3 + 1 by omega] at this; exact this
  · have := hc _ _ (spanC_at hk 2 (by omega)); rw [show o + (3 * k + 2) = o + k * 3 + 2 by omega] at this; exact this

theorem SlP.drawn {S : Nat → Prop} {w w1 : World} {A : Option Addr} {xs : List Value} (h : SlP S w A xs) (hd : Drawn w w1) : SlP S w1 A xs := by
  obtain ⟨m, rfl⟩ := hd
  exact h

set_option maxRecDepth 100000 in
set_option maxHeartbeats 2000000 in
theorem spansame_any {S1 S2 : Nat → Prop} (w : World) (A1 A2 : Option Addr) (c1 c2 : Nat) (l : List (Int × Int × Int)) (h1 : SlP S1 w A1 (spanC l)) (h2 : SlP S2 w A2 (spanC l)) (hl : l.length ≤ 60) :
    Calls Tryd.prog 25 #[.slice A1 l.length c1, .slice A2 l.length c2] w fun e w' => e = .returned (.bool true) ∧ Drawn w w' := by
  have H1 := Lib.hid h1
  have H2 := Lib.hid h2
  obtain ⟨n, hn⟩ : ∃ n, l.length = n := ⟨_, rfl⟩
  rw [hn] at hl ⊢
  have HN := Lib.hid hn
  have hl2 : (n : Int) ≤ 60 := by omega
  clear h1 h2 hn hl
  go_enter Tryd.func25, Tryd.ntmps25
  go_wp2_with fail
  go_loopw [5] (fun i wr => ∃ k : Nat, k ≤ n ∧ i = .int .i64 (k : Int) ∧ Hid (Drawn w wr)) (fun i _ => n - (intOf i).toNat)
  case atStart => exact ⟨0, Nat.zero_le _, rfl, Lib.hid (Drawn.refl _)⟩
  case round =>
    obtain ⟨k, hk, rfl, hI⟩ := hrel
    by_cases hlt : k < n
    · obtain ⟨⟨a1, a2, a3⟩, hx⟩ : ∃ x, l[k]? = some x := ⟨l[k]'(by rw [HN.out]; exact hlt), List.getElem?_eq_getElem _⟩
      obtain ⟨b1, o1, rfl, _, x0, x1, x2⟩ := span_at (H1.out.drawn hI.out) hx
      obtain ⟨b2, o2, rfl, _, y0, y1, y2⟩ := span_at (H2.out.drawn hI.out) hx
      simp only at x0 x1 x2 y0 y1 y2
      clear hx
      go_wp2_with fail
      go_quiet (fail)
      go_wp2
      go_roundw
      case rel => exact ⟨k + 1, by omega, by go_num, Lib.hid (hI.out.step _)⟩
      case measure => simp [intOf]; omega
    · go_wp2
      go_ret
      exact ⟨rfl, hI.out⟩

end Go.Proofs.YtoockgijliacdaaDoor
