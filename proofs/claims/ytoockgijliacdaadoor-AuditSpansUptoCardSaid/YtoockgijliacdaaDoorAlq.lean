/- Contracts: the same lines; the same replies. -/
import Derived.Test.YtoockgijliacdaaDoorArc
namespace Go.Proofs.YtoockgijliacdaaDoor
open Go.RowKit

theorem slp_at {S : Nat → Prop} {w : World} {A : Option Addr} {xs : List Value} (h : SlP S w A xs) {k : Nat} {u : Value} (hk : xs[k]? = some u) : ∃ b o, A = some ⟨b, o, none⟩ ∧ S b ∧ w.cell? ⟨b, o + k, none⟩ = some u := by
  obtain ⟨b, o, e, hb, hc⟩ := h (by rintro rfl; simp at hk)
  exact ⟨b, o, e, hb, hc k u hk⟩

set_option maxRecDepth 100000 in
set_option maxHeartbeats 1000000 in
theorem lines_eq {S1 S2 : Nat → Prop} (w : World) (A1 A2 : Option Addr) (c1 c2 : Nat) (ls : List (List UInt8)) (h1 : SlP S1 w A1 (ls.map strV)) (h2 : SlP S2 w A2 (ls.map strV)) (hl : ls.length ≤ 6000) :
    Calls Tryd.prog 45 #[.slice A1 ls.length c1, .slice A2 ls.length c2] w fun e w' => e = .returned (.bool true) ∧ Drawn w w' := by
  have H1 := Lib.hid h1
  have H2 := Lib.hid h2
  obtain ⟨n, hn⟩ : ∃ n, ls.length = n := ⟨_, rfl⟩
  rw [hn] at hl ⊢
  have HN := Lib.hid hn
  have hl2 : (n : Int) ≤ 6000 := by omega
  clear h1 h2 hn hl
  go_enter Tryd.func45, Tryd.ntmps45
  go_wp2_with fail
  go_loopw [5] (fun i wr => ∃ k : Nat, k ≤ n ∧ i = .int .i64 (k : Int) ∧ Hid (Drawn w wr)) (fun i _ => n - (intOf i).toNat)
  case atStart => exact ⟨0, Nat.zero_le _, rfl, Lib.hid (Drawn.refl _)⟩
  case round =>
    obtain ⟨k, hk, rfl, hI⟩ := hrel
    by_cases hlt : k < n
    · obtain ⟨x, hx⟩ : ∃ x, ls[k]? = some x := ⟨ls[k]'(by rw [HN.out]; exact hlt), List.getElem?_eq_getElem _⟩
      have d1 : SlP S1 wr A1 (ls.map strV) := by obtain ⟨m, e⟩ := hI.out; rw [e]; exact H1.out
      have d2 : SlP S2 wr A2 (ls.map strV) := by obtain ⟨m, e⟩ := hI.out; rw [e]; exact H2.out
      obtain ⟨b1, o1, rfl, _, g1⟩ := slp_at d1 (k := k) (u := .string (str x)) (by rw [List.getElem?_map, hx]; rfl)
      obtain ⟨b2, o2, rfl, _, g2⟩ := slp_at d2 (k := k) (u := .string (str x)) (by rw [List.getElem?_map, hx]; rfl)
      have q : ((str x).toList != (str x).toList) = false := by simp
      clear d1 d2 hx
      go_wp2_with fail
      go_quiet (fail)
      go_wp2
      go_roundw
      case rel => exact ⟨k + 1, by omega, by go_num, Lib.hid (hI.out.step _)⟩
      case measure => simp [intOf]; omega
    · go_wp2
      go_ret
      exact ⟨rfl, hI.out⟩

end Go.Proofs.YtoockgijliacdaaDoor
