/- Contracts of the reference of layer 1: numbers as digits. -/
import Derived.Test.YtoockgijliacdaaDoorA1
namespace Go.Proofs.YtoockgijliacdaaDoor
open Go.RowKit

def ten : ByteArray := { data := #[48, 49, 50, 51, 52, 53, 54, 55, 56, 57] }
theorem ten_at (k : Nat) (h : k < 10) : ten.extract k (k + 1) = str [dg k] := by
  rcases (by omega : k = 0 ∨ k = 1 ∨ k = 2 ∨ k = 3 ∨ k = 4 ∨ k = 5 ∨ k = 6 ∨ k = 7 ∨ k = 8 ∨ k = 9) with h | h | h | h | h | h | h | h | h | h <;> (subst h; decide +kernel)

theorem str_nil : ({ data := #[] } : ByteArray) = str [] := rfl

/-- The digits behind a place, and those that are left. -/
def Rest (N q : Nat) (t : List UInt8) : Prop := (q ≠ 0 → dec N = dec q ++ t) ∧ (q = 0 → dec N = t)
theorem Rest.step {N q : Nat} {t : List UInt8} (h : Rest N q t) (hq : q ≠ 0) : Rest N (q / 10) (dg (q % 10) :: t) := by
  have h0 := h.1 hq
  by_cases h9 : q < 10
  · refine ⟨fun hc => absurd (by omega : q / 10 = 0) hc, fun _ => ?_⟩
    rw [h0, dec_lt h9, show q % 10 = q by omega]; rfl
  · refine ⟨fun _ => ?_, fun hc => absurd hc (by omega)⟩
    rw [h0, dec_ge (n := q) (by omega)]; simp
theorem Rest.start {N : Nat} (h0 : N ≠ 0) : Rest N N [] := ⟨fun _ => by simp, fun hc => absurd hc h0⟩
theorem Rest.short {N q : Nat} {t : List UInt8} (h : Rest N q t) (hN : N < 10 ^ 19) : (str t).size ≤ 19 := by
  have := dec_short hN
  rw [str_size]
  by_cases hq : q = 0
  · rw [h.2 hq] at this; exact this
  · rw [h.1 hq, List.length_append] at this; omega

set_option maxRecDepth 100000 in
set_option maxHeartbeats 1000000 in
theorem r1Text_any (n : Int) (w : World) (hb : Hid (-9223372036854775808 ≤ n ∧ n ≤ 9223372036854775807)) :
    Calls Tryd.prog 37 #[.int .i64 n] w fun e w' => e = .returned (.string (str (itoa n))) ∧ w = w' := by
  have hfix : Hid (({ data := #[48, 49, 50, 51, 52, 53, 54, 55, 56, 57] } : ByteArray) = ten) := Lib.hid rfl
  rcases (by omega : n = 0 ∨ 0 < n ∨ n < 0) with rfl | hpos | hneg
  · go_enter Tryd.func37, Tryd.ntmps37
    go_wp2
    go_ret
    exact ⟨rfl, rfl⟩
  · obtain ⟨N, rfl⟩ : ∃ N : Nat, n = (N : Int) := ⟨n.natAbs, by omega⟩
    have hne : ((N : Int) == 0) = false := by simp; omega
    have hend := Lib.hid (itoa_pos N)
    have hst := Lib.hid (Rest.start (N := N) (by omega))
    go_enter Tryd.func37, Tryd.ntmps37
    go_wp2
    go_loop [3, 4] (fun s m => ∃ (q : Nat) (t : List UInt8), s = .string (str t) ∧ m = .int .i64 (q : Int) ∧ (q : Int) ≤ (N : Int) ∧ (str t).size ≤ 19 ∧ Hid (Rest N q t)) (fun _ m => (intOf m).toNat)
    case atStart => exact ⟨N, [], rfl, rfl, by omega, by simp [str_size], hst⟩
    case round =>
      obtain ⟨q, t, rfl, rfl, hle, hz, hr⟩ := hrel
      have hN := hb.out
      by_cases hq : q = 0
      · subst hq
        go_wp2
        go_ret
        exact ⟨ret_v (congrArg Value.string (hend.out _ (hr.out.2 rfl))), rfl⟩
      · have hq0 : ((q : Int) != 0) = true := by simp; omega
        have hr' := Lib.hid (hr.out.step hq)
        clear hN
        have hb1 : (q : Int) ≤ 9223372036854775807 := by have := hb.out; omega
        go_wp2
        go_round
        case rel => exact ⟨q / 10, dg (q % 10) :: t, (by rw [hfix.out, ten_at _ (by omega), str_append]; rfl), by go_num, by omega, hr'.out.short (by have := hb.out; omega), hr'⟩
        case measure => simp [intOf]; omega
  · obtain ⟨N, rfl⟩ : ∃ N : Nat, n = -(N : Int) := ⟨n.natAbs, by omega⟩
    have hne : (-(N : Int) == 0) = false := by simp; omega
    have hend := Lib.hid (itoa_neg N (by omega))
    have hst := Lib.hid (Rest.start (N := N) (by omega))
    have hlt : -(N : Int) < 0 := hneg
    go_enter Tryd.func37, Tryd.ntmps37
    go_wp2
    go_loop [3, 4] (fun s m => ∃ (q : Nat) (t : List UInt8), s = .string (str t) ∧ m = .int .i64 (-(q : Int)) ∧ (q : Int) ≤ (N : Int) ∧ (str t).size ≤ 19 ∧ Hid (Rest N q t)) (fun _ m => (-(intOf m)).toNat)
    case atStart => exact ⟨N, [], rfl, rfl, by omega, by simp [str_size], hst⟩
    case round =>
      obtain ⟨q, t, rfl, rfl, hle, hz, hr⟩ := hrel
      by_cases hq : q = 0
      · subst hq
        have hq0 : (-((0 : Nat) : Int) != 0) = false := by simp
        go_wp2
        go_ret
        exact ⟨ret_v (congrArg Value.string (hend.out _ (hr.out.2 rfl))), rfl⟩
      · have hq0 : (-(q : Int) != 0) = true := by simp; omega
        have hr' := Lib.hid (hr.out.step hq)
        have hb1 : (q : Int) ≤ 9223372036854775808 := by have := hb.out; omega
        have hm : (-(q : Int)).tmod 10 = -((q : Int) % 10) := by rw [Int.neg_tmod, IntWalk.rem_in _ _ (by omega)]
        have hdv : (-(q : Int)).tdiv 10 = -((q : Int) / 10) := by rw [Int.neg_tdiv, Int.tdiv_eq_ediv_of_nonneg (by omega)]
        have hmn : q < 10 ^ 19 := by have := hb.out; omega
        go_wp2
        · go_round
          case rel => exact ⟨q / 10, dg (q % 10) :: t, (by rw [hfix.out, ten_at _ (by omega), str_append]; rfl), by go_num, by omega, hr'.out.short (by have := hb.out; omega), hr'⟩
          case measure => simp [intOf]; omega
        · have hle0 : (q : Int) % 10 ≤ 0 := by assumption
          go_round
          case rel => exact ⟨q / 10, dg (q % 10) :: t, (by rw [hfix.out, show (-((q : Int) % 10)).toNat = q % 10 by omega, show (-((q : Int) % 10) + 1).toNat = q % 10 + 1 by omega, ten_at _ (by omega), str_append]; rfl), by go_num, by omega, hr'.out.short (by have := hb.out; omega), hr'⟩
          case measure => simp [intOf]; omega

/-- What the first signs of a text come to, whatever they are. -/
def rv (s : List UInt8) : Int := s.foldl (fun n c => 10 * n + (c.toNat : Int) - 48) 0
theorem rv_take_succ {s : List UInt8} {k : Nat} (h : k < s.length) : rv (s.take (k + 1)) = 10 * rv (s.take k) + (s[k].toNat : Int) - 48 := by
  unfold rv; rw [List.take_succ_eq_append_getElem h, List.foldl_append]; rfl
theorem rv_digits (s : List UInt8) (h : ∀ c ∈ s, 48 ≤ c.toNat) : rv s = (dv s : Int) := by
  unfold rv dv
  suffices ∀ (l : List UInt8) (n : Nat), (∀ c ∈ l, 48 ≤ c.toNat) → l.foldl (fun n c => 10 * n + (c.toNat : Int) - 48) (n : Int) = ((l.foldl (fun n c => 10 * n + (c.toNat - 48)) n : Nat) : Int) from this s 0 h
  intro l
  induction l with
  | nil => intro n _; rfl
  | cons c l ih =>
    intro n hl
    have h1 := hl c (by simp)
    simp only [List.foldl_cons]
    rw [← ih _ (fun c hc => hl c (by simp [hc]))]
    congr 1
    omega
theorem intPair_rv {s : List UInt8} {m : Int} (hm : m = rv (s.take 12)) : (m < 0 ∨ 4294967295 < m ∨ itoa m ≠ s → intPair s = (0, false)) ∧ (0 ≤ m → m ≤ 4294967295 → itoa m = s → intPair s = (m, true)) := by
  constructor
  · intro h
    refine intPair_none (octInt_none.2 fun n hn e => ?_)
    have hd := dec_digits n
    have hl := dec_length n 9 (by omega)
    rw [e] at hd hl
    have h12 : s.take 12 = s := List.take_of_length_le (by omega)
    rw [h12, rv_digits s (fun c hc => (hd c hc).1), ← e, dv_dec] at hm
    subst hm
    rcases h with h | h | h
    · omega
    · omega
    · refine h ?_
      unfold itoa
      rw [if_neg (by omega)]
      simpa using e
  · intro h0 h1 h
    obtain ⟨n, rfl⟩ : ∃ n : Nat, m = (n : Int) := ⟨m.toNat, by omega⟩
    unfold itoa at h
    rw [if_neg (by omega)] at h
    exact intPair_some (octInt_some.2 ⟨by omega, by simpa using h⟩)

set_option maxRecDepth 100000 in
set_option maxHeartbeats 1000000 in
theorem r1Int_any (s : ByteArray) (w : World) (hs : s.size ≤ maxLen) :
    Calls Tryd.prog 62 #[.string s] w fun e w' => e = .returned (.tuple #[.int .i64 (intPair s.data.toList).1, .bool (intPair s.data.toList).2]) ∧ w = w' := by
  unfold maxLen at hs
  have HZ := Lib.hid (size_list s)
  go_enter Tryd.func62, Tryd.ntmps62
  go_wp2
  go_loop [4, 5] (fun n i => ∃ (k : Nat) (m : Int), k ≤ s.size ∧ k ≤ 12 ∧ i = .int .i64 k ∧ n = .int .i64 m ∧ Hid (m = rv (s.data.toList.take k)) ∧ Hid (-6 * (10 ^ k - 1) ≤ m ∧ m ≤ 30 * (10 ^ k - 1))) (fun _ i => 12 - (intOf i).toNat)
  case atStart => exact ⟨0, 0, Nat.zero_le _, by omega, rfl, rfl, Lib.hid (by simp [rv]), Lib.hid (by decide)⟩
  case round =>
    obtain ⟨k, m, hk, hk2, rfl, rfl, hm, hb⟩ := hrel
    obtain ⟨b1, b2⟩ : -6000000000000 ≤ m ∧ m ≤ 30000000000000 := by
      have h := hb.out
      have h1 : (10 : Int) ^ k ≤ 10 ^ 12 := by exact_mod_cast Nat.pow_le_pow_right (n := 10) (by omega) hk2
      omega
    have hend : k = s.size ∨ k = 12 → s.data.toList.take k = s.data.toList.take 12 := by
      rintro (rfl | rfl)
      · rw [List.take_of_length_le (by rw [HZ.out]; omega), List.take_of_length_le (by rw [HZ.out]; omega)]
      · rfl
    have HE := Lib.hid hend
    clear hend
    by_cases hgo : k < s.size ∧ k < 12
    · obtain ⟨hlt, hlt2⟩ := hgo
      have hsucc : Hid (rv (s.data.toList.take (k + 1)) = 10 * rv (s.data.toList.take k) + (s[k].toNat : Int) - 48) := Lib.hid (by rw [rv_take_succ (by rw [HZ.out]; exact hlt)]; rfl)
      have hc1 : (s[k].toNat : Int) ≤ 255 := by have := s[k].toNat_lt; omega
      have h11 : k ≤ 11 := by omega
      go_wp2
      go_round
      case rel =>
        refine ⟨k + 1, 10 * m + (s[k].toNat : Int) - 48, by omega, by omega, by go_num, rfl, Lib.hid (by rw [hsucc.out, ← hm.out]), Lib.hid ?_⟩
        have h := hb.out
        rw [Int.pow_succ]
        omega
      case measure => simp [intOf]; omega
    · have he : k = s.size ∨ k = 12 := by omega
      have hp := Lib.hid (intPair_rv (s := s.data.toList) (m := m) (by rw [hm.out, HE.out he]))
      clear hm hb
      by_cases h0 : m < 0
      · have h0' : decide (m < 0) = true := by simpa using h0
        go_wp2
        all_goals
          go_ret2
          rw [hp.out.1 (.inl h0)]
          exact ⟨rfl, rfl⟩
      · by_cases h1 : 4294967295 < m
        · go_wp2
          all_goals
            go_ret2
            rw [hp.out.1 (.inr (.inl h1))]
            exact ⟨rfl, rfl⟩
        · go_wp2_with fail
          all_goals
            refine (r1Text_any _ w (Lib.hid (by omega))).mono ?_
            rintro e w1 ⟨rfl, rfl⟩
            by_cases he : itoa m = s.data.toList
            · have h2 := Lib.hid (hp.out.2 (by omega) (by omega) he)
              have h3 : ((str (itoa m)).toList == s.toList) = true := by rw [he, str_of]; simp
              clear he
              go_wp2
              go_ret2
              rw [h2.out]
              exact ⟨rfl, rfl⟩
            · have h2 := Lib.hid (hp.out.1 (.inr (.inr he)))
              have h3 : ((str (itoa m)).toList == s.toList) = false := by rw [Lib.toList_data, Lib.toList_data, str_data]; simpa using he
              clear he
              go_wp2
              go_ret2
              rw [h2.out]
              exact ⟨rfl, rfl⟩

end Go.Proofs.YtoockgijliacdaaDoor
